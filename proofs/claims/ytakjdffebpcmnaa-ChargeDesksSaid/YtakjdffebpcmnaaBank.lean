/- The walks of ranged, Right, pay, Same. -/
import Derived.Test.YtakjdffebpcmnaaFrame
import Derived.Test.YtakjdffebpcmnaaPure
namespace Go.Proofs.Ytakjdffebpcmnaa
open Go.RowKit Go.Maps
def vP (p : P3) : Value := .agg #[.int .i64 p.1, .int .i64 p.2.1, .int .i64 p.2.2]
theorem right_no {p : P3} (h : ¬ (1 ≤ p.1 ∧ p.1 ≤ 1000000 ∧ 0 ≤ p.2.1 ∧ p.2.1 < 128 ∧ 0 ≤ p.2.2 ∧ p.2.2 ≤ 1000000000000)) : rightB p = false := decide_eq_false h
theorem right_yes {p : P3} (h : 1 ≤ p.1 ∧ p.1 ≤ 1000000 ∧ 0 ≤ p.2.1 ∧ p.2.1 < 128 ∧ 0 ≤ p.2.2 ∧ p.2.2 ≤ 1000000000000) : rightB p = true := decide_eq_true h

set_option maxHeartbeats 1000000 in
theorem right31 (a b c : Int) (w : World) : Calls Try.prog 31 #[.agg #[.int .i64 a, .int .i64 b, .int .i64 c]] w (RetB w (rightB (a, b, c))) := by
  by_cases h : 1 ≤ a ∧ a ≤ 1000000 ∧ 0 ≤ b ∧ b < 128 ∧ 0 ≤ c ∧ c ≤ 1000000000000
  · have HE := Lib.hid (right_yes (p := (a, b, c)) h)
    obtain ⟨h1, h2, h3, h4, h5, h6⟩ := h
    go_enter Try.func31, Try.ntmps31
    go_wp2_with fail
    go_ret
    exact ⟨ret_bool (by first | exact HE.out.symm | (rw [HE.out]; exact decide_eq_false (by omega))), (Below.refl _ _).alloc (Nat.le_refl _) _⟩
  · have HE := Lib.hid (right_no (p := (a, b, c)) h)
    have hc : a < 1 ∨ (1 ≤ a ∧ 1000000 < a) ∨ (1 ≤ a ∧ a ≤ 1000000 ∧ b < 0) ∨ (1 ≤ a ∧ a ≤ 1000000 ∧ 0 ≤ b ∧ 128 ≤ b) ∨ (1 ≤ a ∧ a ≤ 1000000 ∧ 0 ≤ b ∧ b < 128 ∧ c < 0) ∨ (1 ≤ a ∧ a ≤ 1000000 ∧ 0 ≤ b ∧ b < 128 ∧ 0 ≤ c ∧ 1000000000000 < c) := by omega
    clear h
    rcases hc with h1 | ⟨h1, h2⟩ | ⟨h1, h2, h3⟩ | ⟨h1, h2, h3, h4⟩ | ⟨h1, h2, h3, h4, h5⟩ | ⟨h1, h2, h3, h4, h5, h6⟩
    all_goals
      go_enter Try.func31, Try.ntmps31
      go_wp2_with fail
      go_ret
      exact ⟨ret_bool (by first | exact HE.out.symm | (rw [HE.out]; exact decide_eq_false (by omega))), (Below.refl _ _).alloc (Nat.le_refl _) _⟩

set_option maxHeartbeats 1000000 in
theorem right13 (a b c : Int) (w : World) : Calls Try.prog 13 #[.agg #[.int .i64 a, .int .i64 b, .int .i64 c]] w (RetB w (rightB (a, b, c))) := by
  by_cases h : 1 ≤ a ∧ a ≤ 1000000 ∧ 0 ≤ b ∧ b < 128 ∧ 0 ≤ c ∧ c ≤ 1000000000000
  · have HE := Lib.hid (right_yes (p := (a, b, c)) h)
    obtain ⟨h1, h2, h3, h4, h5, h6⟩ := h
    go_enter Try.func13, Try.ntmps13
    go_wp2_with fail
    go_ret
    exact ⟨ret_bool (by first | exact HE.out.symm | (rw [HE.out]; exact decide_eq_false (by omega))), (Below.refl _ _).alloc (Nat.le_refl _) _⟩
  · have HE := Lib.hid (right_no (p := (a, b, c)) h)
    have hc : a < 1 ∨ (1 ≤ a ∧ 1000000 < a) ∨ (1 ≤ a ∧ a ≤ 1000000 ∧ b < 0) ∨ (1 ≤ a ∧ a ≤ 1000000 ∧ 0 ≤ b ∧ 128 ≤ b) ∨ (1 ≤ a ∧ a ≤ 1000000 ∧ 0 ≤ b ∧ b < 128 ∧ c < 0) ∨ (1 ≤ a ∧ a ≤ 1000000 ∧ 0 ≤ b ∧ b < 128 ∧ 0 ≤ c ∧ 1000000000000 < c) := by omega
    clear h
    rcases hc with h1 | ⟨h1, h2⟩ | ⟨h1, h2, h3⟩ | ⟨h1, h2, h3, h4⟩ | ⟨h1, h2, h3, h4, h5⟩ | ⟨h1, h2, h3, h4, h5, h6⟩
    all_goals
      go_enter Try.func13, Try.ntmps13
      go_wp2_with fail
      go_ret
      exact ⟨ret_bool (by first | exact HE.out.symm | (rw [HE.out]; exact decide_eq_false (by omega))), (Below.refl _ _).alloc (Nat.le_refl _) _⟩

theorem pay_any (a b : Int) (w : World) : Calls Try.prog 12 #[.int .i64 a, .int .i64 b] w fun e w' => e = .returned (.agg #[.int .i64 a, .int .i64 1, .int .i64 b]) ∧ Below w.heap.size w w' := by
  go_enter Try.func12, Try.ntmps12
  go_wp2_with fail
  exact bodyPost_ret (v := .agg #[.int .i64 a, .int .i64 1, .int .i64 b]) (by simp [results, Try.results12, go_sem]) rfl ⟨rfl, (Below.refl _ _).alloc (Nat.le_refl _) _⟩

theorem p3_ext {p q : P3} (h0 : (p.1 == q.1) = true) (h1 : (p.2.1 == q.2.1) = true) (h2 : (p.2.2 == q.2.2) = true) : p = q := by
  obtain ⟨a, b, c⟩ := p; obtain ⟨d, e, f⟩ := q
  simp only [beq_iff_eq] at h0 h1 h2; subst h0 h1 h2; rfl
/-- Two payments differ in the first number, or the second, or the third. -/
theorem p3_cases {p q : P3} (h : p ≠ q) : (p.1 == q.1) = false ∨ ((p.1 == q.1) = true ∧ (p.2.1 == q.2.1) = false) ∨ ((p.1 == q.1) = true ∧ (p.2.1 == q.2.1) = true ∧ (p.2.2 == q.2.2) = false) := by
  rcases e0 : (p.1 == q.1) with _ | _
  · exact .inl rfl
  rcases e1 : (p.2.1 == q.2.1) with _ | _
  · exact .inr (.inl ⟨rfl, rfl⟩)
  rcases e2 : (p.2.2 == q.2.2) with _ | _
  · exact .inr (.inr ⟨rfl, rfl, rfl⟩)
  exact absurd (p3_ext e0 e1 e2) h
/-- What the program's comparison of two payments says. -/
theorem run_eq23 (p q : P3) (w : World) : (Op.equalIn 10000 23 (vP p) (vP q)).run Try.prog w = .ok (decide (p = q)) w := by
  by_cases h : p = q
  · subst h
    rw [decide_eq_true rfl]
    simp [vP, go_sem]
    done
  · rw [decide_eq_false h]
    rcases p3_cases h with h0 | ⟨h0, h1⟩ | ⟨h0, h1, h2⟩
    · simp [vP, go_sem, h0]
      done
    · simp [vP, go_sem, h0, h1]
      done
    · simp [vP, go_sem, h0, h1, h2]
      done
theorem eq23 (a b c d e f : Int) (w : World) : (Op.equalIn 10000 23 (.agg #[.int .i64 a, .int .i64 b, .int .i64 c]) (.agg #[.int .i64 d, .int .i64 e, .int .i64 f])).run Try.prog w = .ok (decide (((a, b, c) : P3) = (d, e, f))) w := run_eq23 (a, b, c) (d, e, f) w

end Go.Proofs.Ytakjdffebpcmnaa
