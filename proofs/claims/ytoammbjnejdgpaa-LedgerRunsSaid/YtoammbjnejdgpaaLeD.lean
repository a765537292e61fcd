/- The walk of LedgerNews. -/
import Derived.Test.YtoammbjnejdgpaaLeC
namespace Go.Proofs.Ytoammbjnejdgpaa
open Go.RowKit
theorem psr_nil (w : World) : PsR w none 0 [] := ⟨Reads.none_, fun _ hp => nomatch hp⟩
set_option maxHeartbeats 4000000 in
set_option maxRecDepth 10000 in
theorem ledgerNews_walk (acc a t : Int) (w : World) : Calls Try.prog 3 #[.int .i64 acc, .int .i64 a, .int .i64 t] w (RetB w true) := by
  go_enter Try.func3, Try.ntmps3
  go_wp2_with fail
  refine (new_any acc _).mono ?_
  intro e w1 hh
  unfold RetNew at hh
  by_cases h0 : acc < 2 ∨ 64 < acc
  · rw [if_pos h0] at hh
    obtain ⟨rfl, rfl⟩ := hh
    go_wp2_with fail
    refine (rnew_any acc _).mono ?_
    rintro e w2 ⟨⟨x, _, rfl⟩, hb2⟩
    rw [if_pos h0]
    have HB2 := Lib.hid hb2
    clear hb2 h0
    go_wp2_with fail
    have HB3 : Hid (Below w.heap.size w (w2.alloc (.cells #[.int .i64 x, .slice none 0 0, .slice none 0 0] 29))) := Lib.hid (HB2.out.alloc HB2.out.size _)
    refine (postings_nil _).mono ?_
    rintro e w3 ⟨rfl, rfl⟩
    go_wp2_with fail
    refine (balance_nil a t _).mono ?_
    rintro e w4 ⟨rfl, rfl⟩
    go_wp2_with fail
    refine (awake_any _).mono ?_
    rintro e wA ⟨rfl, hbA⟩
    go_wp2_with fail
    go_ret
    exact ⟨rfl, below_next HB3.out (Nat.le_refl _) hbA⟩
  · rw [if_neg h0] at hh
    obtain ⟨rfl, rfl⟩ := hh
    obtain ⟨w1, hw1⟩ : ∃ u, w.alloc (.cells #[.int .i64 acc, .slice none 0 0] 62) = u := ⟨_, rfl⟩
    have hb1 : Below w.heap.size w (w.alloc (.cells #[.int .i64 acc, .slice none 0 0] 62)) := (Below.refl _ _).alloc (Nat.le_refl _) _
    have hl1 := new_ld acc w
    rw [hw1] at hb1 hl1 ⊢
    have HB1 := Lib.hid hb1; have HL1 := Lib.hid hl1
    clear hw1 hb1 hl1
    go_wp2_with fail
    refine (rnew_any acc _).mono ?_
    rintro e w2 ⟨⟨x, hx, rfl⟩, hb2⟩
    rw [if_neg h0]
    obtain rfl := hx h0
    have HB2 := Lib.hid (below_next HB1.out (Nat.le_refl _) hb2)
    have HL2 := Lib.hid (HL1.out.below hb2)
    clear hb2 h0 hx
    go_wp2_with fail
    obtain ⟨X0, hbx⟩ := box1 w2 29 #[.int .i64 x, .slice none 0 0, .slice none 0 0]
    obtain ⟨w3, hw3⟩ : ∃ u, w2.alloc (.cells #[.int .i64 x, .slice none 0 0, .slice none 0 0] 29) = u := ⟨_, rfl⟩
    rw [hw3] at X0 hbx ⊢
    have HX0 := Lib.hid X0
    have HB3 := Lib.hid (below_next HB2.out (Nat.le_refl _) hbx)
    have HL3 := Lib.hid (HL2.out.below hbx)
    clear hw3 hbx X0
    refine (postings_any _ _ _ x [] _ HL3.out (fine_nil x)).mono ?_
    rintro e w4 ⟨A4, m4, k4, ps4, rfl, hm4, _, hb4⟩
    obtain rfl : m4 = 0 := hm4
    have HB4 := Lib.hid (below_next HB3.out (Nat.le_refl _) hb4)
    have HL4 := Lib.hid (HL3.out.below hb4)
    have HX4 := Lib.hid (ofB HX0.out hb4)
    clear hb4
    obtain ⟨Y, hY⟩ : ∃ Y, balE x a t = Y := ⟨_, rfl⟩
    obtain ⟨X, hX⟩ : ∃ X, balX x [] a t = X := ⟨_, rfl⟩
    have HY := Lib.hid hY; have HX := Lib.hid hX
    clear hX hY
    go_wp2_with fail
    refine (balance_any _ _ _ x [] a t X Y _ HL4.out (fine_nil x) HY.out HX.out).mono ?_
    rintro e w5 ⟨rfl, hb5⟩
    have HB5 := Lib.hid (below_next HB4.out (Nat.le_refl _) hb5)
    have X5 := ofB HX4.out hb5
    have q0 := (X5.cell 0).trans rfl; have q1 := (X5.cell 1).trans rfl; have q2 := (X5.cell 2).trans rfl
    clear hb5 X5
    go_wp2_with fail
    refine (rbalance_any x none 0 0 none 0 0 [] [] a t X Y _ (psr_nil _) rfl (fine_nil x) HY.out HX.out).mono ?_
    rintro e w6 ⟨rfl, hb6⟩
    have HB6 := Lib.hid (below_next HB5.out (Nat.le_refl _) hb6)
    have xx : (X == X) = true := by simp
    have yy : (Y == Y) = true := by simp
    clear hb6
    go_wp2_with fail
    refine (awake_any _).mono ?_
    rintro e wA ⟨rfl, hbA⟩
    go_wp2_with fail
    go_ret
    exact ⟨rfl, below_next HB6.out (Nat.le_refl _) hbA⟩
end Go.Proofs.Ytoammbjnejdgpaa
