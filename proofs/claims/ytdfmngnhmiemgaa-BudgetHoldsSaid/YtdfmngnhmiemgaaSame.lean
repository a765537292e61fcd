/- The walks of the reference's Same and of the statement's touches. -/
import Derived.Test.YtdfmngnhmiemgaaCheck
namespace Go.Proofs.Ytdfmngnhmiemgaa
open Go.RowKit Go.Maps
def sameB (l m : List Sp) : Bool := decide (l = m)
theorem same_len {l m : List Sp} (h : l.length ≠ m.length) : sameB l m = false := decide_eq_false fun e => h (by rw [e])
theorem same_at {l m : List Sp} {k : Nat} (hl : k < l.length) (hm : k < m.length) (h : l[k] ≠ m[k]) : sameB l m = false := decide_eq_false fun e => by subst e; exact h rfl
theorem same_all {l m : List Sp} (h : l.length = m.length) (ha : ∀ j (hj : j < l.length), l[j] = m[j]'(by omega)) : sameB l m = true := decide_eq_true (List.ext_getElem h fun i h1 _ => ha i h1)

set_option maxHeartbeats 1000000 in
set_option maxRecDepth 10000 in
theorem same_any (A A' : Option Addr) (n c n' c' : Nat) (l m : List Sp) (B B' : Nat) (w : World) (hr : Reads w B 2 A n (cellsS l)) (hr' : Reads w B' 2 A' n' (cellsS m)) (hn : n ≤ 100000) :
    Calls Try.prog 16 #[.slice A n c, .slice A' n' c'] w fun e w' => e = .returned (.bool (sameB l m)) ∧ ∃ q, w' = w.drewN q := by
  have HL := Lib.hid (recs_len hr encS_len (by omega))
  have HM := Lib.hid (recs_len hr' encS_len (by omega))
  by_cases hnn : n = n'
  · have hb : ((n : Int) != n') = false := by simp [hnn]
    have HNN := Lib.hid hnn
    clear hnn
    go_enter Try.func16, Try.ntmps16
    go_wp2_with fail
    go_loopw [5] (fun j wr => ∃ (k q : Nat), k ≤ n ∧ j = .int .i64 k ∧ (∀ j (hj : j < l.length) (hj' : j < m.length), j < k → l[j] = m[j]) ∧ wr = w.drewN q) (fun j _ => n - (intOf j).toNat)
    case atStart => exact ⟨0, 0, Nat.zero_le _, rfl, fun _ _ _ h => absurd h (Nat.not_lt_zero _), rfl⟩
    case round =>
      obtain ⟨k, q, hk, rfl, hall, rfl⟩ := hrel
      have HA := Lib.hid hall
      clear hall
      by_cases hlt : k < n
      · obtain ⟨b, off, rfl, hb1, hc⟩ := hr.recs encS_len (by omega) (by omega)
        obtain ⟨b', off', rfl, hb2, hc'⟩ := hr'.recs encS_len (by omega) (by have := HNN.out; omega)
        have hkl : k < l.length := by have := HL.out; omega
        have hkm : k < m.length := by have := HM.out; have := HNN.out; omega
        have c0 : w.cell? ⟨b, off + k * 2, none⟩ = some (.int .i64 l[k].1) := hc k hkl 0 _ rfl
        have c1 : w.cell? ⟨b, off + k * 2 + 1, none⟩ = some (.int .i64 l[k].2) := hc k hkl 1 _ rfl
        have d0 : w.cell? ⟨b', off' + k * 2, none⟩ = some (.int .i64 m[k].1) := hc' k hkm 0 _ rfl
        have d1 : w.cell? ⟨b', off' + k * 2 + 1, none⟩ = some (.int .i64 m[k].2) := hc' k hkm 1 _ rfl
        have hk1 : (k : Int) < n := by omega
        have hk2 : (k : Int) < n' := by have := HNN.out; omega
        have hk0 : (0 : Int) ≤ k := by omega
        clear hc hc'
        by_cases he : l[k] = m[k]
        · have e1 : (l[k].1 == m[k].1) = true := by rw [he]; simp
          have e2 : (l[k].2 == m[k].2) = true := by rw [he]; simp
          have HE := Lib.hid he
          clear he
          go_wp2_with fail
          go_quiet (fail)
          go_wp2_with fail
          go_roundw
          case rel =>
            refine ⟨k + 1, _, by omega, by go_num, fun j hj hj' hjk => ?_, rfl⟩
            rcases Nat.lt_or_eq_of_le (Nat.lt_succ_iff.1 hjk) with h' | rfl
            · exact HA.out j hj hj' h'
            · exact HE.out
          case measure => simp [intOf]; omega
        · have HE := Lib.hid (same_at hkl hkm he)
          rcases e1 : (l[k].1 == m[k].1) with _ | _
          · clear he
            go_wp2_with fail
            go_quiet (fail)
            go_wp2_with fail
            go_ret
            exact ⟨ret_bool HE.out.symm, q + nq, by rw [World.drewN_drewN]⟩
          · have e2 : (l[k].2 == m[k].2) = false := by
              rw [beq_eq_false_iff_ne]
              intro h2
              exact he (Prod.ext (beq_iff_eq.1 e1) h2)
            clear he
            go_wp2_with fail
            go_quiet (fail)
            go_wp2_with fail
            go_ret
            exact ⟨ret_bool HE.out.symm, q + nq, by rw [World.drewN_drewN]⟩
      · have HE := Lib.hid (same_all (l := l) (m := m) (by have := HL.out; have := HM.out; have := HNN.out; omega) fun j hj => HA.out j hj _ (by have := HL.out; omega))
        go_wp2_with fail
        go_ret
        exact ⟨ret_bool HE.out.symm, _, rfl⟩
  · have hb : ((n : Int) != n') = true := by simp; omega
    have HE : Hid (sameB l m = false) := Lib.hid (same_len (by have := HL.out; have := HM.out; omega))
    clear hnn
    go_enter Try.func16, Try.ntmps16
    go_wp2_with fail
    go_ret
    exact ⟨ret_bool HE.out.symm, 0, rfl⟩

/-- touches. -/
def touchB (a b day : Int) : Bool := decide (a < b ∧ a < (day + 1) * 86400 ∧ day * 86400 < b)
set_option maxHeartbeats 400000 in
theorem touches_any (a b day : Int) (w : World) (h0 : 0 ≤ day) (h1 : day ≤ 49709) :
    Calls Try.prog 19 #[.agg #[.int .i64 a, .int .i64 b], .int .i64 day] w (RetB w (touchB a b day)) := by
  have hcs : ¬ a < b ∨ (a < b ∧ ¬ a < (day + 1) * 86400) ∨ (a < b ∧ a < (day + 1) * 86400 ∧ ¬ day * 86400 < b) ∨ (a < b ∧ a < (day + 1) * 86400 ∧ day * 86400 < b) := by omega
  rcases hcs with g1 | ⟨g1, g2⟩ | ⟨g1, g2, g3⟩ | ⟨g1, g2, g3⟩
  · have HE : Hid (touchB a b day = false) := Lib.hid (decide_eq_false (by omega))
    go_enter Try.func19, Try.ntmps19
    go_wp2_with fail
    go_ret
    exact ⟨ret_bool HE.out.symm, (Below.refl _ _).alloc (Nat.le_refl _) _⟩
  · have HE : Hid (touchB a b day = false) := Lib.hid (decide_eq_false (by omega))
    go_enter Try.func19, Try.ntmps19
    go_wp2_with fail
    go_ret
    exact ⟨ret_bool HE.out.symm, (Below.refl _ _).alloc (Nat.le_refl _) _⟩
  · have HE : Hid (touchB a b day = false) := Lib.hid (decide_eq_false (by omega))
    go_enter Try.func19, Try.ntmps19
    go_wp2_with fail
    go_ret
    exact ⟨ret_bool (by rw [HE.out]), (Below.refl _ _).alloc (Nat.le_refl _) _⟩
  · have HE : Hid (touchB a b day = true) := Lib.hid (decide_eq_true (by omega))
    go_enter Try.func19, Try.ntmps19
    go_wp2_with fail
    go_ret
    exact ⟨ret_bool (by rw [HE.out]), (Below.refl _ _).alloc (Nat.le_refl _) _⟩
end Go.Proofs.Ytdfmngnhmiemgaa
