/- The walk of the reference's Same. -/
import Derived.Test.YtakjdffebpcmnaaBank
namespace Go.Proofs.Ytakjdffebpcmnaa
open Go.RowKit Go.Maps
set_option maxHeartbeats 1000000 in
set_option maxRecDepth 10000 in
theorem same_any (A A' : Option Addr) (n c n' c' : Nat) (l m : List P3) (B B' : Nat) (w : World) (hr : Reads w B 3 A n (cellsP l)) (hr' : Reads w B' 3 A' n' (cellsP m)) (hn : n ≤ 100000) :
    Calls Try.prog 30 #[.slice A n c, .slice A' n' c'] w fun e w' => e = .returned (.bool (sameB l m)) ∧ ∃ q, w' = w.drewN q := by
  have HL := Lib.hid (recs_len hr encP_len (by omega))
  have HM := Lib.hid (recs_len hr' encP_len (by omega))
  by_cases hnn : n = n'
  · have hb : ((n : Int) != n') = false := by simp [hnn]
    have HNN := Lib.hid hnn
    clear hnn
    go_enter Try.func30, Try.ntmps30
    go_wp2_with fail
    go_loopw [5] (fun j wr => ∃ (k q : Nat), k ≤ n ∧ j = .int .i64 k ∧ (∀ j (hj : j < l.length) (hj' : j < m.length), j < k → l[j] = m[j]) ∧ wr = w.drewN q) (fun j _ => n - (intOf j).toNat)
    case atStart => exact ⟨0, 0, Nat.zero_le _, rfl, fun _ _ _ h => absurd h (Nat.not_lt_zero _), rfl⟩
    case round =>
      obtain ⟨k, q, hk, rfl, hall, rfl⟩ := hrel
      have HA := Lib.hid hall
      clear hall
      by_cases hlt : k < n
      · obtain ⟨b, off, rfl, hb1, hc⟩ := hr.recs encP_len (by omega) (by omega)
        obtain ⟨b', off', rfl, hb2, hc'⟩ := hr'.recs encP_len (by omega) (by have := HNN.out; omega)
        have hkl : k < l.length := by have := HL.out; omega
        have hkm : k < m.length := by have := HM.out; have := HNN.out; omega
        have c0 : w.cell? ⟨b, off + k * 3, none⟩ = some (.int .i64 l[k].1) := hc k hkl 0 _ rfl
        have c1 : w.cell? ⟨b, off + k * 3 + 1, none⟩ = some (.int .i64 l[k].2.1) := hc k hkl 1 _ rfl
        have c2 : w.cell? ⟨b, off + k * 3 + 2, none⟩ = some (.int .i64 l[k].2.2) := hc k hkl 2 _ rfl
        have d0 : w.cell? ⟨b', off' + k * 3, none⟩ = some (.int .i64 m[k].1) := hc' k hkm 0 _ rfl
        have d1 : w.cell? ⟨b', off' + k * 3 + 1, none⟩ = some (.int .i64 m[k].2.1) := hc' k hkm 1 _ rfl
        have d2 : w.cell? ⟨b', off' + k * 3 + 2, none⟩ = some (.int .i64 m[k].2.2) := hc' k hkm 2 _ rfl
        have hk1 : (k : Int) < n := by omega
        have hk2 : (k : Int) < n' := by have := HNN.out; omega
        have hk0 : (0 : Int) ≤ k := by omega
        have hq := fun w => eq23 l[k].1 l[k].2.1 l[k].2.2 m[k].1 m[k].2.1 m[k].2.2 w
        clear hc hc'
        by_cases he : l[k] = m[k]
        · have e1 : decide ((l[k].1, l[k].2.1, l[k].2.2) = (m[k].1, m[k].2.1, m[k].2.2)) = true := decide_eq_true he
          simp only [e1] at hq
          have HE := Lib.hid he
          clear he e1
          go_wp2_with fail
          go_quiet (fail)
          go_wp2_with fail
          go_roundw
          case rel =>
            refine ⟨k + 1, _, by omega, by go_num, fun j hj hj' hjk => ?_, rfl⟩
            rcases Nat.lt_or_eq_of_le (Nat.lt_succ_iff.1 hjk) with h' | rfl
            · exact HA.out j hj hj' h'
            · exact HE.out
          case measure => simp [intOf]; omega
        · have HE := Lib.hid (same_at hkl hkm he)
          have e1 : decide ((l[k].1, l[k].2.1, l[k].2.2) = (m[k].1, m[k].2.1, m[k].2.2)) = false := decide_eq_false he
          simp only [e1] at hq
          clear he e1
          go_wp2_with fail
          go_quiet (fail)
          go_wp2_with fail
          go_ret
          exact ⟨ret_bool HE.out.symm, q + nq, by rw [World.drewN_drewN]⟩
      · have HE := Lib.hid (same_all (l := l) (m := m) (by have := HL.out; have := HM.out; have := HNN.out; omega) fun j hj => HA.out j hj _ (by have := HL.out; omega))
        go_wp2_with fail
        go_ret
        exact ⟨ret_bool HE.out.symm, _, rfl⟩
  · have hb : ((n : Int) != n') = true := by simp; omega
    have HE : Hid (sameB l m = false) := Lib.hid (same_len (by have := HL.out; have := HM.out; omega))
    clear hnn
    go_enter Try.func30, Try.ntmps30
    go_wp2_with fail
    go_ret
    exact ⟨ret_bool HE.out.symm, 0, rfl⟩
end Go.Proofs.Ytakjdffebpcmnaa
