/- The walks of within, sum, spent, and of both Check and Left. -/
import Derived.Test.YtdfmngnhmiemgaaProg
import Derived.Test.YtdfmngnhmiemgaaPure
import Derived.Test.YtdfmngnhmiemgaaBase
namespace Go.Proofs.Ytdfmngnhmiemgaa
open Go.RowKit Go.Maps

/-- A spending's cells. -/
def encS (p : Sp) : List Value := [.int .i64 p.1, .int .i64 p.2]
theorem encS_len (p : Sp) : (encS p).length = 2 := rfl
abbrev cellsS (l : List Sp) : List Value := l.flatMap encS

set_option maxHeartbeats 400000 in
theorem within_yes (x lo hi : Int) (w : World) (h : lo ≤ x ∧ x ≤ hi) : Calls Try.prog 20 #[.int .i64 x, .int .i64 lo, .int .i64 hi] w fun e w' => e = .returned (.bool true) ∧ w = w' := by
  obtain ⟨h1, h2⟩ := h
  go_enter Try.func20, Try.ntmps20
  go_wp2_with fail
  go_ret
  exact ⟨ret_bool (by simp <;> omega), rfl⟩
set_option maxHeartbeats 400000 in
theorem within_no (x lo hi : Int) (w : World) (h : x < lo ∨ hi < x) : Calls Try.prog 20 #[.int .i64 x, .int .i64 lo, .int .i64 hi] w fun e w' => e = .returned (.bool false) ∧ w = w' := by
  by_cases h1 : lo ≤ x
  · have h2 : hi < x := by omega
    clear h
    go_enter Try.func20, Try.ntmps20
    go_wp2_with fail
    go_ret
    exact ⟨ret_bool (by simp <;> omega), rfl⟩
  · clear h
    go_enter Try.func20, Try.ntmps20
    go_wp2_with fail
    go_ret
    exact ⟨ret_bool (by simp), rfl⟩


set_option maxHeartbeats 400000 in
set_option maxRecDepth 10000 in
theorem sum_any (A : Option Addr) (n c : Nat) (l : List Sp) (day : Int) (w : World) (hr : Reads w w.heap.size 2 A n (cellsS l)) (hn : n ≤ 1000) (hR : allR l) :
    Calls Try.prog 21 #[.slice A n c, .int .i64 day] w (RetI w (sumTo l day)) := by
  have HL := Lib.hid (recs_len hr encS_len (by omega))
  have HR := Lib.hid hR
  clear hR
  go_enter Try.func21, Try.ntmps21
  go_wp2_with fail
  go_loopw [5, 10] (fun s i wr => ∃ k : Nat, k ≤ n ∧ i = .int .i64 k ∧ s = .int .i64 (sumTo (l.take k) day) ∧ Below w.heap.size w wr) (fun _ i _ => n - (intOf i).toNat)
  case atStart => exact ⟨0, Nat.zero_le _, rfl, rfl, Below.refl _ _⟩
  case round =>
    obtain ⟨k, hk, rfl, rfl, hbw⟩ := hrel
    by_cases hlt : k < n
    · obtain ⟨b, off, rfl, hb, hc⟩ := (hr.below hbw).recs encS_len (by omega) (by omega)
      have hkl : k < l.length := by have := HL.out; omega
      have c0 : wr.cell? ⟨b, off + k * 2, none⟩ = some (.int .i64 l[k].1) := hc k hkl 0 _ rfl
      have c1 : wr.cell? ⟨b, off + k * 2 + 1, none⟩ = some (.int .i64 l[k].2) := hc k hkl 1 _ rfl
      have hin := HR.out _ (List.getElem_mem hkl)
      obtain ⟨i1, i2, i3, i4⟩ := hin
      have hbd := sum_bd (allR_take HR.out k) day
      have hlen : (l.take k).length ≤ 1000 := by rw [List.length_take]; omega
      obtain ⟨b1, b2⟩ := hbd
      have b3 : sumTo (l.take k) day ≤ 1000000000 := by omega
      clear b2 hlen hc
      by_cases hd : l[k].1 = day
      · have HS : Hid (sumTo (l.take (k + 1)) day = sumTo (l.take k) day + l[k].2) := Lib.hid (by rw [sumTo_succ hkl, if_pos hd])
        have hd' : (l[k].1 == day) = true := beq_iff_eq.2 hd
        clear hd
        go_wp2_with fail
        go_roundw
        case rel => exact ⟨k + 1, by omega, by go_num, by rw [HS.out], hbw.trans ((Below.refl _ _).alloc hbw.size _)⟩
        case measure => simp [intOf]; omega
      · have HS : Hid (sumTo (l.take (k + 1)) day = sumTo (l.take k) day) := Lib.hid (by rw [sumTo_succ hkl, if_neg hd]; omega)
        have hd' : (l[k].1 == day) = false := beq_eq_false_iff_ne.2 hd
        clear hd
        go_wp2_with fail
        go_roundw
        case rel => exact ⟨k + 1, by omega, by go_num, by rw [HS.out], hbw.trans ((Below.refl _ _).alloc hbw.size _)⟩
        case measure => simp [intOf]; omega
    · have HK : Hid (l.take k = l) := Lib.hid (List.take_of_length_le (by have := HL.out; omega))
      go_wp2_with fail
      go_ret
      exact ⟨ret_int (by rw [HK.out]), hbw⟩

set_option maxHeartbeats 400000 in
set_option maxRecDepth 10000 in
theorem spent_any (A : Option Addr) (n c : Nat) (l : List Sp) (day : Int) (B : Nat) (w : World) (hr : Reads w B 2 A n (cellsS l)) (hn : n ≤ 1000) (hR : allR l) :
    Calls Try.prog 22 #[.slice A n c, .int .i64 day] w fun e w' => e = .returned (.int .i64 (sumTo l day)) ∧ w = w' := by
  have HL := Lib.hid (recs_len hr encS_len (by omega))
  have HR := Lib.hid hR
  clear hR
  go_enter Try.func22, Try.ntmps22
  go_wp2_with fail
  go_loop [5, 6] (fun s i => ∃ k : Nat, k ≤ n ∧ i = .int .i64 k ∧ s = .int .i64 (sumTo (l.take k) day)) (fun _ i => n - (intOf i).toNat)
  case atStart => exact ⟨0, Nat.zero_le _, rfl, rfl⟩
  case round =>
    obtain ⟨k, hk, rfl, rfl⟩ := hrel
    by_cases hlt : k < n
    · obtain ⟨b, off, rfl, hb, hc⟩ := hr.recs encS_len (by omega) (by omega)
      have hkl : k < l.length := by have := HL.out; omega
      have c0 : w.cell? ⟨b, off + k * 2, none⟩ = some (.int .i64 l[k].1) := hc k hkl 0 _ rfl
      have c1 : w.cell? ⟨b, off + k * 2 + 1, none⟩ = some (.int .i64 l[k].2) := hc k hkl 1 _ rfl
      have hin := HR.out _ (List.getElem_mem hkl)
      obtain ⟨i1, i2, i3, i4⟩ := hin
      have hbd := sum_bd (allR_take HR.out k) day
      have hlen : (l.take k).length ≤ 1000 := by rw [List.length_take]; omega
      obtain ⟨b1, b2⟩ := hbd
      have b3 : sumTo (l.take k) day ≤ 1000000000 := by omega
      clear b2 hlen hc
      by_cases hd : l[k].1 = day
      · have HS : Hid (sumTo (l.take (k + 1)) day = sumTo (l.take k) day + l[k].2) := Lib.hid (by rw [sumTo_succ hkl, if_pos hd])
        have hd' : (l[k].1 == day) = true := beq_iff_eq.2 hd
        clear hd
        go_wp2_with fail
        go_round
        case rel => exact ⟨k + 1, by omega, by go_num, by rw [HS.out]⟩
        case measure => simp [intOf]; omega
      · have HS : Hid (sumTo (l.take (k + 1)) day = sumTo (l.take k) day) := Lib.hid (by rw [sumTo_succ hkl, if_neg hd]; omega)
        have hd' : (l[k].1 == day) = false := beq_eq_false_iff_ne.2 hd
        clear hd
        go_wp2_with fail
        go_round
        case rel => exact ⟨k + 1, by omega, by go_num, by rw [HS.out]⟩
        case measure => simp [intOf]; omega
    · have HK : Hid (l.take k = l) := Lib.hid (List.take_of_length_le (by have := HL.out; omega))
      go_wp2_with fail
      go_ret
      exact ⟨ret_int (by rw [HK.out]), rfl⟩
end Go.Proofs.Ytdfmngnhmiemgaa
