/- The walks of the reference's one and Check, and of the program's Check of zones. -/
import Derived.Test.YtgjfidknedojbaaZonePure
namespace Go.Proofs.Ytgjfidknedojbaa
open Go.RowKit
def eqS (a b : ByteArray) : Bool := a.data.toList == b.data.toList
theorem eqS_walk (a b : ByteArray) : (a.toList == b.toList) = eqS a b := by rw [eqS, ByteArray.toList_eq, ByteArray.toList_eq]
theorem twin_eq (y z : Zn) : twinB y z = ((y.s.toList == z.s.toList) || decide (y.r = z.r)) := by rw [eqS_walk]; rfl
theorem below_drewR {w w1 : World} {n : Nat} (h : w1 = w.drewN n) : Below w.heap.size w w1 := by rw [h]; exact below_drewN (Below.refl _ _) n
theorem oneZ_rank {z : Zn} (h1 : validS z.s = true) (h2 : checkZ z.p = 0) : oneZ z = if z.r < 0 ∨ 1000000 < z.r then 1 else 0 := by
  unfold oneZ
  rw [if_neg (show ¬ (validS z.s = false) by rw [h1]; decide), if_neg (show ¬ (checkZ z.p ≠ 0) by rw [h2]; decide)]
set_option maxHeartbeats 2000000 in
theorem one_any (z : Zn) (x : Int) (w : World) (hr : Reads w w.heap.size 2 z.A z.n (cellsPt z.p)) (hn : z.n ≤ 9223372036854775807) (hs : z.s.size ≤ maxLen) (hx : oneZ z = x) : Calls Try.prog 30 #[aggZ z] w (RetI w x) := by
  obtain ⟨kk, hK⟩ := box1K w 45 #[.string z.s, .slice z.A z.n z.c, .int .i64 z.r]
  have HK := Lib.hid hK
  clear hK
  obtain ⟨B0, hbb⟩ := HK.out _ kk
  have c00 := B0.cell 0
  have c01 := B0.cell 1
  have c02 := B0.cell 2
  have HB := Lib.hid hbb
  clear B0 hbb
  have HRA : Hid (∀ u, Below w.heap.size w u → Reads u u.heap.size 2 z.A z.n (cellsPt z.p)) := Lib.hid fun u hu => (hr.below hu).more hu.size
  have HS : Hid (z.s.size ≤ maxLen) := Lib.hid hs
  have HX := Lib.hid hx
  clear hr hs hx
  rcases h1 : validS z.s with _ | _
  · have HX2 : Hid (5 = x) := Lib.hid (by rw [← HX.out]; unfold oneZ; rw [if_pos h1])
    have HV : Hid (Calls Try.prog 46 #[.string z.s] _ fun e w' => e = .returned (.bool false) ∧ ∃ n, w' = _) := Lib.hid (by have := ridvalid_any z.s HS.out (w.alloc (.cells #[.string z.s, .slice z.A z.n z.c, .int .i64 z.r] 45)); rw [h1] at this; exact this)
    clear h1 HX
    go_enter Try.func30, Try.ntmps30
    go_wp2_with fail
    refine HV.out.mono ?_
    rintro e w1 ⟨rfl, nq, hw1⟩
    replace kk := below_next kk (Nat.le_refl _) (below_drewR hw1)
    clear hw1 HB c00 c01 c02
    obtain ⟨B0, hbb⟩ := HK.out _ kk
    have c00 := B0.cell 0
    have c01 := B0.cell 1
    have c02 := B0.cell 2
    have HB := Lib.hid hbb
    clear B0 hbb
    go_wp2_with fail
    go_ret
    exact ⟨ret_int HX2.out, HB.out⟩
  have HV : Hid (Calls Try.prog 46 #[.string z.s] _ fun e w' => e = .returned (.bool true) ∧ ∃ n, w' = _) := Lib.hid (by have := ridvalid_any z.s HS.out (w.alloc (.cells #[.string z.s, .slice z.A z.n z.c, .int .i64 z.r] 45)); rw [h1] at this; exact this)
  have H1 := Lib.hid h1
  clear h1
  obtain ⟨y, hy⟩ : ∃ y, checkZ z.p = y := ⟨_, rfl⟩
  have HY : Hid (rcheckZ z.p = y) := Lib.hid (by rw [← check_eq]; exact hy)
  by_cases h0 : y = 0
  · subst h0
    have HX2 : Hid ((if z.r < 0 ∨ 1000000 < z.r then 1 else 0) = x) := Lib.hid (by rw [← HX.out, oneZ_rank H1.out hy])
    have hcs : (z.r < 0 ∧ x = 1) ∨ (0 ≤ z.r ∧ 1000000 < z.r ∧ x = 1) ∨ (0 ≤ z.r ∧ z.r ≤ 1000000 ∧ x = 0) := by
      have hq := HX2.out
      by_cases g : z.r < 0 ∨ 1000000 < z.r
      · rw [if_pos g] at hq; omega
      · rw [if_neg g] at hq; omega
    clear hy HX HX2
    rcases hcs with ⟨g1, rfl⟩ | ⟨g1, g2, rfl⟩ | ⟨g1, g2, rfl⟩
    all_goals
      go_enter Try.func30, Try.ntmps30
      go_wp2_with fail
      refine HV.out.mono ?_
      rintro e w1 ⟨rfl, nq, hw1⟩
      replace kk := below_next kk (Nat.le_refl _) (below_drewR hw1)
      clear hw1 HB c00 c01 c02
      obtain ⟨B0, hbb⟩ := HK.out _ kk
      have c00 := B0.cell 0
      have c01 := B0.cell 1
      have c02 := B0.cell 2
      have HB := Lib.hid hbb
      clear B0 hbb
      go_wp2_with fail
      refine (rcheck_any z.A z.n z.c z.p 0 _ (HRA.out _ HB.out) hn HY.out).mono ?_
      rintro e w1 ⟨rfl, hb1⟩
      replace kk := below_next kk (Nat.le_refl _) hb1
      clear c00 c01 c02 HB hb1
      obtain ⟨B0, hbb⟩ := HK.out _ kk
      have c00 := B0.cell 0
      have c01 := B0.cell 1
      have c02 := B0.cell 2
      have HB := Lib.hid hbb
      clear B0 hbb
      go_wp2_with fail
      go_ret
      exact ⟨rfl, HB.out⟩
  · have HX2 : Hid (y = x) := Lib.hid (by rw [← HX.out]; unfold oneZ; rw [if_neg (by rw [H1.out]; decide), if_pos (by rw [hy]; exact h0), hy])
    have t0 := ne0_t h0
    clear hy h0 HX
    go_enter Try.func30, Try.ntmps30
    go_wp2_with fail
    refine HV.out.mono ?_
    rintro e w1 ⟨rfl, nq, hw1⟩
    replace kk := below_next kk (Nat.le_refl _) (below_drewR hw1)
    clear hw1 HB c00 c01 c02
    obtain ⟨B0, hbb⟩ := HK.out _ kk
    have c00 := B0.cell 0
    have c01 := B0.cell 1
    have c02 := B0.cell 2
    have HB := Lib.hid hbb
    clear B0 hbb
    go_wp2_with fail
    refine (rcheck_any z.A z.n z.c z.p y _ (HRA.out _ HB.out) hn HY.out).mono ?_
    rintro e w2 ⟨rfl, hb2⟩
    replace kk := below_next kk (Nat.le_refl _) hb2
    clear c00 c01 c02 HB hb2
    obtain ⟨B0, hbb⟩ := HK.out _ kk
    have c00 := B0.cell 0
    have c01 := B0.cell 1
    have c02 := B0.cell 2
    have HB := Lib.hid hbb
    clear B0 hbb
    go_wp2_with fail
    go_ret
    exact ⟨ret_int HX2.out, HB.out⟩
/-- The closure of Check. -/
theorem zclos_any (y z : Zn) (g : Nat) (x : Bool) (w : World) (hB : Blk w g 45 #[.string z.s, .slice z.A z.n z.c, .int .i64 z.r]) (hx : twinB y z = x) : Calls Try.prog 29 #[aggZ y, .pointer (some ⟨g, 0, none⟩)] w (RetB w x) := by
  have HBw := Lib.hid (box1 w 45 #[.string y.s, .slice y.A y.n y.c, .int .i64 y.r])
  have c0 := (hB.cell 0).trans rfl; have c2 := (hB.cell 2).trans rfl
  have hg := hB.lt
  rw [twin_eq] at hx
  rcases h1 : (y.s.toList == z.s.toList) with _ | _
  · have HX : Hid (decide (y.r = z.r) = x) := Lib.hid (by rw [← hx, h1]; rfl)
    have h2 : (y.r == z.r) = decide (y.r = z.r) := by by_cases h : y.r = z.r <;> simp [h]
    rw [HX.out] at h2
    clear hx hB
    go_enter Try.func29, Try.ntmps29
    go_wp2_with fail
    go_ret
    exact ⟨rfl, HBw.out.2⟩
  · have HX : Hid (true = x) := Lib.hid (by rw [← hx, h1]; rfl)
    clear hx hB
    go_enter Try.func29, Try.ntmps29
    go_wp2_with fail
    go_ret
    exact ⟨ret_bool HX.out, HBw.out.2⟩
def posZ (l : List Zn) (z : Zn) (i : Nat) : Int := match (List.range i).find? fun k => twinB (zAt l k) z with | some k => (k : Int) | none => -1
theorem posZ_at {l : List Zn} {z : Zn} {i k : Nat} (hk : k < i) (h : twinB (zAt l k) z = true) (hb : ∀ j, j < k → twinB (zAt l j) z = false) : posZ l z i = k := by
  unfold posZ
  rw [show (List.range i).find? (fun k => twinB (zAt l k) z) = some k from by
    rw [List.find?_range_eq_some]
    exact ⟨h, by simpa using hk, fun j hj => by rw [hb j hj]; rfl⟩]
theorem posZ_no {l : List Zn} {z : Zn} {i : Nat} (hb : ∀ j, j < i → twinB (zAt l j) z = false) : posZ l z i = -1 := by
  unfold posZ
  rw [show (List.range i).find? (fun k => twinB (zAt l k) z) = none from by
    rw [List.find?_range_eq_none]
    exact fun j hj => by rw [hb j hj]; rfl]
set_option maxHeartbeats 2000000 in
set_option maxRecDepth 10000 in
theorem zindex_any (A : Option Addr) (n c i : Nat) (l : List Zn) (z : Zn) (g : Nat) (x : Int) (w : World) (h : ZR w A n l) (hi : i ≤ n) (hn : n ≤ 1000) (hB : Blk w g 45 #[.string z.s, .slice z.A z.n z.c, .int .i64 z.r]) (hx : posZ l z i = x) :
    Calls Try.prog 45 #[.slice A i c, .func (.func 29) #[] #[.pointer (some ⟨g, 0, none⟩)]] w (RetI w x) := by
  have HZ := Lib.hid h; have HB := Lib.hid hB; have HX := Lib.hid hx
  clear h hB hx
  go_enter Try.func45, Try.ntmps45
  go_wp2_with fail
  go_loopw [5, 8] (fun _ s wr => ∃ k : Nat, k ≤ i ∧ s = .int .i64 k ∧ Hid (∀ j, j < k → twinB (zAt l j) z = false) ∧ Below w.heap.size w wr) (fun _ s _ => i - (intOf s).toNat)
  case atStart => exact ⟨0, Nat.zero_le _, rfl, Lib.hid (fun _ h => absurd h (Nat.not_lt_zero _)), Below.refl _ _⟩
  case round =>
    obtain ⟨k, hk, rfl, HA, hbw⟩ := hrel
    have HBW := Lib.hid hbw
    have HZr := Lib.hid (HZ.out.below hbw)
    have HBr := Lib.hid (HB.out.ofBelow hbw)
    clear hbw
    by_cases hlt : k < i
    · have hkl : k < l.length := by have := HZ.out.2.2; omega
      obtain ⟨b, off, rfl, hb, hc⟩ := HZr.out.cells (by omega)
      obtain ⟨d0, d1, d2⟩ := hc k hkl
      have hk0 : (0 : Int) ≤ k := by omega
      have hk1 : (k : Int) < i := by omega
      have HAT := Lib.hid (zAt_get hkl)
      clear hc
      obtain ⟨y, hy⟩ : ∃ y, twinB l[k] z = y := ⟨_, rfl⟩
      have HY := Lib.hid hy
      clear hy
      rcases y with _ | _
      · go_wp2_with fail
        refine (zclos_any l[k] z g false _ HBr.out HY.out).mono ?_
        rintro e w1 ⟨rfl, hb1⟩
        have HB1 := Lib.hid (below_next HBW.out (Nat.le_refl _) hb1)
        clear hb1
        go_wp2_with fail
        go_roundw
        case rel => exact ⟨k + 1, by omega, by go_num, Lib.hid (fun j hj => by
          rcases Nat.lt_or_ge j k with h1 | h1
          · exact HA.out j h1
          · have : j = k := by omega
            subst this; rw [HAT.out]; exact HY.out), HB1.out⟩
        case measure => simp [intOf]; omega
      · have HX2 : Hid ((k : Int) = x) := Lib.hid (by rw [← HX.out, posZ_at hlt (by rw [HAT.out]; exact HY.out) HA.out])
        go_wp2_with fail
        refine (zclos_any l[k] z g true _ HBr.out HY.out).mono ?_
        rintro e w1 ⟨rfl, hb1⟩
        have HB1 := Lib.hid (below_next HBW.out (Nat.le_refl _) hb1)
        clear hb1
        go_wp2_with fail
        go_ret
        exact ⟨ret_int HX2.out, HB1.out⟩
    · have HX2 : Hid (-1 = x) := Lib.hid (by rw [← HX.out, posZ_no fun j hj => HA.out j (by omega)])
      go_wp2_with fail
      go_ret
      exact ⟨ret_int HX2.out, HBW.out⟩
theorem zcontains_any (A : Option Addr) (n c i : Nat) (l : List Zn) (z : Zn) (g : Nat) (x : Bool) (w : World) (h : ZR w A n l) (hi : i ≤ n) (hn : n ≤ 1000) (hB : Blk w g 45 #[.string z.s, .slice z.A z.n z.c, .int .i64 z.r]) (hx : decide (0 ≤ posZ l z i) = x) :
    Calls Try.prog 28 #[.slice A i c, .func (.func 29) #[] #[.pointer (some ⟨g, 0, none⟩)]] w (RetB w x) := by
  obtain ⟨y, hy⟩ : ∃ y, posZ l z i = y := ⟨_, rfl⟩
  rw [hy] at hx
  have HY := Lib.hid hy; have HX := Lib.hid hx
  clear hy hx
  have HC := Lib.hid (zindex_any A n c i l z g y w h hi hn hB HY.out)
  clear h hB
  go_enter Try.func28, Try.ntmps28
  go_wp2_with fail
  refine HC.out.mono ?_
  rintro e w1 ⟨rfl, hb1⟩
  go_wp2_with fail
  go_ret
  exact ⟨ret_bool HX.out, hb1⟩
end Go.Proofs.Ytgjfidknedojbaa
