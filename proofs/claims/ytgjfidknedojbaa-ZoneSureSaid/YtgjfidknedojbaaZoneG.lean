/- The walks of both Sure: the zone in which every point of a disc is found. -/
import Derived.Test.YtgjfidknedojbaaZoneF
namespace Go.Proofs.Ytgjfidknedojbaa
open Go.RowKit
def numO : Option Nat → Int
  | none => 0
  | some k => k
def goodB (l : List Zn) (t c : List Bool) (j : Nat) : Bool := mAt c j && !aboveB l t j
def firstG (l : List Zn) (t c : List Bool) : Option Nat := (List.range l.length).find? (goodB l t c)
theorem firstG_some {l : List Zn} {t c : List Bool} {k : Nat} (hk : k < l.length) (h : goodB l t c k = true) (hb : ∀ j, j < k → goodB l t c j = false) : firstG l t c = some k := by
  unfold firstG
  rw [List.find?_eq_some_iff_append]
  refine ⟨h, List.range k, (List.range' (k + 1) (l.length - (k + 1))), ?_, fun a ha => ?_⟩
  · rw [List.range_eq_range', List.range_eq_range', show l.length = k + (1 + (l.length - (k + 1))) from by omega, ← List.range'_append_1, ← List.range'_append_1]
    simp
    omega
  · rw [hb a (by simpa using ha)]; rfl
theorem firstG_none {l : List Zn} {t c : List Bool} (hb : ∀ j, j < l.length → goodB l t c j = false) : firstG l t c = none := by
  unfold firstG
  rw [List.find?_eq_none]
  intro a ha
  rw [hb a (by simpa using ha)]; decide
theorem good_no {l : List Zn} {t c : List Bool} {k : Nat} (hb : ∀ j, j < k → goodB l t c j = false) (h : goodB l t c k = false) : ∀ j, j < k + 1 → goodB l t c j = false := fun j hj => by
  rcases Nat.lt_or_ge j k with h1 | h1
  · exact hb j h1
  · obtain rfl : j = k := by omega
    exact h
theorem good_c {l : List Zn} {t c : List Bool} {k : Nat} (h : mAt c k = false) : goodB l t c k = false := by unfold goodB; rw [h]; rfl
theorem good_a {l : List Zn} {t c : List Bool} {k : Nat} (h : aboveB l t k = true) : goodB l t c k = false := by unfold goodB; rw [h]; simp
theorem good_yes {l : List Zn} {t c : List Bool} {k : Nat} (h : mAt c k = true) (h2 : aboveB l t k = false) : goodB l t c k = true := by unfold goodB; rw [h, h2]; rfl
def sureZ (l : List Zn) (p : Pt) (r : Int) : Option Nat := if okD l p r = true then firstG l (touchL l p r) (coverL l p r) else none
theorem okD_few {l : List Zn} {p : Pt} {r : Int} (h : okD l p r = true) : l.length ≤ 16 := by
  unfold okD at h
  have h1 : zcheckZ l = 0 := by
    by_cases g : zcheckZ l = 0
    · exact g
    · rw [decide_eq_false g] at h; cases h
  unfold zcheckZ at h1
  by_cases g : 16 < l.length
  · rw [if_pos g] at h1; exact absurd h1 (by decide)
  · omega
def RetIO (w : World) (x : Option Nat) (e : Ending) (w' : World) : Prop := e = .returned (.tuple #[.int .i64 (numO x), .bool x.isSome]) ∧ Below w.heap.size w w'
theorem retIO {w w' : World} {x y : Option Nat} (h : x = y) (hb : Below w.heap.size w w') : RetIO w y (.returned (.tuple #[.int .i64 (numO x), .bool x.isSome])) w' := by subst h; exact ⟨rfl, hb⟩
set_option maxHeartbeats 4000000 in
set_option maxRecDepth 10000 in
theorem rsure_any (A : Option Addr) (n c : Nat) (l : List Zn) (p : Pt) (r : Int) (x : Option Nat) (w : World) (h : ZR w A n l) (hn : n ≤ 9223372036854775807) (hx : sureZ l p r = x) : Calls Try.prog 17 #[.slice A n c, aggP p, .int .i64 r] w (RetIO w x) := by
  obtain ⟨kk, hK⟩ := box1K w 28 #[.int .i64 p.1, .int .i64 p.2]
  have HK := Lib.hid hK
  clear hK
  obtain ⟨B0, hbb⟩ := HK.out _ kk
  have c00 := B0.cell 0
  have c01 := B0.cell 1
  have HB := Lib.hid hbb
  clear B0 hbb
  have HL := Lib.hid h.2.2; have HX := Lib.hid hx
  have HZA : Hid (∀ u, Below w.heap.size w u → ZR u A n l) := Lib.hid fun u hu => h.below hu
  clear h hx
  go_enter Try.func17, Try.ntmps17
  go_wp2_with fail
  refine (discs_any A n c l p r _ (HZA.out _ HB.out) hn).mono ?_
  rintro e w1 ⟨hb1, h1⟩
  replace kk := below_next kk (Nat.le_refl _) hb1
  have HBB := Lib.hid (HK.out _ kk).2
  clear c00 c01 HB hb1 kk
  rcases h1 with ⟨ho, A1, n1, c1, A2, c2, rfl, ht, hcv, hn1⟩ | ⟨ho, rfl⟩
  · obtain rfl : n1 = n := by have := HL.out; omega
    have hn16 : n1 ≤ 16 := by have := okD_few ho; omega
    clear hn1
    obtain ⟨t, het⟩ : ∃ t, touchL l p r = t := ⟨_, rfl⟩
    obtain ⟨cv, hec⟩ : ∃ t, coverL l p r = t := ⟨_, rfl⟩
    rw [het] at ht; rw [hec] at hcv
    have HX2 : Hid (firstG l t cv = x) := Lib.hid (by rw [← het, ← hec, ← HX.out]; unfold sureZ; rw [if_pos ho])
    have HZ := Lib.hid (HZA.out _ HBB.out)
    have HT := Lib.hid ht; have HC := Lib.hid hcv
    clear het hec ho ht hcv
    go_wp2_with fail
    go_loopw [11] (fun s wr => ∃ k : Nat, k ≤ n1 ∧ s = .int .i64 k ∧ Hid (∀ j, j < k → goodB l t cv j = false) ∧ Below w1.heap.size w1 wr) (fun s _ => n1 - (intOf s).toNat)
    case atStart => exact ⟨0, Nat.zero_le _, rfl, Lib.hid (fun _ h => absurd h (Nat.not_lt_zero _)), Below.refl _ _⟩
    case round =>
      obtain ⟨k, hk, rfl, HA, hbw⟩ := hrel
      have HBW := Lib.hid hbw
      have HBF := Lib.hid (below_next HBB.out (Nat.le_refl _) hbw)
      have HZr := Lib.hid (HZ.out.below hbw); have HTr := Lib.hid ((HT.out.below hbw).more hbw.size); have HCr := Lib.hid ((HC.out.below hbw).more hbw.size)
      clear hbw
      by_cases hlt : k < n1
      · have hkl : k < l.length := by have := HL.out; omega
        obtain ⟨bm, om, rfl, hbm, hcm⟩ := marks_cells HCr.out (by omega)
        have e0 := hcm k hlt
        have hk0 : (0 : Int) ≤ k := by omega
        have hk1 : (k : Int) < n1 := by omega
        clear hcm
        obtain ⟨m, hm⟩ : ∃ m, mAt cv k = m := ⟨_, rfl⟩
        rw [hm] at e0
        have HM := Lib.hid hm
        clear hm
        rcases m with _ | _
        · have HA2 := Lib.hid (good_no HA.out (good_c HM.out))
          go_wp2_with fail
          go_roundw
          case rel => exact ⟨k + 1, by omega, by go_num, HA2, HBW.out⟩
          case measure => simp [intOf]; omega
        · obtain ⟨a, ha⟩ : ∃ a, aboveB l t k = a := ⟨_, rfl⟩
          have HAB := Lib.hid ha
          clear ha
          go_wp2_with fail
          refine (rabove_any A A1 n1 c c1 k l t a _ HZr.out HTr.out (by omega) hlt HAB.out).mono ?_
          rintro e w2 ⟨rfl, hb2⟩
          have HB2 := Lib.hid (below_next HBW.out (Nat.le_refl _) hb2)
          have HF2 := Lib.hid (below_next HBF.out (Nat.le_refl _) hb2)
          clear hb2 e0
          rcases a with _ | _
          · go_wp2_with fail
            go_ret2
            exact retIO (x := some k) (by rw [← HX2.out, firstG_some hkl (good_yes HM.out HAB.out) HA.out]) HF2.out
          · have HA2 := Lib.hid (good_no HA.out (good_a HAB.out))
            go_wp2_with fail
            go_roundw
            case rel => exact ⟨k + 1, by omega, by go_num, HA2, HB2.out⟩
            case measure => simp [intOf]; omega
      · have hnone : none = x := by rw [← HX2.out, firstG_none fun j hj => HA.out j (by have := HL.out; omega)]
        have HNO := Lib.hid hnone
        clear hnone
        go_wp2_with fail
        go_ret2
        exact retIO (x := none) HNO.out HBF.out
  · have hnone : none = x := by rw [← HX.out]; unfold sureZ; rw [if_neg (by rw [ho]; decide)]
    have HNO := Lib.hid hnone
    clear hnone ho
    go_wp2_with fail
    go_ret2
    exact retIO (x := none) HNO.out HBB.out
end Go.Proofs.Ytgjfidknedojbaa
