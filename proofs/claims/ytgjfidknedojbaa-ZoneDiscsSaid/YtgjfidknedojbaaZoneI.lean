/- The walks of both Possible: the zones in which a point of a disc can be found. -/
import Derived.Test.YtgjfidknedojbaaZoneG
namespace Go.Proofs.Ytgjfidknedojbaa
open Go.RowKit
def encI (x : Int) : List Value := [.int .i64 x]
def cellsI (l : List Int) : List Value := l.flatMap encI
theorem encI_len (x : Int) : (encI x).length = 1 := rfl
theorem snocI (l : List Int) (x : Int) : cellsI (l ++ [x]) = cellsI l ++ [.int .i64 x] := by simp [cellsI, encI]
theorem oneI {b : Int} : ∀ u ∈ [Value.int .i64 b], u.oneCell' = true := by simp [Value.oneCell']
theorem infoInt : (Try.prog.info? 3).map (fun i => (i.zero, i.size, i.bytes)) = some (some (.int .i64 0), 1, 8) := by kernel_rfl
theorem fr1I (u : World) (b : Int) : Reads (u.alloc (.cells #[.int .i64 b] 3)) (u.heap.size + 1) 1 (some ⟨u.heap.size, 0, none⟩) 1 [.int .i64 b] := by simpa using Reads.fresh1 u 3 #[.int .i64 b] 1 rfl
/-- The marked zones up to the k-th, those with no greater one among the other marks. -/
def upG (l : List Zn) (t c : List Bool) (k : Nat) : List Nat := (List.range k).filter (goodB l c t)
def allG (l : List Zn) (t c : List Bool) : List Nat := upG l t c l.length
def ints (l : List Nat) : List Int := l.map fun k : Nat => (k : Int)
theorem ints_len (l : List Nat) : (ints l).length = l.length := by simp [ints]
theorem upG_yes {l : List Zn} {t c : List Bool} {k : Nat} (h : goodB l c t k = true) : ints (upG l t c (k + 1)) = ints (upG l t c k) ++ [(k : Int)] := by
  unfold ints upG; rw [List.range_succ, List.filter_append]; simp [h]
theorem upG_no {l : List Zn} {t c : List Bool} {k : Nat} (h : goodB l c t k = false) : ints (upG l t c (k + 1)) = ints (upG l t c k) := by
  unfold ints upG; rw [List.range_succ, List.filter_append]; simp [h]
theorem upG_le (l : List Zn) (t c : List Bool) (k : Nat) : (ints (upG l t c k)).length ≤ k := by
  rw [ints_len]; unfold upG; exact Nat.le_trans (List.length_filter_le _ _) (by simp)
def possZ (l : List Zn) (p : Pt) (r : Int) : List Nat := if okD l p r = true then allG l (touchL l p r) (coverL l p r) else []
def RetInts (w : World) (x : List Int) (e : Ending) (w' : World) : Prop := Below w.heap.size w w' ∧ ∃ A n c, e = .returned (.slice A n c) ∧ Reads w' w'.heap.size 1 A n (cellsI x) ∧ n = x.length ∧ n ≤ 1000
set_option maxHeartbeats 4000000 in
set_option maxRecDepth 10000 in
theorem rposs_any (A : Option Addr) (n c : Nat) (l : List Zn) (p : Pt) (r : Int) (x : List Nat) (w : World) (h : ZR w A n l) (hn : n ≤ 9223372036854775807) (hx : possZ l p r = x) : Calls Try.prog 20 #[.slice A n c, aggP p, .int .i64 r] w (RetInts w (ints x)) := by
  obtain ⟨i0, hi0, hz0, hz1, hz2⟩ := info_parts infoInt
  obtain ⟨kk, hK⟩ := box1K w 28 #[.int .i64 p.1, .int .i64 p.2]
  have HK := Lib.hid hK
  clear hK
  obtain ⟨B0, hbb⟩ := HK.out _ kk
  have c00 := B0.cell 0
  have c01 := B0.cell 1
  have HB := Lib.hid hbb
  clear B0 hbb
  have HL := Lib.hid h.2.2; have HX := Lib.hid hx
  have HZA : Hid (∀ u, Below w.heap.size w u → ZR u A n l) := Lib.hid fun u hu => h.below hu
  clear h hx
  go_enter Try.func20, Try.ntmps20
  go_wp2_with fail
  refine (discs_any A n c l p r _ (HZA.out _ HB.out) hn).mono ?_
  rintro e w1 ⟨hb1, h1⟩
  replace kk := below_next kk (Nat.le_refl _) hb1
  have HBB := Lib.hid (HK.out _ kk).2
  clear c00 c01 HB hb1 kk
  rcases h1 with ⟨ho, A1, n1, c1, A2, c2, rfl, ht, hcv, hn1⟩ | ⟨ho, rfl⟩
  · obtain rfl : n1 = n := by have := HL.out; omega
    have hn16 : n1 ≤ 16 := by have := okD_few ho; omega
    clear hn1
    obtain ⟨t, het⟩ : ∃ t, touchL l p r = t := ⟨_, rfl⟩
    obtain ⟨cv, hec⟩ : ∃ t, coverL l p r = t := ⟨_, rfl⟩
    rw [het] at ht; rw [hec] at hcv
    have HX2 : Hid (allG l t cv = x) := Lib.hid (by rw [← het, ← hec, ← HX.out]; unfold possZ; rw [if_pos ho])
    have HZ := Lib.hid (HZA.out _ HBB.out)
    have HT := Lib.hid ht; have HC := Lib.hid hcv
    have HT0 : Hid (Two w1.heap.size w1 w1 3 1 (.slice none 0 0) 0 [] 3 1 (.slice none 0 0) 0 []) := Lib.hid ⟨Below.refl _ _, Nat.le_refl _, World.ownsRow_nil _ _ _ _, World.ownsRow_nil _ _ _ _, fun g h => by simp [Value.ownBlock] at h⟩
    clear het hec ho ht hcv
    go_wp2_with fail
    go_loopw [10, 11] (fun s1 s wr => ∃ (k m : Nat) (B : Option Addr) (cc : Nat), k ≤ n1 ∧ s = .int .i64 k ∧ s1 = .slice B m cc ∧ m ≤ k ∧ Two w1.heap.size w1 wr 3 1 (.slice B m cc) m (cellsI (ints (upG l t cv k))) 3 1 (.slice none 0 0) 0 []) (fun _ s _ => n1 - (intOf s).toNat)
    case atStart => exact ⟨0, 0, none, 0, Nat.zero_le _, rfl, rfl, Nat.le_refl _, HT0.out⟩
    case round =>
      obtain ⟨k, m, B, cc, hk, rfl, rfl, hm, hT⟩ := hrel
      have HTw := Lib.hid hT
      have hbw := hT.below
      have HBF := Lib.hid (below_next HBB.out (Nat.le_refl _) hbw)
      have HZr := Lib.hid (HZ.out.below hbw); have HTr := Lib.hid ((HT.out.below hbw).more hbw.size); have HCr := Lib.hid ((HC.out.below hbw).more hbw.size)
      clear hT hbw
      by_cases hlt : k < n1
      · have hkl : k < l.length := by have := HL.out; omega
        obtain ⟨bm, om, rfl, hbm, hcm⟩ := marks_cells HTr.out (by omega)
        have e0 := hcm k hlt
        have hk0 : (0 : Int) ≤ k := by omega
        have hk1 : (k : Int) < n1 := by omega
        clear hcm
        obtain ⟨u, hu⟩ : ∃ m, mAt t k = m := ⟨_, rfl⟩
        rw [hu] at e0
        have HM := Lib.hid hu
        clear hu
        rcases u with _ | _
        · have HU := Lib.hid (upG_no (t := t) (good_c (t := cv) (l := l) HM.out))
          go_wp2_with fail
          go_roundw
          case rel => exact ⟨k + 1, m, B, cc, by omega, by go_num, rfl, by omega, by rw [HU.out]; exact HTw.out⟩
          case measure => simp [intOf]; omega
        · obtain ⟨a, ha⟩ : ∃ a, aboveB l cv k = a := ⟨_, rfl⟩
          have HAB := Lib.hid ha
          clear ha
          go_wp2_with fail
          refine (rabove_any A A2 n1 c c2 k l cv a _ HZr.out HCr.out (by omega) hlt HAB.out).mono ?_
          rintro e w2 ⟨rfl, hb2⟩
          have HT2 := Lib.hid (HTw.out.step hb2)
          clear hb2 e0
          rcases a with _ | _
          · have HU := Lib.hid (upG_yes (good_yes (t := cv) HM.out HAB.out))
            have T := HT2.out
            go_wp2_with (at_builtin; refine wpList_append_any _ rfl (.tmp 40) (.tmp 42) _ rfl _ 3 i0 _ 1 8 Try.underlying34 hi0 hz0 hz1 hz2 rfl (by omega) (.slice B m cc) m _ rfl (T.alloc _).ownX _ _ 1 1 [.int .i64 k] (by rfl) (fr1I _ k) oneI (by simp only [maxLen]; omega) (by omega) (T.alloc _).base ?_; intro v7 w7 hown7 hg7 hat7; obtain ⟨A7, c7, rfl, hr7⟩ := own_reads hown7; rw [← snocI, ← HU.out] at hown7; have T := (T.alloc _).left hown7 hg7 hat7; clear hown7 hg7 hat7 hr7)
            go_roundw
            case rel => exact ⟨k + 1, m + 1, A7, c7, by omega, by go_num, rfl, by omega, T⟩
            case measure => simp [intOf]; omega
          · have HU := Lib.hid (upG_no (t := t) (good_a (c := t) HAB.out))
            go_wp2_with fail
            go_roundw
            case rel => exact ⟨k + 1, m, B, cc, by omega, by go_num, rfl, by omega, by rw [HU.out]; exact HT2.out⟩
            case measure => simp [intOf]; omega
      · have HR := Lib.hid (Reads.of_own HTw.out.ownX)
        have HE : Hid (upG l t cv k = x) := Lib.hid (by rw [← HX2.out]; unfold allG; congr 1; have := HL.out; omega)
        rw [HE.out] at HR
        have HMM : Hid (m = (ints x).length) := Lib.hid (recs_len HR.out encI_len (by omega)).symm
        go_wp2_with fail
        go_ret
        exact ⟨HBF.out, B, m, cc, rfl, HR.out, HMM.out, by omega⟩
  · have HNO : Hid ([] = x) := Lib.hid (by rw [← HX.out]; unfold possZ; rw [if_neg (by rw [ho]; decide)])
    clear ho
    go_wp2_with fail
    go_loopw [10, 11] (fun s1 s wr => s1 = .slice none 0 0 ∧ s = .int .i64 0 ∧ wr = w1) (fun _ _ _ => 0)
    case atStart => exact ⟨rfl, rfl, rfl⟩
    case round =>
      obtain ⟨rfl, rfl, rfl⟩ := hrel
      go_wp2_with fail
      go_ret
      exact ⟨HBB.out, none, 0, 0, rfl, by rw [← HNO.out]; exact Reads.none_, by rw [← HNO.out]; rfl, Nat.zero_le _⟩
set_option maxHeartbeats 4000000 in
set_option maxRecDepth 10000 in
theorem poss_any (A : Option Addr) (n c : Nat) (l : List Zn) (p : Pt) (r : Int) (x : List Nat) (w : World) (h : ZR w A n l) (hn : n ≤ 9223372036854775807) (hnc : n ≤ c) (hx : possZ l p r = x) : Calls Try.prog 19 #[.slice A n c, aggP p, .int .i64 r] w (RetInts w (ints x)) := by
  obtain ⟨i0, hi0, hz0, hz1, hz2⟩ := info_parts infoInt
  obtain ⟨kk, hK⟩ := box1K w 28 #[.int .i64 p.1, .int .i64 p.2]
  have HK := Lib.hid hK
  clear hK
  obtain ⟨B0, hbb⟩ := HK.out _ kk
  have c00 := B0.cell 0
  have c01 := B0.cell 1
  have HB := Lib.hid hbb
  clear B0 hbb
  have HL := Lib.hid h.2.2; have HX := Lib.hid hx
  have HZA : Hid (∀ u, Below w.heap.size w u → ZR u A n l) := Lib.hid fun u hu => h.below hu
  clear h hx
  go_enter Try.func19, Try.ntmps19
  go_wp2_with fail
  refine (relation_any A n c l p r _ (HZA.out _ HB.out) hn hnc).mono ?_
  rintro e w1 ⟨hb1, h1⟩
  replace kk := below_next kk (Nat.le_refl _) hb1
  have HBB := Lib.hid (HK.out _ kk).2
  clear c00 c01 HB hb1 kk
  rcases h1 with ⟨ho, A1, n1, c1, A2, c2, rfl, ht, hcv, hn1⟩ | ⟨ho, rfl⟩
  · obtain rfl : n1 = n := by have := HL.out; omega
    have hn16 : n1 ≤ 16 := by have := okD_few ho; omega
    clear hn1
    obtain ⟨t, het⟩ : ∃ t, touchL l p r = t := ⟨_, rfl⟩
    obtain ⟨cv, hec⟩ : ∃ t, coverL l p r = t := ⟨_, rfl⟩
    rw [het] at ht; rw [hec] at hcv
    have HX2 : Hid (allG l t cv = x) := Lib.hid (by rw [← het, ← hec, ← HX.out]; unfold possZ; rw [if_pos ho])
    have HZ := Lib.hid (HZA.out _ HBB.out)
    have HT := Lib.hid ht; have HC := Lib.hid hcv
    have HT0 : Hid (Two w1.heap.size w1 w1 3 1 (.slice none 0 0) 0 [] 3 1 (.slice none 0 0) 0 []) := Lib.hid ⟨Below.refl _ _, Nat.le_refl _, World.ownsRow_nil _ _ _ _, World.ownsRow_nil _ _ _ _, fun g h => by simp [Value.ownBlock] at h⟩
    clear het hec ho ht hcv
    go_wp2_with fail
    go_loopw [10, 24] (fun s1 s wr => ∃ (k m : Nat) (B : Option Addr) (cc : Nat), k ≤ n1 ∧ s = .int .i64 k ∧ s1 = .slice B m cc ∧ m ≤ k ∧ Two w1.heap.size w1 wr 3 1 (.slice B m cc) m (cellsI (ints (upG l t cv k))) 3 1 (.slice none 0 0) 0 []) (fun _ s _ => n1 - (intOf s).toNat)
    case atStart => exact ⟨0, 0, none, 0, Nat.zero_le _, rfl, rfl, Nat.le_refl _, HT0.out⟩
    case round =>
      obtain ⟨k, m, B, cc, hk, rfl, rfl, hm, hT⟩ := hrel
      have HTw := Lib.hid hT
      have hbw := hT.below
      have HBF := Lib.hid (below_next HBB.out (Nat.le_refl _) hbw)
      have HZr := Lib.hid (HZ.out.below hbw); have HTr := Lib.hid ((HT.out.below hbw).more hbw.size); have HCr := Lib.hid ((HC.out.below hbw).more hbw.size)
      clear hT hbw
      by_cases hlt : k < n1
      · have hkl : k < l.length := by have := HL.out; omega
        obtain ⟨bm, om, rfl, hbm, hcm⟩ := marks_cells HTr.out (by omega)
        have e0 := hcm k hlt
        have hk0 : (0 : Int) ≤ k := by omega
        have hk1 : (k : Int) < n1 := by omega
        clear hcm
        obtain ⟨u, hu⟩ : ∃ m, mAt t k = m := ⟨_, rfl⟩
        rw [hu] at e0
        have HM := Lib.hid hu
        clear hu
        rcases u with _ | _
        · have HU := Lib.hid (upG_no (t := t) (good_c (t := cv) (l := l) HM.out))
          go_wp2_with fail
          go_roundw
          case rel => exact ⟨k + 1, m, B, cc, by omega, by go_num, rfl, by omega, by rw [HU.out]; exact HTw.out⟩
          case measure => simp [intOf]; omega
        · obtain ⟨a, ha⟩ : ∃ a, aboveB l cv k = a := ⟨_, rfl⟩
          have HAB := Lib.hid ha
          clear ha
          go_wp2_with fail
          refine (above_any A A2 n1 c c2 k l cv a _ HZr.out HCr.out (by omega) hlt HAB.out).mono ?_
          rintro e w2 ⟨rfl, hb2⟩
          have HT2 := Lib.hid (HTw.out.step hb2)
          clear hb2 e0
          rcases a with _ | _
          · have HU := Lib.hid (upG_yes (good_yes (t := cv) HM.out HAB.out))
            have T := HT2.out
            go_wp2_with (at_builtin; refine wpList_append_any _ rfl (.tmp 38) (.tmp 40) _ rfl _ 3 i0 _ 1 8 Try.underlying34 hi0 hz0 hz1 hz2 rfl (by omega) (.slice B m cc) m _ rfl (T.alloc _).ownX _ _ 1 1 [.int .i64 k] (by rfl) (fr1I _ k) oneI (by simp only [maxLen]; omega) (by omega) (T.alloc _).base ?_; intro v7 w7 hown7 hg7 hat7; obtain ⟨A7, c7, rfl, hr7⟩ := own_reads hown7; rw [← snocI, ← HU.out] at hown7; have T := (T.alloc _).left hown7 hg7 hat7; clear hown7 hg7 hat7 hr7)
            go_roundw
            case rel => exact ⟨k + 1, m + 1, A7, c7, by omega, by go_num, rfl, by omega, T⟩
            case measure => simp [intOf]; omega
          · have HU := Lib.hid (upG_no (t := t) (good_a (c := t) HAB.out))
            go_wp2_with fail
            go_roundw
            case rel => exact ⟨k + 1, m, B, cc, by omega, by go_num, rfl, by omega, by rw [HU.out]; exact HT2.out⟩
            case measure => simp [intOf]; omega
      · have HR := Lib.hid (Reads.of_own HTw.out.ownX)
        have HE : Hid (upG l t cv k = x) := Lib.hid (by rw [← HX2.out]; unfold allG; congr 1; have := HL.out; omega)
        rw [HE.out] at HR
        have HMM : Hid (m = (ints x).length) := Lib.hid (recs_len HR.out encI_len (by omega)).symm
        go_wp2_with fail
        go_ret
        exact ⟨HBF.out, B, m, cc, rfl, HR.out, HMM.out, by omega⟩
  · have HNO : Hid ([] = x) := Lib.hid (by rw [← HX.out]; unfold possZ; rw [if_neg (by rw [ho]; decide)])
    clear ho
    go_wp2_with fail
    go_ret
    exact ⟨HBB.out, none, 0, 0, rfl, by rw [← HNO.out]; exact Reads.none_, by rw [← HNO.out]; rfl, Nat.zero_le _⟩
end Go.Proofs.Ytgjfidknedojbaa
