/- The walk of ParkingPhotos. -/
import Derived.Test.YtdgdjlpbnaoheaaPkN
namespace Go.Proofs.Ytdgdjlpbnaoheaa
open Go.RowKit
theorem fault_same {l : List Fc} {m m' : Nat} {p : Pk} (hm : m ≤ 64) (hm' : m' ≤ 64) : faultZ l m p = faultZ l m' p := by
  unfold faultZ
  rw [if_neg (show ¬ 64 < m by omega), if_neg (show ¬ 64 < m' by omega)]
theorem judge_photos (s1 p1 s2 p2 o c : Bool) : judgeB s1 p1 s2 p2 o c = if judgeB s1 p1 s2 p2 o false = 3 ∧ c = true then 1 else judgeB s1 p1 s2 p2 o false := by
  cases s1 <;> cases p1 <;> cases s2 <;> cases p2 <;> cases o <;> cases c <;> rfl
theorem judge_ph (l : List Fc) (c : Bool) (p : Pk) : judgeZ l c p = if judgeZ l false p = 3 ∧ c = true then 1 else judgeZ l false p := judge_photos _ _ _ _ _ _
set_option maxHeartbeats 4000000 in
theorem parkingPhotos_walk (A : Option Addr) (n c : Nat) (l : List Fc) (A2 : Option Addr) (m c2 : Nat) (ps : List Ph) (p : Pk) (w : World) (h : FcR w A n l) (hn : n ≤ 9223372036854775807) (h2 : PsR w A2 m ps) (hm : m ≤ 9223372036854775807) : Calls Try.prog 3 #[.slice A n c, .slice A2 m c2, aggK p] w (AwakePost w) := by
  obtain ⟨kk, hK⟩ := box1K w 27 #[.int .i64 p.ride, .int .i64 p.rider, .int .i64 p.tm, .int .i64 p.x, .int .i64 p.y, .int .i64 p.r]
  have HK := Lib.hid hK
  clear hK
  obtain ⟨B0, hbb⟩ := HK.out _ kk
  have c00 := B0.cell 0
  have c01 := B0.cell 1
  have c02 := B0.cell 2
  have c03 := B0.cell 3
  have c04 := B0.cell 4
  have c05 := B0.cell 5
  have HB := Lib.hid hbb
  clear B0 hbb
  have HZA : Hid (∀ u, Below w.heap.size w u → FcR u A n l) := Lib.hid fun u hu => h.below hu
  have HZP : Hid (∀ u, Below w.heap.size w u → PsR u A2 m ps) := Lib.hid fun u hu => h2.below hu
  have HLP : Hid (ps.length = m) := Lib.hid h2.2.2
  obtain ⟨f, hf⟩ : ∃ f, fewK l ps = f := ⟨_, rfl⟩
  have HF := Lib.hid hf
  clear h h2 hf
  rcases f with _ | _
  · go_enter Try.func3, Try.ntmps3
    go_wp2_with fail
    refine (fewk_any A n c l A2 m c2 ps false _ (HZA.out _ HB.out) hn (HZP.out _ HB.out) hm HF.out).mono ?_
    rintro e w1 ⟨rfl, hb1⟩
    replace kk := below_next kk (Nat.le_refl _) hb1
    clear c00 c01 c02 c03 c04 c05 HB hb1
    obtain ⟨B0, hbb⟩ := HK.out _ kk
    have c00 := B0.cell 0
    have c01 := B0.cell 1
    have c02 := B0.cell 2
    have c03 := B0.cell 3
    have c04 := B0.cell 4
    have c05 := B0.cell 5
    have HB := Lib.hid hbb
    clear B0 hbb
    go_wp2_with fail
    refine (awake_any _).mono ?_
    rintro e w2 ⟨rfl, hb2⟩
    replace kk := below_next kk (Nat.le_refl _) hb2
    clear c00 c01 c02 c03 c04 c05 HB hb2
    obtain ⟨B0, hbb⟩ := HK.out _ kk
    have c00 := B0.cell 0
    have c01 := B0.cell 1
    have c02 := B0.cell 2
    have c03 := B0.cell 3
    have c04 := B0.cell 4
    have c05 := B0.cell 5
    have HB := Lib.hid hbb
    clear B0 hbb
    go_wp2_with fail
    go_ret
    exact ⟨rfl, HB.out⟩
  by_cases h64 : 64 < m
  · have hb : (64 : Int) < m := by omega
    go_enter Try.func3, Try.ntmps3
    go_wp2_with fail
    refine (fewk_any A n c l A2 m c2 ps true _ (HZA.out _ HB.out) hn (HZP.out _ HB.out) hm HF.out).mono ?_
    rintro e w3 ⟨rfl, hb3⟩
    replace kk := below_next kk (Nat.le_refl _) hb3
    clear c00 c01 c02 c03 c04 c05 HB hb3
    obtain ⟨B0, hbb⟩ := HK.out _ kk
    have c00 := B0.cell 0
    have c01 := B0.cell 1
    have c02 := B0.cell 2
    have c03 := B0.cell 3
    have c04 := B0.cell 4
    have c05 := B0.cell 5
    have HB := Lib.hid hbb
    clear B0 hbb
    go_wp2_with fail
    refine (awake_any _).mono ?_
    rintro e w4 ⟨rfl, hb4⟩
    replace kk := below_next kk (Nat.le_refl _) hb4
    clear c00 c01 c02 c03 c04 c05 HB hb4
    obtain ⟨B0, hbb⟩ := HK.out _ kk
    have c00 := B0.cell 0
    have c01 := B0.cell 1
    have c02 := B0.cell 2
    have c03 := B0.cell 3
    have c04 := B0.cell 4
    have c05 := B0.cell 5
    have HB := Lib.hid hbb
    clear B0 hbb
    go_wp2_with fail
    go_ret
    exact ⟨rfl, HB.out⟩
  have hb : (m : Int) ≤ 64 := by omega
  obtain ⟨y, hy⟩ : ∃ y, faultZ l 0 p = y := ⟨_, rfl⟩
  have HY := Lib.hid hy
  have hy2 : faultZ l ps.length p = y := by rw [← hy]; exact fault_same (by have := HLP.out; omega) (by omega)
  have HY2 := Lib.hid hy2
  clear h64
  by_cases h0 : y = 0
  case neg =>
    have HV1 : Hid (judgeV l [] p = (0, 0, 0, 0)) := Lib.hid (by unfold judgeV; rw [if_neg]; show ¬ faultZ l 0 p = 0; rw [hy]; exact h0)
    have HV2 : Hid (judgeV l ps p = (0, 0, 0, 0)) := Lib.hid (by unfold judgeV; rw [if_neg]; rw [hy2]; exact h0)
    have hq := eqVd 0 0 0 0
    have t0 := ne0_t h0
    clear hy hy2 h0
    go_enter Try.func3, Try.ntmps3
    go_wp2_with fail
    refine (fewk_any A n c l A2 m c2 ps true _ (HZA.out _ HB.out) hn (HZP.out _ HB.out) hm HF.out).mono ?_
    rintro e w5 ⟨rfl, hb5⟩
    replace kk := below_next kk (Nat.le_refl _) hb5
    clear c00 c01 c02 c03 c04 c05 HB hb5
    obtain ⟨B0, hbb⟩ := HK.out _ kk
    have c00 := B0.cell 0
    have c01 := B0.cell 1
    have c02 := B0.cell 2
    have c03 := B0.cell 3
    have c04 := B0.cell 4
    have c05 := B0.cell 5
    have HB := Lib.hid hbb
    clear B0 hbb
    go_wp2_with fail
    refine (pjudge_any A n c l none 0 0 [] p (0, 0, 0, 0) y _ (HZA.out _ HB.out) hn (ps_none _) (by decide) HY.out HV1.out).mono ?_
    rintro e u1 ⟨rfl, hb1⟩
    have V1 := Lib.hid (Blk.new u1 31 #[.int .i64 0, .int .i64 0, .int .i64 0, .int .i64 0])
    replace kk := (below_next kk (Nat.le_refl _) hb1).alloc (below_next kk (Nat.le_refl _) hb1).size (.cells #[.int .i64 0, .int .i64 0, .int .i64 0, .int .i64 0] 31)
    clear HB hb1 c00 c01 c02 c03 c04 c05
    obtain ⟨B0, hbb⟩ := HK.out _ kk
    have c00 := B0.cell 0
    have c01 := B0.cell 1
    have c02 := B0.cell 2
    have c03 := B0.cell 3
    have c04 := B0.cell 4
    have c05 := B0.cell 5
    have HB := Lib.hid hbb
    clear B0 hbb
    go_wp2_with fail
    refine (pjudge_any A n c l A2 m c2 ps p (0, 0, 0, 0) y _ (HZA.out _ HB.out) hn (HZP.out _ HB.out) hm HY2.out HV2.out).mono ?_
    rintro e u2 ⟨rfl, hb2⟩
    replace V1 := Lib.hid ((V1.out.ofBelow hb2).alloc (.cells #[.int .i64 0, .int .i64 0, .int .i64 0, .int .i64 0] 31))
    have V2 := Lib.hid (Blk.new u2 31 #[.int .i64 0, .int .i64 0, .int .i64 0, .int .i64 0])
    have HSZ2 : Hid (w.heap.size ≤ u2.heap.size) := Lib.hid (Nat.le_trans HB.out.size hb2.size)
    replace kk := (below_next kk (Nat.le_refl _) hb2).alloc (below_next kk (Nat.le_refl _) hb2).size (.cells #[.int .i64 0, .int .i64 0, .int .i64 0, .int .i64 0] 31)
    clear HB hb2 c00 c01 c02 c03 c04 c05
    obtain ⟨B0, hbb⟩ := HK.out _ kk
    have c00 := B0.cell 0
    have c01 := B0.cell 1
    have c02 := B0.cell 2
    have c03 := B0.cell 3
    have c04 := B0.cell 4
    have c05 := B0.cell 5
    have HB := Lib.hid hbb
    clear B0 hbb
    have xv1_0 := (V1.out.cell 0).trans rfl
    have xv1_1 := (V1.out.cell 1).trans rfl
    have xv1_2 := (V1.out.cell 2).trans rfl
    have xv1_3 := (V1.out.cell 3).trans rfl
    have xv2_0 := (V2.out.cell 0).trans rfl
    have xv2_1 := (V2.out.cell 1).trans rfl
    have xv2_2 := (V2.out.cell 2).trans rfl
    have xv2_3 := (V2.out.cell 3).trans rfl
    go_wp2_with fail
    refine (awake_any _).mono ?_
    rintro e w6 ⟨rfl, hb6⟩
    replace kk := below_next kk (Nat.le_refl _) hb6
    clear c00 c01 c02 c03 c04 c05 HB hb6
    obtain ⟨B0, hbb⟩ := HK.out _ kk
    have c00 := B0.cell 0
    have c01 := B0.cell 1
    have c02 := B0.cell 2
    have c03 := B0.cell 3
    have c04 := B0.cell 4
    have c05 := B0.cell 5
    have HB := Lib.hid hbb
    clear B0 hbb
    go_wp2_with fail
    go_ret
    exact ⟨rfl, HB.out⟩
  subst h0
  obtain ⟨hp, hl, _⟩ := fault_inv hy
  have htm := (pkB_inv hp).2.2.1
  obtain ⟨k0, hk0⟩ : ∃ k, judgeZ l false p = k := ⟨_, rfl⟩
  obtain ⟨cc, hcc⟩ : ∃ k, countsB ps p = k := ⟨_, rfl⟩
  have HCC := Lib.hid hcc
  have HV1 : Hid (judgeV l [] p = (p.ride, p.rider, p.tm, k0)) := Lib.hid (by unfold judgeV; rw [if_pos (show faultZ l ([] : List Ph).length p = 0 from hy)]; unfold verdict; rw [show countsB [] p = false from rfl, hk0])
  have hk1 : judgeZ l (countsB ps p) p = if k0 = 3 ∧ cc = true then 1 else k0 := by rw [hcc, judge_ph, hk0]
  have HV2' : Hid (∀ k1, (if k0 = 3 ∧ cc = true then 1 else k0) = k1 → judgeV l ps p = (p.ride, p.rider, p.tm, k1)) := Lib.hid (fun k1 e => by unfold judgeV; rw [if_pos hy2]; unfold verdict; rw [hk1, e])
  clear hy hy2 hp hl hk0 hcc hk1
  by_cases h3 : k0 = 3
  case neg =>
    have HV2 := Lib.hid (HV2'.out k0 (if_neg (fun e => h3 e.1)))
    have hq := eqVd p.ride p.rider p.tm k0
    have t3 : (k0 == 3) = false := by simp [h3]
    have t4 : decide (k0 = 3) = false := by simp [h3]
    clear h3
    go_enter Try.func3, Try.ntmps3
    go_wp2_with fail
    refine (fewk_any A n c l A2 m c2 ps true _ (HZA.out _ HB.out) hn (HZP.out _ HB.out) hm HF.out).mono ?_
    rintro e w7 ⟨rfl, hb7⟩
    replace kk := below_next kk (Nat.le_refl _) hb7
    clear c00 c01 c02 c03 c04 c05 HB hb7
    obtain ⟨B0, hbb⟩ := HK.out _ kk
    have c00 := B0.cell 0
    have c01 := B0.cell 1
    have c02 := B0.cell 2
    have c03 := B0.cell 3
    have c04 := B0.cell 4
    have c05 := B0.cell 5
    have HB := Lib.hid hbb
    clear B0 hbb
    go_wp2_with fail
    refine (pjudge_any A n c l none 0 0 [] p (p.ride, p.rider, p.tm, k0) 0 _ (HZA.out _ HB.out) hn (ps_none _) (by decide) HY.out HV1.out).mono ?_
    rintro e u1 ⟨rfl, hb1⟩
    have V1 := Lib.hid (Blk.new u1 31 #[.int .i64 p.ride, .int .i64 p.rider, .int .i64 p.tm, .int .i64 k0])
    replace kk := (below_next kk (Nat.le_refl _) hb1).alloc (below_next kk (Nat.le_refl _) hb1).size (.cells #[.int .i64 p.ride, .int .i64 p.rider, .int .i64 p.tm, .int .i64 k0] 31)
    clear HB hb1 c00 c01 c02 c03 c04 c05
    obtain ⟨B0, hbb⟩ := HK.out _ kk
    have c00 := B0.cell 0
    have c01 := B0.cell 1
    have c02 := B0.cell 2
    have c03 := B0.cell 3
    have c04 := B0.cell 4
    have c05 := B0.cell 5
    have HB := Lib.hid hbb
    clear B0 hbb
    go_wp2_with fail
    refine (pjudge_any A n c l A2 m c2 ps p (p.ride, p.rider, p.tm, k0) 0 _ (HZA.out _ HB.out) hn (HZP.out _ HB.out) hm HY2.out HV2.out).mono ?_
    rintro e u2 ⟨rfl, hb2⟩
    replace V1 := Lib.hid ((V1.out.ofBelow hb2).alloc (.cells #[.int .i64 p.ride, .int .i64 p.rider, .int .i64 p.tm, .int .i64 k0] 31))
    have V2 := Lib.hid (Blk.new u2 31 #[.int .i64 p.ride, .int .i64 p.rider, .int .i64 p.tm, .int .i64 k0])
    have HSZ2 : Hid (w.heap.size ≤ u2.heap.size) := Lib.hid (Nat.le_trans HB.out.size hb2.size)
    replace kk := (below_next kk (Nat.le_refl _) hb2).alloc (below_next kk (Nat.le_refl _) hb2).size (.cells #[.int .i64 p.ride, .int .i64 p.rider, .int .i64 p.tm, .int .i64 k0] 31)
    clear HB hb2 c00 c01 c02 c03 c04 c05
    obtain ⟨B0, hbb⟩ := HK.out _ kk
    have c00 := B0.cell 0
    have c01 := B0.cell 1
    have c02 := B0.cell 2
    have c03 := B0.cell 3
    have c04 := B0.cell 4
    have c05 := B0.cell 5
    have HB := Lib.hid hbb
    clear B0 hbb
    have v1_0 := (V1.out.cell 0).trans rfl; have v1_1 := (V1.out.cell 1).trans rfl; have v1_2 := (V1.out.cell 2).trans rfl; have v1_3 := (V1.out.cell 3).trans rfl
    have W1 := V1.out.alloc (.cells #[.int .i64 p.ride, .int .i64 p.rider, .int .i64 p.tm, .int .i64 k0] 31); have W2 := V2.out.alloc (.cells #[.int .i64 p.ride, .int .i64 p.rider, .int .i64 p.tm, .int .i64 k0] 31)
    have W3 : Hid (Blk _ (u2.heap.size + 1) 31 #[.int .i64 p.ride, .int .i64 p.rider, .int .i64 p.tm, .int .i64 k0]) := Lib.hid (by simpa using Blk.new (u2.alloc (.cells #[.int .i64 p.ride, .int .i64 p.rider, .int .i64 p.tm, .int .i64 k0] 31)) 31 #[.int .i64 p.ride, .int .i64 p.rider, .int .i64 p.tm, .int .i64 k0])
    have w1_0 := (W1.cell 0).trans rfl; have w1_1 := (W1.cell 1).trans rfl; have w1_2 := (W1.cell 2).trans rfl; have w1_3 := (W1.cell 3).trans rfl
    have w2_0 := (W2.cell 0).trans rfl; have w2_1 := (W2.cell 1).trans rfl; have w2_2 := (W2.cell 2).trans rfl; have w2_3 := (W2.cell 3).trans rfl
    replace V1 := Lib.hid W1; replace V2 := Lib.hid W2; have V3 := W3
    replace kk := kk.alloc kk.size (.cells #[.int .i64 p.ride, .int .i64 p.rider, .int .i64 p.tm, .int .i64 k0] 31)
    clear W1 W2 W3 HB c00 c01 c02 c03 c04 c05
    obtain ⟨B0, hbb⟩ := HK.out _ kk
    have c00 := B0.cell 0
    have c01 := B0.cell 1
    have c02 := B0.cell 2
    have c03 := B0.cell 3
    have c04 := B0.cell 4
    have c05 := B0.cell 5
    have HB := Lib.hid hbb
    clear B0 hbb
    go_wp2_with fail
    refine (awake_any _).mono ?_
    rintro e w8 ⟨rfl, hb8⟩
    replace kk := below_next kk (Nat.le_refl _) hb8
    clear c00 c01 c02 c03 c04 c05 HB hb8
    obtain ⟨B0, hbb⟩ := HK.out _ kk
    have c00 := B0.cell 0
    have c01 := B0.cell 1
    have c02 := B0.cell 2
    have c03 := B0.cell 3
    have c04 := B0.cell 4
    have c05 := B0.cell 5
    have HB := Lib.hid hbb
    clear B0 hbb
    go_wp2_with fail
    go_ret
    exact ⟨rfl, HB.out⟩
  subst h3
  rcases cc with _ | _
  · have HV2 := Lib.hid (HV2'.out 3 (if_neg (fun e => by cases e.2)))
    have hq := eqVd p.ride p.rider p.tm 3
    go_enter Try.func3, Try.ntmps3
    go_wp2_with fail
    refine (fewk_any A n c l A2 m c2 ps true _ (HZA.out _ HB.out) hn (HZP.out _ HB.out) hm HF.out).mono ?_
    rintro e w9 ⟨rfl, hb9⟩
    replace kk := below_next kk (Nat.le_refl _) hb9
    clear c00 c01 c02 c03 c04 c05 HB hb9
    obtain ⟨B0, hbb⟩ := HK.out _ kk
    have c00 := B0.cell 0
    have c01 := B0.cell 1
    have c02 := B0.cell 2
    have c03 := B0.cell 3
    have c04 := B0.cell 4
    have c05 := B0.cell 5
    have HB := Lib.hid hbb
    clear B0 hbb
    go_wp2_with fail
    refine (pjudge_any A n c l none 0 0 [] p (p.ride, p.rider, p.tm, 3) 0 _ (HZA.out _ HB.out) hn (ps_none _) (by decide) HY.out HV1.out).mono ?_
    rintro e u1 ⟨rfl, hb1⟩
    have V1 := Lib.hid (Blk.new u1 31 #[.int .i64 p.ride, .int .i64 p.rider, .int .i64 p.tm, .int .i64 3])
    replace kk := (below_next kk (Nat.le_refl _) hb1).alloc (below_next kk (Nat.le_refl _) hb1).size (.cells #[.int .i64 p.ride, .int .i64 p.rider, .int .i64 p.tm, .int .i64 3] 31)
    clear HB hb1 c00 c01 c02 c03 c04 c05
    obtain ⟨B0, hbb⟩ := HK.out _ kk
    have c00 := B0.cell 0
    have c01 := B0.cell 1
    have c02 := B0.cell 2
    have c03 := B0.cell 3
    have c04 := B0.cell 4
    have c05 := B0.cell 5
    have HB := Lib.hid hbb
    clear B0 hbb
    go_wp2_with fail
    refine (pjudge_any A n c l A2 m c2 ps p (p.ride, p.rider, p.tm, 3) 0 _ (HZA.out _ HB.out) hn (HZP.out _ HB.out) hm HY2.out HV2.out).mono ?_
    rintro e u2 ⟨rfl, hb2⟩
    replace V1 := Lib.hid ((V1.out.ofBelow hb2).alloc (.cells #[.int .i64 p.ride, .int .i64 p.rider, .int .i64 p.tm, .int .i64 3] 31))
    have V2 := Lib.hid (Blk.new u2 31 #[.int .i64 p.ride, .int .i64 p.rider, .int .i64 p.tm, .int .i64 3])
    have HSZ2 : Hid (w.heap.size ≤ u2.heap.size) := Lib.hid (Nat.le_trans HB.out.size hb2.size)
    replace kk := (below_next kk (Nat.le_refl _) hb2).alloc (below_next kk (Nat.le_refl _) hb2).size (.cells #[.int .i64 p.ride, .int .i64 p.rider, .int .i64 p.tm, .int .i64 3] 31)
    clear HB hb2 c00 c01 c02 c03 c04 c05
    obtain ⟨B0, hbb⟩ := HK.out _ kk
    have c00 := B0.cell 0
    have c01 := B0.cell 1
    have c02 := B0.cell 2
    have c03 := B0.cell 3
    have c04 := B0.cell 4
    have c05 := B0.cell 5
    have HB := Lib.hid hbb
    clear B0 hbb
    have v1_0 := (V1.out.cell 0).trans rfl; have v1_1 := (V1.out.cell 1).trans rfl; have v1_2 := (V1.out.cell 2).trans rfl; have v1_3 := (V1.out.cell 3).trans rfl
    have W1 := V1.out.alloc (.cells #[.int .i64 p.ride, .int .i64 p.rider, .int .i64 p.tm, .int .i64 3] 31); have W2 := V2.out.alloc (.cells #[.int .i64 p.ride, .int .i64 p.rider, .int .i64 p.tm, .int .i64 3] 31)
    have W3 : Hid (Blk _ (u2.heap.size + 1) 31 #[.int .i64 p.ride, .int .i64 p.rider, .int .i64 p.tm, .int .i64 3]) := Lib.hid (by simpa using Blk.new (u2.alloc (.cells #[.int .i64 p.ride, .int .i64 p.rider, .int .i64 p.tm, .int .i64 3] 31)) 31 #[.int .i64 p.ride, .int .i64 p.rider, .int .i64 p.tm, .int .i64 3])
    have w1_0 := (W1.cell 0).trans rfl; have w1_1 := (W1.cell 1).trans rfl; have w1_2 := (W1.cell 2).trans rfl; have w1_3 := (W1.cell 3).trans rfl
    have w2_0 := (W2.cell 0).trans rfl; have w2_1 := (W2.cell 1).trans rfl; have w2_2 := (W2.cell 2).trans rfl; have w2_3 := (W2.cell 3).trans rfl
    replace V1 := Lib.hid W1; replace V2 := Lib.hid W2; have V3 := W3
    replace kk := kk.alloc kk.size (.cells #[.int .i64 p.ride, .int .i64 p.rider, .int .i64 p.tm, .int .i64 3] 31)
    clear W1 W2 W3 HB c00 c01 c02 c03 c04 c05
    obtain ⟨B0, hbb⟩ := HK.out _ kk
    have c00 := B0.cell 0
    have c01 := B0.cell 1
    have c02 := B0.cell 2
    have c03 := B0.cell 3
    have c04 := B0.cell 4
    have c05 := B0.cell 5
    have HB := Lib.hid hbb
    clear B0 hbb
    go_wp2_with fail
    refine (lcounts_any A2 m c2 ps p false _ (HZP.out _ HB.out) hm htm HCC.out).mono ?_
    rintro e u4 ⟨rfl, hb4⟩
    replace V1 := Lib.hid (V1.out.ofBelow hb4); replace V2 := Lib.hid (V2.out.ofBelow hb4); replace V3 := Lib.hid (V3.out.ofBelow hb4)
    replace kk := below_next kk (Nat.le_refl _) hb4
    clear HB hb4 v1_0 v1_1 v1_2 v1_3 w1_0 w1_1 w1_2 w1_3 w2_0 w2_1 w2_2 w2_3 c00 c01 c02 c03 c04 c05
    obtain ⟨B0, hbb⟩ := HK.out _ kk
    have c00 := B0.cell 0
    have c01 := B0.cell 1
    have c02 := B0.cell 2
    have c03 := B0.cell 3
    have c04 := B0.cell 4
    have c05 := B0.cell 5
    have HB := Lib.hid hbb
    clear B0 hbb
    have xv1_0 := (V1.out.cell 0).trans rfl
    have xv1_1 := (V1.out.cell 1).trans rfl
    have xv1_2 := (V1.out.cell 2).trans rfl
    have xv1_3 := (V1.out.cell 3).trans rfl
    have xv2_0 := (V2.out.cell 0).trans rfl
    have xv2_1 := (V2.out.cell 1).trans rfl
    have xv2_2 := (V2.out.cell 2).trans rfl
    have xv2_3 := (V2.out.cell 3).trans rfl
    have xv3_0 := (V3.out.cell 0).trans rfl
    have xv3_1 := (V3.out.cell 1).trans rfl
    have xv3_2 := (V3.out.cell 2).trans rfl
    have xv3_3 := (V3.out.cell 3).trans rfl
    go_wp2_with fail
    refine (awake_any _).mono ?_
    rintro e w10 ⟨rfl, hb10⟩
    replace kk := below_next kk (Nat.le_refl _) hb10
    clear c00 c01 c02 c03 c04 c05 HB hb10
    obtain ⟨B0, hbb⟩ := HK.out _ kk
    have c00 := B0.cell 0
    have c01 := B0.cell 1
    have c02 := B0.cell 2
    have c03 := B0.cell 3
    have c04 := B0.cell 4
    have c05 := B0.cell 5
    have HB := Lib.hid hbb
    clear B0 hbb
    go_wp2_with fail
    go_ret
    exact ⟨rfl, HB.out⟩
  · have HV2 := Lib.hid (HV2'.out 1 (if_pos ⟨rfl, rfl⟩))
    have hq := eqVd p.ride p.rider p.tm 1
    go_enter Try.func3, Try.ntmps3
    go_wp2_with fail
    refine (fewk_any A n c l A2 m c2 ps true _ (HZA.out _ HB.out) hn (HZP.out _ HB.out) hm HF.out).mono ?_
    rintro e w11 ⟨rfl, hb11⟩
    replace kk := below_next kk (Nat.le_refl _) hb11
    clear c00 c01 c02 c03 c04 c05 HB hb11
    obtain ⟨B0, hbb⟩ := HK.out _ kk
    have c00 := B0.cell 0
    have c01 := B0.cell 1
    have c02 := B0.cell 2
    have c03 := B0.cell 3
    have c04 := B0.cell 4
    have c05 := B0.cell 5
    have HB := Lib.hid hbb
    clear B0 hbb
    go_wp2_with fail
    refine (pjudge_any A n c l none 0 0 [] p (p.ride, p.rider, p.tm, 3) 0 _ (HZA.out _ HB.out) hn (ps_none _) (by decide) HY.out HV1.out).mono ?_
    rintro e u1 ⟨rfl, hb1⟩
    have V1 := Lib.hid (Blk.new u1 31 #[.int .i64 p.ride, .int .i64 p.rider, .int .i64 p.tm, .int .i64 3])
    replace kk := (below_next kk (Nat.le_refl _) hb1).alloc (below_next kk (Nat.le_refl _) hb1).size (.cells #[.int .i64 p.ride, .int .i64 p.rider, .int .i64 p.tm, .int .i64 3] 31)
    clear HB hb1 c00 c01 c02 c03 c04 c05
    obtain ⟨B0, hbb⟩ := HK.out _ kk
    have c00 := B0.cell 0
    have c01 := B0.cell 1
    have c02 := B0.cell 2
    have c03 := B0.cell 3
    have c04 := B0.cell 4
    have c05 := B0.cell 5
    have HB := Lib.hid hbb
    clear B0 hbb
    go_wp2_with fail
    refine (pjudge_any A n c l A2 m c2 ps p (p.ride, p.rider, p.tm, 1) 0 _ (HZA.out _ HB.out) hn (HZP.out _ HB.out) hm HY2.out HV2.out).mono ?_
    rintro e u2 ⟨rfl, hb2⟩
    replace V1 := Lib.hid ((V1.out.ofBelow hb2).alloc (.cells #[.int .i64 p.ride, .int .i64 p.rider, .int .i64 p.tm, .int .i64 1] 31))
    have V2 := Lib.hid (Blk.new u2 31 #[.int .i64 p.ride, .int .i64 p.rider, .int .i64 p.tm, .int .i64 1])
    have HSZ2 : Hid (w.heap.size ≤ u2.heap.size) := Lib.hid (Nat.le_trans HB.out.size hb2.size)
    replace kk := (below_next kk (Nat.le_refl _) hb2).alloc (below_next kk (Nat.le_refl _) hb2).size (.cells #[.int .i64 p.ride, .int .i64 p.rider, .int .i64 p.tm, .int .i64 1] 31)
    clear HB hb2 c00 c01 c02 c03 c04 c05
    obtain ⟨B0, hbb⟩ := HK.out _ kk
    have c00 := B0.cell 0
    have c01 := B0.cell 1
    have c02 := B0.cell 2
    have c03 := B0.cell 3
    have c04 := B0.cell 4
    have c05 := B0.cell 5
    have HB := Lib.hid hbb
    clear B0 hbb
    have v1_0 := (V1.out.cell 0).trans rfl; have v1_1 := (V1.out.cell 1).trans rfl; have v1_2 := (V1.out.cell 2).trans rfl; have v1_3 := (V1.out.cell 3).trans rfl
    have W1 := V1.out.alloc (.cells #[.int .i64 p.ride, .int .i64 p.rider, .int .i64 p.tm, .int .i64 3] 31); have W2 := V2.out.alloc (.cells #[.int .i64 p.ride, .int .i64 p.rider, .int .i64 p.tm, .int .i64 3] 31)
    have W3 : Hid (Blk _ (u2.heap.size + 1) 31 #[.int .i64 p.ride, .int .i64 p.rider, .int .i64 p.tm, .int .i64 3]) := Lib.hid (by simpa using Blk.new (u2.alloc (.cells #[.int .i64 p.ride, .int .i64 p.rider, .int .i64 p.tm, .int .i64 1] 31)) 31 #[.int .i64 p.ride, .int .i64 p.rider, .int .i64 p.tm, .int .i64 3])
    have w1_0 := (W1.cell 0).trans rfl; have w1_1 := (W1.cell 1).trans rfl; have w1_2 := (W1.cell 2).trans rfl; have w1_3 := (W1.cell 3).trans rfl
    have w2_0 := (W2.cell 0).trans rfl; have w2_1 := (W2.cell 1).trans rfl; have w2_2 := (W2.cell 2).trans rfl; have w2_3 := (W2.cell 3).trans rfl
    replace V1 := Lib.hid W1; replace V2 := Lib.hid W2; have V3 := W3
    replace kk := kk.alloc kk.size (.cells #[.int .i64 p.ride, .int .i64 p.rider, .int .i64 p.tm, .int .i64 3] 31)
    clear W1 W2 W3 HB c00 c01 c02 c03 c04 c05
    obtain ⟨B0, hbb⟩ := HK.out _ kk
    have c00 := B0.cell 0
    have c01 := B0.cell 1
    have c02 := B0.cell 2
    have c03 := B0.cell 3
    have c04 := B0.cell 4
    have c05 := B0.cell 5
    have HB := Lib.hid hbb
    clear B0 hbb
    go_wp2_with fail
    refine (lcounts_any A2 m c2 ps p true _ (HZP.out _ HB.out) hm htm HCC.out).mono ?_
    rintro e u4 ⟨rfl, hb4⟩
    replace V1 := Lib.hid (V1.out.ofBelow hb4); replace V2 := Lib.hid (V2.out.ofBelow hb4); replace V3 := Lib.hid (V3.out.ofBelow hb4)
    replace kk := below_next kk (Nat.le_refl _) hb4
    clear HB hb4 v1_0 v1_1 v1_2 v1_3 w1_0 w1_1 w1_2 w1_3 w2_0 w2_1 w2_2 w2_3 c00 c01 c02 c03 c04 c05
    obtain ⟨B0, hbb⟩ := HK.out _ kk
    have c00 := B0.cell 0
    have c01 := B0.cell 1
    have c02 := B0.cell 2
    have c03 := B0.cell 3
    have c04 := B0.cell 4
    have c05 := B0.cell 5
    have HB := Lib.hid hbb
    clear B0 hbb
    have xv2_0 := (V2.out.cell 0).trans rfl
    have xv2_1 := (V2.out.cell 1).trans rfl
    have xv2_2 := (V2.out.cell 2).trans rfl
    have xv2_3 := (V2.out.cell 3).trans rfl
    have x3 := (V3.out.cell 3).trans rfl
    have z3 := V3.out.frozen 3
    have v3_0 := (V3.out.cell 0).trans rfl; have v3_1 := (V3.out.cell 1).trans rfl; have v3_2 := (V3.out.cell 2).trans rfl
    have hne2 : u2.heap.size ≠ u2.heap.size + 1 := by omega
    have HBS := Lib.hid (HB.out.setCell (p := ⟨u2.heap.size + 1, 3, none⟩) (show w.heap.size ≤ u2.heap.size + 1 by have := HSZ2.out; omega) (.int .i64 1))
    go_wp2_with fail
    refine (awake_any _).mono ?_
    rintro e wz ⟨rfl, hbz⟩
    have HBZ := Lib.hid (below_next HBS.out (Nat.le_refl _) hbz)
    clear hbz
    go_wp2_with fail
    go_ret
    exact ⟨rfl, HBZ.out⟩
end Go.Proofs.Ytdgdjlpbnaoheaa
