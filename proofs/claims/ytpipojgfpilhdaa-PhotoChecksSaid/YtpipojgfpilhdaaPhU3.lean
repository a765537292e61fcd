/- The reference's Digest; the walk of PhotoChecks. -/
import Derived.Test.YtpipojgfpilhdaaPhU2
import Derived.Test.YtpipojgfpilhdaaPhV
namespace Go.Proofs.Ytpipojgfpilhdaa
open Go.RowKit
theorem rput_own (p : Ph) (hx : pcheckZ p = 0) (k : Nat) (v : Int) (hk : k < 4) (hv : (#[.int .i64 p.ride, .int .i64 p.tm, .int .i64 p.W, .int .i64 p.H] : Array Value)[k]? = some (.int .i64 v)) (A : Option Addr) (n c : Nat) (w : World) (h : Reads w w.heap.size 1 A n (cellsU (encTo (nums p) k))) :
    Calls Try.prog 30 #[.slice A n c, .int .i64 v] w (fun e w' => ∃ A' n' c', e = .returned (.slice A' n' c') ∧ w'.ownsRow w.heap.size 5 1 (.slice A' n' c') n' (cellsU (encTo (nums p) (k + 1))) ∧ Below w.heap.size w w') := by
  obtain ⟨x, h1, h2, h3⟩ := nums_at hx hk
  obtain rfl : v = (x : Int) := by rw [hv] at h1; injection h1 with h1; injection h1
  have hl := encTo_len (nums p) k
  have := reads_len h
  refine (rputInt_any A n c _ x w h (by omega) h2).mono ?_
  rintro e w' ⟨A', n', c', rfl, ho, hb⟩
  rw [← h3] at ho
  exact ⟨A', n', c', rfl, ho, hb⟩
set_option maxHeartbeats 8000000 in
set_option maxRecDepth 20000 in
theorem rdigest_any (p : Ph) (d x : Int) (w : World) (h : PR w p) (hd : digZ p = d) (hx : pcheckZ p = x) : Calls Try.prog 14 #[aggF p] w (RetDE w d x) := by
  obtain ⟨i0, hi0, hz0, hz1, hz2⟩ := info_parts infoByte
  obtain ⟨kk, hK⟩ := box1K w 24 #[.int .i64 p.ride, .int .i64 p.tm, .int .i64 p.W, .int .i64 p.H, .slice p.A p.n p.c]
  have HK := Lib.hid hK
  clear hK
  obtain ⟨B0, hbb⟩ := HK.out _ kk
  have c00 := B0.cell 0
  have c01 := B0.cell 1
  have c02 := B0.cell 2
  have c03 := B0.cell 3
  have c04 := B0.cell 4
  have HB := Lib.hid hbb
  clear B0 hbb
  have HPA : Hid (∀ u, Below w.heap.size w u → PR u p) := Lib.hid fun u hu => h.below hu
  have HBY := Lib.hid h.2.1
  have HX := Lib.hid hx
  by_cases h0 : x = 0
  · subst h0
    have HD : Hid (sumV 0 0 (encTo (nums p) 4 ++ p.px) = d) := Lib.hid (by rw [← hd]; unfold digZ; rw [if_pos hx]; rfl)
    have hn : p.n ≤ 4096 := by
      obtain ⟨_, _, _, _, g5, g6, g7, g8, g9⟩ := pcheck_inv hx
      have := mul_wh g5 g6 g7 g8
      omega
    clear h hd hx
    go_enter Try.func14, Try.ntmps14
    go_wp2_with fail
    refine (rpcheck_any p 0 _ HX.out).mono ?_
    rintro e w1 ⟨rfl, hb1⟩
    replace kk := below_next kk (Nat.le_refl _) hb1
    clear c00 c01 c02 c03 c04 HB hb1
    obtain ⟨B0, hbb⟩ := HK.out _ kk
    have c00 := B0.cell 0
    have c01 := B0.cell 1
    have c02 := B0.cell 2
    have c03 := B0.cell 3
    have c04 := B0.cell 4
    have HB := Lib.hid hbb
    clear B0 hbb
    go_wp2_with fail
    have HK1 := Lib.hid kk
    obtain ⟨B1, _⟩ := HK.out _ kk
    have HB1 := Lib.hid B1
    clear c00 c01 c02 c03 c04 HB kk B1
    obtain ⟨D, hD0, hDi, F0, F1, F2, F3⟩ : ∃ D : World → Prop, D w1.drew ∧ (∀ u, Below w1.heap.size w1 u → D u) ∧ (∀ z : DFam D, z.val.cell? ⟨w.heap.size, 0, none⟩ = some (.int .i64 p.ride)) ∧ (∀ z : DFam D, z.val.cell? ⟨w.heap.size, 1, none⟩ = some (.int .i64 p.tm)) ∧ (∀ z : DFam D, z.val.cell? ⟨w.heap.size, 2, none⟩ = some (.int .i64 p.W)) ∧ (∀ z : DFam D, z.val.cell? ⟨w.heap.size, 3, none⟩ = some (.int .i64 p.H)) :=
      ⟨fun u => Below w1.heap.size w1 u, (Below.refl _ _).drew, fun u h => h, fun z => ((HB1.out.below z.prop HB1.out.lt).cell 0).trans rfl, fun z => ((HB1.out.below z.prop HB1.out.lt).cell 1).trans rfl, fun z => ((HB1.out.below z.prop HB1.out.lt).cell 2).trans rfl, fun z => ((HB1.out.below z.prop HB1.out.lt).cell 3).trans rfl⟩
    haveI : Nonempty (DFam D) := ⟨⟨_, hD0⟩⟩
    refine wp_region_mask [true, true, false, true, true, false, true, true, false, true, true, false, false] 4 D (by kernel_rfl) (by kernel_rfl) hD0 ?_
    simp only [selT, selF, List.take_succ_cons, List.take_zero, List.drop_succ_cons, List.drop_zero]
    repeat (go_big_quiet_step (fail))
    refine wpQuiet_nil (wpEarly_cons ?_)
    clear F0 F1 F2 F3
    have HU0 : Hid (Below w1.heap.size w1 w1.drew) := Lib.hid (Below.refl _ _).drew
    have HR0 : Hid (Reads w1.drew w1.drew.heap.size 1 none 0 (cellsU (encTo (nums p) 0))) := Lib.hid Reads.none_
    go_wp2_with fail
    refine (rput_own p HX.out 0 p.ride (by decide) rfl none 0 0 _ HR0.out).mono ?_
    rintro e u1 ⟨A1, n1, c1, rfl, ho, hb⟩
    have HO1 := Lib.hid ho
    have HR1 := Lib.hid (Reads.of_own ho)
    have HU1 := Lib.hid (below_next HU0.out (Nat.le_refl _) hb)
    clear ho hb
    go_wp2_with fail
    refine QN_normal ⟨hDi _ HU1.out, wpEarly_cons ?_⟩
    go_wp2_with fail
    refine (rput_own p HX.out 1 p.tm (by decide) rfl A1 n1 c1 _ HR1.out).mono ?_
    rintro e u2 ⟨A2, n2, c2, rfl, ho, hb⟩
    have HO2 := Lib.hid ho
    have HR2 := Lib.hid (Reads.of_own ho)
    have HU2 := Lib.hid (below_next HU1.out (Nat.le_refl _) hb)
    clear ho hb
    go_wp2_with fail
    refine QN_normal ⟨hDi _ HU2.out, wpEarly_cons ?_⟩
    go_wp2_with fail
    refine (rput_own p HX.out 2 p.W (by decide) rfl A2 n2 c2 _ HR2.out).mono ?_
    rintro e u3 ⟨A3, n3, c3, rfl, ho, hb⟩
    have HO3 := Lib.hid ho
    have HR3 := Lib.hid (Reads.of_own ho)
    have HU3 := Lib.hid (below_next HU2.out (Nat.le_refl _) hb)
    clear ho hb
    go_wp2_with fail
    refine QN_normal ⟨hDi _ HU3.out, wpEarly_cons ?_⟩
    go_wp2_with fail
    refine (rput_own p HX.out 3 p.H (by decide) rfl A3 n3 c3 _ HR3.out).mono ?_
    rintro e u4 ⟨A4, n4, c4, rfl, ho, hb⟩
    have HO4 := Lib.hid ho
    have HR4 := Lib.hid (Reads.of_own ho)
    have HU4 := Lib.hid (below_next HU3.out (Nat.le_refl _) hb)
    clear ho hb
    go_wp2_with fail
    refine QN_normal ⟨hDi _ HU4.out, wpEarly_nil ?_⟩
    have HLN : Hid (n4 ≤ 40) := Lib.hid (by have := encTo_len (nums p) 4; have h2 : (encTo (nums p) 4).length = n4 := reads_len HR4.out; omega)
    have hn40 := HLN.out
    obtain ⟨B4, hbw4⟩ := HK.out _ (below_next HK1.out (Nat.le_refl _) HU4.out)
    have HB4 := Lib.hid B4
    have HBW4 := Lib.hid hbw4
    have HPo := Lib.hid (HPA.out _ hbw4)
    have c04 := (B4.cell 4).trans rfl
    have HOW : Hid (u4.ownsRow w.heap.size 5 1 (.slice A4 n4 c4) n4 (cellsU (encTo (nums p) 4))) := Lib.hid (own_mono HO4.out (Nat.le_trans (HK.out _ HK1.out).2.size (Nat.le_trans HU3.out.size (Nat.le_refl _))))
    clear B4 hbw4 hD0 hDi
    go_wp2_with (at_builtin; refine wpList_append_any _ rfl (.tmp 24) (.tmp 26) _ rfl w.heap.size 5 i0 _ 1 1 Try.underlying22 hi0 hz0 hz1 hz2 rfl (by omega) (.slice A4 n4 c4) n4 _ (by rfl) HOW.out _ p.A p.n p.c (cellsU p.px) (by rfl) HPo.out.1 oneU (le_max (by omega)) (by omega) HBW4.out.size ?_; intro v7 w7 hown7 hg7 hat7; obtain ⟨A7, c7, rfl, hr7⟩ := own_reads hown7; have hb7 : Below w.heap.size w w7 := below_own HBW4.out HOW.out hg7 HBW4.out.size (Nat.le_refl _); have HB7 := Lib.hid hb7; have HO7 := Lib.hid hown7; clear hb7 hown7 hg7 hat7 hr7)
    have HR7 : Hid (Reads w7 w7.heap.size 1 A7 (n4 + p.n) (cellsU (encTo (nums p) 4 ++ p.px))) := Lib.hid (by rw [appU]; exact Reads.of_own HO7.out)
    refine (rsum_any A7 (n4 + p.n) c7 _ 0 0 d _ HR7.out ((encTo_bytes _ _).append HBY.out) (by omega) HD.out).mono ?_
    rintro e w8 ⟨rfl, hb8⟩
    have HB8 := Lib.hid (below_next HB7.out (Nat.le_refl _) hb8)
    clear hb8
    go_wp2_with fail
    go_ret2
    exact ⟨rfl, HB8.out⟩
  · have HD : Hid (0 = d) := Lib.hid (by rw [← hd]; unfold digZ; rw [if_neg (by rw [hx]; exact h0)])
    have t0 := ne0_t h0
    clear h hd hx h0
    go_enter Try.func14, Try.ntmps14
    go_wp2_with fail
    refine (rpcheck_any p x _ HX.out).mono ?_
    rintro e w2 ⟨rfl, hb2⟩
    replace kk := below_next kk (Nat.le_refl _) hb2
    clear c00 c01 c02 c03 c04 HB hb2
    obtain ⟨B0, hbb⟩ := HK.out _ kk
    have c00 := B0.cell 0
    have c01 := B0.cell 1
    have c02 := B0.cell 2
    have c03 := B0.cell 3
    have c04 := B0.cell 4
    have HB := Lib.hid hbb
    clear B0 hbb
    go_wp2_with fail
    go_ret2
    exact ⟨ret_de HD.out rfl, HB.out⟩
set_option maxHeartbeats 8000000 in
set_option maxRecDepth 20000 in
theorem checks_few (p : Ph) (w : World) (h : PR w p) (hf : decide (p.n ≤ 5000) = false) : Calls Try.prog 3 #[aggF p] w (AwakePost w) := by
  have HPA : Hid (∀ u, Below w.heap.size w u → PR u p) := Lib.hid fun u hu => h.below hu
  have HF := Lib.hid hf
  clear hf h
  obtain ⟨kk, hK⟩ := box1K w 24 #[.int .i64 p.ride, .int .i64 p.tm, .int .i64 p.W, .int .i64 p.H, .slice p.A p.n p.c]
  have HK := Lib.hid hK
  clear hK
  obtain ⟨B0, hbb⟩ := HK.out _ kk
  have c00 := B0.cell 0
  have c01 := B0.cell 1
  have c02 := B0.cell 2
  have c03 := B0.cell 3
  have c04 := B0.cell 4
  have HB := Lib.hid hbb
  clear B0 hbb
  go_enter Try.func3, Try.ntmps3
  go_wp2_with fail
  have HPS := Lib.hid (one_photo _ (w.heap.size + 1) (by simp) p (HPA.out _ HB.out))
  replace kk := kk.alloc kk.size (.cells #[.int .i64 p.ride, .int .i64 p.tm, .int .i64 p.W, .int .i64 p.H, .slice p.A p.n p.c] 24)
  clear c00 c01 c02 c03 c04 HB
  obtain ⟨B0, hbb⟩ := HK.out _ kk
  have c00 := B0.cell 0
  have c01 := B0.cell 1
  have c02 := B0.cell 2
  have c03 := B0.cell 3
  have c04 := B0.cell 4
  have HB := Lib.hid hbb
  clear B0 hbb
  refine (fewF_any (some ⟨w.heap.size + 1, 0, none⟩) 1 1 [p] 1 false _ HPS.out (by decide) (few_one HF.out)).mono ?_
  rintro e w1 ⟨rfl, hb1⟩
  replace kk := below_next kk (Nat.le_refl _) hb1
  clear c00 c01 c02 c03 c04 HB hb1
  obtain ⟨B0, hbb⟩ := HK.out _ kk
  have c00 := B0.cell 0
  have c01 := B0.cell 1
  have c02 := B0.cell 2
  have c03 := B0.cell 3
  have c04 := B0.cell 4
  have HB := Lib.hid hbb
  clear B0 hbb
  go_wp2_with fail
  refine (awake_any _).mono ?_
  rintro e w2 ⟨rfl, hb2⟩
  replace kk := below_next kk (Nat.le_refl _) hb2
  clear c00 c01 c02 c03 c04 HB hb2
  obtain ⟨B0, hbb⟩ := HK.out _ kk
  have c00 := B0.cell 0
  have c01 := B0.cell 1
  have c02 := B0.cell 2
  have c03 := B0.cell 3
  have c04 := B0.cell 4
  have HB := Lib.hid hbb
  clear B0 hbb
  go_wp2_with fail
  go_ret
  exact ⟨rfl, HB.out⟩
set_option maxHeartbeats 8000000 in
set_option maxRecDepth 20000 in
theorem checks_main (p : Ph) (w : World) (h : PR w p) (hf : decide (p.n ≤ 5000) = true) : Calls Try.prog 3 #[aggF p] w (AwakePost w) := by
  have HPA : Hid (∀ u, Below w.heap.size w u → PR u p) := Lib.hid fun u hu => h.below hu
  have HF := Lib.hid hf
  obtain ⟨d, hd⟩ : ∃ d, digZ p = d := ⟨_, rfl⟩
  obtain ⟨x, hx⟩ : ∃ x, pcheckZ p = x := ⟨_, rfl⟩
  obtain ⟨u, hu⟩ : ∃ u, usableB p = u := ⟨_, rfl⟩
  have HD := Lib.hid hd; have HX := Lib.hid hx; have HU := Lib.hid hu
  clear hf h hd hx hu
  obtain ⟨kk, hK⟩ := box1K w 24 #[.int .i64 p.ride, .int .i64 p.tm, .int .i64 p.W, .int .i64 p.H, .slice p.A p.n p.c]
  have HK := Lib.hid hK
  clear hK
  obtain ⟨B0, hbb⟩ := HK.out _ kk
  have c00 := B0.cell 0
  have c01 := B0.cell 1
  have c02 := B0.cell 2
  have c03 := B0.cell 3
  have c04 := B0.cell 4
  have HB := Lib.hid hbb
  clear B0 hbb
  go_enter Try.func3, Try.ntmps3
  go_wp2_with fail
  have HPS := Lib.hid (one_photo _ (w.heap.size + 1) (by simp) p (HPA.out _ HB.out))
  replace kk := kk.alloc kk.size (.cells #[.int .i64 p.ride, .int .i64 p.tm, .int .i64 p.W, .int .i64 p.H, .slice p.A p.n p.c] 24)
  clear c00 c01 c02 c03 c04 HB
  obtain ⟨B0, hbb⟩ := HK.out _ kk
  have c00 := B0.cell 0
  have c01 := B0.cell 1
  have c02 := B0.cell 2
  have c03 := B0.cell 3
  have c04 := B0.cell 4
  have HB := Lib.hid hbb
  clear B0 hbb
  refine (fewF_any (some ⟨w.heap.size + 1, 0, none⟩) 1 1 [p] 1 true _ HPS.out (by decide) (few_one HF.out)).mono ?_
  rintro e w1 ⟨rfl, hb1⟩
  replace kk := below_next kk (Nat.le_refl _) hb1
  clear c00 c01 c02 c03 c04 HB hb1
  obtain ⟨B0, hbb⟩ := HK.out _ kk
  have c00 := B0.cell 0
  have c01 := B0.cell 1
  have c02 := B0.cell 2
  have c03 := B0.cell 3
  have c04 := B0.cell 4
  have HB := Lib.hid hbb
  clear B0 hbb
  clear HPS
  go_wp2_with fail
  refine (digest_any p d x _ (HPA.out _ HB.out) HD.out HX.out).mono ?_
  rintro e w2 ⟨rfl, hb2⟩
  replace kk := below_next kk (Nat.le_refl _) hb2
  clear c00 c01 c02 c03 c04 HB hb2
  obtain ⟨B0, hbb⟩ := HK.out _ kk
  have c00 := B0.cell 0
  have c01 := B0.cell 1
  have c02 := B0.cell 2
  have c03 := B0.cell 3
  have c04 := B0.cell 4
  have HB := Lib.hid hbb
  clear B0 hbb
  go_wp2_with fail
  refine (rdigest_any p d x _ (HPA.out _ HB.out) HD.out HX.out).mono ?_
  rintro e w3 ⟨rfl, hb3⟩
  replace kk := below_next kk (Nat.le_refl _) hb3
  clear c00 c01 c02 c03 c04 HB hb3
  obtain ⟨B0, hbb⟩ := HK.out _ kk
  have c00 := B0.cell 0
  have c01 := B0.cell 1
  have c02 := B0.cell 2
  have c03 := B0.cell 3
  have c04 := B0.cell 4
  have HB := Lib.hid hbb
  clear B0 hbb
  go_wp2_with fail
  obtain ⟨B6, hbw6⟩ := HK.out _ kk
  have HP6 := Lib.hid (HPA.out _ hbw6)
  have F0 : ∀ z : Fam w3, z.val.cell? ⟨w.heap.size, 0, none⟩ = some (.int .i64 p.ride) := fun z => z.some_ ((B6.cell 0).trans rfl)
  have F1 : ∀ z : Fam w3, z.val.cell? ⟨w.heap.size, 1, none⟩ = some (.int .i64 p.tm) := fun z => z.some_ ((B6.cell 1).trans rfl)
  have F2 : ∀ z : Fam w3, z.val.cell? ⟨w.heap.size, 2, none⟩ = some (.int .i64 p.W) := fun z => z.some_ ((B6.cell 2).trans rfl)
  have F3 : ∀ z : Fam w3, z.val.cell? ⟨w.heap.size, 3, none⟩ = some (.int .i64 p.H) := fun z => z.some_ ((B6.cell 3).trans rfl)
  have F4 : ∀ z : Fam w3, z.val.cell? ⟨w.heap.size, 4, none⟩ = some (.slice p.A p.n p.c) := fun z => z.some_ ((B6.cell 4).trans rfl)
  have KK6 := Lib.hid kk
  clear c00 c01 c02 c03 c04 HB B6 hbw6 kk
  refine wp_region_fam (by kernel_rfl) (by kernel_rfl) ?_
  repeat (go_big_quiet_step ((first | (go_at_call 15; exact fam_call (pcheck_any p x _ HX.out)) | (go_at_call 16; exact fam_call (rpcheck_any p x _ HX.out)) | (go_at_call 17; exact fam_call (usable_any p u _ (HP6.out.below (Fam.prop _)) HU.out)) | (go_at_call 18; exact fam_call (rusable_any p u _ (HP6.out.below (Fam.prop _)) HU.out)) | (go_at_call 12; exact fam_call (awake_any _)))))
  refine wpQuiet_nil ?_
  rintro _ ⟨z1, rfl⟩
  have KK7 := Lib.hid (HK.out _ (below_next KK6.out (Nat.le_refl _) z1.prop)).2
  clear F0 F1 F2 F3 F4
  go_wp2_with fail
  go_ret
  exact ⟨rfl, KK7.out⟩
theorem photoChecks_walk (p : Ph) (w : World) (h : PR w p) : Calls Try.prog 3 #[aggF p] w (AwakePost w) := by
  rcases hf : decide (p.n ≤ 5000) with _ | _
  · exact checks_few p w h hf
  · exact checks_main p w h hf
end Go.Proofs.Ytpipojgfpilhdaa
