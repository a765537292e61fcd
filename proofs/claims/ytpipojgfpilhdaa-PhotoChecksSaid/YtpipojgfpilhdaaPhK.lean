/- The authentication code: a round; the program's walk of it. -/
import Derived.Test.YtpipojgfpilhdaaPhB
import Derived.Test.YtpipojgfpilhdaaPhJ
import Derived.StillTailTactics
import Derived.Deep.CutRange
namespace Go.Proofs.Ytpipojgfpilhdaa
open Go.RowKit
/-- Four numbers. -/
structure V4 where
  a : Int
  b : Int
  c : Int
  d : Int
abbrev arrV (v : V4) : Array Value := #[.int .u64 v.a, .int .u64 v.b, .int .u64 v.c, .int .u64 v.d]
def xorZ (x y : Int) : Int := bits .xor .u64 x y
def addZ (x y : Int) : Int := IntKind.u64.wrap (x + y)
def rnd (v : V4) : V4 :=
  let a1 := addZ v.a v.b
  let b1 := xorZ (rotZ v.b 13) a1
  let a2 := rotZ a1 32
  let c1 := addZ v.c v.d
  let d1 := xorZ (rotZ v.d 16) c1
  let a3 := addZ a2 d1
  let d2 := xorZ (rotZ d1 21) a3
  let c2 := addZ c1 b1
  let b2 := xorZ (rotZ b1 17) c2
  ⟨a3, b2, rotZ c2 32, d2⟩
theorem Only.drew {F : Nat → Prop} {a b : World} (h : Only F a b) : Only F a b.drew := ⟨h.os, h.tape, h.output, h.size, h.block⟩
set_option maxHeartbeats 8000000 in
set_option maxRecDepth 20000 in
theorem round_any (g : Nat) (v : V4) (w : World) (h : Blk w g 62 (arrV v)) : Calls Try.prog 39 #[.pointer (some ⟨g, 0, none⟩)] w (fun e w' => e = .returned (.tuple #[]) ∧ Blk w' g 62 (arrV (rnd v)) ∧ Only (fun k => k = g) w w') := by
  obtain ⟨va, vb, vc, vd⟩ := v
  have H0 := Lib.hid h
  have O0 : Hid (Only (fun k => k = g) w w) := Lib.hid (Only.refl _ _)
  have e0 := (h.cell 0).trans rfl; have e1 := (h.cell 1).trans rfl; have e2 := (h.cell 2).trans rfl; have e3 := (h.cell 3).trans rfl
  have z0 := h.frozen 0; have z1 := h.frozen 1; have z2 := h.frozen 2; have z3 := h.frozen 3
  clear h
  go_enter Try.func39, Try.ntmps39
  go_upto_region 0 with fail
  refine wp_region_still_tail 11 (by kernel_rfl) (by kernel_rfl) ?_
  simp only [List.take_succ_cons, List.take_zero, List.drop_succ_cons, List.drop_zero]
  change wpStill _ _ (World.drew w) _ _ _
  repeat still_step
  refine wpStill_nil ?_
  change wpList _ _ _ _ _ (World.drew w)
  obtain ⟨x0, hx0⟩ : ∃ x, IntKind.u64.wrap (va + vb) = x := ⟨_, rfl⟩
  have X0 : Hid (addZ va vb = x0) := Lib.hid hx0
  obtain ⟨w1, hw⟩ : ∃ u, (w.setCell ⟨g, 0, none⟩ (.int .u64 x0)).drew = u := ⟨_, rfl⟩
  have hB : Blk w1 g 62 #[.int .u64 x0, .int .u64 vb, .int .u64 vc, .int .u64 vd] := by rw [← hw]; exact (H0.out.set_ 0 (.int .u64 x0)).drew
  have O1 : Hid (Only (fun k => k = g) w w1) := Lib.hid (by rw [← hw]; exact (O0.out.setCell (p := ⟨g, 0, none⟩) (fun _ => rfl) _).drew)
  have H1 := Lib.hid hB
  have HW := Lib.hid hw; have HX := Lib.hid hx0
  clear hw
  rw [hx0]
  go_upto_region 1 with fail
  rw [HW.out]
  clear e0 e1 e2 e3 z0 z1 z2 z3 hx0 HW HX
  have e0 := (hB.cell 0).trans rfl; have e1 := (hB.cell 1).trans rfl; have e2 := (hB.cell 2).trans rfl; have e3 := (hB.cell 3).trans rfl
  have z0 := hB.frozen 0; have z1 := hB.frozen 1; have z2 := hB.frozen 2; have z3 := hB.frozen 3
  clear hB
  go_upto_region 1 with fail
  refine wp_region_still_tail 13 (by kernel_rfl) (by kernel_rfl) ?_
  simp only [List.take_succ_cons, List.take_zero, List.drop_succ_cons, List.drop_zero]
  change wpStill _ _ (World.drew w1) _ _ _
  repeat still_step
  still_call (rot_any vb 13 _ (by decide) (by decide))
  repeat still_step
  refine wpStill_nil ?_
  change wpList _ _ _ _ _ (World.drew w1)
  obtain ⟨x1, hx1⟩ : ∃ x, bits .xor .u64 (rotZ vb 13) x0 = x := ⟨_, rfl⟩
  have X1 : Hid (xorZ (rotZ vb 13) x0 = x1) := Lib.hid hx1
  obtain ⟨w2, hw⟩ : ∃ u, (w1.setCell ⟨g, 1, none⟩ (.int .u64 x1)).drew = u := ⟨_, rfl⟩
  have hB : Blk w2 g 62 #[.int .u64 x0, .int .u64 x1, .int .u64 vc, .int .u64 vd] := by rw [← hw]; exact (H1.out.set_ 1 (.int .u64 x1)).drew
  have O2 : Hid (Only (fun k => k = g) w w2) := Lib.hid (by rw [← hw]; exact (O1.out.setCell (p := ⟨g, 1, none⟩) (fun _ => rfl) _).drew)
  have H2 := Lib.hid hB
  have HW := Lib.hid hw; have HX := Lib.hid hx1
  clear hw
  rw [hx1]
  go_upto_region 2 with fail
  rw [HW.out]
  clear e0 e1 e2 e3 z0 z1 z2 z3 hx1 HW HX
  have e0 := (hB.cell 0).trans rfl; have e1 := (hB.cell 1).trans rfl; have e2 := (hB.cell 2).trans rfl; have e3 := (hB.cell 3).trans rfl
  have z0 := hB.frozen 0; have z1 := hB.frozen 1; have z2 := hB.frozen 2; have z3 := hB.frozen 3
  clear hB
  go_upto_region 2 with fail
  refine wp_region_still_tail 8 (by kernel_rfl) (by kernel_rfl) ?_
  simp only [List.take_succ_cons, List.take_zero, List.drop_succ_cons, List.drop_zero]
  change wpStill _ _ (World.drew w2) _ _ _
  repeat still_step
  still_call (rot_any x0 32 _ (by decide) (by decide))
  repeat still_step
  refine wpStill_nil ?_
  change wpList _ _ _ _ _ (World.drew w2)
  obtain ⟨x2, hx2⟩ : ∃ x, rotZ x0 32 = x := ⟨_, rfl⟩
  have X2 : Hid (rotZ x0 32 = x2) := Lib.hid hx2
  obtain ⟨w3, hw⟩ : ∃ u, (w2.setCell ⟨g, 0, none⟩ (.int .u64 x2)).drew = u := ⟨_, rfl⟩
  have hB : Blk w3 g 62 #[.int .u64 x2, .int .u64 x1, .int .u64 vc, .int .u64 vd] := by rw [← hw]; exact (H2.out.set_ 0 (.int .u64 x2)).drew
  have O3 : Hid (Only (fun k => k = g) w w3) := Lib.hid (by rw [← hw]; exact (O2.out.setCell (p := ⟨g, 0, none⟩) (fun _ => rfl) _).drew)
  have H3 := Lib.hid hB
  have HW := Lib.hid hw; have HX := Lib.hid hx2
  clear hw
  rw [hx2]
  go_upto_region 3 with fail
  rw [HW.out]
  clear e0 e1 e2 e3 z0 z1 z2 z3 hx2 HW HX
  have e0 := (hB.cell 0).trans rfl; have e1 := (hB.cell 1).trans rfl; have e2 := (hB.cell 2).trans rfl; have e3 := (hB.cell 3).trans rfl
  have z0 := hB.frozen 0; have z1 := hB.frozen 1; have z2 := hB.frozen 2; have z3 := hB.frozen 3
  clear hB
  go_upto_region 3 with fail
  refine wp_region_still_tail 11 (by kernel_rfl) (by kernel_rfl) ?_
  simp only [List.take_succ_cons, List.take_zero, List.drop_succ_cons, List.drop_zero]
  change wpStill _ _ (World.drew w3) _ _ _
  repeat still_step
  refine wpStill_nil ?_
  change wpList _ _ _ _ _ (World.drew w3)
  obtain ⟨x3, hx3⟩ : ∃ x, IntKind.u64.wrap (vc + vd) = x := ⟨_, rfl⟩
  have X3 : Hid (addZ vc vd = x3) := Lib.hid hx3
  obtain ⟨w4, hw⟩ : ∃ u, (w3.setCell ⟨g, 2, none⟩ (.int .u64 x3)).drew = u := ⟨_, rfl⟩
  have hB : Blk w4 g 62 #[.int .u64 x2, .int .u64 x1, .int .u64 x3, .int .u64 vd] := by rw [← hw]; exact (H3.out.set_ 2 (.int .u64 x3)).drew
  have O4 : Hid (Only (fun k => k = g) w w4) := Lib.hid (by rw [← hw]; exact (O3.out.setCell (p := ⟨g, 2, none⟩) (fun _ => rfl) _).drew)
  have H4 := Lib.hid hB
  have HW := Lib.hid hw; have HX := Lib.hid hx3
  clear hw
  rw [hx3]
  go_upto_region 4 with fail
  rw [HW.out]
  clear e0 e1 e2 e3 z0 z1 z2 z3 hx3 HW HX
  have e0 := (hB.cell 0).trans rfl; have e1 := (hB.cell 1).trans rfl; have e2 := (hB.cell 2).trans rfl; have e3 := (hB.cell 3).trans rfl
  have z0 := hB.frozen 0; have z1 := hB.frozen 1; have z2 := hB.frozen 2; have z3 := hB.frozen 3
  clear hB
  go_upto_region 4 with fail
  refine wp_region_still_tail 13 (by kernel_rfl) (by kernel_rfl) ?_
  simp only [List.take_succ_cons, List.take_zero, List.drop_succ_cons, List.drop_zero]
  change wpStill _ _ (World.drew w4) _ _ _
  repeat still_step
  still_call (rot_any vd 16 _ (by decide) (by decide))
  repeat still_step
  refine wpStill_nil ?_
  change wpList _ _ _ _ _ (World.drew w4)
  obtain ⟨x4, hx4⟩ : ∃ x, bits .xor .u64 (rotZ vd 16) x3 = x := ⟨_, rfl⟩
  have X4 : Hid (xorZ (rotZ vd 16) x3 = x4) := Lib.hid hx4
  obtain ⟨w5, hw⟩ : ∃ u, (w4.setCell ⟨g, 3, none⟩ (.int .u64 x4)).drew = u := ⟨_, rfl⟩
  have hB : Blk w5 g 62 #[.int .u64 x2, .int .u64 x1, .int .u64 x3, .int .u64 x4] := by rw [← hw]; exact (H4.out.set_ 3 (.int .u64 x4)).drew
  have O5 : Hid (Only (fun k => k = g) w w5) := Lib.hid (by rw [← hw]; exact (O4.out.setCell (p := ⟨g, 3, none⟩) (fun _ => rfl) _).drew)
  have H5 := Lib.hid hB
  have HW := Lib.hid hw; have HX := Lib.hid hx4
  clear hw
  rw [hx4]
  go_upto_region 5 with fail
  rw [HW.out]
  clear e0 e1 e2 e3 z0 z1 z2 z3 hx4 HW HX
  have e0 := (hB.cell 0).trans rfl; have e1 := (hB.cell 1).trans rfl; have e2 := (hB.cell 2).trans rfl; have e3 := (hB.cell 3).trans rfl
  have z0 := hB.frozen 0; have z1 := hB.frozen 1; have z2 := hB.frozen 2; have z3 := hB.frozen 3
  clear hB
  go_upto_region 5 with fail
  refine wp_region_still_tail 11 (by kernel_rfl) (by kernel_rfl) ?_
  simp only [List.take_succ_cons, List.take_zero, List.drop_succ_cons, List.drop_zero]
  change wpStill _ _ (World.drew w5) _ _ _
  repeat still_step
  refine wpStill_nil ?_
  change wpList _ _ _ _ _ (World.drew w5)
  obtain ⟨x5, hx5⟩ : ∃ x, IntKind.u64.wrap (x2 + x4) = x := ⟨_, rfl⟩
  have X5 : Hid (addZ x2 x4 = x5) := Lib.hid hx5
  obtain ⟨w6, hw⟩ : ∃ u, (w5.setCell ⟨g, 0, none⟩ (.int .u64 x5)).drew = u := ⟨_, rfl⟩
  have hB : Blk w6 g 62 #[.int .u64 x5, .int .u64 x1, .int .u64 x3, .int .u64 x4] := by rw [← hw]; exact (H5.out.set_ 0 (.int .u64 x5)).drew
  have O6 : Hid (Only (fun k => k = g) w w6) := Lib.hid (by rw [← hw]; exact (O5.out.setCell (p := ⟨g, 0, none⟩) (fun _ => rfl) _).drew)
  have H6 := Lib.hid hB
  have HW := Lib.hid hw; have HX := Lib.hid hx5
  clear hw
  rw [hx5]
  go_upto_region 6 with fail
  rw [HW.out]
  clear e0 e1 e2 e3 z0 z1 z2 z3 hx5 HW HX
  have e0 := (hB.cell 0).trans rfl; have e1 := (hB.cell 1).trans rfl; have e2 := (hB.cell 2).trans rfl; have e3 := (hB.cell 3).trans rfl
  have z0 := hB.frozen 0; have z1 := hB.frozen 1; have z2 := hB.frozen 2; have z3 := hB.frozen 3
  clear hB
  go_upto_region 6 with fail
  refine wp_region_still_tail 13 (by kernel_rfl) (by kernel_rfl) ?_
  simp only [List.take_succ_cons, List.take_zero, List.drop_succ_cons, List.drop_zero]
  change wpStill _ _ (World.drew w6) _ _ _
  repeat still_step
  still_call (rot_any x4 21 _ (by decide) (by decide))
  repeat still_step
  refine wpStill_nil ?_
  change wpList _ _ _ _ _ (World.drew w6)
  obtain ⟨x6, hx6⟩ : ∃ x, bits .xor .u64 (rotZ x4 21) x5 = x := ⟨_, rfl⟩
  have X6 : Hid (xorZ (rotZ x4 21) x5 = x6) := Lib.hid hx6
  obtain ⟨w7, hw⟩ : ∃ u, (w6.setCell ⟨g, 3, none⟩ (.int .u64 x6)).drew = u := ⟨_, rfl⟩
  have hB : Blk w7 g 62 #[.int .u64 x5, .int .u64 x1, .int .u64 x3, .int .u64 x6] := by rw [← hw]; exact (H6.out.set_ 3 (.int .u64 x6)).drew
  have O7 : Hid (Only (fun k => k = g) w w7) := Lib.hid (by rw [← hw]; exact (O6.out.setCell (p := ⟨g, 3, none⟩) (fun _ => rfl) _).drew)
  have H7 := Lib.hid hB
  have HW := Lib.hid hw; have HX := Lib.hid hx6
  clear hw
  rw [hx6]
  go_upto_region 7 with fail
  rw [HW.out]
  clear e0 e1 e2 e3 z0 z1 z2 z3 hx6 HW HX
  have e0 := (hB.cell 0).trans rfl; have e1 := (hB.cell 1).trans rfl; have e2 := (hB.cell 2).trans rfl; have e3 := (hB.cell 3).trans rfl
  have z0 := hB.frozen 0; have z1 := hB.frozen 1; have z2 := hB.frozen 2; have z3 := hB.frozen 3
  clear hB
  go_upto_region 7 with fail
  refine wp_region_still_tail 11 (by kernel_rfl) (by kernel_rfl) ?_
  simp only [List.take_succ_cons, List.take_zero, List.drop_succ_cons, List.drop_zero]
  change wpStill _ _ (World.drew w7) _ _ _
  repeat still_step
  refine wpStill_nil ?_
  change wpList _ _ _ _ _ (World.drew w7)
  obtain ⟨x7, hx7⟩ : ∃ x, IntKind.u64.wrap (x3 + x1) = x := ⟨_, rfl⟩
  have X7 : Hid (addZ x3 x1 = x7) := Lib.hid hx7
  obtain ⟨w8, hw⟩ : ∃ u, (w7.setCell ⟨g, 2, none⟩ (.int .u64 x7)).drew = u := ⟨_, rfl⟩
  have hB : Blk w8 g 62 #[.int .u64 x5, .int .u64 x1, .int .u64 x7, .int .u64 x6] := by rw [← hw]; exact (H7.out.set_ 2 (.int .u64 x7)).drew
  have O8 : Hid (Only (fun k => k = g) w w8) := Lib.hid (by rw [← hw]; exact (O7.out.setCell (p := ⟨g, 2, none⟩) (fun _ => rfl) _).drew)
  have H8 := Lib.hid hB
  have HW := Lib.hid hw; have HX := Lib.hid hx7
  clear hw
  rw [hx7]
  go_upto_region 8 with fail
  rw [HW.out]
  clear e0 e1 e2 e3 z0 z1 z2 z3 hx7 HW HX
  have e0 := (hB.cell 0).trans rfl; have e1 := (hB.cell 1).trans rfl; have e2 := (hB.cell 2).trans rfl; have e3 := (hB.cell 3).trans rfl
  have z0 := hB.frozen 0; have z1 := hB.frozen 1; have z2 := hB.frozen 2; have z3 := hB.frozen 3
  clear hB
  go_upto_region 8 with fail
  refine wp_region_still_tail 13 (by kernel_rfl) (by kernel_rfl) ?_
  simp only [List.take_succ_cons, List.take_zero, List.drop_succ_cons, List.drop_zero]
  change wpStill _ _ (World.drew w8) _ _ _
  repeat still_step
  still_call (rot_any x1 17 _ (by decide) (by decide))
  repeat still_step
  refine wpStill_nil ?_
  change wpList _ _ _ _ _ (World.drew w8)
  obtain ⟨x8, hx8⟩ : ∃ x, bits .xor .u64 (rotZ x1 17) x7 = x := ⟨_, rfl⟩
  have X8 : Hid (xorZ (rotZ x1 17) x7 = x8) := Lib.hid hx8
  obtain ⟨w9, hw⟩ : ∃ u, (w8.setCell ⟨g, 1, none⟩ (.int .u64 x8)).drew = u := ⟨_, rfl⟩
  have hB : Blk w9 g 62 #[.int .u64 x5, .int .u64 x8, .int .u64 x7, .int .u64 x6] := by rw [← hw]; exact (H8.out.set_ 1 (.int .u64 x8)).drew
  have O9 : Hid (Only (fun k => k = g) w w9) := Lib.hid (by rw [← hw]; exact (O8.out.setCell (p := ⟨g, 1, none⟩) (fun _ => rfl) _).drew)
  have H9 := Lib.hid hB
  have HW := Lib.hid hw; have HX := Lib.hid hx8
  clear hw
  rw [hx8]
  go_upto_region 9 with fail
  rw [HW.out]
  clear e0 e1 e2 e3 z0 z1 z2 z3 hx8 HW HX
  have e0 := (hB.cell 0).trans rfl; have e1 := (hB.cell 1).trans rfl; have e2 := (hB.cell 2).trans rfl; have e3 := (hB.cell 3).trans rfl
  have z0 := hB.frozen 0; have z1 := hB.frozen 1; have z2 := hB.frozen 2; have z3 := hB.frozen 3
  clear hB
  go_upto_region 9 with fail
  refine wp_region_still_tail 8 (by kernel_rfl) (by kernel_rfl) ?_
  simp only [List.take_succ_cons, List.take_zero, List.drop_succ_cons, List.drop_zero]
  change wpStill _ _ (World.drew w9) _ _ _
  repeat still_step
  still_call (rot_any x7 32 _ (by decide) (by decide))
  repeat still_step
  refine wpStill_nil ?_
  change wpList _ _ _ _ _ (World.drew w9)
  obtain ⟨x9, hx9⟩ : ∃ x, rotZ x7 32 = x := ⟨_, rfl⟩
  have X9 : Hid (rotZ x7 32 = x9) := Lib.hid hx9
  obtain ⟨w10, hw⟩ : ∃ u, (w9.setCell ⟨g, 2, none⟩ (.int .u64 x9)).drew = u := ⟨_, rfl⟩
  have hB : Blk w10 g 62 #[.int .u64 x5, .int .u64 x8, .int .u64 x9, .int .u64 x6] := by rw [← hw]; exact (H9.out.set_ 2 (.int .u64 x9)).drew
  have O10 : Hid (Only (fun k => k = g) w w10) := Lib.hid (by rw [← hw]; exact (O9.out.setCell (p := ⟨g, 2, none⟩) (fun _ => rfl) _).drew)
  have H10 := Lib.hid hB
  have HW := Lib.hid hw; have HX := Lib.hid hx9
  clear hw
  rw [hx9]
  go_wp2_with fail
  rw [HW.out]
  clear e0 e1 e2 e3 z0 z1 z2 z3 hx9 HW HX
  have e0 := (hB.cell 0).trans rfl; have e1 := (hB.cell 1).trans rfl; have e2 := (hB.cell 2).trans rfl; have e3 := (hB.cell 3).trans rfl
  have z0 := hB.frozen 0; have z1 := hB.frozen 1; have z2 := hB.frozen 2; have z3 := hB.frozen 3
  clear hB
  have HE : Hid (arrV (rnd ⟨va, vb, vc, vd⟩) = #[.int .u64 x5, .int .u64 x8, .int .u64 x9, .int .u64 x6]) := Lib.hid (by
    unfold rnd
    simp only [X0.out, X1.out, X2.out, X3.out, X4.out, X5.out, X6.out, X7.out, X8.out, X9.out])
  exact bodyPost_end (v := .tuple #[]) (by simp [results, Try.results39]) rfl ⟨rfl, by rw [HE.out]; exact H10.out, O10.out⟩
def takeV (v : V4) (x : Int) : V4 :=
  let u := rnd (rnd ⟨v.a, v.b, v.c, xorZ v.d x⟩)
  ⟨xorZ u.a x, u.b, u.c, u.d⟩
set_option maxHeartbeats 4000000 in
set_option maxRecDepth 20000 in
theorem take_any (g : Nat) (v : V4) (x : Int) (w : World) (h : Blk w g 62 (arrV v)) : Calls Try.prog 37 #[.pointer (some ⟨g, 0, none⟩), .int .u64 x] w (fun e w' => e = .returned (.tuple #[]) ∧ Blk w' g 62 (arrV (takeV v x)) ∧ Only (fun k => k = g) w w') := by
  have H0 := Lib.hid h
  have e3 := (h.cell 3).trans rfl
  have z3 := h.frozen 3
  clear h
  go_enter Try.func37, Try.ntmps37
  go_upto_region 0 with fail
  refine wp_region_still_tail 8 (by kernel_rfl) (by kernel_rfl) ?_
  simp only [List.take_succ_cons, List.take_zero, List.drop_succ_cons, List.drop_zero]
  change wpStill _ _ (World.drew w) _ _ _
  repeat still_step
  refine wpStill_nil ?_
  change wpList _ _ _ _ _ (World.drew w)
  obtain ⟨y, hy⟩ : ∃ y, bits .xor .u64 v.d x = y := ⟨_, rfl⟩
  have HY : Hid (xorZ v.d x = y) := Lib.hid hy
  obtain ⟨w1, hw⟩ : ∃ u, (w.setCell ⟨g, 3, none⟩ (.int .u64 y)).drew = u := ⟨_, rfl⟩
  have hB : Blk w1 g 62 (arrV ⟨v.a, v.b, v.c, y⟩) := by rw [← hw]; exact (H0.out.set_ 3 (.int .u64 y)).drew
  have O1 : Hid (Only (fun k => k = g) w w1) := Lib.hid (by rw [← hw]; exact ((Only.refl (fun k => k = g) w).setCell (p := ⟨g, 3, none⟩) (fun _ => rfl) _).drew)
  have H1 := Lib.hid hB
  have HW := Lib.hid hw
  clear hw hB
  rw [hy]
  clear hy
  go_wp2_with fail
  rw [HW.out]
  clear e3 z3
  refine (round_any g _ w1 H1.out).mono ?_
  rintro e w2 ⟨rfl, hB2, hO2⟩
  have H2 := Lib.hid hB2
  have O2 : Hid (Only (fun k => k = g) w w2) := Lib.hid (O1.out.trans hO2 fun _ _ e => e)
  clear hB2 hO2
  go_wp2_with fail
  refine (round_any g _ w2 H2.out).mono ?_
  rintro e w3 ⟨rfl, hB3, hO3⟩
  have O3 : Hid (Only (fun k => k = g) w w3) := Lib.hid (O2.out.trans hO3 fun _ _ e => e)
  obtain ⟨u, hu⟩ : ∃ u, rnd (rnd ⟨v.a, v.b, v.c, y⟩) = u := ⟨_, rfl⟩
  rw [hu] at hB3
  have HU := Lib.hid hu
  have H3 := Lib.hid hB3
  have e0 := (hB3.cell 0).trans rfl
  have z0 := hB3.frozen 0
  clear hB3 hO3 hu
  go_upto_region 3 with fail
  refine wp_region_still_tail 8 (by kernel_rfl) (by kernel_rfl) ?_
  simp only [List.take_succ_cons, List.take_zero, List.drop_succ_cons, List.drop_zero]
  change wpStill _ _ (World.drew w3) _ _ _
  repeat still_step
  refine wpStill_nil ?_
  change wpList _ _ _ _ _ (World.drew w3)
  have HF : Hid (Blk (w3.setCell ⟨g, 0, none⟩ (.int .u64 (bits .xor .u64 u.a x))).drew g 62 (arrV (takeV v x))) := Lib.hid (by
    have := (H3.out.set_ 0 (.int .u64 (bits .xor .u64 u.a x))).drew
    unfold takeV
    rw [HY.out, HU.out]
    exact this)
  have OF : Hid (Only (fun k => k = g) w (w3.setCell ⟨g, 0, none⟩ (.int .u64 (bits .xor .u64 u.a x))).drew) := Lib.hid (O3.out.setCell (p := ⟨g, 0, none⟩) (fun _ => rfl) _).drew
  go_wp2_with fail
  exact bodyPost_end (v := .tuple #[]) (by simp [results, Try.results37]) rfl ⟨rfl, HF.out, OF.out⟩
/-- A byte goes into a word. -/
def putB (m c : Int) (i : Nat) : Int := bits .or .u64 m (IntKind.u64.wrap (c * 2 ^ (8 * i)))
def wordF (f : Nat → Int) : Nat → Int
  | 0 => 0
  | k + 1 => putB (wordF f k) (f k) k
theorem wordF_congr {f g : Nat → Int} : ∀ {n : Nat}, (∀ i, i < n → f i = g i) → wordF f n = wordF g n
  | 0, _ => rfl
  | n + 1, h => by
    show putB (wordF f n) (f n) n = putB (wordF g n) (g n) n
    rw [wordF_congr fun i hi => h i (by omega), h n (by omega)]
set_option maxHeartbeats 1000000 in
theorem word_any (A : Option Addr) (n c : Nat) (l : List Int) (x : Int) (w : World) (h : Reads w w.heap.size 1 A n (cellsU l)) (hby : Bytes l) (hn : n ≤ 8) (hx : wordF (uAt l) n = x) : Calls Try.prog 38 #[.slice A n c] w fun e w' => e = .returned (.int .u64 x) ∧ w' = w := by
  have HR := Lib.hid h; have HX := Lib.hid hx; have HBY := Lib.hid hby
  clear h hx hby
  go_enter Try.func38, Try.ntmps38
  go_wp2_with fail
  go_loop [3, 8] (fun s3 s8 => ∃ (k : Nat) (m : Int), k ≤ n ∧ s8 = .int .i64 k ∧ s3 = .int .u64 m ∧ Hid (wordF (uAt l) k = m)) (fun _ s => n - (intOf s).toNat)
  case atStart => exact ⟨0, 0, Nat.zero_le _, rfl, rfl, Lib.hid rfl⟩
  case round =>
    obtain ⟨k, m, hk, rfl, rfl, HM⟩ := hrel
    by_cases hlt : k < n
    · obtain ⟨b, off, rfl, hb, hc⟩ := u_cells HR.out (by omega)
      have e1 := hc k hlt
      have hk0 : (0 : Int) ≤ k := by omega
      have hk1 : (k : Int) < n := by omega
      have hub := HBY.out.at_ k
      obtain ⟨u, hu⟩ : ∃ u, uAt l k = u := ⟨_, rfl⟩
      rw [hu] at e1 hub
      have f1 : IntKind.u64.wrap u = u := by rw [IntKind.wrap_u64]; omega
      have HS : Hid (wordF (uAt l) (k + 1) = bits .or .u64 m (IntKind.u64.wrap (u * 2 ^ (8 * k)))) := Lib.hid (by
        show putB _ _ _ = _
        rw [HM.out, hu]; rfl)
      clear hc hu
      go_wp2_with fail
      go_round
      case rel => exact ⟨k + 1, _, by omega, by go_num, rfl, HS⟩
      case measure => simp [intOf]; omega
    · obtain rfl : k = n := by omega
      have HE : Hid (m = x) := Lib.hid (by rw [← HM.out, HX.out])
      go_wp2_with fail
      go_ret
      exact ⟨ret_int HE.out, rfl⟩
end Go.Proofs.Ytpipojgfpilhdaa
