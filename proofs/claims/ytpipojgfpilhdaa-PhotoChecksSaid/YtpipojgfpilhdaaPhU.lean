/- The reference's code: a round. -/
import Derived.Test.YtpipojgfpilhdaaPhUPure
import Derived.Test.YtpipojgfpilhdaaPhM
import Derived.Test.YtpipojgfpilhdaaMix
import Derived.Deep.CutRange
namespace Go.Proofs.Ytpipojgfpilhdaa
open Go.RowKit
set_option maxHeartbeats 8000000 in
set_option maxRecDepth 20000 in
theorem rround_any (v : V4) (w : World) : Calls Try.prog 43 #[.agg (arrV v)] w (fun e w' => e = .returned (.agg (arrV (rnd v))) ∧ Below w.heap.size w w') := by
  obtain ⟨va, vb, vc, vd⟩ := v
  go_enter Try.func43, Try.ntmps43
  go_upto_region 1 with fail
  obtain ⟨w0, hw⟩ : ∃ u, (w.alloc (.cells #[.int .u64 va, .int .u64 vb, .int .u64 vc, .int .u64 vd] 61)).alloc (.cells #[.int .u64 0, .int .u64 0, .int .u64 0, .int .u64 0] 61) = u := ⟨_, rfl⟩
  have hB : Blk w0 w.heap.size 61 #[.int .u64 va, .int .u64 vb, .int .u64 vc, .int .u64 vd] := by rw [← hw]; exact (Blk.new w _ _).alloc _
  have R0 : Hid (Blk w0 (w.heap.size + 1) 61 #[.int .u64 0, .int .u64 0, .int .u64 0, .int .u64 0]) := Lib.hid (by
    rw [← hw]
    have := Blk.new (w.alloc (.cells #[.int .u64 va, .int .u64 vb, .int .u64 vc, .int .u64 vd] 61)) 61 #[.int .u64 0, .int .u64 0, .int .u64 0, .int .u64 0]
    simpa using this)
  have O0 : Hid (Below w.heap.size w w0) := Lib.hid (by rw [← hw]; exact (((Below.refl w.heap.size w).alloc (Nat.le_refl _) _).alloc (by simp) _))
  have H0 := Lib.hid hB
  rw [hw]
  clear hw
  have e0 := (hB.cell 0).trans rfl; have e1 := (hB.cell 1).trans rfl; have e2 := (hB.cell 2).trans rfl; have e3 := (hB.cell 3).trans rfl
  have z0 := hB.frozen 0; have z1 := hB.frozen 1; have z2 := hB.frozen 2; have z3 := hB.frozen 3
  clear hB
  obtain ⟨x0, hx0⟩ : ∃ x, IntKind.u64.wrap (va + vb) = x := ⟨_, rfl⟩
  have X0 : Hid (addZ va vb = x0) := Lib.hid hx0
  go_upto_region 2 with fail
  obtain ⟨w1, hw⟩ : ∃ u, w0.setCell ⟨w.heap.size, 0, none⟩ (.int .u64 x0) = u := ⟨_, rfl⟩
  have hB : Blk w1 w.heap.size 61 #[.int .u64 x0, .int .u64 vb, .int .u64 vc, .int .u64 vd] := by rw [← hw]; exact (H0.out).set_ 0 (.int .u64 x0)
  have R1 : Hid (Blk w1 (w.heap.size + 1) 61 #[.int .u64 0, .int .u64 0, .int .u64 0, .int .u64 0]) := Lib.hid (by rw [← hw]; exact (R0.out).far (by simp) _)
  have O1 : Hid (Below w.heap.size w w1) := Lib.hid (by rw [← hw]; exact O0.out.setCell (p := ⟨w.heap.size, 0, none⟩) (Nat.le_refl _) _)
  have H1 := Lib.hid hB
  rw [hw]
  clear hw
  clear e0 e1 e2 e3 z0 z1 z2 z3
  have e0 := (hB.cell 0).trans rfl; have e1 := (hB.cell 1).trans rfl; have e2 := (hB.cell 2).trans rfl; have e3 := (hB.cell 3).trans rfl
  have z0 := hB.frozen 0; have z1 := hB.frozen 1; have z2 := hB.frozen 2; have z3 := hB.frozen 3
  clear hB
  clear hx0
  clear e0 e1 e2 e3 z0 z1 z2 z3
  obtain ⟨D, hD0, hDi, F1, F2⟩ : ∃ D : World → Prop, D w1.drew ∧ (∀ u, Blk u w.heap.size 61 #[.int .u64 x0, .int .u64 vb, .int .u64 vc, .int .u64 vd] → D u) ∧ (∀ z : DFam D, z.val.cell? ⟨w.heap.size, 1, none⟩ = some (.int .u64 vb)) ∧ (∀ z : DFam D, z.val.cell? ⟨w.heap.size, 0, none⟩ = some (.int .u64 x0)) :=
    ⟨fun u => Blk u w.heap.size 61 #[.int .u64 x0, .int .u64 vb, .int .u64 vc, .int .u64 vd], H1.out.drew, fun u h => h, fun z => (z.prop.cell 1).trans rfl, fun z => (z.prop.cell 0).trans rfl⟩
  haveI : Nonempty (DFam D) := ⟨⟨_, hD0⟩⟩
  refine wp_region_mask [true, true, false, true, true, false, false, false] 2 D (by kernel_rfl) (by kernel_rfl) hD0 ?_
  simp only [selT, selF, List.take_succ_cons, List.take_zero, List.drop_succ_cons, List.drop_zero]
  repeat (go_big_quiet_step (fail))
  refine wpQuiet_nil (wpEarly_cons ?_)
  clear F1 F2
  go_wp2_with fail
  refine (turn_any vb 13 _ (by decide) (by decide)).mono ?_
  rintro e _ ⟨rfl, n1, rfl⟩
  obtain ⟨y1, hy1⟩ : ∃ x, rotZ vb 13 = x := ⟨_, rfl⟩
  rw [hy1]
  go_wp2_with fail
  refine QN_normal ⟨hDi _ (H1.out.drew.drewN n1), wpEarly_cons ?_⟩
  obtain ⟨x1, hx1⟩ : ∃ x, bits .xor .u64 y1 x0 = x := ⟨_, rfl⟩
  have X1 : Hid (xorZ (rotZ vb 13) x0 = x1) := Lib.hid (by rw [hy1]; exact hx1)
  go_wp2_with fail
  refine QN_normal ⟨hDi _ (H1.out.drew.drewN n1), wpEarly_nil ?_⟩
  clear hy1 hx1 hD0 hDi
  have e0 := (H1.out.cell 0).trans rfl; have e1 := (H1.out.cell 1).trans rfl; have e2 := (H1.out.cell 2).trans rfl; have e3 := (H1.out.cell 3).trans rfl
  have z0 := H1.out.frozen 0; have z1 := H1.out.frozen 1; have z2 := H1.out.frozen 2; have z3 := H1.out.frozen 3
  go_upto_region 3 with fail
  obtain ⟨w2, hw⟩ : ∃ u, (w1.drewN (1 + n1)).setCell ⟨w.heap.size, 1, none⟩ (.int .u64 x1) = u := ⟨_, rfl⟩
  have hB : Blk w2 w.heap.size 61 #[.int .u64 x0, .int .u64 x1, .int .u64 vc, .int .u64 vd] := by rw [← hw]; exact (H1.out.drewN (1 + n1)).set_ 1 (.int .u64 x1)
  have R2 : Hid (Blk w2 (w.heap.size + 1) 61 #[.int .u64 0, .int .u64 0, .int .u64 0, .int .u64 0]) := Lib.hid (by rw [← hw]; exact (R1.out.drewN (1 + n1)).far (by simp) _)
  have O2 : Hid (Below w.heap.size w w2) := Lib.hid (by rw [← hw]; exact (below_drewN O1.out (1 + n1)).setCell (p := ⟨w.heap.size, 1, none⟩) (Nat.le_refl _) _)
  have H2 := Lib.hid hB
  rw [hw]
  clear hw
  clear e0 e1 e2 e3 z0 z1 z2 z3
  have e0 := (hB.cell 0).trans rfl; have e1 := (hB.cell 1).trans rfl; have e2 := (hB.cell 2).trans rfl; have e3 := (hB.cell 3).trans rfl
  have z0 := hB.frozen 0; have z1 := hB.frozen 1; have z2 := hB.frozen 2; have z3 := hB.frozen 3
  clear hB
  go_wp2_with fail
  refine (turn_any x0 32 _ (by decide) (by decide)).mono ?_
  rintro e _ ⟨rfl, n2, rfl⟩
  obtain ⟨x2, hx2⟩ : ∃ x, rotZ x0 32 = x := ⟨_, rfl⟩
  have X2 := Lib.hid hx2
  rw [hx2]
  clear hx2
  go_upto_region 4 with fail
  obtain ⟨w3, hw⟩ : ∃ u, (w2.drewN n2).setCell ⟨w.heap.size, 0, none⟩ (.int .u64 x2) = u := ⟨_, rfl⟩
  have hB : Blk w3 w.heap.size 61 #[.int .u64 x2, .int .u64 x1, .int .u64 vc, .int .u64 vd] := by rw [← hw]; exact (H2.out.drewN n2).set_ 0 (.int .u64 x2)
  have R3 : Hid (Blk w3 (w.heap.size + 1) 61 #[.int .u64 0, .int .u64 0, .int .u64 0, .int .u64 0]) := Lib.hid (by rw [← hw]; exact (R2.out.drewN n2).far (by simp) _)
  have O3 : Hid (Below w.heap.size w w3) := Lib.hid (by rw [← hw]; exact (below_drewN O2.out n2).setCell (p := ⟨w.heap.size, 0, none⟩) (Nat.le_refl _) _)
  have H3 := Lib.hid hB
  rw [hw]
  clear hw
  clear e0 e1 e2 e3 z0 z1 z2 z3
  have e0 := (hB.cell 0).trans rfl; have e1 := (hB.cell 1).trans rfl; have e2 := (hB.cell 2).trans rfl; have e3 := (hB.cell 3).trans rfl
  have z0 := hB.frozen 0; have z1 := hB.frozen 1; have z2 := hB.frozen 2; have z3 := hB.frozen 3
  clear hB
  obtain ⟨x3, hx3⟩ : ∃ x, IntKind.u64.wrap (vc + vd) = x := ⟨_, rfl⟩
  have X3 : Hid (addZ vc vd = x3) := Lib.hid hx3
  go_upto_region 5 with fail
  obtain ⟨w4, hw⟩ : ∃ u, w3.setCell ⟨w.heap.size, 2, none⟩ (.int .u64 x3) = u := ⟨_, rfl⟩
  have hB : Blk w4 w.heap.size 61 #[.int .u64 x2, .int .u64 x1, .int .u64 x3, .int .u64 vd] := by rw [← hw]; exact (H3.out).set_ 2 (.int .u64 x3)
  have R4 : Hid (Blk w4 (w.heap.size + 1) 61 #[.int .u64 0, .int .u64 0, .int .u64 0, .int .u64 0]) := Lib.hid (by rw [← hw]; exact (R3.out).far (by simp) _)
  have O4 : Hid (Below w.heap.size w w4) := Lib.hid (by rw [← hw]; exact O3.out.setCell (p := ⟨w.heap.size, 2, none⟩) (Nat.le_refl _) _)
  have H4 := Lib.hid hB
  rw [hw]
  clear hw
  clear e0 e1 e2 e3 z0 z1 z2 z3
  have e0 := (hB.cell 0).trans rfl; have e1 := (hB.cell 1).trans rfl; have e2 := (hB.cell 2).trans rfl; have e3 := (hB.cell 3).trans rfl
  have z0 := hB.frozen 0; have z1 := hB.frozen 1; have z2 := hB.frozen 2; have z3 := hB.frozen 3
  clear hB
  clear hx3
  clear e0 e1 e2 e3 z0 z1 z2 z3
  obtain ⟨D, hD0, hDi, F1, F2⟩ : ∃ D : World → Prop, D w4.drew ∧ (∀ u, Blk u w.heap.size 61 #[.int .u64 x2, .int .u64 x1, .int .u64 x3, .int .u64 vd] → D u) ∧ (∀ z : DFam D, z.val.cell? ⟨w.heap.size, 3, none⟩ = some (.int .u64 vd)) ∧ (∀ z : DFam D, z.val.cell? ⟨w.heap.size, 2, none⟩ = some (.int .u64 x3)) :=
    ⟨fun u => Blk u w.heap.size 61 #[.int .u64 x2, .int .u64 x1, .int .u64 x3, .int .u64 vd], H4.out.drew, fun u h => h, fun z => (z.prop.cell 3).trans rfl, fun z => (z.prop.cell 2).trans rfl⟩
  haveI : Nonempty (DFam D) := ⟨⟨_, hD0⟩⟩
  refine wp_region_mask [true, true, false, true, true, false, false, false] 2 D (by kernel_rfl) (by kernel_rfl) hD0 ?_
  simp only [selT, selF, List.take_succ_cons, List.take_zero, List.drop_succ_cons, List.drop_zero]
  repeat (go_big_quiet_step (fail))
  refine wpQuiet_nil (wpEarly_cons ?_)
  clear F1 F2
  go_wp2_with fail
  refine (turn_any vd 16 _ (by decide) (by decide)).mono ?_
  rintro e _ ⟨rfl, n4, rfl⟩
  obtain ⟨y4, hy4⟩ : ∃ x, rotZ vd 16 = x := ⟨_, rfl⟩
  rw [hy4]
  go_wp2_with fail
  refine QN_normal ⟨hDi _ (H4.out.drew.drewN n4), wpEarly_cons ?_⟩
  obtain ⟨x4, hx4⟩ : ∃ x, bits .xor .u64 y4 x3 = x := ⟨_, rfl⟩
  have X4 : Hid (xorZ (rotZ vd 16) x3 = x4) := Lib.hid (by rw [hy4]; exact hx4)
  go_wp2_with fail
  refine QN_normal ⟨hDi _ (H4.out.drew.drewN n4), wpEarly_nil ?_⟩
  clear hy4 hx4 hD0 hDi
  have e0 := (H4.out.cell 0).trans rfl; have e1 := (H4.out.cell 1).trans rfl; have e2 := (H4.out.cell 2).trans rfl; have e3 := (H4.out.cell 3).trans rfl
  have z0 := H4.out.frozen 0; have z1 := H4.out.frozen 1; have z2 := H4.out.frozen 2; have z3 := H4.out.frozen 3
  go_upto_region 6 with fail
  obtain ⟨w5, hw⟩ : ∃ u, (w4.drewN (1 + n4)).setCell ⟨w.heap.size, 3, none⟩ (.int .u64 x4) = u := ⟨_, rfl⟩
  have hB : Blk w5 w.heap.size 61 #[.int .u64 x2, .int .u64 x1, .int .u64 x3, .int .u64 x4] := by rw [← hw]; exact (H4.out.drewN (1 + n4)).set_ 3 (.int .u64 x4)
  have R5 : Hid (Blk w5 (w.heap.size + 1) 61 #[.int .u64 0, .int .u64 0, .int .u64 0, .int .u64 0]) := Lib.hid (by rw [← hw]; exact (R4.out.drewN (1 + n4)).far (by simp) _)
  have O5 : Hid (Below w.heap.size w w5) := Lib.hid (by rw [← hw]; exact (below_drewN O4.out (1 + n4)).setCell (p := ⟨w.heap.size, 3, none⟩) (Nat.le_refl _) _)
  have H5 := Lib.hid hB
  rw [hw]
  clear hw
  clear e0 e1 e2 e3 z0 z1 z2 z3
  have e0 := (hB.cell 0).trans rfl; have e1 := (hB.cell 1).trans rfl; have e2 := (hB.cell 2).trans rfl; have e3 := (hB.cell 3).trans rfl
  have z0 := hB.frozen 0; have z1 := hB.frozen 1; have z2 := hB.frozen 2; have z3 := hB.frozen 3
  clear hB
  obtain ⟨x5, hx5⟩ : ∃ x, IntKind.u64.wrap (x2 + x4) = x := ⟨_, rfl⟩
  have X5 : Hid (addZ x2 x4 = x5) := Lib.hid hx5
  go_upto_region 7 with fail
  obtain ⟨w6, hw⟩ : ∃ u, w5.setCell ⟨w.heap.size, 0, none⟩ (.int .u64 x5) = u := ⟨_, rfl⟩
  have hB : Blk w6 w.heap.size 61 #[.int .u64 x5, .int .u64 x1, .int .u64 x3, .int .u64 x4] := by rw [← hw]; exact (H5.out).set_ 0 (.int .u64 x5)
  have R6 : Hid (Blk w6 (w.heap.size + 1) 61 #[.int .u64 0, .int .u64 0, .int .u64 0, .int .u64 0]) := Lib.hid (by rw [← hw]; exact (R5.out).far (by simp) _)
  have O6 : Hid (Below w.heap.size w w6) := Lib.hid (by rw [← hw]; exact O5.out.setCell (p := ⟨w.heap.size, 0, none⟩) (Nat.le_refl _) _)
  have H6 := Lib.hid hB
  rw [hw]
  clear hw
  clear e0 e1 e2 e3 z0 z1 z2 z3
  have e0 := (hB.cell 0).trans rfl; have e1 := (hB.cell 1).trans rfl; have e2 := (hB.cell 2).trans rfl; have e3 := (hB.cell 3).trans rfl
  have z0 := hB.frozen 0; have z1 := hB.frozen 1; have z2 := hB.frozen 2; have z3 := hB.frozen 3
  clear hB
  clear hx5
  clear e0 e1 e2 e3 z0 z1 z2 z3
  obtain ⟨D, hD0, hDi, F1, F2⟩ : ∃ D : World → Prop, D w6.drew ∧ (∀ u, Blk u w.heap.size 61 #[.int .u64 x5, .int .u64 x1, .int .u64 x3, .int .u64 x4] → D u) ∧ (∀ z : DFam D, z.val.cell? ⟨w.heap.size, 3, none⟩ = some (.int .u64 x4)) ∧ (∀ z : DFam D, z.val.cell? ⟨w.heap.size, 0, none⟩ = some (.int .u64 x5)) :=
    ⟨fun u => Blk u w.heap.size 61 #[.int .u64 x5, .int .u64 x1, .int .u64 x3, .int .u64 x4], H6.out.drew, fun u h => h, fun z => (z.prop.cell 3).trans rfl, fun z => (z.prop.cell 0).trans rfl⟩
  haveI : Nonempty (DFam D) := ⟨⟨_, hD0⟩⟩
  refine wp_region_mask [true, true, false, true, true, false, false, false] 2 D (by kernel_rfl) (by kernel_rfl) hD0 ?_
  simp only [selT, selF, List.take_succ_cons, List.take_zero, List.drop_succ_cons, List.drop_zero]
  repeat (go_big_quiet_step (fail))
  refine wpQuiet_nil (wpEarly_cons ?_)
  clear F1 F2
  go_wp2_with fail
  refine (turn_any x4 21 _ (by decide) (by decide)).mono ?_
  rintro e _ ⟨rfl, n6, rfl⟩
  obtain ⟨y6, hy6⟩ : ∃ x, rotZ x4 21 = x := ⟨_, rfl⟩
  rw [hy6]
  go_wp2_with fail
  refine QN_normal ⟨hDi _ (H6.out.drew.drewN n6), wpEarly_cons ?_⟩
  obtain ⟨x6, hx6⟩ : ∃ x, bits .xor .u64 y6 x5 = x := ⟨_, rfl⟩
  have X6 : Hid (xorZ (rotZ x4 21) x5 = x6) := Lib.hid (by rw [hy6]; exact hx6)
  go_wp2_with fail
  refine QN_normal ⟨hDi _ (H6.out.drew.drewN n6), wpEarly_nil ?_⟩
  clear hy6 hx6 hD0 hDi
  have e0 := (H6.out.cell 0).trans rfl; have e1 := (H6.out.cell 1).trans rfl; have e2 := (H6.out.cell 2).trans rfl; have e3 := (H6.out.cell 3).trans rfl
  have z0 := H6.out.frozen 0; have z1 := H6.out.frozen 1; have z2 := H6.out.frozen 2; have z3 := H6.out.frozen 3
  go_upto_region 8 with fail
  obtain ⟨w7, hw⟩ : ∃ u, (w6.drewN (1 + n6)).setCell ⟨w.heap.size, 3, none⟩ (.int .u64 x6) = u := ⟨_, rfl⟩
  have hB : Blk w7 w.heap.size 61 #[.int .u64 x5, .int .u64 x1, .int .u64 x3, .int .u64 x6] := by rw [← hw]; exact (H6.out.drewN (1 + n6)).set_ 3 (.int .u64 x6)
  have R7 : Hid (Blk w7 (w.heap.size + 1) 61 #[.int .u64 0, .int .u64 0, .int .u64 0, .int .u64 0]) := Lib.hid (by rw [← hw]; exact (R6.out.drewN (1 + n6)).far (by simp) _)
  have O7 : Hid (Below w.heap.size w w7) := Lib.hid (by rw [← hw]; exact (below_drewN O6.out (1 + n6)).setCell (p := ⟨w.heap.size, 3, none⟩) (Nat.le_refl _) _)
  have H7 := Lib.hid hB
  rw [hw]
  clear hw
  clear e0 e1 e2 e3 z0 z1 z2 z3
  have e0 := (hB.cell 0).trans rfl; have e1 := (hB.cell 1).trans rfl; have e2 := (hB.cell 2).trans rfl; have e3 := (hB.cell 3).trans rfl
  have z0 := hB.frozen 0; have z1 := hB.frozen 1; have z2 := hB.frozen 2; have z3 := hB.frozen 3
  clear hB
  obtain ⟨x7, hx7⟩ : ∃ x, IntKind.u64.wrap (x3 + x1) = x := ⟨_, rfl⟩
  have X7 : Hid (addZ x3 x1 = x7) := Lib.hid hx7
  go_upto_region 9 with fail
  obtain ⟨w8, hw⟩ : ∃ u, w7.setCell ⟨w.heap.size, 2, none⟩ (.int .u64 x7) = u := ⟨_, rfl⟩
  have hB : Blk w8 w.heap.size 61 #[.int .u64 x5, .int .u64 x1, .int .u64 x7, .int .u64 x6] := by rw [← hw]; exact (H7.out).set_ 2 (.int .u64 x7)
  have R8 : Hid (Blk w8 (w.heap.size + 1) 61 #[.int .u64 0, .int .u64 0, .int .u64 0, .int .u64 0]) := Lib.hid (by rw [← hw]; exact (R7.out).far (by simp) _)
  have O8 : Hid (Below w.heap.size w w8) := Lib.hid (by rw [← hw]; exact O7.out.setCell (p := ⟨w.heap.size, 2, none⟩) (Nat.le_refl _) _)
  have H8 := Lib.hid hB
  rw [hw]
  clear hw
  clear e0 e1 e2 e3 z0 z1 z2 z3
  have e0 := (hB.cell 0).trans rfl; have e1 := (hB.cell 1).trans rfl; have e2 := (hB.cell 2).trans rfl; have e3 := (hB.cell 3).trans rfl
  have z0 := hB.frozen 0; have z1 := hB.frozen 1; have z2 := hB.frozen 2; have z3 := hB.frozen 3
  clear hB
  clear hx7
  clear e0 e1 e2 e3 z0 z1 z2 z3
  obtain ⟨D, hD0, hDi, F1, F2⟩ : ∃ D : World → Prop, D w8.drew ∧ (∀ u, Blk u w.heap.size 61 #[.int .u64 x5, .int .u64 x1, .int .u64 x7, .int .u64 x6] → D u) ∧ (∀ z : DFam D, z.val.cell? ⟨w.heap.size, 1, none⟩ = some (.int .u64 x1)) ∧ (∀ z : DFam D, z.val.cell? ⟨w.heap.size, 2, none⟩ = some (.int .u64 x7)) :=
    ⟨fun u => Blk u w.heap.size 61 #[.int .u64 x5, .int .u64 x1, .int .u64 x7, .int .u64 x6], H8.out.drew, fun u h => h, fun z => (z.prop.cell 1).trans rfl, fun z => (z.prop.cell 2).trans rfl⟩
  haveI : Nonempty (DFam D) := ⟨⟨_, hD0⟩⟩
  refine wp_region_mask [true, true, false, true, true, false, false, false] 2 D (by kernel_rfl) (by kernel_rfl) hD0 ?_
  simp only [selT, selF, List.take_succ_cons, List.take_zero, List.drop_succ_cons, List.drop_zero]
  repeat (go_big_quiet_step (fail))
  refine wpQuiet_nil (wpEarly_cons ?_)
  clear F1 F2
  go_wp2_with fail
  refine (turn_any x1 17 _ (by decide) (by decide)).mono ?_
  rintro e _ ⟨rfl, n8, rfl⟩
  obtain ⟨y8, hy8⟩ : ∃ x, rotZ x1 17 = x := ⟨_, rfl⟩
  rw [hy8]
  go_wp2_with fail
  refine QN_normal ⟨hDi _ (H8.out.drew.drewN n8), wpEarly_cons ?_⟩
  obtain ⟨x8, hx8⟩ : ∃ x, bits .xor .u64 y8 x7 = x := ⟨_, rfl⟩
  have X8 : Hid (xorZ (rotZ x1 17) x7 = x8) := Lib.hid (by rw [hy8]; exact hx8)
  go_wp2_with fail
  refine QN_normal ⟨hDi _ (H8.out.drew.drewN n8), wpEarly_nil ?_⟩
  clear hy8 hx8 hD0 hDi
  have e0 := (H8.out.cell 0).trans rfl; have e1 := (H8.out.cell 1).trans rfl; have e2 := (H8.out.cell 2).trans rfl; have e3 := (H8.out.cell 3).trans rfl
  have z0 := H8.out.frozen 0; have z1 := H8.out.frozen 1; have z2 := H8.out.frozen 2; have z3 := H8.out.frozen 3
  go_upto_region 10 with fail
  obtain ⟨w9, hw⟩ : ∃ u, (w8.drewN (1 + n8)).setCell ⟨w.heap.size, 1, none⟩ (.int .u64 x8) = u := ⟨_, rfl⟩
  have hB : Blk w9 w.heap.size 61 #[.int .u64 x5, .int .u64 x8, .int .u64 x7, .int .u64 x6] := by rw [← hw]; exact (H8.out.drewN (1 + n8)).set_ 1 (.int .u64 x8)
  have R9 : Hid (Blk w9 (w.heap.size + 1) 61 #[.int .u64 0, .int .u64 0, .int .u64 0, .int .u64 0]) := Lib.hid (by rw [← hw]; exact (R8.out.drewN (1 + n8)).far (by simp) _)
  have O9 : Hid (Below w.heap.size w w9) := Lib.hid (by rw [← hw]; exact (below_drewN O8.out (1 + n8)).setCell (p := ⟨w.heap.size, 1, none⟩) (Nat.le_refl _) _)
  have H9 := Lib.hid hB
  rw [hw]
  clear hw
  clear e0 e1 e2 e3 z0 z1 z2 z3
  have e0 := (hB.cell 0).trans rfl; have e1 := (hB.cell 1).trans rfl; have e2 := (hB.cell 2).trans rfl; have e3 := (hB.cell 3).trans rfl
  have z0 := hB.frozen 0; have z1 := hB.frozen 1; have z2 := hB.frozen 2; have z3 := hB.frozen 3
  clear hB
  go_wp2_with fail
  refine (turn_any x7 32 _ (by decide) (by decide)).mono ?_
  rintro e _ ⟨rfl, n9, rfl⟩
  obtain ⟨x9, hx9⟩ : ∃ x, rotZ x7 32 = x := ⟨_, rfl⟩
  have X9 := Lib.hid hx9
  rw [hx9]
  clear hx9
  go_upto_region 11 with fail
  obtain ⟨w10, hw⟩ : ∃ u, (w9.drewN n9).setCell ⟨w.heap.size, 2, none⟩ (.int .u64 x9) = u := ⟨_, rfl⟩
  have hB : Blk w10 w.heap.size 61 #[.int .u64 x5, .int .u64 x8, .int .u64 x9, .int .u64 x6] := by rw [← hw]; exact (H9.out.drewN n9).set_ 2 (.int .u64 x9)
  have R10 : Hid (Blk w10 (w.heap.size + 1) 61 #[.int .u64 0, .int .u64 0, .int .u64 0, .int .u64 0]) := Lib.hid (by rw [← hw]; exact (R9.out.drewN n9).far (by simp) _)
  have O10 : Hid (Below w.heap.size w w10) := Lib.hid (by rw [← hw]; exact (below_drewN O9.out n9).setCell (p := ⟨w.heap.size, 2, none⟩) (Nat.le_refl _) _)
  have H10 := Lib.hid hB
  rw [hw]
  clear hw
  clear e0 e1 e2 e3 z0 z1 z2 z3
  have e0 := (hB.cell 0).trans rfl; have e1 := (hB.cell 1).trans rfl; have e2 := (hB.cell 2).trans rfl; have e3 := (hB.cell 3).trans rfl
  have z0 := hB.frozen 0; have z1 := hB.frozen 1; have z2 := hB.frozen 2; have z3 := hB.frozen 3
  clear hB
  obtain ⟨wf, hwf⟩ : ∃ u, ((((w10.setCell ⟨w.heap.size + 1, 0, none⟩ (.int .u64 x5)).setCell ⟨w.heap.size + 1, 1, none⟩ (.int .u64 x8)).setCell ⟨w.heap.size + 1, 2, none⟩ (.int .u64 x9)).setCell ⟨w.heap.size + 1, 3, none⟩ (.int .u64 x6)) = u := ⟨_, rfl⟩
  have HBF : Hid (Blk wf (w.heap.size + 1) 61 #[.int .u64 x5, .int .u64 x8, .int .u64 x9, .int .u64 x6]) := Lib.hid (by rw [← hwf]; exact (((R10.out.set_ 0 _).set_ 1 _).set_ 2 _).set_ 3 _)
  have HOF : Hid (Below w.heap.size w wf) := Lib.hid (by
    rw [← hwf]
    exact (((O10.out.setCell (p := ⟨w.heap.size + 1, 0, none⟩) (Nat.le_succ _) _).setCell (p := ⟨w.heap.size + 1, 1, none⟩) (Nat.le_succ _) _).setCell (p := ⟨w.heap.size + 1, 2, none⟩) (Nat.le_succ _) _).setCell (p := ⟨w.heap.size + 1, 3, none⟩) (Nat.le_succ _) _)
  have q0 := (R10.out.cell 0).trans rfl; have q1 := (R10.out.cell 1).trans rfl; have q2 := (R10.out.cell 2).trans rfl; have q3 := (R10.out.cell 3).trans rfl
  have y0 := R10.out.frozen 0; have y1 := R10.out.frozen 1; have y2 := R10.out.frozen 2; have y3 := R10.out.frozen 3
  have HWF := Lib.hid hwf
  clear hwf
  go_wp2_with fail
  rw [HWF.out]
  have HE : Hid (arrV (rnd ⟨va, vb, vc, vd⟩) = #[.int .u64 x5, .int .u64 x8, .int .u64 x9, .int .u64 x6]) := Lib.hid (by
    unfold rnd
    simp only [X0.out, X1.out, X2.out, X3.out, X4.out, X5.out, X6.out, X7.out, X8.out, X9.out])
  have p0 := (HBF.out.cell 0).trans rfl; have p1 := (HBF.out.cell 1).trans rfl; have p2 := (HBF.out.cell 2).trans rfl; have p3 := (HBF.out.cell 3).trans rfl
  exact bodyPost_ret (v := .agg #[.int .u64 x5, .int .u64 x8, .int .u64 x9, .int .u64 x6]) (by simp [results, Try.results43, go_sem, p0, p1, p2, p3]) rfl ⟨by rw [HE.out], HOF.out⟩
end Go.Proofs.Ytpipojgfpilhdaa
