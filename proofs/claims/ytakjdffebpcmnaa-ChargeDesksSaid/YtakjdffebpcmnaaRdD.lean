/- The walk of should: a call of the reference's desk. -/
import Derived.Test.YtakjdffebpcmnaaRdC
namespace Go.Proofs.Ytakjdffebpcmnaa
open Go Go.RowKit Go.Maps
/-- A desk that came back lies stored in a new block: nothing is lost. -/
theorem RetRd.wrap {w v w2 : World} {G : Nat → Prop} {k : Nat} {m : List En} {x : Int} {e : Ending} (hv : Below w.heap.size w v) (hk : w.heap.size ≤ k) (hr : RetRd v (fun j => G j ∧ j ≠ k) m x e w2) :
    ∃ A n c T c2 S c3, e = .returned (.tuple #[.agg #[.slice A n c, .slice T n c2, .slice S n c3], .int .i64 x]) ∧ Below v.heap.size v w2 ∧
      ∀ x0 y0 z0, RetRd w G m x (.returned (.tuple #[.agg #[.slice A n c, .slice T n c2, .slice S n c3], .int .i64 x])) (set3 w2 k x0 y0 z0) := by
  obtain ⟨hb, A, n, c, T, c2, S, c3, rfl, h⟩ := hr
  refine ⟨A, n, c, T, c2, S, c3, rfl, hb, fun x0 y0 z0 => ⟨set3_below (hv.trans (hb.mono hv.size)) hk x0 y0 z0, A, n, c, T, c2, S, c3, rfl, ?_⟩⟩
  exact (h.keep (set3_only w2 k x0 y0 z0) fun j _ hj e => hj.2 e).mono fun j _ hj => hj.1
set_option maxHeartbeats 1000000 in
set_option maxRecDepth 10000 in
theorem rshould_any (G : Nat → Prop) (A T S : Option Addr) (n c c2 c3 : Nat) (l m : List En) (kd pa pb pc er x : Int) (w : World) (hG : ∀ k, w.heap.size ≤ k → G k) (h : RdW w G A n T S l) (hn : n ≤ 100000) (ht : ∀ x ∈ l, 0 ≤ x.2.2 ∧ x.2.2 ≤ 1000000)
    (hx : doE l kd (pa, pb, pc) = x) (hm : doL l kd (pa, pb, pc) er = m) :
    Calls Try.prog 24 #[.agg #[.slice A n c, .slice T n c2, .slice S n c3], .agg #[.int .i64 kd, .int .i64 pa, .int .i64 pb, .int .i64 pc, .int .i64 er]] w (RetRd w G m x) := by
  have B0 := ((Blk.new w 44 #[.slice A n c, .slice T n c2, .slice S n c3]).alloc (.cells #[.int .i64 kd, .int .i64 pa, .int .i64 pb, .int .i64 pc, .int .i64 er] 37)).alloc (.cells #[.slice none 0 0, .slice none 0 0, .slice none 0 0] 44)
  have B1 := (Blk.new (w.alloc (.cells #[.slice A n c, .slice T n c2, .slice S n c3] 44)) 37 #[.int .i64 kd, .int .i64 pa, .int .i64 pb, .int .i64 pc, .int .i64 er]).alloc (.cells #[.slice none 0 0, .slice none 0 0, .slice none 0 0] 44)
  have B2 := Blk.new ((w.alloc (.cells #[.slice A n c, .slice T n c2, .slice S n c3] 44)).alloc (.cells #[.int .i64 kd, .int .i64 pa, .int .i64 pb, .int .i64 pc, .int .i64 er] 37)) 44 #[.slice none 0 0, .slice none 0 0, .slice none 0 0]
  have hbx := below_alloc (below_alloc (below_alloc (Below.refl w.heap.size w) (Nat.le_refl _) (.cells #[.slice A n c, .slice T n c2, .slice S n c3] 44)) (Nat.le_refl _) (.cells #[.int .i64 kd, .int .i64 pa, .int .i64 pb, .int .i64 pc, .int .i64 er] 37)) (Nat.le_refl _) (.cells #[.slice none 0 0, .slice none 0 0, .slice none 0 0] 44)
  rw [show (w.alloc (.cells #[.slice A n c, .slice T n c2, .slice S n c3] 44)).heap.size = w.heap.size + 1 by simp] at B1
  rw [show ((w.alloc (.cells #[.slice A n c, .slice T n c2, .slice S n c3] 44)).alloc (.cells #[.int .i64 kd, .int .i64 pa, .int .i64 pb, .int .i64 pc, .int .i64 er] 37)).heap.size = w.heap.size + 1 + 1 by simp] at B2
  obtain ⟨u, hu⟩ : ∃ u, ((w.alloc (.cells #[.slice A n c, .slice T n c2, .slice S n c3] 44)).alloc (.cells #[.int .i64 kd, .int .i64 pa, .int .i64 pb, .int .i64 pc, .int .i64 er] 37)).alloc (.cells #[.slice none 0 0, .slice none 0 0, .slice none 0 0] 44) = u := ⟨_, rfl⟩
  rw [hu] at B0 B1 B2 hbx
  have hG' : ∀ k, u.heap.size ≤ k → G k ∧ k ≠ w.heap.size + 1 + 1 := fun k hk => ⟨hG k (Nat.le_trans hbx.size hk), by have := B2.lt; omega⟩
  have hW' : RdW u (fun j => G j ∧ j ≠ w.heap.size + 1 + 1) A n T S l := (h.mono fun k hk hg => ⟨hg, by omega⟩).below hbx
  have HU := Lib.hid hu
  have HB2 := Lib.hid B2
  have HBX := Lib.hid hbx
  have HG := Lib.hid hG'
  have HW := Lib.hid hW'
  have a0 := (B0.cell 0).trans rfl; have a1 := (B0.cell 1).trans rfl; have a2 := (B0.cell 2).trans rfl
  have b0 := (B1.cell 0).trans rfl; have b1 := (B1.cell 1).trans rfl; have b2 := (B1.cell 2).trans rfl; have b3 := (B1.cell 3).trans rfl; have b4 := (B1.cell 4).trans rfl
  by_cases h0 : kd = 0
  · have HE : Hid (askE l (pa, pb, pc) = x) := Lib.hid (by rw [← hx]; unfold doE; rw [if_pos h0])
    have HM : Hid (askL l (pa, pb, pc) = m) := Lib.hid (by rw [← hm]; unfold doL; rw [if_pos h0])
    have e0 := eq0_t h0
    clear B0 B1 B2 hbx hG h hx hm hu hG' hW' h0
    go_enter Try.func24, Try.ntmps24
    go_upto_region 1 with fail
    rw [HU.out]
    go_wp2_with fail
    refine (rask_any _ A T S n c c2 c3 l m pa pb pc x u HG.out HW.out hn HE.out HM.out).mono ?_
    intro e w2 hr
    obtain ⟨A', n', c', T', c2', S', c3', rfl, hb2, hret⟩ := hr.wrap HBX.out (by omega)
    have E2 := HB2.out.below hb2 HB2.out.lt
    have HRET := Lib.hid hret
    have g0 := E2.frozen 0; have g1 := E2.frozen 1; have g2 := E2.frozen 2
    have d0 := (E2.cell 0).trans rfl; have d1 := (E2.cell 1).trans rfl; have d2 := (E2.cell 2).trans rfl
    clear hr hret E2
    go_wp2_with fail
    exact bodyPost_ret (v := .tuple #[.agg #[.slice A' n' c', .slice T' n' c2', .slice S' n' c3'], .int .i64 x]) (by simp [results, Try.results24, go_sem, d0, d1, d2]) rfl (HRET.out _ _ _)
  · have HE : Hid (ansE l pa = x) := Lib.hid (by rw [← hx]; unfold doE; rw [if_neg h0])
    have HM : Hid (ansL l pa er = m) := Lib.hid (by rw [← hm]; unfold doL; rw [if_neg h0])
    have e0 := eq0_f h0
    clear B0 B1 B2 hbx hG h hx hm hu hG' hW' h0
    go_enter Try.func24, Try.ntmps24
    go_upto_region 1 with fail
    rw [HU.out]
    go_wp2_with fail
    refine (rans_any _ A T S n c c2 c3 l m pa er x u HG.out HW.out hn ht HE.out HM.out).mono ?_
    intro e w2 hr
    obtain ⟨A', n', c', T', c2', S', c3', rfl, hb2, hret⟩ := hr.wrap HBX.out (by omega)
    have E2 := HB2.out.below hb2 HB2.out.lt
    have HRET := Lib.hid hret
    have g0 := E2.frozen 0; have g1 := E2.frozen 1; have g2 := E2.frozen 2
    have d0 := (E2.cell 0).trans rfl; have d1 := (E2.cell 1).trans rfl; have d2 := (E2.cell 2).trans rfl
    clear hr hret E2
    go_wp2_with fail
    exact bodyPost_ret (v := .tuple #[.agg #[.slice A' n' c', .slice T' n' c2', .slice S' n' c3'], .int .i64 x]) (by simp [results, Try.results24, go_sem, d0, d1, d2]) rfl (HRET.out _ _ _)
end Go.Proofs.Ytakjdffebpcmnaa
