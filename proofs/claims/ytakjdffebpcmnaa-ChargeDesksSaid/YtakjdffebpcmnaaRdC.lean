/- The walk of the reference's Answer. Printed by mkc.py and genrd.py. -/
import Derived.Test.YtakjdffebpcmnaaRdB
namespace Go.Proofs.Ytakjdffebpcmnaa
open Go Go.RowKit Go.Maps
/-- The new desk's block in the drawn region. -/
def Al (B i : Nat) (S : Nat → Bool) (v : Nat → Value) (u : World) : Prop := S i = true → ∃ b, v i = .pointer (some ⟨b, 0, none⟩) ∧ Blk u b 44 #[.slice none 0 0, .slice none 0 0, .slice none 0 0] ∧ B ≤ b
section
variable {B i j : Nat} {S : Nat → Bool} {v : Nat → Value} {u u' : World}
theorem Al.start : Al B i (fun _ => false) v u := fun h => absurd h Bool.false_ne_true
theorem Al.other (h : Al B i S v u) (hk : Keeps 44 u u') (x : Value) (hij : i ≠ j) : Al B i (upd S j true) (upd v j x) u' := by
  intro hS
  rw [upd_ne S true hij] at hS
  obtain ⟨b, h1, h2, h3⟩ := h hS
  exact ⟨b, by rw [upd_ne v x hij]; exact h1, hk.blk h2, h3⟩
theorem Al.made (hB : B ≤ u.heap.size) : Al B i (upd S i true) (upd v i (.pointer (some ⟨u.heap.size, 0, none⟩))) (u.alloc (.cells #[.slice none 0 0, .slice none 0 0, .slice none 0 0] 44)) := fun _ =>
  ⟨u.heap.size, upd_at .., Blk.new u 44 _, hB⟩
end
theorem rd_set {l : List En} {i : Nat} (hi : i < l.length) (s t : Int) : cellsP (rdP (l.set i (l[i].1, s, t))) = cellsP (rdP l) ∧ ints (rdT (l.set i (l[i].1, s, t))) = (ints (rdT l)).set i (.int .i64 t) ∧ ints (rdS (l.set i (l[i].1, s, t))) = (ints (rdS l)).set i (.int .i64 (stR s)) := by
  refine ⟨?_, ?_, ?_⟩
  · congr 1
    unfold rdP
    rw [List.map_set]
    refine List.ext_getElem (by simp) fun k h1 h2 => ?_
    rw [List.getElem_set]
    split
    · rename_i e; subst e; simp
    · rfl
  · unfold rdT ints; rw [List.map_set, List.map_set]
  · unfold rdS ints; rw [List.map_set, List.map_set]
theorem rdS_same {l : List En} {i : Nat} (hi : i < l.length) (h : l[i].2.1 = 0) : (ints (rdS l)).set i (.int .i64 (stR 0)) = ints (rdS l) := by
  have := rdS_get hi
  rw [h] at this
  obtain ⟨h1, e⟩ := List.getElem?_eq_some_iff.1 this
  rw [← e]
  exact List.set_getElem_self h1
set_option maxHeartbeats 1000000 in
set_option maxRecDepth 10000 in
theorem rans_any (G : Nat → Prop) (A T S_ : Option Addr) (n c c2 c3 : Nat) (l m : List En) (r er x : Int) (w : World) (hG : ∀ k, w.heap.size ≤ k → G k) (h : RdW w G A n T S_ l) (hn : n ≤ 100000) (ht : ∀ x ∈ l, 0 ≤ x.2.2 ∧ x.2.2 ≤ 1000000) (hx : ansE l r = x) (hm : ansL l r er = m) :
    Calls Try.prog 39 #[.agg #[.slice A n c, .slice T n c2, .slice S_ n c3], .int .i64 r, .int .i64 er] w (RetRd w G m x) := by
  have B0 := (Blk.new w 44 #[.slice A n c, .slice T n c2, .slice S_ n c3]).alloc (.cells #[.slice none 0 0, .slice none 0 0, .slice none 0 0] 44)
  have B2 := Blk.new (w.alloc (.cells #[.slice A n c, .slice T n c2, .slice S_ n c3] 44)) 44 #[.slice none 0 0, .slice none 0 0, .slice none 0 0]
  have hbx := below_alloc (below_alloc (Below.refl w.heap.size w) (Nat.le_refl _) (.cells #[.slice A n c, .slice T n c2, .slice S_ n c3] 44)) (Nat.le_refl _) (.cells #[.slice none 0 0, .slice none 0 0, .slice none 0 0] 44)
  rw [show (w.alloc (.cells #[.slice A n c, .slice T n c2, .slice S_ n c3] 44)).heap.size = w.heap.size + 1 by simp] at B2
  obtain ⟨u, hu⟩ : ∃ u, (w.alloc (.cells #[.slice A n c, .slice T n c2, .slice S_ n c3] 44)).alloc (.cells #[.slice none 0 0, .slice none 0 0, .slice none 0 0] 44) = u := ⟨_, rfl⟩
  rw [hu] at B0 B2 hbx
  have HU := Lib.hid hu
  have HW := Lib.hid h
  have HB0 := Lib.hid B0
  have HB2 := Lib.hid B2
  have HBX := Lib.hid hbx
  have HG := Lib.hid hG
  have HL := Lib.hid h.len
  have HX := Lib.hid hx
  have HM := Lib.hid hm
  have a0 := (B0.cell 0).trans rfl; have a1 := (B0.cell 1).trans rfl; have a2 := (B0.cell 2).trans rfl
  have f0 := B2.frozen 0; have f1 := B2.frozen 1; have f2 := B2.frozen 2
  have c0 := (B2.cell 0).trans rfl; have c1 := (B2.cell 1).trans rfl; have c2' := (B2.cell 2).trans rfl
  rcases hi : idx l r with _ | i
  · have HI := Lib.hid (idxR_none hi)
    have HE := Lib.hid (ansE_none hi)
    have HL2 := Lib.hid (ansL_none (e := er) hi)
    clear h B0 B2 hbx hG hx hm hu hi
    go_enter Try.func39, Try.ntmps39
    go_upto_region 1 with fail
    rw [HU.out]
    go_wp2_with fail
    refine (rat_any A T S_ n c n c2 n c3 (rdP l) r _ _ ((HW.out.1.reads.below HBX.out).more HBX.out.size) hn HI.out).mono ?_
    rintro ee w3 ⟨rfl, hb3⟩
    have E0 := HB0.out.below hb3 HB0.out.lt
    have E2 := HB2.out.below hb3 HB2.out.lt
    have HBW3 := Lib.hid (HBX.out.trans (hb3.mono HBX.out.size))
    have a0'' := (E0.cell 0).trans rfl; have a1'' := (E0.cell 1).trans rfl; have a2'' := (E0.cell 2).trans rfl
    have g0 := E2.frozen 0; have g1 := E2.frozen 1; have g2 := E2.frozen 2
    have d0 := (E2.cell 0).trans rfl; have d1 := (E2.cell 1).trans rfl; have d2 := (E2.cell 2).trans rfl
    have HE0 := Lib.hid E0; have HE2 := Lib.hid E2
    clear hb3 E0 E2 a0 a1 a2 f0 f1 f2 c0 c1 c2'
    go_wp2_with fail
    refine bodyPost_ret (v := .tuple #[.agg #[.slice A n c, .slice T n c2, .slice S_ n c3], .int .i64 7]) (by simp [results, Try.results39, go_sem, d0, d1, d2]) rfl ?_
    exact ret_old HBW3.out (by omega) HW.out (by rw [← HM.out, HL2.out]) (by rw [← HX.out, HE.out]) _ _ _
  · have HI := Lib.hid (idxR_some hi)
    have hil := idx_lt hi
    by_cases hs : l[i].2.1 = 0
    · have HE := Lib.hid (ansE_ok hi hs)
      have HL2 : Hid (ansL l r er = l.set i (l[i].1, stNew 0 er, l[i].2.2 + 1)) := Lib.hid (ansL_ok (e := er) hi hs)
      have hs' : (stR l[i].2.1 != 33) = false := by rw [(stR_lost _).2 hs]; rfl
      obtain ⟨t1, t2⟩ := ht _ (List.getElem_mem hil)
      have HS := Lib.hid hs
      clear hs ht
      clear h B0 B2 hbx hG hx hm hu hi
      go_enter Try.func39, Try.ntmps39
      go_upto_region 1 with fail
      rw [HU.out]
      go_wp2_with fail
      refine (rat_any A T S_ n c n c2 n c3 (rdP l) r _ _ ((HW.out.1.reads.below HBX.out).more HBX.out.size) hn HI.out).mono ?_
      rintro ee w3 ⟨rfl, hb3⟩
      have E0 := HB0.out.below hb3 HB0.out.lt
      have E2 := HB2.out.below hb3 HB2.out.lt
      have HBW3 := Lib.hid (HBX.out.trans (hb3.mono HBX.out.size))
      have a0'' := (E0.cell 0).trans rfl; have a1'' := (E0.cell 1).trans rfl; have a2'' := (E0.cell 2).trans rfl
      have g0 := E2.frozen 0; have g1 := E2.frozen 1; have g2 := E2.frozen 2
      have d0 := (E2.cell 0).trans rfl; have d1 := (E2.cell 1).trans rfl; have d2 := (E2.cell 2).trans rfl
      have HE0 := Lib.hid E0; have HE2 := Lib.hid E2
      clear hb3 E0 E2 a0 a1 a2 f0 f1 f2 c0 c1 c2'
      obtain ⟨sb, so, rfl, _, hd⟩ := ((HW.out.2.2.reads.below HBW3.out)).open_ (by have := HL.out; omega) (by have := HL.out; omega)
      have q0 : w3.cell? ⟨sb, so + i, none⟩ = some (.int .i64 (stR l[i].2.1)) := hd i _ (rdS_get hil)
      have hi0 : (0 : Int) ≤ i := by omega
      have hin0 : (i : Int) < n := by have := HL.out; omega
      clear hd
      go_upto_region 6 with fail
      obtain ⟨wr, rfl⟩ : ∃ wr : World, wr = w3 := ⟨_, rfl⟩
      have k0 := fun z : DFam (DB wr) => DB.some_ z a0''
      have k1 := fun z : DFam (DB wr) => DB.some_ z a1''
      have k2 := fun z : DFam (DB wr) => DB.some_ z a2''
      clear a0'' a1'' a2'' q0 d0 d1 d2
      refine wp_region_free [1, 2, 5, 6, 9, 10] [0, 3, 4, 7, 8, 11, 12, 13] [14] (DB wr) (by kernel_rfl) (by kernel_rfl) (DB.drew wr) ?_
      simp only [List.map_cons, List.map_nil, List.getD_cons_succ, List.getD_cons_zero]
      repeat (go_big_quiet_step (fail))
      refine wpQuiet_nil ?_
      refine ⟨fun S v u => DB wr u ∧ Ch wr.heap.size 23 3 n (cellsP (rdP l)) [] 0 3 1000 1001 S v u ∧ Ch wr.heap.size 3 1 n (ints (rdT l)) [] 4 7 1000 1001 S v u ∧ Ch wr.heap.size 26 1 n (ints (rdS l)) [] 8 11 1000 1001 S v u ∧ Bd 3 7 11 12 S v ∧ S 1001 = false ∧ Al wr.heap.size 13 S v u, ⟨DB.drew wr, Ch.start, Ch.start, Ch.start, Bd.start, rfl, Al.start⟩, ?_, ?_⟩
      · have R1 := (HW.out.1.reads.below HBW3.out).more HBW3.out.size
        have R2 := (HW.out.2.1.reads.below HBW3.out).more HBW3.out.size
        have R3 := (HW.out.2.2.reads.below HBW3.out).more HBW3.out.size
        obtain ⟨i23, h23, z23, s23, b23⟩ := info_parts Try.info23
        obtain ⟨i3, h3, z3_, s3, b3⟩ := info_parts Try.info3
        obtain ⟨i26, h26, z26, s26, b26⟩ := info_parts Try.info26
        intro S v u hcl hJ i hi hSi hw ρ hin hout
        obtain ⟨hD, hX, hY, hZ, hBd, h1001, hAl⟩ := hJ
        replace hin : ∀ j ∈ [0, 3, 4, 7, 8, 11, 12, 13], S j = true → ∀ t, (List.getD (α := Oper) _ j default).dst = some t → t < 55 → ρ (.tmp t) = v j := hin
        have hsz : wr.heap.size ≤ u.heap.size := hD.size
        have hr1 : ρ (.tmp 25) = .slice A n c := (hout (.tmp 25) (by kernel_rfl)).trans rfl
        have hr2 : ρ (.tmp 29) = .slice T n c2 := (hout (.tmp 29) (by kernel_rfl)).trans rfl
        have hr3 : ρ (.tmp 33) = .slice (some ⟨sb, so, none⟩) n c3 := (hout (.tmp 33) (by kernel_rfl)).trans rfl
        have hk : upd S i true 1001 = false := by rw [upd_ne S true (by rintro rfl; revert hi; decide)]; exact h1001
        simp only [List.mem_cons, List.not_mem_nil, or_false] at hi
        rcases hi with rfl | rfl | rfl | rfl | rfl | rfl | rfl | rfl
        · exact ⟨_, _, exec_bs0 30 23 i23 rfl Try.underlying30 h23, below_alloc hD (Nat.le_refl _) _, below_alloc hD (Nat.le_refl _) _, hX.step0 hsz (by decide) (by decide) (by decide), hY.other (Keeps.alloc 3 u _) _ (by decide) (by decide) (by decide) (by decide), hZ.other (Keeps.alloc 26 u _) _ (by decide) (by decide) (by decide) (by decide), hBd.step hSi (by decide) _, hk, hAl.other (Keeps.alloc 44 u _) _ (by decide)⟩
        · have hS0 : S 0 = true := hw 0 (by decide) (by kernel_rfl)
          have hown0 := hX.h0 hS0 hSi
          refine goal_append (P := Try.prog) (ρ := ρ) (w := u) (.tmp 23) (.tmp 25) 30 wr.heap.size 23 i23 _ 3 24 Try.underlying30 h23 z23 s23 b23 rfl (by omega) (v 0) 0 [] (hin 0 (by decide) hS0 23 rfl (by decide)) hown0 wr.heap.size A n c (cellsP (rdP l)) hr1 (R1.below hD) (one_cells _) (by simp only [maxLen]; omega) (by omega) hsz ?_ (by rfl)
          intro x u' hown hg
          simp only [Nat.zero_add, List.nil_append] at hown
          have hB := own_grown_below hD hown0 hg (Nat.le_refl _)
          exact ⟨hB, hB, hX.step1 hS0 hSi h1001 hown hg (by decide) (by decide), hY.other (Keeps.grown hown0 hg (by decide)) x (by decide) (by decide) (by decide) (by decide), hZ.other (Keeps.grown hown0 hg (by decide)) x (by decide) (by decide) (by decide) (by decide), hBd.step hSi (by decide) _, hk, hAl.other (Keeps.grown hown0 hg (by decide)) x (by decide)⟩
        · exact ⟨_, _, exec_bs0 34 3 i3 rfl Try.underlying34 h3, below_alloc hD (Nat.le_refl _) _, below_alloc hD (Nat.le_refl _) _, hX.other (Keeps.alloc 23 u _) _ (by decide) (by decide) (by decide) (by decide), hY.step0 hsz (by decide) (by decide) (by decide), hZ.other (Keeps.alloc 26 u _) _ (by decide) (by decide) (by decide) (by decide), hBd.step hSi (by decide) _, hk, hAl.other (Keeps.alloc 44 u _) _ (by decide)⟩
        · have hS0 : S 4 = true := hw 4 (by decide) (by kernel_rfl)
          have hown0 := hY.h0 hS0 hSi
          refine goal_append (P := Try.prog) (ρ := ρ) (w := u) (.tmp 27) (.tmp 29) 34 wr.heap.size 3 i3 _ 1 8 Try.underlying34 h3 z3_ s3 b3 rfl (by omega) (v 4) 0 [] (hin 4 (by decide) hS0 27 rfl (by decide)) hown0 wr.heap.size T n c2 (ints (rdT l)) hr2 (R2.below hD) (one_ints _) (by simp only [maxLen]; omega) (by omega) hsz ?_ (by rfl)
          intro x u' hown hg
          simp only [Nat.zero_add, List.nil_append] at hown
          have hB := own_grown_below hD hown0 hg (Nat.le_refl _)
          exact ⟨hB, hB, hX.other (Keeps.grown hown0 hg (by decide)) x (by decide) (by decide) (by decide) (by decide), hY.step1 hS0 hSi h1001 hown hg (by decide) (by decide), hZ.other (Keeps.grown hown0 hg (by decide)) x (by decide) (by decide) (by decide) (by decide), hBd.step hSi (by decide) _, hk, hAl.other (Keeps.grown hown0 hg (by decide)) x (by decide)⟩
        · exact ⟨_, _, exec_bs0 42 26 i26 rfl Try.underlying42 h26, below_alloc hD (Nat.le_refl _) _, below_alloc hD (Nat.le_refl _) _, hX.other (Keeps.alloc 23 u _) _ (by decide) (by decide) (by decide) (by decide), hY.other (Keeps.alloc 3 u _) _ (by decide) (by decide) (by decide) (by decide), hZ.step0 hsz (by decide) (by decide) (by decide), hBd.step hSi (by decide) _, hk, hAl.other (Keeps.alloc 44 u _) _ (by decide)⟩
        · have hS0 : S 8 = true := hw 8 (by decide) (by kernel_rfl)
          have hown0 := hZ.h0 hS0 hSi
          refine goal_append (P := Try.prog) (ρ := ρ) (w := u) (.tmp 31) (.tmp 33) 42 wr.heap.size 26 i26 _ 1 8 Try.underlying42 h26 z26 s26 b26 rfl (by omega) (v 8) 0 [] (hin 8 (by decide) hS0 31 rfl (by decide)) hown0 wr.heap.size (some ⟨sb, so, none⟩) n c3 (ints (rdS l)) hr3 (R3.below hD) (one_ints _) (by simp only [maxLen]; omega) (by omega) hsz ?_ (by rfl)
          intro x u' hown hg
          simp only [Nat.zero_add, List.nil_append] at hown
          have hB := own_grown_below hD hown0 hg (Nat.le_refl _)
          exact ⟨hB, hB, hX.other (Keeps.grown hown0 hg (by decide)) x (by decide) (by decide) (by decide) (by decide), hY.other (Keeps.grown hown0 hg (by decide)) x (by decide) (by decide) (by decide) (by decide), hZ.step1 hS0 hSi h1001 hown hg (by decide) (by decide), hBd.step hSi (by decide) _, hk, hAl.other (Keeps.grown hown0 hg (by decide)) x (by decide)⟩
        · have hS3 : S 3 = true := hw 3 (by decide) (by kernel_rfl)
          have hS7 : S 7 = true := hw 7 (by decide) (by kernel_rfl)
          have hS11 : S 11 = true := hw 11 (by decide) (by kernel_rfl)
          obtain ⟨A3, c3', hv3, _⟩ := own_reads (hX.h1 hS3 h1001)
          obtain ⟨A7, c7', hv7, _⟩ := own_reads (hY.h1 hS7 h1001)
          obtain ⟨A11, c11', hv11, _⟩ := own_reads (hZ.h1 hS11 h1001)
          refine ⟨_, u, exec_build44 ρ _ u (.tmp 26) (.tmp 30) (.tmp 34) A3 A7 A11 _ c3' _ c7' _ c11' rfl ((hin 3 (by decide) hS3 26 rfl (by decide)).trans hv3) ((hin 7 (by decide) hS7 30 rfl (by decide)).trans hv7) ((hin 11 (by decide) hS11 34 rfl (by decide)).trans hv11), hD, hD, hX.other (Keeps.refl _ _) _ (by decide) (by decide) (by decide) (by decide), hY.other (Keeps.refl _ _) _ (by decide) (by decide) (by decide) (by decide), hZ.other (Keeps.refl _ _) _ (by decide) (by decide) (by decide) (by decide), ?_, hk, hAl.other (Keeps.refl _ _) _ (by decide)⟩
          exact Bd.made (by decide) (by decide) (by decide) hS3 hS7 hS11 (by rw [hv3, hv7, hv11])
        · exact ⟨_, _, exec_alloc44 ρ _ u rfl, below_alloc hD (Nat.le_refl _) _, below_alloc hD (Nat.le_refl _) _, hX.other (Keeps.alloc 23 u _) _ (by decide) (by decide) (by decide) (by decide), hY.other (Keeps.alloc 3 u _) _ (by decide) (by decide) (by decide) (by decide), hZ.other (Keeps.alloc 26 u _) _ (by decide) (by decide) (by decide) (by decide), hBd.step hSi (by decide) _, hk, Al.made hsz⟩
      · intro S v u hall hJ
        obtain ⟨hD, hX, hY, hZ, hBd, h1001, hAl⟩ := hJ
        have o1 := hX.h1 (hall 3 (by decide)) h1001
        have o2 := hY.h1 (hall 7 (by decide)) h1001
        have o3 := hZ.h1 (hall 11 (by decide)) h1001
        obtain ⟨_, _, _, hv⟩ := hBd (hall 12 (by decide))
        obtain ⟨ab, hab, hblk, hle⟩ := hAl (hall 13 (by decide))
        obtain ⟨X1, X2, hv1, _⟩ := own_reads o1
        obtain ⟨Y1, Y2, hv2, _⟩ := own_reads o2
        obtain ⟨Z1, Z2, hv3, _⟩ := own_reads o3
        rw [hv1, hv2, hv3] at hv
        rw [hv1] at o1
        rw [hv2] at o2
        rw [hv3] at o3
        have f0 := hblk.frozen 0; have f1 := hblk.frozen 1; have f2 := hblk.frozen 2
        have d0 := (hblk.cell 0).trans rfl; have d1 := (hblk.cell 1).trans rfl; have d2 := (hblk.cell 2).trans rfl
        simp only [List.foldl_cons, List.foldl_nil, List.getD_cons_succ, List.getD_cons_zero]
        rw [hv, hab]
        clear hX hY hZ hBd hAl hall k0 k1 k2
        go_upto_region 7 with fail
        obtain ⟨yb, yo, rfl, _, _⟩ := (Reads.of_own o2).open_ (by have := HL.out; omega) (by have := HL.out; omega)
        obtain ⟨zb, zo, rfl, _, _⟩ := (Reads.of_own o3).open_ (by have := HL.out; omega) (by have := HL.out; omega)
        obtain ⟨rfl, hyb, _, _, _⟩ := own_blk o2
        obtain ⟨rfl, hzb, _, _, _⟩ := own_blk o3
        have e2 := HE2.out.below hD HE2.out.lt
        have hlt2 := HE2.out.lt
        obtain ⟨w7, hw7⟩ : ∃ v : World, ((u.setCell ⟨ab, 0, none⟩ (.slice X1 n X2)).setCell ⟨ab, 1, none⟩ (.slice (some ⟨yb, 0, none⟩) n Y2)).setCell ⟨ab, 2, none⟩ (.slice (some ⟨zb, 0, none⟩) n Z2) = v := ⟨_, rfl⟩
        rw [hw7]
        have hO7 : Only (fun j => j = ab) u w7 := by rw [← hw7]; exact set3_only u ab _ _ _
        have hb7 : Blk w7 ab 44 #[.slice X1 n X2, .slice (some ⟨yb, 0, none⟩) n Y2, .slice (some ⟨zb, 0, none⟩) n Z2] := by rw [← hw7]; exact ((hblk.set_ 0 (.slice X1 n X2)).set_ 1 (.slice (some ⟨yb, 0, none⟩) n Y2)).set_ 2 (.slice (some ⟨zb, 0, none⟩) n Z2)
        have p1 := hO7.own o1 fun k hk e => own_blk_ne o1 hblk (by decide) (by rw [hk, e])
        have p2 := hO7.own o2 fun k hk e => own_blk_ne o2 hblk (by decide) (by rw [hk, e])
        have p3 := hO7.own o3 fun k hk e => own_blk_ne o3 hblk (by decide) (by rw [hk, e])
        have e7 := hO7.blk e2 (by intro e; omega)
        have hD7 := Lib.hid (hD.trans (hO7.below (fun k _ e => by rw [e]; exact hle) hD.size))
        obtain ⟨_, _, cy, hBy, _⟩ := own_blk p2
        obtain ⟨_, _, cz, hBz, _⟩ := own_blk p3
        obtain ⟨yb', yo', hya, _, hdy⟩ := (Reads.of_own p2).open_ (by have := HL.out; omega) (by have := HL.out; omega)
        cases hya
        have dy : w7.cell? ⟨yb, i, none⟩ = some (.int .i64 l[i].2.2) := by have := hdy i _ (rdT_get hil); simpa using this
        have fy := hBy.frozen i
        have hyz : yb ≠ zb := Blk.ne_ hBy hBz (by decide)
        have hay : ab ≠ yb := Blk.ne_ hb7 hBy (by decide)
        have hey := Blk.ne_ e7 hBy (by decide)
        have d1' := (hb7.cell 1).trans rfl
        have o2' := (hb7.cell 2).trans rfl
        have P1' := Lib.hid p1; have P2' := Lib.hid p2; have P3' := Lib.hid p3
        have HB7 := Lib.hid hb7; have HE7 := Lib.hid e7; have HY7 := Lib.hid hBy; have HZ7 := Lib.hid hBz
        clear o1 o2 o3 p1 p2 p3 hb7 e7 e2 hBy hBz hw7 hO7 hblk hdy hD f0 f1 f2 d0 d1 d2
        go_upto_region 8 with fail
        obtain ⟨w8, hw8⟩ : ∃ v : World, w7.setCell ⟨yb, i, none⟩ (.int .i64 (l[i].2.2 + 1)) = v := ⟨_, rfl⟩
        rw [hw8]
        have hO8 : Only (fun j => j = yb) w7 w8 := by rw [← hw8]; exact (Only.refl (fun j => j = yb) w7).setCell (p := ⟨yb, i, none⟩) (fun _ => rfl) _
        have P1 := Lib.hid (hO8.own P1'.out fun k hk e => own_blk_ne P1'.out HY7.out (by decide) (by rw [hk, e]))
        have P3 := Lib.hid (hO8.own P3'.out fun k hk e => own_blk_ne P3'.out HY7.out (by decide) (by rw [hk, e]))
        have P2 : Hid (w8.ownsRow wr.heap.size 3 1 (.slice (some ⟨yb, 0, none⟩) n Y2) n ((ints (rdT l)).set i (.int .i64 (l[i].2.2 + 1)))) := Lib.hid (by rw [← hw8]; exact own_set P2'.out i _)
        have HB8 := Lib.hid (hO8.blk HB7.out hay)
        have HE8 := Lib.hid (hO8.blk HE7.out hey)
        have HZ8 := Lib.hid (hO8.blk HZ7.out (Ne.symm hyz))
        have HD8 := Lib.hid (hD7.out.trans (hO8.below (fun k _ e => by rw [e]; exact hyb) hD7.out.size))
        have fz := HZ8.out.frozen i
        have k2 := (HB8.out.cell 2).trans rfl
        obtain ⟨zb', zo', hza, _, hdz⟩ := (Reads.of_own P3.out).open_ (by have := HL.out; omega) (by have := HL.out; omega)
        cases hza
        have dz : w8.cell? ⟨zb, i, none⟩ = some (.int .i64 (stR l[i].2.1)) := by have := hdz i _ (rdS_get hil); simpa using this
        clear hdz hw8 hO8 dy fy d1' o2'
        by_cases e0 : er = 0
        · have x0 : (er == 0) = true := eq0_t e0
          have ST : stR (stNew 0 er) = er := by rw [e0]; rfl
          clear e0
          go_upto_region 10 with fail
          obtain ⟨w9, hw9⟩ : ∃ v : World, w8.setCell ⟨zb, i, none⟩ (.int .i64 er) = v := ⟨_, rfl⟩
          rw [hw9]
          have hO9 : Only (fun j => j = zb) w8 w9 := by rw [← hw9]; exact (Only.refl (fun j => j = zb) w8).setCell (p := ⟨zb, i, none⟩) (fun _ => rfl) _
          have p1 := Lib.hid (hO9.own P1.out fun k hk e => own_blk_ne P1.out HZ8.out (by decide) (by rw [hk, e]))
          have p2 := Lib.hid (hO9.own P2.out fun k hk e => own_blk_ne P2.out HZ8.out (by decide) (by rw [hk, e]))
          have p3 : Hid (w9.ownsRow wr.heap.size 26 1 (.slice (some ⟨zb, 0, none⟩) n Z2) n ((ints (rdS l)).set i (.int .i64 er))) := Lib.hid (by rw [← hw9]; exact own_set P3.out i _)
          have hb9 := hO9.blk HB8.out (Blk.ne_ HB8.out HZ8.out (by decide))
          have e9 := hO9.blk HE8.out (Blk.ne_ HE8.out HZ8.out (by decide))
          have hD9 := Lib.hid (HD8.out.trans (hO9.below (fun k _ e => by rw [e]; exact hzb) HD8.out.size))
          have g0 := e9.frozen 0; have g1 := e9.frozen 1; have g2 := e9.frozen 2
          have d0 := (hb9.cell 0).trans rfl; have d1 := (hb9.cell 1).trans rfl; have d2 := (hb9.cell 2).trans rfl
          have r0 := (e9.cell 0).trans rfl; have r1 := (e9.cell 1).trans rfl; have r2 := (e9.cell 2).trans rfl
          clear hw9 hb9 e9
          go_wp2_with fail
          refine bodyPost_ret (v := .tuple #[.agg #[.slice X1 n X2, .slice (some ⟨yb, 0, none⟩) n Y2, .slice (some ⟨zb, 0, none⟩) n Z2], .int .i64 0]) (by simp [results, Try.results39, go_sem, r0, r1, r2]) rfl ?_
          refine ret_new HBW3.out hD9.out (by omega) HE2.out.lt HG.out (l := l.set i (l[i].1, stNew 0 er, l[i].2.2 + 1)) ?_ ?_ ?_ (by rw [← HM.out, HL2.out]) (by rw [← HX.out, HE.out]) _ _ _
          · rw [(rd_set hil _ _).1]; exact p1.out
          · rw [(rd_set hil _ _).2.1]; exact p2.out
          · rw [(rd_set hil _ _).2.2, ST]; exact p3.out
        · by_cases e21 : er = 21
          · have x0 : (er == 0) = false := eq0_f e0
            have x1 : (er == 21) = true := beq_iff_eq.2 e21
            have ST : stR (stNew 0 er) = er := by rw [e21]; rfl
            clear e0 e21
            go_upto_region 10 with fail
            obtain ⟨w9, hw9⟩ : ∃ v : World, w8.setCell ⟨zb, i, none⟩ (.int .i64 er) = v := ⟨_, rfl⟩
            rw [hw9]
            have hO9 : Only (fun j => j = zb) w8 w9 := by rw [← hw9]; exact (Only.refl (fun j => j = zb) w8).setCell (p := ⟨zb, i, none⟩) (fun _ => rfl) _
            have p1 := Lib.hid (hO9.own P1.out fun k hk e => own_blk_ne P1.out HZ8.out (by decide) (by rw [hk, e]))
            have p2 := Lib.hid (hO9.own P2.out fun k hk e => own_blk_ne P2.out HZ8.out (by decide) (by rw [hk, e]))
            have p3 : Hid (w9.ownsRow wr.heap.size 26 1 (.slice (some ⟨zb, 0, none⟩) n Z2) n ((ints (rdS l)).set i (.int .i64 er))) := Lib.hid (by rw [← hw9]; exact own_set P3.out i _)
            have hb9 := hO9.blk HB8.out (Blk.ne_ HB8.out HZ8.out (by decide))
            have e9 := hO9.blk HE8.out (Blk.ne_ HE8.out HZ8.out (by decide))
            have hD9 := Lib.hid (HD8.out.trans (hO9.below (fun k _ e => by rw [e]; exact hzb) HD8.out.size))
            have g0 := e9.frozen 0; have g1 := e9.frozen 1; have g2 := e9.frozen 2
            have d0 := (hb9.cell 0).trans rfl; have d1 := (hb9.cell 1).trans rfl; have d2 := (hb9.cell 2).trans rfl
            have r0 := (e9.cell 0).trans rfl; have r1 := (e9.cell 1).trans rfl; have r2 := (e9.cell 2).trans rfl
            clear hw9 hb9 e9
            go_wp2_with fail
            refine bodyPost_ret (v := .tuple #[.agg #[.slice X1 n X2, .slice (some ⟨yb, 0, none⟩) n Y2, .slice (some ⟨zb, 0, none⟩) n Z2], .int .i64 0]) (by simp [results, Try.results39, go_sem, r0, r1, r2]) rfl ?_
            refine ret_new HBW3.out hD9.out (by omega) HE2.out.lt HG.out (l := l.set i (l[i].1, stNew 0 er, l[i].2.2 + 1)) ?_ ?_ ?_ (by rw [← HM.out, HL2.out]) (by rw [← HX.out, HE.out]) _ _ _
            · rw [(rd_set hil _ _).1]; exact p1.out
            · rw [(rd_set hil _ _).2.1]; exact p2.out
            · rw [(rd_set hil _ _).2.2, ST]; exact p3.out
          · have x0 : (er == 0) = false := eq0_f e0
            have x1 : (er == 21) = false := beq_eq_false_iff_ne.2 e21
            have ST := stNew_lost e0 e21
            clear e0 e21
            have g0 := HE8.out.frozen 0; have g1 := HE8.out.frozen 1; have g2 := HE8.out.frozen 2
            have d0 := (HB8.out.cell 0).trans rfl; have d1 := (HB8.out.cell 1).trans rfl; have d2 := (HB8.out.cell 2).trans rfl
            have r0 := (HE8.out.cell 0).trans rfl; have r1 := (HE8.out.cell 1).trans rfl; have r2 := (HE8.out.cell 2).trans rfl
            go_wp2_with fail
            refine bodyPost_ret (v := .tuple #[.agg #[.slice X1 n X2, .slice (some ⟨yb, 0, none⟩) n Y2, .slice (some ⟨zb, 0, none⟩) n Z2], .int .i64 0]) (by simp [results, Try.results39, go_sem, r0, r1, r2]) rfl ?_
            refine ret_new HBW3.out HD8.out (by omega) HE2.out.lt HG.out (l := l.set i (l[i].1, stNew 0 er, l[i].2.2 + 1)) ?_ ?_ ?_ (by rw [← HM.out, HL2.out]) (by rw [← HX.out, HE.out]) _ _ _
            · rw [(rd_set hil _ _).1]; exact P1.out
            · rw [(rd_set hil _ _).2.1]; exact P2.out
            · rw [(rd_set hil _ _).2.2, ST, rdS_same hil HS.out]; exact P3.out
    · have HE := Lib.hid (ansE_state hi hs)
      have HL2 := Lib.hid (ansL_state (e := er) hi hs)
      have hs' : (stR l[i].2.1 != 33) = true := by rw [bne_iff_ne]; exact fun e => hs ((stR_lost _).1 e)
      clear hs
      clear h B0 B2 hbx hG hx hm hu hi
      go_enter Try.func39, Try.ntmps39
      go_upto_region 1 with fail
      rw [HU.out]
      go_wp2_with fail
      refine (rat_any A T S_ n c n c2 n c3 (rdP l) r _ _ ((HW.out.1.reads.below HBX.out).more HBX.out.size) hn HI.out).mono ?_
      rintro ee w3 ⟨rfl, hb3⟩
      have E0 := HB0.out.below hb3 HB0.out.lt
      have E2 := HB2.out.below hb3 HB2.out.lt
      have HBW3 := Lib.hid (HBX.out.trans (hb3.mono HBX.out.size))
      have a0'' := (E0.cell 0).trans rfl; have a1'' := (E0.cell 1).trans rfl; have a2'' := (E0.cell 2).trans rfl
      have g0 := E2.frozen 0; have g1 := E2.frozen 1; have g2 := E2.frozen 2
      have d0 := (E2.cell 0).trans rfl; have d1 := (E2.cell 1).trans rfl; have d2 := (E2.cell 2).trans rfl
      have HE0 := Lib.hid E0; have HE2 := Lib.hid E2
      clear hb3 E0 E2 a0 a1 a2 f0 f1 f2 c0 c1 c2'
      obtain ⟨sb, so, rfl, _, hd⟩ := ((HW.out.2.2.reads.below HBW3.out)).open_ (by have := HL.out; omega) (by have := HL.out; omega)
      have q0 : w3.cell? ⟨sb, so + i, none⟩ = some (.int .i64 (stR l[i].2.1)) := hd i _ (rdS_get hil)
      have hi0 : (0 : Int) ≤ i := by omega
      have hin0 : (i : Int) < n := by have := HL.out; omega
      clear hd
      go_wp2_with fail
      refine bodyPost_ret (v := .tuple #[.agg #[.slice A n c, .slice T n c2, .slice (some ⟨sb, so, none⟩) n c3], .int .i64 12]) (by simp [results, Try.results39, go_sem, d0, d1, d2]) rfl ?_
      exact ret_old HBW3.out (by omega) HW.out (by rw [← HM.out, HL2.out]) (by rw [← HX.out, HE.out]) _ _ _
end Go.Proofs.Ytakjdffebpcmnaa
