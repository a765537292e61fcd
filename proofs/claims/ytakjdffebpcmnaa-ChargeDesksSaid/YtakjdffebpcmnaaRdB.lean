/- The walk of the reference's Ask. -/
import Derived.Test.YtakjdffebpcmnaaRdN
namespace Go.Proofs.Ytakjdffebpcmnaa
open Go Go.RowKit Go.Maps
theorem Try.info26 : (Try.prog.info? 26).map (fun i => (i.zero, i.size, i.bytes)) = some (some (.int .i64 0), 1, 8) := by kernel_rfl
theorem exec_build44 (ρ : Operand → Value) (o : Oper) (w : World) (x y z : Operand) (A B C : Option Addr) (n c n2 c2 n3 c3 : Nat) (ho : o.op = .build 44 #[(0, x), (1, y), (2, z)]) (hx : ρ x = .slice A n c) (hy : ρ y = .slice B n2 c2) (hz : ρ z = .slice C n3 c3) :
    (execOp ρ o).run Try.prog w = .ok (.value (.agg #[.slice A n c, .slice B n2 c2, .slice C n3 c3])) w := by
  simp [execOp, ho, Instr.build, go_sem, hx, hy, hz]
theorem exec_alloc44 (ρ : Operand → Value) (o : Oper) (w : World) (ho : o.op = .alloc 44) :
    (execOp ρ o).run Try.prog w = .ok (.value (.pointer (some ⟨w.heap.size, 0, none⟩))) (w.alloc (.cells #[.slice none 0 0, .slice none 0 0, .slice none 0 0] 44)) := by
  simp [execOp, ho, go_sem]
theorem goal_append {P : Program} {ρ : Operand → Value} {o : Oper} {w : World} {R : Value → World → Prop} (s x : Operand) (t : TypeId)
    (base : Nat) (e : TypeId) (i : TypeInfo) (z : Value) (size bytes : Nat) (ht : P.underlying t = some (.slice e)) (hi : P.info? e = some i) (hz : i.zero = some z)
    (hsize : i.size = size) (hby : i.bytes = bytes) (hzs : z.cells.size = size) (hsz : 0 < size)
    (v : Value) (n : Nat) (xs : List Value) (hs : ρ s = v) (hown : w.ownsRow base e size v n xs)
    (B : Nat) (A : Option Addr) (m c : Nat) (news : List Value) (hx : ρ x = .slice A m c) (hr : Reads w B size A m news) (h1 : ∀ u ∈ news, u.oneCell' = true)
    (h63 : n + m ≤ maxLen) (hbytes : (n + m) * bytes ≤ 140737488355328) (hbase : base ≤ w.heap.size)
    (hR : ∀ x' u', u'.ownsRow base e size x' (n + m) (xs ++ news) → w.grownBy u' v.ownBlock → R x' u') (ho : o.op = .call { callee := .builtin .append, args := #[s, x], argTypes := #[t, t] }) :
    ∃ x' u', (execOp ρ o).run P w = .ok (.value x') u' ∧ R x' u' := by
  obtain ⟨x', u', h1, h2, h3, _⟩ := exec_append s x t ho base e i z size bytes ht hi hz hsize hby hzs hsz v n xs hs hown B A m c news hx hr h1 h63 hbytes hbase
  exact ⟨x', u', h1, hR x' u' h2 h3⟩
/-- A desk of the reference and a number come back. -/
def RetRd (w : World) (G : Nat → Prop) (l : List En) (x : Int) (e : Ending) (w' : World) : Prop :=
  Below w.heap.size w w' ∧ ∃ A n c T c2 S c3, e = .returned (.tuple #[.agg #[.slice A n c, .slice T n c2, .slice S n c3], .int .i64 x]) ∧ RdW w' G A n T S l
def set3 (w : World) (k : Nat) (x y z : Value) : World := ((w.setCell ⟨k, 0, none⟩ x).setCell ⟨k, 1, none⟩ y).setCell ⟨k, 2, none⟩ z
theorem set3_only (w : World) (k : Nat) (x y z : Value) : Only (fun j => j = k) w (set3 w k x y z) :=
  (((Only.refl (fun j => j = k) w).setCell (p := ⟨k, 0, none⟩) (fun _ => rfl) x).setCell (p := ⟨k, 1, none⟩) (fun _ => rfl) y).setCell (p := ⟨k, 2, none⟩) (fun _ => rfl) z
theorem set3_below {w v : World} {B k : Nat} (h : Below B w v) (hk : B ≤ k) (x y z : Value) : Below B w (set3 v k x y z) :=
  ((h.setCell (p := ⟨k, 0, none⟩) hk x).setCell (p := ⟨k, 1, none⟩) hk y).setCell (p := ⟨k, 2, none⟩) hk z
section
variable {w v u : World} {G : Nat → Prop} {A T S : Option Addr} {n c c2 c3 k : Nat} {l m : List En} {E E' : Int}
theorem ret_old (hB : Below w.heap.size w v) (hk : w.heap.size ≤ k) (h : RdW w G A n T S l) (hl : m = l) (hE : E' = E) (x y z : Value) :
    RetRd w G m E (.returned (.tuple #[.agg #[.slice A n c, .slice T n c2, .slice S n c3], .int .i64 E'])) (set3 v k x y z) := by
  subst hl hE
  have hb := set3_below hB hk x y z
  exact ⟨hb, A, n, c, T, c2, S, c3, rfl, h.below hb⟩
theorem ret_new (hB : Below w.heap.size w v) (hD : Below v.heap.size v u) (hk : w.heap.size ≤ k) (hk2 : k < v.heap.size) (hG : ∀ j, w.heap.size ≤ j → G j)
    (h1 : u.ownsRow v.heap.size 23 3 (.slice A n c) n (cellsP (rdP l))) (h2 : u.ownsRow v.heap.size 3 1 (.slice T n c2) n (ints (rdT l))) (h3 : u.ownsRow v.heap.size 26 1 (.slice S n c3) n (ints (rdS l))) (hl : m = l) (hE : E' = E) (x y z : Value) :
    RetRd w G m E (.returned (.tuple #[.agg #[.slice A n c, .slice T n c2, .slice S n c3], .int .i64 E'])) (set3 u k x y z) := by
  subst hl hE
  have hb := set3_below (hB.trans (hD.mono hB.size)) hk x y z
  have hs := hB.size
  refine ⟨hb, A, n, c, T, c2, S, c3, rfl, ?_⟩
  have ho := set3_only u k x y z
  have : RdW u (fun j => v.heap.size ≤ j) A n T S m := ⟨RIn.of_own h1, RIn.of_own h2, RIn.of_own h3⟩
  exact (this.keep ho fun j _ hj e => by omega).mono fun j _ hj => hG j (by omega)
end
theorem RdW.snoc_cells (l : List En) (p : P3) : cellsP (rdP (l ++ [(p, 0, 0)])) = cellsP (rdP l) ++ encP p ∧ ints (rdT (l ++ [(p, 0, 0)])) = ints (rdT l) ++ ints [0] ∧ ints (rdS (l ++ [(p, 0, 0)])) = ints (rdS l) ++ ints [33] := by
  refine ⟨?_, ?_, ?_⟩
  · simp [rdP, cellsP]
  · simp [rdT, ints]
  · simp [rdS, ints, stR]
/-- The desk that is made of three rows. -/
def Bd (a b c d : Nat) (S : Nat → Bool) (v : Nat → Value) : Prop := S d = true → S a = true ∧ S b = true ∧ S c = true ∧ v d = .agg #[v a, v b, v c]
section
variable {a b c d i : Nat} {S : Nat → Bool} {v : Nat → Value} {x : Value}
theorem Bd.start : Bd a b c d (fun _ => false) v := fun h => absurd h Bool.false_ne_true
theorem Bd.step (h : Bd a b c d S v) (hi : S i = false) (hd : d ≠ i) (x : Value) : Bd a b c d (upd S i true) (upd v i x) := by
  intro hd'
  rw [upd_ne S true hd] at hd'
  obtain ⟨h1, h2, h3, h4⟩ := h hd'
  have ne : ∀ {k : Nat}, S k = true → k ≠ i := fun hk e => by rw [e, hi] at hk; cases hk
  exact ⟨by rw [upd_ne S true (ne h1)]; exact h1, by rw [upd_ne S true (ne h2)]; exact h2, by rw [upd_ne S true (ne h3)]; exact h3, by rw [upd_ne v x hd, upd_ne v x (ne h1), upd_ne v x (ne h2), upd_ne v x (ne h3)]; exact h4⟩
theorem Bd.made (h1 : a ≠ d) (h2 : b ≠ d) (h3 : c ≠ d) (ha : S a = true) (hb : S b = true) (hc : S c = true) (hx : x = .agg #[v a, v b, v c]) : Bd a b c d (upd S d true) (upd v d x) := fun _ =>
  ⟨by rw [upd_ne S true h1]; exact ha, by rw [upd_ne S true h2]; exact hb, by rw [upd_ne S true h3]; exact hc, by rw [upd_at, upd_ne v x h1, upd_ne v x h2, upd_ne v x h3]; exact hx⟩
end
set_option maxHeartbeats 1000000 in
set_option maxRecDepth 10000 in
theorem rask_any (G : Nat → Prop) (A T S_ : Option Addr) (n c c2 c3 : Nat) (l m : List En) (pa pb pc x : Int) (w : World) (hG : ∀ k, w.heap.size ≤ k → G k) (h : RdW w G A n T S_ l) (hn : n ≤ 100000) (hx : askE l (pa, pb, pc) = x) (hm : askL l (pa, pb, pc) = m) :
    Calls Try.prog 38 #[.agg #[.slice A n c, .slice T n c2, .slice S_ n c3], .agg #[.int .i64 pa, .int .i64 pb, .int .i64 pc]] w (RetRd w G m x) := by
  have B0 := ((Blk.new w 44 #[.slice A n c, .slice T n c2, .slice S_ n c3]).alloc (.cells #[.int .i64 pa, .int .i64 pb, .int .i64 pc] 23)).alloc (.cells #[.slice none 0 0, .slice none 0 0, .slice none 0 0] 44)
  have B1 := (Blk.new (w.alloc (.cells #[.slice A n c, .slice T n c2, .slice S_ n c3] 44)) 23 #[.int .i64 pa, .int .i64 pb, .int .i64 pc]).alloc (.cells #[.slice none 0 0, .slice none 0 0, .slice none 0 0] 44)
  have B2 := Blk.new ((w.alloc (.cells #[.slice A n c, .slice T n c2, .slice S_ n c3] 44)).alloc (.cells #[.int .i64 pa, .int .i64 pb, .int .i64 pc] 23)) 44 #[.slice none 0 0, .slice none 0 0, .slice none 0 0]
  have hbx := below_alloc (below_alloc (below_alloc (Below.refl w.heap.size w) (Nat.le_refl _) (.cells #[.slice A n c, .slice T n c2, .slice S_ n c3] 44)) (Nat.le_refl _) (.cells #[.int .i64 pa, .int .i64 pb, .int .i64 pc] 23)) (Nat.le_refl _) (.cells #[.slice none 0 0, .slice none 0 0, .slice none 0 0] 44)
  rw [show (w.alloc (.cells #[.slice A n c, .slice T n c2, .slice S_ n c3] 44)).heap.size = w.heap.size + 1 by simp] at B1
  rw [show ((w.alloc (.cells #[.slice A n c, .slice T n c2, .slice S_ n c3] 44)).alloc (.cells #[.int .i64 pa, .int .i64 pb, .int .i64 pc] 23)).heap.size = w.heap.size + 1 + 1 by simp] at B2
  obtain ⟨u, hu⟩ : ∃ u, ((w.alloc (.cells #[.slice A n c, .slice T n c2, .slice S_ n c3] 44)).alloc (.cells #[.int .i64 pa, .int .i64 pb, .int .i64 pc] 23)).alloc (.cells #[.slice none 0 0, .slice none 0 0, .slice none 0 0] 44) = u := ⟨_, rfl⟩
  rw [hu] at B0 B1 B2 hbx
  have HU := Lib.hid hu
  have HW := Lib.hid h
  have HB0 := Lib.hid B0
  have HB1 := Lib.hid B1
  have HB2 := Lib.hid B2
  have HBX := Lib.hid hbx
  have HG := Lib.hid hG
  have HL := Lib.hid h.len
  have HX := Lib.hid hx
  have HM := Lib.hid hm
  have a0 := (B0.cell 0).trans rfl; have a1 := (B0.cell 1).trans rfl; have a2 := (B0.cell 2).trans rfl
  have b0 := (B1.cell 0).trans rfl; have b1 := (B1.cell 1).trans rfl; have b2 := (B1.cell 2).trans rfl
  have f0 := B2.frozen 0; have f1 := B2.frozen 1; have f2 := B2.frozen 2
  have c0 := (B2.cell 0).trans rfl; have c1 := (B2.cell 1).trans rfl; have c2' := (B2.cell 2).trans rfl
  rcases hr : rightB (pa, pb, pc) with _ | _
  · have HE := Lib.hid (askE_range (l := l) hr)
    have HL2 := Lib.hid (askL_range (l := l) hr)
    have HR := Lib.hid hr
    clear h B0 B1 B2 hbx hG hx hm hr hu
    go_enter Try.func38, Try.ntmps38
    go_upto_region 1 with fail
    rw [HU.out]
    go_wp2_with fail
    refine (right13_at pa pb pc false _ HR.out).mono ?_
    rintro e w2 ⟨rfl, hb2⟩
    have E0 := HB0.out.below hb2 HB0.out.lt
    have E2 := HB2.out.below hb2 HB2.out.lt
    have HBW := Lib.hid (HBX.out.trans (hb2.mono HBX.out.size))
    have a0' := (E0.cell 0).trans rfl; have a1' := (E0.cell 1).trans rfl; have a2' := (E0.cell 2).trans rfl
    have g0 := E2.frozen 0; have g1 := E2.frozen 1; have g2 := E2.frozen 2
    have d0 := (E2.cell 0).trans rfl; have d1 := (E2.cell 1).trans rfl; have d2 := (E2.cell 2).trans rfl
    clear E0 E2 hb2
    go_wp2_with fail
    refine bodyPost_ret (v := .tuple #[.agg #[.slice A n c, .slice T n c2, .slice S_ n c3], .int .i64 1]) (by simp [results, Try.results38, go_sem, d0, d1, d2]) rfl ?_
    exact ret_old HBW.out (by omega) HW.out (by rw [← HM.out, HL2.out]) (by rw [← HX.out, HE.out]) _ _ _
  · have HR := Lib.hid hr
    rcases hi : idx l pa with _ | i
    · have HI := Lib.hid (idxR_none hi)
      by_cases h256 : 256 ≤ n
      · have HE : Hid (askE l (pa, pb, pc) = 8) := Lib.hid (askE_full hr hi (by rw [← HL.out]; exact h256))
        have HL2 := Lib.hid (askL_full (l := l) (p := (pa, pb, pc)) (by rw [← HL.out]; exact h256))
        clear h B0 B1 B2 hbx hG hx hm hr hu hi
        go_enter Try.func38, Try.ntmps38
        go_upto_region 1 with fail
        rw [HU.out]
        go_wp2_with fail
        refine (right13_at pa pb pc true _ HR.out).mono ?_
        rintro e w2 ⟨rfl, hb2⟩
        have E0 := HB0.out.below hb2 HB0.out.lt
        have E1 := HB1.out.below hb2 HB1.out.lt
        have HBW := Lib.hid (HBX.out.trans (hb2.mono HBX.out.size))
        have a0' := (E0.cell 0).trans rfl; have a1' := (E0.cell 1).trans rfl; have a2' := (E0.cell 2).trans rfl
        have b0' := (E1.cell 0).trans rfl
        clear E0 E1
        go_wp2_with fail
        refine (rat_any A T S_ n c n c2 n c3 (rdP l) pa _ w2 ((HW.out.1.reads.below HBW.out).more HBW.out.size) hn HI.out).mono ?_
        rintro e w3 ⟨rfl, hb3⟩
        have hb23 := hb2.trans (hb3.mono hb2.size)
        have E0 := HB0.out.below hb23 HB0.out.lt
        have E1 := HB1.out.below hb23 HB1.out.lt
        have E2 := HB2.out.below hb23 HB2.out.lt
        have HBW3 := Lib.hid (HBX.out.trans (hb23.mono HBX.out.size))
        have a0'' := (E0.cell 0).trans rfl; have a1'' := (E0.cell 1).trans rfl; have a2'' := (E0.cell 2).trans rfl
        have b0'' := (E1.cell 0).trans rfl; have b1'' := (E1.cell 1).trans rfl; have b2'' := (E1.cell 2).trans rfl
        have g0 := E2.frozen 0; have g1 := E2.frozen 1; have g2 := E2.frozen 2
        have d0 := (E2.cell 0).trans rfl; have d1 := (E2.cell 1).trans rfl; have d2 := (E2.cell 2).trans rfl
        have HE0 := Lib.hid E0; have HE1 := Lib.hid E1; have HE2 := Lib.hid E2
        clear hb2 hb3 E0 E1 E2 a0' a1' a2' b0' a0 a1 a2 b0 b1 b2 f0 f1 f2 c0 c1 c2' hb23
        have hq : (256 : Int) ≤ n := by omega
        go_wp2_with fail
        refine bodyPost_ret (v := .tuple #[.agg #[.slice A n c, .slice T n c2, .slice S_ n c3], .int .i64 8]) (by simp [results, Try.results38, go_sem, d0, d1, d2]) rfl ?_
        exact ret_old HBW3.out (by omega) HW.out (by rw [← HM.out, HL2.out]) (by rw [← HX.out, HE.out]) _ _ _
      · have HE : Hid (askE l (pa, pb, pc) = 0) := Lib.hid (askE_new hr hi (by rw [← HL.out]; omega))
        have HL2 := Lib.hid (askL_new (l := l) (p := (pa, pb, pc)) hr hi (by rw [← HL.out]; omega))
        clear h B0 B1 B2 hbx hG hx hm hr hu hi
        go_enter Try.func38, Try.ntmps38
        go_upto_region 1 with fail
        rw [HU.out]
        go_wp2_with fail
        refine (right13_at pa pb pc true _ HR.out).mono ?_
        rintro e w2 ⟨rfl, hb2⟩
        have E0 := HB0.out.below hb2 HB0.out.lt
        have E1 := HB1.out.below hb2 HB1.out.lt
        have HBW := Lib.hid (HBX.out.trans (hb2.mono HBX.out.size))
        have a0' := (E0.cell 0).trans rfl; have a1' := (E0.cell 1).trans rfl; have a2' := (E0.cell 2).trans rfl
        have b0' := (E1.cell 0).trans rfl
        clear E0 E1
        go_wp2_with fail
        refine (rat_any A T S_ n c n c2 n c3 (rdP l) pa _ w2 ((HW.out.1.reads.below HBW.out).more HBW.out.size) hn HI.out).mono ?_
        rintro e w3 ⟨rfl, hb3⟩
        have hb23 := hb2.trans (hb3.mono hb2.size)
        have E0 := HB0.out.below hb23 HB0.out.lt
        have E1 := HB1.out.below hb23 HB1.out.lt
        have E2 := HB2.out.below hb23 HB2.out.lt
        have HBW3 := Lib.hid (HBX.out.trans (hb23.mono HBX.out.size))
        have a0'' := (E0.cell 0).trans rfl; have a1'' := (E0.cell 1).trans rfl; have a2'' := (E0.cell 2).trans rfl
        have b0'' := (E1.cell 0).trans rfl; have b1'' := (E1.cell 1).trans rfl; have b2'' := (E1.cell 2).trans rfl
        have g0 := E2.frozen 0; have g1 := E2.frozen 1; have g2 := E2.frozen 2
        have d0 := (E2.cell 0).trans rfl; have d1 := (E2.cell 1).trans rfl; have d2 := (E2.cell 2).trans rfl
        have HE0 := Lib.hid E0; have HE1 := Lib.hid E1; have HE2 := Lib.hid E2
        clear hb2 hb3 E0 E1 E2 a0' a1' a2' b0' a0 a1 a2 b0 b1 b2 f0 f1 f2 c0 c1 c2' hb23
        have hq : (n : Int) < 256 := by omega
        clear d0 d1 d2
        go_upto_region 10 with fail
        obtain ⟨wr, rfl⟩ : ∃ wr : World, wr = w3 := ⟨_, rfl⟩
        have k0 := fun z : DFam (DB wr) => DB.some_ z a0''
        have k1 := fun z : DFam (DB wr) => DB.some_ z a1''
        have k2 := fun z : DFam (DB wr) => DB.some_ z a2''
        have k3 := fun z : DFam (DB wr) => DB.some_ z b0''
        have k4 := fun z : DFam (DB wr) => DB.some_ z b1''
        have k5 := fun z : DFam (DB wr) => DB.some_ z b2''
        clear a0'' a1'' a2'' b0'' b1'' b2''
        refine wp_region_free [1, 2, 4, 8, 9, 14, 15] [0, 3, 5, 6, 7, 10, 11, 12, 13, 16, 17, 18, 19] [20, 21] (DB wr) (by kernel_rfl) (by kernel_rfl) (DB.drew wr) ?_
        simp only [List.map_cons, List.map_nil, List.getD_cons_succ, List.getD_cons_zero]
        repeat (go_big_quiet_step (fail))
        refine wpQuiet_nil ?_
        refine ⟨fun S v u => DB wr u ∧ Ch wr.heap.size 23 3 n (cellsP (rdP l)) (encP (pa, pb, pc)) 0 3 5 6 S v u ∧ Ch wr.heap.size 3 1 n (ints (rdT l)) (ints [0]) 7 10 11 12 S v u ∧ Ch wr.heap.size 26 1 n (ints (rdS l)) (ints [33]) 13 16 17 18 S v u ∧ Bd 6 12 18 19 S v, ⟨DB.drew wr, Ch.start, Ch.start, Ch.start, Bd.start⟩, ?_, ?_⟩
        · have R1 := (HW.out.1.reads.below HBW3.out).more HBW3.out.size
          have R2 := (HW.out.2.1.reads.below HBW3.out).more HBW3.out.size
          have R3 := (HW.out.2.2.reads.below HBW3.out).more HBW3.out.size
          obtain ⟨i23, h23, z23, s23, b23⟩ := info_parts Try.info23
          obtain ⟨i3, h3, z3_, s3, b3⟩ := info_parts Try.info3
          obtain ⟨i26, h26, z26, s26, b26⟩ := info_parts Try.info26
          intro S v u hcl hJ i hi hSi hw ρ hin hout
          obtain ⟨hD, hX, hY, hZ, hBd⟩ := hJ
          replace hin : ∀ j ∈ [0, 3, 5, 6, 7, 10, 11, 12, 13, 16, 17, 18, 19], S j = true → ∀ t, (List.getD (α := Oper) _ j default).dst = some t → t < 51 → ρ (.tmp t) = v j := hin
          have hsz : wr.heap.size ≤ u.heap.size := hD.size
          have hr1 : ρ (.tmp 33) = .slice A n c := (hout (.tmp 33) (by kernel_rfl)).trans rfl
          have hr2 : ρ (.tmp 40) = .slice T n c2 := (hout (.tmp 40) (by kernel_rfl)).trans rfl
          have hr3 : ρ (.tmp 46) = .slice S_ n c3 := (hout (.tmp 46) (by kernel_rfl)).trans rfl
          have hno : ∀ j ∈ [0, 3, 5, 6, 7, 10, 11, 12, 13, 16, 17, 18, 19], ∀ k ∈ [0, 3, 5, 6, 7, 10, 11, 12, 13, 16, 17, 18, 19], Region.waitsFor .any _ j k = true → S k = false → S j = false := fun j hj k hk hwk hSk => by
            rcases hSj : S j with _ | _
            · rfl
            · rw [hcl j hj k hk hwk hSj] at hSk; cases hSk
          simp only [List.mem_cons, List.not_mem_nil, or_false] at hi
          rcases hi with rfl | rfl | rfl | rfl | rfl | rfl | rfl | rfl | rfl | rfl | rfl | rfl | rfl
          · exact ⟨_, _, exec_bs0 30 23 i23 rfl Try.underlying30 h23, below_alloc hD (Nat.le_refl _) _, below_alloc hD (Nat.le_refl _) _, hX.step0 hsz (by decide) (by decide) (by decide), hY.other (Keeps.alloc 3 u _) _ (by decide) (by decide) (by decide) (by decide), hZ.other (Keeps.alloc 26 u _) _ (by decide) (by decide) (by decide) (by decide), hBd.step hSi (by decide) _⟩
          · have hS0 : S 0 = true := hw 0 (by decide) (by kernel_rfl)
            have hS3 : S 6 = false := hno 6 (by decide) 3 (by decide) (by kernel_rfl) hSi
            have hown0 := hX.h0 hS0 hSi
            refine goal_append (P := Try.prog) (ρ := ρ) (w := u) (.tmp 31) (.tmp 33) 30 wr.heap.size 23 i23 _ 3 24 Try.underlying30 h23 z23 s23 b23 rfl (by omega) (v 0) 0 [] (hin 0 (by decide) hS0 31 rfl (by decide)) hown0 wr.heap.size A n c (cellsP (rdP l)) hr1 (R1.below hD) (one_cells _) (by simp only [maxLen]; omega) (by omega) hsz ?_ (by rfl)
            intro x u' hown hg
            simp only [Nat.zero_add, List.nil_append] at hown
            have hB := own_grown_below hD hown0 hg (Nat.le_refl _)
            exact ⟨hB, hB, hX.step1 hS0 hSi hS3 hown hg (by decide) (by decide), hY.other (Keeps.grown hown0 hg (by decide)) x (by decide) (by decide) (by decide) (by decide), hZ.other (Keeps.grown hown0 hg (by decide)) x (by decide) (by decide) (by decide) (by decide), hBd.step hSi (by decide) _⟩
          · exact ⟨_, _, exec_bs1 30 23 i23 (.agg #[.int .i64 0, .int .i64 0, .int .i64 0]) (.agg #[.int .i64 pa, .int .i64 pb, .int .i64 pc]) (.tmp 35) 3 #[.int .i64 pa, .int .i64 pb, .int .i64 pc] rfl ((hout (.tmp 35) (by kernel_rfl)).trans rfl) Try.underlying30 h23 z23 s23 (by decide) (by decide) (by kernel_rfl), below_alloc hD (Nat.le_refl _) _, below_alloc hD (Nat.le_refl _) _, hX.step2 rfl (by decide) (by decide) (by decide), hY.other (Keeps.alloc 3 u _) _ (by decide) (by decide) (by decide) (by decide), hZ.other (Keeps.alloc 26 u _) _ (by decide) (by decide) (by decide) (by decide), hBd.step hSi (by decide) _⟩
          · have hS1 : S 3 = true := hw 3 (by decide) (by kernel_rfl)
            have hS2 : S 5 = true := hw 5 (by decide) (by kernel_rfl)
            have hown0 := hX.h1 hS1 hSi
            obtain ⟨b, hvb, hrb⟩ := hX.lit hS2 hSi rfl
            refine goal_append (P := Try.prog) (ρ := ρ) (w := u) (.tmp 34) (.tmp 36) 30 wr.heap.size 23 i23 _ 3 24 Try.underlying30 h23 z23 s23 b23 rfl (by omega) (v 3) n (cellsP (rdP l)) (hin 3 (by decide) hS1 34 rfl (by decide)) hown0 u.heap.size (some ⟨b, 0, none⟩) 1 1 (encP (pa, pb, pc)) ((hin 5 (by decide) hS2 36 rfl (by decide)).trans hvb) hrb (one_enc _) (by simp only [maxLen]; omega) (by omega) hsz ?_ (by rfl)
            intro x u' hown hg
            have hB := own_grown_below hD hown0 hg (Nat.le_refl _)
            exact ⟨hB, hB, Ch.step3 hS1 hown (by decide), hY.other (Keeps.grown hown0 hg (by decide)) x (by decide) (by decide) (by decide) (by decide), hZ.other (Keeps.grown hown0 hg (by decide)) x (by decide) (by decide) (by decide) (by decide), hBd.step hSi (by decide) _⟩
          · exact ⟨_, _, exec_bs0 34 3 i3 rfl Try.underlying34 h3, below_alloc hD (Nat.le_refl _) _, below_alloc hD (Nat.le_refl _) _, hX.other (Keeps.alloc 23 u _) _ (by decide) (by decide) (by decide) (by decide), hY.step0 hsz (by decide) (by decide) (by decide), hZ.other (Keeps.alloc 26 u _) _ (by decide) (by decide) (by decide) (by decide), hBd.step hSi (by decide) _⟩
          · have hS0 : S 7 = true := hw 7 (by decide) (by kernel_rfl)
            have hS3 : S 12 = false := hno 12 (by decide) 10 (by decide) (by kernel_rfl) hSi
            have hown0 := hY.h0 hS0 hSi
            refine goal_append (P := Try.prog) (ρ := ρ) (w := u) (.tmp 38) (.tmp 40) 34 wr.heap.size 3 i3 _ 1 8 Try.underlying34 h3 z3_ s3 b3 rfl (by omega) (v 7) 0 [] (hin 7 (by decide) hS0 38 rfl (by decide)) hown0 wr.heap.size T n c2 (ints (rdT l)) hr2 (R2.below hD) (one_ints _) (by simp only [maxLen]; omega) (by omega) hsz ?_ (by rfl)
            intro x u' hown hg
            simp only [Nat.zero_add, List.nil_append] at hown
            have hB := own_grown_below hD hown0 hg (Nat.le_refl _)
            exact ⟨hB, hB, hX.other (Keeps.grown hown0 hg (by decide)) x (by decide) (by decide) (by decide) (by decide), hY.step1 hS0 hSi hS3 hown hg (by decide) (by decide), hZ.other (Keeps.grown hown0 hg (by decide)) x (by decide) (by decide) (by decide) (by decide), hBd.step hSi (by decide) _⟩
          · exact ⟨_, _, exec_bs1 34 3 i3 (.int .i64 0) (.int .i64 0) (.const (.int .i64 0)) 1 #[.int .i64 0] rfl ((hout (.const (.int .i64 0)) rfl).trans rfl) Try.underlying34 h3 z3_ s3 (by decide) (by decide) (by kernel_rfl), below_alloc hD (Nat.le_refl _) _, below_alloc hD (Nat.le_refl _) _, hX.other (Keeps.alloc 23 u _) _ (by decide) (by decide) (by decide) (by decide), hY.step2 rfl (by decide) (by decide) (by decide), hZ.other (Keeps.alloc 26 u _) _ (by decide) (by decide) (by decide) (by decide), hBd.step hSi (by decide) _⟩
          · have hS1 : S 10 = true := hw 10 (by decide) (by kernel_rfl)
            have hS2 : S 11 = true := hw 11 (by decide) (by kernel_rfl)
            have hown0 := hY.h1 hS1 hSi
            obtain ⟨b, hvb, hrb⟩ := hY.lit hS2 hSi rfl
            refine goal_append (P := Try.prog) (ρ := ρ) (w := u) (.tmp 41) (.tmp 42) 34 wr.heap.size 3 i3 _ 1 8 Try.underlying34 h3 z3_ s3 b3 rfl (by omega) (v 10) n (ints (rdT l)) (hin 10 (by decide) hS1 41 rfl (by decide)) hown0 u.heap.size (some ⟨b, 0, none⟩) 1 1 (ints [0]) ((hin 11 (by decide) hS2 42 rfl (by decide)).trans hvb) hrb (one_ints _) (by simp only [maxLen]; omega) (by omega) hsz ?_ (by rfl)
            intro x u' hown hg
            have hB := own_grown_below hD hown0 hg (Nat.le_refl _)
            exact ⟨hB, hB, hX.other (Keeps.grown hown0 hg (by decide)) x (by decide) (by decide) (by decide) (by decide), Ch.step3 hS1 hown (by decide), hZ.other (Keeps.grown hown0 hg (by decide)) x (by decide) (by decide) (by decide) (by decide), hBd.step hSi (by decide) _⟩
          · exact ⟨_, _, exec_bs0 42 26 i26 rfl Try.underlying42 h26, below_alloc hD (Nat.le_refl _) _, below_alloc hD (Nat.le_refl _) _, hX.other (Keeps.alloc 23 u _) _ (by decide) (by decide) (by decide) (by decide), hY.other (Keeps.alloc 3 u _) _ (by decide) (by decide) (by decide) (by decide), hZ.step0 hsz (by decide) (by decide) (by decide), hBd.step hSi (by decide) _⟩
          · have hS0 : S 13 = true := hw 13 (by decide) (by kernel_rfl)
            have hS3 : S 18 = false := hno 18 (by decide) 16 (by decide) (by kernel_rfl) hSi
            have hown0 := hZ.h0 hS0 hSi
            refine goal_append (P := Try.prog) (ρ := ρ) (w := u) (.tmp 44) (.tmp 46) 42 wr.heap.size 26 i26 _ 1 8 Try.underlying42 h26 z26 s26 b26 rfl (by omega) (v 13) 0 [] (hin 13 (by decide) hS0 44 rfl (by decide)) hown0 wr.heap.size S_ n c3 (ints (rdS l)) hr3 (R3.below hD) (one_ints _) (by simp only [maxLen]; omega) (by omega) hsz ?_ (by rfl)
            intro x u' hown hg
            simp only [Nat.zero_add, List.nil_append] at hown
            have hB := own_grown_below hD hown0 hg (Nat.le_refl _)
            exact ⟨hB, hB, hX.other (Keeps.grown hown0 hg (by decide)) x (by decide) (by decide) (by decide) (by decide), hY.other (Keeps.grown hown0 hg (by decide)) x (by decide) (by decide) (by decide) (by decide), hZ.step1 hS0 hSi hS3 hown hg (by decide) (by decide), hBd.step hSi (by decide) _⟩
          · exact ⟨_, _, exec_bs1 42 26 i26 (.int .i64 0) (.int .i64 33) (.const (.int .i64 33)) 1 #[.int .i64 33] rfl ((hout (.const (.int .i64 33)) rfl).trans rfl) Try.underlying42 h26 z26 s26 (by decide) (by decide) (by kernel_rfl), below_alloc hD (Nat.le_refl _) _, below_alloc hD (Nat.le_refl _) _, hX.other (Keeps.alloc 23 u _) _ (by decide) (by decide) (by decide) (by decide), hY.other (Keeps.alloc 3 u _) _ (by decide) (by decide) (by decide) (by decide), hZ.step2 rfl (by decide) (by decide) (by decide), hBd.step hSi (by decide) _⟩
          · have hS1 : S 16 = true := hw 16 (by decide) (by kernel_rfl)
            have hS2 : S 17 = true := hw 17 (by decide) (by kernel_rfl)
            have hown0 := hZ.h1 hS1 hSi
            obtain ⟨b, hvb, hrb⟩ := hZ.lit hS2 hSi rfl
            refine goal_append (P := Try.prog) (ρ := ρ) (w := u) (.tmp 47) (.tmp 48) 42 wr.heap.size 26 i26 _ 1 8 Try.underlying42 h26 z26 s26 b26 rfl (by omega) (v 16) n (ints (rdS l)) (hin 16 (by decide) hS1 47 rfl (by decide)) hown0 u.heap.size (some ⟨b, 0, none⟩) 1 1 (ints [33]) ((hin 17 (by decide) hS2 48 rfl (by decide)).trans hvb) hrb (one_ints _) (by simp only [maxLen]; omega) (by omega) hsz ?_ (by rfl)
            intro x u' hown hg
            have hB := own_grown_below hD hown0 hg (Nat.le_refl _)
            exact ⟨hB, hB, hX.other (Keeps.grown hown0 hg (by decide)) x (by decide) (by decide) (by decide) (by decide), hY.other (Keeps.grown hown0 hg (by decide)) x (by decide) (by decide) (by decide) (by decide), Ch.step3 hS1 hown (by decide), hBd.step hSi (by decide) _⟩
          · have hS6 : S 6 = true := hw 6 (by decide) (by kernel_rfl)
            have hS12 : S 12 = true := hw 12 (by decide) (by kernel_rfl)
            have hS18 : S 18 = true := hw 18 (by decide) (by kernel_rfl)
            obtain ⟨A6, c6', hv6, _⟩ := own_reads (hX.h3 hS6)
            obtain ⟨A12, c12', hv12, _⟩ := own_reads (hY.h3 hS12)
            obtain ⟨A18, c18', hv18, _⟩ := own_reads (hZ.h3 hS18)
            refine ⟨_, u, exec_build44 ρ _ u (.tmp 37) (.tmp 43) (.tmp 49) A6 A12 A18 _ c6' _ c12' _ c18' rfl ((hin 6 (by decide) hS6 37 rfl (by decide)).trans hv6) ((hin 12 (by decide) hS12 43 rfl (by decide)).trans hv12) ((hin 18 (by decide) hS18 49 rfl (by decide)).trans hv18), hD, hD, hX.other (Keeps.refl _ _) _ (by decide) (by decide) (by decide) (by decide), hY.other (Keeps.refl _ _) _ (by decide) (by decide) (by decide) (by decide), hZ.other (Keeps.refl _ _) _ (by decide) (by decide) (by decide) (by decide), ?_⟩
            exact Bd.made (by decide) (by decide) (by decide) hS6 hS12 hS18 (by rw [hv6, hv12, hv18])
        · intro S v u hall hJ
          obtain ⟨hD, hX, hY, hZ, hBd⟩ := hJ
          have o1 := hX.h3 (hall 6 (by decide))
          have o2 := hY.h3 (hall 12 (by decide))
          have o3 := hZ.h3 (hall 18 (by decide))
          obtain ⟨_, _, _, hv⟩ := hBd (hall 19 (by decide))
          obtain ⟨X1, X2, hv1, _⟩ := own_reads o1
          obtain ⟨Y1, Y2, hv2, _⟩ := own_reads o2
          obtain ⟨Z1, Z2, hv3, _⟩ := own_reads o3
          rw [hv1, hv2, hv3] at hv
          rw [hv1] at o1
          rw [hv2] at o2
          rw [hv3] at o3
          have E2 := HE2.out.below hD HE2.out.lt
          have f0 := E2.frozen 0; have f1 := E2.frozen 1; have f2 := E2.frozen 2
          have d0 := (E2.cell 0).trans rfl; have d1 := (E2.cell 1).trans rfl; have d2 := (E2.cell 2).trans rfl
          simp only [List.foldl_cons, List.foldl_nil, List.getD_cons_succ, List.getD_cons_zero]
          rw [hv]
          clear hX hY hZ hBd hall E2 k0 k1 k2 k3 k4 k5
          rw [← (RdW.snoc_cells l (pa, pb, pc)).1] at o1
          rw [← (RdW.snoc_cells l (pa, pb, pc)).2.1] at o2
          rw [← (RdW.snoc_cells l (pa, pb, pc)).2.2] at o3
          have O1 := Lib.hid o1; have O2 := Lib.hid o2; have O3 := Lib.hid o3
          clear o1 o2 o3
          go_wp2_with fail
          refine bodyPost_ret (v := .tuple #[.agg #[.slice X1 (n + 1) X2, .slice Y1 (n + 1) Y2, .slice Z1 (n + 1) Z2], .int .i64 0]) (by simp [results, Try.results38, go_sem, d0, d1, d2]) rfl ?_
          exact ret_new HBW3.out hD (by omega) HE2.out.lt HG.out O1.out O2.out O3.out (by rw [← HM.out, HL2.out]) (by rw [← HX.out, HE.out]) _ _ _
    · have HI := Lib.hid (idxR_some hi)
      have hil := idx_lt hi
      obtain ⟨q, hqq⟩ : ∃ q, l[i].1 = q := ⟨_, rfl⟩
      have HL2 := Lib.hid (askL_had (l := l) (p := (pa, pb, pc)) hi)
      have HQ := Lib.hid hqq
      by_cases he : q = (pa, pb, pc)
      · have HE : Hid (askE l (pa, pb, pc) = 0) := Lib.hid (askE_same hr hi (by rw [hqq, he]))
        clear hqq
        clear h B0 B1 B2 hbx hG hx hm hr hu hi
        go_enter Try.func38, Try.ntmps38
        go_upto_region 1 with fail
        rw [HU.out]
        go_wp2_with fail
        refine (right13_at pa pb pc true _ HR.out).mono ?_
        rintro e w2 ⟨rfl, hb2⟩
        have E0 := HB0.out.below hb2 HB0.out.lt
        have E1 := HB1.out.below hb2 HB1.out.lt
        have HBW := Lib.hid (HBX.out.trans (hb2.mono HBX.out.size))
        have a0' := (E0.cell 0).trans rfl; have a1' := (E0.cell 1).trans rfl; have a2' := (E0.cell 2).trans rfl
        have b0' := (E1.cell 0).trans rfl
        clear E0 E1
        go_wp2_with fail
        refine (rat_any A T S_ n c n c2 n c3 (rdP l) pa _ w2 ((HW.out.1.reads.below HBW.out).more HBW.out.size) hn HI.out).mono ?_
        rintro e w3 ⟨rfl, hb3⟩
        have hb23 := hb2.trans (hb3.mono hb2.size)
        have E0 := HB0.out.below hb23 HB0.out.lt
        have E1 := HB1.out.below hb23 HB1.out.lt
        have E2 := HB2.out.below hb23 HB2.out.lt
        have HBW3 := Lib.hid (HBX.out.trans (hb23.mono HBX.out.size))
        have a0'' := (E0.cell 0).trans rfl; have a1'' := (E0.cell 1).trans rfl; have a2'' := (E0.cell 2).trans rfl
        have b0'' := (E1.cell 0).trans rfl; have b1'' := (E1.cell 1).trans rfl; have b2'' := (E1.cell 2).trans rfl
        have g0 := E2.frozen 0; have g1 := E2.frozen 1; have g2 := E2.frozen 2
        have d0 := (E2.cell 0).trans rfl; have d1 := (E2.cell 1).trans rfl; have d2 := (E2.cell 2).trans rfl
        have HE0 := Lib.hid E0; have HE1 := Lib.hid E1; have HE2 := Lib.hid E2
        clear hb2 hb3 E0 E1 E2 a0' a1' a2' b0' a0 a1 a2 b0 b1 b2 f0 f1 f2 c0 c1 c2' hb23
        obtain ⟨b, off, rfl, _, hd⟩ := ((HW.out.1.reads.below HBW3.out)).recs encP_len (by omega) (by have := HL.out; omega)
        have k0 : w3.cell? ⟨b, off + i * 3, none⟩ = some (.int .i64 q.1) := by have := hd i (by rw [rdP_len]; exact hil) 0 _ rfl; rw [← HQ.out]; rwa [rdP_at hil] at this
        have k1 : w3.cell? ⟨b, off + i * 3 + 1, none⟩ = some (.int .i64 q.2.1) := by have := hd i (by rw [rdP_len]; exact hil) 1 _ rfl; rw [← HQ.out]; rwa [rdP_at hil] at this
        have k2 : w3.cell? ⟨b, off + i * 3 + 2, none⟩ = some (.int .i64 q.2.2) := by have := hd i (by rw [rdP_len]; exact hil) 2 _ rfl; rw [← HQ.out]; rwa [rdP_at hil] at this
        have hq := fun w => eq23 q.1 q.2.1 q.2.2 pa pb pc w
        have e1 : decide ((q.1, q.2.1, q.2.2) = (pa, pb, pc)) = true := decide_eq_true he
        simp only [e1] at hq
        have hi0 : (0 : Int) ≤ i := by omega
        have hin : (i : Int) < n := by have := HL.out; omega
        clear hd he e1
        go_wp2_with fail
        go_quiet (fail)
        go_wp2_with fail
        refine bodyPost_ret (v := .tuple #[.agg #[.slice (some ⟨b, off, none⟩) n c, .slice T n c2, .slice S_ n c3], .int .i64 0]) (by simp [results, Try.results38, go_sem, d0, d1, d2]) rfl ?_
        exact ret_old (below_drewN HBW3.out _) (by omega) HW.out (by rw [← HM.out, HL2.out]) (by rw [← HX.out, HE.out]) _ _ _
      · have HE : Hid (askE l (pa, pb, pc) = 21) := Lib.hid (askE_other hr hi (by rw [hqq]; exact he))
        clear hqq
        clear h B0 B1 B2 hbx hG hx hm hr hu hi
        go_enter Try.func38, Try.ntmps38
        go_upto_region 1 with fail
        rw [HU.out]
        go_wp2_with fail
        refine (right13_at pa pb pc true _ HR.out).mono ?_
        rintro e w2 ⟨rfl, hb2⟩
        have E0 := HB0.out.below hb2 HB0.out.lt
        have E1 := HB1.out.below hb2 HB1.out.lt
        have HBW := Lib.hid (HBX.out.trans (hb2.mono HBX.out.size))
        have a0' := (E0.cell 0).trans rfl; have a1' := (E0.cell 1).trans rfl; have a2' := (E0.cell 2).trans rfl
        have b0' := (E1.cell 0).trans rfl
        clear E0 E1
        go_wp2_with fail
        refine (rat_any A T S_ n c n c2 n c3 (rdP l) pa _ w2 ((HW.out.1.reads.below HBW.out).more HBW.out.size) hn HI.out).mono ?_
        rintro e w3 ⟨rfl, hb3⟩
        have hb23 := hb2.trans (hb3.mono hb2.size)
        have E0 := HB0.out.below hb23 HB0.out.lt
        have E1 := HB1.out.below hb23 HB1.out.lt
        have E2 := HB2.out.below hb23 HB2.out.lt
        have HBW3 := Lib.hid (HBX.out.trans (hb23.mono HBX.out.size))
        have a0'' := (E0.cell 0).trans rfl; have a1'' := (E0.cell 1).trans rfl; have a2'' := (E0.cell 2).trans rfl
        have b0'' := (E1.cell 0).trans rfl; have b1'' := (E1.cell 1).trans rfl; have b2'' := (E1.cell 2).trans rfl
        have g0 := E2.frozen 0; have g1 := E2.frozen 1; have g2 := E2.frozen 2
        have d0 := (E2.cell 0).trans rfl; have d1 := (E2.cell 1).trans rfl; have d2 := (E2.cell 2).trans rfl
        have HE0 := Lib.hid E0; have HE1 := Lib.hid E1; have HE2 := Lib.hid E2
        clear hb2 hb3 E0 E1 E2 a0' a1' a2' b0' a0 a1 a2 b0 b1 b2 f0 f1 f2 c0 c1 c2' hb23
        obtain ⟨b, off, rfl, _, hd⟩ := ((HW.out.1.reads.below HBW3.out)).recs encP_len (by omega) (by have := HL.out; omega)
        have k0 : w3.cell? ⟨b, off + i * 3, none⟩ = some (.int .i64 q.1) := by have := hd i (by rw [rdP_len]; exact hil) 0 _ rfl; rw [← HQ.out]; rwa [rdP_at hil] at this
        have k1 : w3.cell? ⟨b, off + i * 3 + 1, none⟩ = some (.int .i64 q.2.1) := by have := hd i (by rw [rdP_len]; exact hil) 1 _ rfl; rw [← HQ.out]; rwa [rdP_at hil] at this
        have k2 : w3.cell? ⟨b, off + i * 3 + 2, none⟩ = some (.int .i64 q.2.2) := by have := hd i (by rw [rdP_len]; exact hil) 2 _ rfl; rw [← HQ.out]; rwa [rdP_at hil] at this
        have hq := fun w => eq23 q.1 q.2.1 q.2.2 pa pb pc w
        have e1 : decide ((q.1, q.2.1, q.2.2) = (pa, pb, pc)) = false := decide_eq_false he
        simp only [e1] at hq
        have hi0 : (0 : Int) ≤ i := by omega
        have hin : (i : Int) < n := by have := HL.out; omega
        clear hd he e1
        go_wp2_with fail
        go_quiet (fail)
        go_wp2_with fail
        refine bodyPost_ret (v := .tuple #[.agg #[.slice (some ⟨b, off, none⟩) n c, .slice T n c2, .slice S_ n c3], .int .i64 21]) (by simp [results, Try.results38, go_sem, d0, d1, d2]) rfl ?_
        exact ret_old (below_drewN HBW3.out _) (by omega) HW.out (by rw [← HM.out, HL2.out]) (by rw [← HX.out, HE.out]) _ _ _
end Go.Proofs.Ytakjdffebpcmnaa
