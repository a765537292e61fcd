/- The walk of same: a desk and that of the reference show the same. -/
import Derived.Test.YtakjdffebpcmnaaRdD
namespace Go.Proofs.Ytakjdffebpcmnaa
open Go Go.RowKit Go.Maps
theorem rnext_at (A T S : Option Addr) (n c c2 c3 : Nat) (l : List En) (a b d : Int) (x : Bool) (w : World) (hr : Reads w w.heap.size 3 A n (cellsP (rdP l))) (ht : Reads w w.heap.size 1 T n (ints (rdT l))) (hs : Reads w w.heap.size 1 S n (ints (rdS l))) (hn : n ≤ 100000) (hp : nextP l = (a, b, d)) (hx : nextB l = x) :
    Calls Try.prog 33 #[.agg #[.slice A n c, .slice T n c2, .slice S n c3]] w fun e w' => e = .returned (.tuple #[.agg #[.int .i64 a, .int .i64 b, .int .i64 d], .bool x]) ∧ Below w.heap.size w w' := by
  have := rnext_any A T S n c c2 c3 l w hr ht hs hn
  unfold RetPB at this
  rw [hp, hx] at this; exact this
theorem same_yes (A A' : Option Addr) (n c n' c' : Nat) (l : List P3) (B B' : Nat) (w : World) (hr : Reads w B 3 A n (cellsP l)) (hr' : Reads w B' 3 A' n' (cellsP l)) (hn : l.length ≤ 100000) :
    Calls Try.prog 30 #[.slice A n c, .slice A' n' c'] w (RetB w true) := by
  have hl := recs_len hr encP_len (by omega)
  refine (same_any A A' n c n' c' l l B B' w hr hr' (by omega)).mono ?_
  rintro e w' ⟨rfl, q, rfl⟩
  exact ⟨by rw [same_refl], below_drewN (Below.refl _ _) q⟩
set_option maxHeartbeats 4000000 in
set_option maxRecDepth 10000 in
theorem rsame_any (F G : Nat → Prop) (g : Nat) (A T S : Option Addr) (n c c2 c3 : Nat) (l : List En) (w : World) (hd : DeskF w F g l) (h : RdW w G A n T S l) (hn : l.length ≤ 100000) :
    Calls Try.prog 22 #[.pointer (some ⟨g, 0, none⟩), .agg #[.slice A n c, .slice T n c2, .slice S n c3]] w (RetB w true) := by
  have B0 := Blk.new w 44 #[.slice A n c, .slice T n c2, .slice S n c3]
  have hbx := below_alloc (Below.refl w.heap.size w) (Nat.le_refl _) (.cells #[.slice A n c, .slice T n c2, .slice S n c3] 44)
  obtain ⟨u, hu⟩ : ∃ u, w.alloc (.cells #[.slice A n c, .slice T n c2, .slice S n c3] 44) = u := ⟨_, rfl⟩
  rw [hu] at B0 hbx
  obtain ⟨pa, pb, pc, hp⟩ : ∃ pa pb pc, nextP l = (pa, pb, pc) := ⟨_, _, _, rfl⟩
  obtain ⟨fb, hfb⟩ : ∃ fb, nextB l = fb := ⟨_, rfl⟩
  have hn' : n ≤ 100000 := by rw [h.len]; exact hn
  have HU := Lib.hid hu
  have HB0 := Lib.hid B0
  have HBX := Lib.hid hbx
  have HD := Lib.hid (hd.below hbx)
  have HW := Lib.hid (h.below hbx)
  have HP := Lib.hid hp
  have HFB := Lib.hid hfb
  clear B0 hbx hd h hp hfb hu
  go_enter Try.func22, Try.ntmps22
  go_upto_region 1 with fail
  rw [HU.out]
  go_wp2_with fail
  refine (next_at F g l pa pb pc fb u HD.out hn HP.out HFB.out).mono ?_
  rintro e w2 ⟨rfl, hb2⟩
  have q0 := HB0.out.below hb2 HB0.out.lt
  have B2 := Blk.new w2 23 #[.int .i64 pa, .int .i64 pb, .int .i64 pc]
  have hb3 := below_alloc hb2 (Nat.le_refl _) (.cells #[.int .i64 pa, .int .i64 pb, .int .i64 pc] 23)
  have E0 := q0.alloc (.cells #[.int .i64 pa, .int .i64 pb, .int .i64 pc] 23)
  have a0 := (E0.cell 0).trans rfl; have a1 := (E0.cell 1).trans rfl; have a2 := (E0.cell 2).trans rfl
  have HB2 := Lib.hid B2
  have HE0 := Lib.hid E0
  have HB3 := Lib.hid hb3
  clear q0 B2 hb2 hb3 E0
  go_upto_region 2 with fail
  obtain ⟨w3, hw3⟩ : ∃ v : World, w2.alloc (.cells #[.int .i64 pa, .int .i64 pb, .int .i64 pc] 23) = v := ⟨_, rfl⟩
  rw [hw3] at HB2 HE0 HB3 a0 a1 a2 ⊢
  clear hw3
  have HW3 := Lib.hid (HW.out.below HB3.out)
  go_wp2_with fail
  refine (rnext_at A T S n c c2 c3 l pa pb pc fb w3 HW3.out.1.reads HW3.out.2.1.reads HW3.out.2.2.reads hn' HP.out HFB.out).mono ?_
  rintro e w4 ⟨rfl, hb4⟩
  have B5 := Blk.new w4 23 #[.int .i64 pa, .int .i64 pb, .int .i64 pc]
  have hb5 := below_alloc hb4 (Nat.le_refl _) (.cells #[.int .i64 pa, .int .i64 pb, .int .i64 pc] 23)
  have E2 := (HB2.out.below hb4 HB2.out.lt).alloc (.cells #[.int .i64 pa, .int .i64 pb, .int .i64 pc] 23)
  have E0 := (HE0.out.below hb4 HE0.out.lt).alloc (.cells #[.int .i64 pa, .int .i64 pb, .int .i64 pc] 23)
  have HB5 := Lib.hid B5; have HE2 := Lib.hid E2; have HE0' := Lib.hid E0; have HB5' := Lib.hid hb5
  clear B5 hb4 hb5 E2 E0 a0 a1 a2
  go_upto_region 3 with fail
  obtain ⟨w5, hw5⟩ : ∃ v : World, w4.alloc (.cells #[.int .i64 pa, .int .i64 pb, .int .i64 pc] 23) = v := ⟨_, rfl⟩
  rw [hw5] at HB5 HE2 HE0' HB5' ⊢
  clear hw5
  have HB35 := Lib.hid (HB3.out.trans (HB5'.out.mono HB3.out.size))
  have HD5 := Lib.hid (HD.out.below HB35.out)
  have HW5 := Lib.hid (HW3.out.below HB5'.out)
  have K0 : ∀ z : DFam (DB w5), z.val.cell? ⟨w2.heap.size, 0, none⟩ = some (.int .i64 pa) := fun z => DB.some_ z ((HE2.out.cell 0).trans rfl)
  have K1 : ∀ z : DFam (DB w5), z.val.cell? ⟨w2.heap.size, 1, none⟩ = some (.int .i64 pb) := fun z => DB.some_ z ((HE2.out.cell 1).trans rfl)
  have K2 : ∀ z : DFam (DB w5), z.val.cell? ⟨w2.heap.size, 2, none⟩ = some (.int .i64 pc) := fun z => DB.some_ z ((HE2.out.cell 2).trans rfl)
  have K3 : ∀ z : DFam (DB w5), z.val.cell? ⟨w4.heap.size, 0, none⟩ = some (.int .i64 pa) := fun z => DB.some_ z ((HB5.out.cell 0).trans rfl)
  have K4 : ∀ z : DFam (DB w5), z.val.cell? ⟨w4.heap.size, 1, none⟩ = some (.int .i64 pb) := fun z => DB.some_ z ((HB5.out.cell 1).trans rfl)
  have K5 : ∀ z : DFam (DB w5), z.val.cell? ⟨w4.heap.size, 2, none⟩ = some (.int .i64 pc) := fun z => DB.some_ z ((HB5.out.cell 2).trans rfl)
  have K6 : ∀ z : DFam (DB w5), z.val.cell? ⟨w.heap.size, 0, none⟩ = some (.slice A n c) := fun z => DB.some_ z ((HE0'.out.cell 0).trans rfl)
  have K7 : ∀ z : DFam (DB w5), z.val.cell? ⟨w.heap.size, 1, none⟩ = some (.slice T n c2) := fun z => DB.some_ z ((HE0'.out.cell 1).trans rfl)
  have K8 : ∀ z : DFam (DB w5), z.val.cell? ⟨w.heap.size, 2, none⟩ = some (.slice S n c3) := fun z => DB.some_ z ((HE0'.out.cell 2).trans rfl)
  have hq := eq23_refl pa pb pc
  have hfe : (fb == fb) = true := beq_self_eq_true fb
  refine wp_region_pb 9 ([0, 1, 2, 3, 4, 5, 6, 7, 8, 9, 11], [(10, ([], [(12, ([], [(13, ([14, 15, 16, 18], [(17, ([], [(19, ([], [(20, ([21, 22, 23, 25], [(24, ([], [(26, ([], [(27, [28])]))]))]))]))]))]))]))]))]) [29] (by kernel_rfl) (by kernel_rfl) ?_
  simp only [wpT, List.map_cons, List.map_nil, List.getD_cons_succ, List.getD_cons_zero, List.forall_mem_cons, List.not_mem_nil, false_implies, implies_true, and_true]
  repeat (go_big_quiet_step (fail))
  refine wpQuiet_nil ?_
  have U0 : Hid (Below w5.heap.size w5 w5.drew) := Lib.hid (Below.refl _ _).drew
  have SL : Hid ((ofS l 0).length ≤ 100000 ∧ (ofS l 1).length ≤ 100000 ∧ (ofS l 2).length ≤ 100000) := Lib.hid ⟨Nat.le_trans (ofS_len _ _) hn, Nat.le_trans (ofS_len _ _) hn, Nat.le_trans (ofS_len _ _) hn⟩
  go_wp2_with fail
  refine (open_any F g l _ (HD5.out.below U0.out) hn).mono ?_
  rintro e u1 ⟨A0, n0, c0_, rfl, ho, hb⟩
  have U1 : Hid (Below w5.heap.size w5 u1) := Lib.hid (below_next U0.out (Nat.le_refl _) hb)
  have O0 := Lib.hid (Reads.of_own ho)
  clear ho hb
  go_wp2_with fail
  refine QN_normal ⟨U1.out, wpQuiet_nil ?_⟩
  go_wp2_with fail
  refine (ropen_any A T S n c c2 c3 l _ (HW5.out.below U1.out).1.reads (HW5.out.below U1.out).2.2.reads hn').mono ?_
  rintro e u2 ⟨A1, n1, c1_, rfl, ho, hb⟩
  have U2 : Hid (Below w5.heap.size w5 u2) := Lib.hid (below_next U1.out (Nat.le_refl _) hb)
  have O1 := Lib.hid (Reads.of_own ho)
  have O0' := Lib.hid (O0.out.below hb)
  clear ho hb
  go_wp2_with fail
  refine QN_normal ⟨U2.out, wpQuiet_nil ?_⟩
  go_wp2_with fail
  refine (same_yes _ _ _ _ _ _ (ofS l 0) _ _ _ O0'.out O1.out SL.out.1).mono ?_
  rintro e u3 ⟨rfl, hb⟩
  have U3 : Hid (Below w5.heap.size w5 u3) := Lib.hid (below_next U2.out (Nat.le_refl _) hb)
  clear hb
  go_wp2_with fail
  refine QN_normal ⟨U3.out, ?_⟩
  repeat (go_big_quiet_step (fail))
  refine wpQuiet_nil ?_
  go_wp2_with fail
  refine (settled_any F g l _ (HD5.out.below U3.out) hn).mono ?_
  rintro e u4 ⟨A3, n3, c3_, rfl, ho, hb⟩
  have U4 : Hid (Below w5.heap.size w5 u4) := Lib.hid (below_next U3.out (Nat.le_refl _) hb)
  have O3 := Lib.hid (Reads.of_own ho)
  clear ho hb
  go_wp2_with fail
  refine QN_normal ⟨U4.out, wpQuiet_nil ?_⟩
  go_wp2_with fail
  refine (rsettled_any A T S n c c2 c3 l _ (HW5.out.below U4.out).1.reads (HW5.out.below U4.out).2.2.reads hn').mono ?_
  rintro e u5 ⟨A4, n4, c4_, rfl, ho, hb⟩
  have U5 : Hid (Below w5.heap.size w5 u5) := Lib.hid (below_next U4.out (Nat.le_refl _) hb)
  have O4 := Lib.hid (Reads.of_own ho)
  have O3' := Lib.hid (O3.out.below hb)
  clear ho hb
  go_wp2_with fail
  refine QN_normal ⟨U5.out, wpQuiet_nil ?_⟩
  go_wp2_with fail
  refine (same_yes _ _ _ _ _ _ (ofS l 1) _ _ _ O3'.out O4.out SL.out.2.1).mono ?_
  rintro e u6 ⟨rfl, hb⟩
  have U6 : Hid (Below w5.heap.size w5 u6) := Lib.hid (below_next U5.out (Nat.le_refl _) hb)
  clear hb
  go_wp2_with fail
  refine QN_normal ⟨U6.out, ?_⟩
  repeat (go_big_quiet_step (fail))
  refine wpQuiet_nil ?_
  go_wp2_with fail
  refine (refused_any F g l _ (HD5.out.below U6.out) hn).mono ?_
  rintro e u7 ⟨A6, n6, c6_, rfl, ho, hb⟩
  have U7 : Hid (Below w5.heap.size w5 u7) := Lib.hid (below_next U6.out (Nat.le_refl _) hb)
  have O6 := Lib.hid (Reads.of_own ho)
  clear ho hb
  go_wp2_with fail
  refine QN_normal ⟨U7.out, wpQuiet_nil ?_⟩
  go_wp2_with fail
  refine (rrefused_any A T S n c c2 c3 l _ (HW5.out.below U7.out).1.reads (HW5.out.below U7.out).2.2.reads hn').mono ?_
  rintro e u8 ⟨A7, n7, c7_, rfl, ho, hb⟩
  have U8 : Hid (Below w5.heap.size w5 u8) := Lib.hid (below_next U7.out (Nat.le_refl _) hb)
  have O7 := Lib.hid (Reads.of_own ho)
  have O6' := Lib.hid (O6.out.below hb)
  clear ho hb
  go_wp2_with fail
  refine QN_normal ⟨U8.out, wpQuiet_nil ?_⟩
  go_wp2_with fail
  refine (same_yes _ _ _ _ _ _ (ofS l 2) _ _ _ O6'.out O7.out SL.out.2.2).mono ?_
  rintro e u9 ⟨rfl, hb⟩
  have U9 : Hid (Below w5.heap.size w5 u9) := Lib.hid (below_next U8.out (Nat.le_refl _) hb)
  clear hb
  go_wp2_with fail
  refine QN_normal ⟨U9.out, ?_⟩
  repeat (go_big_quiet_step (fail))
  refine wpQuiet_nil ?_
  clear K0 K1 K2 K3 K4 K5 K6 K7 K8
  go_wp2_with fail
  go_ret
  exact ⟨rfl, (HBX.out.trans (HB35.out.mono HBX.out.size)).trans (U9.out.mono (HBX.out.trans (HB35.out.mono HBX.out.size)).size)⟩
end Go.Proofs.Ytakjdffebpcmnaa
