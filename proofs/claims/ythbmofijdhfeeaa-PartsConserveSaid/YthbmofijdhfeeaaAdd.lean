/- The walks of parts.Store's Add and of parts.New. -/
import Derived.Test.YthbmofijdhfeeaaTake
import Derived.StillTailTactics
import Derived.Deep.RegionLaw
namespace Go.Proofs.Ythbmofijdhfeeaa
open Go.RowKit Go.Maps Go.WideMaps
theorem add_nil (a b c d : Int) (w : World) : Calls Try.prog 28 #[.pointer none, .agg #[.int .i64 a, .int .i64 b, .int .i64 c, .int .i64 d]] w (RetI w 11) := by
  go_enter Try.func28, Try.ntmps28
  go_wp2_with fail
  go_ret
  exact ⟨rfl, (Below.refl _ _).alloc (Nat.le_refl _) _⟩
theorem okL_cases {a b c d : Int} (h : okL (a, b, c, d) = false) : inB 1 1000000 a = false ∨ (inB 1 1000000 a = true ∧ inB 1 1000000 c = false) ∨ (inB 1 1000000 a = true ∧ inB 1 1000000 c = true ∧ inB 0 4294943999 d = false) := by
  rcases h1 : inB 1 1000000 a with _ | _
  · exact .inl rfl
  · rcases h2 : inB 1 1000000 c with _ | _
    · exact .inr (.inl ⟨rfl, rfl⟩)
    · rcases h3 : inB 0 4294943999 d with _ | _
      · exact .inr (.inr ⟨rfl, rfl, rfl⟩)
      · have e1 : 1 ≤ a ∧ a ≤ 1000000 := of_decide_eq_true h1
        have e2 : 1 ≤ c ∧ c ≤ 1000000 := of_decide_eq_true h2
        have e3 : 0 ≤ d ∧ d ≤ 4294943999 := of_decide_eq_true h3
        have : okL (a, b, c, d) = true := okL_iff.2 ⟨e1.1, e1.2, e2.1, e2.2, e3.1, e3.2⟩
        rw [this] at h; cases h
theorem okL_ins {a b c d : Int} (h : okL (a, b, c, d) = true) : inB 1 1000000 a = true ∧ inB 1 1000000 c = true ∧ inB 0 4294943999 d = true := by
  obtain ⟨e1, e2, e3, e4, e5, e6⟩ := okL_iff.1 h
  exact ⟨decide_eq_true ⟨e1, e2⟩, decide_eq_true ⟨e3, e4⟩, decide_eq_true ⟨e5, e6⟩⟩
set_option maxHeartbeats 4000000 in
set_option maxRecDepth 10000 in
theorem add_any (F : Nat → Prop) (g : Nat) (l m' : List Lt) (a b c d x : Int) (w : World) (h : StoreF w F g l) (hx : addE l (a, b, c, d) = x) (hm' : addL l (a, b, c, d) = m') (hlen : l.length ≤ 512) :
    Calls Try.prog 28 #[.pointer (some ⟨g, 0, none⟩), .agg #[.int .i64 a, .int .i64 b, .int .i64 c, .int .i64 d]] w (StorePost w F g x m') := by
  subst hx hm'
  obtain ⟨i0, hi0, hz0, hz1, hz2⟩ := info_parts Try.info78
  have HT := Lib.hid h
  have HAL := Lib.hid (below_alloc (Below.refl w.heap.size w) (Nat.le_refl _) (.cells #[.int .i64 a, .int .i64 b, .int .i64 c, .int .i64 d] 47))
  have hPB := Blk.new w 47 #[.int .i64 a, .int .i64 b, .int .i64 c, .int .i64 d]
  obtain ⟨A, n, cc, m, hb⟩ := h.toB
  have hbA := hb.below HAL.out
  have HBA := Lib.hid hbA
  have HL := Lib.hid (recs_len (Reads.of_own hb.2.2.2.2.1) encX_len (by omega))
  have hn5 : n ≤ 512 := by have := HL.out; omega
  have hgs : g < w.heap.size := hb.2.2.1.lt
  have c0 := hbA.2.2.1.cell 0
  have c1 := hbA.2.2.1.cell 1
  have p0 := hPB.cell 0; have p1 := hPB.cell 1; have p2 := hPB.cell 2; have p3 := hPB.cell 3
  clear h hb hlen
  by_cases hfull : 512 ≤ n
  · have HE := Lib.hid (addE_full (l := l) (x := (a, b, c, d)) (by have := HL.out; omega))
    have HM : Hid (addL l (a, b, c, d) = l) := Lib.hid (addL_no (by rw [HE.out]; decide))
    clear hPB hbA
    go_enter Try.func28, Try.ntmps28
    go_wp2_with fail
    go_ret
    exact storePost_no HE.out.symm HM.out HT.out HAL.out
  · have hl5 : l.length < 512 := by have := HL.out; omega
    have HL5 := Lib.hid hl5
    clear hl5
    rcases hok : okL (a, b, c, d) with _ | _
    · have HE := Lib.hid (addE_range HL5.out hok)
      have HM : Hid (addL l (a, b, c, d) = l) := Lib.hid (addL_no (by rw [HE.out]; decide))
      have hcs := okL_cases hok
      clear hok hPB hbA
      rcases hcs with e1 | ⟨e1, e2⟩ | ⟨e1, e2, e3⟩
      · have C1 := fun w => in_at a 1 1000000 false w e1
        clear e1
        go_enter Try.func28, Try.ntmps28
        go_wp2_with fail
        refine (C1 _).mono ?_
        rintro e w1 ⟨rfl, rfl⟩
        go_wp2_with fail
        go_ret
        exact storePost_no HE.out.symm HM.out HT.out HAL.out
      · have C1 := fun w => in_at a 1 1000000 true w e1
        have C2 := fun w => in_at c 1 1000000 false w e2
        clear e1 e2
        go_enter Try.func28, Try.ntmps28
        go_wp2_with fail
        refine (C1 _).mono ?_
        rintro e w1 ⟨rfl, rfl⟩
        go_wp2_with fail
        refine (C2 _).mono ?_
        rintro e w1 ⟨rfl, rfl⟩
        go_wp2_with fail
        go_ret
        exact storePost_no HE.out.symm HM.out HT.out HAL.out
      · have C1 := fun w => in_at a 1 1000000 true w e1
        have C2 := fun w => in_at c 1 1000000 true w e2
        have C3 := fun w => in_at d 0 4294943999 false w e3
        clear e1 e2 e3
        go_enter Try.func28, Try.ntmps28
        go_wp2_with fail
        refine (C1 _).mono ?_
        rintro e w1 ⟨rfl, rfl⟩
        go_wp2_with fail
        refine (C2 _).mono ?_
        rintro e w1 ⟨rfl, rfl⟩
        go_wp2_with fail
        refine (C3 _).mono ?_
        rintro e w1 ⟨rfl, rfl⟩
        go_wp2_with fail
        go_ret
        exact storePost_no HE.out.symm HM.out HT.out HAL.out
    · have hins := okL_ins hok
      have C1 := fun w => in_at a 1 1000000 true w hins.1
      have C2 := fun w => in_at c 1 1000000 true w hins.2.1
      have C3 := fun w => in_at d 0 4294943999 true w hins.2.2
      have HOK := Lib.hid hok
      obtain ⟨e1, e2, e3, e4, e5, e6⟩ := okL_iff.1 hok
      have hr1 : 1 ≤ a := e1
      have hr2 : a ≤ 1000000 := e2
      have hr3 : 0 ≤ d := e5
      have hr4 : d ≤ 4294943999 := e6
      clear hins hok e1 e2 e3 e4 e5 e6
      rcases hk : kindB b with _ | _
      · have HE := Lib.hid (addE_kind HL5.out HOK.out hk)
        have HM : Hid (addL l (a, b, c, d) = l) := Lib.hid (addL_no (by rw [HE.out]; decide))
        have C4 := fun w => kind_at b false w hk
        clear hk hPB hbA
        go_enter Try.func28, Try.ntmps28
        go_wp2_with fail
        refine (C1 _).mono ?_
        rintro e w1 ⟨rfl, rfl⟩
        go_wp2_with fail
        refine (C2 _).mono ?_
        rintro e w1 ⟨rfl, rfl⟩
        go_wp2_with fail
        refine (C3 _).mono ?_
        rintro e w1 ⟨rfl, rfl⟩
        go_wp2_with fail
        refine (C4 _).mono ?_
        rintro e w1 ⟨rfl, rfl⟩
        go_wp2_with fail
        go_ret
        exact storePost_no HE.out.symm HM.out HT.out HAL.out
      · have C4 := fun w => kind_at b true w hk
        have HK := Lib.hid hk
        clear hk
        have hwf : (Lit.int .i64 a).wf = true := WalkArith.wf_i64 (by omega)
        have hrun : ∀ q, (Instr.lookup 69 (.map (some m)) (.int .i64 a) true).run Try.prog ((w.alloc (.cells #[.int .i64 a, .int .i64 b, .int .i64 c, .int .i64 d] 47)).drewN q) = .ok (.tuple #[.int .i64 ((placeR l (.int .i64 a)).getD 0), .bool (placeR l (.int .i64 a)).isSome]) ((w.alloc (.cells #[.int .i64 a, .int .i64 b, .int .i64 c, .int .i64 d] 47)).drewN q) := fun q => (hbA.2.2.2.2.2.1.drewN q).look intLaw Try.underlying69 Try.underlying3 (zero3 _) (keyOf_int_mk Try.underlying3 hwf)
        rw [placeR_int] at hrun
        rcases Option.eq_none_or_eq_some (idx l a) with hi | ⟨i, hi⟩
        · rw [hi] at hrun
          have hrun' : ∀ q, (Instr.lookup 69 (.map (some m)) (.int .i64 a) true).run Try.prog ((w.alloc (.cells #[.int .i64 a, .int .i64 b, .int .i64 c, .int .i64 d] 47)).drewN q) = .ok (.tuple #[.int .i64 0, .bool false]) ((w.alloc (.cells #[.int .i64 a, .int .i64 b, .int .i64 c, .int .i64 d] 47)).drewN q) := fun q => hrun q
          have HI := Lib.hid hi
          clear hrun hi
          have hcs : n = 0 ∨ 0 < n := by omega
          by_cases hord : l ≠ [] ∧ d < lastAt l
          · have HE := Lib.hid (addE_order HL5.out HOK.out HK.out HI.out hord.1 hord.2)
            have HM : Hid (addL l (a, b, c, d) = l) := Lib.hid (addL_no (by rw [HE.out]; decide))
            have hn0 : 0 < n := by
              rcases Nat.eq_zero_or_pos n with h0 | h0
              · exact absurd (List.eq_nil_of_length_eq_zero (by have := HL.out; omega)) hord.1
              · exact h0
            obtain ⟨bb, off, rfl, hbl, hd⟩ := (Reads.of_own hbA.2.2.2.2.1).recs encX_len (by omega) hn0
            have hlast : n - 1 < l.length := by have := HL.out; omega
            have d3 := hd (n - 1) hlast 3 _ rfl
            have hla : lastAt l = l[n - 1].1.2.2.2 := by
              have e := lastAt_at (l := l) (by omega)
              have h2 := HL.out
              subst h2
              exact e
            have hlt : d < l[n - 1].1.2.2.2 := by rw [← hla]; exact hord.2
            obtain ⟨j, rfl⟩ : ∃ j, n = j + 1 := ⟨n - 1, by omega⟩
            simp only [Nat.add_sub_cancel] at d3 hlt
            have hj0 : (0 : Int) ≤ j := by omega
            have hwr : IntKind.i64.wrap (((j + 1 : Nat) : Int) - 1) = j := by rw [show (((j + 1 : Nat) : Int) - 1) = j from by omega]; exact IntWalk.i64_in _ (by omega)
            have hwr2 : IntKind.i64.wrap ((j : Int) + 1 - 1) = j := by rw [show ((j : Int) + 1 - 1) = j from by omega]; exact IntWalk.i64_in _ (by omega)
            have hjj : (j : Int) < ((j + 1 : Nat) : Int) := by omega
            have hpos : decide ((0 : Int) < ((j + 1 : Nat) : Int)) = true := decide_eq_true (by omega)
            clear hord hd hla hPB hbA hcs
            go_enter Try.func28, Try.ntmps28
            go_wp2_with fail
            refine (C1 _).mono ?_
            rintro e w1 ⟨rfl, rfl⟩
            go_wp2_with fail
            refine (C2 _).mono ?_
            rintro e w1 ⟨rfl, rfl⟩
            go_wp2_with fail
            refine (C3 _).mono ?_
            rintro e w1 ⟨rfl, rfl⟩
            go_wp2_with fail
            refine (C4 _).mono ?_
            rintro e w1 ⟨rfl, rfl⟩
            go_wp2_with fail
            go_quiet (fail)
            go_wp2_with fail
            go_quiet (fail)
            go_wp2_with fail
            go_ret
            exact storePost_no HE.out.symm HM.out HT.out (below_drewN (below_drewN HAL.out _) _)
          · have hok2 : l = [] ∨ lastAt l ≤ d := by
              by_cases h0 : l = []
              · exact .inl h0
              · exact .inr (by have : ¬ d < lastAt l := fun e => hord ⟨h0, e⟩; omega)
            have HE := Lib.hid (addE_ok HL5.out HOK.out HK.out HI.out hok2)
            have HM := Lib.hid (addL_ok HE.out)
            have HPB := Lib.hid hPB
            clear hord hPB
            rcases hcs with hn0 | hn0
            · have hpos : decide ((0 : Int) < (n : Int)) = false := decide_eq_false (by omega)
              have hpos2 : decide (0 < n) = false := decide_eq_false (by omega)
              clear hbA hok2 hn0
              go_enter Try.func28, Try.ntmps28
              go_wp2_with fail
              refine (C1 _).mono ?_
              rintro e w1 ⟨rfl, rfl⟩
              go_wp2_with fail
              refine (C2 _).mono ?_
              rintro e w1 ⟨rfl, rfl⟩
              go_wp2_with fail
              refine (C3 _).mono ?_
              rintro e w1 ⟨rfl, rfl⟩
              go_wp2_with fail
              refine (C4 _).mono ?_
              rintro e w1 ⟨rfl, rfl⟩
              go_wp2_with fail
              go_quiet (fail)
              obtain ⟨nqa, rfl⟩ : ∃ x : Nat, x = nq := ⟨_, rfl⟩
              go_wp2_with fail
              go_quiet (fail)
              go_wp2_with fail
              rw [World.drewN_drewN]
              generalize nqa + nq = q2
              obtain ⟨w2, HW2⟩ : ∃ w2 : World, Hid (w2 = (w.alloc (.cells #[.int .i64 a, .int .i64 b, .int .i64 c, .int .i64 d] 47)).drewN q2) := ⟨_, rfl⟩
              rw [← HW2.out]
              have sb2 : StoreB w2 F g l A n cc m := by rw [HW2.out]; exact HBA.out.below (below_drewN (Below.refl _ _) q2)
              have pb2 : Blk w2 w.heap.size 47 #[.int .i64 a, .int .i64 b, .int .i64 c, .int .i64 d] := by rw [HW2.out]; exact HPB.out
              have hs2 : w.heap.size + 1 ≤ w2.heap.size := by rw [HW2.out]; simp
              have bw2 : Below w.heap.size w w2 := by rw [HW2.out]; exact below_drewN HAL.out q2
              have b2 := sb2.2.2.1
              have m2 := sb2.2.2.2.2.2.1
              have r2 := sb2.2.2.2.2.1
              have MG := Lib.hid (m2.blk_ne b2)
              have MP := Lib.hid (m2.blk_ne pb2)
              have MR := Lib.hid (m2.row_ne r2)
              have B2 := Lib.hid b2
              have PB2 := Lib.hid pb2
              have R2 := Lib.hid r2
              have BW := Lib.hid bw2
              have M2 := Lib.hid m2
              have SB2 := Lib.hid sb2
              clear c0 c1 p0 p1 p2 p3 hrun' HW2
              have c0 := b2.cell 0
              have c1 := b2.cell 1
              have p0 := pb2.cell 0; have p1 := pb2.cell 1; have p2 := pb2.cell 2; have p3 := pb2.cell 3
              have hg2 : g < w2.heap.size := b2.lt
              clear b2 pb2 r2 bw2 m2 sb2
              refine wp_region_still_tail 11 (by kernel_rfl) (by kernel_rfl) ?_
              simp only [List.take_succ_cons, List.take_zero, List.drop_succ_cons, List.drop_zero]
              change wpStill _ _ (World.drew w2) _ _ _
              repeat still_step
              refine wpStill_nil ?_
              change wpList _ _ _ _ _ (World.drew w2)
              refine wpList_putI _ rfl _ _ _ 69 rfl 3 3 intLaw Try.underlying69 Try.underlying3 m n (placeR l) rfl M2.out (by unfold maxLen; omega) (.int .i64 a) (.int .i64 a) (n : Int) rfl rfl (keyOf_int_mk Try.underlying3 hwf) trivial (WalkArith.wf_i64 (by omega)) ?_
              intro w3 hM3 hg3
              have hs3 : w2.heap.size ≤ w3.heap.size := hg3.size
              have b3 : Blk w3 g 72 #[.slice A n cc, .map (some m)] := (Blk.drew B2.out).grown hg3 (by intro e; injection e with e; exact MG.out e.symm)
              have pb3 : Blk w3 w.heap.size 47 #[.int .i64 a, .int .i64 b, .int .i64 c, .int .i64 d] := (Blk.drew PB2.out).grown hg3 (by intro e; injection e with e; exact MP.out e.symm)
              have R3 := Lib.hid (World.ownsRow.kept (w := w2.drew) R2.out hg3 (.inr fun e => MR.out e.symm))
              clear c0 c1 p0 p1 p2 p3 hg2
              have c0 := b3.cell 0
              have c1 := b3.cell 1
              have p0 := pb3.cell 0; have p1 := pb3.cell 1; have p2 := pb3.cell 2; have p3 := pb3.cell 3
              go_wp2_with fail
              have B3 := Lib.hid b3
              have PB3 := Lib.hid pb3
              have M3 := Lib.hid hM3
              have hFlt := Lib.hid SB2.out.2.1
              have H3 := Lib.hid SB2.out.2.2.2.1
              have H1 := Lib.hid SB2.out.1
              have H6 := Lib.hid SB2.out.2.2.2.2.2.2
              have O3D : Hid (Only F w w3.drew) := Lib.hid (by
                have o2 : Only F w w2 := Only.of_new BW.out F
                have o2d : Only F w w2.drew := ⟨o2.os, o2.tape, o2.output, o2.size, o2.block⟩
                have o3 : Only F w w3 := o2d.grown hg3 (fun k e _ => by injection e with e; subst e; exact H3.out)
                exact ⟨o3.os, o3.tape, o3.output, o3.size, o3.block⟩)
              have R4D : Hid (w3.drew.ownsRow 0 78 5 (.slice A n cc) n (cellsX l)) := R3
              have B4D : Hid (Blk w3.drew g 72 #[.slice A n cc, .map (some m)]) := B3
              have M3D : Hid (MapI Try.prog 3 3 w3.drew m (n + 1) (updL (placeR l) (.int .i64 a) (n : Int))) := M3
              have fg3 := b3.frozen 0
              have hg3' : g < w3.heap.size := b3.lt
              have hps3 : w.heap.size < w3.heap.size := pb3.lt
              have HNR := Lib.hid (Reads.fresh w3.drew 78 #[.int .i64 a, .int .i64 b, .int .i64 c, .int .i64 d, .int .i64 c] 1 5 rfl)
              clear b3 pb3 hM3 hg3 c1
              go_region_law ((refine step_append_any _ rfl (.tmp 88) (.tmp 93) _ (by rfl) 0 78 i0 _ 5 40 Try.underlying70 hi0 hz0 hz1 hz2 rfl (by omega) (.slice A n cc) n (cellsX l) (by rfl) (R4D.out.alloc _) (w3.heap.size + 1) (some ⟨w3.heap.size, 0, none⟩) 1 1 (encX ((a, b, c, d), c)) (by rfl) HNR.out (one_encX ((a, b, c, d), c)) (by simp only [maxLen]; omega) (by omega) (Nat.zero_le _) ?_; intro v5 w5 hown5 hg5 hat5; obtain ⟨A5, c5, rfl, hr5⟩ := own_reads hown5; have b5 : Blk w5 g 72 #[.slice A n cc, .map (some m)] := (B4D.out.alloc _).grown hg5 (fun e => own_blk_ne R4D.out B4D.out (by decide) e.symm); have c5' := b5.cell 0; have f5' := b5.frozen 0))
              all_goals
                go_wp2_with fail
                go_ret
                have hM5 := (M3D.out.alloc (.cells #[.int .i64 a, .int .i64 b, .int .i64 c, .int .i64 d, .int .i64 c] 78)).kept hg5 (M3D.out.row_ne R4D.out)
                have o5 : Only F w w5 := (O3D.out.alloc _).grown hg5 (fun k e _ => H6.out k e)
                refine ⟨ret_int HE.out.symm, ?_, o5.setCell (p := ⟨g, 0, none⟩) (fun _ => H1.out) _⟩
                have o6 : Only F w (w5.setCell ⟨g, 0, none⟩ (.slice A5 (n + 1) c5)) := o5.setCell (p := ⟨g, 0, none⟩) (fun _ => H1.out) _
                refine ⟨.inl H1.out, fun k hk => hk.elim (fun e => Nat.lt_of_lt_of_le (HT.out.2.1 k e) o6.size) fun e => e.2, A5, n + 1, c5, m, b5.set_ 0 _, .inl H3.out, ?_, ?_, ?_⟩
                · rw [HM.out]
                  have := ownsRow_setCell_other hown5 (a := ⟨g, 0, none⟩) (own_blk_ne hown5 b5 (by decide)) (.slice A5 (n + 1) c5)
                  rwa [show cellsX (l ++ [((a, b, c, d), c)]) = cellsX l ++ encX ((a, b, c, d), c) from by simp [cellsX]]
                · rw [HM.out]
                  have hp := placeR_snoc (l := l) (x := ((a, b, c, d), c)) HI.out
                  rw [HL.out] at hp
                  rw [← hp]
                  exact hM5.setCell (hM5.blk_ne b5) _
                · intro k hk
                  rcases hat5 with e | e
                  · rw [e] at hk; exact .inl (H6.out k hk)
                  · rw [e] at hk
                    injection hk with hk
                    have h8 := (hown5.lt k (by rw [e, hk])).2
                    simp at hk
                    have h9 := O3D.out.size
                    have h10 : w3.drew.heap.size = w3.heap.size := rfl
                    exact .inr ⟨by omega, by simp [World.setCell]; omega⟩
            · obtain ⟨bb, off, rfl, hbl, hd⟩ := (Reads.of_own hbA.2.2.2.2.1).recs encX_len (by omega) hn0
              have hlast : n - 1 < l.length := by have := HL.out; omega
              have d3 := hd (n - 1) hlast 3 _ rfl
              have hla : lastAt l = l[n - 1].1.2.2.2 := by
                have e := lastAt_at (l := l) (by omega)
                have h2 := HL.out
                subst h2
                exact e
              have hle : l[n - 1].1.2.2.2 ≤ d := by
                rcases hok2 with h0 | h0
                · subst h0; have := HL.out; simp at this; omega
                · rw [← hla]; exact h0
              obtain ⟨j, rfl⟩ : ∃ j, n = j + 1 := ⟨n - 1, by omega⟩
              simp only [Nat.add_sub_cancel] at d3 hle
              have hj0 : (0 : Int) ≤ j := by omega
              have hwr : IntKind.i64.wrap (((j + 1 : Nat) : Int) - 1) = j := by rw [show (((j + 1 : Nat) : Int) - 1) = j from by omega]; exact IntWalk.i64_in _ (by omega)
              have hwr2 : IntKind.i64.wrap ((j : Int) + 1 - 1) = j := by rw [show ((j : Int) + 1 - 1) = j from by omega]; exact IntWalk.i64_in _ (by omega)
              have hjj : (j : Int) < ((j + 1 : Nat) : Int) := by omega
              have hpos : decide ((0 : Int) < ((j + 1 : Nat) : Int)) = true := decide_eq_true (by omega)
              clear hd hla hbA hok2
              go_enter Try.func28, Try.ntmps28
              go_wp2_with fail
              refine (C1 _).mono ?_
              rintro e w1 ⟨rfl, rfl⟩
              go_wp2_with fail
              refine (C2 _).mono ?_
              rintro e w1 ⟨rfl, rfl⟩
              go_wp2_with fail
              refine (C3 _).mono ?_
              rintro e w1 ⟨rfl, rfl⟩
              go_wp2_with fail
              refine (C4 _).mono ?_
              rintro e w1 ⟨rfl, rfl⟩
              go_wp2_with fail
              go_quiet (fail)
              obtain ⟨nqa, rfl⟩ : ∃ x : Nat, x = nq := ⟨_, rfl⟩
              go_wp2_with fail
              go_quiet (fail)
              go_wp2_with fail
              rw [World.drewN_drewN]
              generalize nqa + nq = q2
              obtain ⟨w2, HW2⟩ : ∃ w2 : World, Hid (w2 = (w.alloc (.cells #[.int .i64 a, .int .i64 b, .int .i64 c, .int .i64 d] 47)).drewN q2) := ⟨_, rfl⟩
              rw [← HW2.out]
              have sb2 : StoreB w2 F g l (some ⟨bb, off, none⟩) (j + 1) cc m := by rw [HW2.out]; exact HBA.out.below (below_drewN (Below.refl _ _) q2)
              have pb2 : Blk w2 w.heap.size 47 #[.int .i64 a, .int .i64 b, .int .i64 c, .int .i64 d] := by rw [HW2.out]; exact HPB.out
              have hs2 : w.heap.size + 1 ≤ w2.heap.size := by rw [HW2.out]; simp
              have bw2 : Below w.heap.size w w2 := by rw [HW2.out]; exact below_drewN HAL.out q2
              have b2 := sb2.2.2.1
              have m2 := sb2.2.2.2.2.2.1
              have r2 := sb2.2.2.2.2.1
              have MG := Lib.hid (m2.blk_ne b2)
              have MP := Lib.hid (m2.blk_ne pb2)
              have MR := Lib.hid (m2.row_ne r2)
              have B2 := Lib.hid b2
              have PB2 := Lib.hid pb2
              have R2 := Lib.hid r2
              have BW := Lib.hid bw2
              have M2 := Lib.hid m2
              have SB2 := Lib.hid sb2
              clear c0 c1 p0 p1 p2 p3 hrun' HW2 d3 hwr hwr2 hpos
              have c0 := b2.cell 0
              have c1 := b2.cell 1
              have p0 := pb2.cell 0; have p1 := pb2.cell 1; have p2 := pb2.cell 2; have p3 := pb2.cell 3
              have hg2 : g < w2.heap.size := b2.lt
              clear b2 pb2 r2 bw2 m2 sb2
              refine wp_region_still_tail 11 (by kernel_rfl) (by kernel_rfl) ?_
              simp only [List.take_succ_cons, List.take_zero, List.drop_succ_cons, List.drop_zero]
              change wpStill _ _ (World.drew w2) _ _ _
              repeat still_step
              refine wpStill_nil ?_
              change wpList _ _ _ _ _ (World.drew w2)
              refine wpList_putI _ rfl _ _ _ 69 rfl 3 3 intLaw Try.underlying69 Try.underlying3 m (j + 1) (placeR l) rfl M2.out (by unfold maxLen; omega) (.int .i64 a) (.int .i64 a) ((j + 1 : Nat) : Int) rfl rfl (keyOf_int_mk Try.underlying3 hwf) trivial (WalkArith.wf_i64 (by omega)) ?_
              intro w3 hM3 hg3
              have hs3 : w2.heap.size ≤ w3.heap.size := hg3.size
              have b3 : Blk w3 g 72 #[.slice (some ⟨bb, off, none⟩) (j + 1) cc, .map (some m)] := (Blk.drew B2.out).grown hg3 (by intro e; injection e with e; exact MG.out e.symm)
              have pb3 : Blk w3 w.heap.size 47 #[.int .i64 a, .int .i64 b, .int .i64 c, .int .i64 d] := (Blk.drew PB2.out).grown hg3 (by intro e; injection e with e; exact MP.out e.symm)
              have R3 := Lib.hid (World.ownsRow.kept (w := w2.drew) R2.out hg3 (.inr fun e => MR.out e.symm))
              clear c0 c1 p0 p1 p2 p3 hg2
              have c0 := b3.cell 0
              have c1 := b3.cell 1
              have p0 := pb3.cell 0; have p1 := pb3.cell 1; have p2 := pb3.cell 2; have p3 := pb3.cell 3
              go_wp2_with fail
              have B3 := Lib.hid b3
              have PB3 := Lib.hid pb3
              have M3 := Lib.hid hM3
              have hFlt := Lib.hid SB2.out.2.1
              have H3 := Lib.hid SB2.out.2.2.2.1
              have H1 := Lib.hid SB2.out.1
              have H6 := Lib.hid SB2.out.2.2.2.2.2.2
              have O3D : Hid (Only F w w3.drew) := Lib.hid (by
                have o2 : Only F w w2 := Only.of_new BW.out F
                have o2d : Only F w w2.drew := ⟨o2.os, o2.tape, o2.output, o2.size, o2.block⟩
                have o3 : Only F w w3 := o2d.grown hg3 (fun k e _ => by injection e with e; subst e; exact H3.out)
                exact ⟨o3.os, o3.tape, o3.output, o3.size, o3.block⟩)
              have R4D : Hid (w3.drew.ownsRow 0 78 5 (.slice (some ⟨bb, off, none⟩) (j + 1) cc) (j + 1) (cellsX l)) := R3
              have B4D : Hid (Blk w3.drew g 72 #[.slice (some ⟨bb, off, none⟩) (j + 1) cc, .map (some m)]) := B3
              have M3D : Hid (MapI Try.prog 3 3 w3.drew m (j + 1 + 1) (updL (placeR l) (.int .i64 a) ((j + 1 : Nat) : Int))) := M3
              have fg3 := b3.frozen 0
              have hg3' : g < w3.heap.size := b3.lt
              have hps3 : w.heap.size < w3.heap.size := pb3.lt
              have HNR := Lib.hid (Reads.fresh w3.drew 78 #[.int .i64 a, .int .i64 b, .int .i64 c, .int .i64 d, .int .i64 c] 1 5 rfl)
              clear b3 pb3 hM3 hg3 c1
              go_region_law ((refine step_append_any _ rfl (.tmp 88) (.tmp 93) _ (by rfl) 0 78 i0 _ 5 40 Try.underlying70 hi0 hz0 hz1 hz2 rfl (by omega) (.slice (some ⟨bb, off, none⟩) (j + 1) cc) (j + 1) (cellsX l) (by rfl) (R4D.out.alloc _) (w3.heap.size + 1) (some ⟨w3.heap.size, 0, none⟩) 1 1 (encX ((a, b, c, d), c)) (by rfl) HNR.out (one_encX ((a, b, c, d), c)) (by simp only [maxLen]; omega) (by omega) (Nat.zero_le _) ?_; intro v5 w5 hown5 hg5 hat5; obtain ⟨A5, c5, rfl, hr5⟩ := own_reads hown5; have b5 : Blk w5 g 72 #[.slice (some ⟨bb, off, none⟩) (j + 1) cc, .map (some m)] := (B4D.out.alloc _).grown hg5 (fun e => own_blk_ne R4D.out B4D.out (by decide) e.symm); have c5' := b5.cell 0; have f5' := b5.frozen 0))
              all_goals
                go_wp2_with fail
                go_ret
                have hM5 := (M3D.out.alloc (.cells #[.int .i64 a, .int .i64 b, .int .i64 c, .int .i64 d, .int .i64 c] 78)).kept hg5 (M3D.out.row_ne R4D.out)
                have o5 : Only F w w5 := (O3D.out.alloc _).grown hg5 (fun k e _ => H6.out k e)
                refine ⟨ret_int HE.out.symm, ?_, o5.setCell (p := ⟨g, 0, none⟩) (fun _ => H1.out) _⟩
                have o6 : Only F w (w5.setCell ⟨g, 0, none⟩ (.slice A5 (j + 1 + 1) c5)) := o5.setCell (p := ⟨g, 0, none⟩) (fun _ => H1.out) _
                refine ⟨.inl H1.out, fun k hk => hk.elim (fun e => Nat.lt_of_lt_of_le (HT.out.2.1 k e) o6.size) fun e => e.2, A5, j + 1 + 1, c5, m, b5.set_ 0 _, .inl H3.out, ?_, ?_, ?_⟩
                · rw [HM.out]
                  have := ownsRow_setCell_other hown5 (a := ⟨g, 0, none⟩) (own_blk_ne hown5 b5 (by decide)) (.slice A5 (j + 1 + 1) c5)
                  rwa [show cellsX (l ++ [((a, b, c, d), c)]) = cellsX l ++ encX ((a, b, c, d), c) from by simp [cellsX]]
                · rw [HM.out]
                  have hp := placeR_snoc (l := l) (x := ((a, b, c, d), c)) HI.out
                  rw [HL.out] at hp
                  rw [← hp]
                  exact hM5.setCell (hM5.blk_ne b5) _
                · intro k hk
                  rcases hat5 with e | e
                  · rw [e] at hk; exact .inl (H6.out k hk)
                  · rw [e] at hk
                    injection hk with hk
                    have h8 := (hown5.lt k (by rw [e, hk])).2
                    simp at hk
                    have h9 := O3D.out.size
                    have h10 : w3.drew.heap.size = w3.heap.size := rfl
                    exact .inr ⟨by omega, by simp [World.setCell]; omega⟩
        · have HE := Lib.hid (addE_twice (x := (a, b, c, d)) HL5.out HOK.out HK.out hi)
          have HM : Hid (addL l (a, b, c, d) = l) := Lib.hid (addL_no (by rw [HE.out]; decide))
          have hrun' : ∀ q, (Instr.lookup 69 (.map (some m)) (.int .i64 a) true).run Try.prog ((w.alloc (.cells #[.int .i64 a, .int .i64 b, .int .i64 c, .int .i64 d] 47)).drewN q) = .ok (.tuple #[.int .i64 (i : Int), .bool true]) ((w.alloc (.cells #[.int .i64 a, .int .i64 b, .int .i64 c, .int .i64 d] 47)).drewN q) := fun q => by have := hrun q; rw [hi] at this; exact this
          clear hrun hi hPB hbA
          go_enter Try.func28, Try.ntmps28
          go_wp2_with fail
          refine (C1 _).mono ?_
          rintro e w1 ⟨rfl, rfl⟩
          go_wp2_with fail
          refine (C2 _).mono ?_
          rintro e w1 ⟨rfl, rfl⟩
          go_wp2_with fail
          refine (C3 _).mono ?_
          rintro e w1 ⟨rfl, rfl⟩
          go_wp2_with fail
          refine (C4 _).mono ?_
          rintro e w1 ⟨rfl, rfl⟩
          go_wp2_with fail
          go_quiet (fail)
          go_wp2_with fail
          go_ret
          exact storePost_no HE.out.symm HM.out HT.out (below_drewN HAL.out _)
end Go.Proofs.Ythbmofijdhfeeaa
