/- The walks of charge.New and of charge.Desk's Ask. -/
import Derived.Test.YtakjdffebpcmnaaAnswer
import Derived.StillTailTactics
import Derived.Deep.RegionLaw
namespace Go.Proofs.Ytakjdffebpcmnaa
open Go.RowKit Go.Maps Go.WideMaps

set_option maxHeartbeats 400000 in
theorem new_any (w : World) : Calls Try.prog 10 #[] w fun e w' => ∃ F g, e = .returned (.pointer (some ⟨g, 0, none⟩)) ∧ DeskF w' F g [] ∧ (∀ k, F k → w.heap.size ≤ k) ∧ Below w.heap.size w w' := by
  have hmm := @run_makeMap Try.prog
  go_enter Try.func10, Try.ntmps10
  go_wp2_with fail
  go_ret
  refine ⟨fun k => w.heap.size ≤ k ∧ k < w.heap.size + 2, w.heap.size + 1, rfl, ⟨⟨by omega, by omega⟩, fun k hk => by simp; omega, none, 0, 0, w.heap.size, ?_, ⟨Nat.le_refl _, by omega⟩, World.ownsRow_nil _ _ _ _, ?_, fun k hk => by simp [Value.ownBlock] at hk⟩, fun k hk => hk.1, ((Below.refl _ _).alloc (Nat.le_refl _) _).alloc (by simp) _⟩
  · have := Blk.new (w.alloc (.map #[] 0)) 64 #[.slice none 0 0, .map (some w.heap.size)]
    simpa using this
  · have : placeR [] = fun _ => none := by funext kl; unfold placeR; split <;> rfl
    rw [this]
    exact (MapI.made w Try.prog 3 3).alloc _

theorem ask_nil (a b c : Int) (w : World) : Calls Try.prog 11 #[.pointer none, .agg #[.int .i64 a, .int .i64 b, .int .i64 c]] w (RetI w 11) := by
  go_enter Try.func11, Try.ntmps11
  go_wp2_with fail
  go_ret
  exact ⟨rfl, (Below.refl _ _).alloc (Nat.le_refl _) _⟩

set_option maxHeartbeats 2000000 in
set_option maxRecDepth 10000 in
theorem ask_any (F : Nat → Prop) (g : Nat) (l : List En) (pa pb pc : Int) (w : World) (h : DeskF w F g l) (hn : l.length ≤ 100000) :
    Calls Try.prog 11 #[.pointer (some ⟨g, 0, none⟩), .agg #[.int .i64 pa, .int .i64 pb, .int .i64 pc]] w (DeskPost w F g (askE l (pa, pb, pc)) (askL l (pa, pb, pc))) := by
  obtain ⟨i0, hi0, hz0, hz1, hz2⟩ := info_parts Try.info68
  have HT := Lib.hid h
  have C := right31 pa pb pc
  have hal : Below w.heap.size w (w.alloc (.cells #[.int .i64 pa, .int .i64 pb, .int .i64 pc] 23)) := (Below.refl _ _).alloc (Nat.le_refl _) _
  have HAL := Lib.hid hal
  have HPB := Lib.hid (Blk.new w 23 #[.int .i64 pa, .int .i64 pb, .int .i64 pc])
  clear hal h
  rcases hR : rightB (pa, pb, pc) with _ | _
  · have HE := Lib.hid (askE_range (l := l) hR)
    have HEL := Lib.hid (askL_range (l := l) hR)
    rw [hR] at C
    clear hR
    go_enter Try.func11, Try.ntmps11
    go_wp2_with fail
    refine (C _).mono ?_
    rintro e w1 ⟨rfl, hb1⟩
    go_wp2_with fail
    go_ret
    exact deskPost_no HE.out.symm HEL.out HT.out (HAL.out.trans (hb1.mono (by simp)))
  · have HR := Lib.hid hR
    have hrange : 1 ≤ pa ∧ pa ≤ 1000000 := by have := of_decide_eq_true hR; exact ⟨this.1, this.2.1⟩
    obtain ⟨hra, hrb⟩ := hrange
    rw [hR] at C
    clear hR
    go_enter Try.func11, Try.ntmps11
    go_wp2_with fail
    refine (C _).mono ?_
    rintro e w1 ⟨rfl, hb1'⟩
    have hb1 : Below (w.heap.size + 1) (w.alloc (.cells #[.int .i64 pa, .int .i64 pb, .int .i64 pc] 23)) w1 := hb1'.mono (by simp)
    clear hb1'
    have hbw1 : Below w.heap.size w w1 := HAL.out.trans (hb1.mono (by omega))
    have hs1 : w.heap.size + 1 ≤ w1.heap.size := by have := hb1.size; simp at this; omega
    have hPB := HPB.out.below hb1 (Nat.lt_succ_self _)
    have p0 := hPB.cell 0
    have p1 := hPB.cell 1
    have p2 := hPB.cell 2
    have hT1 := HT.out.below hbw1
    have HT1 := Lib.hid hT1
    have HBW := Lib.hid hbw1
    have hFlt := HT.out.2.1
    clear HPB HAL C hb1 hbw1
    obtain ⟨h1, h0, A, n, c, m, h2, h3, h4, h5, h6⟩ := hT1
    have HL := Lib.hid (recs_len (Reads.of_own h4) encE_len (by omega))
    have hgs : g < w1.heap.size := h0 g h1
    have hps : w.heap.size < w1.heap.size := by omega
    have c0 := h2.cell 0
    have c1 := h2.cell 1
    have hwf : (Lit.int .i64 pa).wf = true := WalkArith.wf_i64 (by omega)
    have hrun : ∀ q, (Instr.lookup 61 (.map (some m)) (.int .i64 pa) true).run Try.prog (w1.drewN q) = .ok (.tuple #[.int .i64 ((placeR l (.int .i64 pa)).getD 0), .bool (placeR l (.int .i64 pa)).isSome]) (w1.drewN q) := fun q => (h5.drewN q).look intLaw Try.underlying61 Try.underlying3 (zero3 _) (keyOf_int_mk Try.underlying3 hwf)
    rw [placeR_int] at hrun
    have hn' : n ≤ 100000 := by have := HL.out; omega
    clear hn
    rcases hi : idx l pa with _ | i
    · rw [hi] at hrun
      have hrun' : ∀ q, (Instr.lookup 61 (.map (some m)) (.int .i64 pa) true).run Try.prog (w1.drewN q) = .ok (.tuple #[.int .i64 0, .bool false]) (w1.drewN q) := fun q => hrun q
      clear hrun
      have HI := Lib.hid hi
      clear hi
      by_cases hf : 256 ≤ n
      · have HE := Lib.hid (askE_full (p := (pa, pb, pc)) HR.out HI.out (by rw [HL.out]; exact hf))
        have HEL := Lib.hid (askL_full (p := (pa, pb, pc)) (l := l) (by rw [HL.out]; exact hf))
        clear h2 h4 h5 h6 h0 hFlt hPB
        go_wp2_with fail
        go_quiet (fail)
        go_wp2_with fail
        go_ret
        exact deskPost_no HE.out.symm HEL.out HT.out (below_drewN HBW.out _)
      · have HE := Lib.hid (askE_new (p := (pa, pb, pc)) HR.out HI.out (by rw [HL.out]; omega))
        have HEL := Lib.hid (askL_new (p := (pa, pb, pc)) HR.out HI.out (by rw [HL.out]; omega))
        have H2 := Lib.hid h2
        have H4 := Lib.hid h4
        have H5 := Lib.hid h5
        have H6 := Lib.hid h6
        have HPB := Lib.hid hPB
        have HFL := Lib.hid hFlt
        clear h2 h4 h5 h6 h0 hPB hFlt
        go_wp2_with fail
        go_quiet (fail)
        go_wp2_with fail
        obtain ⟨w2, HW2⟩ : ∃ w2 : World, Hid (w2 = w1.drewN nq) := ⟨_, rfl⟩
        rw [← HW2.out]
        have hs2 : w1.heap.size ≤ w2.heap.size := by rw [HW2.out]; exact Nat.le_refl _
        have b2 : Blk w2 g 64 #[.slice A n c, .map (some m)] := by rw [HW2.out]; exact H2.out
        have pb2 : Blk w2 w.heap.size 23 #[.int .i64 pa, .int .i64 pb, .int .i64 pc] := by rw [HW2.out]; exact HPB.out
        have m2 : MapI Try.prog 3 3 w2 m n (placeR l) := by rw [HW2.out]; exact H5.out
        have r2 : w2.ownsRow 0 68 5 (.slice A n c) n (cellsE l) := by rw [HW2.out]; exact H4.out
        have bw2 : Below w.heap.size w w2 := by rw [HW2.out]; exact below_drewN HBW.out nq
        clear H2 HPB H5 H4 HBW c0 c1 p0 p1 p2 hrun' HT1 HW2
        have c0 := b2.cell 0
        have c1 := b2.cell 1
        have p0 := pb2.cell 0
        have p1 := pb2.cell 1
        have p2 := pb2.cell 2
        have MG := Lib.hid (m2.blk_ne b2)
        have MP := Lib.hid (m2.blk_ne pb2)
        have MR := Lib.hid (m2.row_ne r2)
        have B2 := Lib.hid b2
        have PB2 := Lib.hid pb2
        have R2 := Lib.hid r2
        have BW := Lib.hid bw2
        have M2 := Lib.hid m2
        clear b2 pb2 r2 bw2 m2
        refine wp_region_still_tail 11 (by kernel_rfl) (by kernel_rfl) ?_
        simp only [List.take_succ_cons, List.take_zero, List.drop_succ_cons, List.drop_zero]
        change wpStill _ _ (World.drew w2) _ _ _
        repeat still_step
        refine wpStill_nil ?_
        change wpList _ _ _ _ _ (World.drew w2)
        refine wpList_putI _ rfl _ _ _ 61 rfl 3 3 intLaw Try.underlying61 Try.underlying3 m n (placeR l) rfl M2.out (by unfold maxLen; omega) (.int .i64 pa) (.int .i64 pa) (n : Int) rfl rfl (keyOf_int_mk Try.underlying3 hwf) trivial (WalkArith.wf_i64 (by omega)) ?_
        intro w3 hM3 hg3
        have hs3 : w2.heap.size ≤ w3.heap.size := hg3.size
        have b3 : Blk w3 g 64 #[.slice A n c, .map (some m)] := (Blk.drew B2.out).grown hg3 (by intro e; injection e with e; exact MG.out e.symm)
        have pb3 : Blk w3 w.heap.size 23 #[.int .i64 pa, .int .i64 pb, .int .i64 pc] := (Blk.drew PB2.out).grown hg3 (by intro e; injection e with e; exact MP.out e.symm)
        have R3 := Lib.hid (World.ownsRow.kept (w := w2.drew) R2.out hg3 (.inr fun e => MR.out e.symm))
        have c0 := b3.cell 0
        have c1 := b3.cell 1
        have p0 := pb3.cell 0
        have p1 := pb3.cell 1
        have p2 := pb3.cell 2
        go_wp2_with fail
        have B3 := Lib.hid b3
        have PB3 := Lib.hid pb3
        have M3 := Lib.hid hM3
        clear b3 pb3 hM3
        obtain ⟨w4, HW4⟩ : ∃ w4 : World, Hid (w4 = w3.drew) := ⟨_, rfl⟩
        have b4 : Blk w4 g 64 #[.slice A n c, .map (some m)] := by rw [HW4.out]; exact B3.out
        have m4 : MapI Try.prog 3 3 w4 m (n + 1) (updL (placeR l) (.int .i64 pa) (n : Int)) := by rw [HW4.out]; exact M3.out
        have r4 : w4.ownsRow 0 68 5 (.slice A n c) n (cellsE l) := by rw [HW4.out]; exact R3.out
        have hs4 : w3.heap.size ≤ w4.heap.size := by rw [HW4.out]; exact Nat.le_refl _
        have B4 := Lib.hid b4
        have M4 := Lib.hid m4
        have R4 := Lib.hid r4
        have O4 : Hid (Only F w w4) := Lib.hid (by
          rw [HW4.out]
          have o2 : Only F w w2 := Only.of_new BW.out F
          have o2d : Only F w w2.drew := ⟨o2.os, o2.tape, o2.output, o2.size, o2.block⟩
          have o3 : Only F w w3 := o2d.grown hg3 (fun k e _ => by injection e with e; subst e; exact h3)
          exact ⟨o3.os, o3.tape, o3.output, o3.size, o3.block⟩)
        clear b4 m4 r4 c1 hg3 B3 PB3 M3 R3 B2 PB2 R2 M2
        have fg3 : w3.frozen? ⟨g, 0, none⟩ = false := by have := B4.out.frozen 0; rw [HW4.out] at this; exact this
        have hsz : w3.heap.size ≤ w4.heap.size := hs4
        have hg3 : g < w3.heap.size := by omega
        have hps3 : w.heap.size < w3.heap.size := by omega
        have R4d : w3.drew.ownsRow 0 68 5 (.slice A n c) n (cellsE l) := by have := R4.out; rw [HW4.out] at this; exact this
        have R4D := Lib.hid R4d
        have B4d : Blk w3.drew g 64 #[.slice A n c, .map (some m)] := by have := B4.out; rw [HW4.out] at this; exact this
        have B4D := Lib.hid B4d
        clear R4d B4d
        have M3D : Hid (MapI Try.prog 3 3 w3.drew m (n + 1) (updL (placeR l) (.int .i64 pa) (n : Int))) := Lib.hid (by have := M4.out; rw [HW4.out] at this; exact this)
        have O3D : Hid (Only F w w3.drew) := Lib.hid (by have := O4.out; rw [HW4.out] at this; exact this)
        have hnr : Reads (w3.drew.alloc (.cells #[.int .i64 pa, .int .i64 pb, .int .i64 pc, .int .i64 0, .int .i64 0] 68)) (w3.heap.size + 1) 5 (some ⟨w3.heap.size, 0, none⟩) 1 (encE ((pa, pb, pc), 0, 0)) := Reads.fresh w3.drew 68 #[.int .i64 pa, .int .i64 pb, .int .i64 pc, .int .i64 0, .int .i64 0] 1 5 rfl
        have HNR := Lib.hid hnr
        clear hnr
        go_region_law ((refine step_append_any _ rfl (.tmp 54) (.tmp 57) _ (by rfl) 0 68 i0 _ 5 40 Try.underlying62 hi0 hz0 hz1 hz2 rfl (by omega) (.slice A n c) n (cellsE l) (by rfl) (R4D.out.alloc _) (w3.heap.size + 1) (some ⟨w3.heap.size, 0, none⟩) 1 1 (encE ((pa, pb, pc), 0, 0)) (by rfl) HNR.out (one_encE ((pa, pb, pc), 0, 0)) (by simp only [maxLen]; omega) (by omega) (Nat.zero_le _) ?_; intro v5 w5 hown5 hg5 hat5; obtain ⟨A5, c5, rfl, hr5⟩ := own_reads hown5; have b5 : Blk w5 g 64 #[.slice A n c, .map (some m)] := (B4D.out.alloc _).grown hg5 (fun e => own_blk_ne R4D.out B4D.out (by decide) e.symm); have c5' := b5.cell 0; have f5' := b5.frozen 0))
        all_goals
          go_wp2_with fail
          go_ret
          have hM5 := (M3D.out.alloc (.cells #[.int .i64 pa, .int .i64 pb, .int .i64 pc, .int .i64 0, .int .i64 0] 68)).kept hg5 (M3D.out.row_ne R4D.out)
          have o5 : Only F w w5 := (O3D.out.alloc _).grown hg5 (fun k e _ => H6.out k e)
          refine ⟨ret_int HE.out.symm, ?_, o5.setCell (p := ⟨g, 0, none⟩) (fun _ => h1) _⟩
          have o6 : Only F w (w5.setCell ⟨g, 0, none⟩ (.slice A5 (n + 1) c5)) := o5.setCell (p := ⟨g, 0, none⟩) (fun _ => h1) _
          refine ⟨.inl h1, fun k hk => hk.elim (fun e => Nat.lt_of_lt_of_le (HFL.out k e) o6.size) fun e => e.2, A5, n + 1, c5, m, b5.set_ 0 _, .inl h3, ?_, ?_, ?_⟩
          · rw [HEL.out]
            have := ownsRow_setCell_other hown5 (a := ⟨g, 0, none⟩) (own_blk_ne hown5 b5 (by decide)) (.slice A5 (n + 1) c5)
            rwa [show cellsE (l ++ [((pa, pb, pc), 0, 0)]) = cellsE l ++ encE ((pa, pb, pc), 0, 0) from by simp [cellsE]]
          · rw [HEL.out]
            have hp := placeR_snoc (l := l) (x := ((pa, pb, pc), 0, 0)) HI.out
            rw [HL.out] at hp
            rw [← hp]
            exact hM5.setCell (hM5.blk_ne b5) _
          · intro k hk
            rcases hat5 with e | e
            · rw [e] at hk; exact .inl (H6.out k hk)
            · rw [e] at hk
              injection hk with hk
              have h8 := (hown5.lt k (by rw [e, hk])).2
              simp at hk
              have h9 := O3D.out.size
              exact .inr ⟨by omega, by simp [World.setCell]; omega⟩
    · have hil := idx_lt hi
      have hin : i < n := by have := HL.out; omega
      have hrun' : ∀ q, (Instr.lookup 61 (.map (some m)) (.int .i64 pa) true).run Try.prog (w1.drewN q) = .ok (.tuple #[.int .i64 (i : Int), .bool true]) (w1.drewN q) := fun q => by have := hrun q; rw [hi] at this; exact this
      clear hrun
      obtain ⟨b, off, rfl, hbl, hd⟩ := (Reads.of_own h4).recs encE_len (by omega) (by omega)
      have d0 : w1.cell? ⟨b, off + i * 5, none⟩ = some (.int .i64 l[i].1.1) := hd i hil 0 _ rfl
      have d1 : w1.cell? ⟨b, off + i * 5 + 1, none⟩ = some (.int .i64 l[i].1.2.1) := hd i hil 1 _ rfl
      have d2 : w1.cell? ⟨b, off + i * 5 + 2, none⟩ = some (.int .i64 l[i].1.2.2) := hd i hil 2 _ rfl
      have hi0 : (0 : Int) ≤ i := by omega
      have hi1 : (i : Int) < n := by omega
      have hq := fun w => eq23 l[i].1.1 l[i].1.2.1 l[i].1.2.2 pa pb pc w
      have HEL := Lib.hid (askL_had (p := (pa, pb, pc)) hi)
      by_cases he : l[i].1 = (pa, pb, pc)
      · have HE : Hid (askE l (pa, pb, pc) = 0) := Lib.hid (askE_same HR.out hi he)
        have e1 : decide ((l[i].1.1, l[i].1.2.1, l[i].1.2.2) = (pa, pb, pc)) = true := decide_eq_true he
        simp only [e1] at hq
        clear h2 h4 h5 h6 h0 hFlt hPB hd he e1 hi
        go_wp2_with fail
        go_quiet (fail)
        go_wp2_with fail
        go_quiet (fail)
        go_wp2_with fail
        go_ret
        exact deskPost_no HE.out.symm HEL.out HT.out (below_drewN (below_drewN HBW.out _) _)
      · have HE : Hid (askE l (pa, pb, pc) = 21) := Lib.hid (askE_other HR.out hi he)
        have e1 : decide ((l[i].1.1, l[i].1.2.1, l[i].1.2.2) = (pa, pb, pc)) = false := decide_eq_false he
        simp only [e1] at hq
        clear h2 h4 h5 h6 h0 hFlt hPB hd he e1 hi
        go_wp2_with fail
        go_quiet (fail)
        go_wp2_with fail
        go_quiet (fail)
        go_wp2_with fail
        go_ret
        exact deskPost_no HE.out.symm HEL.out HT.out (below_drewN (below_drewN HBW.out _) _)
end Go.Proofs.Ytakjdffebpcmnaa
