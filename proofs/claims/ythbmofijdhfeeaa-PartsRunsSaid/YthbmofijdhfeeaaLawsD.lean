/- The walks of PartsNews and PartsRuns. -/
import Derived.Test.YthbmofijdhfeeaaRefE
import Derived.Test.YthbmofijdhfeeaaOpen
namespace Go.Proofs.Ythbmofijdhfeeaa
open Go.RowKit Go.Maps Go.WideMaps
theorem newR_fine : ∀ (l : List L4) (s : List Lt), fine s → fine (newR s l).2
  | [], _, h => h
  | x :: l, s, h => by
    unfold newR
    split
    · exact newR_fine l _ (fine_add h)
    · exact h
set_option maxHeartbeats 8000000 in
set_option maxRecDepth 20000 in
theorem partsNews_walk (A : Option Addr) (n c : Nat) (l : List L4) (kd lot : Int) (w : World) (hr : Reads w w.heap.size 4 A n (cellsL l)) (_hnc : n ≤ c) (_hc : c ≤ maxLen) (hw : (Lit.int .i64 lot).wf = true) :
    Calls Try.prog 3 #[.slice A n c, .int .i64 kd, .int .i64 lot] w (AwakePost w) := by
  by_cases hn : 100 < n
  · have hni : (100 : Int) < n := by omega
    clear hr
    go_enter Try.func3, Try.ntmps3
    go_wp2_with fail
    refine (awake_any _).mono ?_
    rintro e w1 ⟨rfl, hb1⟩
    go_wp2_with fail
    go_ret
    exact ⟨rfl, hb1⟩
  · obtain ⟨x, hx⟩ : ∃ x, (newR [] l).1 = x := ⟨_, rfl⟩
    obtain ⟨s, hs⟩ : ∃ s, (newR [] l).2 = s := ⟨_, rfl⟩
    have HN : Hid (newR [] l = (x, s)) := Lib.hid (by rw [← hx, ← hs])
    have HFI : Hid (fine s) := Lib.hid (by rw [← hs]; exact newR_fine l [] fine_nil)
    have HR := Lib.hid hr
    have hni : ¬ (100 : Int) < n := by omega
    have hn2 : n ≤ 100000 := by omega
    clear hr hx hs hn
    go_enter Try.func3, Try.ntmps3
    go_wp2_with fail
    refine (new_any A n c l x s _ HR.out hn2 HN.out).mono ?_
    rintro e w1 ⟨hb1, ⟨hx0, F, g, rfl, hst, hF⟩ | ⟨hx0, rfl⟩⟩
    · subst hx0
      have HB1 := Lib.hid hb1; have HST := Lib.hid hst; have HF := Lib.hid hF
      clear hb1 hst hF
      go_wp2_with fail
      refine (rnew_any A n c l 0 s _ ((HR.out.below HB1.out).more HB1.out.size) hn2 HN.out).mono ?_
      rintro e w2 ⟨A2, n2, c2, A2', c2', rfl, hrs, hb2⟩
      have HRS := Lib.hid (hrs rfl)
      have HS2 := Lib.hid (HST.out.below hb2)
      have HB2 := Lib.hid (below_next HB1.out (Nat.le_refl _) hb2)
      clear hrs hb2
      obtain ⟨u3, hu3⟩ : ∃ u, w2.alloc (.cells #[.slice A2 n2 c2, .slice A2' n2 c2'] 30) = u := ⟨_, rfl⟩
      have HG3 : Hid (Blk u3 w2.heap.size 30 #[.slice A2 n2 c2, .slice A2' n2 c2']) := Lib.hid (by rw [← hu3]; exact Blk.new _ _ _)
      have hal : Below w2.heap.size w2 u3 := by rw [← hu3]; exact below_alloc (Below.refl _ _) (Nat.le_refl _) _
      have HRS3 := Lib.hid (HRS.out.below hal)
      have HS3 := Lib.hid (HS2.out.below hal)
      have HB3 := Lib.hid (below_next HB2.out (Nat.le_refl _) hal)
      clear hal
      obtain ⟨nl, hnl⟩ : ∃ x, leftN s lot = x := ⟨_, rfl⟩
      obtain ⟨el, hel⟩ : ∃ x, leftE s lot = x := ⟨_, rfl⟩
      obtain ⟨nc, hncn⟩ : ∃ x, countN s kd = x := ⟨_, rfl⟩
      have HNL := Lib.hid hnl; have HEL := Lib.hid hel; have HNC := Lib.hid hncn
      clear hnl hel hncn
      go_wp2_with fail
      refine (left_any F g s lot nl el _ HS3.out hw HNL.out HEL.out).mono ?_
      rintro e w3 ⟨rfl, rfl⟩
      have p0 := (HG3.out.cell 0).trans rfl; have p1 := (HG3.out.cell 1).trans rfl
      go_wp2_with fail
      refine (rleft_any A2 A2' n2 c2 c2' s lot nl el _ HRS3.out (by have := HFI.out.1; have := HRS.out.2.2; omega) HNL.out HEL.out).mono ?_
      rintro e w4 ⟨rfl, hb4⟩
      have HG4 := Lib.hid (HG3.out.below hb4 HG3.out.lt)
      have HRS4 := Lib.hid (HRS3.out.below hb4)
      have HS4 := Lib.hid (HS3.out.below hb4)
      have HB4 := Lib.hid (below_next HB3.out (Nat.le_refl _) hb4)
      clear hb4 p0 p1 hu3
      go_wp2_with fail
      have G0 : ∀ z : DFam (DB w4), z.val.cell? ⟨w2.heap.size, 0, none⟩ = some (.slice A2 n2 c2) := fun z => DB.some_ z ((HG4.out.cell 0).trans rfl)
      have G1 : ∀ z : DFam (DB w4), z.val.cell? ⟨w2.heap.size, 1, none⟩ = some (.slice A2' n2 c2') := fun z => DB.some_ z ((HG4.out.cell 1).trans rfl)
      refine wp_region_pb 6 ([0, 1, 3, 4], [(2, ([], [(5, ([6, 7, 8, 10], [(9, ([], [(11, ([], [(12, ([13, 14, 15, 16, 17, 18, 19, 20, 21, 22, 23, 24], [(25, [26, 27])]))]))]))]))]))]) [] (by kernel_rfl) (by kernel_rfl) ?_
      simp only [wpT, List.map_cons, List.map_nil, List.getD_cons_succ, List.getD_cons_zero, List.forall_mem_cons, List.not_mem_nil, false_implies, implies_true, and_true]
      repeat (go_big_quiet_step (fail))
      refine wpQuiet_nil ?_
      go_wp2_with fail
      refine (count_any F g s kd nc _ (HS4.out.below (Below.refl _ _).drew) HFI.out HNC.out).mono ?_
      rintro e u1 ⟨rfl, hb1⟩
      have HU1 : Hid (Below w4.heap.size w4 u1) := Lib.hid (below_next (Below.refl _ _).drew (Nat.le_refl _) hb1)
      clear hb1
      go_wp2_with fail
      refine QN_normal ⟨HU1.out, wpQuiet_nil ?_⟩
      go_wp2_with fail
      refine (rcount_any A2 A2' n2 c2 c2' s kd nc _ (HRS4.out.below HU1.out) HFI.out HNC.out).mono ?_
      rintro e u2 ⟨rfl, hb2⟩
      have HU2 : Hid (Below w4.heap.size w4 u2) := Lib.hid (below_next HU1.out (Nat.le_refl _) hb2)
      clear hb2
      go_wp2_with fail
      refine QN_normal ⟨HU2.out, ?_⟩
      repeat (go_big_quiet_step (fail))
      refine wpQuiet_nil ?_
      go_wp2_with fail
      refine (lots_any F g s _ (HS4.out.below HU2.out) HFI.out.1).mono ?_
      rintro e u3 ⟨Al, nl2, cl, rfl, hol, hb3⟩
      have HU3 : Hid (Below w4.heap.size w4 u3) := Lib.hid (below_next HU2.out (Nat.le_refl _) hb3)
      have HOL := Lib.hid (Reads.of_own hol)
      clear hb3 hol
      go_wp2_with fail
      refine QN_normal ⟨HU3.out, wpQuiet_nil ?_⟩
      go_wp2_with fail
      refine (rlots_any A2 A2' n2 c2 c2' s _ (HRS4.out.below HU3.out) (by have := HFI.out.1; have := HRS.out.2.2; omega)).mono ?_
      rintro e u4 ⟨Am, nm, cm, rfl, hom, hb4⟩
      have HU4 : Hid (Below w4.heap.size w4 u4) := Lib.hid (below_next HU3.out (Nat.le_refl _) hb4)
      have HOM := Lib.hid (Reads.of_own hom)
      have HOL4 := Lib.hid (HOL.out.below hb4)
      clear hb4 hom
      go_wp2_with fail
      refine QN_normal ⟨HU4.out, wpQuiet_nil ?_⟩
      go_wp2_with fail
      refine (sameL_any Al Am nl2 cl nm cm (lotsL s) (lotsL s) true _ _ _ HOL4.out HOM.out (by have h3 : (lotsL s).length = s.length := (by simp [lotsL]); have := recs_len HOL.out encL_len (by omega); have := HFI.out.1; omega) (sameL_refl _)).mono ?_
      rintro e _ ⟨rfl, q5, rfl⟩
      have HU5 : Hid (Below w4.heap.size w4 (u4.drewN q5)) := Lib.hid (below_drewN HU4.out _)
      go_wp2_with fail
      refine QN_normal ⟨HU5.out, ?_⟩
      repeat (go_big_quiet_step (fail))
      refine wpQuiet_nil ?_
      go_wp2_with fail
      refine (awake_any _).mono ?_
      rintro e u6 ⟨rfl, hb6⟩
      have HU6 : Hid (Below w4.heap.size w4 u6) := Lib.hid (below_next HU5.out (Nat.le_refl _) hb6)
      clear hb6
      go_wp2_with fail
      refine QN_normal ⟨HU6.out, ?_⟩
      repeat (go_big_quiet_step (fail))
      refine wpQuiet_nil ?_
      clear G0 G1
      go_wp2_with fail
      go_ret
      exact ⟨rfl, below_next HB4.out (Nat.le_refl _) HU6.out⟩
    · have HB1 := Lib.hid hb1
      have h1 := ne0_t hx0
      clear hb1 hx0
      go_wp2_with fail
      refine (rnew_any A n c l x s _ ((HR.out.below HB1.out).more HB1.out.size) hn2 HN.out).mono ?_
      rintro e w2 ⟨A2, n2, c2, A2', c2', rfl, _, hb2⟩
      have HB2 := Lib.hid (below_next HB1.out (Nat.le_refl _) hb2)
      clear hb2
      go_wp2_with fail
      refine (left_nil lot _).mono ?_
      rintro e w3 ⟨rfl, rfl⟩
      go_wp2_with fail
      refine (count_nil kd _).mono ?_
      rintro e w3 ⟨rfl, rfl⟩
      go_wp2_with fail
      refine (lots_nil _).mono ?_
      rintro e w3 ⟨rfl, rfl⟩
      go_wp2_with fail
      refine (awake_any _).mono ?_
      rintro e w4 ⟨rfl, hb4⟩
      have HB4 := Lib.hid (below_next (HB2.out.alloc HB2.out.size _) (Nat.le_refl _) hb4)
      clear hb4
      go_wp2_with fail
      go_ret
      exact ⟨rfl, HB4.out⟩
end Go.Proofs.Ythbmofijdhfeeaa
