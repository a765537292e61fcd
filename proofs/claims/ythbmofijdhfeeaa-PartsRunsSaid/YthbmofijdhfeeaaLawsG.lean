/- The walk of PartsRuns. -/
import Derived.Test.YthbmofijdhfeeaaLawsD
namespace Go.Proofs.Ythbmofijdhfeeaa
open Go.RowKit Go.Maps Go.WideMaps
theorem Reads.only {w w' : World} {F : Nat → Prop} {size n : Nat} {A : Option Addr} {xs : List Value} (h : Reads w w.heap.size size A n xs) (ho : Only F w w') (hA : ∀ q, A = some q → ¬ F q.block) : Reads w' w'.heap.size size A n xs :=
  ⟨h.1, fun hn => by
    obtain ⟨ad, e, hb, hc⟩ := h.2 hn
    exact ⟨ad, e, Nat.lt_of_lt_of_le hb ho.size, fun j u hu => (World.cell?_of_block (by rw [block_of_add]; exact ho.block _ hb (hA ad e))).trans (hc j u hu)⟩⟩
theorem RefS.only {w w' : World} {F : Nat → Prop} {A A' : Option Addr} {n : Nat} {l : List Lt} (h : RefS w A n A' l) (ho : Only F w w') (hA : ∀ q, A = some q → ¬ F q.block) (hA' : ∀ q, A' = some q → ¬ F q.block) : RefS w' A n A' l :=
  ⟨h.1.only ho hA, h.2.1.only ho hA', h.2.2⟩
/-- Where the reference's rows lie: not in the store's blocks. -/
def Off (F : Nat → Prop) (A A' : Option Addr) (n : Nat) : Prop := (∀ q, A = some q → ¬ F q.block) ∧ (∀ q, A' = some q → ¬ F q.block) ∧ (0 < n ∨ (A = none ∧ A' = none))
theorem Off.next {F : Nat → Prop} {A A' A2 A2' : Option Addr} {n n2 B : Nat} (h : Off F A A' n) (hF : ∀ k, F k → k < B) (h1 : From B A A2) (h2 : From B A' A2') (hz : 0 < n2 ∨ (A2 = A ∧ A2' = A')) (hn : n2 = 0 → n = 0) : Off F A2 A2' n2 := by
  refine ⟨fun q e hf => ?_, fun q e hf => ?_, ?_⟩
  · rcases h1 q e with e' | e'
    · exact h.1 q e' hf
    · have := hF _ hf; omega
  · rcases h2 q e with e' | e'
    · exact h.2.1 q e' hf
    · have := hF _ hf; omega
  · rcases Nat.eq_zero_or_pos n2 with h0 | h0
    · right
      rcases hz with hz | ⟨e1, e2⟩
      · omega
      · rcases h.2.2 with h3 | ⟨e3, e4⟩
        · have := hn h0; omega
        · exact ⟨e1.trans e3, e2.trans e4⟩
    · exact .inl h0
theorem doL_len {l : List Lt} {k : Int} {x : L4} : l.length ≤ (doL l k x).length := by
  unfold doL
  split
  · unfold addL; split <;> simp
  · split
    · unfold tookX; split
      · rw [takeX_len]; exact Nat.le_refl _
      · exact Nat.le_refl _
    · unfold backL
      split
      · exact Nat.le_refl _
      · split
        · simp
        · exact Nat.le_refl _
theorem doO_len {l : List Lt} {k : Int} {x : L4} : (doO l k x).length ≤ l.length := by
  unfold doO
  split
  · unfold tookO; split
    · exact takeO_len _ _ _
    · simp
  · simp
set_option maxHeartbeats 16000000 in
set_option maxRecDepth 20000 in
theorem partsRuns_walk (A : Option Addr) (n c : Nat) (ops : List Op5) (kd lot : Int) (w : World) (hr : Reads w w.heap.size 5 A n (cellsO ops)) (_hnc : n ≤ c) (_hc : c ≤ maxLen) (hwl : ∀ o ∈ ops, (Lit.int .i64 o.2.1).wf = true) (hw : (Lit.int .i64 lot).wf = true) :
    Calls Try.prog 4 #[.slice A n c, .int .i64 kd, .int .i64 lot] w (AwakePost w) := by
  have HL := Lib.hid (recs_len hr encO_len (by omega))
  by_cases hn : 100 < n
  · have hni : (100 : Int) < n := by omega
    clear hr
    go_enter Try.func4, Try.ntmps4
    go_wp2_with fail
    refine (awake_any _).mono ?_
    rintro e w1 ⟨rfl, hb1⟩
    go_wp2_with fail
    go_ret
    exact ⟨rfl, hb1⟩
  · have HR := Lib.hid hr
    have HWL := Lib.hid hwl
    have hni : ¬ (100 : Int) < n := by omega
    have hn1 : n ≤ 100 := by omega
    clear hr hn hwl
    go_enter Try.func4, Try.ntmps4
    go_wp2_with fail
    refine (new_any none 0 0 [] 0 [] _ Reads.none_ (by decide) rfl).mono ?_
    rintro e w1 ⟨hb1, ⟨_, F1, g, rfl, hs1, hF1⟩ | ⟨h, _⟩⟩
    case inr => exact absurd rfl h
    obtain ⟨v1, hv1⟩ : ∃ v, w1.alloc (.cells #[.slice none 0 0, .slice none 0 0] 30) = v := ⟨_, rfl⟩
    obtain ⟨T, hT⟩ : ∃ T, w1.heap.size = T := ⟨_, rfl⟩
    have hal : Below w1.heap.size w1 v1 := by rw [← hv1]; exact below_alloc (Below.refl _ _) (Nat.le_refl _) _
    have HG1 : Hid (Blk v1 T 30 #[.slice none 0 0, .slice none 0 0]) := Lib.hid (by rw [← hv1, ← hT]; exact Blk.new _ _ _)
    have HS1 := Lib.hid (hs1.below hal)
    have HB1 := Lib.hid (below_next hb1 (Nat.le_refl _) hal)
    have HTW : Hid (w.heap.size ≤ T) := Lib.hid (by rw [← hT]; exact hb1.size)
    have HF1 : Hid (¬ F1 T ∧ (∀ j, F1 j → w.heap.size ≤ j)) := Lib.hid ⟨fun e => by have := hs1.2.1 T e; omega, hF1⟩
    have HV1 := Lib.hid hv1; have HTT := Lib.hid hT
    clear hb1 hs1 hF1 hal hv1 hT
    go_wp2_with fail
    rw [HV1.out, HTT.out]
    clear HV1 HTT
    go_loopw [10] (fun s10 wr => ∃ (k n2 c2 c2' : Nat) (F : Nat → Prop) (A2 A2' : Option Addr), k ≤ n ∧ s10 = .int .i64 k ∧ Hid (StoreF wr F g (playL (ops.take k))) ∧ Hid (RefS wr A2 n2 A2' (playL (ops.take k))) ∧ Hid (Blk wr T 30 #[.slice A2 n2 c2, .slice A2' n2 c2']) ∧ Hid (¬ F T ∧ (∀ j, F j → w.heap.size ≤ j)) ∧ Hid (Off F A2 A2' n2) ∧ Hid (Below w.heap.size w wr)) (fun s _ => n - (intOf s).toNat)
    case atStart => exact ⟨0, 0, 0, 0, F1, none, none, Nat.zero_le _, rfl, HS1, Lib.hid (RefS.nil _), HG1, HF1, Lib.hid ⟨(fun q e => nomatch e), (fun q e => nomatch e), .inr ⟨rfl, rfl⟩⟩, HB1⟩
    case round =>
      obtain ⟨wo, rfl⟩ : ∃ wo : World, wo = wr := ⟨_, rfl⟩
      obtain ⟨k, n2, c2, c2', F, A2, A2', hk, rfl, HST, HRS, HG, HFT, HOF, HB⟩ := hrel
      have HGL := Lib.hid HG.out.lt
      by_cases hlt : k < n
      · have hkl : k < ops.length := by have := HL.out; omega
        obtain ⟨b, off, rfl, hb2, hcc⟩ := (HR.out.below HB.out).recs encO_len (by omega) (by omega)
        have d0 : wo.cell? ⟨b, off + k * 5, none⟩ = some (.int .u8 ops[k].1) := hcc k hkl 0 _ rfl
        have d1 : wo.cell? ⟨b, off + k * 5 + 1, none⟩ = some (.int .i64 ops[k].2.1) := hcc k hkl 1 _ rfl
        have d2 : wo.cell? ⟨b, off + k * 5 + 2, none⟩ = some (.int .i64 ops[k].2.2.1) := hcc k hkl 2 _ rfl
        have d3 : wo.cell? ⟨b, off + k * 5 + 3, none⟩ = some (.int .i64 ops[k].2.2.2.1) := hcc k hkl 3 _ rfl
        have d4 : wo.cell? ⟨b, off + k * 5 + 4, none⟩ = some (.int .i64 ops[k].2.2.2.2) := hcc k hkl 4 _ rfl
        have HD := Lib.hid (And.intro d0 (And.intro d1 (And.intro d2 (And.intro d3 d4))))
        have E0 : ∀ z : DFam (DB wo), z.val.cell? ⟨b, off + k * 5, none⟩ = some (.int .u8 ops[k].1) := fun z => DB.some_ z d0
        have E1 : ∀ z : DFam (DB wo), z.val.cell? ⟨b, off + k * 5 + 1, none⟩ = some (.int .i64 ops[k].2.1) := fun z => DB.some_ z d1
        have E2 : ∀ z : DFam (DB wo), z.val.cell? ⟨b, off + k * 5 + 2, none⟩ = some (.int .i64 ops[k].2.2.1) := fun z => DB.some_ z d2
        have E3 : ∀ z : DFam (DB wo), z.val.cell? ⟨b, off + k * 5 + 3, none⟩ = some (.int .i64 ops[k].2.2.2.1) := fun z => DB.some_ z d3
        have E4 : ∀ z : DFam (DB wo), z.val.cell? ⟨b, off + k * 5 + 4, none⟩ = some (.int .i64 ops[k].2.2.2.2) := fun z => DB.some_ z d4
        have G0 : ∀ z : DFam (DB wo), z.val.cell? ⟨T, 0, none⟩ = some (.slice A2 n2 c2) := fun z => DB.some_ z ((HG.out.cell 0).trans rfl)
        have G1 : ∀ z : DFam (DB wo), z.val.cell? ⟨T, 1, none⟩ = some (.slice A2' n2 c2') := fun z => DB.some_ z ((HG.out.cell 1).trans rfl)
        have hk0 : (0 : Int) ≤ k := by omega
        have hk1 : (k : Int) < n := by omega
        have HP := Lib.hid (playL_snoc hkl)
        have HWK := Lib.hid (HWL.out _ (List.getElem_mem hkl))
        obtain ⟨L, hL⟩ : ∃ L, playL (ops.take k) = L := ⟨_, rfl⟩
        have HFI : Hid (fine L) := Lib.hid (by rw [← hL]; exact (playL_fine _).1)
        rw [hL] at HST HRS HP
        obtain ⟨x, hx⟩ : ∃ x, doE L ops[k].1 ops[k].2 = x := ⟨_, rfl⟩
        obtain ⟨L2, hL2⟩ : ∃ x, doL L ops[k].1 ops[k].2 = x := ⟨_, rfl⟩
        obtain ⟨o, ho⟩ : ∃ x, doO L ops[k].1 ops[k].2 = x := ⟨_, rfl⟩
        have HX := Lib.hid hx; have HL2 := Lib.hid hL2; have HO := Lib.hid ho
        have HFI2 : Hid (fine L2) := Lib.hid (by rw [← hL2]; exact fine_do HFI.out)
        clear hcc d0 d1 d2 d3 d4 hL hx hL2 ho
        have hglt := HGL.out
        go_wp2_with fail
        refine wp_region_pb 3 ([0, 1, 2, 3, 4], [(5, ([6, 7, 8, 9], [(10, ([], [(11, [12])]))])), (10, ([], [(5, ([6, 7, 8, 9], [(11, [12])]))]))]) [13] (by kernel_rfl) (by kernel_rfl) ?_
        simp only [wpT, List.map_cons, List.map_nil, List.getD_cons_succ, List.getD_cons_zero, List.forall_mem_cons, List.not_mem_nil, false_implies, implies_true, and_true]
        repeat (go_big_quiet_step (fail))
        refine wpQuiet_nil ⟨?_, ?_⟩
        case' refine_1 =>
          clear E0 E1 E2 E3 E4 G0 G1
          go_wp2_with fail
          refine (rplain_any A2 A2' n2 c2 c2' L L2 ops[k].1 ops[k].2.1 ops[k].2.2.1 ops[k].2.2.2.1 ops[k].2.2.2.2 x o wo.drew HRS.out HFI.out HX.out HL2.out HO.out).mono ?_
          rintro e w2 ⟨A3, n3, c3, A3', c3', Ao, no, co, rfl, hrs3, hown, hb3, hf3, hf3', hz⟩
          have HB3 : Hid (Below wo.heap.size wo w2) := Lib.hid ((Below.refl _ _).drew.trans hb3)
          go_wp2_with fail
          refine QN_normal ⟨HB3.out, ?_⟩
          repeat (go_big_quiet_step (fail))
          refine wpQuiet_nil ?_
          go_wp2_with fail
          refine QN_normal ⟨HB3.out.alloc HB3.out.size _, wpQuiet_nil ?_⟩
          go_wp2_with fail
          obtain ⟨u4, hu4⟩ : ∃ u, w2.alloc (.cells #[.slice A3 n3 c3, .slice A3' n3 c3'] 30) = u := ⟨_, rfl⟩
          have HB4 : Hid (Below wo.heap.size wo u4) := Lib.hid (by rw [← hu4]; exact HB3.out.alloc HB3.out.size _)
          obtain ⟨g6, hg6⟩ : ∃ g, w2.heap.size = g := ⟨_, rfl⟩
          have HG6 : Hid (Blk u4 g6 30 #[.slice A3 n3 c3, .slice A3' n3 c3']) := Lib.hid (by rw [← hu4, ← hg6]; exact Blk.new _ _ _)
          have HG6L : Hid (wo.heap.size ≤ g6) := Lib.hid (by rw [← hg6]; exact HB3.out.size)
          have HR4 : Hid (RefS u4 A3 n3 A3' L2) := Lib.hid (by rw [← hu4]; exact hrs3.below (below_alloc (Below.refl _ _) (Nat.le_refl _) _))
          have HOW : Hid (u4.ownsRow wo.heap.size 58 2 (.slice Ao no co) no (cellsT o)) := Lib.hid (by rw [← hu4]; exact hown.alloc _)
          have HFA : Hid (From wo.heap.size A2 A3) := Lib.hid hf3; have HFA' : Hid (From wo.heap.size A2' A3') := Lib.hid hf3'
          have HZ := Lib.hid hz
          rw [hg6, hu4]
          clear hu4 hg6 hrs3 hf3 hf3' hb3 hown hz
          refine QN_normal ⟨HB4.out, ?_⟩
          repeat (go_big_quiet_step (fail))
          refine wpQuiet_nil ?_
          clear HB3
        case' refine_2 =>
          clear E0 E1 E2 E3 E4 G0 G1
          go_wp2_with fail
          have HB0 : Hid (Below wo.heap.size wo (wo.drew.alloc (.cells #[.slice none 0 0, .slice none 0 0] 30))) := Lib.hid ((Below.refl _ _).drew.alloc (Nat.le_refl _) _)
          refine QN_normal ⟨HB0.out, wpQuiet_nil ?_⟩
          go_wp2_with fail
          refine (rplain_any A2 A2' n2 c2 c2' L L2 ops[k].1 ops[k].2.1 ops[k].2.2.1 ops[k].2.2.2.1 ops[k].2.2.2.2 x o (wo.drew.alloc (.cells #[.slice none 0 0, .slice none 0 0] 30)) (HRS.out.below HB0.out) HFI.out HX.out HL2.out HO.out).mono ?_
          rintro e w2 ⟨A3, n3, c3, A3', c3', Ao, no, co, rfl, hrs3, hown, hb3, hf3, hf3', hz⟩
          have HB3 : Hid (Below wo.heap.size wo w2) := Lib.hid (below_next HB0.out (Nat.le_refl _) hb3)
          have hG0 : Blk (wo.drew.alloc (.cells #[.slice none 0 0, .slice none 0 0] 30)) wo.heap.size 30 #[.slice none 0 0, .slice none 0 0] := Blk.new wo.drew _ _
          have hG3 := hG0.below hb3 hG0.lt
          have HG3 := Lib.hid hG3
          have HFA : Hid (From wo.heap.size A2 A3) := Lib.hid (hf3.mono HB0.out.size)
          have HFA' : Hid (From wo.heap.size A2' A3') := Lib.hid (hf3'.mono HB0.out.size)
          have HZ := Lib.hid hz
          have HRF : Hid (RefS ((w2.setCell ⟨wo.heap.size, 0, none⟩ (.slice A3 n3 c3)).setCell ⟨wo.heap.size, 1, none⟩ (.slice A3' n3 c3')) A3 n3 A3' L2) := Lib.hid (hrs3.store hG3 _ _)
          have HOF2 : Hid (((w2.setCell ⟨wo.heap.size, 0, none⟩ (.slice A3 n3 c3)).setCell ⟨wo.heap.size, 1, none⟩ (.slice A3' n3 c3')).ownsRow wo.heap.size 58 2 (.slice Ao no co) no (cellsT o)) := Lib.hid (own_mono (own_two hown (by simp) _ _) HB0.out.size)
          go_wp2_with fail
          refine QN_normal ⟨HB3.out, ?_⟩
          repeat (go_big_quiet_step (fail))
          refine wpQuiet_nil ?_
          have p0 := (hG3.cell 0).trans rfl; have p1 := (hG3.cell 1).trans rfl; have y0 := hG3.frozen 0; have y1 := hG3.frozen 1
          clear hG0 hG3 hrs3 hf3 hf3' hb3 hown hz
          go_wp2_with fail
          clear p0 p1 y0 y1
          obtain ⟨u4, hu4⟩ : ∃ u, (w2.setCell ⟨wo.heap.size, 0, none⟩ (.slice A3 n3 c3)).setCell ⟨wo.heap.size, 1, none⟩ (.slice A3' n3 c3') = u := ⟨_, rfl⟩
          have HB4 : Hid (Below wo.heap.size wo u4) := Lib.hid (by rw [← hu4]; exact set2_below _ _ HB3.out (Nat.le_refl _))
          obtain ⟨g6, hg6⟩ : ∃ g, wo.heap.size = g := ⟨_, rfl⟩
          have HG6 : Hid (Blk u4 g6 30 #[.slice A3 n3 c3, .slice A3' n3 c3']) := Lib.hid (by rw [← hu4, ← hg6]; exact store_two HG3.out _ _)
          have HG6L : Hid (wo.heap.size ≤ g6) := Lib.hid (by rw [← hg6]; exact Nat.le_refl _)
          have HR4 : Hid (RefS u4 A3 n3 A3' L2) := Lib.hid (by rw [← hu4]; exact HRF.out)
          have HOW : Hid (u4.ownsRow wo.heap.size 58 2 (.slice Ao no co) no (cellsT o)) := Lib.hid (by rw [← hu4]; exact HOF2.out)
          rw [hu4]
          have HGW := Lib.hid hg6
          clear hu4 hg6 HRF HG3 HB0 HOF2
          refine QN_normal ⟨HB4.out, ?_⟩
          repeat (go_big_quiet_step (fail))
          refine wpQuiet_nil ?_
          rw [HGW.out]
          clear HB3 HGW
        all_goals
          have HS4 := Lib.hid (HST.out.below HB4.out)
          have HT4 := Lib.hid (HG.out.below HB4.out HG.out.lt)
          have HB5 := Lib.hid (below_next HB.out (Nat.le_refl _) HB4.out)
          have HFL : Hid (∀ j, F j → j < wo.heap.size) := Lib.hid HST.out.2.1
          have HOF4 : Hid (Off F A3 A3' n3) := Lib.hid (HOF.out.next HFL.out HFA.out HFA'.out HZ.out fun e => by
            have h1 := HR4.out.2.2
            have h2 := HRS.out.2.2
            have h3 := doL_len (l := L) (k := ops[k].1) (x := ops[k].2)
            rw [HL2.out] at h3
            omega)
          have p0 := HD.out.1; have p1 := HD.out.2.1; have p2 := HD.out.2.2.1; have p3 := HD.out.2.2.2.1; have p4 := HD.out.2.2.2.2
          have d0 := (HB4.out.cell (p := ⟨b, off + k * 5, none⟩) (World.block_lt_of_cell? wo _ p0)).trans p0
          have d1 := (HB4.out.cell (p := ⟨b, off + k * 5 + 1, none⟩) (World.block_lt_of_cell? wo _ p1)).trans p1
          have d2 := (HB4.out.cell (p := ⟨b, off + k * 5 + 2, none⟩) (World.block_lt_of_cell? wo _ p2)).trans p2
          have d3 := (HB4.out.cell (p := ⟨b, off + k * 5 + 3, none⟩) (World.block_lt_of_cell? wo _ p3)).trans p3
          have d4 := (HB4.out.cell (p := ⟨b, off + k * 5 + 4, none⟩) (World.block_lt_of_cell? wo _ p4)).trans p4
          clear p0 p1 p2 p3 p4
          go_wp2_with fail
          refine (do_any F g L L2 ops[k].1 ops[k].2.1 ops[k].2.2.1 ops[k].2.2.2.1 ops[k].2.2.2.2 x o _ HS4.out HWK.out HFI.out HX.out HL2.out HO.out).mono ?_
          rintro e u5 ⟨A5, n5, c5, F5, rfl, hown5, hst5, hF5, hx5, ho5⟩
          clear d0 d1 d2 d3 d4
          have HT5 : Hid (Blk u5 T 30 #[.slice A2 n2 c2, .slice A2' n2 c2']) := Lib.hid (ho5.blk HT4.out HFT.out.1)
          have HN6 : Hid (∀ j, wo.heap.size ≤ j → ¬ F j) := Lib.hid fun j hj e => by have := HFL.out j e; omega
          have HG65 : Hid (Blk u5 g6 30 #[.slice A3 n3 c3, .slice A3' n3 c3']) := Lib.hid (ho5.blk HG6.out (HN6.out _ HG6L.out))
          have HR5 : Hid (RefS u5 A3 n3 A3' L2) := Lib.hid (HR4.out.only ho5 HOF4.out.1 HOF4.out.2.1)
          have HOW5 : Hid (u5.ownsRow wo.heap.size 58 2 (.slice Ao no co) no (cellsT o)) := Lib.hid (ho5.own HOW.out fun j hj => HN6.out j (HOW.out.lt j hj).1)
          have HO5 : Hid (u5.ownsRow u4.heap.size 58 2 (.slice A5 n5 c5) n5 (cellsT o)) := Lib.hid hown5
          have HT4L : Hid (T < u4.heap.size) := Lib.hid HT4.out.lt
          have HF5 : Hid (¬ F5 T ∧ ∀ j, F5 j → w.heap.size ≤ j) := Lib.hid ⟨fun e => by
            rcases hF5 T e with e | e
            · exact HFT.out.1 e
            · have := HT4L.out; have := e.1; omega, fun j hj => With.ge HFT.out.2 HB5.out.size j (hF5 j hj)⟩
          have HOF5 : Hid (0 < n3 → Off F5 A3 A3' n3) := Lib.hid fun h0 => ⟨fun q e hf => by
            rcases hF5 _ hf with h1 | h1
            · exact HOF4.out.1 q e h1
            · obtain ⟨ad, e2, hb, _⟩ := HR4.out.1.2 h0
              rw [e] at e2; injection e2 with e2; subst e2
              have := h1.1; omega, fun q e hf => by
            rcases hF5 _ hf with h1 | h1
            · exact HOF4.out.2.1 q e h1
            · obtain ⟨ad, e2, hb, _⟩ := HR4.out.2.1.2 h0
              rw [e] at e2; injection e2 with e2; subst e2
              have := h1.1; omega, .inl h0⟩
          have HST5 := Lib.hid hst5
          have HB6 : Hid (Below w.heap.size w u5) := Lib.hid (HB5.out.trans (ho5.below (fun j _ hj => HFT.out.2 j hj) HB5.out.size))
          clear hown5 hst5 hF5 hx5 ho5
          have q0 := (HG65.out.cell 0).trans rfl; have q1 := (HG65.out.cell 1).trans rfl
          have r0 := (HT5.out.cell 0).trans rfl; have r1 := (HT5.out.cell 1).trans rfl
          have z0 := HT5.out.frozen 0; have z1 := HT5.out.frozen 1
          obtain ⟨u6, hu6⟩ : ∃ u, (u5.setCell ⟨T, 0, none⟩ (.slice A3 n3 c3)).setCell ⟨T, 1, none⟩ (.slice A3' n3 c3') = u := ⟨_, rfl⟩
          have HT6 : Hid (Blk u6 T 30 #[.slice A3 n3 c3, .slice A3' n3 c3']) := Lib.hid (by rw [← hu6]; exact store_two HT5.out _ _)
          have HR6 : Hid (RefS u6 A3 n3 A3' L2) := Lib.hid (by rw [← hu6]; exact HR5.out.store HT5.out _ _)
          have HTL : Hid (T < wo.heap.size) := Lib.hid HG.out.lt
          have HOW6 : Hid (u6.ownsRow wo.heap.size 58 2 (.slice Ao no co) no (cellsT o)) := Lib.hid (by rw [← hu6]; exact own_two HOW5.out HTL.out _ _)
          have HO6 : Hid (u6.ownsRow u4.heap.size 58 2 (.slice A5 n5 c5) n5 (cellsT o)) := Lib.hid (by rw [← hu6]; exact own_two HO5.out HT4L.out _ _)
          have HST6 : Hid (StoreF u6 F5 g L2) := Lib.hid (by rw [← hu6]; exact HST5.out.keep (only_two _ _ _ _) fun j hj e => HF5.out.1 (by subst e; exact hj))
          have HB7 : Hid (Below w.heap.size w u6) := Lib.hid (by rw [← hu6]; exact set2_below _ _ HB6.out HTW.out)
          have HU6 := Lib.hid hu6
          clear hu6
          go_upto_region 13 with fail
          rw [HU6.out]
          clear q0 q1 r0 r1 z0 z1
          obtain ⟨nl, hnl⟩ : ∃ x, leftN L2 lot = x := ⟨_, rfl⟩
          obtain ⟨el, hel⟩ : ∃ x, leftE L2 lot = x := ⟨_, rfl⟩
          obtain ⟨nc, hncn⟩ : ∃ x, countN L2 kd = x := ⟨_, rfl⟩
          have HNL := Lib.hid hnl; have HEL := Lib.hid hel; have HNC := Lib.hid hncn
          clear hnl hel hncn
          go_wp2_with fail
          refine (left_any F5 g L2 lot nl el _ HST6.out hw HNL.out HEL.out).mono ?_
          rintro e w3 ⟨rfl, rfl⟩
          have q0 := (HT6.out.cell 0).trans rfl; have q1 := (HT6.out.cell 1).trans rfl
          go_wp2_with fail
          refine (rleft_any A3 A3' n3 c3 c3' L2 lot nl el _ HR6.out (by have := HFI2.out.1; have := HR6.out.2.2; omega) HNL.out HEL.out).mono ?_
          rintro e u7 ⟨rfl, hb7⟩
          have HT7 := Lib.hid (HT6.out.below hb7 HT6.out.lt)
          have HR7 := Lib.hid (HR6.out.below hb7)
          have HST7 := Lib.hid (HST6.out.below hb7)
          have HB8 := Lib.hid (below_next HB7.out (Nat.le_refl _) hb7)
          have HOA : Hid (Reads u7 u7.heap.size 2 Ao no (cellsT o)) := Lib.hid (((Reads.of_own HOW6.out).below hb7).more hb7.size)
          have HOB : Hid (Reads u7 u7.heap.size 2 A5 n5 (cellsT o)) := Lib.hid (((Reads.of_own HO6.out).below hb7).more hb7.size)
          clear hb7 q0 q1
          have HNO : Hid (n5 ≤ 100000) := Lib.hid (by
            have h1 := recs_len HOB.out encT_len (by omega)
            have h2 := doO_len (l := L) (k := ops[k].1) (x := ops[k].2)
            rw [HO.out] at h2
            have := HFI.out.1
            omega)
          go_wp2_with fail
          have K0 : ∀ z : DFam (DB u7), z.val.cell? ⟨T, 0, none⟩ = some (.slice A3 n3 c3) := fun z => DB.some_ z ((HT7.out.cell 0).trans rfl)
          have K1 : ∀ z : DFam (DB u7), z.val.cell? ⟨T, 1, none⟩ = some (.slice A3' n3 c3') := fun z => DB.some_ z ((HT7.out.cell 1).trans rfl)
          refine wp_region_pb 3 ([0, 1], [(2, ([3, 4, 5, 6, 7, 8, 9, 10, 11, 12, 13, 14, 15, 16, 17, 18, 19, 20, 21, 23, 24], [(22, ([], [(25, [26, 27])]))]))]) [] (by kernel_rfl) (by kernel_rfl) ?_
          simp only [wpT, List.map_cons, List.map_nil, List.getD_cons_succ, List.getD_cons_zero, List.forall_mem_cons, List.not_mem_nil, false_implies, implies_true, and_true]
          repeat (go_big_quiet_step (fail))
          refine wpQuiet_nil ?_
          go_wp2_with fail
          refine (sameT_any A5 Ao n5 c5 no co o o true _ _ u7.drew HOB.out HOA.out HNO.out (sameT_refl _)).mono ?_
          rintro e _ ⟨rfl, q5, rfl⟩
          have HV1 : Hid (Below u7.heap.size u7 (u7.drewN (1 + q5))) := Lib.hid (below_drewN (Below.refl _ _) _)
          go_wp2_with fail
          refine QN_normal ⟨HV1.out, ?_⟩
          repeat (go_big_quiet_step (fail))
          refine wpQuiet_nil ?_
          go_wp2_with fail
          refine (count_any F5 g L2 kd nc _ (HST7.out.below HV1.out) HFI2.out HNC.out).mono ?_
          rintro e v2 ⟨rfl, hv2⟩
          have HV2 : Hid (Below u7.heap.size u7 v2) := Lib.hid (below_next HV1.out (Nat.le_refl _) hv2)
          clear hv2
          go_wp2_with fail
          refine QN_normal ⟨HV2.out, wpQuiet_nil ?_⟩
          go_wp2_with fail
          refine (rcount_any A3 A3' n3 c3 c3' L2 kd nc _ (HR7.out.below HV2.out) HFI2.out HNC.out).mono ?_
          rintro e v3 ⟨rfl, hv3⟩
          have HV3 : Hid (Below u7.heap.size u7 v3) := Lib.hid (below_next HV2.out (Nat.le_refl _) hv3)
          clear hv3
          go_wp2_with fail
          refine QN_normal ⟨HV3.out, ?_⟩
          repeat (go_big_quiet_step (fail))
          refine wpQuiet_nil ?_
          clear K0 K1
          have HQ1 : Hid (StoreF v3 F5 g (playL (ops.take (k + 1)))) := Lib.hid (by rw [HP.out, HL2.out]; exact HST7.out.below HV3.out)
          have HQ2 : Hid (RefS v3 A3 n3 A3' (playL (ops.take (k + 1)))) := Lib.hid (by rw [HP.out, HL2.out]; exact HR7.out.below HV3.out)
          have HQ3 := Lib.hid (HT7.out.below HV3.out HT7.out.lt)
          have HQ4 : Hid (Off F5 A3 A3' n3) := Lib.hid (by
            rcases Nat.eq_zero_or_pos n3 with h0 | h0
            · rcases HOF4.out.2.2 with h1 | ⟨h1, h2⟩
              · omega
              · exact ⟨(fun q e => by rw [h1] at e; cases e), (fun q e => by rw [h2] at e; cases e), .inr ⟨h1, h2⟩⟩
            · exact HOF5.out h0)
          have HQ5 := Lib.hid (below_next HB8.out (Nat.le_refl _) HV3.out)
          go_wp2_with fail
          go_roundw
          case rel => exact ⟨k + 1, n3, c3, c3', F5, A3, A3', by omega, by go_num, HQ1, HQ2, HQ3, HF5, HQ4, HQ5⟩
          case measure => simp [intOf]; omega
      · obtain rfl : k = n := by omega
        have HE : Hid (playL (ops.take k) = playL ops) := Lib.hid (by rw [List.take_of_length_le (by have := HL.out; omega)])
        obtain ⟨L, hL⟩ : ∃ L, playL ops = L := ⟨_, rfl⟩
        have HFI : Hid (fine L) := Lib.hid (by rw [← hL]; exact (playL_fine _).1)
        rw [HE.out, hL] at HST HRS
        clear hL HE hlt
        go_upto_region 17 with fail
        have K0 : ∀ z : DFam (DB wo), z.val.cell? ⟨T, 0, none⟩ = some (.slice A2 n2 c2) := fun z => DB.some_ z ((HG.out.cell 0).trans rfl)
        have K1 : ∀ z : DFam (DB wo), z.val.cell? ⟨T, 1, none⟩ = some (.slice A2' n2 c2') := fun z => DB.some_ z ((HG.out.cell 1).trans rfl)
        refine wp_region_pb 4 ([0, 2], [(1, ([], [(3, ([], [(4, ([5], [(6, [7])]))]))]))]) [8] (by kernel_rfl) (by kernel_rfl) ?_
        simp only [wpT, List.map_cons, List.map_nil, List.getD_cons_succ, List.getD_cons_zero, List.forall_mem_cons, List.not_mem_nil, false_implies, implies_true, and_true]
        repeat (go_big_quiet_step (fail))
        refine wpQuiet_nil ?_
        go_wp2_with fail
        refine (lots_any F g L _ (HST.out.below (Below.refl _ _).drew) HFI.out.1).mono ?_
        rintro e u3 ⟨Al, nl2, cl, rfl, hol, hb3⟩
        have HU3 : Hid (Below wo.heap.size wo u3) := Lib.hid (below_next (Below.refl _ _).drew (Nat.le_refl _) hb3)
        have HOL := Lib.hid (Reads.of_own hol)
        clear hb3 hol
        go_wp2_with fail
        refine QN_normal ⟨HU3.out, wpQuiet_nil ?_⟩
        go_wp2_with fail
        refine (rlots_any A2 A2' n2 c2 c2' L _ (HRS.out.below HU3.out) (by have := HFI.out.1; have := HRS.out.2.2; omega)).mono ?_
        rintro e u4 ⟨Am, nm, cm, rfl, hom, hb4⟩
        have HU4 : Hid (Below wo.heap.size wo u4) := Lib.hid (below_next HU3.out (Nat.le_refl _) hb4)
        have HOM := Lib.hid (Reads.of_own hom)
        have HOL4 := Lib.hid (HOL.out.below hb4)
        clear hb4 hom
        go_wp2_with fail
        refine QN_normal ⟨HU4.out, wpQuiet_nil ?_⟩
        go_wp2_with fail
        refine (sameL_any Al Am nl2 cl nm cm (lotsL L) (lotsL L) true _ _ _ HOL4.out HOM.out (by have h3 : (lotsL L).length = L.length := (by simp [lotsL]); have := recs_len HOL.out encL_len (by omega); have := HFI.out.1; omega) (sameL_refl _)).mono ?_
        rintro e _ ⟨rfl, q5, rfl⟩
        have HU5 : Hid (Below wo.heap.size wo (u4.drewN q5)) := Lib.hid (below_drewN HU4.out _)
        go_wp2_with fail
        refine QN_normal ⟨HU5.out, ?_⟩
        repeat (go_big_quiet_step (fail))
        refine wpQuiet_nil ?_
        go_wp2_with fail
        refine (awake_any _).mono ?_
        rintro e u6 ⟨rfl, hb6⟩
        have HU6 : Hid (Below wo.heap.size wo u6) := Lib.hid (below_next HU5.out (Nat.le_refl _) hb6)
        clear hb6
        go_wp2_with fail
        refine QN_normal ⟨HU6.out, ?_⟩
        repeat (go_big_quiet_step (fail))
        refine wpQuiet_nil ?_
        clear K0 K1
        go_wp2_with fail
        go_ret
        exact ⟨rfl, below_next HB.out (Nat.le_refl _) HU6.out⟩
end Go.Proofs.Ythbmofijdhfeeaa
