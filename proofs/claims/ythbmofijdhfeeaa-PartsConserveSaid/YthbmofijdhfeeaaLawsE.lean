/- The walk of PartsApart. -/
import Derived.Test.YthbmofijdhfeeaaCopy
import Derived.Deep.CutRange
namespace Go.Proofs.Ythbmofijdhfeeaa
open Go.RowKit Go.Maps Go.WideMaps
theorem doL_err {l : List Lt} {k : Int} {x : L4} (h : doE l k x ≠ 0) : doL l k x = l := by
  unfold doE at h
  unfold doL
  split
  · rename_i h0; rw [if_pos h0] at h; exact addL_no h
  · rename_i h0
    rw [if_neg h0] at h
    split
    · rename_i h1; rw [if_pos h1] at h; exact tookX_no h
    · rename_i h1
      rw [if_neg h1] at h
      unfold backL
      split
      · rfl
      · rw [if_neg h]
theorem doO_err {l : List Lt} {k : Int} {x : L4} (h : doE l k x ≠ 0) : doO l k x = [] := by
  unfold doE at h
  unfold doO
  split
  · rename_i h1
    subst h1
    exact tookO_no h
  · rfl
theorem doO_len {l : List Lt} {k : Int} {x : L4} : (doO l k x).length ≤ l.length := by
  unfold doO
  split
  · unfold tookO; split
    · exact takeO_len _ _ _
    · simp
  · simp
theorem lots_le {l : List Lt} {w : World} {B n : Nat} {A : Option Addr} (hf : fine l) (h : Reads w B 4 A n (cellsL (lotsL l))) : n ≤ 100000 := by
  have h3 : (lotsL l).length = l.length := by simp [lotsL]
  have := recs_len h encL_len (by omega)
  have := hf.1
  omega
/-- The block of a row of the call's own, or any one behind it if the row is empty. -/
theorem row_blk {w : World} {base t size n c : Nat} {A : Option Addr} {xs : List Value} (h : w.ownsRow base t size (.slice A n c) n xs) : ∃ bl, (∀ j, (Value.slice A n c).ownBlock = some j → j = bl ∨ n = 0) ∧ (0 < n → (Value.slice A n c).ownBlock = some bl) ∧ (n = 0 → bl = w.heap.size) ∧ (0 < n → A = some ⟨bl, 0, none⟩ ∧ n ≤ c ∧ ∃ cur, Blk w bl t cur ∧ cur.size = c * size) := by
  rcases Nat.eq_zero_or_pos n with h0 | h0
  · exact ⟨w.heap.size, fun j _ => .inr h0, fun e => by omega, fun _ => rfl, fun e => by omega⟩
  · obtain ⟨g, cap, hv, _, hlt⟩ := h.form h0
    injection hv with hA h2 h3
    subst hA h3
    obtain ⟨_, _, cur, hB, hs, hc, _⟩ := own_blk h
    refine ⟨g, fun j hj => ?_, fun _ => by simp [Value.ownBlock], fun e => by omega, fun _ => ⟨rfl, hc, cur, hB, hs⟩⟩
    left
    have : g = j := by simpa [Value.ownBlock] using hj
    exact this.symm
/-- Cells of a block of the call's own are overwritten. -/
theorem blk_store {w : World} {b t : Nat} {cur : Array Value} (h : Blk w b t cur) {i : Nat} (hi : i < cur.size) (v : Value) : Blk (w.setCell ⟨b, i, none⟩ v) b t (cur.setIfInBounds i v) ∧ (cur.setIfInBounds i v).size = cur.size ∧ ∃ u, w.cell? ⟨b, i, none⟩ = some u :=
  ⟨h.set_ i v, by simp, ⟨cur[i], by rw [h.cell, Array.getElem?_eq_getElem hi]⟩⟩
set_option maxHeartbeats 16000000 in
set_option maxRecDepth 20000 in
theorem partsApart_walk (A : Option Addr) (n c : Nat) (ops : List Op5) (w : World) (hr : Reads w w.heap.size 5 A n (cellsO ops)) (_hnc : n ≤ c) (_hc : c ≤ maxLen) (hwl : ∀ o ∈ ops, (Lit.int .i64 o.2.1).wf = true) :
    Calls Try.prog 8 #[.slice A n c] w (AwakePost w) := by
  have HL := Lib.hid (recs_len hr encO_len (by omega))
  by_cases hn : 60 < n
  · have hni : (60 : Int) < n := by omega
    clear hr
    go_enter Try.func8, Try.ntmps8
    go_wp2_with fail
    refine (awake_any _).mono ?_
    rintro e w1 ⟨rfl, hb1⟩
    go_wp2_with fail
    go_ret
    exact ⟨rfl, hb1⟩
  · have HR := Lib.hid hr
    have HWL := Lib.hid hwl
    have hni : ¬ (60 : Int) < n := by omega
    have hn1 : n ≤ 60 := by omega
    clear hr hn hwl
    go_enter Try.func8, Try.ntmps8
    go_wp2_with fail
    refine (new_any none 0 0 [] 0 [] _ Reads.none_ (by decide) rfl).mono ?_
    rintro e w1 ⟨hb1, ⟨_, F1, g, rfl, hs1, hF1⟩ | ⟨h, _⟩⟩
    case inr => exact absurd rfl h
    have HS1 := Lib.hid hs1; have HB1 := Lib.hid hb1; have HF1 := Lib.hid hF1
    clear hb1 hs1 hF1
    go_wp2_with fail
    go_loopw [5] (fun s5 wr => ∃ (k : Nat) (F : Nat → Prop), k ≤ n ∧ s5 = .int .i64 k ∧ Hid (StoreF wr F g (playL (ops.take k))) ∧ Hid (∀ j, F j → w.heap.size ≤ j) ∧ Hid (Below w.heap.size w wr)) (fun s _ => n - (intOf s).toNat)
    case atStart => exact ⟨0, F1, Nat.zero_le _, rfl, HS1, HF1, HB1⟩
    case round =>
      obtain ⟨wo, rfl⟩ : ∃ wo : World, wo = wr := ⟨_, rfl⟩
      obtain ⟨k, F, hk, rfl, HST, HF, HB⟩ := hrel
      by_cases hlt : k < n
      · have hkl : k < ops.length := by have := HL.out; omega
        have hk0 : (0 : Int) ≤ k := by omega
        have hk1 : (k : Int) < n := by omega
        have HP := Lib.hid (playL_snoc hkl)
        have HWK := Lib.hid (HWL.out _ (List.getElem_mem hkl))
        obtain ⟨L, hL⟩ : ∃ L, playL (ops.take k) = L := ⟨_, rfl⟩
        have HFI : Hid (fine L) := Lib.hid (by rw [← hL]; exact (playL_fine _).1)
        rw [hL] at HST HP
        obtain ⟨x, hx⟩ : ∃ x, doE L ops[k].1 ops[k].2 = x := ⟨_, rfl⟩
        obtain ⟨L2, hL2⟩ : ∃ x, doL L ops[k].1 ops[k].2 = x := ⟨_, rfl⟩
        obtain ⟨o, ho⟩ : ∃ x, doO L ops[k].1 ops[k].2 = x := ⟨_, rfl⟩
        have HX := Lib.hid hx; have HL2 := Lib.hid hL2; have HO := Lib.hid ho
        have HFI2 : Hid (fine L2) := Lib.hid (by rw [← hL2]; exact fine_do HFI.out)
        have HER : Hid (x ≠ 0 → L2 = L) := Lib.hid fun e => by rw [← hL2]; exact doL_err (by rw [hx]; exact e)
        have HFL : Hid (∀ j, F j → j < wo.heap.size) := Lib.hid HST.out.2.1
        clear hL hx hL2 ho
        go_wp2_with fail
        refine (copy_any F g L _ HST.out HFI.out.1).mono ?_
        rintro e u1 ⟨Fc, gc, rfl, hc1, hFc, hb1⟩
        have HC1 := Lib.hid hc1; have HFC := Lib.hid hFc; have HB1 := Lib.hid hb1
        have HS1 := Lib.hid (HST.out.below hb1)
        have HFCL : Hid (∀ j, Fc j → j < u1.heap.size) := Lib.hid hc1.2.1
        clear hc1 hFc hb1
        go_wp2_with fail
        refine (lots_any F g L _ HS1.out HFI.out.1).mono ?_
        rintro e u2 ⟨Ab, nb, cb, rfl, hob, hb2⟩
        have HB2 := Lib.hid (below_next HB1.out (Nat.le_refl _) hb2)
        have HS2 := Lib.hid (HS1.out.below hb2)
        have HC2 := Lib.hid (HC1.out.below hb2)
        have HOB := Lib.hid hob
        have HS12 : Hid (u1.heap.size ≤ u2.heap.size) := Lib.hid hb2.size
        clear hob hb2
        obtain ⟨b, off, rfl, hb3, hcc⟩ := (HR.out.below (HB.out.trans (HB2.out.mono HB.out.size))).recs encO_len (by omega) (by omega)
        have d0 : u2.cell? ⟨b, off + k * 5, none⟩ = some (.int .u8 ops[k].1) := hcc k hkl 0 _ rfl
        have d1 : u2.cell? ⟨b, off + k * 5 + 1, none⟩ = some (.int .i64 ops[k].2.1) := hcc k hkl 1 _ rfl
        have d2 : u2.cell? ⟨b, off + k * 5 + 2, none⟩ = some (.int .i64 ops[k].2.2.1) := hcc k hkl 2 _ rfl
        have d3 : u2.cell? ⟨b, off + k * 5 + 3, none⟩ = some (.int .i64 ops[k].2.2.2.1) := hcc k hkl 3 _ rfl
        have d4 : u2.cell? ⟨b, off + k * 5 + 4, none⟩ = some (.int .i64 ops[k].2.2.2.2) := hcc k hkl 4 _ rfl
        clear hcc
        go_wp2_with fail
        refine (do_any F g L L2 ops[k].1 ops[k].2.1 ops[k].2.2.1 ops[k].2.2.2.1 ops[k].2.2.2.2 x o _ HS2.out HWK.out HFI.out HX.out HL2.out HO.out).mono ?_
        rintro e u3 ⟨Aa, na, ca, Fs, rfl, hown3, hst3, hF3, hx3, ho3⟩
        clear d0 d1 d2 d3 d4
        have HSX : Hid (∀ j, wo.heap.size ≤ j → ¬ F j) := Lib.hid fun j hj e => by have := HFL.out j e; omega
        have HC3 := Lib.hid (HC2.out.keep ho3 fun j hj => HSX.out j (HFC.out j hj))
        have HOB3 := Lib.hid (ho3.own HOB.out fun j hj => HSX.out j (by have := (HOB.out.lt j hj).1; have := HB1.out.size; omega))
        have HS3 := Lib.hid hst3
        have HOA3 := Lib.hid hown3
        have HFS : Hid (∀ j, Fs j → F j ∨ (u2.heap.size ≤ j ∧ j < u3.heap.size)) := Lib.hid hF3
        have HXA := Lib.hid hx3
        have HS23 : Hid (u2.heap.size ≤ u3.heap.size) := Lib.hid ho3.size
        have HBW : Hid (Below w.heap.size w u3) := Lib.hid ((HB.out.trans (HB2.out.mono HB.out.size)).trans (ho3.below (fun j _ hj => HF.out j hj) (HB.out.trans (HB2.out.mono HB.out.size)).size))
        clear hown3 hst3 hF3 hx3 ho3
        -- neither store's blocks meet the other's
        have HDJ : Hid (∀ j, Fs j → ¬ Fc j) := Lib.hid fun j h1 h2 => by
          have h3 := HFC.out j h2; have h4 := HFCL.out j h2; have h5 := HS12.out
          rcases HFS.out j h1 with h6 | h6
          · exact HSX.out j h3 h6
          · omega
        by_cases h0 : x = 0
        case' pos =>
          subst h0
          go_wp2_with fail
          refine (lots_any Fc gc L _ HC3.out HFI.out.1).mono ?_
          rintro e u4 ⟨Am, nm, cm, rfl, hom, hb4⟩
          have HOM := Lib.hid (Reads.of_own hom)
          have HBB := Lib.hid ((Reads.of_own HOB3.out).below hb4)
          have HB4 := Lib.hid hb4
          clear hb4 hom
          go_wp2_with fail
          refine (sameL_any Am (Ab) nm cm nb cb (lotsL L) (lotsL L) true _ _ _ HOM.out HBB.out (lots_le HFI.out HOM.out) (sameL_refl _)).mono ?_
          rintro e _ ⟨rfl, q5, rfl⟩
          have HU6 : Hid (Below u3.heap.size u3 (u4.drewN q5)) := Lib.hid (below_drewN HB4.out _)
          obtain ⟨u6, hu6⟩ : ∃ u, u4.drewN q5 = u := ⟨_, rfl⟩
          rw [hu6] at HU6 ⊢
          clear hu6 HBB HB4 HOM
          go_upto_region 14 with fail
        case' neg =>
          have HE2 := Lib.hid (HER.out h0)
          have t0 := ne0_t h0
          clear h0
          go_wp2_with fail
          refine (lots_any Fc gc L _ HC3.out HFI.out.1).mono ?_
          rintro e u4 ⟨Am, nm, cm, rfl, hom, hb4⟩
          have HOM := Lib.hid (Reads.of_own hom)
          have HBB := Lib.hid ((Reads.of_own HOB3.out).below hb4)
          have HB4 := Lib.hid hb4
          clear hb4 hom
          go_wp2_with fail
          refine (sameL_any Am (Ab) nm cm nb cb (lotsL L) (lotsL L) true _ _ _ HOM.out HBB.out (lots_le HFI.out HOM.out) (sameL_refl _)).mono ?_
          rintro e _ ⟨rfl, q5, rfl⟩
          have HU5 : Hid (Below u3.heap.size u3 (u4.drewN q5)) := Lib.hid (below_drewN HB4.out _)
          obtain ⟨u5, hu5⟩ : ∃ u, u4.drewN q5 = u := ⟨_, rfl⟩
          rw [hu5] at HU5 ⊢
          clear hu5 HBB HB4 HOM
          go_wp2_with fail
          refine (lots_any Fs g L2 _ (HS3.out.below HU5.out) HFI2.out.1).mono ?_
          rintro e v4 ⟨Am, nm, cm, rfl, hom, hb4⟩
          have HOM := Lib.hid (Reads.of_own hom)
          have HB4 := Lib.hid (below_next HU5.out (Nat.le_refl _) hb4)
          have HBB := Lib.hid ((Reads.of_own HOB3.out).below HB4.out)
          clear hb4 hom
          go_wp2_with fail
          refine (sameL_any Am (Ab) nm cm nb cb (lotsL L2) (lotsL L) true _ _ _ HOM.out HBB.out (lots_le HFI2.out HOM.out) (by rw [HE2.out]; exact sameL_refl _)).mono ?_
          rintro e _ ⟨rfl, q6, rfl⟩
          have HU6 : Hid (Below u3.heap.size u3 (v4.drewN q6)) := Lib.hid (below_drewN HB4.out _)
          obtain ⟨u6, hu6⟩ : ∃ u, v4.drewN q6 = u := ⟨_, rfl⟩
          rw [hu6] at HU6 ⊢
          clear hu6 HBB HB4 HOM HU5 t0 HE2
          go_upto_region 14 with fail
        all_goals
          have HS6 := Lib.hid (HS3.out.below HU6.out)
          have HC6 := Lib.hid (HC3.out.below HU6.out)
          have HOA6 := Lib.hid (own_below HOA3.out HU6.out)
          have HAL : Hid (∀ j, (Value.slice Aa na ca).ownBlock = some j → u2.heap.size ≤ j ∧ j < u3.heap.size) := Lib.hid fun j hj => HOA3.out.lt j hj
          have HB6 := Lib.hid (below_next HBW.out (Nat.le_refl _) HU6.out)
          have HS36 : Hid (u3.heap.size ≤ u6.heap.size) := Lib.hid HU6.out.size
          obtain ⟨b, off, e, hb3, hcc⟩ := (HR.out.below HB6.out).recs encO_len (by omega) (by omega)
          injection e with e
          injection e with e1 e2
          subst e1 e2
          have d0 : u6.cell? ⟨b, off + k * 5, none⟩ = some (.int .u8 ops[k].1) := hcc k hkl 0 _ rfl
          have d1 : u6.cell? ⟨b, off + k * 5 + 1, none⟩ = some (.int .i64 ops[k].2.1) := hcc k hkl 1 _ rfl
          have d2 : u6.cell? ⟨b, off + k * 5 + 2, none⟩ = some (.int .i64 ops[k].2.2.1) := hcc k hkl 2 _ rfl
          have d3 : u6.cell? ⟨b, off + k * 5 + 3, none⟩ = some (.int .i64 ops[k].2.2.2.1) := hcc k hkl 3 _ rfl
          have d4 : u6.cell? ⟨b, off + k * 5 + 4, none⟩ = some (.int .i64 ops[k].2.2.2.2) := hcc k hkl 4 _ rfl
          clear hcc hb3
          go_wp2_with fail
          refine (do_any Fc gc L L2 ops[k].1 ops[k].2.1 ops[k].2.2.1 ops[k].2.2.2.1 ops[k].2.2.2.2 _ o _ HC6.out HWK.out HFI.out HX.out HL2.out HO.out).mono ?_
          rintro e u7 ⟨A7, n7, c7, Fd, rfl, hown7, hst7, hF7, hx7, ho7⟩
          clear d0 d1 d2 d3 d4
          have HS7 := Lib.hid (HS6.out.keep ho7 HDJ.out)
          have HC7 := Lib.hid hst7
          have HOA7 := Lib.hid (ho7.own HOA6.out fun j hj h2 => by have := (HAL.out j hj).1; have := HFCL.out j h2; have := HS12.out; omega)
          have HO7 := Lib.hid hown7
          have HFD : Hid (∀ j, Fd j → Fc j ∨ (u6.heap.size ≤ j ∧ j < u7.heap.size)) := Lib.hid hF7
          have HDJ7 : Hid (∀ j, Fs j → ¬ Fd j) := Lib.hid fun j h1 h2 => by
            rcases HFD.out j h2 with h3 | h3
            · exact HDJ.out j h1 h3
            · have := HS36.out; have := HS23.out
              rcases HFS.out j h1 with h4 | h4
              · have := HFL.out j h4; have := HB2.out.size; omega
              · omega
          have HXD : Hid (∀ j, (Value.slice Aa na ca).ownBlock = some j → ¬ Fd j) := Lib.hid fun j hj h2 => by
            have h5 := HAL.out j hj; have h6 := HS12.out; have h7 := HS36.out
            rcases HFD.out j h2 with h3 | h3
            · have := HFCL.out j h3; omega
            · omega
          have HS67 : Hid (u6.heap.size ≤ u7.heap.size) := Lib.hid ho7.size
          have HB7 : Hid (Below w.heap.size w u7) := Lib.hid (HB6.out.trans (ho7.below (fun j _ hj => by have := HFC.out j hj; have := HB.out.size; omega) HB6.out.size))
          have HNA : Hid (na ≤ 100000) := Lib.hid (by
            have h1 := recs_len (Reads.of_own HOA7.out) encT_len (by omega)
            have h2 := doO_len (l := L) (k := ops[k].1) (x := ops[k].2)
            rw [HO.out] at h2
            have := HFI.out.1
            omega)
          clear hown7 hst7 hF7 hx7 ho7
          go_wp2_with fail
          refine (sameT_any Aa A7 na ca n7 c7 o o true _ _ u7 (Reads.of_own HOA7.out) (Reads.of_own HO7.out) HNA.out (sameT_refl _)).mono ?_
          rintro e _ ⟨rfl, q7, rfl⟩
          have HV1 : Hid (Below u7.heap.size u7 (u7.drewN q7)) := Lib.hid (below_drewN (Below.refl _ _) _)
          obtain ⟨v1, hv1⟩ : ∃ u, u7.drewN q7 = u := ⟨_, rfl⟩
          rw [hv1] at HV1 ⊢
          clear hv1
          go_wp2_with fail
          refine (lots_any Fd gc L2 _ (HC7.out.below HV1.out) HFI2.out.1).mono ?_
          rintro e v2 ⟨Am, nm, cm, rfl, hom, hb2⟩
          have HOM := Lib.hid (Reads.of_own hom)
          have HV2 := Lib.hid (below_next HV1.out (Nat.le_refl _) hb2)
          clear hb2 hom
          go_wp2_with fail
          refine (lots_any Fs g L2 _ (HS7.out.below HV2.out) HFI2.out.1).mono ?_
          rintro e v3 ⟨An, nn, cn, rfl, hon, hb3⟩
          have HON := Lib.hid (Reads.of_own hon)
          have HOM3 := Lib.hid (HOM.out.below hb3)
          have HV3 := Lib.hid (below_next HV2.out (Nat.le_refl _) hb3)
          clear hb3 hon
          go_wp2_with fail
          refine (sameL_any Am An nm cm nn cn (lotsL L2) (lotsL L2) true _ _ _ HOM3.out HON.out (lots_le HFI2.out HOM3.out) (sameL_refl _)).mono ?_
          rintro e _ ⟨rfl, q8, rfl⟩
          have HV4 : Hid (Below u7.heap.size u7 (v3.drewN q8)) := Lib.hid (below_drewN HV3.out _)
          obtain ⟨v4, hv4⟩ : ∃ u, v3.drewN q8 = u := ⟨_, rfl⟩
          rw [hv4] at HV4 ⊢
          clear hv4 HON HOM3 HOM HV1 HV2 HV3
          go_wp2_with fail
          refine (lots_any Fs g L2 _ (HS7.out.below HV4.out) HFI2.out.1).mono ?_
          rintro e u9 ⟨Al, nl, cl, rfl, hol, hb9⟩
          have HV9 := Lib.hid (below_next HV4.out (Nat.le_refl _) hb9)
          obtain ⟨bl, hbl1, hbl2, hbl3, hbl4⟩ := row_blk hol
          have HBL4 := Lib.hid hbl4
          have HBL : Hid (u7.heap.size ≤ bl) := Lib.hid (by
            rcases Nat.eq_zero_or_pos nl with h0 | h0
            · rw [hbl3 h0]; exact HV9.out.size
            · exact Nat.le_trans HV4.out.size (hol.lt _ (hbl2 h0)).1)
          have HNL := Lib.hid (lots_le HFI2.out (Reads.of_own hol))
          have HB9 := Lib.hid (below_next HB7.out (Nat.le_refl _) HV9.out)
          have HS9 := Lib.hid (HS7.out.below HV9.out)
          have HC9 := Lib.hid (HC7.out.below HV9.out)
          have HOA9 := Lib.hid (own_below HOA7.out HV9.out)
          have HSB : Hid (∀ j, Fs j → j < u7.heap.size) := Lib.hid HS7.out.2.1
          have HCB : Hid (∀ j, Fd j → j < u7.heap.size) := Lib.hid HC7.out.2.1
          have HWS : Hid (w.heap.size ≤ u7.heap.size) := Lib.hid HB7.out.size
          clear hol hb9 hbl1 hbl2 hbl3 hbl4
          go_wp2_with fail
          go_loopw [13] (fun s13 wr => ∃ j : Nat, j ≤ nl ∧ s13 = .int .i64 j ∧ Hid (Only (fun q => q = bl) u9 wr) ∧ Hid (0 < nl → ∃ cur, Blk wr bl 47 cur ∧ cur.size = cl * 4)) (fun s _ => nl - (intOf s).toNat)
          case atStart => exact ⟨0, Nat.zero_le _, rfl, Lib.hid (Only.refl _ _), Lib.hid fun h0 => (HBL4.out h0).2.2⟩
          case round =>
            obtain ⟨wp, rfl⟩ : ∃ wp : World, wp = wr := ⟨_, rfl⟩
            obtain ⟨j, hj, rfl, HOL, HRB⟩ := hrel
            by_cases hjl : j < nl
            · obtain ⟨hAl, hnc, _⟩ := HBL4.out (by omega)
              obtain ⟨cur, hcB, hcs⟩ := HRB.out (by omega)
              have hj0 : (0 : Int) ≤ j := by omega
              have hj1 : (j : Int) < nl := by omega
              have hnb := HNL.out
              obtain ⟨hsb, hss, v, hv⟩ := blk_store hcB (i := j * 4 + 2) (by omega) (.int .i64 (-5))
              have zf := hcB.frozen (j * 4 + 2)
              have HN : Hid (Only (fun q => q = bl) u9 (wp.setCell ⟨bl, j * 4 + 2, none⟩ (.int .i64 (-5)))) := Lib.hid (HOL.out.setCell (p := ⟨bl, j * 4 + 2, none⟩) (fun _ => rfl) _)
              have HM : Hid (0 < nl → ∃ cur, Blk (wp.setCell ⟨bl, j * 4 + 2, none⟩ (.int .i64 (-5))) bl 47 cur ∧ cur.size = cl * 4) := Lib.hid fun _ => ⟨_, hsb, by rw [hss]; exact hcs⟩
              subst hAl
              clear hcB hcs hsb hss
              go_wp2_with fail
              go_roundw
              case rel => exact ⟨j + 1, by omega, by go_num, HN, HM⟩
              case measure => simp [intOf]; omega
            · obtain ⟨u10, rfl⟩ : ∃ u10 : World, u10 = wp := ⟨_, rfl⟩
              have HS10 := Lib.hid (HS9.out.keep HOL.out fun q h1 h2 => by have := HSB.out q h1; have := HBL.out; omega)
              have HC10 := Lib.hid (HC9.out.keep HOL.out fun q h1 h2 => by have := HCB.out q h1; have := HBL.out; omega)
              have HOA10 := Lib.hid (HOL.out.own HOA9.out fun q h1 h2 => by have := HAL.out q h1; have := HBL.out; have := HS36.out; have := HS67.out; omega)
              have HB10 : Hid (Below w.heap.size w u10) := Lib.hid (HB9.out.trans (HOL.out.below (fun q _ e => by have := HBL.out; have := HWS.out; omega) HB9.out.size))
              have hj1 : (nl : Int) ≤ j := by omega
              obtain ⟨ba, hba1, hba2, hba3, hba4⟩ := row_blk HOA10.out
              have HBA4 := Lib.hid hba4
              have HBAS : Hid (∀ q, Fs q → q ≠ ba) := Lib.hid fun q h1 h2 => by
                rcases Nat.eq_zero_or_pos na with h0 | h0
                · have := hba3 h0; have := HS10.out.2.1 q h1; omega
                · subst h2; exact HXA.out _ (hba2 h0) h1
              have HBAC : Hid (∀ q, Fd q → q ≠ ba) := Lib.hid fun q h1 h2 => by
                rcases Nat.eq_zero_or_pos na with h0 | h0
                · have := hba3 h0; have := HC10.out.2.1 q h1; omega
                · subst h2; exact HXD.out _ (hba2 h0) h1
              have HBAW : Hid (w.heap.size ≤ ba) := Lib.hid (by
                rcases Nat.eq_zero_or_pos na with h0 | h0
                · rw [hba3 h0]; exact HB10.out.size
                · have := (HAL.out _ (hba2 h0)).1; have := HB2.out.size; have := HB.out.size; omega)
              clear hba1 hba2 hba3 hba4
              go_wp2_with fail
              go_loopw [14] (fun s14 wr => ∃ j : Nat, j ≤ na ∧ s14 = .int .i64 j ∧ Hid (Only (fun q => q = ba) u10 wr) ∧ Hid (0 < na → ∃ cur, Blk wr ba 58 cur ∧ cur.size = ca * 2)) (fun s _ => na - (intOf s).toNat)
              case atStart => exact ⟨0, Nat.zero_le _, rfl, Lib.hid (Only.refl _ _), Lib.hid fun h0 => (HBA4.out h0).2.2⟩
              case round =>
                obtain ⟨wq, rfl⟩ : ∃ wq : World, wq = wr := ⟨_, rfl⟩
                obtain ⟨i, hi, rfl, HOI, HRI⟩ := hrel
                by_cases hil : i < na
                · obtain ⟨hAa, hnc, _⟩ := HBA4.out (by omega)
                  obtain ⟨cur, hcB, hcs⟩ := HRI.out (by omega)
                  have hi0 : (0 : Int) ≤ i := by omega
                  have hi1 : (i : Int) < na := by omega
                  have hnb := HNA.out
                  obtain ⟨hsb, hss, v, hv⟩ := blk_store hcB (i := i * 2 + 1) (by omega) (.int .i64 (-5))
                  have zf := hcB.frozen (i * 2 + 1)
                  have HN : Hid (Only (fun q => q = ba) u10 (wq.setCell ⟨ba, i * 2 + 1, none⟩ (.int .i64 (-5)))) := Lib.hid (HOI.out.setCell (p := ⟨ba, i * 2 + 1, none⟩) (fun _ => rfl) _)
                  have HM : Hid (0 < na → ∃ cur, Blk (wq.setCell ⟨ba, i * 2 + 1, none⟩ (.int .i64 (-5))) ba 58 cur ∧ cur.size = ca * 2) := Lib.hid fun _ => ⟨_, hsb, by rw [hss]; exact hcs⟩
                  subst hAa
                  clear hcB hcs hsb hss
                  go_wp2_with fail
                  go_roundw
                  case rel => exact ⟨i + 1, by omega, by go_num, HN, HM⟩
                  case measure => simp [intOf]; omega
                · obtain ⟨u11, rfl⟩ : ∃ u11 : World, u11 = wq := ⟨_, rfl⟩
                  have HS11 := Lib.hid (HS10.out.keep HOI.out fun q h1 h2 => HBAS.out q h1 h2)
                  have HC11 := Lib.hid (HC10.out.keep HOI.out fun q h1 h2 => HBAC.out q h1 h2)
                  have HB11 : Hid (Below w.heap.size w u11) := Lib.hid (HB10.out.trans (HOI.out.below (fun q _ e => by have := HBAW.out; omega) HB10.out.size))
                  have hi1 : (na : Int) ≤ i := by omega
                  go_wp2_with fail
                  refine (lots_any Fd gc L2 _ HC11.out HFI2.out.1).mono ?_
                  rintro e v5 ⟨Am, nm, cm, rfl, hom, hb5⟩
                  have HOM := Lib.hid (Reads.of_own hom)
                  have HV5 := Lib.hid hb5
                  clear hb5 hom
                  go_wp2_with fail
                  refine (lots_any Fs g L2 _ (HS11.out.below HV5.out) HFI2.out.1).mono ?_
                  rintro e v6 ⟨An, nn, cn, rfl, hon, hb6⟩
                  have HON := Lib.hid (Reads.of_own hon)
                  have HOM6 := Lib.hid (HOM.out.below hb6)
                  have HV6 := Lib.hid (below_next HV5.out (Nat.le_refl _) hb6)
                  clear hb6 hon
                  go_wp2_with fail
                  refine (sameL_any Am An nm cm nn cn (lotsL L2) (lotsL L2) true _ _ _ HOM6.out HON.out (lots_le HFI2.out HOM6.out) (sameL_refl _)).mono ?_
                  rintro e _ ⟨rfl, q9, rfl⟩
                  have HV7 : Hid (Below u11.heap.size u11 (v6.drewN q9)) := Lib.hid (below_drewN HV6.out _)
                  obtain ⟨v7, hv7⟩ : ∃ u, v6.drewN q9 = u := ⟨_, rfl⟩
                  rw [hv7] at HV7 ⊢
                  clear hv7
                  have HQ1 : Hid (StoreF v7 Fs g (playL (ops.take (k + 1)))) := Lib.hid (by rw [HP.out, HL2.out]; exact HS11.out.below HV7.out)
                  have HQ2 : Hid (∀ q, Fs q → w.heap.size ≤ q) := Lib.hid fun q hq => by
                    rcases HFS.out q hq with h1 | h1
                    · exact HF.out q h1
                    · have := HB2.out.size; have := HB.out.size; omega
                  have HQ3 := Lib.hid (below_next HB11.out (Nat.le_refl _) HV7.out)
                  go_wp2_with fail
                  go_roundw
                  case rel => exact ⟨k + 1, Fs, by omega, by go_num, HQ1, HQ2, HQ3⟩
                  case measure => simp [intOf]; omega
      · obtain rfl : k = n := by omega
        go_wp2_with fail
        refine (awake_any _).mono ?_
        rintro e w2 ⟨rfl, hb2⟩
        have HB2 := Lib.hid (below_next HB.out (Nat.le_refl _) hb2)
        clear hb2
        go_wp2_with fail
        go_ret
        exact ⟨rfl, HB2.out⟩
end Go.Proofs.Ythbmofijdhfeeaa
