/- The walk of ChargeDesks. -/
import Derived.Test.YtakjdffebpcmnaaRdE
namespace Go.Proofs.Ytakjdffebpcmnaa
open Go Go.RowKit Go.Maps
set_option maxHeartbeats 4000000 in
set_option maxRecDepth 10000 in
theorem chargeDesks_walk (A : Option Addr) (n c : Nat) (l : List O5) (w : World) (hr : Reads w w.heap.size 5 A n (cellsO l)) (hnc : n ≤ c) (hc : c ≤ maxLen) (hwl : ∀ o ∈ l, (Lit.int .i64 o.2.1.1).wf = true) :
    Calls Try.prog 5 #[.slice A n c] w (AwakePost w) := by
  have hn' : n ≤ 9223372036854775807 := Nat.le_trans hnc hc
  have HW := Lib.hid hwl
  clear hnc hc hwl
  by_cases h80 : n ≤ 80
  · have HL := Lib.hid (recs_len hr encO_len (by omega))
    have HR := Lib.hid hr
    clear hr
    go_enter Try.func5, Try.ntmps5
    go_wp2_with fail
    refine (new_any _).mono ?_
    rintro e w1 ⟨F1, g, rfl, hd1, hF1, hb1⟩
    have HD1 := Lib.hid hd1; have HF1 := Lib.hid hF1; have HB1 := Lib.hid hb1
    clear hd1 hF1 hb1
    go_wp2_with fail
    refine (rnew_any _).mono ?_
    rintro e w2 ⟨rfl, hb2⟩
    have HB2 := Lib.hid (HB1.out.trans (hb2.mono HB1.out.size))
    have HD2 := Lib.hid (HD1.out.below hb2)
    clear hb2 HD1 HB1
    go_upto_region 4 with fail
    have B4 := Blk.new w2 44 #[.slice none 0 0, .slice none 0 0, .slice none 0 0]
    have hb3 := below_alloc (Below.refl w2.heap.size w2) (Nat.le_refl _) (.cells #[.slice none 0 0, .slice none 0 0, .slice none 0 0] 44)
    have hF4 : ¬ F1 w2.heap.size := fun e => absurd (HD2.out.2.1 _ e) (Nat.lt_irrefl _)
    obtain ⟨w3, hw3⟩ : ∃ v : World, w2.alloc (.cells #[.slice none 0 0, .slice none 0 0, .slice none 0 0] 44) = v := ⟨_, rfl⟩
    rw [hw3] at B4 hb3
    rw [hw3]
    have HD3 := Lib.hid (HD2.out.below hb3)
    have HB3 := Lib.hid (HB2.out.trans (hb3.mono HB2.out.size))
    have HB4 := Lib.hid B4
    have HF4 := Lib.hid hF4
    have HB0 := Lib.hid HB2.out.size
    obtain ⟨b4, hb4⟩ : ∃ b, w2.heap.size = b := ⟨_, rfl⟩
    rw [hb4] at HB4 HF4 HB0 ⊢
    have a0 := (HB4.out.cell 0).trans rfl; have a1 := (HB4.out.cell 1).trans rfl; have a2 := (HB4.out.cell 2).trans rfl
    clear B4 hb3 hF4 hw3 HD2 HB2 hb4
    go_wp2_with fail
    refine (rsame_any F1 (fun j => ¬ F1 j ∧ j ≠ b4) g none none none 0 0 0 0 [] w3 HD3.out (RdW.nil _ _) (by simp)).mono ?_
    rintro e w4 ⟨rfl, hb⟩
    have HD4 := Lib.hid (HD3.out.below hb)
    have HB4' := Lib.hid (HB4.out.below hb HB4.out.lt)
    have HBW4 := Lib.hid (HB3.out.trans (hb.mono HB3.out.size))
    clear hb HD3 HB4 HB3 a0 a1 a2
    go_wp2_with fail
    go_loopw [5] (fun i wr => ∃ (k : Nat) (F : Nat → Prop) (L : List En) (A1 T1 S1 : Option Addr) (n1 c1 c2 c3 : Nat), k ≤ n ∧ i = .int .i64 k ∧ Hid (DeskF wr F g L) ∧ Hid (fine k L) ∧ Hid (dist L) ∧ Hid (Blk wr b4 44 #[.slice A1 n1 c1, .slice T1 n1 c2, .slice S1 n1 c3]) ∧ Hid (RdW wr (fun j => ¬ F j ∧ j ≠ b4) A1 n1 T1 S1 L) ∧ Hid (¬ F b4) ∧ Hid (∀ j, F j → w.heap.size ≤ j) ∧ Hid (Below w.heap.size w wr)) (fun i _ => n - (intOf i).toNat)
    case atStart => exact ⟨0, F1, [], none, none, none, 0, 0, 0, 0, Nat.zero_le _, rfl, HD4, fine_nil 0, dist_nil, HB4', RdW.nil _ _, HF4, HF1, HBW4⟩
    case round =>
      obtain ⟨k, F, L, A1, T1, S1, n1, c1, c2, c3, hk, rfl, HD, HFI, HDI, HBK, HRD, HNF, HF, HBW⟩ := hrel
      by_cases hlt : k < n
      · have hkl : k < l.length := by have := HL.out; omega
        have HWK := Lib.hid (HW.out _ (List.getElem_mem hkl))
        have hlen : L.length ≤ 100000 := by have := HFI.out.1; omega
        have hn1 : n1 ≤ 100000 := by rw [HRD.out.len]; exact hlen
        obtain ⟨x, hx⟩ : ∃ x, doE L l[k].1 l[k].2.1 = x := ⟨_, rfl⟩
        obtain ⟨L', hL'⟩ : ∃ m, doL L l[k].1 l[k].2.1 l[k].2.2 = m := ⟨_, rfl⟩
        obtain ⟨b, off, rfl, hb2, hcc⟩ := HR.out.recs encO_len (by omega) (by omega)
        have q0 : w.cell? ⟨b, off + k * 5, none⟩ = some (.int .i64 l[k].1) := hcc k hkl 0 _ rfl
        have q1 : w.cell? ⟨b, off + k * 5 + 1, none⟩ = some (.int .i64 l[k].2.1.1) := hcc k hkl 1 _ rfl
        have q2 : w.cell? ⟨b, off + k * 5 + 2, none⟩ = some (.int .i64 l[k].2.1.2.1) := hcc k hkl 2 _ rfl
        have q3 : w.cell? ⟨b, off + k * 5 + 3, none⟩ = some (.int .i64 l[k].2.1.2.2) := hcc k hkl 3 _ rfl
        have q4 : w.cell? ⟨b, off + k * 5 + 4, none⟩ = some (.int .i64 l[k].2.2) := hcc k hkl 4 _ rfl
        have HFI' : Hid (fine (k + 1) L') := Lib.hid (by rw [← hL']; exact fine_doL HFI.out)
        have HDI' : Hid (dist L') := Lib.hid (by rw [← hL']; exact dist_doL HDI.out)
        generalize hop : l[k] = op at q0 q1 q2 q3 q4 hx hL' HWK
        obtain ⟨kd, ⟨pa, pb, pc⟩, er⟩ := op
        have QC : Hid (∀ v : World, Below w.heap.size w v → v.cell? ⟨b, off + k * 5, none⟩ = some (.int .i64 kd) ∧ v.cell? ⟨b, off + k * 5 + 1, none⟩ = some (.int .i64 pa) ∧ v.cell? ⟨b, off + k * 5 + 2, none⟩ = some (.int .i64 pb) ∧ v.cell? ⟨b, off + k * 5 + 3, none⟩ = some (.int .i64 pc) ∧ v.cell? ⟨b, off + k * 5 + 4, none⟩ = some (.int .i64 er)) := Lib.hid fun v hv =>
          ⟨(hv.cell (p := ⟨b, off + k * 5, none⟩) hb2).trans q0, (hv.cell (p := ⟨b, off + k * 5 + 1, none⟩) hb2).trans q1, (hv.cell (p := ⟨b, off + k * 5 + 2, none⟩) hb2).trans q2, (hv.cell (p := ⟨b, off + k * 5 + 3, none⟩) hb2).trans q3, (hv.cell (p := ⟨b, off + k * 5 + 4, none⟩) hb2).trans q4⟩
        have HX := Lib.hid hx
        have HL' := Lib.hid hL'
        clear hcc hx hL' q0 q1 q2 q3 q4 hop
        have hk0 : (0 : Int) ≤ k := by omega
        have hk1 : (k : Int) < n := by omega
        go_wp2_with fail
        refine (copy_any F g L _ HD.out hlen HDI.out fun y hy => (HFI.out.2 y hy).1).mono ?_
        rintro e v1 ⟨Fc, gc, rfl, hdc, hFc, hb1⟩
        have HDC := Lib.hid hdc
        have HFC := Lib.hid hFc
        have HV1 := Lib.hid hb1
        have HDV := Lib.hid (HD.out.below hb1)
        have HBV := Lib.hid (HBK.out.below hb1 HBK.out.lt)
        have HBW1 := Lib.hid (HBW.out.trans (hb1.mono HBW.out.size))
        have HRV : Hid (RdW v1 (fun j => ¬ F j ∧ ¬ Fc j ∧ j ≠ b4) A1 n1 T1 S1 L) := Lib.hid ((HRD.out.mono fun j hj hg => ⟨hg.1, fun e => absurd (hFc j e) (by omega), hg.2⟩).below hb1)
        clear hdc hFc hb1
        go_upto_region 10 with fail
        obtain ⟨q0, q1, q2, q3, q4⟩ := QC.out _ HBW1.out
        have K0 : ∀ z : DFam (DB v1), z.val.cell? ⟨b4, 0, none⟩ = some (.slice A1 n1 c1) := fun z => DB.some_ z ((HBV.out.cell 0).trans rfl)
        have K1 : ∀ z : DFam (DB v1), z.val.cell? ⟨b4, 1, none⟩ = some (.slice T1 n1 c2) := fun z => DB.some_ z ((HBV.out.cell 1).trans rfl)
        have K2 : ∀ z : DFam (DB v1), z.val.cell? ⟨b4, 2, none⟩ = some (.slice S1 n1 c3) := fun z => DB.some_ z ((HBV.out.cell 2).trans rfl)
        have K3 := fun z : DFam (DB v1) => DB.some_ z q0
        have K4 := fun z : DFam (DB v1) => DB.some_ z q1
        have K5 := fun z : DFam (DB v1) => DB.some_ z q2
        have K6 := fun z : DFam (DB v1) => DB.some_ z q3
        have K7 := fun z : DFam (DB v1) => DB.some_ z q4
        clear q0 q1 q2 q3 q4
        have HT := Lib.hid (fine_tries HFI.out (show k ≤ 1000000 by omega))
        have HG0 : Hid (∀ v : World, Below v1.heap.size v1 v → ∀ j, v.heap.size ≤ j → ¬ F j ∧ ¬ Fc j ∧ j ≠ b4) := Lib.hid fun v hv j hj => by
          have h1 := hv.size
          exact ⟨fun e => absurd (HDV.out.2.1 j e) (by omega), fun e => absurd (HDC.out.2.1 j e) (by omega), fun e => by have := HBV.out.lt; omega⟩
        refine wp_region_pb 3 ([0, 1, 2, 3, 4], [(5, ([6, 7, 8], [(9, ([], [(10, [])]))])), (9, ([], [(5, ([6, 7, 8], [(10, [])]))]))]) [11] (by kernel_rfl) (by kernel_rfl) ?_
        simp only [wpT, List.map_cons, List.map_nil, List.getD_cons_succ, List.getD_cons_zero, List.forall_mem_cons, List.not_mem_nil, false_implies, implies_true, and_true]
        repeat (go_big_quiet_step (fail))
        refine wpQuiet_nil ⟨?_, ?_⟩
        · go_wp2_with fail
          refine (rshould_any (fun j => ¬ F j ∧ ¬ Fc j ∧ j ≠ b4) A1 T1 S1 n1 c1 c2 c3 L L' kd pa pb pc er x v1.drew (HG0.out _ (Below.refl _ _).drew) HRV.out hn1 HT.out HX.out HL'.out).mono ?_
          rintro e v2 ⟨hb, A2, n2, d1, T2, d2, S2, d3, rfl, hrd⟩
          have U1 : Hid (Below v1.heap.size v1 v2) := Lib.hid (below_next (Below.refl _ _).drew (Nat.le_refl _) hb)
          have HRD2 := Lib.hid hrd
          clear hb hrd
          go_wp2_with fail
          refine QN_normal ⟨U1.out, ?_⟩
          repeat (go_big_quiet_step (fail))
          refine wpQuiet_nil ?_
          go_wp2_with fail
          refine QN_normal ⟨U1.out.alloc U1.out.size _, wpQuiet_nil ?_⟩
          have B7 := Blk.new v2 44 #[.slice none 0 0, .slice none 0 0, .slice none 0 0]
          have f0 := B7.frozen 0; have f1 := B7.frozen 1; have f2 := B7.frozen 2
          have z0 := (B7.cell 0).trans rfl; have z1 := (B7.cell 1).trans rfl; have z2 := (B7.cell 2).trans rfl
          go_wp2_with fail
          obtain ⟨v3, hv3⟩ : ∃ v : World, v2.alloc (.cells #[.slice A2 n2 d1, .slice T2 n2 d2, .slice S2 n2 d3] 44) = v := ⟨_, rfl⟩
          have hb23 : Below v2.heap.size v2 v3 := by rw [← hv3]; exact below_alloc (Below.refl _ _) (Nat.le_refl _) _
          have V3 := Lib.hid (U1.out.trans (hb23.mono U1.out.size))
          have X7 : Hid (Blk v3 v2.heap.size 44 #[.slice A2 n2 d1, .slice T2 n2 d2, .slice S2 n2 d3]) := Lib.hid (by rw [← hv3]; exact Blk.new v2 44 _)
          obtain ⟨b7, hb7⟩ : ∃ b, v2.heap.size = b := ⟨_, rfl⟩
          have R1 : Hid (RdW v3 (fun j => ¬ F j ∧ ¬ Fc j ∧ j ≠ b4 ∧ j ≠ b7) A1 n1 T1 S1 L) := Lib.hid (((HRV.out.below U1.out).mono fun j hj hg => ⟨hg.1, hg.2.1, hg.2.2, by omega⟩).below hb23)
          have R2 : Hid (RdW v3 (fun j => ¬ F j ∧ ¬ Fc j ∧ j ≠ b4 ∧ j ≠ b7) A2 n2 T2 S2 L') := Lib.hid ((HRD2.out.mono fun j hj hg => ⟨hg.1, hg.2.1, hg.2.2, by omega⟩).below hb23)
          have L7 : Hid (v1.heap.size ≤ b7) := Lib.hid (by rw [← hb7]; exact U1.out.size)
          rw [hv3]
          rw [hb7] at X7 ⊢
          clear B7 f0 f1 f2 z0 z1 z2 hv3 hb23 hb7
          refine QN_normal ⟨V3.out, wpQuiet_nil ?_⟩
          have HBW3 := Lib.hid (HBW1.out.trans (V3.out.mono HBW1.out.size))
          have DF : Hid (∀ j, F j → j < wr.heap.size) := Lib.hid HD.out.2.1
          have DC : Hid (∀ j, Fc j → wr.heap.size ≤ j ∧ j < v1.heap.size) := Lib.hid fun j hj => ⟨HFC.out j hj, HDC.out.2.1 j hj⟩
          have S1_ := Lib.hid HV1.out.size
          have S3_ := Lib.hid V3.out.size
          have X4 := Lib.hid (HBV.out.below V3.out HBV.out.lt)
          have LB4 := Lib.hid HBK.out.lt
          obtain ⟨q0, q1, q2, q3, q4⟩ := QC.out _ HBW3.out
          clear K0 K1 K2 K3 K4 K5 K6 K7
          go_wp2_with fail
          refine (do_any F g L L' kd pa pb pc er x v3 (HDV.out.below V3.out) HWK.out hlen HT.out HX.out HL'.out).mono ?_
          rintro e v4 ⟨rfl, hd4, ho4⟩
          have HD4 := Lib.hid hd4
          have HC4 := Lib.hid ((HDC.out.below V3.out).keep ho4 fun j hj hf => by have h1 := DF.out j hf; have h2 := (DC.out j hj).1; omega)
          have R14 : Hid (RdW v4 (fun j => ¬ With F v3 v4 j ∧ ¬ Fc j ∧ j ≠ b4 ∧ j ≠ b7) A1 n1 T1 S1 L) := Lib.hid ((R1.out.mono fun j hj hg => ⟨fun hw => hw.elim hg.1 fun e => by omega, hg.2⟩).keep ho4 fun j hj hg hf => hg.1 (.inl hf))
          have R24 : Hid (RdW v4 (fun j => ¬ With F v3 v4 j ∧ ¬ Fc j ∧ j ≠ b4 ∧ j ≠ b7) A2 n2 T2 S2 L') := Lib.hid ((R2.out.mono fun j hj hg => ⟨fun hw => hw.elim hg.1 fun e => by omega, hg.2⟩).keep ho4 fun j hj hg hf => hg.1 (.inl hf))
          have X74 := Lib.hid (ho4.blk X7.out fun e => by have h1 := DF.out _ e; have h2 := L7.out; have h3 := S1_.out; omega)
          have X44 := Lib.hid (ho4.blk X4.out HNF.out)
          have HBW4 := Lib.hid (HBW3.out.trans (ho4.below (fun j _ hj => HF.out j hj) HBW3.out.size))
          have HS4 := Lib.hid ho4.size
          have hlen' : L'.length ≤ 100000 := by have := HFI'.out.1; omega
          have hn2 : n2 ≤ 100000 := by rw [R24.out.len]; exact hlen'
          have hxx : (x != x) = false := bne_self_eq_false x
          have g0 := (X74.out.cell 0).trans rfl; have g1 := (X74.out.cell 1).trans rfl; have g2 := (X74.out.cell 2).trans rfl
          clear hd4 ho4 q0 q1 q2 q3 q4
          go_wp2_with fail
          refine (rsame_any (With F v3 v4) _ g A2 T2 S2 n2 d1 d2 d3 L' v4 HD4.out R24.out hlen').mono ?_
          rintro e v5 ⟨rfl, hb5⟩
          have m0 := ((X44.out.below hb5 X44.out.lt).cell 0).trans rfl; have m1 := ((X44.out.below hb5 X44.out.lt).cell 1).trans rfl; have m2 := ((X44.out.below hb5 X44.out.lt).cell 2).trans rfl
          have HB5 := Lib.hid hb5
          clear hb5 g0 g1 g2
          go_wp2_with fail
          refine (rsame_any Fc _ gc A1 T1 S1 n1 c1 c2 c3 L v5 (HC4.out.below HB5.out) (R14.out.below HB5.out) hlen).mono ?_
          rintro e v6 ⟨rfl, hb6⟩
          have HB6 := Lib.hid (HB5.out.trans (hb6.mono HB5.out.size))
          have HBW6 := Lib.hid (HBW4.out.trans (HB6.out.mono HBW4.out.size))
          obtain ⟨q0, q1, q2, q3, q4⟩ := QC.out _ HBW6.out
          clear hb6 m0 m1 m2
          go_wp2_with fail
          refine (do_any Fc gc L L' kd pa pb pc er x v6 (HC4.out.below HB6.out) HWK.out hlen HT.out HX.out HL'.out).mono ?_
          rintro e v7 ⟨rfl, hd7, ho7⟩
          have HE7 := Lib.hid hd7
          have HD7 := Lib.hid ((HD4.out.below HB6.out).keep ho7 fun j hj hf => hj.elim (fun e => by have h1 := DF.out j e; have h2 := (DC.out j hf).1; omega) fun e => by have h2 := (DC.out j hf).2; have h3 := S3_.out; omega)
          have R27 := Lib.hid ((R24.out.below HB6.out).keep ho7 fun j hj hg hf => hg.2.1 hf)
          have X77 := Lib.hid (ho7.blk (X74.out.below HB6.out X74.out.lt) fun e => by have h2 := (DC.out _ e).2; have h3 := L7.out; omega)
          have X47 := Lib.hid (ho7.blk (X44.out.below HB6.out X44.out.lt) fun e => by have h2 := (DC.out _ e).1; have h3 := LB4.out; omega)
          have HBW7 := Lib.hid (HBW6.out.trans (ho7.below (fun j _ hj => Nat.le_trans HBW.out.size (DC.out j hj).1) HBW6.out.size))
          have g0 := (X77.out.cell 0).trans rfl; have g1 := (X77.out.cell 1).trans rfl; have g2 := (X77.out.cell 2).trans rfl
          clear hd7 ho7 q0 q1 q2 q3 q4
          go_wp2_with fail
          refine (rsame_any (With Fc v6 v7) _ gc A2 T2 S2 n2 d1 d2 d3 L' v7 HE7.out R27.out hlen').mono ?_
          rintro e v8 ⟨rfl, hb8⟩
          have X78 := X77.out.below hb8 X77.out.lt
          have X48 := X47.out.below hb8 X47.out.lt
          have HD8 := Lib.hid (HD7.out.below hb8)
          have R28 := Lib.hid (R27.out.below hb8)
          have HBW8 := Lib.hid (HBW7.out.trans (hb8.mono HBW7.out.size))
          have HX48 := Lib.hid X48
          have g0 := (X78.cell 0).trans rfl; have g1 := (X78.cell 1).trans rfl; have g2 := (X78.cell 2).trans rfl
          have f0 := X48.frozen 0; have f1 := X48.frozen 1; have f2 := X48.frozen 2
          have m0 := (X48.cell 0).trans rfl; have m1 := (X48.cell 1).trans rfl; have m2 := (X48.cell 2).trans rfl
          clear hb8 X78 X48
          have HNW : Hid (¬ With F v3 v4 b4) := Lib.hid fun hw => hw.elim HNF.out fun e => by have h1 := LB4.out; have h2 := S1_.out; have h3 := S3_.out; omega
          have HLB : Hid (w.heap.size ≤ b4) := HB0
          go_wp2_with fail
          go_roundw
          case rel =>
            have ho9 := set3_only v8 b4 (.slice A2 n2 d1) (.slice T2 n2 d2) (.slice S2 n2 d3)
            refine ⟨k + 1, With F v3 v4, L', A2, T2, S2, n2, d1, d2, d3, by omega, by go_num, Lib.hid (HD8.out.keep ho9 fun j hj e => HNW.out (by rw [← e]; exact hj)), HFI', HDI', Lib.hid (((HX48.out.set_ 0 (.slice A2 n2 d1)).set_ 1 (.slice T2 n2 d2)).set_ 2 (.slice S2 n2 d3)), Lib.hid ((R28.out.mono fun j hj hg => ⟨hg.1, hg.2.2.1⟩).keep ho9 fun j hj hg e => hg.2 e), HNW, Lib.hid fun j hj => hj.elim (HF.out j) fun e => Nat.le_trans HBW3.out.size e.1, Lib.hid (set3_below HBW8.out HLB.out _ _ _)⟩
          case measure => simp [intOf]; omega
        · go_wp2_with fail
          have hva := (below_alloc (Below.refl v1.heap.size v1) (Nat.le_refl _) (.cells #[.slice none 0 0, .slice none 0 0, .slice none 0 0] 44)).drew
          have B7 := (Blk.new v1 44 #[.slice none 0 0, .slice none 0 0, .slice none 0 0]).drew
          obtain ⟨va, hva_⟩ : ∃ v : World, (v1.alloc (.cells #[.slice none 0 0, .slice none 0 0, .slice none 0 0] 44)).drew = v := ⟨_, rfl⟩
          rw [hva_] at hva B7 ⊢
          obtain ⟨b7, hb7⟩ : ∃ b, v1.heap.size = b := ⟨_, rfl⟩
          have B7' : Blk va b7 44 #[.slice none 0 0, .slice none 0 0, .slice none 0 0] := by rw [← hb7]; exact B7
          have L7 : Hid (v1.heap.size ≤ b7) := Lib.hid (Nat.le_of_eq hb7)
          have HVA := Lib.hid hva
          have HB7 := Lib.hid B7'
          have HRA : Hid (RdW va (fun j => ¬ F j ∧ ¬ Fc j ∧ j ≠ b4 ∧ j ≠ b7) A1 n1 T1 S1 L) := Lib.hid ((HRV.out.mono fun j hj hg => ⟨hg.1, hg.2.1, hg.2.2, by omega⟩).below hva)
          have HGA : Hid (∀ j, va.heap.size ≤ j → (fun j => ¬ F j ∧ ¬ Fc j ∧ j ≠ b4 ∧ j ≠ b7) j) := Lib.hid fun j hj => let ⟨h1, h2, h3⟩ := HG0.out _ hva j hj; ⟨h1, h2, h3, fun e => by have := B7'.lt; omega⟩
          rw [hb7]
          clear hva B7 hva_ hb7 B7'
          refine QN_normal ⟨HVA.out, wpQuiet_nil ?_⟩
          go_wp2_with fail
          refine (rshould_any (fun j => ¬ F j ∧ ¬ Fc j ∧ j ≠ b4 ∧ j ≠ b7) A1 T1 S1 n1 c1 c2 c3 L L' kd pa pb pc er x va HGA.out HRA.out hn1 HT.out HX.out HL'.out).mono ?_
          rintro e v2 ⟨hb, A2, n2, d1, T2, d2, S2, d3, rfl, hrd⟩
          have U1 : Hid (Below v1.heap.size v1 v2) := Lib.hid (below_next HVA.out (Nat.le_refl _) hb)
          have HRD2 := Lib.hid hrd
          have HRA2 := Lib.hid (HRA.out.below hb)
          have B7 := HB7.out.below hb HB7.out.lt
          have HB72 := Lib.hid B7
          have f0 := B7.frozen 0; have f1 := B7.frozen 1; have f2 := B7.frozen 2
          have z0 := (B7.cell 0).trans rfl; have z1 := (B7.cell 1).trans rfl; have z2 := (B7.cell 2).trans rfl
          clear hb hrd B7
          go_wp2_with fail
          refine QN_normal ⟨U1.out, ?_⟩
          repeat (go_big_quiet_step (fail))
          refine wpQuiet_nil ?_
          go_wp2_with fail
          obtain ⟨v3, hv3⟩ : ∃ v : World, ((v2.setCell ⟨b7, 0, none⟩ (.slice A2 n2 d1)).setCell ⟨b7, 1, none⟩ (.slice T2 n2 d2)).setCell ⟨b7, 2, none⟩ (.slice S2 n2 d3) = v := ⟨_, rfl⟩
          have ho3 : Only (fun j => j = b7) v2 v3 := by rw [← hv3]; exact set3_only v2 b7 _ _ _
          have V3 : Hid (Below v1.heap.size v1 v3) := Lib.hid (by rw [← hv3]; exact set3_below U1.out L7.out _ _ _)
          have X7 : Hid (Blk v3 b7 44 #[.slice A2 n2 d1, .slice T2 n2 d2, .slice S2 n2 d3]) := Lib.hid (by rw [← hv3]; exact ((HB72.out.set_ 0 (.slice A2 n2 d1)).set_ 1 (.slice T2 n2 d2)).set_ 2 (.slice S2 n2 d3))
          have R1 := Lib.hid (HRA2.out.keep ho3 fun j hj hg e => hg.2.2.2 e)
          have R2 := Lib.hid (HRD2.out.keep ho3 fun j hj hg e => hg.2.2.2 e)
          rw [hv3]
          clear f0 f1 f2 z0 z1 z2 hv3 ho3
          refine QN_normal ⟨V3.out, wpQuiet_nil ?_⟩
          have HBW3 := Lib.hid (HBW1.out.trans (V3.out.mono HBW1.out.size))
          have DF : Hid (∀ j, F j → j < wr.heap.size) := Lib.hid HD.out.2.1
          have DC : Hid (∀ j, Fc j → wr.heap.size ≤ j ∧ j < v1.heap.size) := Lib.hid fun j hj => ⟨HFC.out j hj, HDC.out.2.1 j hj⟩
          have S1_ := Lib.hid HV1.out.size
          have S3_ := Lib.hid V3.out.size
          have X4 := Lib.hid (HBV.out.below V3.out HBV.out.lt)
          have LB4 := Lib.hid HBK.out.lt
          obtain ⟨q0, q1, q2, q3, q4⟩ := QC.out _ HBW3.out
          clear K0 K1 K2 K3 K4 K5 K6 K7
          go_wp2_with fail
          refine (do_any F g L L' kd pa pb pc er x v3 (HDV.out.below V3.out) HWK.out hlen HT.out HX.out HL'.out).mono ?_
          rintro e v4 ⟨rfl, hd4, ho4⟩
          have HD4 := Lib.hid hd4
          have HC4 := Lib.hid ((HDC.out.below V3.out).keep ho4 fun j hj hf => by have h1 := DF.out j hf; have h2 := (DC.out j hj).1; omega)
          have R14 : Hid (RdW v4 (fun j => ¬ With F v3 v4 j ∧ ¬ Fc j ∧ j ≠ b4 ∧ j ≠ b7) A1 n1 T1 S1 L) := Lib.hid ((R1.out.mono fun j hj hg => ⟨fun hw => hw.elim hg.1 fun e => by omega, hg.2⟩).keep ho4 fun j hj hg hf => hg.1 (.inl hf))
          have R24 : Hid (RdW v4 (fun j => ¬ With F v3 v4 j ∧ ¬ Fc j ∧ j ≠ b4 ∧ j ≠ b7) A2 n2 T2 S2 L') := Lib.hid ((R2.out.mono fun j hj hg => ⟨fun hw => hw.elim hg.1 fun e => by omega, hg.2⟩).keep ho4 fun j hj hg hf => hg.1 (.inl hf))
          have X74 := Lib.hid (ho4.blk X7.out fun e => by have h1 := DF.out _ e; have h2 := L7.out; have h3 := S1_.out; omega)
          have X44 := Lib.hid (ho4.blk X4.out HNF.out)
          have HBW4 := Lib.hid (HBW3.out.trans (ho4.below (fun j _ hj => HF.out j hj) HBW3.out.size))
          have HS4 := Lib.hid ho4.size
          have hlen' : L'.length ≤ 100000 := by have := HFI'.out.1; omega
          have hn2 : n2 ≤ 100000 := by rw [R24.out.len]; exact hlen'
          have hxx : (x != x) = false := bne_self_eq_false x
          have g0 := (X74.out.cell 0).trans rfl; have g1 := (X74.out.cell 1).trans rfl; have g2 := (X74.out.cell 2).trans rfl
          clear hd4 ho4 q0 q1 q2 q3 q4
          go_wp2_with fail
          refine (rsame_any (With F v3 v4) _ g A2 T2 S2 n2 d1 d2 d3 L' v4 HD4.out R24.out hlen').mono ?_
          rintro e v5 ⟨rfl, hb5⟩
          have m0 := ((X44.out.below hb5 X44.out.lt).cell 0).trans rfl; have m1 := ((X44.out.below hb5 X44.out.lt).cell 1).trans rfl; have m2 := ((X44.out.below hb5 X44.out.lt).cell 2).trans rfl
          have HB5 := Lib.hid hb5
          clear hb5 g0 g1 g2
          go_wp2_with fail
          refine (rsame_any Fc _ gc A1 T1 S1 n1 c1 c2 c3 L v5 (HC4.out.below HB5.out) (R14.out.below HB5.out) hlen).mono ?_
          rintro e v6 ⟨rfl, hb6⟩
          have HB6 := Lib.hid (HB5.out.trans (hb6.mono HB5.out.size))
          have HBW6 := Lib.hid (HBW4.out.trans (HB6.out.mono HBW4.out.size))
          obtain ⟨q0, q1, q2, q3, q4⟩ := QC.out _ HBW6.out
          clear hb6 m0 m1 m2
          go_wp2_with fail
          refine (do_any Fc gc L L' kd pa pb pc er x v6 (HC4.out.below HB6.out) HWK.out hlen HT.out HX.out HL'.out).mono ?_
          rintro e v7 ⟨rfl, hd7, ho7⟩
          have HE7 := Lib.hid hd7
          have HD7 := Lib.hid ((HD4.out.below HB6.out).keep ho7 fun j hj hf => hj.elim (fun e => by have h1 := DF.out j e; have h2 := (DC.out j hf).1; omega) fun e => by have h2 := (DC.out j hf).2; have h3 := S3_.out; omega)
          have R27 := Lib.hid ((R24.out.below HB6.out).keep ho7 fun j hj hg hf => hg.2.1 hf)
          have X77 := Lib.hid (ho7.blk (X74.out.below HB6.out X74.out.lt) fun e => by have h2 := (DC.out _ e).2; have h3 := L7.out; omega)
          have X47 := Lib.hid (ho7.blk (X44.out.below HB6.out X44.out.lt) fun e => by have h2 := (DC.out _ e).1; have h3 := LB4.out; omega)
          have HBW7 := Lib.hid (HBW6.out.trans (ho7.below (fun j _ hj => Nat.le_trans HBW.out.size (DC.out j hj).1) HBW6.out.size))
          have g0 := (X77.out.cell 0).trans rfl; have g1 := (X77.out.cell 1).trans rfl; have g2 := (X77.out.cell 2).trans rfl
          clear hd7 ho7 q0 q1 q2 q3 q4
          go_wp2_with fail
          refine (rsame_any (With Fc v6 v7) _ gc A2 T2 S2 n2 d1 d2 d3 L' v7 HE7.out R27.out hlen').mono ?_
          rintro e v8 ⟨rfl, hb8⟩
          have X78 := X77.out.below hb8 X77.out.lt
          have X48 := X47.out.below hb8 X47.out.lt
          have HD8 := Lib.hid (HD7.out.below hb8)
          have R28 := Lib.hid (R27.out.below hb8)
          have HBW8 := Lib.hid (HBW7.out.trans (hb8.mono HBW7.out.size))
          have HX48 := Lib.hid X48
          have g0 := (X78.cell 0).trans rfl; have g1 := (X78.cell 1).trans rfl; have g2 := (X78.cell 2).trans rfl
          have f0 := X48.frozen 0; have f1 := X48.frozen 1; have f2 := X48.frozen 2
          have m0 := (X48.cell 0).trans rfl; have m1 := (X48.cell 1).trans rfl; have m2 := (X48.cell 2).trans rfl
          clear hb8 X78 X48
          have HNW : Hid (¬ With F v3 v4 b4) := Lib.hid fun hw => hw.elim HNF.out fun e => by have h1 := LB4.out; have h2 := S1_.out; have h3 := S3_.out; omega
          have HLB : Hid (w.heap.size ≤ b4) := HB0
          go_wp2_with fail
          go_roundw
          case rel =>
            have ho9 := set3_only v8 b4 (.slice A2 n2 d1) (.slice T2 n2 d2) (.slice S2 n2 d3)
            refine ⟨k + 1, With F v3 v4, L', A2, T2, S2, n2, d1, d2, d3, by omega, by go_num, Lib.hid (HD8.out.keep ho9 fun j hj e => HNW.out (by rw [← e]; exact hj)), HFI', HDI', Lib.hid (((HX48.out.set_ 0 (.slice A2 n2 d1)).set_ 1 (.slice T2 n2 d2)).set_ 2 (.slice S2 n2 d3)), Lib.hid ((R28.out.mono fun j hj hg => ⟨hg.1, hg.2.2.1⟩).keep ho9 fun j hj hg e => hg.2 e), HNW, Lib.hid fun j hj => hj.elim (HF.out j) fun e => Nat.le_trans HBW3.out.size e.1, Lib.hid (set3_below HBW8.out HLB.out _ _ _)⟩
          case measure => simp [intOf]; omega
      · obtain rfl : k = n := by omega
        go_wp2_with fail
        refine (awake_any _).mono ?_
        rintro e w9 ⟨rfl, hb⟩
        go_wp2_with fail
        go_ret
        exact ⟨rfl, HBW.out.trans (hb.mono HBW.out.size)⟩
  · have h1 : (80 : Int) < n := by omega
    go_enter Try.func5, Try.ntmps5
    go_wp2_with fail
    refine (awake_any _).mono ?_
    rintro e w1 ⟨rfl, hb1⟩
    go_wp2_with fail
    go_ret
    exact ⟨rfl, hb1⟩
end Go.Proofs.Ytakjdffebpcmnaa
