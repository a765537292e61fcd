/- The walk of LedgerRuns. -/
import Derived.Test.YtoammbjnejdgpaaLeJ
namespace Go.Proofs.Ytoammbjnejdgpaa
open Go.RowKit
open Go.Deep
theorem RetPn.out {w w' : World} {G : Nat → Prop} {acc : Int} {ps : List Pg} {of_ : List Int} {d : List Dt} {o : Oc} {e : Ending} (hs : St d ps of_) (h : RetPn w G acc ps of_ d o e w') : Below w.heap.size w w' ∧ ∃ A n c Ao no co ps1 of1, e = .returned (.tuple #[.agg #[.int .i64 acc, .slice A n c, .slice Ao no co], .int .i64 (doE acc d o)]) ∧ PsI w' G A n ps1 ∧ RIn w' G 1 Ao no (cellsI of1) ∧ St (doD acc d o) ps1 of1 := by
  obtain ⟨ps', of', h1, hb, A, n, c, Ao, no, co, he, h2, h3⟩ := h
  by_cases h0 : doE acc d o = 0
  · rw [if_pos h0] at h2 h3
    exact ⟨hb, A, n, c, Ao, no, co, ps', of', he, h2, h3, h1 h0⟩
  · rw [if_neg h0] at h2 h3
    exact ⟨hb, A, n, c, Ao, no, co, ps, of_, he, h2, h3, by rw [doD_no h0]; exact hs⟩
set_option maxHeartbeats 8000000 in
set_option maxRecDepth 10000 in
theorem ledgerRuns_walk (acc : Int) (A : Option Addr) (n c : Nat) (l : List Oc) (a t : Int) (w : World) (hr : OsR w A n l) : Calls Try.prog 4 #[.agg #[.int .i64 acc, .slice A n c], .int .i64 a, .int .i64 t] w (RetB w true) := by
  obtain ⟨B0, hbx⟩ := box1 w 40 #[.int .i64 acc, .slice A n c]
  have HLEN := Lib.hid (recs_len hr.1 encOc_len (by omega))
  obtain ⟨w1, hw1⟩ : ∃ u, w.alloc (.cells #[.int .i64 acc, .slice A n c] 40) = u := ⟨_, rfl⟩
  rw [hw1] at B0 hbx
  have HB0 := Lib.hid B0; have HBX := Lib.hid hbx; have HR := Lib.hid (hr.below hbx)
  have HW1 := Lib.hid hw1
  have c0 := (B0.cell 0).trans rfl; have c1 := (B0.cell 1).trans rfl
  clear B0 hbx hr hw1
  obtain ⟨x, hfw⟩ : ∃ x, fewB l = x := ⟨_, rfl⟩
  have HFW := Lib.hid hfw
  clear hfw
  go_enter Try.func4, Try.ntmps4
  go_upto_region 1 with fail
  rw [HW1.out]
  go_wp2_with fail
  refine (few_any acc A n c l x _ HR.out HFW.out).mono ?_
  rintro e w2 ⟨rfl, hb2⟩
  have HK := Lib.hid hb2
  clear hb2 c0 c1
  rcases x with _ | _
  case false =>
    go_wp2_with fail
    refine (awake_any _).mono ?_
    rintro e wA ⟨rfl, hbA⟩
    go_wp2_with fail
    go_ret
    exact ⟨rfl, below_next (below_next HBX.out (Nat.le_refl _) HK.out) (Nat.le_refl _) hbA⟩
  have hn60 : n ≤ 60 := by have := (few_t HFW.out).1; have := HLEN.out; omega
  have c0 := ((ofB HB0.out HK.out).cell 0).trans rfl; have c1 := ((ofB HB0.out HK.out).cell 1).trans rfl
  go_wp2_with fail
  refine (new_any acc _).mono ?_
  intro e w3 hh
  unfold RetNew at hh
  by_cases h0 : acc < 2 ∨ 64 < acc
  case pos =>
    rw [if_pos h0] at hh
    obtain ⟨rfl, rfl⟩ := hh
    go_wp2_with fail
    refine (rnew_any acc _).mono ?_
    rintro e w4 ⟨⟨x, _, rfl⟩, hb4⟩
    rw [if_pos h0]
    have HK4 := Lib.hid (below_next HK.out (Nat.le_refl _) hb4)
    obtain ⟨X0, hbx⟩ := box1 w4 29 #[.int .i64 x, .slice none 0 0, .slice none 0 0]
    clear hb4 h0 c0 c1
    obtain ⟨w5, hw5⟩ : ∃ u, w4.alloc (.cells #[.int .i64 x, .slice none 0 0, .slice none 0 0] 29) = u := ⟨_, rfl⟩
    rw [hw5] at X0 hbx
    have HX0 := Lib.hid X0; have HW5 := Lib.hid hw5
    have HK5 := Lib.hid (below_next HK4.out (Nat.le_refl _) hbx)
    have c1 := ((ofB HB0.out HK5.out).cell 1).trans rfl
    clear X0 hbx hw5
    go_upto_region 8 with fail
    rw [HW5.out]
    go_wp2_with fail
    go_loopw [11] (fun s wr => s = .int .i64 0 ∧ wr = w5) (fun _ _ => 0)
    case atStart => exact ⟨rfl, rfl⟩
    case round =>
      obtain ⟨rfl, rfl⟩ := hrel
      rcases Int.lt_or_le 0 (n : Int) with hn0 | hn0
      all_goals
        go_upto_region 18 with fail
        have m1 := (HX0.out.cell 1).trans rfl
        have F0 : ∀ z : DFam (DB wr), z.val.cell? ⟨w4.heap.size, 1, none⟩ = some (.slice none 0 0) := fun z => DB.some_ z m1
        refine wp_region_pb 3 ([0, 2, 3], [(1, ([], [(4, ([5], [(6, [7])]))]))]) [8] (by kernel_rfl) (by kernel_rfl) ?_
        simp only [wpT, List.map_cons, List.map_nil, List.getD_cons_succ, List.getD_cons_zero, List.forall_mem_cons, List.not_mem_nil, false_implies, implies_true, and_true]
        repeat (go_big_quiet_step (fail))
        refine wpQuiet_nil ?_
        clear F0
        go_wp2_with fail
        refine (postings_nil _).mono ?_
        rintro e w6 ⟨rfl, rfl⟩
        have HB6 : Hid (Below wr.heap.size wr wr.drew) := Lib.hid (Below.refl _ _).drew
        go_wp2_with fail
        refine QN_normal ⟨HB6.out, wpQuiet_nil ?_⟩
        go_wp2_with fail
        refine (same_any none none 0 0 0 0 [] [] true _ (psr_nil _) (psr_nil _) (by omega) rfl).mono ?_
        obtain ⟨w6, hw6⟩ : ∃ u, wr.drew = u := ⟨_, rfl⟩
        rw [hw6] at HB6 ⊢
        rintro e w7 ⟨rfl, q, rfl⟩
        have HQ7 : Hid (Below w6.heap.size w6 (w6.drewN q)) := Lib.hid ⟨rfl, rfl, rfl, Nat.le_refl _, fun _ _ => rfl⟩
        have HB7 := Lib.hid (below_next HB6.out (Nat.le_refl _) HQ7.out)
        go_wp2_with fail
        refine QN_normal ⟨HB7.out, ?_⟩
        repeat (go_big_quiet_step (fail))
        refine wpQuiet_nil ?_
        go_wp2_with fail
        refine (awake_any _).mono ?_
        rintro e w8 ⟨rfl, hb8⟩
        have HB8 := Lib.hid (below_next HB7.out (Nat.le_refl _) hb8)
        clear hb8
        go_wp2_with fail
        refine QN_normal ⟨HB8.out, ?_⟩
        repeat (go_big_quiet_step (fail))
        refine wpQuiet_nil ?_
        go_wp2_with fail
        go_ret
        exact ⟨rfl, below_next HBX.out (Nat.le_refl _) (below_next HK5.out (Nat.le_refl _) HB8.out)⟩
  rw [if_neg h0] at hh
  obtain ⟨rfl, rfl⟩ := hh
  have L1 : LdW w2 (w2.alloc (.cells #[.int .i64 acc, .slice none 0 0] 62)) (fun k => k = w2.heap.size) (fun _ => False) w2.heap.size acc (playD acc (l.take 0)) := ⟨new_ld acc w2, fun k hk => by omega, (Below.refl _ _).alloc (Nat.le_refl _) _, fine_nil acc⟩
  have hs3 : (w2.alloc (.cells #[.int .i64 acc, .slice none 0 0] 62)).heap.size = w2.heap.size + 1 := by simp
  obtain ⟨w3, hw3⟩ : ∃ u, w2.alloc (.cells #[.int .i64 acc, .slice none 0 0] 62) = u := ⟨_, rfl⟩
  rw [hw3] at L1 hs3 ⊢
  have HL0 := Lib.hid (L1.from_ HK.out)
  have HS3 := Lib.hid hs3
  clear hw3 L1 hs3 c0 c1
  obtain ⟨g, hg⟩ : ∃ g, w2.heap.size = g := ⟨_, rfl⟩
  rw [hg] at HL0 HS3 ⊢
  clear hg
  have c0 := ((ofB HB0.out HL0.out.bel).cell 0).trans rfl
  go_wp2_with fail
  refine (rnew_any acc _).mono ?_
  rintro e w4 ⟨⟨x, hx, rfl⟩, hb4⟩
  rw [if_neg h0]
  obtain rfl := hx h0
  have HL4 := Lib.hid (HL0.out.below hb4)
  have HS4 : Hid (g < w4.heap.size) := Lib.hid (by have := hb4.size; have := HS3.out; omega)
  obtain ⟨X0, hbx⟩ := box1 w4 29 #[.int .i64 x, .slice none 0 0, .slice none 0 0]
  clear hb4 h0 c0 hx
  obtain ⟨w5, hw5⟩ : ∃ u, w4.alloc (.cells #[.int .i64 x, .slice none 0 0, .slice none 0 0] 29) = u := ⟨_, rfl⟩
  rw [hw5] at X0 hbx
  have HL5 := Lib.hid (HL4.out.below hbx)
  obtain ⟨km, hkm⟩ : ∃ k, w4.heap.size = k := ⟨_, rfl⟩
  have HKM := Lib.hid hkm
  rw [hkm] at X0 HS4
  have HW5 := Lib.hid hw5; have HX0 := Lib.hid X0
  clear X0 hbx hw5 hkm
  have c1 := ((ofB HB0.out HL5.out.bel).cell 1).trans rfl
  have HMR : Hid (w1.heap.size ≤ km) := Lib.hid (by rw [← HKM.out]; exact HL4.out.bel.size)
  go_upto_region 8 with fail
  rw [HW5.out, HKM.out]
  clear c1
  go_loopw [11] (fun s wr => ∃ (k : Nat) (F R : Nat → Prop) (Ap : Option Addr) (np cp : Nat) (Ao : Option Addr) (no co : Nat) (ps : List Pg) (of_ : List Int), k ≤ n ∧ s = .int .i64 k ∧ Hid (LdW w1 wr F R g x (playD x (l.take k))) ∧ Hid (Blk wr km 29 #[.int .i64 x, .slice Ap np cp, .slice Ao no co]) ∧ Hid (PsI wr (fun j => ¬ F j ∧ j ≠ km) Ap np ps) ∧ Hid (RIn wr (fun j => ¬ F j ∧ j ≠ km) 1 Ao no (cellsI of_)) ∧ Hid (St (playD x (l.take k)) ps of_) ∧ ¬ F km ∧ ¬ R km) (fun s _ => n - (intOf s).toNat)
  case atStart => exact ⟨0, _, _, none, 0, 0, none, 0, 0, [], [], Nat.zero_le _, rfl, HL5, HX0, Lib.hid ⟨RIn.none_, fun _ hp => nomatch hp⟩, Lib.hid RIn.none_, Lib.hid st_nil, by have := HS4.out; omega, fun h => h⟩
  case round =>
    obtain ⟨u0, rfl⟩ : ∃ u : World, u = wr := ⟨_, rfl⟩
    obtain ⟨k, F, R, Ap, np, cp, Ao, no, co, ps, of_, hk, rfl, HL, HX, HPI, HOI, HST, hF, hR⟩ := hrel
    have HFR := Lib.hid (show ¬ F km ∧ ¬ R km from ⟨hF, hR⟩)
    have c1 := ((ofB HB0.out HL.out.bel).cell 1).trans rfl
    have m0 := (HX.out.cell 0).trans rfl; have m1 := (HX.out.cell 1).trans rfl; have m2 := (HX.out.cell 2).trans rfl
    clear hF hR
    by_cases hlt : k < n
    case neg =>
      have hk2 : (n : Int) ≤ k := by omega
      go_upto_region 18 with fail
      have HDT : Hid (l.take k = l) := Lib.hid (List.take_of_length_le (by have := HLEN.out; omega))
      rw [HDT.out] at HL HST
      obtain ⟨d, hd⟩ : ∃ d, playD x l = d := ⟨_, rfl⟩
      rw [hd] at HL HST
      clear c1 m0 m2 hd
      have F0 : ∀ z : DFam (DB u0), z.val.cell? ⟨km, 1, none⟩ = some (.slice Ap np cp) := fun z => DB.some_ z m1
      refine wp_region_pb 3 ([0, 2, 3], [(1, ([], [(4, ([5], [(6, [7])]))]))]) [8] (by kernel_rfl) (by kernel_rfl) ?_
      simp only [wpT, List.map_cons, List.map_nil, List.getD_cons_succ, List.getD_cons_zero, List.forall_mem_cons, List.not_mem_nil, false_implies, implies_true, and_true]
      repeat (go_big_quiet_step (fail))
      refine wpQuiet_nil ?_
      clear F0
      go_wp2_with fail
      refine (postings_any F R g x d _ (HL.out.below (Below.refl _ _).drew).ld HL.out.fine).mono ?_
      rintro e w6 ⟨A6, n6, k6, ps6, rfl, hn6, hps6, hb6⟩
      have HB6 : Hid (Below u0.heap.size u0 w6) := Lib.hid (below_next (Below.refl _ _).drew (Nat.le_refl _) hb6)
      have HS6 := Lib.hid hps6; have HN6 := Lib.hid hn6
      have HPR6 := Lib.hid (HPI.out.below HB6.out).psr
      clear hb6 hps6 hn6
      go_wp2_with fail
      refine QN_normal ⟨HB6.out, wpQuiet_nil ?_⟩
      go_wp2_with fail
      refine (same_any A6 Ap n6 k6 np cp _ _ true _ HS6.out.psr HPR6.out (by have := HN6.out; have := HL.out.fine.len; omega) (same_two HS6.out.1 HST.out.map rfl)).mono ?_
      rintro e w7 ⟨rfl, q, rfl⟩
      have HQ7 : Hid (Below w6.heap.size w6 (w6.drewN q)) := Lib.hid ⟨rfl, rfl, rfl, Nat.le_refl _, fun _ _ => rfl⟩
      have HB7 := Lib.hid (below_next HB6.out (Nat.le_refl _) HQ7.out)
      go_wp2_with fail
      refine QN_normal ⟨HB7.out, ?_⟩
      repeat (go_big_quiet_step (fail))
      refine wpQuiet_nil ?_
      go_wp2_with fail
      refine (awake_any _).mono ?_
      rintro e w8 ⟨rfl, hb8⟩
      have HB8 := Lib.hid (below_next HB7.out (Nat.le_refl _) hb8)
      clear hb8
      go_wp2_with fail
      refine QN_normal ⟨HB8.out, ?_⟩
      repeat (go_big_quiet_step (fail))
      refine wpQuiet_nil ?_
      go_wp2_with fail
      go_ret
      exact ⟨rfl, below_next HBX.out (Nat.le_refl _) (below_next HL.out.bel (Nat.le_refl _) HB8.out)⟩
    have hkl : k < l.length := by have := HLEN.out; omega
    obtain ⟨b, off, hA, hb, hc⟩ := HR.out.cells (by omega)
    have HD := Lib.hid (hc k hkl)
    have HLR := Lib.hid (HR.out.2 l[k] (List.getElem_mem _))
    have HPT := Lib.hid (playD_take x l k hkl)
    obtain ⟨o, ho⟩ : ∃ o, l[k] = o := ⟨_, rfl⟩
    rw [ho] at HD HLR HPT
    obtain ⟨d, hd⟩ : ∃ d, playD x (l.take k) = d := ⟨_, rfl⟩
    rw [hd] at HL HPT HST
    have hk1 : (k : Int) < n := by omega
    have hk0 : (0 : Int) ≤ k := by omega
    have HAA := Lib.hid hA
    rw [hA] at c1
    have d0 := keepc HL.out.bel HD.out.1; have d1 := keepc HL.out.bel HD.out.2.1; have d2 := keepc HL.out.bel HD.out.2.2.1; have d3 := keepc HL.out.bel HD.out.2.2.2
    clear hc ho hd hA
    go_upto_region 10 with fail
    have F0 : ∀ z : DFam (DB u0), z.val.cell? ⟨km, 0, none⟩ = some (.int .i64 x) := fun z => DB.some_ z m0
    have F1 : ∀ z : DFam (DB u0), z.val.cell? ⟨km, 1, none⟩ = some (.slice Ap np cp) := fun z => DB.some_ z m1
    have F2 : ∀ z : DFam (DB u0), z.val.cell? ⟨km, 2, none⟩ = some (.slice Ao no co) := fun z => DB.some_ z m2
    have G0 : ∀ z : DFam (DB u0), z.val.cell? ⟨w.heap.size, 1, none⟩ = some (.slice (some ⟨b, off, none⟩) n c) := fun z => DB.some_ z c1
    have G1 : ∀ z : DFam (DB u0), z.val.cell? ⟨b, off + k * 4, none⟩ = some (.int .i64 o.id) := fun z => DB.some_ z d0
    have G2 : ∀ z : DFam (DB u0), z.val.cell? ⟨b, off + k * 4 + 1, none⟩ = some (.int .i64 o.tm) := fun z => DB.some_ z d1
    have G3 : ∀ z : DFam (DB u0), z.val.cell? ⟨b, off + k * 4 + 2, none⟩ = some (.slice o.A o.n o.c) := fun z => DB.some_ z d2
    have G4 : ∀ z : DFam (DB u0), z.val.cell? ⟨b, off + k * 4 + 3, none⟩ = some (.int .i64 o.of_) := fun z => DB.some_ z d3
    have HFU : Hid (∀ j, (F j → j < u0.heap.size) ∧ (R j → j < u0.heap.size) ∧ (j = km → j < u0.heap.size)) := Lib.hid fun j => ⟨HL.out.ld.lt j, HL.out.ld.rlt j, fun e => by rw [e]; exact HX.out.lt⟩
    have HLN := Lib.hid (((HLR.out.below HL.out.bel).more HL.out.bel.size))
    have HLG : Hid (RIn u0 (fun j => ¬ F j ∧ j ≠ km) 2 o.A o.n (cellsLn o.ls)) := Lib.hid (((RIn.of_reads HLR.out (Nat.le_refl _)).below HL.out.bel).mono fun j _ hj => ⟨fun e => by have := HL.out.new_ j e; omega, by have := HMR.out; omega⟩)
    clear c1 d0 d1 d2 d3 m0 m1 m2
    refine wp_region_pb 3 ([0, 1, 2, 3, 4, 5], [(6, ([7, 8, 9], [(10, ([], [(11, [])]))])), (10, ([], [(6, ([7, 8, 9], [(11, [])]))]))]) [12] (by kernel_rfl) (by kernel_rfl) ?_
    simp only [wpT, List.map_cons, List.map_nil, List.getD_cons_succ, List.getD_cons_zero, List.forall_mem_cons, List.not_mem_nil, false_implies, implies_true, and_true]
    repeat (go_big_quiet_step (fail))
    refine wpQuiet_nil ⟨?_, ?_⟩
    case' refine_1 =>
      clear F0 F1 F2 G0 G1 G2 G3 G4
      go_wp2_with fail
      refine (plain_any (fun j => ¬ F j ∧ j ≠ km) x Ap np cp Ao no co ps of_ d o u0.drew HPI.out HOI.out HLG.out (fun j hj => ⟨fun e => by have h1 := (HFU.out j).1 e; have h2 : u0.heap.size ≤ j := hj; omega, fun e => by have h1 := (HFU.out j).2.2 e; have h2 : u0.heap.size ≤ j := hj; omega⟩) HST.out HL.out.fine).mono ?_
      intro e w2 hrp
      obtain ⟨hb2, A2, n2, c2, Ao2, no2, co2, ps1, of1, rfl, hpi2, hoi2, hst2⟩ := RetPn.out HST.out hrp
      have HB3 : Hid (Below u0.heap.size u0 w2) := Lib.hid (below_next (Below.refl _ _).drew (Nat.le_refl _) hb2)
      have HPI2 := Lib.hid hpi2; have HOI2 := Lib.hid hoi2; have HST2 := Lib.hid hst2
      clear hb2 hpi2 hoi2 hst2 hrp
      go_wp2_with fail
      refine QN_normal ⟨HB3.out, ?_⟩
      repeat (go_big_quiet_step (fail))
      refine wpQuiet_nil ?_
      go_wp2_with fail
      refine QN_normal ⟨HB3.out.alloc HB3.out.size _, wpQuiet_nil ?_⟩
      go_wp2_with fail
      obtain ⟨u4, hu4⟩ : ∃ u, w2.alloc (.cells #[.int .i64 x, .slice A2 n2 c2, .slice Ao2 no2 co2] 29) = u := ⟨_, rfl⟩
      have HB4 : Hid (Below u0.heap.size u0 u4) := Lib.hid (by rw [← hu4]; exact HB3.out.alloc HB3.out.size _)
      obtain ⟨kb, hkb⟩ : ∃ k, w2.heap.size = k := ⟨_, rfl⟩
      have HG4 : Hid (Blk u4 kb 29 #[.int .i64 x, .slice A2 n2 c2, .slice Ao2 no2 co2]) := Lib.hid (by rw [← hu4, ← hkb]; exact Blk.new _ _ _)
      have HPI4 : Hid (PsI u4 (fun j => (¬ F j ∧ j ≠ km) ∧ j ≠ kb) A2 n2 ps1) := Lib.hid (by rw [← hu4]; exact (HPI2.out.mono fun j hj hg => ⟨hg, by rw [← hkb]; omega⟩).below ((Below.refl _ _).alloc (Nat.le_refl _) _))
      have HOI4 : Hid (RIn u4 (fun j => (¬ F j ∧ j ≠ km) ∧ j ≠ kb) 1 Ao2 no2 (cellsI of1)) := Lib.hid (by rw [← hu4]; exact (HOI2.out.mono fun j hj hg => ⟨hg, by rw [← hkb]; omega⟩).below ((Below.refl _ _).alloc (Nat.le_refl _) _))
      have HKB : Hid (u0.heap.size ≤ kb) := Lib.hid (by rw [← hkb]; exact HB3.out.size)
      rw [hkb, hu4]
      clear hu4 hkb HPI2 HOI2
      refine QN_normal ⟨HB4.out, wpQuiet_nil ?_⟩
      clear HB3
    case' refine_2 =>
      clear F0 F1 F2 G0 G1 G2 G3 G4
      go_wp2_with fail
      have HB0' : Hid (Below u0.heap.size u0 (u0.drew.alloc (.cells #[.int .i64 0, .slice none 0 0, .slice none 0 0] 29))) := Lib.hid ((Below.refl _ _).drew.alloc (Nat.le_refl _) _)
      refine QN_normal ⟨HB0'.out, wpQuiet_nil ?_⟩
      go_wp2_with fail
      have hsz0 : (u0.drew.alloc (.cells #[.int .i64 0, .slice none 0 0, .slice none 0 0] 29)).heap.size = u0.heap.size + 1 := by simp
      refine (plain_any (fun j => (¬ F j ∧ j ≠ km) ∧ j ≠ u0.heap.size) x Ap np cp Ao no co ps of_ d o (u0.drew.alloc (.cells #[.int .i64 0, .slice none 0 0, .slice none 0 0] 29)) ((HPI.out.mono fun j hj hg => ⟨hg, by omega⟩).below HB0'.out) ((HOI.out.mono fun j hj hg => ⟨hg, by omega⟩).below HB0'.out) ((HLG.out.mono fun j hj hg => ⟨hg, by omega⟩).below HB0'.out) (fun j hj => by rw [hsz0] at hj; exact ⟨⟨fun e => by have h1 := (HFU.out j).1 e; omega, fun e => by have h1 := (HFU.out j).2.2 e; omega⟩, by omega⟩) HST.out HL.out.fine).mono ?_
      intro e w2 hrp
      obtain ⟨hb2, A2, n2, c2, Ao2, no2, co2, ps1, of1, rfl, hpi2, hoi2, hst2⟩ := RetPn.out HST.out hrp
      have HB3 : Hid (Below u0.heap.size u0 w2) := Lib.hid (below_next HB0'.out (Nat.le_refl _) hb2)
      have hG0 : Blk (u0.drew.alloc (.cells #[.int .i64 0, .slice none 0 0, .slice none 0 0] 29)) u0.heap.size 29 #[.int .i64 0, .slice none 0 0, .slice none 0 0] := Blk.new u0.drew _ _
      have hG3 := hG0.below hb2 hG0.lt
      have HG3 := Lib.hid hG3
      have HPI2 := Lib.hid hpi2; have HOI2 := Lib.hid hoi2; have HST2 := Lib.hid hst2
      clear hb2 hpi2 hoi2 hst2 hrp hsz0
      go_wp2_with fail
      refine QN_normal ⟨HB3.out, ?_⟩
      repeat (go_big_quiet_step (fail))
      refine wpQuiet_nil ?_
      have p0 := (hG3.cell 0).trans rfl; have p1 := (hG3.cell 1).trans rfl; have p2 := (hG3.cell 2).trans rfl; have y0 := hG3.frozen 0; have y1 := hG3.frozen 1; have y2 := hG3.frozen 2
      clear hG0 hG3
      go_wp2_with fail
      clear p0 p1 p2 y0 y1 y2
      have HO3 := Lib.hid ((((Only.refl (fun j => j = u0.heap.size) w2).setCell (p := ⟨u0.heap.size, 0, none⟩) (fun _ => rfl) (.int .i64 x)).setCell (p := ⟨u0.heap.size, 1, none⟩) (fun _ => rfl) (.slice A2 n2 c2)).setCell (p := ⟨u0.heap.size, 2, none⟩) (fun _ => rfl) (.slice Ao2 no2 co2))
      have HG5 : Hid (Blk (((w2.setCell ⟨u0.heap.size, 0, none⟩ (.int .i64 x)).setCell ⟨u0.heap.size, 1, none⟩ (.slice A2 n2 c2)).setCell ⟨u0.heap.size, 2, none⟩ (.slice Ao2 no2 co2)) u0.heap.size 29 #[.int .i64 x, .slice A2 n2 c2, .slice Ao2 no2 co2]) := Lib.hid (by simpa using ((HG3.out.set_ 0 (.int .i64 x)).set_ 1 (.slice A2 n2 c2)).set_ 2 (.slice Ao2 no2 co2))
      obtain ⟨u4, hu4⟩ : ∃ u, ((w2.setCell ⟨u0.heap.size, 0, none⟩ (.int .i64 x)).setCell ⟨u0.heap.size, 1, none⟩ (.slice A2 n2 c2)).setCell ⟨u0.heap.size, 2, none⟩ (.slice Ao2 no2 co2) = u := ⟨_, rfl⟩
      rw [hu4] at HO3 HG5 ⊢
      have HB4 : Hid (Below u0.heap.size u0 u4) := Lib.hid (HB3.out.trans (HO3.out.below (fun j _ e => by omega) HB3.out.size))
      obtain ⟨kb, hkb⟩ : ∃ k, u0.heap.size = k := ⟨_, rfl⟩
      have HG4 : Hid (Blk u4 kb 29 #[.int .i64 x, .slice A2 n2 c2, .slice Ao2 no2 co2]) := Lib.hid (by rw [← hkb]; exact HG5.out)
      have HPI4 : Hid (PsI u4 (fun j => (¬ F j ∧ j ≠ km) ∧ j ≠ kb) A2 n2 ps1) := Lib.hid (by rw [← hkb]; exact HPI2.out.keep HO3.out fun j hj e => hj.2 e)
      have HOI4 : Hid (RIn u4 (fun j => (¬ F j ∧ j ≠ km) ∧ j ≠ kb) 1 Ao2 no2 (cellsI of1)) := Lib.hid (by rw [← hkb]; exact HOI2.out.keep HO3.out fun j _ hj e => hj.2 e)
      have HKB : Hid (u0.heap.size ≤ kb) := Lib.hid (Nat.le_of_eq hkb)
      have HGW := Lib.hid hkb
      clear hu4 hkb HPI2 HOI2 HG3 HG5 HO3 HB0'
      refine QN_normal ⟨HB4.out, wpQuiet_nil ?_⟩
      rw [HGW.out]
      clear HB3
    all_goals
      have HL4 := Lib.hid (HL.out.below HB4.out)
      have HSZ4 : Hid (u0.heap.size ≤ u4.heap.size ∧ km < u0.heap.size) := Lib.hid ⟨HB4.out.size, HX.out.lt⟩
      have c1 := ((ofB HB0.out HL4.out.bel).cell 1).trans rfl
      rw [HAA.out] at c1
      have d0 := keepc HL4.out.bel HD.out.1; have d1 := keepc HL4.out.bel HD.out.2.1; have d2 := keepc HL4.out.bel HD.out.2.2.1; have d3 := keepc HL4.out.bel HD.out.2.2.2
      have HLR4 := Lib.hid ((HLR.out.below HL4.out.bel).more HL4.out.bel.size)
      go_wp2_with fail
      refine (do_any F R g x d o _ HL4.out.ld HL4.out.fine HLR4.out).mono ?_
      intro e v5 hp
      obtain ⟨rfl, hO, F1, R1, hF1, hR1, L5⟩ := HL4.out.next2 (HL4.out.fine.doD o) hp
      have HFs := Lib.hid hF1; have HRs := Lib.hid hR1; have HL5' := Lib.hid L5
      have HXk := Lib.hid (hO.blk (ofB HX.out HB4.out) HFR.out.1)
      have HGk := Lib.hid (hO.blk HG4.out fun e => by have h1 := (HFU.out kb).1 e; have h2 := HKB.out; omega)
      have HPI5 := Lib.hid ((HPI4.out.mono (G' := fun j => (¬ F j ∧ j ≠ km) ∧ j < u4.heap.size) fun j hj hg => ⟨hg.1, hj⟩).keep hO fun j hj e => hj.1.1 e)
      have HOI5 := Lib.hid ((HOI4.out.mono (G' := fun j => (¬ F j ∧ j ≠ km) ∧ j < u4.heap.size) fun j hj hg => ⟨hg.1, hj⟩).keep hO fun j _ hj e => hj.1.1 e)
      clear hp hO hF1 hR1 L5 c1 d0 d1 d2 d3
      have q0 := (HGk.out.cell 0).trans rfl; have q1 := (HGk.out.cell 1).trans rfl; have q2 := (HGk.out.cell 2).trans rfl
      have m0 := (HXk.out.cell 0).trans rfl; have m1 := (HXk.out.cell 1).trans rfl; have m2 := (HXk.out.cell 2).trans rfl
      have z0 := HXk.out.frozen 0; have z1 := HXk.out.frozen 1; have z2 := HXk.out.frozen 2
      have hkk : kb ≠ km := by have h1 := HKB.out; have h2 := HSZ4.out.2; omega
      obtain ⟨E, hE⟩ : ∃ E, doE x d o = E := ⟨_, rfl⟩
      rw [hE]
      have ee : (E != E) = false := by simp
      obtain ⟨dn, hdn⟩ : ∃ dn, doD x d o = dn := ⟨_, rfl⟩
      rw [hdn] at HL5' HST2 HPT
      clear hE hdn
      go_wp2_with fail
      clear q0 q1 q2 m0 m1 m2 z0 z1 z2
      have HO6 := Lib.hid ((((Only.refl (fun j => j = km) v5).setCell (p := ⟨km, 0, none⟩) (fun _ => rfl) (.int .i64 x)).setCell (p := ⟨km, 1, none⟩) (fun _ => rfl) (.slice A2 n2 c2)).setCell (p := ⟨km, 2, none⟩) (fun _ => rfl) (.slice Ao2 no2 co2))
      have HX6 : Hid (Blk (((v5.setCell ⟨km, 0, none⟩ (.int .i64 x)).setCell ⟨km, 1, none⟩ (.slice A2 n2 c2)).setCell ⟨km, 2, none⟩ (.slice Ao2 no2 co2)) km 29 #[.int .i64 x, .slice A2 n2 c2, .slice Ao2 no2 co2]) := Lib.hid (by simpa using ((HXk.out.set_ 0 (.int .i64 x)).set_ 1 (.slice A2 n2 c2)).set_ 2 (.slice Ao2 no2 co2))
      obtain ⟨v6, hv6⟩ : ∃ u, ((v5.setCell ⟨km, 0, none⟩ (.int .i64 x)).setCell ⟨km, 1, none⟩ (.slice A2 n2 c2)).setCell ⟨km, 2, none⟩ (.slice Ao2 no2 co2) = u := ⟨_, rfl⟩
      rw [hv6] at HO6 HX6 ⊢
      clear hv6
      have HFR1 : Hid (¬ F1 km ∧ ¬ R1 km) := Lib.hid ⟨fun e => by
        rcases HFs.out km e with h | h
        · exact HFR.out.1 h
        · have h2 := HSZ4.out; omega, fun e => by
        rcases HRs.out km e with h | h
        · exact HFR.out.2 h
        · have h2 := HSZ4.out; omega⟩
      have HL6 := Lib.hid (HL5'.out.only HO6.out (fun j hj e => by
        have e2 : j = km := e
        subst e2
        rcases hj with hj | hj
        · exact HFR1.out.1 hj
        · exact HFR1.out.2 hj) (fun j e => by have e2 : j = km := e; have h2 := HMR.out; omega))
      have HPI6 : Hid (PsI v6 (fun j => ¬ F1 j ∧ j ≠ km) A2 n2 ps1) := Lib.hid ((HPI5.out.keep HO6.out fun j hj e => hj.1.2 e).mono fun j _ hj => ⟨fun e => by
        rcases HFs.out j e with h | h
        · exact hj.1.1 h
        · have := hj.2; omega, hj.1.2⟩)
      have HOI6 : Hid (RIn v6 (fun j => ¬ F1 j ∧ j ≠ km) 1 Ao2 no2 (cellsI of1)) := Lib.hid ((HOI5.out.keep HO6.out fun j _ hj e => hj.1.2 e).mono fun j _ hj => ⟨fun e => by
        rcases HFs.out j e with h | h
        · exact hj.1.1 h
        · have := hj.2; omega, hj.1.2⟩)
      obtain ⟨Y, hY⟩ : ∃ Y, balE x a t = Y := ⟨_, rfl⟩
      obtain ⟨X, hX⟩ : ∃ X, balX x dn a t = X := ⟨_, rfl⟩
      have HY := Lib.hid hY; have HX9 := Lib.hid hX
      clear hX hY
      refine (balance_any F1 R1 g x dn a t X Y _ HL6.out.ld HL6.out.fine HY.out HX9.out).mono ?_
      rintro e v7 ⟨rfl, hb7⟩
      have HL7 := Lib.hid (HL6.out.below hb7); have HX7 := Lib.hid (ofB HX6.out hb7)
      have HPI7 := Lib.hid (HPI6.out.below hb7); have HOI7 := Lib.hid (HOI6.out.below hb7)
      have m0 := (HX7.out.cell 0).trans rfl; have m1 := (HX7.out.cell 1).trans rfl; have m2 := (HX7.out.cell 2).trans rfl
      clear hb7
      go_wp2_with fail
      refine (rbalance_any x A2 n2 c2 Ao2 no2 co2 ps1 dn a t X Y _ HPI7.out.psr HST2.out.map HL7.out.fine HY.out HX9.out).mono ?_
      rintro e v8 ⟨rfl, hb8⟩
      have HL8 := Lib.hid (HL7.out.below hb8); have HX8 := Lib.hid (ofB HX7.out hb8)
      have HPI8 := Lib.hid (HPI7.out.below hb8); have HOI8 := Lib.hid (HOI7.out.below hb8)
      have xx : (X != X) = false := by simp
      have yy : (Y != Y) = false := by simp
      clear hb8 m0 m1 m2
      go_wp2_with fail
      go_roundw
      case rel => exact ⟨k + 1, F1, R1, A2, n2, c2, Ao2, no2, co2, ps1, of1, by omega, by go_num, Lib.hid (by rw [HPT.out]; exact HL8.out), HX8, HPI8, HOI8, Lib.hid (by rw [HPT.out]; exact HST2.out), HFR1.out.1, HFR1.out.2⟩
      case measure => simp [intOf]; omega
end Go.Proofs.Ytoammbjnejdgpaa
