/- The walks of the statements ZonePoints, ZoneGrows. -/
import Derived.Test.YtgjfidknedojbaaZoneN
import Derived.Lib.MinMax
namespace Go.Proofs.Ytgjfidknedojbaa
open Go.RowKit
theorem point_law {l : List Zn} {p : Pt} {i : Nat} (h : sureZ l p 0 = some i) : ∀ m, m < l.length → insE (zAt l m).p p = 0 ∧ (0 ≤ insZ (zAt l m).p p → (zAt l m).r ≤ (zAt l i).r) ∧ (m = i → 0 ≤ insZ (zAt l m).p p) := fun m hm => by
  obtain ⟨ho, hi, hc, ht⟩ := sure_inv h
  obtain ⟨a1, a2, _⟩ := okD_pt ho hm
  have e : insE (zAt l m).p p = 0 := by unfold insE; rw [if_pos a1, if_pos a2]
  refine ⟨e, fun g => ht m hm ((ins_cover ho hm).2.1 (ins_yes e g)), fun hmi => ?_⟩
  subst hmi
  have := (ins_cover ho hm).1.2 hc
  unfold insB at this
  rw [Bool.and_eq_true] at this
  exact of_decide_eq_true this.2
set_option maxHeartbeats 8000000 in
set_option maxRecDepth 20000 in
theorem zonePoints_t (A : Option Addr) (n c : Nat) (l : List Zn) (p : Pt) (i0 : Nat) (w : World) (hn' : n ≤ 9223372036854775807) (hnc : n ≤ c) (HL : Hid (l.length = n)) (hi0 : i0 < n) (HZA : Hid (∀ u, Below w.heap.size w u → ZR u A n l)) (HF : Hid (fewB l = true)) (H1 : Hid (numO (sureZ l p 0) = (i0 : Int))) (H2 : Hid ((sureZ l p 0).isSome = true)) (HX : Hid (possZ l p 0 = [i0]))
    (HLAW : Hid (∀ m, m < l.length → insE (zAt l m).p p = 0 ∧ (0 ≤ insZ (zAt l m).p p → (zAt l m).r ≤ (zAt l i0).r) ∧ (m = i0 → 0 ≤ insZ (zAt l m).p p))) : Calls Try.prog 7 #[.slice A n c, aggP p] w (AwakePost w) := by
  obtain ⟨kk, hK⟩ := box1K w 28 #[.int .i64 p.1, .int .i64 p.2]
  have HK := Lib.hid hK
  clear hK
  obtain ⟨B0, hbb⟩ := HK.out _ kk
  have c00 := B0.cell 0
  have c01 := B0.cell 1
  have HB := Lib.hid hbb
  clear B0 hbb
  have hi1 : (i0 : Int) < n := by omega
  have hi2 : (0 : Int) ≤ i0 := by omega
  have hi3 : ¬ ((n : Int) ≤ i0) := by omega
  have hi4 : ¬ ((i0 : Int) < 0) := by omega
  go_enter Try.func7, Try.ntmps7
  go_wp2_with fail
  refine (few_any A n c l true _ (HZA.out _ HB.out) hn' HF.out).mono ?_
  rintro e w1 ⟨rfl, hb1⟩
  replace kk := below_next kk (Nat.le_refl _) hb1
  clear c00 c01 HB hb1
  obtain ⟨B0, hbb⟩ := HK.out _ kk
  have c00 := B0.cell 0
  have c01 := B0.cell 1
  have HB := Lib.hid hbb
  clear B0 hbb
  go_wp2_with fail
  refine (find_nb A n c l p i0 true _ (HZA.out _ HB.out) hn' hnc H1.out H2.out).mono ?_
  rintro e w2 ⟨rfl, hb2⟩
  replace kk := below_next kk (Nat.le_refl _) hb2
  clear c00 c01 HB hb2
  obtain ⟨B0, hbb⟩ := HK.out _ kk
  have c00 := B0.cell 0
  have c01 := B0.cell 1
  have HB := Lib.hid hbb
  clear B0 hbb
  go_wp2_with fail
  refine (sure_nb A n c l p 0 i0 true _ (HZA.out _ HB.out) hn' hnc H1.out H2.out).mono ?_
  rintro e w3 ⟨rfl, hb3⟩
  replace kk := below_next kk (Nat.le_refl _) hb3
  clear c00 c01 HB hb3
  obtain ⟨B0, hbb⟩ := HK.out _ kk
  have c00 := B0.cell 0
  have c01 := B0.cell 1
  have HB := Lib.hid hbb
  clear B0 hbb
  go_wp2_with fail
  refine (poss_any A n c l p 0 [i0] _ (HZA.out _ HB.out) hn' hnc HX.out).mono ?_
  rintro e w6 ⟨hb6, P1, n1, c1, rfl, p1, hl1, hm1⟩
  replace kk := below_next kk (Nat.le_refl _) hb6
  have HP := Lib.hid p1
  clear c00 c01 HB hb6 hl1 p1
  obtain ⟨B0, hbb⟩ := HK.out _ kk
  have c00 := B0.cell 0
  have c01 := B0.cell 1
  have HB := Lib.hid hbb
  clear B0 hbb
  go_wp2_with fail
  have HF6 := Lib.hid (Reads.fresh w6 3 #[.int .i64 (i0 : Int)] 1 1 rfl)
  replace kk := kk.alloc kk.size (.cells #[.int .i64 (i0 : Int)] 3)
  have HP6 := Lib.hid ((HP.out.alloc (Nat.le_refl _) (.cells #[.int .i64 (i0 : Int)] 3)).more (show w6.heap.size ≤ (w6.alloc (.cells #[.int .i64 (i0 : Int)] 3)).heap.size by simp))
  replace HF6 := Lib.hid (HF6.out.more (show w6.heap.size + 1 ≤ (w6.alloc (.cells #[.int .i64 (i0 : Int)] 3)).heap.size by simp))
  refine (same_any P1 (some ⟨w6.heap.size, 0, none⟩) n1 c1 1 1 (ints [i0]) [(i0 : Int)] true _ HP6.out HF6.out hm1 (decide_eq_true rfl)).mono ?_
  rintro e w7 ⟨rfl, hb7⟩
  replace kk := below_next kk (Nat.le_refl _) hb7
  clear c00 c01 HB hb7 HF6 HP6 HP
  have HKK := Lib.hid kk
  clear kk
  go_wp2_with fail
  go_loopw [10] (fun s wr => ∃ k : Nat, k ≤ n ∧ s = .int .i64 k ∧ Below w7.heap.size w7 wr) (fun s _ => n - (intOf s).toNat)
  case atStart => exact ⟨0, Nat.zero_le _, rfl, Below.refl _ _⟩
  case round =>
    obtain ⟨k, hk, rfl, hbw⟩ := hrel
    have HBW := Lib.hid hbw
    have hkr := below_next HKK.out (Nat.le_refl _) hbw
    obtain ⟨B0, hbb⟩ := HK.out _ hkr
    have HB0 := Lib.hid B0; have HBB := Lib.hid hbb
    have HZr := Lib.hid (HZA.out _ hbb)
    clear hbw hkr B0 hbb
    by_cases hlt : k < n
    · have hkl : k < l.length := by have := HL.out; omega
      have hil : i0 < l.length := by have := HL.out; omega
      obtain ⟨b, off, rfl, hb, hc⟩ := HZr.out.cells (by omega)
      obtain ⟨d0, d1, d2⟩ := hc k hkl
      obtain ⟨_, _, q2⟩ := hc i0 hil
      have hk0 : (0 : Int) ≤ k := by omega
      have hk1 : (k : Int) < n := by omega
      have HOK := Lib.hid (HZr.out.2.1 _ (List.getElem_mem hkl))
      have hzn := HOK.out.2.1
      obtain ⟨l1, l2, l3⟩ := HLAW.out k hkl
      rw [zAt_get hkl] at l1 l2 l3
      rw [zAt_get hil] at l2
      obtain ⟨rk, hrk⟩ : ∃ r, l[k].r = r := ⟨_, rfl⟩
      obtain ⟨rq, hrq⟩ : ∃ r, l[i0].r = r := ⟨_, rfl⟩
      rw [hrk] at d2 l2; rw [hrq] at q2 l2
      obtain ⟨i, hi⟩ : ∃ i, insZ l[k].p p = i := ⟨_, rfl⟩
      rw [hi] at l2 l3
      have HV' : Hid (rinsE l[k].p p = 0) := Lib.hid (by rw [← insE_eq]; exact l1)
      have HI' : Hid (rinsZ l[k].p p = i) := Lib.hid (by rw [← insZ_eq]; exact hi)
      have F1 : ∀ z : Fam wr, z.val.cell? ⟨b, off + k * 3 + 1, none⟩ = some (.slice l[k].A l[k].n l[k].c) := fun z => z.some_ d1
      have F2 : ∀ z : Fam wr, z.val.cell? ⟨w.heap.size, 0, none⟩ = some (.int .i64 p.1) := fun z => (z.blk HB0.out).cell 0
      have F3 : ∀ z : Fam wr, z.val.cell? ⟨w.heap.size, 1, none⟩ = some (.int .i64 p.2) := fun z => (z.blk HB0.out).cell 1
      have F4 : Hid (∀ z : Fam wr, z.val.cell? ⟨b, off + k * 3 + 2, none⟩ = some (.int .i64 rk)) := Lib.hid fun z => z.some_ d2
      have F5 : Hid (∀ z : Fam wr, z.val.cell? ⟨b, off + i0 * 3 + 2, none⟩ = some (.int .i64 rq)) := Lib.hid fun z => z.some_ q2
      have hcs : (decide (0 ≤ i) = true ∧ decide (i < 0) = false ∧ decide (rq < rk) = false ∧ (((k : Int) == (i0 : Int)) = true ∨ ((k : Int) == (i0 : Int)) = false)) ∨ (decide (0 ≤ i) = false ∧ ((k : Int) == (i0 : Int)) = false) := by
        rcases Int.lt_or_le i 0 with g | g
        · right
          refine ⟨decide_eq_false (by omega), ?_⟩
          have : k ≠ i0 := fun e => by have := l3 e; omega
          simp; omega
        · left
          refine ⟨decide_eq_true g, decide_eq_false (by omega), decide_eq_false (by have := l2 g; omega), ?_⟩
          cases ((k : Int) == (i0 : Int))
          · exact .inr rfl
          · exact .inl rfl
      clear hc d0 d1 d2 q2 l1 l2 l3 hi hrk hrq
      rcases hcs with ⟨t1, t2, t3, t4 | t4⟩ | ⟨t1, t4⟩
      all_goals
        go_wp2_with fail
        refine wp_region_fam (by kernel_rfl) (by kernel_rfl) ?_
        repeat (go_big_quiet_step ((go_at_call 24; exact fam_call (rinside_any l[k].A l[k].n l[k].c l[k].p p i 0 _ (Fam.reads _ HOK.out.1) hzn HI'.out HV'.out))))
        refine wpQuiet_nil ?_
        rintro _ ⟨z1, rfl⟩
        have G4 : ∀ z : Fam z1.val, z.val.cell? ⟨b, off + k * 3 + 2, none⟩ = some (.int .i64 rk) := fun z => z.some_ (F4.out z1)
        have G5 : ∀ z : Fam z1.val, z.val.cell? ⟨b, off + i0 * 3 + 2, none⟩ = some (.int .i64 rq) := fun z => z.some_ (F5.out z1)
        clear F1 F2 F3
        go_wp2_with fail
        refine wp_region_fam (by kernel_rfl) (by kernel_rfl) ?_
        repeat (go_big_quiet_step (fail))
        refine wpQuiet_nil ?_
        rintro _ ⟨z2, rfl⟩
        clear G4 G5
        go_wp2_with fail
        go_roundw
        case rel => exact ⟨k + 1, by omega, by go_num, below_next HBW.out (Nat.le_refl _) (below_next z1.prop (Nat.le_refl _) z2.prop)⟩
        case measure => simp [intOf]; omega
    · go_wp2_with fail
      refine (awake_any _).mono ?_
      rintro e w9 ⟨rfl, hb9⟩
      go_wp2_with fail
      go_ret
      exact ⟨rfl, below_next HBB.out (Nat.le_refl _) hb9⟩
set_option maxHeartbeats 4000000 in
theorem zonePoints_walk (A : Option Addr) (n c : Nat) (l : List Zn) (p : Pt) (w : World) (h : ZR w A n l) (hnc : n ≤ c) (hc : c ≤ maxLen) : Calls Try.prog 7 #[.slice A n c, aggP p] w (AwakePost w) := by
  have hn' : n ≤ 9223372036854775807 := Nat.le_trans hnc hc
  have HZA : Hid (∀ u, Below w.heap.size w u → ZR u A n l) := Lib.hid fun u hu => h.below hu
  have HL := Lib.hid h.2.2
  obtain ⟨f, hf⟩ : ∃ f, fewB l = f := ⟨_, rfl⟩
  have HF := Lib.hid hf
  clear h hf hc
  rcases f with _ | _
  · skip
    obtain ⟨kk, hK⟩ := box1K w 28 #[.int .i64 p.1, .int .i64 p.2]
    have HK := Lib.hid hK
    clear hK
    obtain ⟨B0, hbb⟩ := HK.out _ kk
    have c00 := B0.cell 0
    have c01 := B0.cell 1
    have HB := Lib.hid hbb
    clear B0 hbb
    go_enter Try.func7, Try.ntmps7
    go_wp2_with fail
    refine (few_any A n c l false _ (HZA.out _ HB.out) hn' HF.out).mono ?_
    rintro e w1 ⟨rfl, hb1⟩
    replace kk := below_next kk (Nat.le_refl _) hb1
    clear c00 c01 HB hb1
    obtain ⟨B0, hbb⟩ := HK.out _ kk
    have c00 := B0.cell 0
    have c01 := B0.cell 1
    have HB := Lib.hid hbb
    clear B0 hbb
    go_wp2_with fail
    refine (awake_any _).mono ?_
    rintro e w2 ⟨rfl, hb2⟩
    replace kk := below_next kk (Nat.le_refl _) hb2
    clear c00 c01 HB hb2
    obtain ⟨B0, hbb⟩ := HK.out _ kk
    have c00 := B0.cell 0
    have c01 := B0.cell 1
    have HB := Lib.hid hbb
    clear B0 hbb
    go_wp2_with fail
    go_ret
    exact ⟨rfl, HB.out⟩
  rcases hs : sureZ l p 0 with _ | i0
  · have H1 : Hid (numO (sureZ l p 0) = 0) := Lib.hid (by rw [hs]; rfl)
    have H2 : Hid ((sureZ l p 0).isSome = false) := Lib.hid (by rw [hs]; rfl)
    have HX : Hid (possZ l p 0 = []) := Lib.hid (none_poss hs)
    clear hs
    obtain ⟨kk, hK⟩ := box1K w 28 #[.int .i64 p.1, .int .i64 p.2]
    have HK := Lib.hid hK
    clear hK
    obtain ⟨B0, hbb⟩ := HK.out _ kk
    have c00 := B0.cell 0
    have c01 := B0.cell 1
    have HB := Lib.hid hbb
    clear B0 hbb
    go_enter Try.func7, Try.ntmps7
    go_wp2_with fail
    refine (few_any A n c l true _ (HZA.out _ HB.out) hn' HF.out).mono ?_
    rintro e w1 ⟨rfl, hb1⟩
    replace kk := below_next kk (Nat.le_refl _) hb1
    clear c00 c01 HB hb1
    obtain ⟨B0, hbb⟩ := HK.out _ kk
    have c00 := B0.cell 0
    have c01 := B0.cell 1
    have HB := Lib.hid hbb
    clear B0 hbb
    go_wp2_with fail
    refine (find_nb A n c l p 0 false _ (HZA.out _ HB.out) hn' hnc H1.out H2.out).mono ?_
    rintro e w2 ⟨rfl, hb2⟩
    replace kk := below_next kk (Nat.le_refl _) hb2
    clear c00 c01 HB hb2
    obtain ⟨B0, hbb⟩ := HK.out _ kk
    have c00 := B0.cell 0
    have c01 := B0.cell 1
    have HB := Lib.hid hbb
    clear B0 hbb
    go_wp2_with fail
    refine (sure_nb A n c l p 0 0 false _ (HZA.out _ HB.out) hn' hnc H1.out H2.out).mono ?_
    rintro e w3 ⟨rfl, hb3⟩
    replace kk := below_next kk (Nat.le_refl _) hb3
    clear c00 c01 HB hb3
    obtain ⟨B0, hbb⟩ := HK.out _ kk
    have c00 := B0.cell 0
    have c01 := B0.cell 1
    have HB := Lib.hid hbb
    clear B0 hbb
    go_wp2_with fail
    refine (poss_any A n c l p 0 [] _ (HZA.out _ HB.out) hn' hnc HX.out).mono ?_
    rintro e w6 ⟨hb6, P1, n1, c1, rfl, p1, hl1, hm1⟩
    replace kk := below_next kk (Nat.le_refl _) hb6
    obtain rfl : n1 = 0 := hl1
    clear c00 c01 HB hb6 p1
    obtain ⟨B0, hbb⟩ := HK.out _ kk
    have c00 := B0.cell 0
    have c01 := B0.cell 1
    have HB := Lib.hid hbb
    clear B0 hbb
    go_wp2_with fail
    refine (awake_any _).mono ?_
    rintro e w4 ⟨rfl, hb4⟩
    replace kk := below_next kk (Nat.le_refl _) hb4
    clear c00 c01 HB hb4
    obtain ⟨B0, hbb⟩ := HK.out _ kk
    have c00 := B0.cell 0
    have c01 := B0.cell 1
    have HB := Lib.hid hbb
    clear B0 hbb
    go_wp2_with fail
    go_ret
    exact ⟨rfl, HB.out⟩
  · exact zonePoints_t A n c l p i0 w hn' hnc HL (by have := (sure_inv hs).2.1; have := HL.out; omega) HZA HF (Lib.hid (by rw [hs]; rfl)) (Lib.hid (by rw [hs]; rfl)) (Lib.hid (sure_poss hs)) (Lib.hid (point_law hs))
set_option maxHeartbeats 8000000 in
set_option maxRecDepth 20000 in
theorem zoneGrows_walk (A : Option Addr) (n c : Nat) (l : List Zn) (p : Pt) (q : Int × Int) (w : World) (h : ZR w A n l) (hnc : n ≤ c) (hc : c ≤ maxLen) : Calls Try.prog 8 #[.slice A n c, aggP p, .agg #[.int .i64 q.1, .int .i64 q.2]] w (AwakePost w) := by
  have hn' : n ≤ 9223372036854775807 := Nat.le_trans hnc hc
  have HZA : Hid (∀ u, Below w.heap.size w u → ZR u A n l) := Lib.hid fun u hu => h.below hu
  obtain ⟨f, hf⟩ : ∃ f, fewB l = f := ⟨_, rfl⟩
  have HF := Lib.hid hf
  clear h hf hc
  obtain ⟨kk, hK⟩ := box2K w 28 46 #[.int .i64 p.1, .int .i64 p.2] #[.int .i64 q.1, .int .i64 q.2]
  have HK := Lib.hid hK
  clear hK
  obtain ⟨B0, B1, hbb⟩ := HK.out _ kk
  have c00 := B0.cell 0
  have c01 := B0.cell 1
  have c10 := B1.cell 0
  have c11 := B1.cell 1
  have HB := Lib.hid hbb
  clear B0 B1 hbb
  obtain ⟨r, hr⟩ : ∃ m, min q.1 q.2 = m := ⟨_, rfl⟩
  obtain ⟨s, hs⟩ : ∃ m, max q.1 q.2 = m := ⟨_, rfl⟩
  have hrs : r ≤ s := by omega
  have k1 : ∀ (ts : Array TypeId) (ty : TypeId) (u : World), (Builtin.min_ ts ty #[.int .i64 q.1, .int .i64 q.2]).run Try.prog u = .ok (.int .i64 r) u := fun ts ty u => by rw [Lib.run_min_ints, hr]
  have k2 : ∀ (ts : Array TypeId) (ty : TypeId) (u : World), (Builtin.max_ ts ty #[.int .i64 q.1, .int .i64 q.2]).run Try.prog u = .ok (.int .i64 s) u := fun ts ty u => by rw [Lib.run_max_ints, hs]
  clear hr hs
  rcases f with _ | _
  · go_enter Try.func8, Try.ntmps8
    go_wp2_with fail
    have F00 : ∀ z : Fam _, z.val.cell? ⟨w.heap.size, 0, none⟩ = some (.int .i64 p.1) := fun z => z.some_ c00
    have F01 : ∀ z : Fam _, z.val.cell? ⟨w.heap.size, 1, none⟩ = some (.int .i64 p.2) := fun z => z.some_ c01
    have F10 : ∀ z : Fam _, z.val.cell? ⟨w.heap.size + 1, 0, none⟩ = some (.int .i64 q.1) := fun z => z.some_ c10
    have F11 : ∀ z : Fam _, z.val.cell? ⟨w.heap.size + 1, 1, none⟩ = some (.int .i64 q.2) := fun z => z.some_ c11
    clear c00 c01 c10 c11
    refine wp_region_fam (by kernel_rfl) (by kernel_rfl) ?_
    repeat (go_big_quiet_step (((fail))))
    refine wpQuiet_nil ?_
    rintro _ ⟨z1, rfl⟩
    replace kk := below_next kk (Nat.le_refl _) z1.prop
    clear HB F00 F01 F10 F11
    obtain ⟨B0, B1, hbb⟩ := HK.out _ kk
    have c00 := B0.cell 0
    have c01 := B0.cell 1
    have c10 := B1.cell 0
    have c11 := B1.cell 1
    have HB := Lib.hid hbb
    clear B0 B1 hbb
    go_wp2_with fail
    refine (few_any A n c l false _ (HZA.out _ HB.out) hn' HF.out).mono ?_
    rintro e w2 ⟨rfl, hb2⟩
    replace kk := below_next kk (Nat.le_refl _) hb2
    clear c00 c01 c10 c11 HB hb2
    obtain ⟨B0, B1, hbb⟩ := HK.out _ kk
    have c00 := B0.cell 0
    have c01 := B0.cell 1
    have c10 := B1.cell 0
    have c11 := B1.cell 1
    have HB := Lib.hid hbb
    clear B0 B1 hbb
    go_wp2_with fail
    refine (awake_any _).mono ?_
    rintro e w3 ⟨rfl, hb3⟩
    replace kk := below_next kk (Nat.le_refl _) hb3
    clear c00 c01 c10 c11 HB hb3
    obtain ⟨B0, B1, hbb⟩ := HK.out _ kk
    have c00 := B0.cell 0
    have c01 := B0.cell 1
    have c10 := B1.cell 0
    have c11 := B1.cell 1
    have HB := Lib.hid hbb
    clear B0 B1 hbb
    go_wp2_with fail
    go_ret
    exact ⟨rfl, HB.out⟩
  by_cases hin : 0 ≤ r ∧ s ≤ 16384
  · obtain ⟨g1, g2⟩ := hin
    obtain ⟨x, hx⟩ : ∃ x, possZ l p r = x := ⟨_, rfl⟩
    obtain ⟨y, hy⟩ : ∃ x, possZ l p s = x := ⟨_, rfl⟩
    have HX := Lib.hid hx; have HY := Lib.hid hy
    have HXY : Hid (∀ k, k ∈ x → k ∈ y) := Lib.hid fun k hk => by rw [← hy]; rw [← hx] at hk; exact poss_grow g1 hrs g2 hk
    obtain ⟨ir, br, h1, h2⟩ := retIO_gen (l := l) (p := p) (r := r)
    obtain ⟨is, bs, h3, h4⟩ := retIO_gen (l := l) (p := p) (r := s)
    have H1 := Lib.hid h1; have H2 := Lib.hid h2; have H3 := Lib.hid h3; have H4 := Lib.hid h4
    have hcs : bs = false ∨ (bs = true ∧ br = true ∧ ir = is) := by
      rcases hh : sureZ l p s with _ | i
      · left; rw [← h4, hh]; rfl
      · right
        have := sure_grow g1 hrs g2 hh
        rw [hh] at h3 h4; rw [this] at h1 h2
        exact ⟨by rw [← h4]; rfl, by rw [← h2]; rfl, by rw [← h1, ← h3]⟩
    have HCS := Lib.hid hcs
    clear hx hy h1 h2 h3 h4 hcs
    go_enter Try.func8, Try.ntmps8
    go_wp2_with fail
    have F00 : ∀ z : Fam _, z.val.cell? ⟨w.heap.size, 0, none⟩ = some (.int .i64 p.1) := fun z => z.some_ c00
    have F01 : ∀ z : Fam _, z.val.cell? ⟨w.heap.size, 1, none⟩ = some (.int .i64 p.2) := fun z => z.some_ c01
    have F10 : ∀ z : Fam _, z.val.cell? ⟨w.heap.size + 1, 0, none⟩ = some (.int .i64 q.1) := fun z => z.some_ c10
    have F11 : ∀ z : Fam _, z.val.cell? ⟨w.heap.size + 1, 1, none⟩ = some (.int .i64 q.2) := fun z => z.some_ c11
    clear c00 c01 c10 c11
    refine wp_region_fam (by kernel_rfl) (by kernel_rfl) ?_
    repeat (go_big_quiet_step (((fail))))
    refine wpQuiet_nil ?_
    rintro _ ⟨z4, rfl⟩
    replace kk := below_next kk (Nat.le_refl _) z4.prop
    clear HB F00 F01 F10 F11
    obtain ⟨B0, B1, hbb⟩ := HK.out _ kk
    have c00 := B0.cell 0
    have c01 := B0.cell 1
    have c10 := B1.cell 0
    have c11 := B1.cell 1
    have HB := Lib.hid hbb
    clear B0 B1 hbb
    go_wp2_with fail
    refine (few_any A n c l true _ (HZA.out _ HB.out) hn' HF.out).mono ?_
    rintro e w5 ⟨rfl, hb5⟩
    replace kk := below_next kk (Nat.le_refl _) hb5
    clear c00 c01 c10 c11 HB hb5
    obtain ⟨B0, B1, hbb⟩ := HK.out _ kk
    have c00 := B0.cell 0
    have c01 := B0.cell 1
    have c10 := B1.cell 0
    have c11 := B1.cell 1
    have HB := Lib.hid hbb
    clear B0 B1 hbb
    clear k1 k2 c10 c11 HB
    go_upto_region 4 with fail
    obtain ⟨K, hKK⟩ : ∃ K : World, K = ((w.alloc (.cells #[.int .i64 p.1, .int .i64 p.2] 28)).alloc (.cells #[.int .i64 q.1, .int .i64 q.2] 46)) := ⟨_, rfl⟩
    have HKX := Lib.hid HK.out
    rw [← hKK] at kk HKX
    have KS : ∀ {w'}, Below K.heap.size K w' → (w'.cell? ⟨w.heap.size, 0, none⟩ = some (.int .i64 p.1) ∧ w'.cell? ⟨w.heap.size, 1, none⟩ = some (.int .i64 p.2)) := fun h => ⟨((HKX.out _ h).1.cell 0).trans rfl, ((HKX.out _ h).1.cell 1).trans rfl⟩
    clear hKK c00 c01
    obtain ⟨c00, c01⟩ := KS kk
    go_region_held3 (fun w' => w'.cell? ⟨w.heap.size, 0, none⟩ = some (.int .i64 p.1) ∧ w'.cell? ⟨w.heap.size, 1, none⟩ = some (.int .i64 p.2)) (first | exact KS kk | exact KS (below_drew_ kk) | go_keep)
      (first
        | (go_at_call 19; (with_reducible show Calls Try.prog 19 #[.slice A n c, _, .int .i64 r] _ _); refine (poss_any A n c l p r x _ (HZA.out _ (HKX.out _ kk).2.2) hn' hnc HX.out).mono ?_; rintro e w5 ⟨hb, P1, n1, c1, rfl, p1, hl, hm1⟩; have HN1 := Lib.hid hl; clear hl; have q1 := ((q1).below hb).more hb.size; have kk := below_next kk (Nat.le_refl _) hb; clear hb)
        | (go_at_call 19; (with_reducible show Calls Try.prog 19 #[.slice A n c, _, .int .i64 s] _ _); refine (poss_any A n c l p s y _ (HZA.out _ (HKX.out _ kk).2.2) hn' hnc HY.out).mono ?_; rintro e w6 ⟨hb, Q1, m1, d1, rfl, q1, hl, hm2⟩; clear hl; have p1 := ((p1).below hb).more hb.size; have kk := below_next kk (Nat.le_refl _) hb; clear hb)
        | (go_at_call 19; (with_reducible show Calls Try.prog 19 #[.slice A n c, _, .int .i64 r] _ _); refine (poss_any A n c l p r x _ (HZA.out _ (HKX.out _ (below_drew_ kk)).2.2) hn' hnc HX.out).mono ?_; rintro e w5 ⟨hb, P1, n1, c1, rfl, p1, hl, hm1⟩; have HN1 := Lib.hid hl; clear hl; have q1 := ((q1.drew).below hb).more hb.size; have kk := below_next (below_drew_ kk) (Nat.le_refl _) hb; clear hb)
        | (go_at_call 19; (with_reducible show Calls Try.prog 19 #[.slice A n c, _, .int .i64 s] _ _); refine (poss_any A n c l p s y _ (HZA.out _ (HKX.out _ (below_drew_ kk)).2.2) hn' hnc HY.out).mono ?_; rintro e w6 ⟨hb, Q1, m1, d1, rfl, q1, hl, hm2⟩; clear hl; have p1 := ((p1.drew).below hb).more hb.size; have kk := below_next (below_drew_ kk) (Nat.le_refl _) hb; clear hb)
        | (go_at_call 19; (with_reducible show Calls Try.prog 19 #[.slice A n c, _, .int .i64 r] _ _); refine (poss_any A n c l p r x _ (HZA.out _ (HKX.out _ kk).2.2) hn' hnc HX.out).mono ?_; rintro e w5 ⟨hb, P1, n1, c1, rfl, p1, hl, hm1⟩; have HN1 := Lib.hid hl; clear hl; have kk := below_next kk (Nat.le_refl _) hb; clear hb)
        | (go_at_call 19; (with_reducible show Calls Try.prog 19 #[.slice A n c, _, .int .i64 s] _ _); refine (poss_any A n c l p s y _ (HZA.out _ (HKX.out _ kk).2.2) hn' hnc HY.out).mono ?_; rintro e w6 ⟨hb, Q1, m1, d1, rfl, q1, hl, hm2⟩; clear hl; have kk := below_next kk (Nat.le_refl _) hb; clear hb)
        | (go_at_call 19; (with_reducible show Calls Try.prog 19 #[.slice A n c, _, .int .i64 r] _ _); refine (poss_any A n c l p r x _ (HZA.out _ (HKX.out _ (below_drew_ kk)).2.2) hn' hnc HX.out).mono ?_; rintro e w5 ⟨hb, P1, n1, c1, rfl, p1, hl, hm1⟩; have HN1 := Lib.hid hl; clear hl; have kk := below_next (below_drew_ kk) (Nat.le_refl _) hb; clear hb)
        | (go_at_call 19; (with_reducible show Calls Try.prog 19 #[.slice A n c, _, .int .i64 s] _ _); refine (poss_any A n c l p s y _ (HZA.out _ (HKX.out _ (below_drew_ kk)).2.2) hn' hnc HY.out).mono ?_; rintro e w6 ⟨hb, Q1, m1, d1, rfl, q1, hl, hm2⟩; clear hl; have kk := below_next (below_drew_ kk) (Nat.le_refl _) hb; clear hb))
    all_goals
      have HP := Lib.hid p1; have HQ := Lib.hid q1
      have HKK := Lib.hid kk
      clear p1 q1 kk KS
      go_wp2_with fail
      go_loopw [11] (fun s wr => ∃ k : Nat, k ≤ n1 ∧ s = .int .i64 k ∧ Below K.heap.size K wr ∧ Hid (Reads wr wr.heap.size 1 P1 n1 (cellsI (ints x))) ∧ Hid (Reads wr wr.heap.size 1 Q1 m1 (cellsI (ints y)))) (fun s _ => n1 - (intOf s).toNat)
      case atStart => exact ⟨0, Nat.zero_le _, rfl, HKK.out, Lib.hid HP.out, Lib.hid HQ.out⟩
      case round =>
        obtain ⟨k, hk, rfl, hbw, HPr, HQr⟩ := hrel
        have HBW := Lib.hid hbw
        clear hbw
        by_cases hlt : k < n1
        · obtain ⟨b, off, rfl, hb, hc⟩ := ints_cells HPr.out (by omega)
          have e0 := hc k hlt
          have hk0 : (0 : Int) ≤ k := by omega
          have hk1 : (k : Int) < n1 := by omega
          clear hc
          obtain ⟨u, hu⟩ : ∃ u, iAt (ints x) k = u := ⟨_, rfl⟩
          rw [hu] at e0
          have HM : Hid (u ∈ ints y) := Lib.hid (by
            rw [← hu, iAt_get (by have := HN1.out; omega)]
            obtain ⟨j, hj, e⟩ := List.mem_map.1 (List.getElem_mem (l := ints x) (n := k) (by have := HN1.out; omega))
            rw [← e]
            exact ints_mem (HXY.out j hj))
          clear hu
          go_wp2_with fail
          refine (zhas_any Q1 m1 d1 (ints y) u true _ HQr.out hm2 (decide_eq_true HM.out)).mono ?_
          rintro e w9 ⟨rfl, hb9⟩
          have HB9 := Lib.hid (below_next HBW.out (Nat.le_refl _) hb9)
          have HP9 := Lib.hid ((HPr.out.below hb9).more hb9.size); have HQ9 := Lib.hid ((HQr.out.below hb9).more hb9.size)
          clear hb9 e0
          go_wp2_with fail
          go_roundw
          case rel => exact ⟨k + 1, by omega, by go_num, HB9.out, HP9, HQ9⟩
          case measure => simp [intOf]; omega
        · have kk := HBW.out
          obtain ⟨B0, _, hbb⟩ := HKX.out _ kk
          have c00 := (B0.cell 0).trans rfl; have c01 := (B0.cell 1).trans rfl
          have HBB := Lib.hid hbb
          clear B0 hbb
          go_wp2_with fail
          refine (sure_nb A n c l p s is bs _ (HZA.out _ HBB.out) hn' hnc H3.out H4.out).mono ?_
          rintro e w10 ⟨rfl, hb10⟩
          replace kk := below_next kk (Nat.le_refl _) hb10
          clear c00 c01 HBB hb10
          obtain ⟨B0, _, hbb⟩ := HKX.out _ kk
          have c00 := (B0.cell 0).trans rfl; have c01 := (B0.cell 1).trans rfl
          have HBB := Lib.hid hbb
          clear B0 hbb
          go_wp2_with fail
          refine (sure_nb A n c l p r ir br _ (HZA.out _ HBB.out) hn' hnc H1.out H2.out).mono ?_
          rintro e w11 ⟨rfl, hb11⟩
          replace kk := below_next kk (Nat.le_refl _) hb11
          have HBB2 := Lib.hid (below_next HBB.out (Nat.le_refl _) hb11)
          clear c00 c01 HBB hb11
          rcases HCS.out with rfl | ⟨rfl, rfl, rfl⟩
          all_goals
            go_wp2_with fail
            refine (awake_any _).mono ?_
            rintro e w12 ⟨rfl, hb12⟩
            go_wp2_with fail
            go_ret
            exact ⟨rfl, below_next HBB2.out (Nat.le_refl _) hb12⟩
  · have hcs : r < 0 ∨ (0 ≤ r ∧ 16384 < s) := by omega
    clear hin
    rcases hcs with g1 | ⟨g1, g2⟩
    all_goals
      go_enter Try.func8, Try.ntmps8
      go_wp2_with fail
      have F00 : ∀ z : Fam _, z.val.cell? ⟨w.heap.size, 0, none⟩ = some (.int .i64 p.1) := fun z => z.some_ c00
      have F01 : ∀ z : Fam _, z.val.cell? ⟨w.heap.size, 1, none⟩ = some (.int .i64 p.2) := fun z => z.some_ c01
      have F10 : ∀ z : Fam _, z.val.cell? ⟨w.heap.size + 1, 0, none⟩ = some (.int .i64 q.1) := fun z => z.some_ c10
      have F11 : ∀ z : Fam _, z.val.cell? ⟨w.heap.size + 1, 1, none⟩ = some (.int .i64 q.2) := fun z => z.some_ c11
      clear c00 c01 c10 c11
      refine wp_region_fam (by kernel_rfl) (by kernel_rfl) ?_
      repeat (go_big_quiet_step (((fail))))
      refine wpQuiet_nil ?_
      rintro _ ⟨z6, rfl⟩
      replace kk := below_next kk (Nat.le_refl _) z6.prop
      clear HB F00 F01 F10 F11
      obtain ⟨B0, B1, hbb⟩ := HK.out _ kk
      have c00 := B0.cell 0
      have c01 := B0.cell 1
      have c10 := B1.cell 0
      have c11 := B1.cell 1
      have HB := Lib.hid hbb
      clear B0 B1 hbb
      go_wp2_with fail
      refine (few_any A n c l true _ (HZA.out _ HB.out) hn' HF.out).mono ?_
      rintro e w7 ⟨rfl, hb7⟩
      replace kk := below_next kk (Nat.le_refl _) hb7
      clear c00 c01 c10 c11 HB hb7
      obtain ⟨B0, B1, hbb⟩ := HK.out _ kk
      have c00 := B0.cell 0
      have c01 := B0.cell 1
      have c10 := B1.cell 0
      have c11 := B1.cell 1
      have HB := Lib.hid hbb
      clear B0 B1 hbb
      go_wp2_with fail
      refine (awake_any _).mono ?_
      rintro e w8 ⟨rfl, hb8⟩
      replace kk := below_next kk (Nat.le_refl _) hb8
      clear c00 c01 c10 c11 HB hb8
      obtain ⟨B0, B1, hbb⟩ := HK.out _ kk
      have c00 := B0.cell 0
      have c01 := B0.cell 1
      have c10 := B1.cell 0
      have c11 := B1.cell 1
      have HB := Lib.hid hbb
      clear B0 B1 hbb
      go_wp2_with fail
      go_ret
      exact ⟨rfl, HB.out⟩
end Go.Proofs.Ytgjfidknedojbaa
