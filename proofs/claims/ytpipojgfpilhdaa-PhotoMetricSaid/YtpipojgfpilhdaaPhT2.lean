/- The walk of PhotoMetric. -/
import Derived.Test.YtpipojgfpilhdaaPhT
namespace Go.Proofs.Ytpipojgfpilhdaa
open Go.RowKit
theorem not_any (a : Nat) (w : World) (ha : a < 18446744073709551616) : Calls Try.prog 21 #[.int .u64 a, .int .u64 (bits .xor .u64 IntKind.u64.max (a : Int))] w fun e w' => e = .returned (.int .i64 64) ∧ w' = w := by
  have e : bits .xor .u64 IntKind.u64.max (a : Int) = ((18446744073709551615 ^^^ a : Nat) : Int) := bits_xor_u64_nat 18446744073709551615 a (by decide) ha
  have hl : 18446744073709551615 ^^^ a < 18446744073709551616 := Nat.xor_lt_two_pow (n := 64) (by decide) ha
  rw [e]
  refine apart_any a _ 64 w ha hl ?_
  have : apartN a (18446744073709551615 ^^^ a) = 64 := cnt_all fun i hi => by
    rw [Nat.testBit_xor, show 18446744073709551615 = 2 ^ 64 - 1 by decide, Nat.testBit_two_pow_sub_one, decide_eq_true hi]
    cases a.testBit i <;> rfl
  rw [this]; rfl
set_option maxHeartbeats 8000000 in
set_option maxRecDepth 20000 in
theorem metric_few (p : Ph) (y : Int) (a b c : Nat) (w : World) (h : PR w p) (hf : decide (p.n ≤ 5000) = false) : Calls Try.prog 6 #[aggF p, .int .i64 y, .int .u64 a, .int .u64 b, .int .u64 c] w (AwakePost w) := by
  have HPA : Hid (∀ u, Below w.heap.size w u → PR u p) := Lib.hid fun u hu => h.below hu
  have HF := Lib.hid hf
  clear hf h
  obtain ⟨kk, hK⟩ := box1K w 24 #[.int .i64 p.ride, .int .i64 p.tm, .int .i64 p.W, .int .i64 p.H, .slice p.A p.n p.c]
  have HK := Lib.hid hK
  clear hK
  obtain ⟨B0, hbb⟩ := HK.out _ kk
  have c00 := B0.cell 0
  have c01 := B0.cell 1
  have c02 := B0.cell 2
  have c03 := B0.cell 3
  have c04 := B0.cell 4
  have HB := Lib.hid hbb
  clear B0 hbb
  go_enter Try.func6, Try.ntmps6
  go_wp2_with fail
  have HPS := Lib.hid (one_photo _ (w.heap.size + 1) (by simp) p (HPA.out _ HB.out))
  replace kk := kk.alloc kk.size (.cells #[.int .i64 p.ride, .int .i64 p.tm, .int .i64 p.W, .int .i64 p.H, .slice p.A p.n p.c] 24)
  clear c00 c01 c02 c03 c04 HB
  obtain ⟨B0, hbb⟩ := HK.out _ kk
  have c00 := B0.cell 0
  have c01 := B0.cell 1
  have c02 := B0.cell 2
  have c03 := B0.cell 3
  have c04 := B0.cell 4
  have HB := Lib.hid hbb
  clear B0 hbb
  refine (fewF_any (some ⟨w.heap.size + 1, 0, none⟩) 1 1 [p] 1 false _ HPS.out (by decide) (few_one HF.out)).mono ?_
  rintro e w1 ⟨rfl, hb1⟩
  replace kk := below_next kk (Nat.le_refl _) hb1
  clear c00 c01 c02 c03 c04 HB hb1
  obtain ⟨B0, hbb⟩ := HK.out _ kk
  have c00 := B0.cell 0
  have c01 := B0.cell 1
  have c02 := B0.cell 2
  have c03 := B0.cell 3
  have c04 := B0.cell 4
  have HB := Lib.hid hbb
  clear B0 hbb
  go_wp2_with fail
  refine (awake_any _).mono ?_
  rintro e w2 ⟨rfl, hb2⟩
  replace kk := below_next kk (Nat.le_refl _) hb2
  clear c00 c01 c02 c03 c04 HB hb2
  obtain ⟨B0, hbb⟩ := HK.out _ kk
  have c00 := B0.cell 0
  have c01 := B0.cell 1
  have c02 := B0.cell 2
  have c03 := B0.cell 3
  have c04 := B0.cell 4
  have HB := Lib.hid hbb
  clear B0 hbb
  go_wp2_with fail
  go_ret
  exact ⟨rfl, HB.out⟩
set_option maxHeartbeats 8000000 in
set_option maxRecDepth 20000 in
theorem metric_main (p : Ph) (y : Int) (a b c : Nat) (w : World) (h : PR w p) (hf : decide (p.n ≤ 5000) = true) (ha : a < 18446744073709551616) (hb : b < 18446744073709551616) (hc : c < 18446744073709551616) : Calls Try.prog 6 #[aggF p, .int .i64 y, .int .u64 a, .int .u64 b, .int .u64 c] w (AwakePost w) := by
  have HPA : Hid (∀ u, Below w.heap.size w u → PR u p) := Lib.hid fun u hu => h.below hu
  have HBY := Lib.hid h.2.1
  have HLN := Lib.hid h.len
  have HF := Lib.hid hf
  obtain ⟨m, hm⟩ : ∃ m, markN p = m := ⟨_, rfl⟩
  obtain ⟨x, hx⟩ : ∃ x, pcheckZ p = x := ⟨_, rfl⟩
  obtain ⟨u, hu⟩ : ∃ u, usableB p = u := ⟨_, rfl⟩
  obtain ⟨ok, hok⟩ : ∃ ok, litOk p.px y = ok := ⟨_, rfl⟩
  obtain ⟨d1, hd1⟩ : ∃ d : Int, (apartN a b : Int) = d := ⟨_, rfl⟩
  obtain ⟨d3, hd3⟩ : ∃ d : Int, (apartN a c : Int) = d := ⟨_, rfl⟩
  obtain ⟨d4, hd4⟩ : ∃ d : Int, (apartN c b : Int) = d := ⟨_, rfl⟩
  obtain ⟨q, hq⟩ : ∃ q, (d1 == 0) = q := ⟨_, rfl⟩
  have hz := apart_zero (a := a) (b := b) ha hb
  have hq2 : ((a : Int) == (b : Int)) = q := by
    rw [← hq]
    by_cases e : a = b
    · have e0 : d1 = 0 := by rw [← hd1, hz.2 e]; rfl
      rw [beq_iff_eq.2 e0, beq_iff_eq.2 (by rw [e])]
    · have e0 : d1 ≠ 0 := by rw [← hd1]; intro g; exact e (hz.1 (by omega))
      rw [beq_eq_false_iff_ne.2 e0, beq_eq_false_iff_ne.2 (by omega)]
  have t1 : d1 ≤ d3 + d4 := by rw [← hd1, ← hd3, ← hd4]; have := apart_tri a b c; omega
  have t2 : 0 ≤ d3 ∧ d3 ≤ 64 := by rw [← hd3]; have := apart_le a c; omega
  have t3 : 0 ≤ d4 ∧ d4 ≤ 64 := by rw [← hd4]; have := apart_le c b; omega
  have HM := Lib.hid hm; have HX := Lib.hid hx; have HU := Lib.hid hu; have HOK := Lib.hid hok
  have HD1 := Lib.hid hd1; have HD3 := Lib.hid hd3; have HD4 := Lib.hid hd4
  have HD2 : Hid ((apartN b a : Int) = d1) := Lib.hid (by rw [apart_comm]; exact hd1)
  have hn : p.n ≤ 5000 := of_decide_eq_true hf
  have HHN := Lib.hid hn
  obtain ⟨t2, t2'⟩ := t2
  obtain ⟨t3, t3'⟩ := t3
  clear hf h hm hx hu hok hd1 hd3 hd4 hz hn
  obtain ⟨kk, hK⟩ := box1K w 24 #[.int .i64 p.ride, .int .i64 p.tm, .int .i64 p.W, .int .i64 p.H, .slice p.A p.n p.c]
  have HK := Lib.hid hK
  clear hK
  obtain ⟨B0, hbb⟩ := HK.out _ kk
  have c00 := B0.cell 0
  have c01 := B0.cell 1
  have c02 := B0.cell 2
  have c03 := B0.cell 3
  have c04 := B0.cell 4
  have HB := Lib.hid hbb
  clear B0 hbb
  go_enter Try.func6, Try.ntmps6
  go_wp2_with fail
  have HPS := Lib.hid (one_photo _ (w.heap.size + 1) (by simp) p (HPA.out _ HB.out))
  replace kk := kk.alloc kk.size (.cells #[.int .i64 p.ride, .int .i64 p.tm, .int .i64 p.W, .int .i64 p.H, .slice p.A p.n p.c] 24)
  clear c00 c01 c02 c03 c04 HB
  obtain ⟨B0, hbb⟩ := HK.out _ kk
  have c00 := B0.cell 0
  have c01 := B0.cell 1
  have c02 := B0.cell 2
  have c03 := B0.cell 3
  have c04 := B0.cell 4
  have HB := Lib.hid hbb
  clear B0 hbb
  refine (fewF_any (some ⟨w.heap.size + 1, 0, none⟩) 1 1 [p] 1 true _ HPS.out (by decide) (few_one HF.out)).mono ?_
  rintro e w1 ⟨rfl, hb1⟩
  replace kk := below_next kk (Nat.le_refl _) hb1
  clear c00 c01 c02 c03 c04 HB hb1
  obtain ⟨B0, hbb⟩ := HK.out _ kk
  have c00 := B0.cell 0
  have c01 := B0.cell 1
  have c02 := B0.cell 2
  have c03 := B0.cell 3
  have c04 := B0.cell 4
  have HB := Lib.hid hbb
  clear B0 hbb
  clear HPS
  go_wp2_with fail
  refine (apart_any a b d1 _ ha hb HD1.out).mono ?_
  rintro e w2 ⟨rfl, rfl⟩
  go_wp2_with fail
  refine (apart_any a b d1 _ ha hb HD1.out).mono ?_
  rintro e w2 ⟨rfl, rfl⟩
  go_wp2_with fail
  refine (apart_any b a d1 _ hb ha HD2.out).mono ?_
  rintro e w2 ⟨rfl, rfl⟩
  go_wp2_with fail
  refine (apart_any a b d1 _ ha hb HD1.out).mono ?_
  rintro e w2 ⟨rfl, rfl⟩
  go_wp2_with fail
  refine (apart_any a c d3 _ ha hc HD3.out).mono ?_
  rintro e w2 ⟨rfl, rfl⟩
  go_wp2_with fail
  refine (apart_any c b d4 _ hc hb HD4.out).mono ?_
  rintro e w2 ⟨rfl, rfl⟩
  go_wp2_with fail
  refine (not_any a _ ha).mono ?_
  rintro e w2 ⟨rfl, rfl⟩
  go_wp2_with fail
  clear t1 t2 t2' t3 t3' hq hq2
  refine (lighter_any p y ok _ (HPA.out _ HB.out) HHN.out HOK.out).mono ?_
  rintro e w3 ⟨hb3, ⟨hok, A, cc, rfl, hpr⟩ | ⟨hok, rfl⟩⟩
  · replace kk := below_next kk (Nat.le_refl _) hb3
    subst hok
    have HPR := Lib.hid hpr
    clear c00 c01 c02 c03 c04 HB hb3 hpr
    obtain ⟨B0, hbb⟩ := HK.out _ kk
    have c00 := B0.cell 0
    have c01 := B0.cell 1
    have c02 := B0.cell 2
    have c03 := B0.cell 3
    have c04 := B0.cell 4
    have HB := Lib.hid hbb
    clear B0 hbb
    have hs3 : w.heap.size < w3.heap.size := by have := kk.size; simp at this; omega
    obtain ⟨Q, hQ⟩ : ∃ Q, litP p y A p.n cc = Q := ⟨_, rfl⟩
    have HM2 : Hid (markN Q = m) := Lib.hid (by rw [← hQ, lit_mark HLN.out, HM.out])
    have HX2 : Hid (pcheckZ Q = x) := Lib.hid (by rw [← hQ]; exact HX.out)
    have HU2 : Hid (usableB Q = u) := Lib.hid (by rw [← hQ, lit_usable HLN.out HBY.out HOK.out, HU.out])
    rw [hQ] at HPR ⊢
    clear hQ
    obtain ⟨v1, hv1⟩ : ∃ v, w3.alloc (.cells #[.int .i64 Q.ride, .int .i64 Q.tm, .int .i64 Q.W, .int .i64 Q.H, .slice Q.A Q.n Q.c] 24) = v := ⟨_, rfl⟩
    have HG1 : Hid (Blk v1 w3.heap.size 24 #[.int .i64 Q.ride, .int .i64 Q.tm, .int .i64 Q.W, .int .i64 Q.H, .slice Q.A Q.n Q.c]) := Lib.hid (by rw [← hv1]; exact Blk.new _ _ _)
    have HB31 : Hid (Below w3.heap.size w3 v1) := Lib.hid (by rw [← hv1]; exact (Below.refl _ _).alloc (Nat.le_refl _) _)
    have HQ1 := Lib.hid (HPR.out.below HB31.out)
    have HV1 := Lib.hid hv1
    have HVV : Hid (w3.heap.size < v1.heap.size) := Lib.hid HG1.out.lt
    clear hv1
    go_wp2_with fail
    rw [HV1.out]
    replace kk := below_next kk (Nat.le_refl _) HB31.out
    clear c00 c01 c02 c03 c04 HB HV1
    obtain ⟨B0, hbb⟩ := HK.out _ kk
    have c00 := B0.cell 0
    have c01 := B0.cell 1
    have c02 := B0.cell 2
    have c03 := B0.cell 3
    have c04 := B0.cell 4
    have HB := Lib.hid hbb
    clear B0 hbb
    refine (mark_any p m x _ (HPA.out _ HB.out) HM.out HX.out).mono ?_
    rintro e w5 ⟨rfl, hb5⟩
    replace kk := below_next kk (Nat.le_refl _) hb5
    have HG5 := Lib.hid (HG1.out.below hb5 HG1.out.lt)
    have HQ5 := Lib.hid (HQ1.out.below hb5)
    have g0 := (HG5.out.cell 0).trans rfl; have g1 := (HG5.out.cell 1).trans rfl; have g2 := (HG5.out.cell 2).trans rfl; have g3 := (HG5.out.cell 3).trans rfl; have g4 := (HG5.out.cell 4).trans rfl
    clear c00 c01 c02 c03 c04 HB hb5
    go_wp2_with fail
    refine (mark_any Q m x _ HQ5.out HM2.out HX2.out).mono ?_
    rintro e w6 ⟨rfl, hb6⟩
    replace kk := below_next kk (Nat.le_refl _) hb6
    have HG6 := Lib.hid (HG5.out.below hb6 HG5.out.lt)
    have HQ6 := Lib.hid (HQ5.out.below hb6)
    obtain ⟨B6, hbw6⟩ := HK.out _ kk
    have HP6 := Lib.hid (HPA.out _ hbw6)
    have F0 : ∀ z : Fam w6, z.val.cell? ⟨w.heap.size, 0, none⟩ = some (.int .i64 p.ride) := fun z => z.some_ ((B6.cell 0).trans rfl)
    have F1 : ∀ z : Fam w6, z.val.cell? ⟨w.heap.size, 1, none⟩ = some (.int .i64 p.tm) := fun z => z.some_ ((B6.cell 1).trans rfl)
    have F2 : ∀ z : Fam w6, z.val.cell? ⟨w.heap.size, 2, none⟩ = some (.int .i64 p.W) := fun z => z.some_ ((B6.cell 2).trans rfl)
    have F3 : ∀ z : Fam w6, z.val.cell? ⟨w.heap.size, 3, none⟩ = some (.int .i64 p.H) := fun z => z.some_ ((B6.cell 3).trans rfl)
    have F4 : ∀ z : Fam w6, z.val.cell? ⟨w.heap.size, 4, none⟩ = some (.slice p.A p.n p.c) := fun z => z.some_ ((B6.cell 4).trans rfl)
    have G0 : ∀ z : Fam w6, z.val.cell? ⟨w3.heap.size, 0, none⟩ = some (.int .i64 Q.ride) := fun z => z.some_ ((HG6.out.cell 0).trans rfl)
    have G1 : ∀ z : Fam w6, z.val.cell? ⟨w3.heap.size, 1, none⟩ = some (.int .i64 Q.tm) := fun z => z.some_ ((HG6.out.cell 1).trans rfl)
    have G2 : ∀ z : Fam w6, z.val.cell? ⟨w3.heap.size, 2, none⟩ = some (.int .i64 Q.W) := fun z => z.some_ ((HG6.out.cell 2).trans rfl)
    have G3 : ∀ z : Fam w6, z.val.cell? ⟨w3.heap.size, 3, none⟩ = some (.int .i64 Q.H) := fun z => z.some_ ((HG6.out.cell 3).trans rfl)
    have G4 : ∀ z : Fam w6, z.val.cell? ⟨w3.heap.size, 4, none⟩ = some (.slice Q.A Q.n Q.c) := fun z => z.some_ ((HG6.out.cell 4).trans rfl)
    have KK6 := Lib.hid kk
    clear g0 g1 g2 g3 g4 hb6 B6 kk
    go_wp2_with fail
    refine wp_region_fam (by kernel_rfl) (by kernel_rfl) ?_
    repeat (go_big_quiet_step ((first | (go_at_call 17; (with_reducible show Calls Try.prog _ #[.agg #[_, _, _, _, .slice p.A _ _]] _ _); exact fam_call (usable_any p u _ (HP6.out.below (Fam.prop _)) HU.out)) | (go_at_call 17; exact fam_call (usable_any Q u _ (HQ6.out.below (Fam.prop _)) HU2.out)) | (go_at_call 12; exact fam_call (awake_any _)))))
    refine wpQuiet_nil ?_
    rintro _ ⟨z1, rfl⟩
    have KK7 := Lib.hid (HK.out _ (below_next KK6.out (Nat.le_refl _) z1.prop)).2
    clear F0 F1 F2 F3 F4 G0 G1 G2 G3 G4
    go_wp2_with fail
    go_ret
    exact ⟨rfl, KK7.out⟩
  · replace kk := below_next kk (Nat.le_refl _) hb3
    subst hok
    clear c00 c01 c02 c03 c04 HB hb3
    obtain ⟨B0, hbb⟩ := HK.out _ kk
    have c00 := B0.cell 0
    have c01 := B0.cell 1
    have c02 := B0.cell 2
    have c03 := B0.cell 3
    have c04 := B0.cell 4
    have HB := Lib.hid hbb
    clear B0 hbb
    go_wp2_with fail
    replace kk := kk.alloc kk.size (.cells #[.int .i64 p.ride, .int .i64 p.tm, .int .i64 p.W, .int .i64 p.H, .slice p.A p.n p.c] 24)
    clear c00 c01 c02 c03 c04 HB
    obtain ⟨B0, hbb⟩ := HK.out _ kk
    have c00 := B0.cell 0
    have c01 := B0.cell 1
    have c02 := B0.cell 2
    have c03 := B0.cell 3
    have c04 := B0.cell 4
    have HB := Lib.hid hbb
    clear B0 hbb
    refine (awake_any _).mono ?_
    rintro e w2 ⟨rfl, hb2⟩
    replace kk := below_next kk (Nat.le_refl _) hb2
    clear c00 c01 c02 c03 c04 HB hb2
    obtain ⟨B0, hbb⟩ := HK.out _ kk
    have c00 := B0.cell 0
    have c01 := B0.cell 1
    have c02 := B0.cell 2
    have c03 := B0.cell 3
    have c04 := B0.cell 4
    have HB := Lib.hid hbb
    clear B0 hbb
    go_wp2_with fail
    go_ret
    exact ⟨rfl, HB.out⟩
theorem photoMetric_walk (p : Ph) (y : Int) (a b c : Nat) (w : World) (h : PR w p) (ha : a < 18446744073709551616) (hb : b < 18446744073709551616) (hc : c < 18446744073709551616) : Calls Try.prog 6 #[aggF p, .int .i64 y, .int .u64 a, .int .u64 b, .int .u64 c] w (AwakePost w) := by
  rcases hf : decide (p.n ≤ 5000) with _ | _
  · exact metric_few p y a b c w h hf
  · exact metric_main p y a b c w h hf ha hb hc
end Go.Proofs.Ytpipojgfpilhdaa
