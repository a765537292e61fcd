/- The walks of the program's meets and near. -/
import Derived.Test.YtomnodpmpdodbaaGeoB
import Derived.Test.YtomnodpmpdodbaaFam
namespace Go.Proofs.Ytomnodpmpdodbaa
open Go.RowKit
def nearZ (e : Ed) (c : Pt) (r : Int) : Int :=
  if dotZ e.1 e.2 c ≤ 0 then sgn (dotZ c e.1 e.1 - r * r) else if dotZ e.1 e.2 e.2 ≤ dotZ e.1 e.2 c then sgn (dotZ c e.2 e.2 - r * r) else sgn (crossZ e.1 e.2 c * crossZ e.1 e.2 c - r * r * dotZ e.1 e.2 e.2)
theorem nearZ_bd (e : Ed) (c : Pt) (r : Int) : -1 ≤ nearZ e c r ∧ nearZ e c r ≤ 1 := by
  unfold nearZ; split
  · exact sgn_bd _
  · split <;> exact sgn_bd _
set_option maxHeartbeats 4000000 in
set_option maxRecDepth 10000 in
theorem meets_any (e f : Ed) (x : Bool) (w : World) (h1 : okE e = true) (h2 : okE f = true) (hx : meetsB e f = x) : Calls Try.prog 44 #[aggE e, aggE f] w (RetB w x) := by
  obtain ⟨kk, hK⟩ := box2K w 60 60 #[.int .i64 e.1.1, .int .i64 e.1.2, .int .i64 e.2.1, .int .i64 e.2.2] #[.int .i64 f.1.1, .int .i64 f.1.2, .int .i64 f.2.1, .int .i64 f.2.2]
  have HK := Lib.hid hK
  clear hK
  obtain ⟨B0, B1, hbb⟩ := HK.out _ kk
  have c00 := B0.cell 0
  have c01 := B0.cell 1
  have c02 := B0.cell 2
  have c03 := B0.cell 3
  have c10 := B1.cell 0
  have c11 := B1.cell 1
  have c12 := B1.cell 2
  have c13 := B1.cell 3
  have HB := Lib.hid hbb
  clear B0 B1 hbb
  obtain ⟨o1, o2⟩ := okE_t h1
  obtain ⟨o3, o4⟩ := okE_t h2
  have HE := Lib.hid h1; have HF := Lib.hid h2; have HX := Lib.hid hx
  have hO1 := Lib.hid o1; have hO2 := Lib.hid o2; have hO3 := Lib.hid o3; have hO4 := Lib.hid o4
  clear h1 h2 hx o1 o2 o3 o4
  rcases h : hasB e f.1 with _ | _
  case true =>
    have HA1 := Lib.hid h
    have HX2 : Hid (true = x) := Lib.hid (by rw [← HX.out]; unfold meetsB; rw [h]; rfl)
    clear h
    go_enter Try.func44, Try.ntmps44
    go_wp2_with fail
    refine (has_any e f.1 true _ HE.out hO3.out HA1.out).mono ?_
    rintro e w1 ⟨rfl, hb1⟩
    replace kk := below_next kk (Nat.le_refl _) hb1
    clear c00 c01 c02 c03 c10 c11 c12 c13 HB hb1
    obtain ⟨B0, B1, hbb⟩ := HK.out _ kk
    have c00 := B0.cell 0
    have c01 := B0.cell 1
    have c02 := B0.cell 2
    have c03 := B0.cell 3
    have c10 := B1.cell 0
    have c11 := B1.cell 1
    have c12 := B1.cell 2
    have c13 := B1.cell 3
    have HB := Lib.hid hbb
    clear B0 B1 hbb
    go_wp2_with fail
    go_ret
    exact ⟨ret_bool HX2.out, HB.out⟩
  have HA1 := Lib.hid h
  clear h
  rcases h : hasB e f.2 with _ | _
  case true =>
    have HA2 := Lib.hid h
    have HX2 : Hid (true = x) := Lib.hid (by rw [← HX.out]; unfold meetsB; rw [h]; simp)
    clear h
    go_enter Try.func44, Try.ntmps44
    go_wp2_with fail
    refine (has_any e f.1 false _ HE.out hO3.out HA1.out).mono ?_
    rintro e w2 ⟨rfl, hb2⟩
    replace kk := below_next kk (Nat.le_refl _) hb2
    clear c00 c01 c02 c03 c10 c11 c12 c13 HB hb2
    obtain ⟨B0, B1, hbb⟩ := HK.out _ kk
    have c00 := B0.cell 0
    have c01 := B0.cell 1
    have c02 := B0.cell 2
    have c03 := B0.cell 3
    have c10 := B1.cell 0
    have c11 := B1.cell 1
    have c12 := B1.cell 2
    have c13 := B1.cell 3
    have HB := Lib.hid hbb
    clear B0 B1 hbb
    go_wp2_with fail
    refine (has_any e f.2 true _ HE.out hO4.out HA2.out).mono ?_
    rintro e w3 ⟨rfl, hb3⟩
    replace kk := below_next kk (Nat.le_refl _) hb3
    clear c00 c01 c02 c03 c10 c11 c12 c13 HB hb3
    obtain ⟨B0, B1, hbb⟩ := HK.out _ kk
    have c00 := B0.cell 0
    have c01 := B0.cell 1
    have c02 := B0.cell 2
    have c03 := B0.cell 3
    have c10 := B1.cell 0
    have c11 := B1.cell 1
    have c12 := B1.cell 2
    have c13 := B1.cell 3
    have HB := Lib.hid hbb
    clear B0 B1 hbb
    go_wp2_with fail
    go_ret
    exact ⟨ret_bool HX2.out, HB.out⟩
  have HA2 := Lib.hid h
  clear h
  rcases h : hasB f e.1 with _ | _
  case true =>
    have HA3 := Lib.hid h
    have HX2 : Hid (true = x) := Lib.hid (by rw [← HX.out]; unfold meetsB; rw [h]; simp)
    clear h
    go_enter Try.func44, Try.ntmps44
    go_wp2_with fail
    refine (has_any e f.1 false _ HE.out hO3.out HA1.out).mono ?_
    rintro e w4 ⟨rfl, hb4⟩
    replace kk := below_next kk (Nat.le_refl _) hb4
    clear c00 c01 c02 c03 c10 c11 c12 c13 HB hb4
    obtain ⟨B0, B1, hbb⟩ := HK.out _ kk
    have c00 := B0.cell 0
    have c01 := B0.cell 1
    have c02 := B0.cell 2
    have c03 := B0.cell 3
    have c10 := B1.cell 0
    have c11 := B1.cell 1
    have c12 := B1.cell 2
    have c13 := B1.cell 3
    have HB := Lib.hid hbb
    clear B0 B1 hbb
    go_wp2_with fail
    refine (has_any e f.2 false _ HE.out hO4.out HA2.out).mono ?_
    rintro e w5 ⟨rfl, hb5⟩
    replace kk := below_next kk (Nat.le_refl _) hb5
    clear c00 c01 c02 c03 c10 c11 c12 c13 HB hb5
    obtain ⟨B0, B1, hbb⟩ := HK.out _ kk
    have c00 := B0.cell 0
    have c01 := B0.cell 1
    have c02 := B0.cell 2
    have c03 := B0.cell 3
    have c10 := B1.cell 0
    have c11 := B1.cell 1
    have c12 := B1.cell 2
    have c13 := B1.cell 3
    have HB := Lib.hid hbb
    clear B0 B1 hbb
    go_wp2_with fail
    refine (has_any f e.1 true _ HF.out hO1.out HA3.out).mono ?_
    rintro e w6 ⟨rfl, hb6⟩
    replace kk := below_next kk (Nat.le_refl _) hb6
    clear c00 c01 c02 c03 c10 c11 c12 c13 HB hb6
    obtain ⟨B0, B1, hbb⟩ := HK.out _ kk
    have c00 := B0.cell 0
    have c01 := B0.cell 1
    have c02 := B0.cell 2
    have c03 := B0.cell 3
    have c10 := B1.cell 0
    have c11 := B1.cell 1
    have c12 := B1.cell 2
    have c13 := B1.cell 3
    have HB := Lib.hid hbb
    clear B0 B1 hbb
    go_wp2_with fail
    go_ret
    exact ⟨ret_bool HX2.out, HB.out⟩
  have HA3 := Lib.hid h
  clear h
  rcases h : hasB f e.2 with _ | _
  case true =>
    have HA4 := Lib.hid h
    have HX2 : Hid (true = x) := Lib.hid (by rw [← HX.out]; unfold meetsB; rw [h]; simp)
    clear h
    go_enter Try.func44, Try.ntmps44
    go_wp2_with fail
    refine (has_any e f.1 false _ HE.out hO3.out HA1.out).mono ?_
    rintro e w7 ⟨rfl, hb7⟩
    replace kk := below_next kk (Nat.le_refl _) hb7
    clear c00 c01 c02 c03 c10 c11 c12 c13 HB hb7
    obtain ⟨B0, B1, hbb⟩ := HK.out _ kk
    have c00 := B0.cell 0
    have c01 := B0.cell 1
    have c02 := B0.cell 2
    have c03 := B0.cell 3
    have c10 := B1.cell 0
    have c11 := B1.cell 1
    have c12 := B1.cell 2
    have c13 := B1.cell 3
    have HB := Lib.hid hbb
    clear B0 B1 hbb
    go_wp2_with fail
    refine (has_any e f.2 false _ HE.out hO4.out HA2.out).mono ?_
    rintro e w8 ⟨rfl, hb8⟩
    replace kk := below_next kk (Nat.le_refl _) hb8
    clear c00 c01 c02 c03 c10 c11 c12 c13 HB hb8
    obtain ⟨B0, B1, hbb⟩ := HK.out _ kk
    have c00 := B0.cell 0
    have c01 := B0.cell 1
    have c02 := B0.cell 2
    have c03 := B0.cell 3
    have c10 := B1.cell 0
    have c11 := B1.cell 1
    have c12 := B1.cell 2
    have c13 := B1.cell 3
    have HB := Lib.hid hbb
    clear B0 B1 hbb
    go_wp2_with fail
    refine (has_any f e.1 false _ HF.out hO1.out HA3.out).mono ?_
    rintro e w9 ⟨rfl, hb9⟩
    replace kk := below_next kk (Nat.le_refl _) hb9
    clear c00 c01 c02 c03 c10 c11 c12 c13 HB hb9
    obtain ⟨B0, B1, hbb⟩ := HK.out _ kk
    have c00 := B0.cell 0
    have c01 := B0.cell 1
    have c02 := B0.cell 2
    have c03 := B0.cell 3
    have c10 := B1.cell 0
    have c11 := B1.cell 1
    have c12 := B1.cell 2
    have c13 := B1.cell 3
    have HB := Lib.hid hbb
    clear B0 B1 hbb
    go_wp2_with fail
    refine (has_any f e.2 true _ HF.out hO2.out HA4.out).mono ?_
    rintro e w10 ⟨rfl, hb10⟩
    replace kk := below_next kk (Nat.le_refl _) hb10
    clear c00 c01 c02 c03 c10 c11 c12 c13 HB hb10
    obtain ⟨B0, B1, hbb⟩ := HK.out _ kk
    have c00 := B0.cell 0
    have c01 := B0.cell 1
    have c02 := B0.cell 2
    have c03 := B0.cell 3
    have c10 := B1.cell 0
    have c11 := B1.cell 1
    have c12 := B1.cell 2
    have c13 := B1.cell 3
    have HB := Lib.hid hbb
    clear B0 B1 hbb
    go_wp2_with fail
    go_ret
    exact ⟨ret_bool HX2.out, HB.out⟩
  have HA4 := Lib.hid h
  have HX2 : Hid ((decide (sgn (crossZ e.1 e.2 f.1) ≠ sgn (crossZ e.1 e.2 f.2)) && decide (sgn (crossZ f.1 f.2 e.1) ≠ sgn (crossZ f.1 f.2 e.2))) = x) := Lib.hid (by rw [← HX.out]; unfold meetsB; rw [HA1.out, HA2.out, HA3.out, h]; simp)
  clear h HX
  have hcs : ∀ t1 t2 : Bool, decide (sgn (crossZ e.1 e.2 f.1) ≠ sgn (crossZ e.1 e.2 f.2)) = t1 → decide (sgn (crossZ f.1 f.2 e.1) ≠ sgn (crossZ f.1 f.2 e.2)) = t2 → (t1 && t2) = x := fun t1 t2 e1 e2 => by rw [← HX2.out, e1, e2]
  have HCS := Lib.hid hcs
  clear hcs HX2
  go_enter Try.func44, Try.ntmps44
  go_wp2_with fail
  refine (has_any e f.1 false _ HE.out hO3.out HA1.out).mono ?_
  rintro e w11 ⟨rfl, hb11⟩
  replace kk := below_next kk (Nat.le_refl _) hb11
  clear c00 c01 c02 c03 c10 c11 c12 c13 HB hb11
  obtain ⟨B0, B1, hbb⟩ := HK.out _ kk
  have c00 := B0.cell 0
  have c01 := B0.cell 1
  have c02 := B0.cell 2
  have c03 := B0.cell 3
  have c10 := B1.cell 0
  have c11 := B1.cell 1
  have c12 := B1.cell 2
  have c13 := B1.cell 3
  have HB := Lib.hid hbb
  clear B0 B1 hbb
  go_wp2_with fail
  refine (has_any e f.2 false _ HE.out hO4.out HA2.out).mono ?_
  rintro e w12 ⟨rfl, hb12⟩
  replace kk := below_next kk (Nat.le_refl _) hb12
  clear c00 c01 c02 c03 c10 c11 c12 c13 HB hb12
  obtain ⟨B0, B1, hbb⟩ := HK.out _ kk
  have c00 := B0.cell 0
  have c01 := B0.cell 1
  have c02 := B0.cell 2
  have c03 := B0.cell 3
  have c10 := B1.cell 0
  have c11 := B1.cell 1
  have c12 := B1.cell 2
  have c13 := B1.cell 3
  have HB := Lib.hid hbb
  clear B0 B1 hbb
  go_wp2_with fail
  refine (has_any f e.1 false _ HF.out hO1.out HA3.out).mono ?_
  rintro e w13 ⟨rfl, hb13⟩
  replace kk := below_next kk (Nat.le_refl _) hb13
  clear c00 c01 c02 c03 c10 c11 c12 c13 HB hb13
  obtain ⟨B0, B1, hbb⟩ := HK.out _ kk
  have c00 := B0.cell 0
  have c01 := B0.cell 1
  have c02 := B0.cell 2
  have c03 := B0.cell 3
  have c10 := B1.cell 0
  have c11 := B1.cell 1
  have c12 := B1.cell 2
  have c13 := B1.cell 3
  have HB := Lib.hid hbb
  clear B0 B1 hbb
  go_wp2_with fail
  refine (has_any f e.2 false _ HF.out hO2.out HA4.out).mono ?_
  rintro e w14 ⟨rfl, hb14⟩
  replace kk := below_next kk (Nat.le_refl _) hb14
  clear c00 c01 c02 c03 c10 c11 c12 c13 HB hb14
  obtain ⟨B0, B1, hbb⟩ := HK.out _ kk
  have c00 := B0.cell 0
  have c01 := B0.cell 1
  have c02 := B0.cell 2
  have c03 := B0.cell 3
  have c10 := B1.cell 0
  have c11 := B1.cell 1
  have c12 := B1.cell 2
  have c13 := B1.cell 3
  have HB := Lib.hid hbb
  clear B0 B1 hbb
  clear HB
  have F00 : ∀ z : Fam _, z.val.cell? ⟨w.heap.size, 0, none⟩ = some (.int .i64 e.1.1) := fun z => z.some_ c00
  have F01 : ∀ z : Fam _, z.val.cell? ⟨w.heap.size, 1, none⟩ = some (.int .i64 e.1.2) := fun z => z.some_ c01
  have F02 : ∀ z : Fam _, z.val.cell? ⟨w.heap.size, 2, none⟩ = some (.int .i64 e.2.1) := fun z => z.some_ c02
  have F03 : ∀ z : Fam _, z.val.cell? ⟨w.heap.size, 3, none⟩ = some (.int .i64 e.2.2) := fun z => z.some_ c03
  have F10 : ∀ z : Fam _, z.val.cell? ⟨w.heap.size + 1, 0, none⟩ = some (.int .i64 f.1.1) := fun z => z.some_ c10
  have F11 : ∀ z : Fam _, z.val.cell? ⟨w.heap.size + 1, 1, none⟩ = some (.int .i64 f.1.2) := fun z => z.some_ c11
  have F12 : ∀ z : Fam _, z.val.cell? ⟨w.heap.size + 1, 2, none⟩ = some (.int .i64 f.2.1) := fun z => z.some_ c12
  have F13 : ∀ z : Fam _, z.val.cell? ⟨w.heap.size + 1, 3, none⟩ = some (.int .i64 f.2.2) := fun z => z.some_ c13
  clear c00 c01 c02 c03 c10 c11 c12 c13
  have HKK := Lib.hid kk
  clear kk
  by_cases t1 : sgn (crossZ e.1 e.2 f.1) = sgn (crossZ e.1 e.2 f.2)
  · have T1 : (sgn (crossZ e.1 e.2 f.1) != sgn (crossZ e.1 e.2 f.2)) = false := by rw [t1]; simp
    have HT := Lib.hid (HCS.out false _ (by simp [t1]) rfl)
    clear t1
    go_wp2_with fail
    refine wp_region_fam (by kernel_rfl) (by kernel_rfl) ?_
    repeat (go_big_quiet_step ((first
      | (go_at_call 29; exact fam_call (cross_any _ _ _ _ _ hO1.out hO2.out hO3.out rfl))
      | (go_at_call 29; exact fam_call (cross_any _ _ _ _ _ hO1.out hO2.out hO4.out rfl))
      | (go_at_call 29; exact fam_call (cross_any _ _ _ _ _ hO3.out hO4.out hO1.out rfl))
      | (go_at_call 29; exact fam_call (cross_any _ _ _ _ _ hO3.out hO4.out hO2.out rfl))
      | (go_at_call 28; exact fam_same (sign_any _ _ _ rfl)))))
    refine wpQuiet_nil ?_
    rintro _ ⟨z, rfl⟩
    obtain ⟨b0, b1, hbz⟩ := HK.out _ (below_next HKK.out (Nat.le_refl _) z.prop)
    have HB := Lib.hid hbz
    clear b0 b1 hbz
    go_wp2_with fail
    go_ret
    exact ⟨ret_bool HT.out, HB.out⟩
  · have T1 : (sgn (crossZ e.1 e.2 f.1) != sgn (crossZ e.1 e.2 f.2)) = true := by simpa using t1
    have HT0 := Lib.hid (HCS.out true _ (by simp [t1]) rfl)
    clear t1
    obtain ⟨t2, ht2⟩ : ∃ t, (sgn (crossZ f.1 f.2 e.1) != sgn (crossZ f.1 f.2 e.2)) = t := ⟨_, rfl⟩
    have HT : Hid (t2 = x) := Lib.hid (by
      have := HT0.out
      rw [← ht2, ← this]
      simp [bne, BEq.beq])
    go_wp2_with fail
    refine wp_region_fam (by kernel_rfl) (by kernel_rfl) ?_
    repeat (go_big_quiet_step ((first
      | (go_at_call 29; exact fam_call (cross_any _ _ _ _ _ hO1.out hO2.out hO3.out rfl))
      | (go_at_call 29; exact fam_call (cross_any _ _ _ _ _ hO1.out hO2.out hO4.out rfl))
      | (go_at_call 29; exact fam_call (cross_any _ _ _ _ _ hO3.out hO4.out hO1.out rfl))
      | (go_at_call 29; exact fam_call (cross_any _ _ _ _ _ hO3.out hO4.out hO2.out rfl))
      | (go_at_call 28; exact fam_same (sign_any _ _ _ rfl)))))
    refine wpQuiet_nil ?_
    rintro _ ⟨z, rfl⟩
    obtain ⟨b0, b1, hbz⟩ := HK.out _ (below_next HKK.out (Nat.le_refl _) z.prop)
    have HB := Lib.hid hbz
    clear b0 b1 hbz
    go_wp2_with fail
    go_ret
    exact ⟨ret_bool HT.out, HB.out⟩
/-- The distance of a point from an edge against r. -/
theorem sq32 {x : Int} (h1 : -2147483648 ≤ x) (h2 : x ≤ 2147483648) : 0 ≤ x * x ∧ x * x ≤ 4611686018427387904 :=
  ⟨by rcases Int.le_total 0 x with h | h
      · exact Int.mul_nonneg h h
      · exact Int.mul_nonneg_of_nonpos_of_nonpos h h, (mul_bd (A := 2147483648) (B := 2147483648) h1 h2 h1 h2).2⟩
theorem rr_bd {r : Int} (h1 : 0 ≤ r) (h2 : r ≤ 16384) : 0 ≤ r * r ∧ r * r ≤ 268435456 :=
  ⟨Int.mul_nonneg h1 h1, (mul_bd (A := 16384) (B := 16384) (by omega) h2 (by omega) h2).2⟩
set_option maxHeartbeats 4000000 in
set_option maxRecDepth 10000 in
theorem near_any (e : Ed) (c : Pt) (r x : Int) (w : World) (h1 : okE e = true) (h2 : okP c = true) (hr1 : 0 ≤ r) (hr2 : r ≤ 16384) (hx : nearZ e c r = x) : Calls Try.prog 47 #[aggE e, aggP c, .int .i64 r] w (RetI w x) := by
  obtain ⟨kk, hK⟩ := box2K w 60 23 #[.int .i64 e.1.1, .int .i64 e.1.2, .int .i64 e.2.1, .int .i64 e.2.2] #[.int .i64 c.1, .int .i64 c.2]
  have HK := Lib.hid hK
  clear hK
  obtain ⟨B0, B1, hbb⟩ := HK.out _ kk
  have c00 := B0.cell 0
  have c01 := B0.cell 1
  have c02 := B0.cell 2
  have c03 := B0.cell 3
  have c10 := B1.cell 0
  have c11 := B1.cell 1
  have HB := Lib.hid hbb
  clear B0 B1 hbb
  obtain ⟨o1, o2⟩ := okE_t h1
  have hO1 := Lib.hid o1; have hO2 := Lib.hid o2; have hO3 := Lib.hid h2
  obtain ⟨al, hal⟩ : ∃ y, dotZ e.1 e.2 c = y := ⟨_, rfl⟩
  obtain ⟨wh, hwh⟩ : ∃ y, dotZ e.1 e.2 e.2 = y := ⟨_, rfl⟩
  obtain ⟨d1, hd1⟩ : ∃ y, dotZ c e.1 e.1 = y := ⟨_, rfl⟩
  obtain ⟨d2, hd2⟩ : ∃ y, dotZ c e.2 e.2 = y := ⟨_, rfl⟩
  obtain ⟨ar, har⟩ : ∃ y, crossZ e.1 e.2 c = y := ⟨_, rfl⟩
  obtain ⟨v1, v2⟩ := dot_bd o1 o2 h2; obtain ⟨v3, v4⟩ := dot_bd o1 o2 o2; obtain ⟨v5, v6⟩ := dot_bd h2 o1 o1; obtain ⟨v7, v8⟩ := dot_bd h2 o2 o2; obtain ⟨v9, v10⟩ := cross_bd o1 o2 h2
  obtain ⟨r1, r2⟩ := rr_bd hr1 hr2
  unfold nearZ at hx
  rw [hal, hwh, hd1, hd2, har] at hx
  rw [hal] at v1 v2; rw [hwh] at v3 v4; rw [hd1] at v5 v6; rw [hd2] at v7 v8; rw [har] at v9 v10
  have HAL := Lib.hid hal; have HWH := Lib.hid hwh; have HD1 := Lib.hid hd1; have HD2 := Lib.hid hd2; have HAR := Lib.hid har; have HX := Lib.hid hx
  clear hal hwh hd1 hd2 har h1 h2 o1 o2 hx
  obtain ⟨s1, s2⟩ := sq32 v9 v10
  obtain ⟨p1, p2⟩ := mul_bd (A := 268435456) (B := 2147483648) (x := r * r) (y := wh) (by omega) r2 v3 v4
  have f1 := wr_ (n := r * r) (by omega)
  have f2 := wr_ (n := d1 - r * r) (by omega)
  have f3 := wr_ (n := d2 - r * r) (by omega)
  have f4 := wr_ (n := ar * ar) (by omega)
  have f5 := wr_ (n := r * r * wh) (by omega)
  have f6 := wr_ (n := ar * ar - r * r * wh) (by omega)
  clear v5 v6 v7 v8 v9 v10 s1 s2 p1 p2 r1 r2
  by_cases g1 : al ≤ 0
  · have HX2 : Hid (sgn (d1 - r * r) = x) := Lib.hid (by rw [← HX.out, if_pos g1])
    clear HX
    go_enter Try.func47, Try.ntmps47
    go_wp2_with fail
    have F00 : ∀ z : Fam _, z.val.cell? ⟨w.heap.size, 0, none⟩ = some (.int .i64 e.1.1) := fun z => z.some_ c00
    have F01 : ∀ z : Fam _, z.val.cell? ⟨w.heap.size, 1, none⟩ = some (.int .i64 e.1.2) := fun z => z.some_ c01
    have F02 : ∀ z : Fam _, z.val.cell? ⟨w.heap.size, 2, none⟩ = some (.int .i64 e.2.1) := fun z => z.some_ c02
    have F03 : ∀ z : Fam _, z.val.cell? ⟨w.heap.size, 3, none⟩ = some (.int .i64 e.2.2) := fun z => z.some_ c03
    have F10 : ∀ z : Fam _, z.val.cell? ⟨w.heap.size + 1, 0, none⟩ = some (.int .i64 c.1) := fun z => z.some_ c10
    have F11 : ∀ z : Fam _, z.val.cell? ⟨w.heap.size + 1, 1, none⟩ = some (.int .i64 c.2) := fun z => z.some_ c11
    clear c00 c01 c02 c03 c10 c11
    refine wp_region_fam (by kernel_rfl) (by kernel_rfl) ?_
    repeat (go_big_quiet_step ((first | (go_at_call 49; exact fam_call (dot_any _ _ _ al _ hO1.out hO2.out hO3.out HAL.out)) | (go_at_call 49; exact fam_call (dot_any _ _ _ wh _ hO1.out hO2.out hO2.out HWH.out)))))
    refine wpQuiet_nil ?_
    rintro _ ⟨z1, rfl⟩
    replace kk := below_next kk (Nat.le_refl _) z1.prop
    clear HB F00 F01 F02 F03 F10 F11
    obtain ⟨B0, B1, hbb⟩ := HK.out _ kk
    have c00 := B0.cell 0
    have c01 := B0.cell 1
    have c02 := B0.cell 2
    have c03 := B0.cell 3
    have c10 := B1.cell 0
    have c11 := B1.cell 1
    have HB := Lib.hid hbb
    clear B0 B1 hbb
    go_wp2_with fail
    refine (dot_any c e.1 e.1 d1 _ hO3.out hO1.out hO1.out HD1.out).mono ?_
    rintro e w2 ⟨rfl, hb2⟩
    replace kk := below_next kk (Nat.le_refl _) hb2
    clear c00 c01 c02 c03 c10 c11 HB hb2
    obtain ⟨B0, B1, hbb⟩ := HK.out _ kk
    have c00 := B0.cell 0
    have c01 := B0.cell 1
    have c02 := B0.cell 2
    have c03 := B0.cell 3
    have c10 := B1.cell 0
    have c11 := B1.cell 1
    have HB := Lib.hid hbb
    clear B0 B1 hbb
    go_wp2_with fail
    refine (sign_any _ x _ HX2.out).mono ?_
    rintro e' w9 ⟨rfl, rfl⟩
    go_wp2_with fail
    go_ret
    exact ⟨rfl, HB.out⟩
  · by_cases g2 : wh ≤ al
    · have HX2 : Hid (sgn (d2 - r * r) = x) := Lib.hid (by rw [← HX.out, if_neg g1, if_pos g2])
      have g3 : 0 < al := by omega
      clear HX g1
      go_enter Try.func47, Try.ntmps47
      go_wp2_with fail
      have F00 : ∀ z : Fam _, z.val.cell? ⟨w.heap.size, 0, none⟩ = some (.int .i64 e.1.1) := fun z => z.some_ c00
      have F01 : ∀ z : Fam _, z.val.cell? ⟨w.heap.size, 1, none⟩ = some (.int .i64 e.1.2) := fun z => z.some_ c01
      have F02 : ∀ z : Fam _, z.val.cell? ⟨w.heap.size, 2, none⟩ = some (.int .i64 e.2.1) := fun z => z.some_ c02
      have F03 : ∀ z : Fam _, z.val.cell? ⟨w.heap.size, 3, none⟩ = some (.int .i64 e.2.2) := fun z => z.some_ c03
      have F10 : ∀ z : Fam _, z.val.cell? ⟨w.heap.size + 1, 0, none⟩ = some (.int .i64 c.1) := fun z => z.some_ c10
      have F11 : ∀ z : Fam _, z.val.cell? ⟨w.heap.size + 1, 1, none⟩ = some (.int .i64 c.2) := fun z => z.some_ c11
      clear c00 c01 c02 c03 c10 c11
      refine wp_region_fam (by kernel_rfl) (by kernel_rfl) ?_
      repeat (go_big_quiet_step ((first | (go_at_call 49; exact fam_call (dot_any _ _ _ al _ hO1.out hO2.out hO3.out HAL.out)) | (go_at_call 49; exact fam_call (dot_any _ _ _ wh _ hO1.out hO2.out hO2.out HWH.out)))))
      refine wpQuiet_nil ?_
      rintro _ ⟨z3, rfl⟩
      replace kk := below_next kk (Nat.le_refl _) z3.prop
      clear HB F00 F01 F02 F03 F10 F11
      obtain ⟨B0, B1, hbb⟩ := HK.out _ kk
      have c00 := B0.cell 0
      have c01 := B0.cell 1
      have c02 := B0.cell 2
      have c03 := B0.cell 3
      have c10 := B1.cell 0
      have c11 := B1.cell 1
      have HB := Lib.hid hbb
      clear B0 B1 hbb
      go_wp2_with fail
      refine (dot_any c e.2 e.2 d2 _ hO3.out hO2.out hO2.out HD2.out).mono ?_
      rintro e w4 ⟨rfl, hb4⟩
      replace kk := below_next kk (Nat.le_refl _) hb4
      clear c00 c01 c02 c03 c10 c11 HB hb4
      obtain ⟨B0, B1, hbb⟩ := HK.out _ kk
      have c00 := B0.cell 0
      have c01 := B0.cell 1
      have c02 := B0.cell 2
      have c03 := B0.cell 3
      have c10 := B1.cell 0
      have c11 := B1.cell 1
      have HB := Lib.hid hbb
      clear B0 B1 hbb
      go_wp2_with fail
      refine (sign_any _ x _ HX2.out).mono ?_
      rintro e' w9 ⟨rfl, rfl⟩
      go_wp2_with fail
      go_ret
      exact ⟨rfl, HB.out⟩
    · have HX2 : Hid (sgn (ar * ar - r * r * wh) = x) := Lib.hid (by rw [← HX.out, if_neg g1, if_neg g2])
      have g3 : 0 < al := by omega
      have g4 : al < wh := by omega
      clear HX g1 g2
      go_enter Try.func47, Try.ntmps47
      go_wp2_with fail
      have F00 : ∀ z : Fam _, z.val.cell? ⟨w.heap.size, 0, none⟩ = some (.int .i64 e.1.1) := fun z => z.some_ c00
      have F01 : ∀ z : Fam _, z.val.cell? ⟨w.heap.size, 1, none⟩ = some (.int .i64 e.1.2) := fun z => z.some_ c01
      have F02 : ∀ z : Fam _, z.val.cell? ⟨w.heap.size, 2, none⟩ = some (.int .i64 e.2.1) := fun z => z.some_ c02
      have F03 : ∀ z : Fam _, z.val.cell? ⟨w.heap.size, 3, none⟩ = some (.int .i64 e.2.2) := fun z => z.some_ c03
      have F10 : ∀ z : Fam _, z.val.cell? ⟨w.heap.size + 1, 0, none⟩ = some (.int .i64 c.1) := fun z => z.some_ c10
      have F11 : ∀ z : Fam _, z.val.cell? ⟨w.heap.size + 1, 1, none⟩ = some (.int .i64 c.2) := fun z => z.some_ c11
      clear c00 c01 c02 c03 c10 c11
      refine wp_region_fam (by kernel_rfl) (by kernel_rfl) ?_
      repeat (go_big_quiet_step ((first | (go_at_call 49; exact fam_call (dot_any _ _ _ al _ hO1.out hO2.out hO3.out HAL.out)) | (go_at_call 49; exact fam_call (dot_any _ _ _ wh _ hO1.out hO2.out hO2.out HWH.out)))))
      refine wpQuiet_nil ?_
      rintro _ ⟨z5, rfl⟩
      replace kk := below_next kk (Nat.le_refl _) z5.prop
      clear HB F00 F01 F02 F03 F10 F11
      obtain ⟨B0, B1, hbb⟩ := HK.out _ kk
      have c00 := B0.cell 0
      have c01 := B0.cell 1
      have c02 := B0.cell 2
      have c03 := B0.cell 3
      have c10 := B1.cell 0
      have c11 := B1.cell 1
      have HB := Lib.hid hbb
      clear B0 B1 hbb
      go_wp2_with fail
      refine (cross_any e.1 e.2 c ar _ hO1.out hO2.out hO3.out HAR.out).mono ?_
      rintro e w6 ⟨rfl, hb6⟩
      replace kk := below_next kk (Nat.le_refl _) hb6
      clear c00 c01 c02 c03 c10 c11 HB hb6
      obtain ⟨B0, B1, hbb⟩ := HK.out _ kk
      have c00 := B0.cell 0
      have c01 := B0.cell 1
      have c02 := B0.cell 2
      have c03 := B0.cell 3
      have c10 := B1.cell 0
      have c11 := B1.cell 1
      have HB := Lib.hid hbb
      clear B0 B1 hbb
      go_wp2_with fail
      refine (sign_any _ x _ HX2.out).mono ?_
      rintro e' w9 ⟨rfl, rfl⟩
      go_wp2_with fail
      go_ret
      exact ⟨rfl, HB.out⟩
end Go.Proofs.Ytomnodpmpdodbaa
