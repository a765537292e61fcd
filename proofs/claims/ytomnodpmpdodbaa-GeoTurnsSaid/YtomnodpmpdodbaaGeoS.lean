/- The walks of the reference's meet, compare, edge. -/
import Derived.Test.YtomnodpmpdodbaaGeoR
namespace Go.Proofs.Ytomnodpmpdodbaa
open Go.RowKit
def cmpZ (b c a : Pt) (r : Int) : Int :=
  if dotZ b a c ≤ 0 then sqZ a b - r * r else if sqZ b c ≤ dotZ b a c then sqZ a c - r * r else crossZ b c a * crossZ b c a - r * r * sqZ b c
set_option maxHeartbeats 4000000 in
set_option maxRecDepth 10000 in
theorem rmeet_any (a b c d : Pt) (x : Bool) (w : World) (h1 : okP a = true) (h2 : okP b = true) (h3 : okP c = true) (h4 : okP d = true) (hx : meetB a b c d = x) : Calls Try.prog 45 #[aggP a, aggP b, aggP c, aggP d] w (RetB w x) := by
  obtain ⟨kk, hK⟩ := box4K w 23 23 23 23 #[.int .i64 a.1, .int .i64 a.2] #[.int .i64 b.1, .int .i64 b.2] #[.int .i64 c.1, .int .i64 c.2] #[.int .i64 d.1, .int .i64 d.2]
  have HK := Lib.hid hK
  clear hK
  obtain ⟨B0, B1, B2, B3, hbb⟩ := HK.out _ kk
  have c00 := B0.cell 0
  have c01 := B0.cell 1
  have c10 := B1.cell 0
  have c11 := B1.cell 1
  have c20 := B2.cell 0
  have c21 := B2.cell 1
  have c30 := B3.cell 0
  have c31 := B3.cell 1
  have HB := Lib.hid hbb
  clear B0 B1 B2 B3 hbb
  have HA := Lib.hid h1; have HA2 := Lib.hid h2; have HA3 := Lib.hid h3; have HA4 := Lib.hid h4; have HX := Lib.hid hx
  clear h1 h2 h3 h4 hx
  rcases h : onB a b c with _ | _
  case true =>
    have HO0 := Lib.hid h
    have HX2 : Hid (true = x) := Lib.hid (by rw [← HX.out]; unfold meetB; rw [h]; simp)
    clear h
    go_enter Try.func45, Try.ntmps45
    go_wp2_with fail
    refine (ron_any a b c true _ HA.out HA2.out HA3.out HO0.out).mono ?_
    rintro e w1 ⟨rfl, hb1⟩
    replace kk := below_next kk (Nat.le_refl _) hb1
    clear c00 c01 c10 c11 c20 c21 c30 c31 HB hb1
    obtain ⟨B0, B1, B2, B3, hbb⟩ := HK.out _ kk
    have c00 := B0.cell 0
    have c01 := B0.cell 1
    have c10 := B1.cell 0
    have c11 := B1.cell 1
    have c20 := B2.cell 0
    have c21 := B2.cell 1
    have c30 := B3.cell 0
    have c31 := B3.cell 1
    have HB := Lib.hid hbb
    clear B0 B1 B2 B3 hbb
    go_wp2_with fail
    go_ret
    exact ⟨ret_bool HX2.out, HB.out⟩
  have HO0 := Lib.hid h
  clear h
  rcases h : onB a b d with _ | _
  case true =>
    have HO1 := Lib.hid h
    have HX2 : Hid (true = x) := Lib.hid (by rw [← HX.out]; unfold meetB; rw [h]; simp)
    clear h
    go_enter Try.func45, Try.ntmps45
    go_wp2_with fail
    refine (ron_any a b c false _ HA.out HA2.out HA3.out HO0.out).mono ?_
    rintro e w2 ⟨rfl, hb2⟩
    replace kk := below_next kk (Nat.le_refl _) hb2
    clear c00 c01 c10 c11 c20 c21 c30 c31 HB hb2
    obtain ⟨B0, B1, B2, B3, hbb⟩ := HK.out _ kk
    have c00 := B0.cell 0
    have c01 := B0.cell 1
    have c10 := B1.cell 0
    have c11 := B1.cell 1
    have c20 := B2.cell 0
    have c21 := B2.cell 1
    have c30 := B3.cell 0
    have c31 := B3.cell 1
    have HB := Lib.hid hbb
    clear B0 B1 B2 B3 hbb
    go_wp2_with fail
    refine (ron_any a b d true _ HA.out HA2.out HA4.out HO1.out).mono ?_
    rintro e w3 ⟨rfl, hb3⟩
    replace kk := below_next kk (Nat.le_refl _) hb3
    clear c00 c01 c10 c11 c20 c21 c30 c31 HB hb3
    obtain ⟨B0, B1, B2, B3, hbb⟩ := HK.out _ kk
    have c00 := B0.cell 0
    have c01 := B0.cell 1
    have c10 := B1.cell 0
    have c11 := B1.cell 1
    have c20 := B2.cell 0
    have c21 := B2.cell 1
    have c30 := B3.cell 0
    have c31 := B3.cell 1
    have HB := Lib.hid hbb
    clear B0 B1 B2 B3 hbb
    go_wp2_with fail
    go_ret
    exact ⟨ret_bool HX2.out, HB.out⟩
  have HO1 := Lib.hid h
  clear h
  rcases h : onB c d a with _ | _
  case true =>
    have HO2 := Lib.hid h
    have HX2 : Hid (true = x) := Lib.hid (by rw [← HX.out]; unfold meetB; rw [h]; simp)
    clear h
    go_enter Try.func45, Try.ntmps45
    go_wp2_with fail
    refine (ron_any a b c false _ HA.out HA2.out HA3.out HO0.out).mono ?_
    rintro e w4 ⟨rfl, hb4⟩
    replace kk := below_next kk (Nat.le_refl _) hb4
    clear c00 c01 c10 c11 c20 c21 c30 c31 HB hb4
    obtain ⟨B0, B1, B2, B3, hbb⟩ := HK.out _ kk
    have c00 := B0.cell 0
    have c01 := B0.cell 1
    have c10 := B1.cell 0
    have c11 := B1.cell 1
    have c20 := B2.cell 0
    have c21 := B2.cell 1
    have c30 := B3.cell 0
    have c31 := B3.cell 1
    have HB := Lib.hid hbb
    clear B0 B1 B2 B3 hbb
    go_wp2_with fail
    refine (ron_any a b d false _ HA.out HA2.out HA4.out HO1.out).mono ?_
    rintro e w5 ⟨rfl, hb5⟩
    replace kk := below_next kk (Nat.le_refl _) hb5
    clear c00 c01 c10 c11 c20 c21 c30 c31 HB hb5
    obtain ⟨B0, B1, B2, B3, hbb⟩ := HK.out _ kk
    have c00 := B0.cell 0
    have c01 := B0.cell 1
    have c10 := B1.cell 0
    have c11 := B1.cell 1
    have c20 := B2.cell 0
    have c21 := B2.cell 1
    have c30 := B3.cell 0
    have c31 := B3.cell 1
    have HB := Lib.hid hbb
    clear B0 B1 B2 B3 hbb
    go_wp2_with fail
    refine (ron_any c d a true _ HA3.out HA4.out HA.out HO2.out).mono ?_
    rintro e w6 ⟨rfl, hb6⟩
    replace kk := below_next kk (Nat.le_refl _) hb6
    clear c00 c01 c10 c11 c20 c21 c30 c31 HB hb6
    obtain ⟨B0, B1, B2, B3, hbb⟩ := HK.out _ kk
    have c00 := B0.cell 0
    have c01 := B0.cell 1
    have c10 := B1.cell 0
    have c11 := B1.cell 1
    have c20 := B2.cell 0
    have c21 := B2.cell 1
    have c30 := B3.cell 0
    have c31 := B3.cell 1
    have HB := Lib.hid hbb
    clear B0 B1 B2 B3 hbb
    go_wp2_with fail
    go_ret
    exact ⟨ret_bool HX2.out, HB.out⟩
  have HO2 := Lib.hid h
  clear h
  rcases h : onB c d b with _ | _
  case true =>
    have HO3 := Lib.hid h
    have HX2 : Hid (true = x) := Lib.hid (by rw [← HX.out]; unfold meetB; rw [h]; simp)
    clear h
    go_enter Try.func45, Try.ntmps45
    go_wp2_with fail
    refine (ron_any a b c false _ HA.out HA2.out HA3.out HO0.out).mono ?_
    rintro e w7 ⟨rfl, hb7⟩
    replace kk := below_next kk (Nat.le_refl _) hb7
    clear c00 c01 c10 c11 c20 c21 c30 c31 HB hb7
    obtain ⟨B0, B1, B2, B3, hbb⟩ := HK.out _ kk
    have c00 := B0.cell 0
    have c01 := B0.cell 1
    have c10 := B1.cell 0
    have c11 := B1.cell 1
    have c20 := B2.cell 0
    have c21 := B2.cell 1
    have c30 := B3.cell 0
    have c31 := B3.cell 1
    have HB := Lib.hid hbb
    clear B0 B1 B2 B3 hbb
    go_wp2_with fail
    refine (ron_any a b d false _ HA.out HA2.out HA4.out HO1.out).mono ?_
    rintro e w8 ⟨rfl, hb8⟩
    replace kk := below_next kk (Nat.le_refl _) hb8
    clear c00 c01 c10 c11 c20 c21 c30 c31 HB hb8
    obtain ⟨B0, B1, B2, B3, hbb⟩ := HK.out _ kk
    have c00 := B0.cell 0
    have c01 := B0.cell 1
    have c10 := B1.cell 0
    have c11 := B1.cell 1
    have c20 := B2.cell 0
    have c21 := B2.cell 1
    have c30 := B3.cell 0
    have c31 := B3.cell 1
    have HB := Lib.hid hbb
    clear B0 B1 B2 B3 hbb
    go_wp2_with fail
    refine (ron_any c d a false _ HA3.out HA4.out HA.out HO2.out).mono ?_
    rintro e w9 ⟨rfl, hb9⟩
    replace kk := below_next kk (Nat.le_refl _) hb9
    clear c00 c01 c10 c11 c20 c21 c30 c31 HB hb9
    obtain ⟨B0, B1, B2, B3, hbb⟩ := HK.out _ kk
    have c00 := B0.cell 0
    have c01 := B0.cell 1
    have c10 := B1.cell 0
    have c11 := B1.cell 1
    have c20 := B2.cell 0
    have c21 := B2.cell 1
    have c30 := B3.cell 0
    have c31 := B3.cell 1
    have HB := Lib.hid hbb
    clear B0 B1 B2 B3 hbb
    go_wp2_with fail
    refine (ron_any c d b true _ HA3.out HA4.out HA2.out HO3.out).mono ?_
    rintro e w10 ⟨rfl, hb10⟩
    replace kk := below_next kk (Nat.le_refl _) hb10
    clear c00 c01 c10 c11 c20 c21 c30 c31 HB hb10
    obtain ⟨B0, B1, B2, B3, hbb⟩ := HK.out _ kk
    have c00 := B0.cell 0
    have c01 := B0.cell 1
    have c10 := B1.cell 0
    have c11 := B1.cell 1
    have c20 := B2.cell 0
    have c21 := B2.cell 1
    have c30 := B3.cell 0
    have c31 := B3.cell 1
    have HB := Lib.hid hbb
    clear B0 B1 B2 B3 hbb
    go_wp2_with fail
    go_ret
    exact ⟨ret_bool HX2.out, HB.out⟩
  have HO3 := Lib.hid h
  clear h
  have HX2 : Hid ((decide (sideZ a b c * sideZ a b d < 0) && decide (sideZ c d a * sideZ c d b < 0)) = x) := Lib.hid (by rw [← HX.out]; unfold meetB; rw [HO0.out, HO1.out, HO2.out, HO3.out]; simp)
  clear HX
  obtain ⟨s1, hs1⟩ : ∃ s, sideZ a b c = s := ⟨_, rfl⟩
  obtain ⟨s2, hs2⟩ : ∃ s, sideZ a b d = s := ⟨_, rfl⟩
  obtain ⟨s3, hs3⟩ : ∃ s, sideZ c d a = s := ⟨_, rfl⟩
  obtain ⟨s4, hs4⟩ : ∃ s, sideZ c d b = s := ⟨_, rfl⟩
  rw [hs1, hs2, hs3, hs4] at HX2
  have q1 : -1 ≤ s1 ∧ s1 ≤ 1 := by rw [← hs1, sideZ_ok HA.out HA2.out HA3.out]; exact sgn_bd _
  have q2 : -1 ≤ s2 ∧ s2 ≤ 1 := by rw [← hs2, sideZ_ok HA.out HA2.out HA4.out]; exact sgn_bd _
  have q3 : -1 ≤ s3 ∧ s3 ≤ 1 := by rw [← hs3, sideZ_ok HA3.out HA4.out HA.out]; exact sgn_bd _
  have q4 : -1 ≤ s4 ∧ s4 ≤ 1 := by rw [← hs4, sideZ_ok HA3.out HA4.out HA2.out]; exact sgn_bd _
  have u1 := mul_bd (A := 1) (B := 1) q1.1 q1.2 q2.1 q2.2
  have u2 := mul_bd (A := 1) (B := 1) q3.1 q3.2 q4.1 q4.2
  have f1 := wr_ (n := s1 * s2) (by omega)
  have f2 := wr_ (n := s3 * s4) (by omega)
  have HS1 := Lib.hid hs1; have HS2 := Lib.hid hs2; have HS3 := Lib.hid hs3; have HS4 := Lib.hid hs4
  clear hs1 hs2 hs3 hs4 q1 q2 q3 q4 u1 u2
  by_cases g : s1 * s2 < 0
  · have HT : Hid (decide (s3 * s4 < 0) = x) := Lib.hid (by rw [← HX2.out, decide_eq_true g]; simp)
    have t1 := decide_eq_true g
    clear HX2 g
    go_enter Try.func45, Try.ntmps45
    go_wp2_with fail
    refine (ron_any a b c false _ HA.out HA2.out HA3.out HO0.out).mono ?_
    rintro e w11 ⟨rfl, hb11⟩
    replace kk := below_next kk (Nat.le_refl _) hb11
    clear c00 c01 c10 c11 c20 c21 c30 c31 HB hb11
    obtain ⟨B0, B1, B2, B3, hbb⟩ := HK.out _ kk
    have c00 := B0.cell 0
    have c01 := B0.cell 1
    have c10 := B1.cell 0
    have c11 := B1.cell 1
    have c20 := B2.cell 0
    have c21 := B2.cell 1
    have c30 := B3.cell 0
    have c31 := B3.cell 1
    have HB := Lib.hid hbb
    clear B0 B1 B2 B3 hbb
    go_wp2_with fail
    refine (ron_any a b d false _ HA.out HA2.out HA4.out HO1.out).mono ?_
    rintro e w12 ⟨rfl, hb12⟩
    replace kk := below_next kk (Nat.le_refl _) hb12
    clear c00 c01 c10 c11 c20 c21 c30 c31 HB hb12
    obtain ⟨B0, B1, B2, B3, hbb⟩ := HK.out _ kk
    have c00 := B0.cell 0
    have c01 := B0.cell 1
    have c10 := B1.cell 0
    have c11 := B1.cell 1
    have c20 := B2.cell 0
    have c21 := B2.cell 1
    have c30 := B3.cell 0
    have c31 := B3.cell 1
    have HB := Lib.hid hbb
    clear B0 B1 B2 B3 hbb
    go_wp2_with fail
    refine (ron_any c d a false _ HA3.out HA4.out HA.out HO2.out).mono ?_
    rintro e w13 ⟨rfl, hb13⟩
    replace kk := below_next kk (Nat.le_refl _) hb13
    clear c00 c01 c10 c11 c20 c21 c30 c31 HB hb13
    obtain ⟨B0, B1, B2, B3, hbb⟩ := HK.out _ kk
    have c00 := B0.cell 0
    have c01 := B0.cell 1
    have c10 := B1.cell 0
    have c11 := B1.cell 1
    have c20 := B2.cell 0
    have c21 := B2.cell 1
    have c30 := B3.cell 0
    have c31 := B3.cell 1
    have HB := Lib.hid hbb
    clear B0 B1 B2 B3 hbb
    go_wp2_with fail
    refine (ron_any c d b false _ HA3.out HA4.out HA2.out HO3.out).mono ?_
    rintro e w14 ⟨rfl, hb14⟩
    replace kk := below_next kk (Nat.le_refl _) hb14
    clear c00 c01 c10 c11 c20 c21 c30 c31 HB hb14
    obtain ⟨B0, B1, B2, B3, hbb⟩ := HK.out _ kk
    have c00 := B0.cell 0
    have c01 := B0.cell 1
    have c10 := B1.cell 0
    have c11 := B1.cell 1
    have c20 := B2.cell 0
    have c21 := B2.cell 1
    have c30 := B3.cell 0
    have c31 := B3.cell 1
    have HB := Lib.hid hbb
    clear B0 B1 B2 B3 hbb
    go_wp2_with fail
    have F00 : ∀ z : Fam _, z.val.cell? ⟨w.heap.size, 0, none⟩ = some (.int .i64 a.1) := fun z => z.some_ c00
    have F01 : ∀ z : Fam _, z.val.cell? ⟨w.heap.size, 1, none⟩ = some (.int .i64 a.2) := fun z => z.some_ c01
    have F10 : ∀ z : Fam _, z.val.cell? ⟨w.heap.size + 1, 0, none⟩ = some (.int .i64 b.1) := fun z => z.some_ c10
    have F11 : ∀ z : Fam _, z.val.cell? ⟨w.heap.size + 1, 1, none⟩ = some (.int .i64 b.2) := fun z => z.some_ c11
    have F20 : ∀ z : Fam _, z.val.cell? ⟨w.heap.size + 1 + 1, 0, none⟩ = some (.int .i64 c.1) := fun z => z.some_ c20
    have F21 : ∀ z : Fam _, z.val.cell? ⟨w.heap.size + 1 + 1, 1, none⟩ = some (.int .i64 c.2) := fun z => z.some_ c21
    have F30 : ∀ z : Fam _, z.val.cell? ⟨w.heap.size + 1 + 1 + 1, 0, none⟩ = some (.int .i64 d.1) := fun z => z.some_ c30
    have F31 : ∀ z : Fam _, z.val.cell? ⟨w.heap.size + 1 + 1 + 1, 1, none⟩ = some (.int .i64 d.2) := fun z => z.some_ c31
    clear c00 c01 c10 c11 c20 c21 c30 c31
    refine wp_region_fam (by kernel_rfl) (by kernel_rfl) ?_
    repeat (go_big_quiet_step ((first | (go_at_call 12; (with_reducible exact fam_call (rside_any a b c s1 _ HS1.out))) | (go_at_call 12; (with_reducible exact fam_call (rside_any a b d s2 _ HS2.out))) | (go_at_call 12; (with_reducible exact fam_call (rside_any c d a s3 _ HS3.out))) | (go_at_call 12; (with_reducible exact fam_call (rside_any c d b s4 _ HS4.out))))))
    refine wpQuiet_nil ?_
    rintro _ ⟨z15, rfl⟩
    replace kk := below_next kk (Nat.le_refl _) z15.prop
    clear HB F00 F01 F10 F11 F20 F21 F30 F31
    obtain ⟨B0, B1, B2, B3, hbb⟩ := HK.out _ kk
    have c00 := B0.cell 0
    have c01 := B0.cell 1
    have c10 := B1.cell 0
    have c11 := B1.cell 1
    have c20 := B2.cell 0
    have c21 := B2.cell 1
    have c30 := B3.cell 0
    have c31 := B3.cell 1
    have HB := Lib.hid hbb
    clear B0 B1 B2 B3 hbb
    go_wp2_with fail
    go_ret
    exact ⟨ret_bool HT.out, HB.out⟩
  · have HT : Hid (false = x) := Lib.hid (by rw [← HX2.out, decide_eq_false g]; rfl)
    have t1 := decide_eq_false g
    clear HX2 g
    go_enter Try.func45, Try.ntmps45
    go_wp2_with fail
    refine (ron_any a b c false _ HA.out HA2.out HA3.out HO0.out).mono ?_
    rintro e w16 ⟨rfl, hb16⟩
    replace kk := below_next kk (Nat.le_refl _) hb16
    clear c00 c01 c10 c11 c20 c21 c30 c31 HB hb16
    obtain ⟨B0, B1, B2, B3, hbb⟩ := HK.out _ kk
    have c00 := B0.cell 0
    have c01 := B0.cell 1
    have c10 := B1.cell 0
    have c11 := B1.cell 1
    have c20 := B2.cell 0
    have c21 := B2.cell 1
    have c30 := B3.cell 0
    have c31 := B3.cell 1
    have HB := Lib.hid hbb
    clear B0 B1 B2 B3 hbb
    go_wp2_with fail
    refine (ron_any a b d false _ HA.out HA2.out HA4.out HO1.out).mono ?_
    rintro e w17 ⟨rfl, hb17⟩
    replace kk := below_next kk (Nat.le_refl _) hb17
    clear c00 c01 c10 c11 c20 c21 c30 c31 HB hb17
    obtain ⟨B0, B1, B2, B3, hbb⟩ := HK.out _ kk
    have c00 := B0.cell 0
    have c01 := B0.cell 1
    have c10 := B1.cell 0
    have c11 := B1.cell 1
    have c20 := B2.cell 0
    have c21 := B2.cell 1
    have c30 := B3.cell 0
    have c31 := B3.cell 1
    have HB := Lib.hid hbb
    clear B0 B1 B2 B3 hbb
    go_wp2_with fail
    refine (ron_any c d a false _ HA3.out HA4.out HA.out HO2.out).mono ?_
    rintro e w18 ⟨rfl, hb18⟩
    replace kk := below_next kk (Nat.le_refl _) hb18
    clear c00 c01 c10 c11 c20 c21 c30 c31 HB hb18
    obtain ⟨B0, B1, B2, B3, hbb⟩ := HK.out _ kk
    have c00 := B0.cell 0
    have c01 := B0.cell 1
    have c10 := B1.cell 0
    have c11 := B1.cell 1
    have c20 := B2.cell 0
    have c21 := B2.cell 1
    have c30 := B3.cell 0
    have c31 := B3.cell 1
    have HB := Lib.hid hbb
    clear B0 B1 B2 B3 hbb
    go_wp2_with fail
    refine (ron_any c d b false _ HA3.out HA4.out HA2.out HO3.out).mono ?_
    rintro e w19 ⟨rfl, hb19⟩
    replace kk := below_next kk (Nat.le_refl _) hb19
    clear c00 c01 c10 c11 c20 c21 c30 c31 HB hb19
    obtain ⟨B0, B1, B2, B3, hbb⟩ := HK.out _ kk
    have c00 := B0.cell 0
    have c01 := B0.cell 1
    have c10 := B1.cell 0
    have c11 := B1.cell 1
    have c20 := B2.cell 0
    have c21 := B2.cell 1
    have c30 := B3.cell 0
    have c31 := B3.cell 1
    have HB := Lib.hid hbb
    clear B0 B1 B2 B3 hbb
    go_wp2_with fail
    have F00 : ∀ z : Fam _, z.val.cell? ⟨w.heap.size, 0, none⟩ = some (.int .i64 a.1) := fun z => z.some_ c00
    have F01 : ∀ z : Fam _, z.val.cell? ⟨w.heap.size, 1, none⟩ = some (.int .i64 a.2) := fun z => z.some_ c01
    have F10 : ∀ z : Fam _, z.val.cell? ⟨w.heap.size + 1, 0, none⟩ = some (.int .i64 b.1) := fun z => z.some_ c10
    have F11 : ∀ z : Fam _, z.val.cell? ⟨w.heap.size + 1, 1, none⟩ = some (.int .i64 b.2) := fun z => z.some_ c11
    have F20 : ∀ z : Fam _, z.val.cell? ⟨w.heap.size + 1 + 1, 0, none⟩ = some (.int .i64 c.1) := fun z => z.some_ c20
    have F21 : ∀ z : Fam _, z.val.cell? ⟨w.heap.size + 1 + 1, 1, none⟩ = some (.int .i64 c.2) := fun z => z.some_ c21
    have F30 : ∀ z : Fam _, z.val.cell? ⟨w.heap.size + 1 + 1 + 1, 0, none⟩ = some (.int .i64 d.1) := fun z => z.some_ c30
    have F31 : ∀ z : Fam _, z.val.cell? ⟨w.heap.size + 1 + 1 + 1, 1, none⟩ = some (.int .i64 d.2) := fun z => z.some_ c31
    clear c00 c01 c10 c11 c20 c21 c30 c31
    refine wp_region_fam (by kernel_rfl) (by kernel_rfl) ?_
    repeat (go_big_quiet_step ((first | (go_at_call 12; (with_reducible exact fam_call (rside_any a b c s1 _ HS1.out))) | (go_at_call 12; (with_reducible exact fam_call (rside_any a b d s2 _ HS2.out))) | (go_at_call 12; (with_reducible exact fam_call (rside_any c d a s3 _ HS3.out))) | (go_at_call 12; (with_reducible exact fam_call (rside_any c d b s4 _ HS4.out))))))
    refine wpQuiet_nil ?_
    rintro _ ⟨z20, rfl⟩
    replace kk := below_next kk (Nat.le_refl _) z20.prop
    clear HB F00 F01 F10 F11 F20 F21 F30 F31
    obtain ⟨B0, B1, B2, B3, hbb⟩ := HK.out _ kk
    have c00 := B0.cell 0
    have c01 := B0.cell 1
    have c10 := B1.cell 0
    have c11 := B1.cell 1
    have c20 := B2.cell 0
    have c21 := B2.cell 1
    have c30 := B3.cell 0
    have c31 := B3.cell 1
    have HB := Lib.hid hbb
    clear B0 B1 B2 B3 hbb
    go_wp2_with fail
    go_ret
    exact ⟨ret_bool HT.out, HB.out⟩
theorem sqq {x : Int} (h1 : -2147483648 ≤ x) (h2 : x ≤ 2147483648) : -4611686018427387904 ≤ x * x ∧ x * x ≤ 4611686018427387904 := by have := sq32 h1 h2; omega
set_option maxHeartbeats 4000000 in
set_option maxRecDepth 10000 in
theorem rcompare_any (b c a : Pt) (r x : Int) (w : World) (h1 : okP b = true) (h2 : okP c = true) (h3 : okP a = true) (hr1 : 0 ≤ r) (hr2 : r ≤ 16384) (hx : cmpZ b c a r = x) : Calls Try.prog 41 #[aggP b, aggP c, aggP a, .int .i64 r] w (RetI w x) := by
  obtain ⟨kk, hK⟩ := box3K w 23 23 23 #[.int .i64 b.1, .int .i64 b.2] #[.int .i64 c.1, .int .i64 c.2] #[.int .i64 a.1, .int .i64 a.2]
  have HK := Lib.hid hK
  clear hK
  obtain ⟨B0, B1, B2, hbb⟩ := HK.out _ kk
  have c00 := B0.cell 0
  have c01 := B0.cell 1
  have c10 := B1.cell 0
  have c11 := B1.cell 1
  have c20 := B2.cell 0
  have c21 := B2.cell 1
  have HB := Lib.hid hbb
  clear B0 B1 B2 hbb
  have HA := Lib.hid h1; have HA2 := Lib.hid h2; have HA3 := Lib.hid h3
  obtain ⟨al, hal⟩ : ∃ y, dotZ b a c = y := ⟨_, rfl⟩
  obtain ⟨wh, hwh⟩ : ∃ y, sqZ b c = y := ⟨_, rfl⟩
  obtain ⟨d1, hd1⟩ : ∃ y, sqZ a b = y := ⟨_, rfl⟩
  obtain ⟨d2, hd2⟩ : ∃ y, sqZ a c = y := ⟨_, rfl⟩
  obtain ⟨ar, har⟩ : ∃ y, crossZ b c a = y := ⟨_, rfl⟩
  have v1 := dot_bd h1 h3 h2; have v3 := sq_bd h1 h2; have v5 := sq_bd h3 h1; have v7 := sq_bd h3 h2; have v9 := cross_bd h1 h2 h3
  obtain ⟨r1, r2⟩ := rr_bd hr1 hr2
  unfold cmpZ at hx
  rw [hal, hwh, hd1, hd2, har] at hx
  rw [hal] at v1; rw [hwh] at v3; rw [hd1] at v5; rw [hd2] at v7; rw [har] at v9
  obtain ⟨p1, p2, p3, p4⟩ := okP_t h1; obtain ⟨q1, q2, q3, q4⟩ := okP_t h2; obtain ⟨r1', r2', r3', r4'⟩ := okP_t h3
  have e1 := prod_bd ⟨r1', r2'⟩ ⟨p1, p2⟩ ⟨q1, q2⟩ ⟨p1, p2⟩
  have e2 := prod_bd ⟨r3', r4'⟩ ⟨p3, p4⟩ ⟨q3, q4⟩ ⟨p3, p4⟩
  have s1 := sq32 v9.1 v9.2
  have p := mul_bd (A := 268435456) (B := 2147483648) (x := r * r) (y := wh) (by omega) r2 v3.1 v3.2
  have f1 := wr_ (n := r * r) (by omega)
  have f2 := wr_ (n := d1 - r * r) (by omega)
  have f3 := wr_ (n := d2 - r * r) (by omega)
  have f4 := wr_ (n := ar * ar) (by omega)
  have f5 := wr_ (n := r * r * wh) (by omega)
  have f6 := wr_ (n := ar * ar - r * r * wh) (by omega)
  have g1 := wr_ (n := (a.1 - b.1) * (c.1 - b.1)) (by omega)
  have g2 := wr_ (n := (a.2 - b.2) * (c.2 - b.2)) (by omega)
  have g3 : IntKind.i64.wrap ((a.1 - b.1) * (c.1 - b.1) + (a.2 - b.2) * (c.2 - b.2)) = al := by rw [← hal]; exact wr_ (by omega)
  have k1 := wr_ (n := a.1 - b.1) (by omega)
  have k2 := wr_ (n := c.1 - b.1) (by omega)
  have k3 := wr_ (n := a.2 - b.2) (by omega)
  have k4 := wr_ (n := c.2 - b.2) (by omega)
  have HWH := Lib.hid hwh; have HD1 := Lib.hid hd1; have HD2 := Lib.hid hd2; have HAR := Lib.hid har; have HX := Lib.hid hx
  clear hal hwh hd1 hd2 har h1 h2 h3 hx v1 v3 v5 v7 v9 e1 e2 s1 p r1 r2 p1 p2 p3 p4 q1 q2 q3 q4 r1' r2' r3' r4'
  by_cases l1 : al ≤ 0
  · have HX2 : Hid (d1 - r * r = x) := Lib.hid (by rw [← HX.out, if_pos l1])
    clear HX
    go_enter Try.func41, Try.ntmps41
    go_wp2_with fail
    have F00 : ∀ z : Fam _, z.val.cell? ⟨w.heap.size, 0, none⟩ = some (.int .i64 b.1) := fun z => z.some_ c00
    have F01 : ∀ z : Fam _, z.val.cell? ⟨w.heap.size, 1, none⟩ = some (.int .i64 b.2) := fun z => z.some_ c01
    have F10 : ∀ z : Fam _, z.val.cell? ⟨w.heap.size + 1, 0, none⟩ = some (.int .i64 c.1) := fun z => z.some_ c10
    have F11 : ∀ z : Fam _, z.val.cell? ⟨w.heap.size + 1, 1, none⟩ = some (.int .i64 c.2) := fun z => z.some_ c11
    have F20 : ∀ z : Fam _, z.val.cell? ⟨w.heap.size + 1 + 1, 0, none⟩ = some (.int .i64 a.1) := fun z => z.some_ c20
    have F21 : ∀ z : Fam _, z.val.cell? ⟨w.heap.size + 1 + 1, 1, none⟩ = some (.int .i64 a.2) := fun z => z.some_ c21
    clear c00 c01 c10 c11 c20 c21
    refine wp_region_fam (by kernel_rfl) (by kernel_rfl) ?_
    repeat (go_big_quiet_step (((go_at_call 48; exact fam_call (rsquare_any b c wh _ HA.out HA2.out HWH.out)))))
    refine wpQuiet_nil ?_
    rintro _ ⟨z1, rfl⟩
    replace kk := below_next kk (Nat.le_refl _) z1.prop
    clear HB F00 F01 F10 F11 F20 F21
    obtain ⟨B0, B1, B2, hbb⟩ := HK.out _ kk
    have c00 := B0.cell 0
    have c01 := B0.cell 1
    have c10 := B1.cell 0
    have c11 := B1.cell 1
    have c20 := B2.cell 0
    have c21 := B2.cell 1
    have HB := Lib.hid hbb
    clear B0 B1 B2 hbb
    go_wp2_with fail
    refine (rsquare_any a b d1 _ HA3.out HA.out HD1.out).mono ?_
    rintro e w2 ⟨rfl, hb2⟩
    replace kk := below_next kk (Nat.le_refl _) hb2
    clear c00 c01 c10 c11 c20 c21 HB hb2
    obtain ⟨B0, B1, B2, hbb⟩ := HK.out _ kk
    have c00 := B0.cell 0
    have c01 := B0.cell 1
    have c10 := B1.cell 0
    have c11 := B1.cell 1
    have c20 := B2.cell 0
    have c21 := B2.cell 1
    have HB := Lib.hid hbb
    clear B0 B1 B2 hbb
    go_wp2_with fail
    go_ret
    exact ⟨ret_int HX2.out, HB.out⟩
  · by_cases l2 : wh ≤ al
    · have HX2 : Hid (d2 - r * r = x) := Lib.hid (by rw [← HX.out, if_neg l1, if_pos l2])
      have l3 : 0 < al := by omega
      clear HX l1
      go_enter Try.func41, Try.ntmps41
      go_wp2_with fail
      have F00 : ∀ z : Fam _, z.val.cell? ⟨w.heap.size, 0, none⟩ = some (.int .i64 b.1) := fun z => z.some_ c00
      have F01 : ∀ z : Fam _, z.val.cell? ⟨w.heap.size, 1, none⟩ = some (.int .i64 b.2) := fun z => z.some_ c01
      have F10 : ∀ z : Fam _, z.val.cell? ⟨w.heap.size + 1, 0, none⟩ = some (.int .i64 c.1) := fun z => z.some_ c10
      have F11 : ∀ z : Fam _, z.val.cell? ⟨w.heap.size + 1, 1, none⟩ = some (.int .i64 c.2) := fun z => z.some_ c11
      have F20 : ∀ z : Fam _, z.val.cell? ⟨w.heap.size + 1 + 1, 0, none⟩ = some (.int .i64 a.1) := fun z => z.some_ c20
      have F21 : ∀ z : Fam _, z.val.cell? ⟨w.heap.size + 1 + 1, 1, none⟩ = some (.int .i64 a.2) := fun z => z.some_ c21
      clear c00 c01 c10 c11 c20 c21
      refine wp_region_fam (by kernel_rfl) (by kernel_rfl) ?_
      repeat (go_big_quiet_step (((go_at_call 48; exact fam_call (rsquare_any b c wh _ HA.out HA2.out HWH.out)))))
      refine wpQuiet_nil ?_
      rintro _ ⟨z3, rfl⟩
      replace kk := below_next kk (Nat.le_refl _) z3.prop
      clear HB F00 F01 F10 F11 F20 F21
      obtain ⟨B0, B1, B2, hbb⟩ := HK.out _ kk
      have c00 := B0.cell 0
      have c01 := B0.cell 1
      have c10 := B1.cell 0
      have c11 := B1.cell 1
      have c20 := B2.cell 0
      have c21 := B2.cell 1
      have HB := Lib.hid hbb
      clear B0 B1 B2 hbb
      go_wp2_with fail
      refine (rsquare_any a c d2 _ HA3.out HA2.out HD2.out).mono ?_
      rintro e w4 ⟨rfl, hb4⟩
      replace kk := below_next kk (Nat.le_refl _) hb4
      clear c00 c01 c10 c11 c20 c21 HB hb4
      obtain ⟨B0, B1, B2, hbb⟩ := HK.out _ kk
      have c00 := B0.cell 0
      have c01 := B0.cell 1
      have c10 := B1.cell 0
      have c11 := B1.cell 1
      have c20 := B2.cell 0
      have c21 := B2.cell 1
      have HB := Lib.hid hbb
      clear B0 B1 B2 hbb
      go_wp2_with fail
      go_ret
      exact ⟨ret_int HX2.out, HB.out⟩
    · have HX2 : Hid (ar * ar - r * r * wh = x) := Lib.hid (by rw [← HX.out, if_neg l1, if_neg l2])
      have l3 : 0 < al := by omega
      have l4 : al < wh := by omega
      clear HX l1 l2
      go_enter Try.func41, Try.ntmps41
      go_wp2_with fail
      have F00 : ∀ z : Fam _, z.val.cell? ⟨w.heap.size, 0, none⟩ = some (.int .i64 b.1) := fun z => z.some_ c00
      have F01 : ∀ z : Fam _, z.val.cell? ⟨w.heap.size, 1, none⟩ = some (.int .i64 b.2) := fun z => z.some_ c01
      have F10 : ∀ z : Fam _, z.val.cell? ⟨w.heap.size + 1, 0, none⟩ = some (.int .i64 c.1) := fun z => z.some_ c10
      have F11 : ∀ z : Fam _, z.val.cell? ⟨w.heap.size + 1, 1, none⟩ = some (.int .i64 c.2) := fun z => z.some_ c11
      have F20 : ∀ z : Fam _, z.val.cell? ⟨w.heap.size + 1 + 1, 0, none⟩ = some (.int .i64 a.1) := fun z => z.some_ c20
      have F21 : ∀ z : Fam _, z.val.cell? ⟨w.heap.size + 1 + 1, 1, none⟩ = some (.int .i64 a.2) := fun z => z.some_ c21
      clear c00 c01 c10 c11 c20 c21
      refine wp_region_fam (by kernel_rfl) (by kernel_rfl) ?_
      repeat (go_big_quiet_step (((go_at_call 48; exact fam_call (rsquare_any b c wh _ HA.out HA2.out HWH.out)))))
      refine wpQuiet_nil ?_
      rintro _ ⟨z5, rfl⟩
      replace kk := below_next kk (Nat.le_refl _) z5.prop
      clear HB F00 F01 F10 F11 F20 F21
      obtain ⟨B0, B1, B2, hbb⟩ := HK.out _ kk
      have c00 := B0.cell 0
      have c01 := B0.cell 1
      have c10 := B1.cell 0
      have c11 := B1.cell 1
      have c20 := B2.cell 0
      have c21 := B2.cell 1
      have HB := Lib.hid hbb
      clear B0 B1 B2 hbb
      go_wp2_with fail
      have F00 : ∀ z : Fam _, z.val.cell? ⟨w.heap.size, 0, none⟩ = some (.int .i64 b.1) := fun z => z.some_ c00
      have F01 : ∀ z : Fam _, z.val.cell? ⟨w.heap.size, 1, none⟩ = some (.int .i64 b.2) := fun z => z.some_ c01
      have F10 : ∀ z : Fam _, z.val.cell? ⟨w.heap.size + 1, 0, none⟩ = some (.int .i64 c.1) := fun z => z.some_ c10
      have F11 : ∀ z : Fam _, z.val.cell? ⟨w.heap.size + 1, 1, none⟩ = some (.int .i64 c.2) := fun z => z.some_ c11
      have F20 : ∀ z : Fam _, z.val.cell? ⟨w.heap.size + 1 + 1, 0, none⟩ = some (.int .i64 a.1) := fun z => z.some_ c20
      have F21 : ∀ z : Fam _, z.val.cell? ⟨w.heap.size + 1 + 1, 1, none⟩ = some (.int .i64 a.2) := fun z => z.some_ c21
      clear c00 c01 c10 c11 c20 c21
      refine wp_region_fam (by kernel_rfl) (by kernel_rfl) ?_
      repeat (go_big_quiet_step (((go_at_call 30; exact fam_call (rcross_any b c a ar _ HA.out HA2.out HA3.out HAR.out)))))
      refine wpQuiet_nil ?_
      rintro _ ⟨z6, rfl⟩
      replace kk := below_next kk (Nat.le_refl _) z6.prop
      clear HB F00 F01 F10 F11 F20 F21
      obtain ⟨B0, B1, B2, hbb⟩ := HK.out _ kk
      have c00 := B0.cell 0
      have c01 := B0.cell 1
      have c10 := B1.cell 0
      have c11 := B1.cell 1
      have c20 := B2.cell 0
      have c21 := B2.cell 1
      have HB := Lib.hid hbb
      clear B0 B1 B2 hbb
      go_wp2_with fail
      go_ret
      exact ⟨ret_int HX2.out, HB.out⟩
end Go.Proofs.Ytomnodpmpdodbaa
