/- The walks of the program's Side, has, folds, meets, near. -/
import Derived.Test.YtomnodpmpdodbaaGeoA
import Derived.Deep.RegionHeld3
namespace Go.Proofs.Ytomnodpmpdodbaa
open Go.RowKit
set_option maxHeartbeats 1000000 in
theorem side_any (a b c : Pt) (x : Int) (w : World) (hx : sideZ a b c = x) : Calls Try.prog 11 #[aggP a, aggP b, aggP c] w (RetI w x) := by
  obtain ⟨kk, hK⟩ := box3K w 23 23 23 #[.int .i64 a.1, .int .i64 a.2] #[.int .i64 b.1, .int .i64 b.2] #[.int .i64 c.1, .int .i64 c.2]
  have HK := Lib.hid hK
  clear hK
  obtain ⟨B0, B1, B2, hbb⟩ := HK.out _ kk
  have c00 := B0.cell 0
  have c01 := B0.cell 1
  have c10 := B1.cell 0
  have c11 := B1.cell 1
  have c20 := B2.cell 0
  have c21 := B2.cell 1
  have HB := Lib.hid hbb
  clear B0 B1 B2 hbb
  rcases ha : okP a with _ | _
  · have HX : Hid (0 = x) := Lib.hid (by rw [← hx, sideZ_no (by rw [ha]; simp)])
    have HA := Lib.hid ha
    clear ha hx
    go_enter Try.func11, Try.ntmps11
    go_wp2_with fail
    refine (valid_any a false _ HA.out).mono ?_
    rintro e w1 ⟨rfl, hb1⟩
    replace kk := below_next kk (Nat.le_refl _) hb1
    clear c00 c01 c10 c11 c20 c21 HB hb1
    obtain ⟨B0, B1, B2, hbb⟩ := HK.out _ kk
    have c00 := B0.cell 0
    have c01 := B0.cell 1
    have c10 := B1.cell 0
    have c11 := B1.cell 1
    have c20 := B2.cell 0
    have c21 := B2.cell 1
    have HB := Lib.hid hbb
    clear B0 B1 B2 hbb
    go_wp2_with fail
    go_ret
    exact ⟨ret_int HX.out, HB.out⟩
  · have HA := Lib.hid ha
    clear ha
    rcases h2 : okP b with _ | _
    · have HX : Hid (0 = x) := Lib.hid (by rw [← hx, sideZ_no (by rw [h2]; simp)])
      have HA2 := Lib.hid h2
      clear h2 hx
      go_enter Try.func11, Try.ntmps11
      go_wp2_with fail
      refine (valid_any a true _ HA.out).mono ?_
      rintro e w2 ⟨rfl, hb2⟩
      replace kk := below_next kk (Nat.le_refl _) hb2
      clear c00 c01 c10 c11 c20 c21 HB hb2
      obtain ⟨B0, B1, B2, hbb⟩ := HK.out _ kk
      have c00 := B0.cell 0
      have c01 := B0.cell 1
      have c10 := B1.cell 0
      have c11 := B1.cell 1
      have c20 := B2.cell 0
      have c21 := B2.cell 1
      have HB := Lib.hid hbb
      clear B0 B1 B2 hbb
      go_wp2_with fail
      refine (valid_any b false _ HA2.out).mono ?_
      rintro e w3 ⟨rfl, hb3⟩
      replace kk := below_next kk (Nat.le_refl _) hb3
      clear c00 c01 c10 c11 c20 c21 HB hb3
      obtain ⟨B0, B1, B2, hbb⟩ := HK.out _ kk
      have c00 := B0.cell 0
      have c01 := B0.cell 1
      have c10 := B1.cell 0
      have c11 := B1.cell 1
      have c20 := B2.cell 0
      have c21 := B2.cell 1
      have HB := Lib.hid hbb
      clear B0 B1 B2 hbb
      go_wp2_with fail
      go_ret
      exact ⟨ret_int HX.out, HB.out⟩
    · have HA2 := Lib.hid h2
      clear h2
      rcases h3 : okP c with _ | _
      · have HX : Hid (0 = x) := Lib.hid (by rw [← hx, sideZ_no (by rw [h3]; simp)])
        have HA3 := Lib.hid h3
        clear h3 hx
        go_enter Try.func11, Try.ntmps11
        go_wp2_with fail
        refine (valid_any a true _ HA.out).mono ?_
        rintro e w4 ⟨rfl, hb4⟩
        replace kk := below_next kk (Nat.le_refl _) hb4
        clear c00 c01 c10 c11 c20 c21 HB hb4
        obtain ⟨B0, B1, B2, hbb⟩ := HK.out _ kk
        have c00 := B0.cell 0
        have c01 := B0.cell 1
        have c10 := B1.cell 0
        have c11 := B1.cell 1
        have c20 := B2.cell 0
        have c21 := B2.cell 1
        have HB := Lib.hid hbb
        clear B0 B1 B2 hbb
        go_wp2_with fail
        refine (valid_any b true _ HA2.out).mono ?_
        rintro e w5 ⟨rfl, hb5⟩
        replace kk := below_next kk (Nat.le_refl _) hb5
        clear c00 c01 c10 c11 c20 c21 HB hb5
        obtain ⟨B0, B1, B2, hbb⟩ := HK.out _ kk
        have c00 := B0.cell 0
        have c01 := B0.cell 1
        have c10 := B1.cell 0
        have c11 := B1.cell 1
        have c20 := B2.cell 0
        have c21 := B2.cell 1
        have HB := Lib.hid hbb
        clear B0 B1 B2 hbb
        go_wp2_with fail
        refine (valid_any c false _ HA3.out).mono ?_
        rintro e w6 ⟨rfl, hb6⟩
        replace kk := below_next kk (Nat.le_refl _) hb6
        clear c00 c01 c10 c11 c20 c21 HB hb6
        obtain ⟨B0, B1, B2, hbb⟩ := HK.out _ kk
        have c00 := B0.cell 0
        have c01 := B0.cell 1
        have c10 := B1.cell 0
        have c11 := B1.cell 1
        have c20 := B2.cell 0
        have c21 := B2.cell 1
        have HB := Lib.hid hbb
        clear B0 B1 B2 hbb
        go_wp2_with fail
        go_ret
        exact ⟨ret_int HX.out, HB.out⟩
      · have HA3 := Lib.hid h3
        have HX : Hid (sgn (crossZ a b c) = x) := Lib.hid (by rw [← hx, sideZ_ok HA.out HA2.out h3])
        clear h3 hx
        obtain ⟨y, hy⟩ : ∃ y, crossZ a b c = y := ⟨_, rfl⟩
        have HY := Lib.hid hy
        clear hy
        go_enter Try.func11, Try.ntmps11
        go_wp2_with fail
        refine (valid_any a true _ HA.out).mono ?_
        rintro e w7 ⟨rfl, hb7⟩
        replace kk := below_next kk (Nat.le_refl _) hb7
        clear c00 c01 c10 c11 c20 c21 HB hb7
        obtain ⟨B0, B1, B2, hbb⟩ := HK.out _ kk
        have c00 := B0.cell 0
        have c01 := B0.cell 1
        have c10 := B1.cell 0
        have c11 := B1.cell 1
        have c20 := B2.cell 0
        have c21 := B2.cell 1
        have HB := Lib.hid hbb
        clear B0 B1 B2 hbb
        go_wp2_with fail
        refine (valid_any b true _ HA2.out).mono ?_
        rintro e w8 ⟨rfl, hb8⟩
        replace kk := below_next kk (Nat.le_refl _) hb8
        clear c00 c01 c10 c11 c20 c21 HB hb8
        obtain ⟨B0, B1, B2, hbb⟩ := HK.out _ kk
        have c00 := B0.cell 0
        have c01 := B0.cell 1
        have c10 := B1.cell 0
        have c11 := B1.cell 1
        have c20 := B2.cell 0
        have c21 := B2.cell 1
        have HB := Lib.hid hbb
        clear B0 B1 B2 hbb
        go_wp2_with fail
        refine (valid_any c true _ HA3.out).mono ?_
        rintro e w9 ⟨rfl, hb9⟩
        replace kk := below_next kk (Nat.le_refl _) hb9
        clear c00 c01 c10 c11 c20 c21 HB hb9
        obtain ⟨B0, B1, B2, hbb⟩ := HK.out _ kk
        have c00 := B0.cell 0
        have c01 := B0.cell 1
        have c10 := B1.cell 0
        have c11 := B1.cell 1
        have c20 := B2.cell 0
        have c21 := B2.cell 1
        have HB := Lib.hid hbb
        clear B0 B1 B2 hbb
        go_wp2_with fail
        refine (cross_any a b c y _ HA.out HA2.out HA3.out HY.out).mono ?_
        rintro e w10 ⟨rfl, hb10⟩
        replace kk := below_next kk (Nat.le_refl _) hb10
        clear c00 c01 c10 c11 c20 c21 HB hb10
        obtain ⟨B0, B1, B2, hbb⟩ := HK.out _ kk
        have c00 := B0.cell 0
        have c01 := B0.cell 1
        have c10 := B1.cell 0
        have c11 := B1.cell 1
        have c20 := B2.cell 0
        have c21 := B2.cell 1
        have HB := Lib.hid hbb
        clear B0 B1 B2 hbb
        go_wp2_with fail
        refine (sign_any y x _ (by rw [← HY.out]; exact HX.out)).mono ?_
        rintro e w9 ⟨rfl, rfl⟩
        go_wp2_with fail
        go_ret
        exact ⟨rfl, HB.out⟩
set_option maxHeartbeats 1000000 in
theorem has_any (e : Ed) (c : Pt) (x : Bool) (w : World) (h1 : okE e = true) (h2 : okP c = true) (hx : hasB e c = x) : Calls Try.prog 46 #[aggE e, aggP c] w (RetB w x) := by
  obtain ⟨kk, hK⟩ := box2K w 60 23 #[.int .i64 e.1.1, .int .i64 e.1.2, .int .i64 e.2.1, .int .i64 e.2.2] #[.int .i64 c.1, .int .i64 c.2]
  have HK := Lib.hid hK
  clear hK
  obtain ⟨B0, B1, hbb⟩ := HK.out _ kk
  have c00 := B0.cell 0
  have c01 := B0.cell 1
  have c02 := B0.cell 2
  have c03 := B0.cell 3
  have c10 := B1.cell 0
  have c11 := B1.cell 1
  have HB := Lib.hid hbb
  clear B0 B1 hbb
  obtain ⟨h3, h4⟩ := okE_t h1
  have HA := Lib.hid h2; have HA1 := Lib.hid h3; have HA2 := Lib.hid h4
  obtain ⟨y, hy⟩ : ∃ y, crossZ e.1 e.2 c = y := ⟨_, rfl⟩
  obtain ⟨z, hz⟩ : ∃ z, dotZ c e.1 e.2 = z := ⟨_, rfl⟩
  unfold hasB at hx
  rw [hy, hz] at hx
  have HY := Lib.hid hy; have HZ := Lib.hid hz; have HX := Lib.hid hx
  clear hy hz h1 h2 h3 h4 hx
  by_cases h0 : y = 0
  · subst h0
    go_enter Try.func46, Try.ntmps46
    go_wp2_with fail
    refine (cross_any e.1 e.2 c 0 _ HA1.out HA2.out HA.out HY.out).mono ?_
    rintro e w1 ⟨rfl, hb1⟩
    replace kk := below_next kk (Nat.le_refl _) hb1
    clear c00 c01 c02 c03 c10 c11 HB hb1
    obtain ⟨B0, B1, hbb⟩ := HK.out _ kk
    have c00 := B0.cell 0
    have c01 := B0.cell 1
    have c02 := B0.cell 2
    have c03 := B0.cell 3
    have c10 := B1.cell 0
    have c11 := B1.cell 1
    have HB := Lib.hid hbb
    clear B0 B1 hbb
    go_wp2_with fail
    refine (dot_any c e.1 e.2 z _ HA.out HA1.out HA2.out HZ.out).mono ?_
    rintro e w2 ⟨rfl, hb2⟩
    replace kk := below_next kk (Nat.le_refl _) hb2
    clear c00 c01 c02 c03 c10 c11 HB hb2
    obtain ⟨B0, B1, hbb⟩ := HK.out _ kk
    have c00 := B0.cell 0
    have c01 := B0.cell 1
    have c02 := B0.cell 2
    have c03 := B0.cell 3
    have c10 := B1.cell 0
    have c11 := B1.cell 1
    have HB := Lib.hid hbb
    clear B0 B1 hbb
    go_wp2_with fail
    go_ret
    exact ⟨ret_bool (by rw [← HX.out]; simp), HB.out⟩
  · have t0 : (y == 0) = false := beq_eq_false_iff_ne.2 h0
    have HX2 : Hid (false = x) := Lib.hid (by rw [← HX.out, decide_eq_false h0]; rfl)
    clear h0
    go_enter Try.func46, Try.ntmps46
    go_wp2_with fail
    refine (cross_any e.1 e.2 c y _ HA1.out HA2.out HA.out HY.out).mono ?_
    rintro e w3 ⟨rfl, hb3⟩
    replace kk := below_next kk (Nat.le_refl _) hb3
    clear c00 c01 c02 c03 c10 c11 HB hb3
    obtain ⟨B0, B1, hbb⟩ := HK.out _ kk
    have c00 := B0.cell 0
    have c01 := B0.cell 1
    have c02 := B0.cell 2
    have c03 := B0.cell 3
    have c10 := B1.cell 0
    have c11 := B1.cell 1
    have HB := Lib.hid hbb
    clear B0 B1 hbb
    go_wp2_with fail
    go_ret
    exact ⟨ret_bool HX2.out, HB.out⟩
set_option maxHeartbeats 1000000 in
theorem folds_any (e f : Ed) (x : Bool) (w : World) (h1 : okE e = true) (h2 : okE f = true) (hx : foldsB e f = x) : Calls Try.prog 43 #[aggE e, aggE f] w (RetB w x) := by
  obtain ⟨kk, hK⟩ := box2K w 60 60 #[.int .i64 e.1.1, .int .i64 e.1.2, .int .i64 e.2.1, .int .i64 e.2.2] #[.int .i64 f.1.1, .int .i64 f.1.2, .int .i64 f.2.1, .int .i64 f.2.2]
  have HK := Lib.hid hK
  clear hK
  obtain ⟨B0, B1, hbb⟩ := HK.out _ kk
  have c00 := B0.cell 0
  have c01 := B0.cell 1
  have c02 := B0.cell 2
  have c03 := B0.cell 3
  have c10 := B1.cell 0
  have c11 := B1.cell 1
  have c12 := B1.cell 2
  have c13 := B1.cell 3
  have HB := Lib.hid hbb
  clear B0 B1 hbb
  obtain ⟨h3, h4⟩ := okE_t h1
  obtain ⟨h5, h6⟩ := okE_t h2
  have HA := Lib.hid h6; have HA1 := Lib.hid h3; have HA2 := Lib.hid h4
  obtain ⟨y, hy⟩ : ∃ y, crossZ e.1 e.2 f.2 = y := ⟨_, rfl⟩
  obtain ⟨z, hz⟩ : ∃ z, dotZ e.2 e.1 f.2 = z := ⟨_, rfl⟩
  unfold foldsB at hx
  rw [hy, hz] at hx
  have HY := Lib.hid hy; have HZ := Lib.hid hz; have HX := Lib.hid hx
  clear hy hz h1 h2 h3 h4 h5 h6 hx
  by_cases h0 : y = 0
  · subst h0
    go_enter Try.func43, Try.ntmps43
    go_wp2_with fail
    refine (cross_any e.1 e.2 f.2 0 _ HA1.out HA2.out HA.out HY.out).mono ?_
    rintro e w1 ⟨rfl, hb1⟩
    replace kk := below_next kk (Nat.le_refl _) hb1
    clear c00 c01 c02 c03 c10 c11 c12 c13 HB hb1
    obtain ⟨B0, B1, hbb⟩ := HK.out _ kk
    have c00 := B0.cell 0
    have c01 := B0.cell 1
    have c02 := B0.cell 2
    have c03 := B0.cell 3
    have c10 := B1.cell 0
    have c11 := B1.cell 1
    have c12 := B1.cell 2
    have c13 := B1.cell 3
    have HB := Lib.hid hbb
    clear B0 B1 hbb
    go_wp2_with fail
    refine (dot_any e.2 e.1 f.2 z _ HA2.out HA1.out HA.out HZ.out).mono ?_
    rintro e w2 ⟨rfl, hb2⟩
    replace kk := below_next kk (Nat.le_refl _) hb2
    clear c00 c01 c02 c03 c10 c11 c12 c13 HB hb2
    obtain ⟨B0, B1, hbb⟩ := HK.out _ kk
    have c00 := B0.cell 0
    have c01 := B0.cell 1
    have c02 := B0.cell 2
    have c03 := B0.cell 3
    have c10 := B1.cell 0
    have c11 := B1.cell 1
    have c12 := B1.cell 2
    have c13 := B1.cell 3
    have HB := Lib.hid hbb
    clear B0 B1 hbb
    go_wp2_with fail
    go_ret
    exact ⟨ret_bool (by rw [← HX.out]; simp), HB.out⟩
  · have t0 : (y == 0) = false := beq_eq_false_iff_ne.2 h0
    have HX2 : Hid (false = x) := Lib.hid (by rw [← HX.out, decide_eq_false h0]; rfl)
    clear h0
    go_enter Try.func43, Try.ntmps43
    go_wp2_with fail
    refine (cross_any e.1 e.2 f.2 y _ HA1.out HA2.out HA.out HY.out).mono ?_
    rintro e w3 ⟨rfl, hb3⟩
    replace kk := below_next kk (Nat.le_refl _) hb3
    clear c00 c01 c02 c03 c10 c11 c12 c13 HB hb3
    obtain ⟨B0, B1, hbb⟩ := HK.out _ kk
    have c00 := B0.cell 0
    have c01 := B0.cell 1
    have c02 := B0.cell 2
    have c03 := B0.cell 3
    have c10 := B1.cell 0
    have c11 := B1.cell 1
    have c12 := B1.cell 2
    have c13 := B1.cell 3
    have HB := Lib.hid hbb
    clear B0 B1 hbb
    go_wp2_with fail
    go_ret
    exact ⟨ret_bool HX2.out, HB.out⟩
end Go.Proofs.Ytomnodpmpdodbaa
