/- The walks of the program's Side, has, folds, meets, near. -/
import Derived.Test.YtdgdjlpbnaoheaaGeoA
import Derived.Deep.RegionHeld3
namespace Go.Proofs.Ytdgdjlpbnaoheaa
open Go.RowKit
set_option maxHeartbeats 1000000 in
theorem has_any (e : Ed) (c : Pt) (x : Bool) (w : World) (h1 : okE e = true) (h2 : okP c = true) (hx : hasB e c = x) : Calls Try.prog 103 #[aggE e, aggP c] w (RetB w x) := by
  obtain ⟨kk, hK⟩ := box2K w 127 25 #[.int .i64 e.1.1, .int .i64 e.1.2, .int .i64 e.2.1, .int .i64 e.2.2] #[.int .i64 c.1, .int .i64 c.2]
  have HK := Lib.hid hK
  clear hK
  obtain ⟨B0, B1, hbb⟩ := HK.out _ kk
  have c00 := B0.cell 0
  have c01 := B0.cell 1
  have c02 := B0.cell 2
  have c03 := B0.cell 3
  have c10 := B1.cell 0
  have c11 := B1.cell 1
  have HB := Lib.hid hbb
  clear B0 B1 hbb
  obtain ⟨h3, h4⟩ := okE_t h1
  have HA := Lib.hid h2; have HA1 := Lib.hid h3; have HA2 := Lib.hid h4
  obtain ⟨y, hy⟩ : ∃ y, crossZ e.1 e.2 c = y := ⟨_, rfl⟩
  obtain ⟨z, hz⟩ : ∃ z, dotZ c e.1 e.2 = z := ⟨_, rfl⟩
  unfold hasB at hx
  rw [hy, hz] at hx
  have HY := Lib.hid hy; have HZ := Lib.hid hz; have HX := Lib.hid hx
  clear hy hz h1 h2 h3 h4 hx
  by_cases h0 : y = 0
  · subst h0
    go_enter Try.func103, Try.ntmps103
    go_wp2_with fail
    refine (cross_any e.1 e.2 c 0 _ HA1.out HA2.out HA.out HY.out).mono ?_
    rintro e w1 ⟨rfl, hb1⟩
    replace kk := below_next kk (Nat.le_refl _) hb1
    clear c00 c01 c02 c03 c10 c11 HB hb1
    obtain ⟨B0, B1, hbb⟩ := HK.out _ kk
    have c00 := B0.cell 0
    have c01 := B0.cell 1
    have c02 := B0.cell 2
    have c03 := B0.cell 3
    have c10 := B1.cell 0
    have c11 := B1.cell 1
    have HB := Lib.hid hbb
    clear B0 B1 hbb
    go_wp2_with fail
    refine (dot_any c e.1 e.2 z _ HA.out HA1.out HA2.out HZ.out).mono ?_
    rintro e w2 ⟨rfl, hb2⟩
    replace kk := below_next kk (Nat.le_refl _) hb2
    clear c00 c01 c02 c03 c10 c11 HB hb2
    obtain ⟨B0, B1, hbb⟩ := HK.out _ kk
    have c00 := B0.cell 0
    have c01 := B0.cell 1
    have c02 := B0.cell 2
    have c03 := B0.cell 3
    have c10 := B1.cell 0
    have c11 := B1.cell 1
    have HB := Lib.hid hbb
    clear B0 B1 hbb
    go_wp2_with fail
    go_ret
    exact ⟨ret_bool (by rw [← HX.out]; simp), HB.out⟩
  · have t0 : (y == 0) = false := beq_eq_false_iff_ne.2 h0
    have HX2 : Hid (false = x) := Lib.hid (by rw [← HX.out, decide_eq_false h0]; rfl)
    clear h0
    go_enter Try.func103, Try.ntmps103
    go_wp2_with fail
    refine (cross_any e.1 e.2 c y _ HA1.out HA2.out HA.out HY.out).mono ?_
    rintro e w3 ⟨rfl, hb3⟩
    replace kk := below_next kk (Nat.le_refl _) hb3
    clear c00 c01 c02 c03 c10 c11 HB hb3
    obtain ⟨B0, B1, hbb⟩ := HK.out _ kk
    have c00 := B0.cell 0
    have c01 := B0.cell 1
    have c02 := B0.cell 2
    have c03 := B0.cell 3
    have c10 := B1.cell 0
    have c11 := B1.cell 1
    have HB := Lib.hid hbb
    clear B0 B1 hbb
    go_wp2_with fail
    go_ret
    exact ⟨ret_bool HX2.out, HB.out⟩
set_option maxHeartbeats 1000000 in
theorem folds_any (e f : Ed) (x : Bool) (w : World) (h1 : okE e = true) (h2 : okE f = true) (hx : foldsB e f = x) : Calls Try.prog 96 #[aggE e, aggE f] w (RetB w x) := by
  obtain ⟨kk, hK⟩ := box2K w 127 127 #[.int .i64 e.1.1, .int .i64 e.1.2, .int .i64 e.2.1, .int .i64 e.2.2] #[.int .i64 f.1.1, .int .i64 f.1.2, .int .i64 f.2.1, .int .i64 f.2.2]
  have HK := Lib.hid hK
  clear hK
  obtain ⟨B0, B1, hbb⟩ := HK.out _ kk
  have c00 := B0.cell 0
  have c01 := B0.cell 1
  have c02 := B0.cell 2
  have c03 := B0.cell 3
  have c10 := B1.cell 0
  have c11 := B1.cell 1
  have c12 := B1.cell 2
  have c13 := B1.cell 3
  have HB := Lib.hid hbb
  clear B0 B1 hbb
  obtain ⟨h3, h4⟩ := okE_t h1
  obtain ⟨h5, h6⟩ := okE_t h2
  have HA := Lib.hid h6; have HA1 := Lib.hid h3; have HA2 := Lib.hid h4
  obtain ⟨y, hy⟩ : ∃ y, crossZ e.1 e.2 f.2 = y := ⟨_, rfl⟩
  obtain ⟨z, hz⟩ : ∃ z, dotZ e.2 e.1 f.2 = z := ⟨_, rfl⟩
  unfold foldsB at hx
  rw [hy, hz] at hx
  have HY := Lib.hid hy; have HZ := Lib.hid hz; have HX := Lib.hid hx
  clear hy hz h1 h2 h3 h4 h5 h6 hx
  by_cases h0 : y = 0
  · subst h0
    go_enter Try.func96, Try.ntmps96
    go_wp2_with fail
    refine (cross_any e.1 e.2 f.2 0 _ HA1.out HA2.out HA.out HY.out).mono ?_
    rintro e w1 ⟨rfl, hb1⟩
    replace kk := below_next kk (Nat.le_refl _) hb1
    clear c00 c01 c02 c03 c10 c11 c12 c13 HB hb1
    obtain ⟨B0, B1, hbb⟩ := HK.out _ kk
    have c00 := B0.cell 0
    have c01 := B0.cell 1
    have c02 := B0.cell 2
    have c03 := B0.cell 3
    have c10 := B1.cell 0
    have c11 := B1.cell 1
    have c12 := B1.cell 2
    have c13 := B1.cell 3
    have HB := Lib.hid hbb
    clear B0 B1 hbb
    go_wp2_with fail
    refine (dot_any e.2 e.1 f.2 z _ HA2.out HA1.out HA.out HZ.out).mono ?_
    rintro e w2 ⟨rfl, hb2⟩
    replace kk := below_next kk (Nat.le_refl _) hb2
    clear c00 c01 c02 c03 c10 c11 c12 c13 HB hb2
    obtain ⟨B0, B1, hbb⟩ := HK.out _ kk
    have c00 := B0.cell 0
    have c01 := B0.cell 1
    have c02 := B0.cell 2
    have c03 := B0.cell 3
    have c10 := B1.cell 0
    have c11 := B1.cell 1
    have c12 := B1.cell 2
    have c13 := B1.cell 3
    have HB := Lib.hid hbb
    clear B0 B1 hbb
    go_wp2_with fail
    go_ret
    exact ⟨ret_bool (by rw [← HX.out]; simp), HB.out⟩
  · have t0 : (y == 0) = false := beq_eq_false_iff_ne.2 h0
    have HX2 : Hid (false = x) := Lib.hid (by rw [← HX.out, decide_eq_false h0]; rfl)
    clear h0
    go_enter Try.func96, Try.ntmps96
    go_wp2_with fail
    refine (cross_any e.1 e.2 f.2 y _ HA1.out HA2.out HA.out HY.out).mono ?_
    rintro e w3 ⟨rfl, hb3⟩
    replace kk := below_next kk (Nat.le_refl _) hb3
    clear c00 c01 c02 c03 c10 c11 c12 c13 HB hb3
    obtain ⟨B0, B1, hbb⟩ := HK.out _ kk
    have c00 := B0.cell 0
    have c01 := B0.cell 1
    have c02 := B0.cell 2
    have c03 := B0.cell 3
    have c10 := B1.cell 0
    have c11 := B1.cell 1
    have c12 := B1.cell 2
    have c13 := B1.cell 3
    have HB := Lib.hid hbb
    clear B0 B1 hbb
    go_wp2_with fail
    go_ret
    exact ⟨ret_bool HX2.out, HB.out⟩
end Go.Proofs.Ytdgdjlpbnaoheaa
