/- The walks of the reference's small functions on points. -/
import Derived.Test.YtomnodpmpdodbaaGeoC
import Derived.Lib.MinMax
namespace Go.Proofs.Ytomnodpmpdodbaa
open Go.RowKit
def okC (n : Int) : Bool := decide (-16384 ≤ n ∧ n ≤ 16384)
theorem okP_okC (p : Pt) : okP p = (okC p.1 && okC p.2) := by
  rw [Bool.eq_iff_iff]; simp only [okP, okC, decide_eq_true_eq, Bool.and_eq_true]
  constructor
  · exact fun ⟨a, b, c, d⟩ => ⟨⟨a, b⟩, c, d⟩
  · exact fun ⟨⟨a, b⟩, c, d⟩ => ⟨a, b, c, d⟩
theorem rcoord_any (n : Int) (x : Bool) (w : World) (hx : okC n = x) : Calls Try.prog 42 #[.int .i64 n] w fun e w' => e = .returned (.bool x) ∧ w = w' := by
  have hcs : (-16384 ≤ n ∧ n ≤ 16384 ∧ x = true) ∨ (-16384 ≤ n ∧ 16384 < n ∧ x = false) ∨ (n < -16384 ∧ x = false) := by
    rcases x with _ | _
    · have : ¬ (-16384 ≤ n ∧ n ≤ 16384) := of_decide_eq_false hx
      simp; omega
    · have : -16384 ≤ n ∧ n ≤ 16384 := of_decide_eq_true hx
      simp; omega
  clear hx
  rcases hcs with ⟨g1, g2, rfl⟩ | ⟨g1, g2, rfl⟩ | ⟨g1, rfl⟩
  all_goals
    go_enter Try.func42, Try.ntmps42
    go_wp2_with fail
    go_ret
    exact ⟨ret_bool (by simp; try omega), rfl⟩
set_option maxHeartbeats 1000000 in
theorem rvalid_any (a : Pt) (x : Bool) (w : World) (hx : okP a = x) : Calls Try.prog 26 #[aggP a] w (RetB w x) := by
  obtain ⟨kk, hK⟩ := box1K w 23 #[.int .i64 a.1, .int .i64 a.2]
  have HK := Lib.hid hK
  clear hK
  obtain ⟨B0, hbb⟩ := HK.out _ kk
  have c00 := B0.cell 0
  have c01 := B0.cell 1
  have HB := Lib.hid hbb
  clear B0 hbb
  rw [okP_okC] at hx
  rcases h1 : okC a.1 with _ | _
  · have HX : Hid (false = x) := Lib.hid (by rw [← hx, h1]; rfl)
    have H1 := Lib.hid h1
    clear hx h1
    go_enter Try.func26, Try.ntmps26
    go_wp2_with fail
    refine (rcoord_any a.1 false _ H1.out).mono ?_
    rintro e w1 ⟨rfl, rfl⟩
    go_wp2_with fail
    go_ret
    exact ⟨ret_bool HX.out, HB.out⟩
  · have HX : Hid (okC a.2 = x) := Lib.hid (by rw [← hx, h1]; simp)
    have H1 := Lib.hid h1
    clear hx h1
    go_enter Try.func26, Try.ntmps26
    go_wp2_with fail
    refine (rcoord_any a.1 true _ H1.out).mono ?_
    rintro e w1 ⟨rfl, rfl⟩
    go_wp2_with fail
    refine (rcoord_any a.2 x _ HX.out).mono ?_
    rintro e w1 ⟨rfl, rfl⟩
    go_wp2_with fail
    go_ret
    exact ⟨rfl, HB.out⟩
set_option maxHeartbeats 1000000 in
theorem rcross_any (a b c : Pt) (x : Int) (w : World) (h1 : okP a = true) (h2 : okP b = true) (h3 : okP c = true) (hx : crossZ a b c = x) : Calls Try.prog 30 #[aggP a, aggP b, aggP c] w (RetI w x) := by
  obtain ⟨a1, a2⟩ := a; obtain ⟨b1, b2⟩ := b; obtain ⟨c1, c2⟩ := c
  obtain ⟨p1, p2, p3, p4⟩ := okP_t h1; obtain ⟨q1, q2, q3, q4⟩ := okP_t h2; obtain ⟨r1, r2, r3, r4⟩ := okP_t h3
  have e1 := prod_bd ⟨q1, q2⟩ ⟨p1, p2⟩ ⟨r3, r4⟩ ⟨p3, p4⟩
  have e2 := prod_bd ⟨q3, q4⟩ ⟨p3, p4⟩ ⟨r1, r2⟩ ⟨p1, p2⟩
  simp only at p1 p2 p3 p4 q1 q2 q3 q4 r1 r2 r3 r4 e1 e2
  have f1 := wr_ (n := (b1 - a1) * (c2 - a2)) (by omega)
  have f2 := wr_ (n := (b2 - a2) * (c1 - a1)) (by omega)
  have f3 := wr_ (n := (b1 - a1) * (c2 - a2) - (b2 - a2) * (c1 - a1)) (by omega)
  obtain ⟨B0, B1, B2, hb⟩ := box3 w 23 23 23 #[.int .i64 a1, .int .i64 a2] #[.int .i64 b1, .int .i64 b2] #[.int .i64 c1, .int .i64 c2]
  have c00 := B0.cell 0; have c01 := B0.cell 1; have c10 := B1.cell 0; have c11 := B1.cell 1; have c20 := B2.cell 0; have c21 := B2.cell 1
  have HB := Lib.hid hb
  have HX := Lib.hid hx
  clear B0 B1 B2 hb hx h1 h2 h3 e1 e2
  go_enter Try.func30, Try.ntmps30
  go_wp2_with fail
  go_ret
  exact ⟨ret_int HX.out, HB.out⟩
set_option maxHeartbeats 1000000 in
theorem rside_any (a b c : Pt) (x : Int) (w : World) (hx : sideZ a b c = x) : Calls Try.prog 12 #[aggP a, aggP b, aggP c] w (RetI w x) := by
  obtain ⟨kk, hK⟩ := box3K w 23 23 23 #[.int .i64 a.1, .int .i64 a.2] #[.int .i64 b.1, .int .i64 b.2] #[.int .i64 c.1, .int .i64 c.2]
  have HK := Lib.hid hK
  clear hK
  obtain ⟨B0, B1, B2, hbb⟩ := HK.out _ kk
  have c00 := B0.cell 0
  have c01 := B0.cell 1
  have c10 := B1.cell 0
  have c11 := B1.cell 1
  have c20 := B2.cell 0
  have c21 := B2.cell 1
  have HB := Lib.hid hbb
  clear B0 B1 B2 hbb
  rcases ha : okP a with _ | _
  · have HX : Hid (0 = x) := Lib.hid (by rw [← hx, sideZ_no (by rw [ha]; simp)])
    have HA := Lib.hid ha
    clear ha hx
    go_enter Try.func12, Try.ntmps12
    go_wp2_with fail
    refine (rvalid_any a false _ HA.out).mono ?_
    rintro e w1 ⟨rfl, hb1⟩
    replace kk := below_next kk (Nat.le_refl _) hb1
    clear c00 c01 c10 c11 c20 c21 HB hb1
    obtain ⟨B0, B1, B2, hbb⟩ := HK.out _ kk
    have c00 := B0.cell 0
    have c01 := B0.cell 1
    have c10 := B1.cell 0
    have c11 := B1.cell 1
    have c20 := B2.cell 0
    have c21 := B2.cell 1
    have HB := Lib.hid hbb
    clear B0 B1 B2 hbb
    go_wp2_with fail
    go_ret
    exact ⟨ret_int HX.out, HB.out⟩
  · have HA := Lib.hid ha
    clear ha
    rcases h2 : okP b with _ | _
    · have HX : Hid (0 = x) := Lib.hid (by rw [← hx, sideZ_no (by rw [h2]; simp)])
      have HA2 := Lib.hid h2
      clear h2 hx
      go_enter Try.func12, Try.ntmps12
      go_wp2_with fail
      refine (rvalid_any a true _ HA.out).mono ?_
      rintro e w2 ⟨rfl, hb2⟩
      replace kk := below_next kk (Nat.le_refl _) hb2
      clear c00 c01 c10 c11 c20 c21 HB hb2
      obtain ⟨B0, B1, B2, hbb⟩ := HK.out _ kk
      have c00 := B0.cell 0
      have c01 := B0.cell 1
      have c10 := B1.cell 0
      have c11 := B1.cell 1
      have c20 := B2.cell 0
      have c21 := B2.cell 1
      have HB := Lib.hid hbb
      clear B0 B1 B2 hbb
      go_wp2_with fail
      refine (rvalid_any b false _ HA2.out).mono ?_
      rintro e w3 ⟨rfl, hb3⟩
      replace kk := below_next kk (Nat.le_refl _) hb3
      clear c00 c01 c10 c11 c20 c21 HB hb3
      obtain ⟨B0, B1, B2, hbb⟩ := HK.out _ kk
      have c00 := B0.cell 0
      have c01 := B0.cell 1
      have c10 := B1.cell 0
      have c11 := B1.cell 1
      have c20 := B2.cell 0
      have c21 := B2.cell 1
      have HB := Lib.hid hbb
      clear B0 B1 B2 hbb
      go_wp2_with fail
      go_ret
      exact ⟨ret_int HX.out, HB.out⟩
    · have HA2 := Lib.hid h2
      clear h2
      rcases h3 : okP c with _ | _
      · have HX : Hid (0 = x) := Lib.hid (by rw [← hx, sideZ_no (by rw [h3]; simp)])
        have HA3 := Lib.hid h3
        clear h3 hx
        go_enter Try.func12, Try.ntmps12
        go_wp2_with fail
        refine (rvalid_any a true _ HA.out).mono ?_
        rintro e w4 ⟨rfl, hb4⟩
        replace kk := below_next kk (Nat.le_refl _) hb4
        clear c00 c01 c10 c11 c20 c21 HB hb4
        obtain ⟨B0, B1, B2, hbb⟩ := HK.out _ kk
        have c00 := B0.cell 0
        have c01 := B0.cell 1
        have c10 := B1.cell 0
        have c11 := B1.cell 1
        have c20 := B2.cell 0
        have c21 := B2.cell 1
        have HB := Lib.hid hbb
        clear B0 B1 B2 hbb
        go_wp2_with fail
        refine (rvalid_any b true _ HA2.out).mono ?_
        rintro e w5 ⟨rfl, hb5⟩
        replace kk := below_next kk (Nat.le_refl _) hb5
        clear c00 c01 c10 c11 c20 c21 HB hb5
        obtain ⟨B0, B1, B2, hbb⟩ := HK.out _ kk
        have c00 := B0.cell 0
        have c01 := B0.cell 1
        have c10 := B1.cell 0
        have c11 := B1.cell 1
        have c20 := B2.cell 0
        have c21 := B2.cell 1
        have HB := Lib.hid hbb
        clear B0 B1 B2 hbb
        go_wp2_with fail
        refine (rvalid_any c false _ HA3.out).mono ?_
        rintro e w6 ⟨rfl, hb6⟩
        replace kk := below_next kk (Nat.le_refl _) hb6
        clear c00 c01 c10 c11 c20 c21 HB hb6
        obtain ⟨B0, B1, B2, hbb⟩ := HK.out _ kk
        have c00 := B0.cell 0
        have c01 := B0.cell 1
        have c10 := B1.cell 0
        have c11 := B1.cell 1
        have c20 := B2.cell 0
        have c21 := B2.cell 1
        have HB := Lib.hid hbb
        clear B0 B1 B2 hbb
        go_wp2_with fail
        go_ret
        exact ⟨ret_int HX.out, HB.out⟩
      · have HA3 := Lib.hid h3
        have HX : Hid (sgn (crossZ a b c) = x) := Lib.hid (by rw [← hx, sideZ_ok HA.out HA2.out h3])
        clear h3 hx
        obtain ⟨y, hy⟩ : ∃ y, crossZ a b c = y := ⟨_, rfl⟩
        have HY := Lib.hid hy
        have hcs : (0 < y ∧ x = 1) ∨ (y ≤ 0 ∧ y < 0 ∧ x = -1) ∨ (y ≤ 0 ∧ 0 ≤ y ∧ x = 0) := by
          have hq := HX.out
          rw [hy] at hq
          by_cases k1 : 0 < y
          · rw [sgn_pos k1] at hq; omega
          · by_cases k2 : y < 0
            · rw [sgn_neg k2] at hq; omega
            · rw [sgn_zero (by omega) (by omega)] at hq; omega
        clear hy HX
        rcases hcs with ⟨g1, rfl⟩ | ⟨g1, g2, rfl⟩ | ⟨g1, g2, rfl⟩
        all_goals
          go_enter Try.func12, Try.ntmps12
          go_wp2_with fail
          refine (rvalid_any a true _ HA.out).mono ?_
          rintro e w7 ⟨rfl, hb7⟩
          replace kk := below_next kk (Nat.le_refl _) hb7
          clear c00 c01 c10 c11 c20 c21 HB hb7
          obtain ⟨B0, B1, B2, hbb⟩ := HK.out _ kk
          have c00 := B0.cell 0
          have c01 := B0.cell 1
          have c10 := B1.cell 0
          have c11 := B1.cell 1
          have c20 := B2.cell 0
          have c21 := B2.cell 1
          have HB := Lib.hid hbb
          clear B0 B1 B2 hbb
          go_wp2_with fail
          refine (rvalid_any b true _ HA2.out).mono ?_
          rintro e w8 ⟨rfl, hb8⟩
          replace kk := below_next kk (Nat.le_refl _) hb8
          clear c00 c01 c10 c11 c20 c21 HB hb8
          obtain ⟨B0, B1, B2, hbb⟩ := HK.out _ kk
          have c00 := B0.cell 0
          have c01 := B0.cell 1
          have c10 := B1.cell 0
          have c11 := B1.cell 1
          have c20 := B2.cell 0
          have c21 := B2.cell 1
          have HB := Lib.hid hbb
          clear B0 B1 B2 hbb
          go_wp2_with fail
          refine (rvalid_any c true _ HA3.out).mono ?_
          rintro e w9 ⟨rfl, hb9⟩
          replace kk := below_next kk (Nat.le_refl _) hb9
          clear c00 c01 c10 c11 c20 c21 HB hb9
          obtain ⟨B0, B1, B2, hbb⟩ := HK.out _ kk
          have c00 := B0.cell 0
          have c01 := B0.cell 1
          have c10 := B1.cell 0
          have c11 := B1.cell 1
          have c20 := B2.cell 0
          have c21 := B2.cell 1
          have HB := Lib.hid hbb
          clear B0 B1 B2 hbb
          go_wp2_with fail
          refine (rcross_any a b c y _ HA.out HA2.out HA3.out HY.out).mono ?_
          rintro e w10 ⟨rfl, hb10⟩
          replace kk := below_next kk (Nat.le_refl _) hb10
          clear c00 c01 c10 c11 c20 c21 HB hb10
          obtain ⟨B0, B1, B2, hbb⟩ := HK.out _ kk
          have c00 := B0.cell 0
          have c01 := B0.cell 1
          have c10 := B1.cell 0
          have c11 := B1.cell 1
          have c20 := B2.cell 0
          have c21 := B2.cell 1
          have HB := Lib.hid hbb
          clear B0 B1 B2 hbb
          go_wp2_with fail
          go_ret
          exact ⟨rfl, HB.out⟩
set_option maxHeartbeats 1000000 in
theorem rsquare_any (a b : Pt) (x : Int) (w : World) (h1 : okP a = true) (h2 : okP b = true) (hx : sqZ a b = x) : Calls Try.prog 48 #[aggP a, aggP b] w (RetI w x) := by
  obtain ⟨a1, a2⟩ := a; obtain ⟨b1, b2⟩ := b
  obtain ⟨p1, p2, p3, p4⟩ := okP_t h1; obtain ⟨q1, q2, q3, q4⟩ := okP_t h2
  have e1 := prod_bd ⟨p1, p2⟩ ⟨q1, q2⟩ ⟨p1, p2⟩ ⟨q1, q2⟩
  have e2 := prod_bd ⟨p3, p4⟩ ⟨q3, q4⟩ ⟨p3, p4⟩ ⟨q3, q4⟩
  simp only at p1 p2 p3 p4 q1 q2 q3 q4 e1 e2
  have f1 := wr_ (n := (a1 - b1) * (a1 - b1)) (by omega)
  have f2 := wr_ (n := (a2 - b2) * (a2 - b2)) (by omega)
  have f3 := wr_ (n := (a1 - b1) * (a1 - b1) + (a2 - b2) * (a2 - b2)) (by omega)
  obtain ⟨B0, B1, hb⟩ := box2 w 23 23 #[.int .i64 a1, .int .i64 a2] #[.int .i64 b1, .int .i64 b2]
  have c00 := B0.cell 0; have c01 := B0.cell 1; have c10 := B1.cell 0; have c11 := B1.cell 1
  have HB := Lib.hid hb
  have HX := Lib.hid hx
  clear B0 B1 hb hx h1 h2 e1 e2
  go_enter Try.func48, Try.ntmps48
  go_wp2_with fail
  go_ret
  exact ⟨ret_int HX.out, HB.out⟩
set_option maxHeartbeats 2000000 in
theorem ron_any (a b c : Pt) (x : Bool) (w : World) (h1 : okP a = true) (h2 : okP b = true) (h3 : okP c = true) (hx : onB a b c = x) : Calls Try.prog 38 #[aggP a, aggP b, aggP c] w (RetB w x) := by
  obtain ⟨kk, hK⟩ := box3K w 23 23 23 #[.int .i64 a.1, .int .i64 a.2] #[.int .i64 b.1, .int .i64 b.2] #[.int .i64 c.1, .int .i64 c.2]
  have HK := Lib.hid hK
  clear hK
  obtain ⟨B0, B1, B2, hbb⟩ := HK.out _ kk
  have c00 := B0.cell 0
  have c01 := B0.cell 1
  have c10 := B1.cell 0
  have c11 := B1.cell 1
  have c20 := B2.cell 0
  have c21 := B2.cell 1
  have HB := Lib.hid hbb
  clear B0 B1 B2 hbb
  have HA := Lib.hid h1; have HA2 := Lib.hid h2; have HA3 := Lib.hid h3
  obtain ⟨y, hy⟩ : ∃ y, crossZ a b c = y := ⟨_, rfl⟩
  obtain ⟨m1, hm1⟩ : ∃ m, min a.1 b.1 = m := ⟨_, rfl⟩
  obtain ⟨m2, hm2⟩ : ∃ m, max a.1 b.1 = m := ⟨_, rfl⟩
  obtain ⟨m3, hm3⟩ : ∃ m, min a.2 b.2 = m := ⟨_, rfl⟩
  obtain ⟨m4, hm4⟩ : ∃ m, max a.2 b.2 = m := ⟨_, rfl⟩
  unfold onB at hx
  rw [hy, hm1, hm2, hm3, hm4] at hx
  have HY := Lib.hid hy; have HX := Lib.hid hx
  have k1 : ∀ (ts : Array TypeId) (ty : TypeId) (u : World), (Builtin.min_ ts ty #[.int .i64 a.1, .int .i64 b.1]).run Try.prog u = .ok (.int .i64 m1) u := fun ts ty u => by rw [Lib.run_min_ints, hm1]
  have k2 : ∀ (ts : Array TypeId) (ty : TypeId) (u : World), (Builtin.max_ ts ty #[.int .i64 a.1, .int .i64 b.1]).run Try.prog u = .ok (.int .i64 m2) u := fun ts ty u => by rw [Lib.run_max_ints, hm2]
  have k3 : ∀ (ts : Array TypeId) (ty : TypeId) (u : World), (Builtin.min_ ts ty #[.int .i64 a.2, .int .i64 b.2]).run Try.prog u = .ok (.int .i64 m3) u := fun ts ty u => by rw [Lib.run_min_ints, hm3]
  have k4 : ∀ (ts : Array TypeId) (ty : TypeId) (u : World), (Builtin.max_ ts ty #[.int .i64 a.2, .int .i64 b.2]).run Try.prog u = .ok (.int .i64 m4) u := fun ts ty u => by rw [Lib.run_max_ints, hm4]
  clear h1 h2 h3 hy hx hm1 hm2 hm3 hm4
  have hcs : ((y == 0) = false ∧ false = x) ∨ (y = 0 ∧ c.1 < m1 ∧ decide (m1 ≤ c.1) = false ∧ false = x) ∨ (y = 0 ∧ m1 ≤ c.1 ∧ m2 < c.1 ∧ decide (c.1 ≤ m2) = false ∧ false = x) ∨ (y = 0 ∧ m1 ≤ c.1 ∧ c.1 ≤ m2 ∧ c.2 < m3 ∧ decide (m3 ≤ c.2) = false ∧ false = x) ∨ (y = 0 ∧ m1 ≤ c.1 ∧ c.1 ≤ m2 ∧ m3 ≤ c.2 ∧ decide (c.2 ≤ m4) = x) := by
    have hq := HX.out
    by_cases g0 : y = 0
    · by_cases g1 : m1 ≤ c.1
      · by_cases g2 : c.1 ≤ m2
        · by_cases g3 : m3 ≤ c.2
          · exact .inr (.inr (.inr (.inr ⟨g0, g1, g2, g3, by rw [← hq]; simp [g0, g1, g2, g3]⟩)))
          · exact .inr (.inr (.inr (.inl ⟨g0, g1, g2, by omega, decide_eq_false g3, by rw [← hq]; simp [g3]⟩)))
        · exact .inr (.inr (.inl ⟨g0, g1, by omega, decide_eq_false g2, by rw [← hq]; simp [g2]⟩))
      · exact .inr (.inl ⟨g0, by omega, decide_eq_false g1, by rw [← hq]; simp [g1]⟩)
    · exact .inl ⟨beq_eq_false_iff_ne.2 g0, by rw [← hq]; simp [g0]⟩
  clear HX
  rcases hcs with ⟨t0, hq⟩ | ⟨rfl, t1, t2, hq⟩ | ⟨rfl, t1, t2, t3, hq⟩ | ⟨rfl, t1, t2, t3, t4, hq⟩ | ⟨rfl, t1, t2, t3, hq⟩
  · have HX := Lib.hid hq
    clear hq
    go_enter Try.func38, Try.ntmps38
    go_wp2_with fail
    refine (rcross_any a b c y _ HA.out HA2.out HA3.out HY.out).mono ?_
    rintro e w1 ⟨rfl, hb1⟩
    replace kk := below_next kk (Nat.le_refl _) hb1
    clear c00 c01 c10 c11 c20 c21 HB hb1
    obtain ⟨B0, B1, B2, hbb⟩ := HK.out _ kk
    have c00 := B0.cell 0
    have c01 := B0.cell 1
    have c10 := B1.cell 0
    have c11 := B1.cell 1
    have c20 := B2.cell 0
    have c21 := B2.cell 1
    have HB := Lib.hid hbb
    clear B0 B1 B2 hbb
    go_wp2_with fail
    go_ret
    exact ⟨ret_bool HX.out, HB.out⟩
  all_goals
    have HX := Lib.hid hq
    clear hq
    go_enter Try.func38, Try.ntmps38
    go_wp2_with fail
    refine (rcross_any a b c 0 _ HA.out HA2.out HA3.out HY.out).mono ?_
    rintro e w2 ⟨rfl, hb2⟩
    replace kk := below_next kk (Nat.le_refl _) hb2
    clear c00 c01 c10 c11 c20 c21 HB hb2
    obtain ⟨B0, B1, B2, hbb⟩ := HK.out _ kk
    have c00 := B0.cell 0
    have c01 := B0.cell 1
    have c10 := B1.cell 0
    have c11 := B1.cell 1
    have c20 := B2.cell 0
    have c21 := B2.cell 1
    have HB := Lib.hid hbb
    clear B0 B1 B2 hbb
    go_wp2_with fail
    go_ret
    exact ⟨ret_bool HX.out, HB.out⟩
end Go.Proofs.Ytomnodpmpdodbaa
