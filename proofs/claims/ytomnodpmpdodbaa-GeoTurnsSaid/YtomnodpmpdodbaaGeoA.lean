/- The walks of the program's small functions on points: valid, cross, dot, sign, Side, has, folds. -/
import Derived.Test.YtomnodpmpdodbaaFlat
import Derived.Test.YtomnodpmpdodbaaGeoPure
namespace Go.Proofs.Ytomnodpmpdodbaa
open Go.RowKit
set_option maxHeartbeats 1000000 in
theorem valid_any (a : Pt) (x : Bool) (w : World) (hx : okP a = x) : Calls Try.prog 27 #[aggP a] w (RetB w x) := by
  obtain ⟨a1, a2⟩ := a
  obtain ⟨b0, hb⟩ := box1 w 23 #[.int .i64 a1, .int .i64 a2]
  have c0 := b0.cell 0; have c1 := b0.cell 1
  have HB := Lib.hid hb
  clear b0 hb
  rcases x with _ | _
  · have hcs : a1 < -16384 ∨ (-16384 ≤ a1 ∧ 16384 < a1) ∨ (-16384 ≤ a1 ∧ a1 ≤ 16384 ∧ a2 < -16384) ∨ (-16384 ≤ a1 ∧ a1 ≤ 16384 ∧ -16384 ≤ a2 ∧ 16384 < a2) := by
      have := okP_f hx; simp only at this; omega
    clear hx
    rcases hcs with g1 | ⟨g1, g2⟩ | ⟨g1, g2, g3⟩ | ⟨g1, g2, g3, g4⟩
    all_goals
      go_enter Try.func27, Try.ntmps27
      go_wp2_with fail
      go_ret
      exact ⟨ret_bool (by simp; try omega), HB.out⟩
  · obtain ⟨g1, g2, g3, g4⟩ := okP_t hx
    simp only at g1 g2 g3 g4
    clear hx
    go_enter Try.func27, Try.ntmps27
    go_wp2_with fail
    go_ret
    exact ⟨ret_bool (by simp; try omega), HB.out⟩
set_option maxHeartbeats 1000000 in
theorem sign_any (n x : Int) (w : World) (hx : sgn n = x) : Calls Try.prog 28 #[.int .i64 n] w fun e w' => e = .returned (.int .i64 x) ∧ w = w' := by
  have HX := Lib.hid hx
  clear hx
  by_cases h1 : 0 < n
  · go_enter Try.func28, Try.ntmps28
    go_wp2_with fail
    go_ret
    exact ⟨ret_int (by rw [← HX.out, sgn_pos h1]), rfl⟩
  · by_cases h2 : n < 0
    · have h3 : n ≤ 0 := by omega
      go_enter Try.func28, Try.ntmps28
      go_wp2_with fail
      go_ret
      exact ⟨ret_int (by rw [← HX.out, sgn_neg h2]), rfl⟩
    · have h3 : n ≤ 0 := by omega
      have h4 : 0 ≤ n := by omega
      go_enter Try.func28, Try.ntmps28
      go_wp2_with fail
      go_ret
      exact ⟨ret_int (by rw [← HX.out, sgn_zero h3 h4]), rfl⟩
set_option maxHeartbeats 1000000 in
theorem cross_any (a b c : Pt) (x : Int) (w : World) (h1 : okP a = true) (h2 : okP b = true) (h3 : okP c = true) (hx : crossZ a b c = x) : Calls Try.prog 29 #[aggP a, aggP b, aggP c] w (RetI w x) := by
  obtain ⟨a1, a2⟩ := a; obtain ⟨b1, b2⟩ := b; obtain ⟨c1, c2⟩ := c
  obtain ⟨p1, p2, p3, p4⟩ := okP_t h1; obtain ⟨q1, q2, q3, q4⟩ := okP_t h2; obtain ⟨r1, r2, r3, r4⟩ := okP_t h3
  have e1 := prod_bd ⟨q1, q2⟩ ⟨p1, p2⟩ ⟨r3, r4⟩ ⟨p3, p4⟩
  have e2 := prod_bd ⟨q3, q4⟩ ⟨p3, p4⟩ ⟨r1, r2⟩ ⟨p1, p2⟩
  simp only at p1 p2 p3 p4 q1 q2 q3 q4 r1 r2 r3 r4 e1 e2
  have f1 := wr_ (n := (b1 - a1) * (c2 - a2)) (by omega)
  have f2 := wr_ (n := (b2 - a2) * (c1 - a1)) (by omega)
  have f3 := wr_ (n := (b1 - a1) * (c2 - a2) - (b2 - a2) * (c1 - a1)) (by omega)
  obtain ⟨B0, B1, B2, hb⟩ := box3 w 23 23 23 #[.int .i64 a1, .int .i64 a2] #[.int .i64 b1, .int .i64 b2] #[.int .i64 c1, .int .i64 c2]
  have c00 := B0.cell 0; have c01 := B0.cell 1; have c10 := B1.cell 0; have c11 := B1.cell 1; have c20 := B2.cell 0; have c21 := B2.cell 1
  have HB := Lib.hid hb
  have HX := Lib.hid hx
  clear B0 B1 B2 hb hx h1 h2 h3 e1 e2
  go_enter Try.func29, Try.ntmps29
  go_wp2_with fail
  go_ret
  exact ⟨ret_int HX.out, HB.out⟩
set_option maxHeartbeats 1000000 in
theorem dot_any (a b c : Pt) (x : Int) (w : World) (h1 : okP a = true) (h2 : okP b = true) (h3 : okP c = true) (hx : dotZ a b c = x) : Calls Try.prog 49 #[aggP a, aggP b, aggP c] w (RetI w x) := by
  obtain ⟨a1, a2⟩ := a; obtain ⟨b1, b2⟩ := b; obtain ⟨c1, c2⟩ := c
  obtain ⟨p1, p2, p3, p4⟩ := okP_t h1; obtain ⟨q1, q2, q3, q4⟩ := okP_t h2; obtain ⟨r1, r2, r3, r4⟩ := okP_t h3
  have e1 := prod_bd ⟨q1, q2⟩ ⟨p1, p2⟩ ⟨r1, r2⟩ ⟨p1, p2⟩
  have e2 := prod_bd ⟨q3, q4⟩ ⟨p3, p4⟩ ⟨r3, r4⟩ ⟨p3, p4⟩
  simp only at p1 p2 p3 p4 q1 q2 q3 q4 r1 r2 r3 r4 e1 e2
  have f1 := wr_ (n := (b1 - a1) * (c1 - a1)) (by omega)
  have f2 := wr_ (n := (b2 - a2) * (c2 - a2)) (by omega)
  have f3 := wr_ (n := (b1 - a1) * (c1 - a1) + (b2 - a2) * (c2 - a2)) (by omega)
  obtain ⟨B0, B1, B2, hb⟩ := box3 w 23 23 23 #[.int .i64 a1, .int .i64 a2] #[.int .i64 b1, .int .i64 b2] #[.int .i64 c1, .int .i64 c2]
  have c00 := B0.cell 0; have c01 := B0.cell 1; have c10 := B1.cell 0; have c11 := B1.cell 1; have c20 := B2.cell 0; have c21 := B2.cell 1
  have HB := Lib.hid hb
  have HX := Lib.hid hx
  clear B0 B1 B2 hb hx h1 h2 h3 e1 e2
  go_enter Try.func49, Try.ntmps49
  go_wp2_with fail
  go_ret
  exact ⟨ret_int HX.out, HB.out⟩
end Go.Proofs.Ytomnodpmpdodbaa
