/- The walks of the statements GeoSides, GeoChecks, GeoInsides, GeoDiscs, GeoLarger. -/
import Derived.Test.YtomnodpmpdodbaaTenAwake
import Derived.Test.YtomnodpmpdodbaaTenOpen
namespace Go.Proofs.Ytomnodpmpdodbaa
open Go.RowKit
theorem sgn_minus (x : Int) : sgn (-x) = -sgn x := by
  rcases Int.lt_trichotomy x 0 with h | h | h
  · rw [sgn_neg h, sgn_pos (by omega)]; rfl
  · subst h; rfl
  · rw [sgn_pos h, sgn_neg (by omega)]
theorem side_ba (a b c : Pt) : sideZ b a c = -sideZ a b c := by
  unfold sideZ
  rw [show crossZ b a c = -crossZ a b c from by unfold crossZ; grind, sgn_minus]
  by_cases h : okP a = true ∧ okP b = true ∧ okP c = true
  · rw [if_pos h, if_pos ⟨h.2.1, h.1, h.2.2⟩]
  · rw [if_neg h, if_neg (fun e => h ⟨e.2.1, e.1, e.2.2⟩)]; rfl
theorem side_cb (a b c : Pt) : sideZ a c b = -sideZ a b c := by
  unfold sideZ
  rw [show crossZ a c b = -crossZ a b c from by unfold crossZ; grind, sgn_minus]
  by_cases h : okP a = true ∧ okP b = true ∧ okP c = true
  · rw [if_pos h, if_pos ⟨h.1, h.2.2, h.2.1⟩]
  · rw [if_neg h, if_neg (fun e => h ⟨e.1, e.2.2, e.2.1⟩)]; rfl
theorem side_ca (a b c : Pt) : sideZ c b a = -sideZ a b c := by
  unfold sideZ
  rw [show crossZ c b a = -crossZ a b c from by unfold crossZ; grind, sgn_minus]
  by_cases h : okP a = true ∧ okP b = true ∧ okP c = true
  · rw [if_pos h, if_pos ⟨h.2.2, h.2.1, h.1⟩]
  · rw [if_neg h, if_neg (fun e => h ⟨e.2.2, e.2.1, e.1⟩)]; rfl
theorem side_bd (a b c : Pt) : -1 ≤ sideZ a b c ∧ sideZ a b c ≤ 1 := by
  unfold sideZ; split
  · exact sgn_bd _
  · omega
set_option maxHeartbeats 1000000 in
theorem geoSides_walk (a b c : Pt) (w : World) : Calls Try.prog 3 #[aggP a, aggP b, aggP c] w (AwakePost w) := by
  obtain ⟨kk, hK⟩ := box3K w 23 23 23 #[.int .i64 a.1, .int .i64 a.2] #[.int .i64 b.1, .int .i64 b.2] #[.int .i64 c.1, .int .i64 c.2]
  have HK := Lib.hid hK
  clear hK
  obtain ⟨B0, B1, B2, hbb⟩ := HK.out _ kk
  have c00 := B0.cell 0
  have c01 := B0.cell 1
  have c10 := B1.cell 0
  have c11 := B1.cell 1
  have c20 := B2.cell 0
  have c21 := B2.cell 1
  have HB := Lib.hid hbb
  clear B0 B1 B2 hbb
  obtain ⟨n, hn⟩ : ∃ n, sideZ a b c = n := ⟨_, rfl⟩
  have hb := side_bd a b c
  have h1 := side_ba a b c; have h2 := side_cb a b c; have h3 := side_ca a b c
  rw [hn] at hb h1 h2 h3
  have H0 := Lib.hid hn; have H1 := Lib.hid h1; have H2 := Lib.hid h2; have H3 := Lib.hid h3
  obtain ⟨g1, g2⟩ := hb
  clear hn h1 h2 h3
  go_enter Try.func3, Try.ntmps3
  go_wp2_with fail
  refine (side_any a b c n _ H0.out).mono ?_
  rintro e w1 ⟨rfl, hb1⟩
  replace kk := below_next kk (Nat.le_refl _) hb1
  clear c00 c01 c10 c11 c20 c21 HB hb1
  obtain ⟨B0, B1, B2, hbb⟩ := HK.out _ kk
  have c00 := B0.cell 0
  have c01 := B0.cell 1
  have c10 := B1.cell 0
  have c11 := B1.cell 1
  have c20 := B2.cell 0
  have c21 := B2.cell 1
  have HB := Lib.hid hbb
  clear B0 B1 B2 hbb
  go_wp2_with fail
  refine (rside_any a b c n _ H0.out).mono ?_
  rintro e w2 ⟨rfl, hb2⟩
  replace kk := below_next kk (Nat.le_refl _) hb2
  clear c00 c01 c10 c11 c20 c21 HB hb2
  obtain ⟨B0, B1, B2, hbb⟩ := HK.out _ kk
  have c00 := B0.cell 0
  have c01 := B0.cell 1
  have c10 := B1.cell 0
  have c11 := B1.cell 1
  have c20 := B2.cell 0
  have c21 := B2.cell 1
  have HB := Lib.hid hbb
  clear B0 B1 B2 hbb
  go_wp2_with fail
  refine (side_any b a c (-n) _ H1.out).mono ?_
  rintro e w3 ⟨rfl, hb3⟩
  replace kk := below_next kk (Nat.le_refl _) hb3
  clear c00 c01 c10 c11 c20 c21 HB hb3
  obtain ⟨B0, B1, B2, hbb⟩ := HK.out _ kk
  have c00 := B0.cell 0
  have c01 := B0.cell 1
  have c10 := B1.cell 0
  have c11 := B1.cell 1
  have c20 := B2.cell 0
  have c21 := B2.cell 1
  have HB := Lib.hid hbb
  clear B0 B1 B2 hbb
  go_wp2_with fail
  refine (side_any a c b (-n) _ H2.out).mono ?_
  rintro e w4 ⟨rfl, hb4⟩
  replace kk := below_next kk (Nat.le_refl _) hb4
  clear c00 c01 c10 c11 c20 c21 HB hb4
  obtain ⟨B0, B1, B2, hbb⟩ := HK.out _ kk
  have c00 := B0.cell 0
  have c01 := B0.cell 1
  have c10 := B1.cell 0
  have c11 := B1.cell 1
  have c20 := B2.cell 0
  have c21 := B2.cell 1
  have HB := Lib.hid hbb
  clear B0 B1 B2 hbb
  go_wp2_with fail
  refine (side_any c b a (-n) _ H3.out).mono ?_
  rintro e w5 ⟨rfl, hb5⟩
  replace kk := below_next kk (Nat.le_refl _) hb5
  clear c00 c01 c10 c11 c20 c21 HB hb5
  obtain ⟨B0, B1, B2, hbb⟩ := HK.out _ kk
  have c00 := B0.cell 0
  have c01 := B0.cell 1
  have c10 := B1.cell 0
  have c11 := B1.cell 1
  have c20 := B2.cell 0
  have c21 := B2.cell 1
  have HB := Lib.hid hbb
  clear B0 B1 B2 hbb
  go_wp2_with fail
  refine (awake_any _).mono ?_
  rintro e w9 ⟨rfl, hb9⟩
  go_wp2_with fail
  go_ret
  exact ⟨rfl, below_next HB.out (Nat.le_refl _) hb9⟩
set_option maxHeartbeats 2000000 in
theorem geoChecks_walk (A : Option Addr) (n c : Nat) (p : List Pt) (w : World) (h : Reads w w.heap.size 2 A n (cellsPt p)) (hnc : n ≤ c) (hc : c ≤ maxLen) : Calls Try.prog 4 #[.slice A n c] w (AwakePost w) := by
  have hn' : n ≤ 9223372036854775807 := Nat.le_trans hnc hc
  clear hnc hc
  by_cases h60 : n ≤ 60
  · obtain ⟨x, hx⟩ : ∃ x, areaZ p = x := ⟨_, rfl⟩
    obtain ⟨y, hy⟩ : ∃ y, checkZ p = y := ⟨_, rfl⟩
    have HX := Lib.hid hx; have HY := Lib.hid hy
    have HX' : Hid (rareaZ p = x) := Lib.hid (by rw [← area_eq]; exact hx)
    have HY' : Hid (rcheckZ p = y) := Lib.hid (by rw [← check_eq]; exact hy)
    have HRA : Hid (∀ u, Below w.heap.size w u → Reads u u.heap.size 2 A n (cellsPt p)) := Lib.hid fun u hu => (h.below hu).more hu.size
    clear hx hy h
    have kk := Below.refl w.heap.size w
    go_enter Try.func4, Try.ntmps4
    go_wp2_with fail
    refine (area_any A n c p x y _ (HRA.out _ kk) hn' HX.out HY.out).mono ?_
    rintro e w1 ⟨rfl, hb1⟩
    replace kk := below_next kk (Nat.le_refl _) hb1
    clear hb1
    go_wp2_with fail
    refine (rarea_any A n c p x y _ (HRA.out _ kk) hn' HX'.out HY'.out).mono ?_
    rintro e w2 ⟨rfl, hb1⟩
    replace kk := below_next kk (Nat.le_refl _) hb1
    clear hb1
    go_wp2_with fail
    refine (check_any A n c p y _ (HRA.out _ kk) hn' HY.out).mono ?_
    rintro e w3 ⟨rfl, hb1⟩
    replace kk := below_next kk (Nat.le_refl _) hb1
    clear hb1
    go_wp2_with fail
    refine (rcheck_any A n c p y _ (HRA.out _ kk) hn' HY'.out).mono ?_
    rintro e w4 ⟨rfl, hb1⟩
    replace kk := below_next kk (Nat.le_refl _) hb1
    clear hb1
    go_wp2_with fail
    refine (awake_any _).mono ?_
    rintro e w5 ⟨rfl, hb1⟩
    replace kk := below_next kk (Nat.le_refl _) hb1
    clear hb1
    go_wp2_with fail
    go_ret
    exact ⟨rfl, kk⟩
  · have h61 : 60 < n := by omega
    go_enter Try.func4, Try.ntmps4
    go_wp2_with fail
    refine (awake_any _).mono ?_
    rintro e w1 ⟨rfl, hb⟩
    go_wp2_with fail
    go_ret
    exact ⟨rfl, hb⟩
set_option maxHeartbeats 2000000 in
theorem geoInsides_walk (A : Option Addr) (n cc : Nat) (p : List Pt) (a : Pt) (w : World) (h : Reads w w.heap.size 2 A n (cellsPt p)) (hnc : n ≤ cc) (hc : cc ≤ maxLen) : Calls Try.prog 5 #[.slice A n cc, aggP a] w (AwakePost w) := by
  have hn' : n ≤ 9223372036854775807 := Nat.le_trans hnc hc
  clear hnc hc
  obtain ⟨kk, hK⟩ := box1K w 23 #[.int .i64 a.1, .int .i64 a.2]
  have HK := Lib.hid hK
  clear hK
  obtain ⟨B0, hbb⟩ := HK.out _ kk
  have c00 := B0.cell 0
  have c01 := B0.cell 1
  have HB := Lib.hid hbb
  clear B0 hbb
  by_cases h60 : n ≤ 60
  · have HRA : Hid (∀ u, Below w.heap.size w u → Reads u u.heap.size 2 A n (cellsPt p)) := Lib.hid fun u hu => (h.below hu).more hu.size
    clear h
    obtain ⟨x, hx⟩ : ∃ x, insZ p a = x := ⟨_, rfl⟩
    obtain ⟨y, hy⟩ : ∃ x, insE p a = x := ⟨_, rfl⟩
    have HX := Lib.hid hx; have HY := Lib.hid hy
    have HX' : Hid (rinsZ p a = x) := Lib.hid (by rw [← insZ_eq]; exact hx)
    have HY' : Hid (rinsE p a = y) := Lib.hid (by rw [← insE_eq]; exact hy)
    clear hx hy
    go_enter Try.func5, Try.ntmps5
    go_wp2_with fail
    refine (inside_any A n cc p a x y _ (HRA.out _ HB.out) hn' HX.out HY.out).mono ?_
    rintro e w1 ⟨rfl, hb1⟩
    replace kk := below_next kk (Nat.le_refl _) hb1
    clear c00 c01 HB hb1
    obtain ⟨B0, hbb⟩ := HK.out _ kk
    have c00 := B0.cell 0
    have c01 := B0.cell 1
    have HB := Lib.hid hbb
    clear B0 hbb
    go_wp2_with fail
    refine (rinside_any A n cc p a x y _ (HRA.out _ HB.out) hn' HX'.out HY'.out).mono ?_
    rintro e w2 ⟨rfl, hb2⟩
    replace kk := below_next kk (Nat.le_refl _) hb2
    clear c00 c01 HB hb2
    obtain ⟨B0, hbb⟩ := HK.out _ kk
    have c00 := B0.cell 0
    have c01 := B0.cell 1
    have HB := Lib.hid hbb
    clear B0 hbb
    go_wp2_with fail
    refine (awake_any _).mono ?_
    rintro e w9 ⟨rfl, hb9⟩
    go_wp2_with fail
    go_ret
    exact ⟨rfl, below_next HB.out (Nat.le_refl _) hb9⟩
  · have h61 : 60 < n := by omega
    go_enter Try.func5, Try.ntmps5
    go_wp2_with fail
    refine (awake_any _).mono ?_
    rintro e w9 ⟨rfl, hb9⟩
    go_wp2_with fail
    go_ret
    exact ⟨rfl, below_next HB.out (Nat.le_refl _) hb9⟩
set_option maxHeartbeats 2000000 in
theorem geoDiscs_walk (A : Option Addr) (n cc : Nat) (p : List Pt) (a : Pt) (r : Int) (w : World) (h : Reads w w.heap.size 2 A n (cellsPt p)) (hnc : n ≤ cc) (hc : cc ≤ maxLen) : Calls Try.prog 6 #[.slice A n cc, aggP a, .int .i64 r] w (AwakePost w) := by
  have hn' : n ≤ 9223372036854775807 := Nat.le_trans hnc hc
  clear hnc hc
  obtain ⟨kk, hK⟩ := box1K w 23 #[.int .i64 a.1, .int .i64 a.2]
  have HK := Lib.hid hK
  clear hK
  obtain ⟨B0, hbb⟩ := HK.out _ kk
  have c00 := B0.cell 0
  have c01 := B0.cell 1
  have HB := Lib.hid hbb
  clear B0 hbb
  by_cases h60 : n ≤ 60
  · have HRA : Hid (∀ u, Below w.heap.size w u → Reads u u.heap.size 2 A n (cellsPt p)) := Lib.hid fun u hu => (h.below hu).more hu.size
    clear h
    obtain ⟨x, hx⟩ : ∃ x, touchB p a r = x := ⟨_, rfl⟩
    obtain ⟨z, hz⟩ : ∃ x, coverB p a r = x := ⟨_, rfl⟩
    obtain ⟨y, hy⟩ : ∃ x, discE p a r = x := ⟨_, rfl⟩
    have HX := Lib.hid hx; have HY := Lib.hid hy; have HZ := Lib.hid hz
    have HX' : Hid (rtouchB p a r = x) := Lib.hid (by rw [← touch_eq]; exact hx)
    have HZ' : Hid (rcoverB p a r = z) := Lib.hid (by rw [← cover_eq]; exact hz)
    have HY' : Hid (rdiscE p a r = y) := Lib.hid (by rw [← discE_eq]; exact hy)
    clear hx hy hz
    go_enter Try.func6, Try.ntmps6
    go_wp2_with fail
    refine (touches_any A n cc p a r x y _ (HRA.out _ HB.out) hn' HX.out HY.out).mono ?_
    rintro e w1 ⟨rfl, hb1⟩
    replace kk := below_next kk (Nat.le_refl _) hb1
    clear c00 c01 HB hb1
    obtain ⟨B0, hbb⟩ := HK.out _ kk
    have c00 := B0.cell 0
    have c01 := B0.cell 1
    have HB := Lib.hid hbb
    clear B0 hbb
    go_wp2_with fail
    refine (rtouches_any A n cc p a r x y _ (HRA.out _ HB.out) hn' HX'.out HY'.out).mono ?_
    rintro e w2 ⟨rfl, hb2⟩
    replace kk := below_next kk (Nat.le_refl _) hb2
    clear c00 c01 HB hb2
    obtain ⟨B0, hbb⟩ := HK.out _ kk
    have c00 := B0.cell 0
    have c01 := B0.cell 1
    have HB := Lib.hid hbb
    clear B0 hbb
    go_wp2_with fail
    refine (covers_any A n cc p a r z y _ (HRA.out _ HB.out) hn' HZ.out HY.out).mono ?_
    rintro e w3 ⟨rfl, hb3⟩
    replace kk := below_next kk (Nat.le_refl _) hb3
    clear c00 c01 HB hb3
    obtain ⟨B0, hbb⟩ := HK.out _ kk
    have c00 := B0.cell 0
    have c01 := B0.cell 1
    have HB := Lib.hid hbb
    clear B0 hbb
    go_wp2_with fail
    refine (rcovers_any A n cc p a r z y _ (HRA.out _ HB.out) hn' HZ'.out HY'.out).mono ?_
    rintro e w4 ⟨rfl, hb4⟩
    replace kk := below_next kk (Nat.le_refl _) hb4
    clear c00 c01 HB hb4
    obtain ⟨B0, hbb⟩ := HK.out _ kk
    have c00 := B0.cell 0
    have c01 := B0.cell 1
    have HB := Lib.hid hbb
    clear B0 hbb
    go_wp2_with fail
    refine (awake_any _).mono ?_
    rintro e w9 ⟨rfl, hb9⟩
    go_wp2_with fail
    go_ret
    exact ⟨rfl, below_next HB.out (Nat.le_refl _) hb9⟩
  · have h61 : 60 < n := by omega
    go_enter Try.func6, Try.ntmps6
    go_wp2_with fail
    refine (awake_any _).mono ?_
    rintro e w9 ⟨rfl, hb9⟩
    go_wp2_with fail
    go_ret
    exact ⟨rfl, below_next HB.out (Nat.le_refl _) hb9⟩
theorem sgn_mono {x y : Int} (h : x ≤ y) : sgn x ≤ sgn y := by
  rcases Int.lt_trichotomy y 0 with h1 | h1 | h1
  · rw [sgn_neg h1, sgn_neg (by omega)]; exact Int.le_refl _
  · subst h1
    rcases Int.lt_or_le x 0 with h2 | h2
    · rw [sgn_neg h2]; decide
    · obtain rfl : x = 0 := by omega
      exact Int.le_refl _
  · rw [sgn_pos h1]; exact (sgn_bd x).2
theorem dot_self (a b : Pt) : 0 ≤ dotZ a b b := by
  unfold dotZ
  have := sq_nn (b.1 - a.1); have := sq_nn (b.2 - a.2)
  omega
theorem near_mono (e : Ed) (a : Pt) {r s : Int} (h0 : 0 ≤ r) (h : r ≤ s) : nearZ e a s ≤ nearZ e a r := by
  have hq : r * r ≤ s * s := Int.mul_le_mul h h h0 (by omega)
  unfold nearZ
  split
  · exact sgn_mono (by omega)
  · split
    · exact sgn_mono (by omega)
    · exact sgn_mono (by have := Int.mul_le_mul_of_nonneg_right hq (dot_self e.1 e.2); omega)
theorem least_mono (a : Pt) {r s : Int} (h0 : 0 ≤ r) (h : r ≤ s) : ∀ (l : List Ed) (m n : Int), m ≤ n → leastF l a s m ≤ leastF l a r n
  | [], _, _, hm => hm
  | e :: l, m, n, hm => least_mono a h0 h l _ _ (by have := near_mono e a h0 h; omega)
theorem discE_same (p : List Pt) (a : Pt) {r s : Int} (h0 : 0 ≤ r) (h : r ≤ s) (h1 : s ≤ 16384) : discE p a s = discE p a r := by
  unfold discE
  split
  · rw [if_pos ⟨by omega, h1⟩, if_pos ⟨h0, by omega⟩]
  · rfl
theorem touch_mono {p : List Pt} {a : Pt} {r s : Int} (h0 : 0 ≤ r) (h : r ≤ s) (h1 : s ≤ 16384) (ht : touchB p a r = true) : touchB p a s = true := by
  unfold touchB at *
  have hE := discE_same p a h0 h h1
  by_cases h2 : discE p a r = 0
  · have h3 : discE p a s = 0 := by rw [hE, h2]
    rw [decide_eq_true h2, Bool.true_and] at ht
    rw [decide_eq_true h3, Bool.true_and]
    have e1 : discI p a s = discI p a r := by unfold discI; rw [if_pos h3, if_pos h2]
    have e2 : discL p a s ≤ discL p a r := by unfold discL; rw [if_pos h3, if_pos h2]; exact least_mono a h0 h _ _ _ (Int.le_refl _)
    rw [e1]
    simp only [Bool.or_eq_true, decide_eq_true_eq] at ht ⊢
    omega
  · rw [decide_eq_false h2] at ht; exact absurd ht (by simp)
theorem cover_mono {p : List Pt} {a : Pt} {r s : Int} (h0 : 0 ≤ r) (h : r ≤ s) (h1 : s ≤ 16384) (ht : coverB p a s = true) : coverB p a r = true := by
  unfold coverB at *
  have hE := discE_same p a h0 h h1
  by_cases h2 : discE p a s = 0
  · have h3 : discE p a r = 0 := by rw [← hE, h2]
    rw [decide_eq_true h2, Bool.true_and] at ht
    rw [decide_eq_true h3, Bool.true_and]
    have e1 : discI p a s = discI p a r := by unfold discI; rw [if_pos h3, if_pos h2]
    have e2 : discL p a s ≤ discL p a r := by unfold discL; rw [if_pos h3, if_pos h2]; exact least_mono a h0 h _ _ _ (Int.le_refl _)
    rw [e1] at ht
    simp only [Bool.and_eq_true, decide_eq_true_eq] at ht ⊢
    omega
  · rw [decide_eq_false h2] at ht; exact absurd ht (by simp)
set_option maxHeartbeats 4000000 in
set_option maxRecDepth 10000 in
theorem geoLarger_walk (A : Option Addr) (n cc : Nat) (p : List Pt) (a : Pt) (q : Int × Int) (w : World) (h : Reads w w.heap.size 2 A n (cellsPt p)) (hnc : n ≤ cc) (hc : cc ≤ maxLen) : Calls Try.prog 10 #[.slice A n cc, aggP a, .agg #[.int .i64 q.1, .int .i64 q.2]] w (AwakePost w) := by
  have hn' : n ≤ 9223372036854775807 := Nat.le_trans hnc hc
  clear hnc hc
  obtain ⟨kk, hK⟩ := box2K w 23 43 #[.int .i64 a.1, .int .i64 a.2] #[.int .i64 q.1, .int .i64 q.2]
  have HK := Lib.hid hK
  clear hK
  obtain ⟨B0, B1, hbb⟩ := HK.out _ kk
  have c00 := B0.cell 0
  have c01 := B0.cell 1
  have c10 := B1.cell 0
  have c11 := B1.cell 1
  have HB := Lib.hid hbb
  clear B0 B1 hbb
  by_cases h60 : n ≤ 60
  · have HRA : Hid (∀ u, Below w.heap.size w u → Reads u u.heap.size 2 A n (cellsPt p)) := Lib.hid fun u hu => (h.below hu).more hu.size
    clear h
    obtain ⟨r, hr⟩ : ∃ m, min q.1 q.2 = m := ⟨_, rfl⟩
    obtain ⟨s, hs⟩ : ∃ m, max q.1 q.2 = m := ⟨_, rfl⟩
    have hrs : r ≤ s := by omega
    have k1 : ∀ (ts : Array TypeId) (ty : TypeId) (u : World), (Builtin.min_ ts ty #[.int .i64 q.1, .int .i64 q.2]).run Try.prog u = .ok (.int .i64 r) u := fun ts ty u => by rw [Lib.run_min_ints, hr]
    have k2 : ∀ (ts : Array TypeId) (ty : TypeId) (u : World), (Builtin.max_ ts ty #[.int .i64 q.1, .int .i64 q.2]).run Try.prog u = .ok (.int .i64 s) u := fun ts ty u => by rw [Lib.run_max_ints, hs]
    clear hr hs
    by_cases hin : 0 ≤ r ∧ s ≤ 16384
    · obtain ⟨g1, g2⟩ := hin
      obtain ⟨b, hb⟩ : ∃ x, touchB p a r = x := ⟨_, rfl⟩
      obtain ⟨c, hc⟩ : ∃ x, touchB p a s = x := ⟨_, rfl⟩
      obtain ⟨d, hd⟩ : ∃ x, coverB p a r = x := ⟨_, rfl⟩
      obtain ⟨i, hi⟩ : ∃ x, coverB p a s = x := ⟨_, rfl⟩
      obtain ⟨y, hy⟩ : ∃ x, discE p a r = x := ⟨_, rfl⟩
      have HY := Lib.hid hy
      have HY2 : Hid (discE p a s = y) := Lib.hid (by rw [discE_same p a g1 hrs g2]; exact hy)
      have HBt := Lib.hid hb; have HCt := Lib.hid hc; have HDt := Lib.hid hd; have HIt := Lib.hid hi
      have hbc : b = true → c = true := fun e => by rw [← hc]; exact touch_mono g1 hrs g2 (by rw [hb]; exact e)
      have hid_ : i = true → d = true := fun e => by rw [← hd]; exact cover_mono g1 hrs g2 (by rw [hi]; exact e)
      have hcs : (b = false ∨ (b = true ∧ c = true)) ∧ (i = false ∨ (i = true ∧ d = true)) := by
        refine ⟨?_, ?_⟩
        · rcases b with _ | _
          · exact .inl rfl
          · exact .inr ⟨rfl, hbc rfl⟩
        · rcases i with _ | _
          · exact .inl rfl
          · exact .inr ⟨rfl, hid_ rfl⟩
      clear hb hc hd hi hy hbc hid_
      obtain ⟨hcs1, hcs2⟩ := hcs
      rcases hcs1 with rfl | ⟨rfl, rfl⟩ <;> rcases hcs2 with rfl | ⟨rfl, rfl⟩
      all_goals
        go_enter Try.func10, Try.ntmps10
        go_wp2_with fail
        have F00 : ∀ z : Fam _, z.val.cell? ⟨w.heap.size, 0, none⟩ = some (.int .i64 a.1) := fun z => z.some_ c00
        have F01 : ∀ z : Fam _, z.val.cell? ⟨w.heap.size, 1, none⟩ = some (.int .i64 a.2) := fun z => z.some_ c01
        have F10 : ∀ z : Fam _, z.val.cell? ⟨w.heap.size + 1, 0, none⟩ = some (.int .i64 q.1) := fun z => z.some_ c10
        have F11 : ∀ z : Fam _, z.val.cell? ⟨w.heap.size + 1, 1, none⟩ = some (.int .i64 q.2) := fun z => z.some_ c11
        clear c00 c01 c10 c11
        refine wp_region_fam (by kernel_rfl) (by kernel_rfl) ?_
        repeat (go_big_quiet_step (((fail))))
        refine wpQuiet_nil ?_
        rintro _ ⟨z1, rfl⟩
        replace kk := below_next kk (Nat.le_refl _) z1.prop
        clear HB F00 F01 F10 F11
        obtain ⟨B0, B1, hbb⟩ := HK.out _ kk
        have c00 := B0.cell 0
        have c01 := B0.cell 1
        have c10 := B1.cell 0
        have c11 := B1.cell 1
        have HB := Lib.hid hbb
        clear B0 B1 hbb
        go_wp2_with fail
        refine (touches_any A n cc p a r _ y _ (HRA.out _ HB.out) hn' HBt.out HY.out).mono ?_
        rintro e w2 ⟨rfl, hb2⟩
        replace kk := below_next kk (Nat.le_refl _) hb2
        clear c00 c01 c10 c11 HB hb2
        obtain ⟨B0, B1, hbb⟩ := HK.out _ kk
        have c00 := B0.cell 0
        have c01 := B0.cell 1
        have c10 := B1.cell 0
        have c11 := B1.cell 1
        have HB := Lib.hid hbb
        clear B0 B1 hbb
        go_wp2_with fail
        refine (touches_any A n cc p a s _ y _ (HRA.out _ HB.out) hn' HCt.out HY2.out).mono ?_
        rintro e w3 ⟨rfl, hb3⟩
        replace kk := below_next kk (Nat.le_refl _) hb3
        clear c00 c01 c10 c11 HB hb3
        obtain ⟨B0, B1, hbb⟩ := HK.out _ kk
        have c00 := B0.cell 0
        have c01 := B0.cell 1
        have c10 := B1.cell 0
        have c11 := B1.cell 1
        have HB := Lib.hid hbb
        clear B0 B1 hbb
        go_wp2_with fail
        refine (covers_any A n cc p a r _ y _ (HRA.out _ HB.out) hn' HDt.out HY.out).mono ?_
        rintro e w4 ⟨rfl, hb4⟩
        replace kk := below_next kk (Nat.le_refl _) hb4
        clear c00 c01 c10 c11 HB hb4
        obtain ⟨B0, B1, hbb⟩ := HK.out _ kk
        have c00 := B0.cell 0
        have c01 := B0.cell 1
        have c10 := B1.cell 0
        have c11 := B1.cell 1
        have HB := Lib.hid hbb
        clear B0 B1 hbb
        go_wp2_with fail
        refine (covers_any A n cc p a s _ y _ (HRA.out _ HB.out) hn' HIt.out HY2.out).mono ?_
        rintro e w5 ⟨rfl, hb5⟩
        replace kk := below_next kk (Nat.le_refl _) hb5
        clear c00 c01 c10 c11 HB hb5
        obtain ⟨B0, B1, hbb⟩ := HK.out _ kk
        have c00 := B0.cell 0
        have c01 := B0.cell 1
        have c10 := B1.cell 0
        have c11 := B1.cell 1
        have HB := Lib.hid hbb
        clear B0 B1 hbb
        go_wp2_with fail
        refine (awake_any _).mono ?_
        rintro e w9 ⟨rfl, hb9⟩
        go_wp2_with fail
        go_ret
        exact ⟨rfl, below_next HB.out (Nat.le_refl _) hb9⟩
    · have hcs : r < 0 ∨ (0 ≤ r ∧ 16384 < s) := by omega
      clear hin
      rcases hcs with g1 | ⟨g1, g2⟩
      all_goals
        go_enter Try.func10, Try.ntmps10
        go_wp2_with fail
        have F00 : ∀ z : Fam _, z.val.cell? ⟨w.heap.size, 0, none⟩ = some (.int .i64 a.1) := fun z => z.some_ c00
        have F01 : ∀ z : Fam _, z.val.cell? ⟨w.heap.size, 1, none⟩ = some (.int .i64 a.2) := fun z => z.some_ c01
        have F10 : ∀ z : Fam _, z.val.cell? ⟨w.heap.size + 1, 0, none⟩ = some (.int .i64 q.1) := fun z => z.some_ c10
        have F11 : ∀ z : Fam _, z.val.cell? ⟨w.heap.size + 1, 1, none⟩ = some (.int .i64 q.2) := fun z => z.some_ c11
        clear c00 c01 c10 c11
        refine wp_region_fam (by kernel_rfl) (by kernel_rfl) ?_
        repeat (go_big_quiet_step (((fail))))
        refine wpQuiet_nil ?_
        rintro _ ⟨z6, rfl⟩
        replace kk := below_next kk (Nat.le_refl _) z6.prop
        clear HB F00 F01 F10 F11
        obtain ⟨B0, B1, hbb⟩ := HK.out _ kk
        have c00 := B0.cell 0
        have c01 := B0.cell 1
        have c10 := B1.cell 0
        have c11 := B1.cell 1
        have HB := Lib.hid hbb
        clear B0 B1 hbb
        go_wp2_with fail
        refine (awake_any _).mono ?_
        rintro e w9 ⟨rfl, hb9⟩
        go_wp2_with fail
        go_ret
        exact ⟨rfl, below_next HB.out (Nat.le_refl _) hb9⟩
  · have h61 : 60 < n := by omega
    go_enter Try.func10, Try.ntmps10
    go_wp2_with fail
    refine (awake_any _).mono ?_
    rintro e w9 ⟨rfl, hb9⟩
    go_wp2_with fail
    go_ret
    exact ⟨rfl, below_next HB.out (Nat.le_refl _) hb9⟩
end Go.Proofs.Ytomnodpmpdodbaa
