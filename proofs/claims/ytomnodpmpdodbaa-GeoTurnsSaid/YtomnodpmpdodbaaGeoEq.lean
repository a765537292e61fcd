/- The plain law of points, edges and polygons: the program's tests are the reference's. -/
import Derived.Test.YtomnodpmpdodbaaGeoV
import Derived.Test.YtomnodpmpdodbaaGeoH
namespace Go.Proofs.Ytomnodpmpdodbaa
theorem mul_np {u v : Int} : u * v ≤ 0 ↔ (u ≤ 0 ∧ 0 ≤ v) ∨ (0 ≤ u ∧ v ≤ 0) := by
  constructor
  · intro h
    rcases Int.lt_trichotomy u 0 with hu | hu | hu
    · rcases Int.lt_or_le v 0 with hv | hv
      · have := Int.mul_pos_of_neg_of_neg hu hv; omega
      · exact .inl ⟨by omega, hv⟩
    · rcases Int.le_total 0 v with hv | hv
      · exact .inl ⟨by omega, hv⟩
      · exact .inr ⟨by omega, hv⟩
    · rcases Int.lt_or_le 0 v with hv | hv
      · have := Int.mul_pos hu hv; omega
      · exact .inr ⟨by omega, hv⟩
  · rintro (⟨h1, h2⟩ | ⟨h1, h2⟩)
    · exact Int.mul_nonpos_of_nonpos_of_nonneg h1 h2
    · exact Int.mul_nonpos_of_nonneg_of_nonpos h1 h2
theorem sq_nn (x : Int) : 0 ≤ x * x := by
  rcases Int.le_total 0 x with h | h
  · exact Int.mul_nonneg h h
  · exact Int.mul_nonneg_of_nonpos_of_nonpos h h
theorem sq_pos {x : Int} (h : x ≠ 0) : 0 < x * x := by
  rcases Int.lt_or_gt_of_ne h with h | h
  · exact Int.mul_pos_of_neg_of_neg h h
  · exact Int.mul_pos h h
/-- Of two numbers whose product is not negative: if the sum is not positive, neither is. -/
theorem both_np {p q : Int} (h : 0 ≤ p * q) (hs : p + q ≤ 0) : p ≤ 0 ∧ q ≤ 0 := by
  rcases Int.lt_or_le 0 p with hp | hp
  · rcases Int.lt_or_le q 0 with hq | hq
    · have := Int.mul_neg_of_pos_of_neg hp hq; omega
    · omega
  · rcases Int.lt_or_le 0 q with hq | hq
    · rcases Int.lt_or_le p 0 with hp2 | hp2
      · have := Int.mul_neg_of_neg_of_pos hp2 hq; omega
      · omega
    · exact ⟨hp, hq⟩
theorem coll_np {u1 u2 v1 v2 : Int} (h : u1 * v2 = u2 * v1) : u1 * v1 + u2 * v2 ≤ 0 ↔ u1 * v1 ≤ 0 ∧ u2 * v2 ≤ 0 := by
  constructor
  · intro hs
    refine both_np ?_ hs
    have e : u1 * v1 * (u2 * v2) = (u1 * v2) * (u1 * v2) := by
      have : u1 * v1 * (u2 * v2) = (u1 * v2) * (u2 * v1) := by grind
      rw [this, ← h]
    rw [e]; exact sq_nn _
  · omega
theorem between {a b c : Int} : (min a b ≤ c ∧ c ≤ max a b) ↔ (a - c) * (b - c) ≤ 0 := by
  rw [mul_np]; omega
theorem has_on (e : Ed) (c : Pt) : hasB e c = onB e.1 e.2 c := by
  rw [Bool.eq_iff_iff]
  unfold hasB onB
  simp only [Bool.and_eq_true, decide_eq_true_eq]
  have key : crossZ e.1 e.2 c = 0 → (dotZ c e.1 e.2 ≤ 0 ↔ (e.1.1 - c.1) * (e.2.1 - c.1) ≤ 0 ∧ (e.1.2 - c.2) * (e.2.2 - c.2) ≤ 0) := fun h => by
    refine coll_np ?_
    unfold crossZ at h
    grind
  constructor
  · rintro ⟨h, hd⟩
    obtain ⟨h1, h2⟩ := (key h).1 hd
    obtain ⟨g1, g2⟩ := between.2 h1
    obtain ⟨g3, g4⟩ := between.2 h2
    exact ⟨⟨⟨⟨h, g1⟩, g2⟩, g3⟩, g4⟩
  · rintro ⟨⟨⟨⟨h, g1⟩, g2⟩, g3⟩, g4⟩
    exact ⟨h, (key h).2 ⟨between.1 ⟨g1, g2⟩, between.1 ⟨g3, g4⟩⟩⟩
theorem nz_sq {u1 u2 : Int} (h : ¬ (u1 = 0 ∧ u2 = 0)) : 0 < u1 * u1 + u2 * u2 := by
  by_cases h1 : u1 = 0
  · have h2 : u2 ≠ 0 := fun e => h ⟨h1, e⟩
    have := sq_pos h2; have := sq_nn u1; omega
  · have := sq_pos h1; have := sq_nn u2; omega
theorem le_of_mul {k x y : Int} (hk : 0 < k) (h : x * k ≤ y * k) : x ≤ y := Int.le_of_mul_le_mul_right h hk
/-- Of two ways in one direction the shorter one lies on the longer one. -/
theorem dir_box {u1 u2 v1 v2 : Int} (h : u1 * v2 = u2 * v1) (hu : 0 < u1 * u1 + u2 * u2) (hd : 0 < u1 * v1 + u2 * v2) (hl : u1 * u1 + u2 * u2 ≤ v1 * v1 + v2 * v2) :
    (0 ≤ u1 → u1 ≤ v1) ∧ (u1 ≤ 0 → v1 ≤ u1) ∧ (0 ≤ u2 → u2 ≤ v2) ∧ (u2 ≤ 0 → v2 ≤ u2) := by
  have hD : u1 * u1 + u2 * u2 ≤ u1 * v1 + u2 * v2 := by
    rcases Int.lt_or_le (u1 * v1 + u2 * v2) (u1 * u1 + u2 * u2) with hlt | hle
    · have e : (u1 * v1 + u2 * v2) * (u1 * v1 + u2 * v2) = (u1 * u1 + u2 * u2) * (v1 * v1 + v2 * v2) := by grind
      have l1 : (u1 * v1 + u2 * v2) * (u1 * v1 + u2 * v2) < (u1 * u1 + u2 * u2) * (u1 * u1 + u2 * u2) :=
        Int.mul_lt_mul hlt (Int.le_of_lt hlt) hd (Int.le_of_lt hu)
      have l2 : (u1 * u1 + u2 * u2) * (u1 * u1 + u2 * u2) ≤ (u1 * u1 + u2 * u2) * (v1 * v1 + v2 * v2) := Int.mul_le_mul_of_nonneg_left hl (Int.le_of_lt hu)
      omega
    · exact hle
  have e1 : v1 * (u1 * u1 + u2 * u2) = u1 * (u1 * v1 + u2 * v2) := by grind
  have e2 : v2 * (u1 * u1 + u2 * u2) = u2 * (u1 * v1 + u2 * v2) := by grind
  refine ⟨fun h0 => le_of_mul hu ?_, fun h0 => le_of_mul hu ?_, fun h0 => le_of_mul hu ?_, fun h0 => le_of_mul hu ?_⟩
  · rw [e1]; exact Int.mul_le_mul_of_nonneg_left hD h0
  · rw [e1]; exact Int.mul_le_mul_of_nonpos_left h0 hD
  · rw [e2]; exact Int.mul_le_mul_of_nonneg_left hD h0
  · rw [e2]; exact Int.mul_le_mul_of_nonpos_left h0 hD
theorem mul_nn {u v : Int} (h : (0 ≤ u ∧ 0 ≤ v) ∨ (u ≤ 0 ∧ v ≤ 0)) : 0 ≤ u * v := by
  rcases h with ⟨h1, h2⟩ | ⟨h1, h2⟩
  · exact Int.mul_nonneg h1 h2
  · exact Int.mul_nonneg_of_nonpos_of_nonpos h1 h2
theorem box_dir {u1 u2 v1 v2 : Int} (hv : ¬ (v1 = 0 ∧ v2 = 0)) (h1 : min 0 u1 ≤ v1 ∧ v1 ≤ max 0 u1) (h2 : min 0 u2 ≤ v2 ∧ v2 ≤ max 0 u2) : 0 < u1 * v1 + u2 * v2 := by
  have n1 : 0 ≤ u1 * v1 := mul_nn (by omega)
  have n2 : 0 ≤ u2 * v2 := mul_nn (by omega)
  have z1 : u1 * v1 = 0 → v1 = 0 := fun e => by
    rcases Int.mul_eq_zero.1 e with e | e
    · omega
    · exact e
  have z2 : u2 * v2 = 0 → v2 = 0 := fun e => by
    rcases Int.mul_eq_zero.1 e with e | e
    · omega
    · exact e
  rcases Int.lt_or_le 0 (u1 * v1 + u2 * v2) with h | h
  · exact h
  · exact absurd ⟨z1 (by omega), z2 (by omega)⟩ hv
/-- An edge goes back on the one before it exactly if an end of one lies on the other. -/
theorem folds_on {a b d : Pt} (h1 : a ≠ b) (h2 : b ≠ d) : (crossZ a b d = 0 ∧ 0 < dotZ b a d) ↔ (onB b a d = true ∨ onB b d a = true) := by
  have hu : ¬ (a.1 - b.1 = 0 ∧ a.2 - b.2 = 0) := fun ⟨e1, e2⟩ => h1 (Prod.ext (by omega) (by omega))
  have hv : ¬ (d.1 - b.1 = 0 ∧ d.2 - b.2 = 0) := fun ⟨e1, e2⟩ => h2 (Prod.ext (by omega) (by omega))
  have c1 : crossZ b a d = 0 ↔ crossZ a b d = 0 := by unfold crossZ; constructor <;> intro h <;> grind
  have c2 : crossZ b d a = 0 ↔ crossZ a b d = 0 := by unfold crossZ; constructor <;> intro h <;> grind
  unfold onB
  simp only [Bool.and_eq_true, decide_eq_true_eq, c1, c2]
  constructor
  · rintro ⟨hc, hd⟩
    have hc' : (a.1 - b.1) * (d.2 - b.2) = (a.2 - b.2) * (d.1 - b.1) := by unfold crossZ at hc; grind
    rcases Int.le_total ((a.1 - b.1) * (a.1 - b.1) + (a.2 - b.2) * (a.2 - b.2)) ((d.1 - b.1) * (d.1 - b.1) + (d.2 - b.2) * (d.2 - b.2)) with hl | hl
    · obtain ⟨g1, g2, g3, g4⟩ := dir_box hc' (nz_sq hu) (by unfold dotZ at hd; exact hd) hl
      exact .inr ⟨⟨⟨⟨hc, by omega⟩, by omega⟩, by omega⟩, by omega⟩
    · obtain ⟨g1, g2, g3, g4⟩ := dir_box (u1 := d.1 - b.1) (u2 := d.2 - b.2) (v1 := a.1 - b.1) (v2 := a.2 - b.2) (by rw [Int.mul_comm, ← hc', Int.mul_comm]) (nz_sq hv) (by unfold dotZ at hd; rw [Int.mul_comm, Int.mul_comm (d.2 - b.2)]; exact hd) hl
      exact .inl ⟨⟨⟨⟨hc, by omega⟩, by omega⟩, by omega⟩, by omega⟩
  · rintro (⟨⟨⟨⟨hc, g1⟩, g2⟩, g3⟩, g4⟩ | ⟨⟨⟨⟨hc, g1⟩, g2⟩, g3⟩, g4⟩)
    · exact ⟨hc, by unfold dotZ; exact box_dir hv (by omega) (by omega)⟩
    · refine ⟨hc, ?_⟩
      have := box_dir (u1 := d.1 - b.1) (u2 := d.2 - b.2) hu (by omega) (by omega)
      unfold dotZ
      rw [Int.mul_comm, Int.mul_comm (a.2 - b.2)]
      exact this
theorem sgn_mul {k x : Int} (hk : 0 < k) : sgn (k * x) = sgn x := by
  rcases Int.lt_trichotomy x 0 with h | h | h
  · rw [sgn_neg h, sgn_neg (Int.mul_neg_of_pos_of_neg hk h)]
  · subst h; simp
  · rw [sgn_pos h, sgn_pos (Int.mul_pos hk h)]
theorem sgn_zero_iff {x : Int} : sgn x = 0 ↔ x = 0 := by
  rcases Int.lt_trichotomy x 0 with h | h | h
  · rw [sgn_neg h]; omega
  · subst h; simp [sgn]
  · rw [sgn_pos h]; omega
theorem sgn_pos_iff {x : Int} : 0 < sgn x ↔ 0 < x := by
  rcases Int.lt_trichotomy x 0 with h | h | h
  · rw [sgn_neg h]; omega
  · subst h; simp [sgn]
  · rw [sgn_pos h]; omega
theorem sgn_neg_iff {x : Int} : sgn x < 0 ↔ x < 0 := by
  rcases Int.lt_trichotomy x 0 with h | h | h
  · rw [sgn_neg h]; omega
  · subst h; simp [sgn]
  · rw [sgn_pos h]; omega
/-- Two points in one direction from a point of a line lie on one side of it. -/
theorem same_side {u1 u2 v1 v2 : Int} (w1 w2 : Int) (h : u1 * v2 = u2 * v1) (hd : 0 < u1 * v1 + u2 * v2) : sgn (w1 * u2 - w2 * u1) = sgn (w1 * v2 - w2 * v1) := by
  have hu : 0 < u1 * u1 + u2 * u2 := nz_sq fun ⟨e1, e2⟩ => by subst e1 e2; simp at hd
  rw [← sgn_mul (x := w1 * u2 - w2 * u1) hd, ← sgn_mul (x := w1 * v2 - w2 * v1) hu]
  congr 1
  grind
theorem off_side {a b c d : Pt} (h0 : crossZ a b c = 0) (h : hasB (a, b) c = false) : sgn (crossZ c d a) = sgn (crossZ c d b) := by
  have hd : 0 < dotZ c a b := by
    unfold hasB at h
    simp only [h0, decide_true, Bool.true_and, decide_eq_false_iff_not] at h
    omega
  have e1 : crossZ c d a = (d.1 - c.1) * (a.2 - c.2) - (d.2 - c.2) * (a.1 - c.1) := rfl
  have e2 : crossZ c d b = (d.1 - c.1) * (b.2 - c.2) - (d.2 - c.2) * (b.1 - c.1) := rfl
  rw [e1, e2]
  exact same_side _ _ (by unfold crossZ at h0; grind) hd
theorem off_side' {a b c d : Pt} (h0 : crossZ a b d = 0) (h : hasB (a, b) d = false) : sgn (crossZ c d a) = sgn (crossZ c d b) := by
  have hd : 0 < dotZ d a b := by
    unfold hasB at h
    simp only [h0, decide_true, Bool.true_and, decide_eq_false_iff_not] at h
    omega
  have e1 : crossZ c d a = (d.1 - c.1) * (a.2 - d.2) - (d.2 - c.2) * (a.1 - d.1) := by unfold crossZ; grind
  have e2 : crossZ c d b = (d.1 - c.1) * (b.2 - d.2) - (d.2 - c.2) * (b.1 - d.1) := by unfold crossZ; grind
  rw [e1, e2]
  exact same_side _ _ (by unfold crossZ at h0; grind) hd
theorem sgn_opp {x y : Int} (h : sgn x ≠ sgn y) (hx : x ≠ 0) (hy : y ≠ 0) : sgn x * sgn y < 0 := by
  rcases Int.lt_or_gt_of_ne hx with h1 | h1 <;> rcases Int.lt_or_gt_of_ne hy with h2 | h2
  · rw [sgn_neg h1, sgn_neg h2] at h; exact absurd rfl h
  · rw [sgn_neg h1, sgn_pos h2]; decide
  · rw [sgn_pos h1, sgn_neg h2]; decide
  · rw [sgn_pos h1, sgn_pos h2] at h; exact absurd rfl h
theorem meets_meet {a b c d : Pt} (h1 : okP a = true) (h2 : okP b = true) (h3 : okP c = true) (h4 : okP d = true) : meetsB (a, b) (c, d) = meetB a b c d := by
  unfold meetsB meetB
  rw [sideZ_ok h1 h2 h3, sideZ_ok h1 h2 h4, sideZ_ok h3 h4 h1, sideZ_ok h3 h4 h2]
  have k1 := has_on (a, b) c; have k2 := has_on (a, b) d; have k3 := has_on (c, d) a; have k4 := has_on (c, d) b
  simp only at k1 k2 k3 k4
  rw [← k1, ← k2, ← k3, ← k4]
  rcases e1 : hasB (a, b) c with _ | _
  · rcases e2 : hasB (a, b) d with _ | _
    · rcases e3 : hasB (c, d) a with _ | _
      · rcases e4 : hasB (c, d) b with _ | _
        · simp only [Bool.or_false, Bool.false_or]
          rw [Bool.eq_iff_iff]
          simp only [Bool.and_eq_true, decide_eq_true_eq]
          constructor
          · rintro ⟨g1, g2⟩
            refine ⟨sgn_opp g1 (fun e => g2 (off_side e e1)) (fun e => g2 (off_side' e e2)), sgn_opp g2 (fun e => g1 (off_side e e3)) (fun e => g1 (off_side' e e4))⟩
          · rintro ⟨g1, g2⟩
            exact ⟨fun e => by rw [e] at g1; have := sq_nn (sgn (crossZ a b d)); omega, fun e => by rw [e] at g2; have := sq_nn (sgn (crossZ c d b)); omega⟩
        · simp
      · simp
    · simp
  · simp
theorem meets_symm (e f : Ed) : meetsB e f = meetsB f e := by
  unfold meetsB
  rw [Bool.eq_iff_iff]
  simp only [Bool.or_eq_true, Bool.and_eq_true, decide_eq_true_eq]
  constructor
  · rintro ((((h | h) | h) | h) | ⟨h1, h2⟩)
    · exact .inl (.inl (.inr h))
    · exact .inl (.inr h)
    · exact .inl (.inl (.inl (.inl h)))
    · exact .inl (.inl (.inl (.inr h)))
    · exact .inr ⟨h2, h1⟩
  · rintro ((((h | h) | h) | h) | ⟨h1, h2⟩)
    · exact .inl (.inl (.inr h))
    · exact .inl (.inr h)
    · exact .inl (.inl (.inl (.inl h)))
    · exact .inl (.inl (.inl (.inr h)))
    · exact .inr ⟨h2, h1⟩
theorem eAt_edges {p : List Pt} {i : Nat} (hi : i < p.length) : eAt (edgesL p) i = edgeZ p i := by
  rw [eAt_get (by rw [edgesL_len]; exact hi), edges_at p hi]
theorem edge_next {p : List Pt} {k : Nat} (hk : k + 1 < p.length) : (edgeZ p k).2 = (edgeZ p (k + 1)).1 := by
  unfold edgeZ; simp only; rw [Nat.mod_eq_of_lt hk]
theorem edge_last {p : List Pt} {k : Nat} (hk : k + 1 = p.length) : (edgeZ p k).2 = (edgeZ p 0).1 := by
  unfold edgeZ; simp only; rw [hk, Nat.mod_self]
theorem folds_eq {e f : Ed} (h : e.2 = f.1) (h1 : e.1 ≠ e.2) (h2 : f.1 ≠ f.2) : foldsB e f = (onB e.2 e.1 f.2 || onB e.2 f.2 e.1) := by
  rw [Bool.eq_iff_iff]
  unfold foldsB
  simp only [Bool.and_eq_true, Bool.or_eq_true, decide_eq_true_eq]
  exact folds_on h1 (by rw [h]; exact h2)
/-- The program's test of two edges is the reference's. -/
theorem bad_apart {p : List Pt} (hok : p.all okP = true) (hne : ∀ i, i < p.length → (edgeZ p i).1 ≠ (edgeZ p i).2) {k i : Nat} (hk : k < i) (hi : i < p.length) : badB (edgesL p) k i = !apartB p k i := by
  unfold badB apartB
  rw [edgesL_len, eAt_edges hi, eAt_edges (by omega)]
  obtain ⟨o1, o2⟩ := edge_ok hok (i := k) (by omega)
  obtain ⟨o3, o4⟩ := edge_ok hok hi
  by_cases c1 : k + 1 = i
  · subst c1
    rw [if_pos rfl, if_pos rfl, folds_eq (edge_next hi) (hne k (by omega)) (hne (k + 1) hi)]
    simp
  · rw [if_neg c1, if_neg (show ¬ i = k + 1 from fun e => c1 e.symm)]
    by_cases c2 : k = 0 ∧ i + 1 = p.length
    · rw [if_pos c2, if_pos c2]
      obtain ⟨rfl, c3⟩ := c2
      rw [folds_eq (edge_last c3) (hne i hi) (hne 0 (by omega)), edge_last c3]
      simp [Bool.or_comm]
    · rw [if_neg c2, if_neg c2, Bool.not_not, meets_symm]
      exact meets_meet o1 o2 o3 o4
theorem simple_eq {p : List Pt} (hok : p.all okP = true) : simpleB (edgesL p) = rsimpleB p := by
  by_cases hne : ∀ i, i < p.length → (edgeZ p i).1 ≠ (edgeZ p i).2
  · by_cases hb : ∀ k i, k < i → i < p.length → apartB p k i = true
    · rw [simple_yes (l := edgesL p) fun i hi => ?_, rsimple_yes (p := p) fun i hi => rrow_yes (hne i hi) fun k h1 h2 => hb i k h1 h2]
      rw [edgesL_len] at hi
      refine row_yes (by rw [eAt_edges hi]; exact hne i hi) fun k hk => ?_
      rw [bad_apart hok hne hk hi, hb k i hk hi]; rfl
    · obtain ⟨k, hk⟩ := Classical.not_forall.1 hb
      obtain ⟨i, hi⟩ := Classical.not_forall.1 hk
      obtain ⟨h1, hi⟩ := Classical.not_forall.1 hi
      obtain ⟨h2, hi⟩ := Classical.not_forall.1 hi
      have hf : apartB p k i = false := by simpa using hi
      rw [simple_no (l := edgesL p) (i := i) (by rw [edgesL_len]; exact h2) (row_bad h1 (by rw [bad_apart hok hne h1 h2, hf]; rfl)), rsimple_no (p := p) (i := k) (by omega) (rrow_bad h1 h2 hf)]
  · obtain ⟨i, hi⟩ := Classical.not_forall.1 hne
    obtain ⟨h1, hi⟩ := Classical.not_forall.1 hi
    have he : (edgeZ p i).1 = (edgeZ p i).2 := Classical.not_not.1 hi
    rw [simple_no (l := edgesL p) (i := i) (by rw [edgesL_len]; exact h1) (row_eq (by rw [eAt_edges h1]; exact he)), rsimple_no (p := p) h1 (rrow_eq he)]
theorem check_eq (p : List Pt) : checkZ p = rcheckZ p := by
  unfold checkZ rcheckZ
  by_cases h0 : p.length < 3 ∨ 32 < p.length
  · rw [if_pos h0, if_pos h0]
  · rw [if_neg h0, if_neg h0]
    rcases h1 : p.all okP with _ | _
    · rfl
    · rw [simple_eq h1]
theorem area_eq (p : List Pt) : areaZ p = rareaZ p := by unfold areaZ rareaZ; rw [check_eq]
theorem cross_eq {e : Ed} {c : Pt} (h1 : okP e.1 = true) (h2 : okP e.2 = true) (h3 : okP c = true) (h : hasB e c = false) : crossB e c = rcrossB e c := by
  have hz : ¬ (crossZ e.1 e.2 c = 0 ∧ (e.1.2 - c.2) * (e.2.2 - c.2) ≤ 0 ∧ (e.1.2 ≠ c.2 ∨ e.2.2 ≠ c.2)) := by
    rintro ⟨g1, g2, g3⟩
    have hc : (e.1.1 - c.1) * (e.2.2 - c.2) = (e.1.2 - c.2) * (e.2.1 - c.1) := by unfold crossZ at g1; grind
    have hd : dotZ c e.1 e.2 ≤ 0 := by
      show (e.1.1 - c.1) * (e.2.1 - c.1) + (e.1.2 - c.2) * (e.2.2 - c.2) ≤ 0
      refine (coll_np hc).2 ⟨?_, g2⟩
      have e1 : (e.1.1 - c.1) * (e.2.1 - c.1) * ((e.1.2 - c.2) * (e.2.2 - c.2)) = ((e.1.1 - c.1) * (e.2.2 - c.2)) * ((e.1.1 - c.1) * (e.2.2 - c.2)) := by
        have : (e.1.1 - c.1) * (e.2.1 - c.1) * ((e.1.2 - c.2) * (e.2.2 - c.2)) = ((e.1.1 - c.1) * (e.2.2 - c.2)) * ((e.1.2 - c.2) * (e.2.1 - c.1)) := by grind
        rw [this, ← hc]
      have e2 := sq_nn ((e.1.1 - c.1) * (e.2.2 - c.2))
      rcases Int.lt_or_le ((e.1.2 - c.2) * (e.2.2 - c.2)) 0 with k | k
      · rcases Int.lt_or_le 0 ((e.1.1 - c.1) * (e.2.1 - c.1)) with k2 | k2
        · have := Int.mul_neg_of_pos_of_neg k2 k; omega
        · exact k2
      · have k0 : (e.1.2 - c.2) * (e.2.2 - c.2) = 0 := by omega
        rcases Int.mul_eq_zero.1 k0 with k1 | k1
        · rw [k1, Int.zero_mul] at hc
          rcases Int.mul_eq_zero.1 hc with k3 | k3
          · rw [k3]; simp
          · omega
        · rw [k1, Int.mul_zero] at hc
          rcases Int.mul_eq_zero.1 hc.symm with k3 | k3
          · omega
          · rw [k3]; simp
    unfold hasB at h
    rw [decide_eq_true g1, decide_eq_true hd] at h
    exact absurd h (by decide)
  unfold crossB rcrossB
  rw [sideZ_ok h1 h2 h3]
  have s1 : decide (0 < sgn (crossZ e.1 e.2 c)) = decide (0 < crossZ e.1 e.2 c) := by rw [decide_eq_decide]; exact sgn_pos_iff
  have s2 : decide (sgn (crossZ e.1 e.2 c) < 0) = decide (crossZ e.1 e.2 c < 0) := by rw [decide_eq_decide]; exact sgn_neg_iff
  rw [s1, s2]
  by_cases g1 : c.2 < e.1.2 <;> by_cases g2 : c.2 < e.2.2
  · simp [g1, g2, Int.not_le.2 g1, Int.not_le.2 g2]
  · have hx : crossZ e.1 e.2 c ≠ 0 := fun e' => hz ⟨e', mul_np.2 (.inr ⟨by omega, by omega⟩), .inl (by omega)⟩
    have a1 : ¬ e.1.2 ≤ c.2 := by omega
    have a2 : e.2.2 ≤ c.2 := by omega
    have a3 : ¬ e.1.2 < e.2.2 := by omega
    by_cases g3 : 0 < crossZ e.1 e.2 c
    · have : ¬ crossZ e.1 e.2 c < 0 := by omega
      simp [g1, g2, a1, a2, a3, g3, this]
    · have : crossZ e.1 e.2 c < 0 := by omega
      simp [g1, g2, a1, a2, a3, g3, this]
  · have a1 : e.1.2 ≤ c.2 := by omega
    have a2 : ¬ e.2.2 ≤ c.2 := by omega
    have a3 : e.1.2 < e.2.2 := by omega
    simp [g1, g2, a1, a2, a3]
  · have a1 : e.1.2 ≤ c.2 := by omega
    have a2 : e.2.2 ≤ c.2 := by omega
    simp [g1, g2, a1, a2]
theorem whereF_eq {c : Pt} (hc : okP c = true) : ∀ (l : List Ed) (o : Int), (∀ e ∈ l, okE e = true) → whereF l c o = rinF l c o
  | [], _, _ => rfl
  | e :: l, o, h => by
    have he := okE_t (h e (List.mem_cons_self ..))
    have hl := fun o => whereF_eq hc l o fun x hx => h x (List.mem_cons_of_mem _ hx)
    show (if hasB e c = true then 0 else whereF l c (if crossB e c = true then -o else o)) = if onB e.1 e.2 c = true then 0 else rinF l c (if rcrossB e c = true then -o else o)
    rw [← has_on]
    rcases hh : hasB e c with _ | _
    · rw [if_neg Bool.false_ne_true, if_neg Bool.false_ne_true, cross_eq he.1 he.2 hc hh, hl]
    · rfl
theorem where_eq {p : List Pt} {c : Pt} (h : p.all okP = true) (hc : okP c = true) : whereZ p c = rwhereZ p c := whereF_eq hc _ _ (edges_ok h)
theorem insE_eq (p : List Pt) (a : Pt) : insE p a = rinsE p a := by unfold insE rinsE; rw [check_eq]
theorem insZ_eq (p : List Pt) (a : Pt) : insZ p a = rinsZ p a := by
  unfold insZ rinsZ
  rw [← insE_eq]
  by_cases h : insE p a = 0
  · rw [if_pos h, if_pos h]
    have := insE_inv h
    exact where_eq (check_inv this.1).2.1 this.2
  · rw [if_neg h, if_neg h]
theorem discE_eq (p : List Pt) (a : Pt) (r : Int) : discE p a r = rdiscE p a r := by unfold discE rdiscE; rw [insE_eq]
theorem discI_eq (p : List Pt) (a : Pt) (r : Int) : discI p a r = rdiscI p a r := by
  unfold discI rdiscI
  rw [← discE_eq]
  by_cases h : discE p a r = 0
  · rw [if_pos h, if_pos h]
    have := insE_inv (discE_inv h).1
    exact where_eq (check_inv this.1).2.1 this.2
  · rw [if_neg h, if_neg h]
theorem near_cmp (e : Ed) (a : Pt) (r : Int) : nearZ e a r = sgn (cmpZ e.1 e.2 a r) := by
  have e1 : dotZ e.1 a e.2 = dotZ e.1 e.2 a := by unfold dotZ; grind
  have e2 : dotZ e.1 e.2 e.2 = sqZ e.1 e.2 := by unfold dotZ sqZ; grind
  have e3 : dotZ a e.1 e.1 = sqZ a e.1 := by unfold dotZ sqZ; grind
  have e4 : dotZ a e.2 e.2 = sqZ a e.2 := by unfold dotZ sqZ; grind
  unfold nearZ cmpZ
  rw [e1, e2, e3, e4]
  split
  · rfl
  · split <;> rfl
theorem least_touch (a : Pt) (r : Int) (b : Bool) : ∀ (l : List Ed) (m : Int), (decide (leastF l a r m ≤ 0) || b) = (decide (m ≤ 0) || rtF l a r b)
  | [], _ => rfl
  | e :: l, m => by
    show (decide (leastF l a r (min m (nearZ e a r)) ≤ 0) || b) = (decide (m ≤ 0) || if cmpZ e.1 e.2 a r ≤ 0 then true else rtF l a r b)
    rw [least_touch a r b l, near_cmp]
    have hs : sgn (cmpZ e.1 e.2 a r) ≤ 0 ↔ cmpZ e.1 e.2 a r ≤ 0 := by have := sgn_pos_iff (x := cmpZ e.1 e.2 a r); omega
    by_cases h1 : m ≤ 0
    · have : min m (sgn (cmpZ e.1 e.2 a r)) ≤ 0 := by omega
      simp [h1, this]
    · by_cases h2 : cmpZ e.1 e.2 a r ≤ 0
      · have := hs.2 h2
        have : min m (sgn (cmpZ e.1 e.2 a r)) ≤ 0 := by omega
        simp [h2, this]
      · have := fun e' => h2 (hs.1 e')
        have : ¬ min m (sgn (cmpZ e.1 e.2 a r)) ≤ 0 := by omega
        simp [h1, h2, this]
theorem least_cover (a : Pt) (r : Int) (b : Bool) : ∀ (l : List Ed) (m : Int), (b && decide (0 ≤ leastF l a r m)) = (decide (0 ≤ m) && rcF l a r b)
  | [], m => by show (b && decide (0 ≤ m)) = (decide (0 ≤ m) && b); rw [Bool.and_comm]
  | e :: l, m => by
    show (b && decide (0 ≤ leastF l a r (min m (nearZ e a r)))) = (decide (0 ≤ m) && if cmpZ e.1 e.2 a r < 0 then false else rcF l a r b)
    rw [least_cover a r b l, near_cmp]
    have hs : sgn (cmpZ e.1 e.2 a r) < 0 ↔ cmpZ e.1 e.2 a r < 0 := sgn_neg_iff
    by_cases h1 : 0 ≤ m
    · by_cases h2 : cmpZ e.1 e.2 a r < 0
      · have := hs.2 h2
        have : ¬ 0 ≤ min m (sgn (cmpZ e.1 e.2 a r)) := by omega
        simp [h2, this]
      · have := fun e' => h2 (hs.1 e')
        have : 0 ≤ min m (sgn (cmpZ e.1 e.2 a r)) := by omega
        simp [h1, h2, this]
    · have : ¬ 0 ≤ min m (sgn (cmpZ e.1 e.2 a r)) := by omega
      simp [h1, this]
theorem touch_eq (p : List Pt) (a : Pt) (r : Int) : touchB p a r = rtouchB p a r := by
  unfold touchB rtouchB
  rw [← discE_eq, ← discI_eq]
  by_cases h : discE p a r = 0
  · rw [if_pos h, decide_eq_true h, Bool.true_and]
    have e : discL p a r = leastF (edgesL p) a r 1 := by unfold discL; rw [if_pos h]
    rw [e, Bool.or_comm, least_touch]
    simp
  · rw [if_neg h, decide_eq_false h]; rfl
theorem cover_eq (p : List Pt) (a : Pt) (r : Int) : coverB p a r = rcoverB p a r := by
  unfold coverB rcoverB
  rw [← discE_eq, ← discI_eq]
  by_cases h : discE p a r = 0
  · rw [if_pos h, decide_eq_true h, Bool.true_and]
    have e : discL p a r = leastF (edgesL p) a r 1 := by unfold discL; rw [if_pos h]
    rw [e, least_cover]
    simp
  · rw [if_neg h, decide_eq_false h]; rfl
end Go.Proofs.Ytomnodpmpdodbaa
