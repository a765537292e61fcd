/- The plain law of discs: a disc that is covered lies inside, and one with an inner point touches. -/
import Derived.Test.YtdgdjlpbnaoheaaGeoPar
namespace Go.Proofs.Ytdgdjlpbnaoheaa
def xorS : List Bool → Bool
  | [] => false
  | b :: l => b != xorS l
theorem xorS_snoc (l : List Bool) (b : Bool) : xorS (l ++ [b]) = (xorS l != b) := by
  induction l with
  | nil => cases b <;> rfl
  | cons c l ih =>
    show (c != xorS (l ++ [b])) = ((c != xorS l) != b)
    rw [ih]; cases c <;> cases xorS l <;> cases b <;> rfl
theorem xorS_pair {α : Type} (f g : α → Bool) (l : List α) : (xorS (l.map f) != xorS (l.map g)) = xorS (l.map fun x => f x != g x) := by
  induction l with
  | nil => rfl
  | cons x l ih =>
    show ((f x != xorS (l.map f)) != (g x != xorS (l.map g))) = ((f x != g x) != xorS (l.map fun x => f x != g x))
    rw [← ih]; cases f x <;> cases g x <;> cases xorS (l.map f) <;> cases xorS (l.map g) <;> rfl
theorem xorS_tele (g : Nat → Bool) (k : Nat) : xorS ((List.range k).map fun i => g i != g (i + 1)) = (g 0 != g k) := by
  induction k with
  | zero => simp [xorS]
  | succ k ih =>
    rw [List.range_succ, List.map_append, List.map_singleton, xorS_snoc, ih]
    cases g 0 <;> cases g k <;> cases g (k + 1) <;> rfl
theorem xorS_cycle (p : List Pt) (f : Pt → Bool) : xorS ((edgesL p).map fun e => f e.1 != f e.2) = false := by
  unfold edgesL
  rw [List.map_map]
  rcases hn : p.length with _ | m
  · rfl
  · rw [List.range_succ, List.map_append, List.map_singleton, xorS_snoc]
    have e1 : (List.range m).map ((fun e => f e.1 != f e.2) ∘ edgeZ p) = (List.range m).map fun i => f (pAt p i) != f (pAt p (i + 1)) := by
      refine List.map_congr_left fun i hi => ?_
      have : i < m := by simpa using hi
      show (f (pAt p i) != f (pAt p ((i + 1) % p.length))) = _
      rw [Nat.mod_eq_of_lt (by omega)]
    rw [e1, xorS_tele fun i => f (pAt p i)]
    show ((f (pAt p 0) != f (pAt p m)) != (f (pAt p m) != f (pAt p ((m + 1) % p.length)))) = false
    rw [hn, Nat.mod_self]
    cases f (pAt p 0) <;> cases f (pAt p m) <;> rfl
theorem whereF_par {c : Pt} : ∀ (l : List Ed) (o : Int), (∀ e ∈ l, hasB e c = false) → whereF l c o = if xorS (l.map fun e => crossB e c) = true then -o else o
  | [], _, _ => rfl
  | e :: l, o, h => by
    show (if hasB e c = true then 0 else whereF l c (if crossB e c = true then -o else o)) = if (crossB e c != xorS (l.map fun e => crossB e c)) = true then -o else o
    rw [h e (List.mem_cons_self ..), if_neg Bool.false_ne_true, whereF_par l _ fun x hx => h x (List.mem_cons_of_mem _ hx)]
    cases crossB e c <;> cases xorS (l.map fun e => crossB e c) <;> simp
theorem meets_no {a q : Pt} {e : Ed} (h : meetsB (a, q) e = false) : hasB e a = false ∧ hasB e q = false := by
  unfold meetsB at h
  simp only [Bool.or_eq_false_iff] at h
  exact ⟨h.1.1.2, h.1.2⟩
theorem has_flip (a q c : Pt) : hasB (q, a) c = hasB (a, q) c := by
  unfold hasB
  simp only
  have e1 : crossZ q a c = -crossZ a q c := by unfold crossZ; grind
  have e2 : dotZ c q a = dotZ c a q := by unfold dotZ; grind
  rw [e1, e2]
  congr 1
  rw [decide_eq_decide]; omega
theorem sgn_neg_eq {x y : Int} : sgn (-x) = sgn (-y) ↔ sgn x = sgn y := by
  have h1 : ∀ z : Int, sgn (-z) = -sgn z := fun z => by
    rcases Int.lt_trichotomy z 0 with h | h | h
    · rw [sgn_neg h, sgn_pos (by omega)]; rfl
    · subst h; rfl
    · rw [sgn_pos h, sgn_neg (by omega)]
  rw [h1, h1]; omega
theorem meets_flip (a q : Pt) (e : Ed) : meetsB (q, a) e = meetsB (a, q) e := by
  unfold meetsB
  simp only [has_flip a q]
  have e1 : crossZ q a e.1 = -crossZ a q e.1 := by unfold crossZ; grind
  have e2 : crossZ q a e.2 = -crossZ a q e.2 := by unfold crossZ; grind
  rw [e1, e2]
  have d1 : decide (sgn (-crossZ a q e.1) ≠ sgn (-crossZ a q e.2)) = decide (sgn (crossZ a q e.1) ≠ sgn (crossZ a q e.2)) := by
    rw [decide_eq_decide, ne_eq, ne_eq, sgn_neg_eq]
  have d2 : decide (sgn (crossZ e.1 e.2 q) ≠ sgn (crossZ e.1 e.2 a)) = decide (sgn (crossZ e.1 e.2 a) ≠ sgn (crossZ e.1 e.2 q)) := by
    rw [decide_eq_decide]; exact ⟨fun h => h.symm, fun h => h.symm⟩
  rw [d1, d2]
  cases hasB (a, q) e.1 <;> cases hasB (a, q) e.2 <;> cases hasB e a <;> cases hasB e q <;> rfl
theorem where_same0 {p : List Pt} {a q : Pt} (haq : a.2 ≤ q.2) (h : ∀ e ∈ edgesL p, meetsB (a, q) e = false) : whereZ p a = whereZ p q := by
  unfold whereZ
  rw [whereF_par _ _ fun e he => (meets_no (h e he)).1, whereF_par _ _ fun e he => (meets_no (h e he)).2]
  have e1 : (xorS ((edgesL p).map fun e => crossB e a) != xorS ((edgesL p).map fun e => crossB e q)) = false := by
    rw [xorS_pair, ← xorS_cycle p (Rb a q)]
    congr 1
    exact List.map_congr_left fun e he => edge_par haq (h e he)
  cases h1 : xorS ((edgesL p).map fun e => crossB e a) <;> cases h2 : xorS ((edgesL p).map fun e => crossB e q) <;> rw [h1, h2] at e1 <;> first | rfl | exact absurd e1 (by decide)
/-- Two points that no edge parts lie on the same side. -/
theorem where_same {p : List Pt} {a q : Pt} (h : ∀ e ∈ edgesL p, meetsB (a, q) e = false) : whereZ p a = whereZ p q := by
  rcases Int.le_total a.2 q.2 with h1 | h1
  · exact where_same0 h1 h
  · exact (where_same0 h1 fun e he => by rw [meets_flip]; exact h e he).symm
theorem lagr (x1 x2 y1 y2 : Int) : (x1 * y2 - x2 * y1) * (x1 * y2 - x2 * y1) + (x1 * y1 + x2 * y2) * (x1 * y1 + x2 * y2) = (x1 * x1 + x2 * x2) * (y1 * y1 + y2 * y2) := by grind
theorem sq_len {b c : Pt} (h : b ≠ c) : 0 < sqZ b c := by
  unfold sqZ
  exact nz_sq fun ⟨e1, e2⟩ => h (Prod.ext (by omega) (by omega))
theorem sq_nneg (b c : Pt) : 0 ≤ sqZ b c := by
  unfold sqZ
  have := sq_nn (b.1 - c.1); have := sq_nn (b.2 - c.2); omega
/-- The square of the area is at most that of the way to any point of the line. -/
theorem cross_le (b c a q : Pt) (h : crossZ b c q = 0) : crossZ b c a * crossZ b c a ≤ sqZ a q * sqZ b c := by
  have e1 : crossZ b c a = (c.1 - b.1) * (a.2 - q.2) - (c.2 - b.2) * (a.1 - q.1) := by unfold crossZ at *; grind
  have e2 := lagr (c.1 - b.1) (c.2 - b.2) (a.1 - q.1) (a.2 - q.2)
  have e3 := sq_nn ((c.1 - b.1) * (a.1 - q.1) + (c.2 - b.2) * (a.2 - q.2))
  have e4 : sqZ a q * sqZ b c = ((c.1 - b.1) * (c.1 - b.1) + (c.2 - b.2) * (c.2 - b.2)) * ((a.1 - q.1) * (a.1 - q.1) + (a.2 - q.2) * (a.2 - q.2)) := by unfold sqZ; grind
  rw [e1, e4]; omega
theorem cross_self1 (b c : Pt) : crossZ b c b = 0 := by unfold crossZ; grind
theorem cross_self2 (b c : Pt) : crossZ b c c = 0 := by unfold crossZ; grind
theorem mul_le_r {x y k : Int} (h : x ≤ y) (hk : 0 ≤ k) : x * k ≤ y * k := Int.mul_le_mul_of_nonneg_right h hk
theorem mul_lt_r {x y k : Int} (h : x < y) (hk : 0 < k) : x * k < y * k := Int.mul_lt_mul_of_pos_right h hk
/-- An end of an edge within the radius. -/
theorem cmp_b {b c a : Pt} {r : Int} (hne : b ≠ c) (h : sqZ a b < r * r) : cmpZ b c a r < 0 := by
  unfold cmpZ
  split
  · omega
  · split
    · rename_i h1 h2
      have e : sqZ a c = sqZ a b - 2 * dotZ b a c + sqZ b c := by unfold sqZ dotZ; grind
      have := sq_len hne
      omega
    · have h1 := cross_le b c a b (cross_self1 b c)
      have h2 := mul_lt_r h (sq_len hne)
      omega
theorem cmp_c {b c a : Pt} {r : Int} (hne : b ≠ c) (h : sqZ a c < r * r) : cmpZ b c a r < 0 := by
  unfold cmpZ
  split
  · rename_i h1
    have e : sqZ a c = sqZ a b - 2 * dotZ b a c + sqZ b c := by unfold sqZ dotZ; grind
    have := sq_len hne
    omega
  · split
    · omega
    · have h1 := cross_le b c a c (cross_self2 b c)
      have h2 := mul_lt_r h (sq_len hne)
      omega
/-- A point of a segment that is not its end is nearer to the beginning. -/
theorem on_nearer {a q b : Pt} (h : hasB (a, q) b = true) (hne : b ≠ q) : sqZ a b < sqZ a q := by
  unfold hasB at h
  simp only [Bool.and_eq_true, decide_eq_true_eq] at h
  have hd := h.2
  have e : sqZ a q = sqZ a b - 2 * dotZ b a q + sqZ b q := by unfold sqZ dotZ; grind
  have := sq_len hne
  omega
theorem has_end1 (b c : Pt) : hasB (b, c) b = true := by
  unfold hasB
  simp only [cross_self1, decide_true, Bool.true_and, decide_eq_true_eq]
  unfold dotZ; simp
theorem has_end2 (b c : Pt) : hasB (b, c) c = true := by
  unfold hasB
  simp only [cross_self2, decide_true, Bool.true_and, decide_eq_true_eq]
  unfold dotZ; simp
theorem opp_sq {A B : Int} (hA : A ≠ 0) (hB : B ≠ 0) (h : sgn A ≠ sgn B) : A * A < (B - A) * (B - A) ∧ A * B < 0 := by
  have h1 : A * B < 0 := by
    rcases Int.lt_or_gt_of_ne hA with a | a <;> rcases Int.lt_or_gt_of_ne hB with b | b
    · rw [sgn_neg a, sgn_neg b] at h; exact absurd rfl h
    · exact Int.mul_neg_of_neg_of_pos a b
    · exact Int.mul_neg_of_pos_of_neg a b
    · rw [sgn_pos a, sgn_pos b] at h; exact absurd rfl h
  have h2 : (B - A) * (B - A) = A * A - 2 * (A * B) + B * B := by grind
  have := sq_nn B
  omega
/-- A crossing edge is nearer than the point beyond it. -/
theorem near_end {D A g f x : Int} (hD : A * A < D * D) (hf : 0 < f) (h : A * A * f = D * D * g + x) (hx : 0 ≤ x) : g < f := by
  rcases Int.lt_or_le g f with h1 | h1
  · exact h1
  · have hDD : 0 ≤ D * D := sq_nn D
    have p1 : D * D * f ≤ D * D * g := Int.mul_le_mul_of_nonneg_left h1 hDD
    have p2 : A * A * f < D * D * f := Int.mul_lt_mul_of_pos_right hD hf
    omega
theorem meet_cmp {a q b c : Pt} {r : Int} (hne : b ≠ c) (hm : meetsB (a, q) (b, c) = true) (ha : hasB (b, c) a = false) (hq : hasB (b, c) q = false) (hr : sqZ a q ≤ r * r) : cmpZ b c a r < 0 := by
  have nb : b ≠ q := fun e => by subst e; rw [has_end1] at hq; exact absurd hq (by decide)
  have nc : c ≠ q := fun e => by subst e; rw [has_end2] at hq; exact absurd hq (by decide)
  rcases hb : hasB (a, q) b with _ | _
  · rcases hc : hasB (a, q) c with _ | _
    · have hs : sgn (crossZ a q b) ≠ sgn (crossZ a q c) ∧ sgn (crossZ b c a) ≠ sgn (crossZ b c q) := by
        unfold meetsB at hm
        simp only [hb, hc, ha, hq, Bool.false_or, Bool.and_eq_true, decide_eq_true_eq] at hm
        exact hm
      have hA : crossZ b c a ≠ 0 := fun e => hs.1 (off_side e ha)
      have hB : crossZ b c q ≠ 0 := fun e => hs.1 (off_side' e hq)
      have hP : crossZ a q b ≠ 0 := fun e => hs.2 (off_side e hb)
      have hQ : crossZ a q c ≠ 0 := fun e => hs.2 (off_side' e hc)
      obtain ⟨hAD, hAB⟩ := opp_sq hA hB hs.2
      obtain ⟨hPD, hPQ⟩ := opp_sq hP hQ hs.1
      have hf : 0 < sqZ a q := by
        rcases Classical.em (a = q) with e | e
        · subst e
          exact absurd rfl hs.2
        · exact sq_len e
      have hDD : crossZ b c q - crossZ b c a = crossZ a q b - crossZ a q c := by unfold crossZ; grind
      unfold cmpZ
      split
      · rename_i h1
        have i1 : crossZ b c a * crossZ b c a * sqZ a q = (crossZ b c q - crossZ b c a) * (crossZ b c q - crossZ b c a) * sqZ a b + (-2 * ((crossZ b c q - crossZ b c a) * crossZ a q b) * dotZ b a c + crossZ a q b * crossZ a q b * sqZ b c) := by unfold crossZ dotZ sqZ; grind
        have s1 : 0 < (crossZ b c q - crossZ b c a) * crossZ a q b := by
          rw [hDD]
          have e : (crossZ a q b - crossZ a q c) * crossZ a q b = crossZ a q b * crossZ a q b - crossZ a q b * crossZ a q c := by grind
          have := sq_nn (crossZ a q b)
          omega
        have s2 := Int.mul_nonpos_of_nonneg_of_nonpos (Int.le_of_lt s1) h1
        have s3 := Int.mul_nonneg (sq_nn (crossZ a q b)) (sq_nneg b c)
        have s4 : -2 * ((crossZ b c q - crossZ b c a) * crossZ a q b) * dotZ b a c = -2 * ((crossZ b c q - crossZ b c a) * crossZ a q b * dotZ b a c) := by grind
        have := near_end hAD hf i1 (by rw [s4]; omega)
        omega
      · split
        · rename_i h0 h1
          have i1 : crossZ b c a * crossZ b c a * sqZ a q = (crossZ b c q - crossZ b c a) * (crossZ b c q - crossZ b c a) * sqZ a c + (-2 * ((crossZ b c q - crossZ b c a) * crossZ a q c) * (dotZ b a c - sqZ b c) + crossZ a q c * crossZ a q c * sqZ b c) := by unfold crossZ dotZ sqZ; grind
          have s1 : (crossZ b c q - crossZ b c a) * crossZ a q c < 0 := by
            rw [hDD]
            have e : (crossZ a q b - crossZ a q c) * crossZ a q c = crossZ a q b * crossZ a q c - crossZ a q c * crossZ a q c := by grind
            have := sq_nn (crossZ a q c)
            omega
          have s2 := Int.mul_nonpos_of_nonpos_of_nonneg (Int.le_of_lt s1) (show 0 ≤ dotZ b a c - sqZ b c by omega)
          have s3 := Int.mul_nonneg (sq_nn (crossZ a q c)) (sq_nneg b c)
          have s4 : -2 * ((crossZ b c q - crossZ b c a) * crossZ a q c) * (dotZ b a c - sqZ b c) = -2 * ((crossZ b c q - crossZ b c a) * crossZ a q c * (dotZ b a c - sqZ b c)) := by grind
          have := near_end hAD hf i1 (by rw [s4]; omega)
          omega
        · have e1 : crossZ b c q - crossZ b c a = (c.1 - b.1) * (q.2 - a.2) - (c.2 - b.2) * (q.1 - a.1) := by unfold crossZ; grind
          have e2 := lagr (c.1 - b.1) (c.2 - b.2) (q.1 - a.1) (q.2 - a.2)
          have e3 := sq_nn ((c.1 - b.1) * (q.1 - a.1) + (c.2 - b.2) * (q.2 - a.2))
          have e4 : sqZ a q * sqZ b c = ((c.1 - b.1) * (c.1 - b.1) + (c.2 - b.2) * (c.2 - b.2)) * ((q.1 - a.1) * (q.1 - a.1) + (q.2 - a.2) * (q.2 - a.2)) := by unfold sqZ; grind
          have e5 := mul_le_r hr (Int.le_of_lt (sq_len hne))
          rw [e1] at hAD
          omega
    · have := on_nearer hc nc
      exact cmp_c hne (by omega)
  · have := on_nearer hb nb
    exact cmp_b hne (by omega)
/-- A point of an edge within the radius. -/
theorem on_cmp {a q b c : Pt} {r : Int} (hne : b ≠ c) (hq : hasB (b, c) q = true) (hr : sqZ a q ≤ r * r) : cmpZ b c a r ≤ 0 := by
  unfold hasB at hq
  simp only [Bool.and_eq_true, decide_eq_true_eq] at hq
  obtain ⟨hc, hd⟩ := hq
  have hL := sq_len hne
  have hc' : (c.1 - b.1) * (q.2 - b.2) = (c.2 - b.2) * (q.1 - b.1) := by unfold crossZ at hc; omega
  have e0 : dotZ q b c = sqZ q b - dotZ b q c := by unfold dotZ sqZ; grind
  have s0 : 0 ≤ dotZ b q c := by have := sq_nneg q b; omega
  have sL : dotZ b q c ≤ sqZ b c := by
    have e : dotZ b q c * dotZ b q c = sqZ b c * sqZ q b := by
      have := lagr (c.1 - b.1) (c.2 - b.2) (q.1 - b.1) (q.2 - b.2)
      rw [hc', Int.sub_self] at this
      unfold dotZ sqZ; grind
    rcases Int.lt_or_le (sqZ b c) (dotZ b q c) with h1 | h1
    · have p1 : sqZ b c * sqZ q b ≤ sqZ b c * dotZ b q c := Int.mul_le_mul_of_nonneg_left (by omega) (Int.le_of_lt hL)
      have p2 : sqZ b c * dotZ b q c < dotZ b q c * dotZ b q c := Int.mul_lt_mul_of_pos_right h1 (by omega)
      omega
    · exact h1
  unfold cmpZ
  split
  · rename_i h1
    have e1 : sqZ a q = sqZ a b - 2 * dotZ b a q + sqZ q b := by unfold sqZ dotZ; grind
    have e2 : sqZ b c * dotZ b a q = dotZ b q c * dotZ b a c := by unfold sqZ dotZ; grind
    have p := Int.mul_nonpos_of_nonneg_of_nonpos s0 h1
    have := np_of hL (show sqZ b c * dotZ b a q ≤ 0 by omega)
    have := sq_nneg q b
    omega
  · split
    · rename_i h0 h1
      have e1 : sqZ a q = sqZ a c - 2 * dotZ c a q + sqZ q c := by unfold sqZ dotZ; grind
      have e2 : sqZ b c * dotZ c a q = (dotZ b q c - sqZ b c) * (dotZ b a c - sqZ b c) := by unfold sqZ dotZ; grind
      have p := Int.mul_nonpos_of_nonpos_of_nonneg (show dotZ b q c - sqZ b c ≤ 0 by omega) (show 0 ≤ dotZ b a c - sqZ b c by omega)
      have := np_of hL (show sqZ b c * dotZ c a q ≤ 0 by omega)
      have := sq_nneg q c
      omega
    · have h1 := cross_le b c a q hc
      have h2 := mul_le_r hr (Int.le_of_lt hL)
      omega
theorem cmp_r {a b c : Pt} {r : Int} (hne : b ≠ c) : cmpZ b c a r + r * r ≤ cmpZ b c a 0 := by
  have hL := sq_len hne
  unfold cmpZ
  split
  · omega
  · split
    · omega
    · have : r * r * 1 ≤ r * r * sqZ b c := Int.mul_le_mul_of_nonneg_left (by omega) (sq_nn r)
      simp only [Int.mul_zero, Int.zero_mul]
      omega
theorem cmp_0 (a b c : Pt) : 0 ≤ cmpZ b c a 0 := by
  unfold cmpZ
  split
  · have := sq_nneg a b; simp; omega
  · split
    · have := sq_nneg a c; simp; omega
    · have := sq_nn (crossZ b c a); simp; omega
theorem nondeg {p : List Pt} (h : checkZ p = 0) : ∀ e ∈ edgesL p, e.1 ≠ e.2 := fun e he heq => by
  obtain ⟨i, hi, rfl⟩ := List.getElem_of_mem he
  have h2 := (check_inv h).2.2.1
  rw [simple_no hi (row_eq (by rw [eAt_get hi]; exact heq))] at h2
  exact absurd h2 (by decide)
theorem least_le (a : Pt) (r : Int) : ∀ (l : List Ed) (m : Int), leastF l a r m ≤ 0 ↔ m ≤ 0 ∨ ∃ e ∈ l, cmpZ e.1 e.2 a r ≤ 0
  | [], m => by simp [leastF]
  | e :: l, m => by
    show leastF l a r (min m (nearZ e a r)) ≤ 0 ↔ _
    rw [least_le a r l, near_cmp]
    have hs : sgn (cmpZ e.1 e.2 a r) ≤ 0 ↔ cmpZ e.1 e.2 a r ≤ 0 := by have := sgn_pos_iff (x := cmpZ e.1 e.2 a r); omega
    simp only [List.mem_cons, exists_eq_or_imp]
    rw [← hs]
    constructor
    · rintro (h | h)
      · rcases Int.le_total m (sgn (cmpZ e.1 e.2 a r)) with h1 | h1
        · exact .inl (by omega)
        · exact .inr (.inl (by omega))
      · exact .inr (.inr h)
    · rintro (h | h | h)
      · exact .inl (by omega)
      · exact .inl (by omega)
      · exact .inr h
theorem least_ge (a : Pt) (r : Int) : ∀ (l : List Ed) (m : Int), 0 ≤ leastF l a r m ↔ 0 ≤ m ∧ ∀ e ∈ l, 0 ≤ cmpZ e.1 e.2 a r
  | [], m => by simp [leastF]
  | e :: l, m => by
    show 0 ≤ leastF l a r (min m (nearZ e a r)) ↔ _
    rw [least_ge a r l, near_cmp]
    have hs : 0 ≤ sgn (cmpZ e.1 e.2 a r) ↔ 0 ≤ cmpZ e.1 e.2 a r := by have := sgn_neg_iff (x := cmpZ e.1 e.2 a r); omega
    simp only [List.mem_cons, forall_eq_or_imp]
    rw [← hs]
    constructor
    · rintro ⟨h1, h2⟩; exact ⟨by omega, by omega, h2⟩
    · rintro ⟨h1, h2, h3⟩; exact ⟨by omega, h3⟩
theorem whereF_on {c : Pt} : ∀ (l : List Ed) (o : Int), (o = 1 ∨ o = -1) → (whereF l c o = 0 ↔ ∃ e ∈ l, hasB e c = true) ∧ (whereF l c o = 0 ∨ whereF l c o = 1 ∨ whereF l c o = -1)
  | [], o, h => by
    show (o = 0 ↔ _) ∧ (o = 0 ∨ _)
    refine ⟨⟨fun e => by omega, fun ⟨_, h, _⟩ => by cases h⟩, by show o = 0 ∨ o = 1 ∨ o = -1; omega⟩
  | e :: l, o, h => by
    have ih := whereF_on (c := c) l (if crossB e c = true then -o else o) (by split <;> omega)
    have e0 : whereF (e :: l) c o = if hasB e c = true then 0 else whereF l c (if crossB e c = true then -o else o) := rfl
    rw [e0]
    rcases hh : hasB e c with _ | _
    · rw [if_neg Bool.false_ne_true]
      refine ⟨ih.1.trans ⟨fun ⟨x, hx, h2⟩ => ⟨x, List.mem_cons_of_mem _ hx, h2⟩, fun ⟨x, hx, h2⟩ => ?_⟩, ih.2⟩
      rcases List.mem_cons.1 hx with rfl | hx
      · rw [hh] at h2; exact absurd h2 (by decide)
      · exact ⟨x, hx, h2⟩
    · rw [if_pos rfl]
      exact ⟨⟨fun _ => ⟨e, List.mem_cons_self .., hh⟩, fun _ => rfl⟩, .inl rfl⟩
/-- The law of discs. -/
theorem disc_law {p : List Pt} {a q : Pt} {r : Int} (hp : checkZ p = 0) (ha : okP a = true) (hq : okP q = true) (h0 : 0 ≤ r) (h1 : r ≤ 16384) (hd : sqZ a q ≤ r * r) :
    (coverB p a r = true → 0 ≤ insZ p q) ∧ (0 ≤ insZ p q → touchB p a r = true) ∧ (r = 0 → (0 ≤ insZ p q ↔ coverB p a r = true)) := by
  have iE : ∀ c, okP c = true → insE p c = 0 := fun c hc => by unfold insE; rw [if_pos hp, if_pos hc]
  have dE : discE p a r = 0 := by unfold discE; rw [if_pos (iE a ha), if_pos ⟨h0, h1⟩]
  have eI : discI p a r = whereZ p a := by unfold discI; rw [if_pos dE]
  have eL : discL p a r = leastF (edgesL p) a r 1 := by unfold discL; rw [if_pos dE]
  have eq : insZ p q = whereZ p q := by unfold insZ; rw [if_pos (iE q hq)]
  have hC : coverB p a r = true ↔ 0 ≤ whereZ p a ∧ ∀ e ∈ edgesL p, 0 ≤ cmpZ e.1 e.2 a r := by
    unfold coverB
    rw [eI, eL]
    simp only [dE, decide_true, Bool.true_and, Bool.and_eq_true, decide_eq_true_eq, least_ge]
    constructor
    · rintro ⟨g1, _, g2⟩; exact ⟨g1, g2⟩
    · rintro ⟨g1, g2⟩; exact ⟨g1, by omega, g2⟩
  have hT : touchB p a r = true ↔ 0 ≤ whereZ p a ∨ ∃ e ∈ edgesL p, cmpZ e.1 e.2 a r ≤ 0 := by
    unfold touchB
    rw [eI, eL]
    simp only [dE, decide_true, Bool.true_and, Bool.or_eq_true, decide_eq_true_eq, least_le]
    constructor
    · rintro (g1 | g1 | g1)
      · exact .inl g1
      · omega
      · exact .inr g1
    · rintro (g1 | g1)
      · exact .inl g1
      · exact .inr (.inr g1)
  have hnd := nondeg hp
  have wa := whereF_on (c := a) (edgesL p) (-1) (.inr rfl)
  have wq := whereF_on (c := q) (edgesL p) (-1) (.inr rfl)
  change (whereZ p a = 0 ↔ _) ∧ (whereZ p a = 0 ∨ whereZ p a = 1 ∨ whereZ p a = -1) at wa
  change (whereZ p q = 0 ↔ _) ∧ (whereZ p q = 0 ∨ whereZ p q = 1 ∨ whereZ p q = -1) at wq
  -- an edge between the two points
  have part : whereZ p a ≠ 0 → whereZ p q ≠ 0 → whereZ p a ≠ whereZ p q → ∃ e ∈ edgesL p, cmpZ e.1 e.2 a r < 0 := fun g1 g2 g3 => by
    rcases Classical.em (∃ e ∈ edgesL p, meetsB (a, q) e = true) with ⟨e, he, hm⟩ | hno
    · refine ⟨e, he, meet_cmp (hnd e he) hm ?_ ?_ hd⟩
      · rcases hh : hasB (e.1, e.2) a with _ | _
        · rfl
        · exact absurd (wa.1.2 ⟨e, he, hh⟩) g1
      · rcases hh : hasB (e.1, e.2) q with _ | _
        · rfl
        · exact absurd (wq.1.2 ⟨e, he, hh⟩) g2
    · refine absurd (where_same fun e he => ?_) g3
      rcases hh : meetsB (a, q) e with _ | _
      · rfl
      · exact absurd ⟨e, he, hh⟩ hno
  have zero : r = 0 → a = q := fun e => by
    subst e
    rcases Classical.em (a = q) with h | h
    · exact h
    · have := sq_len h; omega
  have qin : 0 ≤ whereZ p q → touchB p a r = true := fun g => by
    rw [hT]
    by_cases ga : 0 ≤ whereZ p a
    · exact .inl ga
    · right
      by_cases gq : whereZ p q = 0
      · obtain ⟨e, he, hh⟩ := wq.1.1 gq
        exact ⟨e, he, on_cmp (hnd e he) hh hd⟩
      · obtain ⟨e, he, hh⟩ := part (by omega) gq (by omega)
        exact ⟨e, he, Int.le_of_lt hh⟩
  have cov : coverB p a r = true → 0 ≤ whereZ p q := fun g => by
    obtain ⟨g1, g2⟩ := hC.1 g
    rcases Int.lt_or_le (whereZ p q) 0 with k | k
    · exfalso
      by_cases ga : whereZ p a = 0
      · obtain ⟨e, he, hh⟩ := wa.1.1 ga
        have k1 := g2 e he
        have k2 := cmp_r (a := a) (r := r) (hnd e he)
        have k3 := on_cmp (a := a) (r := 0) (hnd e he) hh (by unfold sqZ; simp)
        have k4 : r = 0 := by
          rcases Classical.em (r = 0) with h | h
          · exact h
          · have := sq_pos h; omega
        have := zero k4
        subst this
        omega
      · obtain ⟨e, he, hh⟩ := part ga (by omega) (by omega)
        have := g2 e he
        omega
    · exact k
  rw [eq]
  refine ⟨cov, qin, fun hr => ?_⟩
  have := zero hr
  subst this hr
  rw [hC]
  exact ⟨fun g => ⟨g, fun e _ => cmp_0 a e.1 e.2⟩, fun g => g.1⟩
end Go.Proofs.Ytdgdjlpbnaoheaa
