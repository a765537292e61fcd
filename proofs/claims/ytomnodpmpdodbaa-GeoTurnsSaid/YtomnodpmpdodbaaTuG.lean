/- A simple polygon has lines between its edges. -/
import Derived.Test.YtomnodpmpdodbaaTuF
namespace Go.Proofs.Ytomnodpmpdodbaa
/-- The corners of a polygon, round and round. -/
def PP (p : List Pt) (i : Nat) : Pt := pAt p (i % p.length)
theorem PP_per (p : List Pt) (i : Nat) : PP p (i + p.length) = PP p i := by unfold PP; rw [Nat.add_mod_right]
theorem edge_PP {p : List Pt} {i : Nat} (h : i < p.length) : edgeZ p i = (PP p i, PP p (i + 1)) := by unfold edgeZ PP; rw [Nat.mod_eq_of_lt h]
theorem eAt_PP {p : List Pt} {i : Nat} (h : i < p.length) : eAt (edgesL p) i = (PP p i, PP p (i + 1)) := by rw [eAt_edges h, edge_PP h]
/-- Simple, in words that do not depend on where the polygon begins. -/
structure Sm (P : Nat → Pt) (n : Nat) : Prop where
  ne : ∀ i, P i ≠ P (i + 1)
  fold : ∀ i, foldsB (P i, P (i + 1)) (P (i + 1), P (i + 2)) = false
  apart : ∀ i k, 2 ≤ k → k + 2 ≤ n → meetsB (P i, P (i + 1)) (P (i + k), P (i + k + 1)) = false
theorem simple_inv {l : List Ed} (h : simpleB l = true) : ∀ i, i < l.length → (eAt l i).1 ≠ (eAt l i).2 ∧ ∀ k, k < i → badB l k i = false := fun i hi => by
  unfold simpleB at h
  rw [List.all_eq_true] at h
  have h1 := h i (by simpa using hi)
  unfold rowB at h1
  rw [Bool.and_eq_true, List.all_eq_true] at h1
  refine ⟨of_decide_eq_true h1.1, fun k hk => ?_⟩
  have := h1.2 k (by simpa using hk)
  simpa using this
theorem sm_iff {p : List Pt} (hn : 3 ≤ p.length) : simpleB (edgesL p) = true ↔ Sm (PP p) p.length := by
  have hlen := edgesL_len p
  have hper := PP_per p
  constructor
  · intro h
    have hs := simple_inv h
    rw [hlen] at hs
    have hmod : ∀ i k, PP p (i % p.length + k) = PP p (i + k) := fun i k => by unfold PP; rw [Nat.mod_add_mod]
    refine ⟨fun i => ?_, fun i => ?_, fun i k h1 h2 => ?_⟩
    · have := (hs (i % p.length) (Nat.mod_lt _ (by omega))).1
      rw [eAt_PP (Nat.mod_lt _ (by omega))] at this
      have e0 := hmod i 0; have e1 := hmod i 1
      simp only [Nat.add_zero] at e0
      rw [e0, e1] at this
      exact this
    · obtain ⟨a, ha⟩ : ∃ a, i % p.length = a := ⟨_, rfl⟩
      have hal : a < p.length := by rw [← ha]; exact Nat.mod_lt _ (by omega)
      have e0 := hmod i 0; have e1 := hmod i 1; have e2 := hmod i 2
      simp only [Nat.add_zero] at e0
      rw [← e0, ← e1, ← e2, ha]
      rcases Nat.lt_or_ge (a + 1) p.length with h3 | h3
      · have := (hs (a + 1) h3).2 a (by omega)
        unfold badB at this
        rw [if_pos rfl, eAt_PP hal, eAt_PP h3] at this
        exact this
      · have h4 : a + 1 = p.length := by omega
        have := (hs a hal).2 0 (by omega)
        unfold badB at this
        rw [if_neg (by omega), if_pos ⟨rfl, by rw [hlen]; exact h4⟩, eAt_PP hal, eAt_PP (by omega)] at this
        have e3 : PP p (a + 1) = PP p 0 := by rw [h4]; have := hper 0; rwa [Nat.zero_add] at this
        have e4 : PP p (a + 2) = PP p (0 + 1) := by rw [show a + 2 = 1 + p.length by omega, hper]
        rw [e3, e4]
        rw [e3] at this
        exact this
    · obtain ⟨a, ha⟩ : ∃ a, i % p.length = a := ⟨_, rfl⟩
      have hal : a < p.length := by rw [← ha]; exact Nat.mod_lt _ (by omega)
      have e0 := hmod i 0; have e1 := hmod i 1; have e2 := hmod i k; have e3 := hmod i (k + 1)
      simp only [Nat.add_zero] at e0
      rw [← e0, ← e1, ← e2, show i + k + 1 = i + (k + 1) by omega, ← e3, ha]
      rcases Nat.lt_or_ge (a + k) p.length with h3 | h3
      · have := (hs (a + k) h3).2 a (by omega)
        unfold badB at this
        rw [if_neg (by omega), if_neg (by rw [hlen]; omega), eAt_PP hal, eAt_PP h3, meets_symm] at this
        exact this
      · have hb : a + k - p.length < a := by omega
        have := (hs a hal).2 (a + k - p.length) hb
        unfold badB at this
        rw [if_neg (by omega), if_neg (by rw [hlen]; omega), eAt_PP hal, eAt_PP (by omega)] at this
        have f1 : PP p (a + k) = PP p (a + k - p.length) := by
          have := hper (a + k - p.length)
          rw [show a + k - p.length + p.length = a + k by omega] at this
          exact this
        have f2 : PP p (a + (k + 1)) = PP p (a + k - p.length + 1) := by
          have := hper (a + k - p.length + 1)
          rw [show a + k - p.length + 1 + p.length = a + (k + 1) by omega] at this
          exact this
        rw [f1, f2]
        exact this
  · intro h
    refine simple_yes fun i hi => row_yes ?_ fun k hk => ?_
    · rw [hlen] at hi
      rw [eAt_PP hi]; exact h.ne i
    · rw [hlen] at hi
      unfold badB
      rw [hlen, eAt_PP hi, eAt_PP (Nat.lt_trans hk hi)]
      by_cases h1 : k + 1 = i
      · rw [if_pos h1]
        subst h1
        exact h.fold k
      · rw [if_neg h1]
        by_cases h2 : k = 0 ∧ i + 1 = p.length
        · rw [if_pos h2]
          obtain ⟨rfl, h3⟩ := h2
          have := h.fold i
          have e3 : PP p (i + 1) = PP p 0 := by rw [h3]; have := hper 0; rwa [Nat.zero_add] at this
          have e4 : PP p (i + 2) = PP p (0 + 1) := by rw [show i + 2 = 1 + p.length by omega, hper]
          rw [e3, e4] at this
          rw [e3]
          exact this
        · rw [if_neg h2, meets_symm]
          have := h.apart k (i - k) (by omega) (by omega)
          rw [show k + (i - k) = i by omega] at this
          exact this
theorem fold_line {a b d : Pt} (h1 : a ≠ b) (h2 : b ≠ d) (hf : foldsB (a, b) (b, d) = false) : ∃ l, 0 < dt l (sb b a) ∧ 0 < dt l (sb d b) := by
  have hc : crossZ a b d = cr (sb b a) (sb d b) := by unfold crossZ cr sb; grind
  have hd : dotZ b a d = -dt (sb b a) (sb d b) := by unfold dotZ dt sb; grind
  unfold foldsB at hf
  simp only [hc, hd] at hf
  obtain ⟨u, hu⟩ : ∃ u, sb b a = u := ⟨_, rfl⟩
  obtain ⟨v, hv⟩ : ∃ v, sb d b = v := ⟨_, rfl⟩
  have hu0 : ¬ (u.1 = 0 ∧ u.2 = 0) := fun ⟨e1, e2⟩ => h1 (by rw [← hu] at e1 e2; unfold sb at e1 e2; simp only at e1 e2; exact Prod.ext (by omega) (by omega))
  have hv0 : ¬ (v.1 = 0 ∧ v.2 = 0) := fun ⟨e1, e2⟩ => h2 (by rw [← hv] at e1 e2; unfold sb at e1 e2; simp only at e1 e2; exact Prod.ext (by omega) (by omega))
  rw [hu, hv] at hf ⊢
  by_cases hcr : cr u v = 0
  · have h3 : ¬ 0 < -dt u v := fun e => by rw [decide_eq_true hcr, decide_eq_true e] at hf; exact absurd hf (by decide)
    have h4 := nz_sq hu0
    have h5 := nz_sq hv0
    have h6 : dt u v * dt u v = (u.1 * u.1 + u.2 * u.2) * (v.1 * v.1 + v.2 * v.2) := by
      have : dt u v * dt u v = (u.1 * u.1 + u.2 * u.2) * (v.1 * v.1 + v.2 * v.2) - cr u v * cr u v := by unfold dt cr; grind
      rw [this, hcr]; simp
    have h7 := Int.mul_pos h4 h5
    have h8 : dt u v ≠ 0 := fun e => by rw [e] at h6; simp at h6; omega
    exact ⟨u, by unfold dt; exact h4, by omega⟩
  · have h3 := sgn_pm hcr
    have h4 : 0 < sgn (cr u v) * cr u v := by
      rcases Int.lt_or_gt_of_ne hcr with h | h
      · rw [sgn_neg h]; omega
      · rw [sgn_pos h]; omega
    refine ⟨(sgn (cr u v) * (v.2 - u.2), sgn (cr u v) * (u.1 - v.1)), ?_, ?_⟩
    · have : dt (sgn (cr u v) * (v.2 - u.2), sgn (cr u v) * (u.1 - v.1)) u = sgn (cr u v) * cr u v := by
        generalize sgn (cr u v) = s
        unfold dt cr; grind
      omega
    · have : dt (sgn (cr u v) * (v.2 - u.2), sgn (cr u v) * (u.1 - v.1)) v = sgn (cr u v) * cr u v := by
        generalize sgn (cr u v) = s
        unfold dt cr; grind
      omega
theorem Sep.symm {b c d e : Pt} (h : Sep b c d e) : Sep d e b c := by
  obtain ⟨l, h1, h2, h3, h4⟩ := h
  have key : ∀ x y, dt (ng l) (sb x y) = dt l (sb y x) := fun x y => by unfold dt ng sb; grind
  exact ⟨ng l, by rw [key]; exact h1, by rw [key]; exact h3, by rw [key]; exact h2, by rw [key]; exact h4⟩
theorem sep_cross {a b c d : Pt} (h : sgn (crossZ a b c) = sgn (crossZ a b d)) (h0 : crossZ a b c ≠ 0) : Sep c d a b := by
  have h1 : 0 < sgn (crossZ a b c) * crossZ a b c := by
    rcases Int.lt_or_gt_of_ne h0 with h | h
    · rw [sgn_neg h]; omega
    · rw [sgn_pos h]; omega
  have h2 : 0 < sgn (crossZ a b c) * crossZ a b d := by
    rcases Int.lt_or_gt_of_ne h0 with h3 | h3
    · rw [sgn_neg h3] at h ⊢
      have : crossZ a b d < 0 := sgn_neg_iff.1 (by rw [← h]; decide)
      omega
    · rw [sgn_pos h3] at h ⊢
      have : 0 < crossZ a b d := sgn_pos_iff.1 (by rw [← h]; decide)
      omega
  obtain ⟨s, hs⟩ : ∃ s, sgn (crossZ a b c) = s := ⟨_, rfl⟩
  rw [hs] at h1 h2
  have key : ∀ q, dt (-(s * (b.2 - a.2)), s * (b.1 - a.1)) (sb q a) = s * crossZ a b q ∧ dt (-(s * (b.2 - a.2)), s * (b.1 - a.1)) (sb q b) = s * crossZ a b q := fun q => by
    unfold dt sb crossZ; constructor <;> grind
  exact ⟨_, by rw [(key c).1]; exact h1, by rw [(key c).2]; exact h1, by rw [(key d).1]; exact h2, by rw [(key d).2]; exact h2⟩
theorem sep_coll {a b c d : Pt} (hab : a ≠ b) (hc : crossZ a b c = 0) (hd : crossZ a b d = 0) (h1 : 0 < dotZ c a b) (h2 : 0 < dotZ d a b) (h3 : 0 < dotZ a c d) : Sep c d a b := by
  obtain ⟨g, hg⟩ : ∃ g, sb b a = g := ⟨_, rfl⟩
  have hg0 : ¬ (g.1 = 0 ∧ g.2 = 0) := fun ⟨e1, e2⟩ => hab (by rw [← hg] at e1 e2; unfold sb at e1 e2; simp only at e1 e2; exact Prod.ext (by omega) (by omega))
  have hG := nz_sq hg0
  obtain ⟨G, hGG⟩ : ∃ G, g.1 * g.1 + g.2 * g.2 = G := ⟨_, rfl⟩
  rw [hGG] at hG
  have hgc : g.1 * (c.2 - a.2) - g.2 * (c.1 - a.1) = 0 := by rw [← hg]; unfold sb; exact hc
  have hgd : g.1 * (d.2 - a.2) - g.2 * (d.1 - a.1) = 0 := by rw [← hg]; unfold sb; exact hd
  have gb1 : g.1 = b.1 - a.1 := by rw [← hg]; rfl
  have gb2 : g.2 = b.2 - a.2 := by rw [← hg]; rfl
  obtain ⟨x, hx⟩ : ∃ x, dt g (sb c a) = x := ⟨_, rfl⟩
  obtain ⟨y, hy⟩ : ∃ y, dt g (sb d a) = y := ⟨_, rfl⟩
  have e1 : G * dotZ c a b = x * (x - G) := by rw [← hx, ← hGG]; unfold dotZ dt sb; simp only; grind
  have e2 : G * dotZ d a b = y * (y - G) := by rw [← hy, ← hGG]; unfold dotZ dt sb; simp only; grind
  have e3 : G * dotZ a c d = x * y := by rw [← hx, ← hy, ← hGG]; unfold dotZ dt sb; simp only; grind
  have p1 := Int.mul_pos hG h1; have p2 := Int.mul_pos hG h2; have p3 := Int.mul_pos hG h3
  rw [e1] at p1; rw [e2] at p2; rw [e3] at p3
  have f1 : dt g (sb c b) = x - G := by rw [← hx, ← hGG]; unfold dt sb; simp only; rw [gb1, gb2]; grind
  have f2 : dt g (sb d b) = y - G := by rw [← hy, ← hGG]; unfold dt sb; simp only; rw [gb1, gb2]; grind
  rcases Int.lt_trichotomy x 0 with hx0 | hx0 | hx0
  · have hy0 := neg_of' hx0 p3
    have key : ∀ q, dt (ng g) q = -dt g q := fun q => dt_ng g q
    exact ⟨ng g, by rw [key, hx]; omega, by rw [key, f1]; omega, by rw [key, hy]; omega, by rw [key, f2]; omega⟩
  · rw [hx0] at p3; simp at p3
  · have hy0 := pos_of hx0 p3
    have g1 := pos_of hx0 p1
    have g2 := pos_of hy0 p2
    exact ⟨g, by rw [hx]; exact hx0, by rw [f1]; exact g1, by rw [hy]; exact hy0, by rw [f2]; exact g2⟩
theorem not_has {e : Ed} {c : Pt} (h : hasB e c = false) (h0 : crossZ e.1 e.2 c = 0) : 0 < dotZ c e.1 e.2 := by
  unfold hasB at h
  rw [decide_eq_true h0, Bool.true_and] at h
  have := of_decide_eq_false h
  omega
theorem coll_turn {a b c d : Pt} (h1 : a ≠ b) (h0 : crossZ a b c = 0) (h6 : crossZ a b d = 0) : crossZ c d a = 0 := by
  by_cases hz : crossZ c d a = 0
  · exact hz
  · exfalso
    have e : (b.1 - a.1) * crossZ c d a = crossZ a b d * (c.1 - a.1) - crossZ a b c * (d.1 - a.1) := by unfold crossZ; grind
    have e2 : (b.2 - a.2) * crossZ c d a = crossZ a b d * (c.2 - a.2) - crossZ a b c * (d.2 - a.2) := by unfold crossZ; grind
    rw [h0, h6, Int.zero_mul, Int.zero_mul, Int.sub_self] at e e2
    have f1 := (Int.mul_eq_zero.1 e).resolve_right hz
    have f2 := (Int.mul_eq_zero.1 e2).resolve_right hz
    exact h1 (Prod.ext (by omega) (by omega))
theorem sep_meets {a b c d : Pt} (h1 : a ≠ b) (h2 : c ≠ d) (h : meetsB (a, b) (c, d) = false) : Sep c d a b := by
  unfold meetsB at h
  simp only [Bool.or_eq_false_iff] at h
  obtain ⟨⟨⟨⟨a1, a2⟩, a3⟩, a4⟩, a5⟩ := h
  have h5 : sgn (crossZ a b c) = sgn (crossZ a b d) ∨ sgn (crossZ c d a) = sgn (crossZ c d b) := by
    by_cases e1 : sgn (crossZ a b c) = sgn (crossZ a b d)
    · exact .inl e1
    · by_cases e2 : sgn (crossZ c d a) = sgn (crossZ c d b)
      · exact .inr e2
      · rw [decide_eq_true e1, decide_eq_true e2] at a5; exact absurd a5 (by decide)
  rcases h5 with h5 | h5
  · by_cases h0 : crossZ a b c = 0
    · have h6 : crossZ a b d = 0 := by rw [h0] at h5; exact sgn_zero_iff.1 (by rw [← h5]; rfl)
      have h7 : crossZ c d a = 0 := coll_turn h1 h0 h6
      exact sep_coll h1 h0 h6 (not_has a1 h0) (not_has a2 h6) (not_has a3 h7)
    · exact sep_cross h5 h0
  · by_cases h0 : crossZ c d a = 0
    · have h6 : crossZ c d b = 0 := by rw [h0] at h5; exact sgn_zero_iff.1 (by rw [← h5]; rfl)
      have h7 : crossZ a b c = 0 := coll_turn h2 h0 h6
      exact (sep_coll h2 h0 h6 (not_has a3 h0) (not_has a4 h6) (not_has a1 h7)).symm
    · exact (sep_cross h5 h0).symm
theorem Sm.poly {P : Nat → Pt} {n : Nat} (h : Sm P n) (h3 : 3 ≤ n) (hper : ∀ i, P (i + n) = P i) : Poly P n :=
  ⟨h3, hper, fun i k h1 h2 => sep_meets (h.ne i) (h.ne (i + k)) (h.apart i k h1 h2), fun i => fold_line (h.ne i) (h.ne (i + 1)) (h.fold i)⟩
end Go.Proofs.Ytomnodpmpdodbaa
