/- The plain law of parity: two points that no edge parts lie on the same side of a polygon. -/
import Derived.Test.YtomnodpmpdodbaaGeoEq
namespace Go.Proofs.Ytomnodpmpdodbaa
theorem neg_of {k x : Int} (hk : 0 < k) (h : k * x < 0) : x < 0 := by
  rcases Int.lt_or_le x 0 with h1 | h1
  · exact h1
  · have := Int.mul_nonneg (Int.le_of_lt hk) h1; omega
theorem pos_of {k x : Int} (hk : 0 < k) (h : 0 < k * x) : 0 < x := by
  rcases Int.lt_or_le 0 x with h1 | h1
  · exact h1
  · have := Int.mul_nonpos_of_nonneg_of_nonpos (Int.le_of_lt hk) h1; omega
theorem neg_of' {k x : Int} (hk : k < 0) (h : 0 < k * x) : x < 0 := by
  rcases Int.lt_or_le x 0 with h1 | h1
  · exact h1
  · have := Int.mul_nonpos_of_nonpos_of_nonneg (Int.le_of_lt hk) h1; omega
theorem np_of {k x : Int} (hk : 0 < k) (h : k * x ≤ 0) : x ≤ 0 := by
  rcases Int.lt_or_le 0 x with h1 | h1
  · have := Int.mul_pos hk h1; omega
  · exact h1
theorem pos_of' {k x : Int} (hk : k < 0) (h : k * x < 0) : 0 < x := by
  rcases Int.lt_or_le 0 x with h1 | h1
  · exact h1
  · have := Int.mul_nonneg_of_nonpos_of_nonpos (Int.le_of_lt hk) h1; omega
theorem nn_of {k x : Int} (hk : 0 < k) (h : 0 ≤ k * x) : 0 ≤ x := by
  rcases Int.lt_or_le x 0 with h1 | h1
  · have := Int.mul_neg_of_pos_of_neg hk h1; omega
  · exact h1
/-- Of one sign. -/
def SS (x y : Int) : Prop := (x < 0 ↔ y < 0) ∧ (0 < x ↔ 0 < y)
theorem SS.of {x y : Int} (h : sgn x = sgn y) : SS x y :=
  ⟨by rw [← sgn_neg_iff, h, sgn_neg_iff], by rw [← sgn_pos_iff, h, sgn_pos_iff]⟩
theorem SS.minus {x y : Int} (h : SS x y) : SS (-x) (-y) := by unfold SS at *; omega
section
variable {A B P Q : Int}
theorem core_mm {q v w v2 w2 : Int} (i1 : q * A = v * Q - w * P) (i2 : q * B = v2 * Q - w2 * P) (hq : 0 < q) (hv : 0 < v) (hw : 0 < w) (hv2 : v2 ≤ 0) (hw2 : w2 ≤ 0) (hP : P < 0) (hQ : 0 < Q) (h : SS P Q ∨ SS A B) : False := by
  have p1 := Int.mul_pos hv hQ; have p2 := Int.mul_neg_of_pos_of_neg hw hP
  have a := pos_of hq (show 0 < q * A by omega)
  have p3 := Int.mul_nonpos_of_nonpos_of_nonneg hv2 (Int.le_of_lt hQ); have p4 := Int.mul_nonneg_of_nonpos_of_nonpos hw2 (Int.le_of_lt hP)
  have b := np_of hq (show q * B ≤ 0 by omega)
  unfold SS at h; omega
theorem core_lh {wv av qv vw qw aw : Int} (i3 : wv * P = av * B - qv * A) (i4 : vw * Q = qw * A - aw * B) (h1 : 0 < wv) (h2 : 0 ≤ av) (h3 : 0 ≤ qv) (h4 : vw < 0) (h5 : qw < 0) (h6 : aw < 0) (hA : 0 < A) (hB : B < 0) (h : SS P Q ∨ SS A B) : False := by
  have p1 := Int.mul_nonpos_of_nonneg_of_nonpos h2 (Int.le_of_lt hB); have p2 := Int.mul_nonneg h3 (Int.le_of_lt hA)
  have a := np_of h1 (show wv * P ≤ 0 by omega)
  have p3 := Int.mul_neg_of_neg_of_pos h5 hA; have p4 := Int.mul_pos_of_neg_of_neg h6 hB
  have b := pos_of' h4 (show vw * Q < 0 by omega)
  unfold SS at h; omega
theorem core_hl {wv av qv vw qw aw : Int} (i3 : wv * P = av * B - qv * A) (i4 : vw * Q = qw * A - aw * B) (h1 : wv < 0) (h2 : av < 0) (h3 : qv < 0) (h4 : 0 < vw) (h5 : 0 ≤ qw) (h6 : 0 ≤ aw) (hA : 0 < A) (hB : B < 0) (h : SS P Q ∨ SS A B) : False := by
  have p1 := Int.mul_pos_of_neg_of_neg h2 hB; have p2 := Int.mul_neg_of_neg_of_pos h3 hA
  have a := neg_of' h1 (show 0 < wv * P by omega)
  have p3 := Int.mul_nonneg h5 (Int.le_of_lt hA); have p4 := Int.mul_nonpos_of_nonneg_of_nonpos h6 (Int.le_of_lt hB)
  have b := nn_of h4 (show 0 ≤ vw * Q by omega)
  unfold SS at h; omega
theorem core_lm {q v w vw aw qw : Int} (i1 : q * A = v * Q - w * P) (i4 : vw * Q = qw * A - aw * B) (hq : 0 < q) (hv : v ≤ 0) (hw : 0 < w) (h4 : vw < 0) (h5 : 0 ≤ qw) (h6 : aw < 0) (hA : 0 < A) (hQ : 0 < Q) (h : SS P Q ∨ SS A B) : False := by
  have p1 := Int.mul_pos hq hA; have p2 := Int.mul_nonpos_of_nonpos_of_nonneg hv (Int.le_of_lt hQ)
  have a := neg_of hw (show w * P < 0 by omega)
  have p3 := Int.mul_neg_of_neg_of_pos h4 hQ; have p4 := Int.mul_nonneg h5 (Int.le_of_lt hA)
  have b := neg_of' h6 (show 0 < aw * B by omega)
  unfold SS at h; omega
theorem core_ml {q v w wv av qv : Int} (i1 : q * A = v * Q - w * P) (i3 : wv * P = av * B - qv * A) (hq : 0 < q) (hv : 0 < v) (hw : w ≤ 0) (h1 : wv < 0) (h2 : av < 0) (h3 : 0 ≤ qv) (hA : 0 < A) (hP : P < 0) (h : SS P Q ∨ SS A B) : False := by
  have p1 := Int.mul_pos hq hA; have p2 := Int.mul_nonneg_of_nonpos_of_nonpos hw (Int.le_of_lt hP)
  have a := pos_of hv (show 0 < v * Q by omega)
  have p3 := Int.mul_pos_of_neg_of_neg h1 hP; have p4 := Int.mul_nonneg h3 (Int.le_of_lt hA)
  have b := neg_of' h2 (show 0 < av * B by omega)
  unfold SS at h; omega
theorem core_mh {q v2 w2 wv av qv : Int} (i2 : q * B = v2 * Q - w2 * P) (i3 : wv * P = av * B - qv * A) (hq : 0 < q) (hv : v2 ≤ 0) (hw : 0 < w2) (h1 : 0 < wv) (h2 : av < 0) (h3 : 0 ≤ qv) (hB : 0 < B) (hP : 0 < P) (h : SS P Q ∨ SS A B) : False := by
  have p1 := Int.mul_pos hq hB; have p2 := Int.mul_pos hw hP
  have a : Q < 0 := by
    rcases Int.lt_or_le Q 0 with h9 | h9
    · exact h9
    · have := Int.mul_nonpos_of_nonpos_of_nonneg hv h9; omega
  have p3 := Int.mul_pos h1 hP; have p4 := Int.mul_neg_of_neg_of_pos h2 hB
  have b : A < 0 := by
    rcases Int.lt_or_le A 0 with h9 | h9
    · exact h9
    · have := Int.mul_nonneg h3 h9; omega
  unfold SS at h; omega
theorem core_hm {q v2 w2 vw qw aw : Int} (i2 : q * B = v2 * Q - w2 * P) (i4 : vw * Q = qw * A - aw * B) (hq : 0 < q) (hv : 0 < v2) (hw : w2 ≤ 0) (h4 : 0 < vw) (h5 : 0 ≤ qw) (h6 : aw < 0) (hB : 0 < B) (hQ : Q < 0) (h : SS P Q ∨ SS A B) : False := by
  have p1 := Int.mul_pos hq hB; have p2 := Int.mul_neg_of_pos_of_neg hv hQ
  have a : 0 < P := by
    rcases Int.lt_or_le 0 P with h9 | h9
    · exact h9
    · have := Int.mul_nonneg_of_nonpos_of_nonpos hw h9; omega
  have p3 := Int.mul_neg_of_pos_of_neg h4 hQ; have p4 := Int.mul_neg_of_neg_of_pos h6 hB
  have b : A < 0 := by
    rcases Int.lt_or_le A 0 with h9 | h9
    · exact h9
    · have := Int.mul_nonneg h5 h9; omega
  unfold SS at h; omega
end
/-- A point at the height of an edge and on its line lies on it. -/
theorem no_on {e : Ed} {c : Pt} (h : hasB e c = false) (h0 : crossZ e.1 e.2 c = 0) (h1 : (e.1.2 - c.2) * (e.2.2 - c.2) ≤ 0) : e.1.2 = c.2 ∧ e.2.2 = c.2 := by
  rcases Classical.em (e.1.2 = c.2 ∧ e.2.2 = c.2) with hk | hk
  · exact hk
  · exfalso
    have hc : (e.1.1 - c.1) * (e.2.2 - c.2) = (e.1.2 - c.2) * (e.2.1 - c.1) := by unfold crossZ at h0; grind
    have hd : dotZ c e.1 e.2 ≤ 0 := by
      show (e.1.1 - c.1) * (e.2.1 - c.1) + (e.1.2 - c.2) * (e.2.2 - c.2) ≤ 0
      refine (coll_np hc).2 ⟨?_, h1⟩
      have e1 : (e.1.1 - c.1) * (e.2.1 - c.1) * ((e.1.2 - c.2) * (e.2.2 - c.2)) = ((e.1.1 - c.1) * (e.2.2 - c.2)) * ((e.1.1 - c.1) * (e.2.2 - c.2)) := by
        have : (e.1.1 - c.1) * (e.2.1 - c.1) * ((e.1.2 - c.2) * (e.2.2 - c.2)) = ((e.1.1 - c.1) * (e.2.2 - c.2)) * ((e.1.2 - c.2) * (e.2.1 - c.1)) := by grind
        rw [this, ← hc]
      have e2 := sq_nn ((e.1.1 - c.1) * (e.2.2 - c.2))
      rcases Int.lt_or_le ((e.1.2 - c.2) * (e.2.2 - c.2)) 0 with k | k
      · rcases Int.lt_or_le 0 ((e.1.1 - c.1) * (e.2.1 - c.1)) with k2 | k2
        · have := Int.mul_neg_of_pos_of_neg k2 k; omega
        · exact k2
      · have k0 : (e.1.2 - c.2) * (e.2.2 - c.2) = 0 := by omega
        rcases Int.mul_eq_zero.1 k0 with k1 | k1
        · rw [k1, Int.zero_mul] at hc
          rcases Int.mul_eq_zero.1 hc with k3 | k3
          · rw [k3]; simp
          · omega
        · rw [k1, Int.mul_zero] at hc
          rcases Int.mul_eq_zero.1 hc.symm with k3 | k3
          · omega
          · rw [k3]; simp
    unfold hasB at h
    rw [decide_eq_true h0, decide_eq_true hd] at h
    exact absurd h (by decide)
/-- Right of the way from a up to q, at a height between them. -/
def Rb (a q v : Pt) : Bool := decide (a.2 < v.2) && decide (v.2 ≤ q.2) && decide (crossZ a q v < 0)
theorem edge_par {a q v w : Pt} (haq : a.2 ≤ q.2) (hm : meetsB (a, q) (v, w) = false) : (crossB (v, w) a != crossB (v, w) q) = (Rb a q v != Rb a q w) := by
  unfold meetsB at hm
  simp only [Bool.or_eq_false_iff] at hm
  obtain ⟨⟨⟨⟨n1, n2⟩, n3⟩, n4⟩, n5⟩ := hm
  have hS : SS (crossZ a q v) (crossZ a q w) ∨ SS (crossZ v w a) (crossZ v w q) := by
    rcases Classical.em (sgn (crossZ a q v) = sgn (crossZ a q w)) with h | h
    · exact .inl (SS.of h)
    · refine .inr (SS.of (Classical.byContradiction fun h2 => ?_))
      rw [decide_eq_true h, decide_eq_true h2] at n5
      exact absurd n5 (by decide)
  have hS' : SS (-crossZ a q v) (-crossZ a q w) ∨ SS (-crossZ v w a) (-crossZ v w q) := hS.imp SS.minus SS.minus
  have z1 : crossZ a q v = 0 → (a.2 - v.2) * (q.2 - v.2) ≤ 0 → a.2 = v.2 ∧ q.2 = v.2 := fun h => no_on n1 h
  have z2 : crossZ a q w = 0 → (a.2 - w.2) * (q.2 - w.2) ≤ 0 → a.2 = w.2 ∧ q.2 = w.2 := fun h => no_on n2 h
  have z3 : crossZ v w a = 0 → (v.2 - a.2) * (w.2 - a.2) ≤ 0 → v.2 = a.2 ∧ w.2 = a.2 := fun h => no_on n3 h
  have z4 : crossZ v w q = 0 → (v.2 - q.2) * (w.2 - q.2) ≤ 0 → v.2 = q.2 ∧ w.2 = q.2 := fun h => no_on n4 h
  have i1 : (q.2 - a.2) * crossZ v w a = (v.2 - a.2) * crossZ a q w - (w.2 - a.2) * crossZ a q v := by unfold crossZ; grind
  have i2 : (q.2 - a.2) * crossZ v w q = (v.2 - q.2) * crossZ a q w - (w.2 - q.2) * crossZ a q v := by unfold crossZ; grind
  have i3 : (w.2 - v.2) * crossZ a q v = (a.2 - v.2) * crossZ v w q - (q.2 - v.2) * crossZ v w a := by unfold crossZ; grind
  have i4 : (v.2 - w.2) * crossZ a q w = (q.2 - w.2) * crossZ v w a - (a.2 - w.2) * crossZ v w q := by unfold crossZ; grind
  unfold crossB Rb
  simp only
  generalize crossZ a q v = P at *
  generalize crossZ a q w = Q at *
  generalize crossZ v w a = A at *
  generalize crossZ v w q = B at *
  have j1 : (q.2 - a.2) * -A = (v.2 - a.2) * -Q - (w.2 - a.2) * -P := by simp only [Int.mul_neg]; omega
  have j2 : (q.2 - a.2) * -B = (v.2 - q.2) * -Q - (w.2 - q.2) * -P := by simp only [Int.mul_neg]; omega
  have j3 : (w.2 - v.2) * -P = (a.2 - v.2) * -B - (q.2 - v.2) * -A := by simp only [Int.mul_neg]; omega
  have j4 : (v.2 - w.2) * -Q = (q.2 - w.2) * -A - (a.2 - w.2) * -B := by simp only [Int.mul_neg]; omega
  have dt : ∀ {x y : Int}, x < y → decide (x < y) = true := fun h => decide_eq_true h
  have df : ∀ {x y : Int}, y ≤ x → decide (x < y) = false := fun h => decide_eq_false (by omega)
  have et : ∀ {x y : Int}, x ≤ y → decide (x ≤ y) = true := fun h => decide_eq_true h
  have ef : ∀ {x y : Int}, y < x → decide (x ≤ y) = false := fun h => decide_eq_false (by omega)
  rcases Int.lt_or_le a.2 v.2 with v1 | v1
  · rcases Int.lt_or_le q.2 v.2 with v2 | v2
    · rcases Int.lt_or_le a.2 w.2 with w1 | w1
      · rcases Int.lt_or_le q.2 w.2 with w2 | w2
        · rw [dt v1, dt v2, dt w1, dt w2, ef v2, ef w2]; simp
        · -- HM
          rw [dt v1, dt v2, dt w1, df w2, ef v2, et w2, df (show w.2 ≤ v.2 by omega)]
          have hq : Q ≠ 0 := fun e => by have := z2 e (mul_np.2 (.inl ⟨by omega, by omega⟩)); omega
          have hb : B ≠ 0 := fun e => by have := z4 e (mul_np.2 (.inr ⟨by omega, by omega⟩)); omega
          have k1 : ¬ (0 < B ∧ Q < 0) := fun ⟨g1, g2⟩ => core_hm i2 i4 (by omega) (by omega) (by omega) (by omega) (by omega) (by omega) g1 g2 hS
          have k2 : ¬ (B < 0 ∧ 0 < Q) := fun ⟨g1, g2⟩ => core_hm j2 j4 (by omega) (by omega) (by omega) (by omega) (by omega) (by omega) (by omega) (by omega) hS'
          rcases Int.lt_or_gt_of_ne hb with g | g
          · rw [df (show B ≤ 0 by omega), dt (show Q < 0 by omega)]; simp
          · rw [dt (show 0 < B by omega), df (show 0 ≤ Q by omega)]; simp
      · -- HL
        rw [dt v1, dt v2, df w1, df (show w.2 ≤ q.2 by omega), ef v2, df (show w.2 ≤ v.2 by omega)]
        have ha : A ≠ 0 := fun e => by have := z3 e (mul_np.2 (.inr ⟨by omega, by omega⟩)); omega
        have hb : B ≠ 0 := fun e => by have := z4 e (mul_np.2 (.inr ⟨by omega, by omega⟩)); omega
        have k1 : ¬ (0 < A ∧ B < 0) := fun ⟨g1, g2⟩ => core_hl i3 i4 (by omega) (by omega) (by omega) (by omega) (by omega) (by omega) g1 g2 hS
        have k2 : ¬ (A < 0 ∧ 0 < B) := fun ⟨g1, g2⟩ => core_hl j3 j4 (by omega) (by omega) (by omega) (by omega) (by omega) (by omega) (by omega) (by omega) hS'
        rcases Int.lt_or_gt_of_ne ha with g | g
        · rw [df (show A ≤ 0 by omega), df (show B ≤ 0 by omega)]; simp
        · rw [dt (show 0 < A by omega), dt (show 0 < B by omega)]; simp
    · rcases Int.lt_or_le a.2 w.2 with w1 | w1
      · rcases Int.lt_or_le q.2 w.2 with w2 | w2
        · -- MH
          rw [dt v1, df v2, dt w1, dt w2, et v2, ef w2, dt (show v.2 < w.2 by omega)]
          have hp : P ≠ 0 := fun e => by have := z1 e (mul_np.2 (.inl ⟨by omega, by omega⟩)); omega
          have hb : B ≠ 0 := fun e => by have := z4 e (mul_np.2 (.inl ⟨by omega, by omega⟩)); omega
          have k1 : ¬ (0 < B ∧ 0 < P) := fun ⟨g1, g2⟩ => core_mh i2 i3 (by omega) (by omega) (by omega) (by omega) (by omega) (by omega) g1 g2 hS
          have k2 : ¬ (B < 0 ∧ P < 0) := fun ⟨g1, g2⟩ => core_mh j2 j3 (by omega) (by omega) (by omega) (by omega) (by omega) (by omega) (by omega) (by omega) hS'
          rcases Int.lt_or_gt_of_ne hb with g | g
          · rw [df (show B ≤ 0 by omega), df (show 0 ≤ P by omega)]; simp
          · rw [dt (show 0 < B by omega), dt (show P < 0 by omega)]; simp
        · -- MM
          rw [dt v1, df v2, dt w1, df w2, et v2, et w2]
          have hp : P ≠ 0 := fun e => by have := z1 e (mul_np.2 (.inl ⟨by omega, by omega⟩)); omega
          have hq : Q ≠ 0 := fun e => by have := z2 e (mul_np.2 (.inl ⟨by omega, by omega⟩)); omega
          have k1 : ¬ (P < 0 ∧ 0 < Q) := fun ⟨g1, g2⟩ => core_mm i1 i2 (by omega) (by omega) (by omega) (by omega) (by omega) g1 g2 hS
          have k2 : ¬ (0 < P ∧ Q < 0) := fun ⟨g1, g2⟩ => core_mm j1 j2 (by omega) (by omega) (by omega) (by omega) (by omega) (by omega) (by omega) hS'
          rcases Int.lt_or_gt_of_ne hp with g | g
          · rw [dt (show P < 0 by omega), dt (show Q < 0 by omega)]; simp
          · rw [df (show 0 ≤ P by omega), df (show 0 ≤ Q by omega)]; simp
      · -- ML
        rw [dt v1, df v2, df w1, df (show w.2 ≤ q.2 by omega), et v2, df (show w.2 ≤ v.2 by omega)]
        have hp : P ≠ 0 := fun e => by have := z1 e (mul_np.2 (.inl ⟨by omega, by omega⟩)); omega
        have ha : A ≠ 0 := fun e => by have := z3 e (mul_np.2 (.inr ⟨by omega, by omega⟩)); omega
        have k1 : ¬ (0 < A ∧ P < 0) := fun ⟨g1, g2⟩ => core_ml i1 i3 (by omega) (by omega) (by omega) (by omega) (by omega) (by omega) g1 g2 hS
        have k2 : ¬ (A < 0 ∧ 0 < P) := fun ⟨g1, g2⟩ => core_ml j1 j3 (by omega) (by omega) (by omega) (by omega) (by omega) (by omega) (by omega) (by omega) hS'
        rcases Int.lt_or_gt_of_ne ha with g | g
        · rw [df (show A ≤ 0 by omega), dt (show P < 0 by omega)]; simp
        · rw [dt (show 0 < A by omega), df (show 0 ≤ P by omega)]; simp
  · rcases Int.lt_or_le a.2 w.2 with w1 | w1
    · rcases Int.lt_or_le q.2 w.2 with w2 | w2
      · -- LH
        rw [df v1, df (show v.2 ≤ q.2 by omega), dt w1, dt w2, ef w2, dt (show v.2 < w.2 by omega)]
        have ha : A ≠ 0 := fun e => by have := z3 e (mul_np.2 (.inl ⟨by omega, by omega⟩)); omega
        have hb : B ≠ 0 := fun e => by have := z4 e (mul_np.2 (.inl ⟨by omega, by omega⟩)); omega
        have k1 : ¬ (0 < A ∧ B < 0) := fun ⟨g1, g2⟩ => core_lh i3 i4 (by omega) (by omega) (by omega) (by omega) (by omega) (by omega) g1 g2 hS
        have k2 : ¬ (A < 0 ∧ 0 < B) := fun ⟨g1, g2⟩ => core_lh j3 j4 (by omega) (by omega) (by omega) (by omega) (by omega) (by omega) (by omega) (by omega) hS'
        rcases Int.lt_or_gt_of_ne ha with g | g
        · rw [df (show A ≤ 0 by omega), df (show B ≤ 0 by omega)]; simp
        · rw [dt (show 0 < A by omega), dt (show 0 < B by omega)]; simp
      · -- LM
        rw [df v1, df (show v.2 ≤ q.2 by omega), dt w1, df w2, et w2, dt (show v.2 < w.2 by omega)]
        have hq : Q ≠ 0 := fun e => by have := z2 e (mul_np.2 (.inl ⟨by omega, by omega⟩)); omega
        have ha : A ≠ 0 := fun e => by have := z3 e (mul_np.2 (.inl ⟨by omega, by omega⟩)); omega
        have k1 : ¬ (0 < A ∧ 0 < Q) := fun ⟨g1, g2⟩ => core_lm i1 i4 (by omega) (by omega) (by omega) (by omega) (by omega) (by omega) g1 g2 hS
        have k2 : ¬ (A < 0 ∧ Q < 0) := fun ⟨g1, g2⟩ => core_lm j1 j4 (by omega) (by omega) (by omega) (by omega) (by omega) (by omega) (by omega) (by omega) hS'
        rcases Int.lt_or_gt_of_ne ha with g | g
        · rw [df (show A ≤ 0 by omega), df (show 0 ≤ Q by omega)]; simp
        · rw [dt (show 0 < A by omega), dt (show Q < 0 by omega)]; simp
    · rw [df v1, df (show v.2 ≤ q.2 by omega), df w1, df (show w.2 ≤ q.2 by omega)]; simp
end Go.Proofs.Ytomnodpmpdodbaa
