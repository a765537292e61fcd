/- A point that lies on no edge sees a whole turn or none. -/
import Derived.Test.YtomnodpmpdodbaaTuC
namespace Go.Proofs.Ytomnodpmpdodbaa
section
variable {P : Nat → Pt} {n : Nat}
theorem TT_move (h : ∀ i, P (i + n) = P i) {z w : Pt} (hs : ∀ i, Sep (P i) (P (i + 1)) z w) : TT P n w = TT P n z := by
  have h1 : ∀ k, k < n → seen P w k = seen P z k + (vw (sb (P (k + 1)) z) (sb (P (k + 1)) w) - vw (sb (P k) z) (sb (P k) w)) := fun k _ => by
    have := cell (hs k)
    unfold seen; rw [this]; omega
  unfold TT
  rw [sumZ_congr h1, sumZ_add, sumZ_tel (fun k => vw (sb (P k) z) (sb (P k) w))]
  have := h 0
  rw [Nat.zero_add] at this
  rw [this]; omega
theorem half_turn {a b : Pt} (h : cr a b ≠ 0) : vw a b - vw a (sb a b) + vw b (sb b a) = 2 * sgn (cr a b) := by
  obtain ⟨s, hs⟩ : ∃ s, sgn (cr a b) = s := ⟨_, rfl⟩
  have hpos : 0 < s * cr a b := by
    rcases Int.lt_or_gt_of_ne h with h1 | h1
    · rw [← hs, sgn_neg h1]; omega
    · rw [← hs, sgn_pos h1]; omega
  have l1 : 0 < dt (s * (2 * b.2 - a.2), s * (a.1 - 2 * b.1)) (sb a b) := by
    have : dt (s * (2 * b.2 - a.2), s * (a.1 - 2 * b.1)) (sb a b) = s * cr a b := by unfold dt sb cr; grind
    omega
  have l2 : 0 < dt (s * (2 * b.2 - a.2), s * (a.1 - 2 * b.1)) a := by
    have : dt (s * (2 * b.2 - a.2), s * (a.1 - 2 * b.1)) a = 2 * (s * cr a b) := by unfold dt cr; grind
    omega
  have l3 : 0 < dt (s * (2 * b.2 - a.2), s * (a.1 - 2 * b.1)) b := by
    have : dt (s * (2 * b.2 - a.2), s * (a.1 - 2 * b.1)) b = s * cr a b := by unfold dt cr; grind
    omega
  have ht := vw_tri l1 l2 l3
  have ha := vw_anti a (sb a b)
  have hd : cr (sb a b) b = cr a b := by unfold cr sb; grind
  have hd2 : cr b (sb b a) = cr a b := by unfold cr sb; grind
  have hsum : vw (sb a b) b + vw b (sb b a) = 2 * sgn (cr a b) := by
    unfold vw
    rw [hd, hd2]
    have e1 : (sb b a).1 = -(sb a b).1 := by unfold sb; simp; omega
    rw [e1, sgn_neg_]
    have hne : ¬ (b.1 = 0 ∧ (sb a b).1 = 0) := fun ⟨x1, x2⟩ => h (by
      have : a.1 = 0 := by unfold sb at x2; simp at x2; omega
      unfold cr; rw [this, x1]; simp)
    obtain ⟨d, hd0⟩ : ∃ d, (sb a b).1 = d := ⟨_, rfl⟩
    rw [hd0] at hne ⊢
    rw [← Int.add_mul]
    congr 1
    rcases Int.lt_trichotomy b.1 0 with h1 | h1 | h1 <;> rcases Int.lt_trichotomy d 0 with h2 | h2 | h2
    · rw [sgn_neg h1, sgn_neg h2]; decide
    · rw [sgn_neg h1, h2]; decide
    · rw [sgn_neg h1, sgn_pos h2]; decide
    · rw [h1, sgn_neg h2]; decide
    · exact absurd ⟨h1, h2⟩ hne
    · rw [h1, sgn_pos h2]; decide
    · rw [sgn_pos h1, sgn_neg h2]; decide
    · rw [sgn_pos h1, h2]; decide
    · rw [sgn_pos h1, sgn_pos h2]; decide
  omega
/-- The least of some fractions. -/
theorem least_frac {Q : Nat → Prop} (A B : Nat → Int) (hB : ∀ i, Q i → 0 < B i) : ∀ m, (∃ i, i < m ∧ Q i) → ∃ j, j < m ∧ Q j ∧ ∀ i, i < m → Q i → A j * B i ≤ A i * B j
  | 0, ⟨i, hi, _⟩ => absurd hi (Nat.not_lt_zero _)
  | m + 1, hex => by
    by_cases hm : ∃ i, i < m ∧ Q i
    · obtain ⟨j, hj, hQ, hmin⟩ := least_frac A B hB m hm
      by_cases hQm : Q m
      · rcases Int.le_total (A j * B m) (A m * B j) with h1 | h1
        · exact ⟨j, by omega, hQ, fun i hi hQi => by
            rcases Nat.lt_or_eq_of_le (Nat.lt_succ_iff.1 hi) with h2 | rfl
            · exact hmin i h2 hQi
            · exact h1⟩
        · refine ⟨m, Nat.lt_succ_self _, hQm, fun i hi hQi => ?_⟩
          rcases Nat.lt_or_eq_of_le (Nat.lt_succ_iff.1 hi) with h2 | rfl
          · have h3 := hmin i h2 hQi
            have hj0 := hB j hQ; have hi0 := hB i hQi; have hm0 := hB m hQm
            have a1 := Int.mul_le_mul_of_nonneg_right h1 (Int.le_of_lt hi0)
            have a2 := Int.mul_le_mul_of_nonneg_right h3 (Int.le_of_lt hm0)
            have a3 : B j * (A m * B i) ≤ B j * (A i * B m) := by
              have e1 : A m * B j * B i = B j * (A m * B i) := by grind
              have e2 : A i * B j * B m = B j * (A i * B m) := by grind
              have e3 : A j * B i * B m = A j * B m * B i := by grind
              omega
            exact Int.le_of_mul_le_mul_left a3 hj0
          · exact Int.le_refl _
      · exact ⟨j, by omega, hQ, fun i hi hQi => by
          rcases Nat.lt_or_eq_of_le (Nat.lt_succ_iff.1 hi) with h2 | rfl
          · exact hmin i h2 hQi
          · exact absurd hQi hQm⟩
    · obtain ⟨i, hi, hQi⟩ := hex
      obtain rfl : i = m := by
        rcases Nat.lt_or_eq_of_le (Nat.lt_succ_iff.1 hi) with h2 | h2
        · exact absurd ⟨i, h2, hQi⟩ hm
        · exact h2
      exact ⟨i, hi, hQi, fun k hk hQk => by
        rcases Nat.lt_or_eq_of_le (Nat.lt_succ_iff.1 hk) with h2 | rfl
        · exact absurd ⟨k, h2, hQk⟩ hm
        · exact Int.le_refl _⟩
theorem bound_all (f : Nat → Int) : ∀ m, ∃ M : Int, 0 < M ∧ ∀ i, i < m → -M < f i ∧ f i < M
  | 0 => ⟨1, by omega, fun i hi => absurd hi (Nat.not_lt_zero _)⟩
  | m + 1 => by
    obtain ⟨M, h0, h⟩ := bound_all f m
    refine ⟨M + ab (f m) + 1, by unfold ab; split <;> omega, fun i hi => ?_⟩
    rcases Nat.lt_or_eq_of_le (Nat.lt_succ_iff.1 hi) with h2 | rfl
    · have := h i h2; unfold ab; split <;> omega
    · unfold ab; split <;> omega
theorem per_mul (h : ∀ i, P (i + n) = P i) : ∀ q r, P (r + n * q) = P r := fun q => by
  induction q with
  | zero => intro r; rfl
  | succ q ih => intro r; rw [Nat.mul_succ, ← Nat.add_assoc, h, ih]
theorem per_mod1 (h : ∀ i, P (i + n) = P i) (i : Nat) : P (i % n + 1) = P (i + 1) := by
  have := per_mul h (i / n) (i % n + 1)
  rw [← this, show i % n + 1 + n * (i / n) = i % n + n * (i / n) + 1 by omega, Nat.mod_add_div]
/-- A line along a way parts an edge that lies on one side of it from two points of it. -/
theorem sep_side {r b c z w : Pt} (hw : cr r (sb w z) = 0) (h : 0 < cr r (sb b z) * cr r (sb c z)) : Sep b c z w := by
  obtain ⟨s, hs, h1, h2⟩ : ∃ s : Int, (s = 1 ∨ s = -1) ∧ 0 < s * cr r (sb b z) ∧ 0 < s * cr r (sb c z) := by
    rcases Int.lt_trichotomy (cr r (sb b z)) 0 with h1 | h1 | h1
    · exact ⟨-1, .inr rfl, by omega, by have := neg_of' h1 h; omega⟩
    · rw [h1] at h; simp at h
    · exact ⟨1, .inl rfl, by omega, by have := pos_of h1 h; omega⟩
  refine ⟨(-(s * r.2), s * r.1), ?_, ?_, ?_, ?_⟩
  · have : dt (-(s * r.2), s * r.1) (sb b z) = s * cr r (sb b z) := by unfold dt cr sb; grind
    omega
  · have : dt (-(s * r.2), s * r.1) (sb b w) = s * cr r (sb b z) - s * cr r (sb w z) := by unfold dt cr sb; grind
    rw [hw] at this; omega
  · have : dt (-(s * r.2), s * r.1) (sb c z) = s * cr r (sb c z) := by unfold dt cr sb; grind
    omega
  · have : dt (-(s * r.2), s * r.1) (sb c w) = s * cr r (sb c z) - s * cr r (sb w z) := by unfold dt cr sb; grind
    rw [hw] at this; omega
/-- The edge's own line parts it from two points on one side of it. -/
theorem sep_line {b c z w : Pt} (h : 0 < cr (sb c b) (sb b z) * cr (sb c b) (sb b w)) : Sep b c z w := by
  obtain ⟨s, h1, h2⟩ : ∃ s : Int, 0 < s * cr (sb c b) (sb b z) ∧ 0 < s * cr (sb c b) (sb b w) := by
    rcases Int.lt_trichotomy (cr (sb c b) (sb b z)) 0 with h1 | h1 | h1
    · exact ⟨-1, by omega, by have := neg_of' h1 h; omega⟩
    · rw [h1] at h; simp at h
    · exact ⟨1, by omega, by have := pos_of h1 h; omega⟩
  refine ⟨(-(s * (sb c b).2), s * (sb c b).1), ?_, ?_, ?_, ?_⟩
  · have : dt (-(s * (sb c b).2), s * (sb c b).1) (sb b z) = s * cr (sb c b) (sb b z) := by unfold dt cr; grind
    omega
  · have : dt (-(s * (sb c b).2), s * (sb c b).1) (sb b w) = s * cr (sb c b) (sb b w) := by unfold dt cr; grind
    omega
  · have : dt (-(s * (sb c b).2), s * (sb c b).1) (sb c z) = s * cr (sb c b) (sb b z) := by unfold dt cr sb; grind
    omega
  · have : dt (-(s * (sb c b).2), s * (sb c b).1) (sb c w) = s * cr (sb c b) (sb b w) := by unfold dt cr sb; grind
    omega
theorem Poly.scale (hp : Poly P n) {K : Int} (hK : 0 < K) : Poly (fun i => ml K (P i)) n := by
  have e : ∀ l b d : Pt, dt l (sb (ml K b) (ml K d)) = K * dt l (sb b d) := fun l b d => by unfold dt sb ml; grind
  refine ⟨hp.three, fun i => by show ml K (P (i + n)) = _; rw [hp.per], fun i k h1 h2 => ?_, fun i => ?_⟩
  · obtain ⟨l, a1, a2, a3, a4⟩ := hp.apart i k h1 h2
    exact ⟨l, by rw [e]; exact Int.mul_pos hK a1, by rw [e]; exact Int.mul_pos hK a2, by rw [e]; exact Int.mul_pos hK a3, by rw [e]; exact Int.mul_pos hK a4⟩
  · obtain ⟨l, a1, a2⟩ := hp.turn i
    exact ⟨l, by rw [e]; exact Int.mul_pos hK a1, by rw [e]; exact Int.mul_pos hK a2⟩
theorem sb_ml (K : Int) (u v : Pt) : sb (ml K u) (ml K v) = ml K (sb u v) := by unfold sb ml; ext <;> simp [Int.mul_sub]
theorem seen_scale {K : Int} (hK : 0 < K) (z : Pt) (i : Nat) : seen (fun i => ml K (P i)) (ml K z) i = seen P z i := by
  unfold seen; rw [sb_ml, sb_ml, vw_ml2 hK]
theorem TT_scale {K : Int} (hK : 0 < K) (z : Pt) : TT (fun i => ml K (P i)) n (ml K z) = TT P n z := sumZ_congr fun k _ => seen_scale hK z k
theorem Cn_scale {K : Int} (hK : 0 < K) (a : Nat) : Cn (fun i => ml K (P i)) n a = Cn P n a := by
  unfold Cn tau
  rw [TT_scale hK, sb_ml, sb_ml, vw_ml2 hK]
end
end Go.Proofs.Ytomnodpmpdodbaa
