/- Plain facts on powers of ratios, with no program in sight. -/
namespace Go.Proofs.Ytdfmngnhmiemgaa
/-- The greatest number of a ratio. -/
def M : Int := 1125899906842624
def badP (num den k : Int) : Prop := den < 1 ∨ num < den ∨ 1000000 < num ∨ k < 0 ∨ 512 < k
instance (num den k : Int) : Decidable (badP num den k) := by unfold badP; infer_instance
def powE (num den k : Int) : Int := if badP num den k then 1 else if M < num ^ k.toNat then 2 else 0
def powN (num den k : Int) : Int := if powE num den k = 0 then num ^ k.toNat else 0
def powD (num den k : Int) : Int := if powE num den k = 0 then den ^ k.toNat else 0
theorem pow_bad {num den k : Int} (h : badP num den k) : powE num den k = 1 ∧ powN num den k = 0 ∧ powD num den k = 0 := by
  have h1 : powE num den k = 1 := if_pos h
  exact ⟨h1, by rw [powN, h1]; rfl, by rw [powD, h1]; rfl⟩
theorem pow_over {num den k : Int} (h : ¬ badP num den k) (h2 : M < num ^ k.toNat) : powE num den k = 2 ∧ powN num den k = 0 ∧ powD num den k = 0 := by
  have h1 : powE num den k = 2 := by rw [powE, if_neg h, if_pos h2]
  exact ⟨h1, by rw [powN, h1]; rfl, by rw [powD, h1]; rfl⟩
theorem pow_ok {num den k : Int} (h : ¬ badP num den k) (h2 : num ^ k.toNat ≤ M) : powE num den k = 0 ∧ powN num den k = num ^ k.toNat ∧ powD num den k = den ^ k.toNat := by
  have h1 : powE num den k = 0 := by rw [powE, if_neg h, if_neg (by omega)]
  exact ⟨h1, by rw [powN, h1]; rfl, by rw [powD, h1]; rfl⟩
theorem ppos {x : Int} (hx : 1 ≤ x) (k : Nat) : 1 ≤ x ^ k := by
  induction k with
  | zero => simp
  | succ k ih =>
    rw [Int.pow_succ]
    have h1 := Int.mul_le_mul ih hx (by omega) (by omega)
    omega
theorem pow_le_pow {x y : Int} (hx : 1 ≤ x) (hxy : x ≤ y) (k : Nat) : x ^ k ≤ y ^ k := by
  induction k with
  | zero => simp
  | succ k ih =>
    rw [Int.pow_succ, Int.pow_succ]
    have := ppos (by omega : 1 ≤ y) k
    exact Int.mul_le_mul ih hxy (by omega) (by omega)
theorem pow_mono {x : Int} (hx : 1 ≤ x) {j k : Nat} (h : j ≤ k) : x ^ j ≤ x ^ k := by
  obtain ⟨d, rfl⟩ := Nat.exists_eq_add_of_le h
  rw [Int.pow_add]
  have h1 := ppos hx j
  have h2 := ppos hx d
  have h3 := Int.mul_le_mul_of_nonneg_left h2 (show (0 : Int) ≤ x ^ j by omega)
  omega
theorem mul_over {p x : Int} (hx : 1 ≤ x) : M / x < p ↔ M < p * x := by
  constructor
  · intro h
    have h1 := Int.lt_ediv_add_one_mul_self M (show 0 < x by omega)
    have h2 : (M / x + 1) * x ≤ p * x := Int.mul_le_mul_of_nonneg_right (by omega) (by omega)
    omega
  · intro h
    have h1 := Int.ediv_mul_le M (show x ≠ 0 by omega)
    have h2 : ¬ p ≤ M / x := fun h3 => by
      have := Int.mul_le_mul_of_nonneg_right h3 (show 0 ≤ x by omega)
      omega
    omega
end Go.Proofs.Ytdfmngnhmiemgaa
