/- The whole turn of a polygon is one turn; a point on an edge sees half of it. -/
import Derived.Test.YtomnodpmpdodbaaTuB
namespace Go.Proofs.Ytomnodpmpdodbaa
section
variable {P : Nat → Pt} {n : Nat}
theorem per_mod (h : ∀ i, P (i + n) = P i) : ∀ i, P i = P (i % n) := fun i => by
  have h2 : ∀ q r, P (r + n * q) = P r := fun q => by
    induction q with
    | zero => intro r; rfl
    | succ q ih => intro r; rw [Nat.mul_succ, ← Nat.add_assoc, h, ih]
  have := h2 (i / n) (i % n)
  rw [Nat.mod_add_div] at this
  exact this
def lexle (u v : Pt) : Prop := u.1 < v.1 ∨ (u.1 = v.1 ∧ u.2 ≤ v.2)
theorem lexle_refl (u : Pt) : lexle u u := .inr ⟨rfl, Int.le_refl _⟩
theorem lexle_trans {u v w : Pt} (h : lexle u v) (h2 : lexle v w) : lexle u w := by unfold lexle at *; omega
theorem lexle_total (u v : Pt) : lexle u v ∨ lexle v u := by unfold lexle; omega
theorem least (P : Nat → Pt) : ∀ m, ∃ a, a ≤ m ∧ ∀ i, i ≤ m → lexle (P a) (P i)
  | 0 => ⟨0, Nat.le_refl _, fun i hi => by rw [Nat.le_zero.1 hi]; exact lexle_refl _⟩
  | m + 1 => by
    obtain ⟨a, ha, h⟩ := least P m
    rcases lexle_total (P a) (P (m + 1)) with h1 | h1
    · exact ⟨a, by omega, fun i hi => by
        rcases Nat.lt_or_eq_of_le hi with h2 | rfl
        · exact h i (by omega)
        · exact h1⟩
    · exact ⟨m + 1, Nat.le_refl _, fun i hi => by
        rcases Nat.lt_or_eq_of_le hi with h2 | rfl
        · exact lexle_trans h1 (h i (by omega))
        · exact lexle_refl _⟩
theorem ne_of_dt {l u v : Pt} (h : 0 < dt l (sb u v)) : u ≠ v := fun e => by rw [e] at h; unfold dt sb at h; simp at h
theorem Poly.distinct (hp : Poly P n) (a k : Nat) (h1 : 1 ≤ k) (h2 : k + 1 ≤ n) : P (a + k) ≠ P a := by
  rcases Nat.lt_or_ge 1 k with h3 | h3
  · rcases Nat.lt_or_ge (k + 1) n with h4 | h4
    · obtain ⟨l, h5, _⟩ := hp.apart a k h3 (by omega)
      exact ne_of_dt h5
    · obtain ⟨l, h5, _⟩ := hp.turn (a + k)
      have := ne_of_dt h5
      rw [show a + k + 1 = a + n by omega, hp.per] at this
      exact fun e => this e.symm
  · obtain rfl : k = 1 := by omega
    obtain ⟨l, h5, _⟩ := hp.turn a
    exact ne_of_dt h5
/-- To the right, or straight up. -/
def HP (u : Pt) : Prop := 0 < u.1 ∨ (u.1 = 0 ∧ 0 < u.2)
def up (u : Pt) : Int := if u.1 = 0 then 1 else 0
theorem vw_HP {u v : Pt} (hu : HP u) (hv : HP v) : vw u v = up v - up u := by
  unfold vw up cr
  rcases hu with hu | ⟨hu, hu2⟩ <;> rcases hv with hv | ⟨hv, hv2⟩
  · rw [sgn_pos hu, sgn_pos hv, if_neg (by omega), if_neg (by omega)]; simp [ab]
  · have h1 := Int.mul_pos hu hv2
    have e : sgn (u.1 * v.2 - u.2 * v.1) = 1 := sgn_pos (by rw [hv, Int.mul_zero]; omega)
    rw [e, sgn_pos hu, hv, if_pos rfl, if_neg (by omega)]; simp [sgn, ab]
  · have h1 := Int.mul_pos hu2 hv
    have e : sgn (u.1 * v.2 - u.2 * v.1) = -1 := sgn_neg (by rw [hu, Int.zero_mul]; omega)
    rw [e, sgn_pos hv, hu, if_pos rfl, if_neg (by omega)]; simp [sgn, ab]
  · rw [hu, hv, if_pos rfl]; simp [sgn, ab]
theorem dt_ng2 (l u : Pt) : dt l (ng u) = -dt l u := by unfold dt ng; grind
theorem sgn_pm {x : Int} (h : x ≠ 0) : sgn x = 1 ∨ sgn x = -1 := by
  rcases Int.lt_or_gt_of_ne h with h | h
  · exact .inr (sgn_neg h)
  · exact .inl (sgn_pos h)
theorem corner_turn {l u v : Pt} (hu : HP u) (hv : HP v) (h1 : 0 < dt l (ng u)) (h2 : 0 < dt l v) : ∃ s : Int, (s = 1 ∨ s = -1) ∧ up u - up v + vw (ng u) v = 2 * s := by
  have h3 : dt l u < 0 := by rw [dt_ng2] at h1; omega
  have hc : cr v u ≠ 0 := fun e => by
    have e3 : cr u v = 0 := by
      have : cr u v = -cr v u := by unfold cr; grind
      omega
    have e1 : u.1 * dt l v = v.1 * dt l u := by
      have : u.1 * dt l v = v.1 * dt l u + l.2 * cr u v := by unfold dt cr; grind
      rw [this, e3]; simp
    have e2 : u.2 * dt l v = v.2 * dt l u := by
      have : u.2 * dt l v = v.2 * dt l u - l.1 * cr u v := by unfold dt cr; grind
      rw [this, e3]; simp
    rcases hu with hu | ⟨hu, hu2⟩
    · have a1 := Int.mul_pos hu h2
      have a2 : v.1 * dt l u ≤ 0 := Int.mul_nonpos_of_nonneg_of_nonpos (by unfold HP at hv; omega) (by omega)
      omega
    · have a1 := Int.mul_pos hu2 h2
      rw [hu, Int.zero_mul] at e1
      rcases hv with hv | ⟨hv, hv2⟩
      · have := Int.mul_neg_of_pos_of_neg hv h3; omega
      · have := Int.mul_neg_of_pos_of_neg hv2 h3; omega
  have hcr : cr (ng u) v = cr v u := by unfold cr ng; grind
  unfold vw up
  rw [hcr]
  have hn : (ng u).1 = -u.1 := rfl
  rw [hn, sgn_neg_]
  rcases hu with hu | ⟨hu, hu2⟩ <;> rcases hv with hv | ⟨hv, hv2⟩
  · refine ⟨sgn (cr v u), sgn_pm hc, ?_⟩
    rw [sgn_pos hu, sgn_pos hv, if_neg (by omega), if_neg (by omega)]
    have : ab (1 - -1) = 2 := by decide
    rw [this]; omega
  · have h4 := Int.mul_pos hv2 hu
    have e : sgn (cr v u) = -1 := sgn_neg (by unfold cr; rw [hv, Int.zero_mul]; omega)
    refine ⟨-1, .inr rfl, ?_⟩
    rw [e, sgn_pos hu, hv, if_neg (by omega), if_pos rfl]; simp [sgn, ab]
  · have h4 := Int.mul_pos hv hu2
    have e : sgn (cr v u) = 1 := sgn_pos (by unfold cr; rw [hu, Int.mul_zero]; omega)
    refine ⟨1, .inl rfl, ?_⟩
    rw [e, sgn_pos hv, hu, if_pos rfl, if_neg (by omega)]; simp [sgn, ab]
  · exact absurd (by unfold cr; rw [hu, hv]; simp) hc
theorem HP_of {u v : Pt} (h : lexle v u) (hne : u ≠ v) : HP (sb u v) := by
  unfold lexle at h; unfold HP sb
  have : ¬ (u.1 = v.1 ∧ u.2 = v.2) := fun ⟨a, b⟩ => hne (Prod.ext a b)
  simp only
  omega
/-- A polygon turns once about itself. -/
theorem Cn_two (hp : Poly P n) : ∃ s : Int, (s = 1 ∨ s = -1) ∧ Cn P n 0 = 2 * s := by
  obtain ⟨m, rfl⟩ : ∃ m, n = m + 3 := ⟨n - 3, by have := hp.three; omega⟩
  have hper := hp.per
  obtain ⟨a, _, ha⟩ := least P (m + 3)
  have hle : ∀ i, lexle (P a) (P i) := fun i => by
    rw [per_mod hper i]
    exact ha _ (Nat.le_of_lt (Nat.mod_lt _ (by omega)))
  have hD : ∀ k, 1 ≤ k → k + 1 ≤ m + 3 → HP (sb (P (a + k)) (P a)) := fun k h1 h2 => HP_of (hle _) (hp.distinct a k h1 h2)
  have hT : TT P (m + 3) (P a) = up (sb (P (a + (m + 2))) (P a)) - up (sb (P (a + 1)) (P a)) := by
    rw [TT_vertex hper]
    have h1 : ∀ k, k < m + 1 → seen P (P a) (a + (k + 1)) = up (sb (P (a + ((k + 1) + 1))) (P a)) - up (sb (P (a + (k + 1))) (P a)) := fun k hk => by
      unfold seen
      rw [show a + (k + 1) + 1 = a + (k + 1 + 1) by omega]
      exact vw_HP (hD (k + 1) (by omega) (by omega)) (hD (k + 1 + 1) (by omega) (by omega))
    rw [sumZ_congr h1, sumZ_tel (fun k => up (sb (P (a + (k + 1))) (P a)))]
  have hq : P (a + (m + 2) + 1) = P a := by rw [show a + (m + 2) + 1 = a + (m + 3) by omega, hper]
  have hq2 : P (a + (m + 2) + 2) = P (a + 1) := by rw [show a + (m + 2) + 2 = a + 1 + (m + 3) by omega, hper]
  obtain ⟨l, l1, l2⟩ := hp.turn (a + (m + 2))
  rw [hq, hq2] at l2
  rw [hq] at l1
  obtain ⟨s, hs, he⟩ := corner_turn (l := l) (hD (m + 2) (by omega) (by omega)) (hD 1 (by omega) (by omega)) (by rw [sb_ng]; exact l1) l2
  refine ⟨s, hs, ?_⟩
  rw [← Cn_all hp (a + (m + 2)), ← he]
  unfold Cn tau
  rw [hq, hq2, hT, sb_ng]
/-- A point in an edge. -/
def Inner (z b c : Pt) : Prop := ∃ k m : Int, 0 < m ∧ m < k ∧ ml k (sb z b) = ml m (sb c b)
theorem inner_dt {z b c l q : Pt} (h : Inner z b c) (h1 : 0 < dt l (sb q b)) (h2 : 0 < dt l (sb q c)) : 0 < dt l (sb q z) := by
  obtain ⟨k, m, hm, hk, e⟩ := h
  have e1 : k * (z.1 - b.1) = m * (c.1 - b.1) := congrArg (fun z => z.1) e
  have e2 : k * (z.2 - b.2) = m * (c.2 - b.2) := congrArg (fun z => z.2) e
  have h3 : k * dt l (sb q z) = (k - m) * dt l (sb q b) + m * dt l (sb q c) := by unfold dt sb; grind
  have a1 := Int.mul_pos (show 0 < k - m by omega) h1
  have a2 := Int.mul_pos hm h2
  exact pos_of (show 0 < k by omega) (by omega)
theorem inner_dir {z b c l : Pt} (h : Inner z b c) (h1 : 0 < dt l (sb c b)) : 0 < dt l (sb z b) ∧ 0 < dt l (sb c z) := by
  obtain ⟨k, m, hm, hk, e⟩ := h
  have e1 : k * (z.1 - b.1) = m * (c.1 - b.1) := congrArg (fun z => z.1) e
  have e2 : k * (z.2 - b.2) = m * (c.2 - b.2) := congrArg (fun z => z.2) e
  have h3 : k * dt l (sb z b) = m * dt l (sb c b) := by unfold dt sb; grind
  have h4 : k * dt l (sb c z) = (k - m) * dt l (sb c b) := by unfold dt sb; grind
  have a1 := Int.mul_pos hm h1
  have a2 := Int.mul_pos (show 0 < k - m by omega) h1
  exact ⟨pos_of (show 0 < k by omega) (by omega), pos_of (show 0 < k by omega) (by omega)⟩
theorem inner_par {z b c : Pt} (h : Inner z b c) : cr (sb b z) (sb c z) = 0 ∧ cr (sb c b) (sb c z) = 0 := by
  obtain ⟨k, m, hm, hk, e⟩ := h
  have e1 : k * (z.1 - b.1) = m * (c.1 - b.1) := congrArg (fun z => z.1) e
  have e2 : k * (z.2 - b.2) = m * (c.2 - b.2) := congrArg (fun z => z.2) e
  have hk0 : k ≠ 0 := by omega
  have h1 : k * cr (sb c b) (sb c z) = 0 := by unfold cr sb; grind
  have h2 : k * cr (sb b z) (sb c z) = 0 := by unfold cr sb; grind
  exact ⟨(Int.mul_eq_zero.1 h2).resolve_left hk0, (Int.mul_eq_zero.1 h1).resolve_left hk0⟩
theorem inner_vw {z b c u : Pt} (h : Inner z b c) : vw u (sb z b) = vw u (sb c b) := by
  obtain ⟨k, m, hm, hk, e⟩ := h
  rw [← vw_ml (show 0 < k by omega), e, vw_ml hm]
/-- The ways to a corner and to a point of the next edge. -/
theorem TT_inner (hp : Poly P n) {z : Pt} {j : Nat} (h : Inner z (P j) (P (j + 1))) : TT P n z = Cn P n 0 := by
  obtain ⟨m, rfl⟩ : ∃ m, n = m + 3 := ⟨n - 3, by have := hp.three; omega⟩
  have hper := hp.per
  have hq : P (j + (m + 2) + 1) = P j := by rw [show j + (m + 2) + 1 = j + (m + 3) by omega, hper]
  have hq2 : P (j + (m + 2) + 2) = P (j + 1) := by rw [show j + (m + 2) + 2 = j + 1 + (m + 3) by omega, hper]
  let W : Nat → Int := fun i => vw (sb (P i) (P j)) (sb (P i) z)
  have hsep : ∀ k, k < m + 1 → Sep (P (j + (k + 1))) (P (j + (k + 1) + 1)) (P j) z := fun k hk => by
    rcases Nat.eq_zero_or_pos k with rfl | h0
    · obtain ⟨l, l1, l2⟩ := hp.turn j
      have l3 := inner_dir h l1
      refine ⟨l, l1, l3.2, ?_, ?_⟩
      · have : dt l (sb (P (j + 2)) (P j)) = dt l (sb (P (j + 2)) (P (j + 1))) + dt l (sb (P (j + 1)) (P j)) := by unfold dt sb; grind
        show 0 < dt l (sb (P (j + 2)) (P j)); omega
      · have : dt l (sb (P (j + 2)) z) = dt l (sb (P (j + 2)) (P (j + 1))) + dt l (sb (P (j + 1)) z) := by unfold dt sb; grind
        show 0 < dt l (sb (P (j + 2)) z); omega
    · obtain ⟨l, l1, l2, l3, l4⟩ := hp.apart j (k + 1) (by omega) (by omega)
      exact ⟨l, l1, inner_dt h l1 l2, l3, inner_dt h l3 l4⟩
  have hcell : ∀ k, k < m + 1 → seen P z (j + (k + 1)) = seen P (P j) (j + (k + 1)) + (W (j + ((k + 1) + 1)) - W (j + (k + 1))) := fun k hk => by
    have := cell (hsep k hk)
    show vw _ _ = vw _ _ + (vw _ _ - vw _ _)
    rw [this, show j + (k + 1) + 1 = j + (k + 1 + 1) by omega]
    omega
  have h0 : seen P z (j + 0) = 0 := vw_par (inner_par h).1
  rw [TT_at hper z j, show sumZ (fun k => seen P z (j + k)) (m + 3) = sumZ (fun k => seen P z (j + k)) (m + 2) + seen P z (j + (m + 2)) from rfl, sumZ_front, h0, sumZ_congr hcell, sumZ_add, sumZ_tel (fun k => W (j + (k + 1))), ← TT_vertex hper j]
  have hW1 : W (j + (0 + 1)) = 0 := vw_par (inner_par h).2
  obtain ⟨l, l1, l2⟩ := hp.turn (j + (m + 2))
  rw [hq, hq2] at l2
  rw [hq] at l1
  have ht := tri_back (P (j + (m + 2))) (P j) z ⟨l, l1, (inner_dir h l2).1⟩
  rw [inner_vw h] at ht
  have hs : seen P z (j + (m + 2)) = vw (sb (P (j + (m + 2))) z) (sb (P j) z) := by unfold seen; rw [hq]
  have hW : W (j + (m + 1 + 1)) = vw (sb (P (j + (m + 2))) (P j)) (sb (P (j + (m + 2))) z) := rfl
  rw [hW1, hW, hs, ← Cn_all hp (j + (m + 2))]
  unfold Cn tau
  rw [hq, hq2]
  omega
end
end Go.Proofs.Ytomnodpmpdodbaa
