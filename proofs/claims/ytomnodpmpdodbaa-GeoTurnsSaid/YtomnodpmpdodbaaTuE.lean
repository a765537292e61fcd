/- A point that lies on no edge sees a whole turn or none: the ray. -/
import Derived.Test.YtomnodpmpdodbaaTuD
namespace Go.Proofs.Ytomnodpmpdodbaa
section
variable {P : Nat → Pt} {n : Nat}
theorem ab_pos {x : Int} (h : 0 ≤ x) : ab x = x := by unfold ab; rw [if_neg (by omega)]
theorem ab_npos {x : Int} (h : x ≤ 0) : ab x = -x := by unfold ab; split <;> omega
theorem ab_pm {x : Int} (h : x ≠ 0) : 0 < ab x := by unfold ab; split <;> omega
theorem opp {x y : Int} (h : x * y < 0) (h2 : 0 < y - x) : x < 0 ∧ 0 < y := by
  rcases Int.lt_trichotomy x 0 with h1 | h1 | h1
  · exact ⟨h1, pos_of' h1 h⟩
  · rw [h1] at h; simp at h
  · have := neg_of h1 h; omega
theorem inner_hit {r z b c : Pt} {K A : Int} (hc : cr r (sb b z) * cr r (sb c z) < 0) (hq : 0 < cr (sb b z) (sb c z) * (cr r (sb c z) - cr r (sb b z))) (he : A * ab (cr r (sb c z) - cr r (sb b z)) = ab (cr (sb b z) (sb c z)) * K) : Inner (ad (ml K z) (ml A r)) (ml K b) (ml K c) := by
  have i1 : cr (sb b z) (sb c z) * r.1 = cr r (sb c z) * (b.1 - z.1) - cr r (sb b z) * (c.1 - z.1) := by unfold cr sb; grind
  have i2 : cr (sb b z) (sb c z) * r.2 = cr r (sb c z) * (b.2 - z.2) - cr r (sb b z) * (c.2 - z.2) := by unfold cr sb; grind
  obtain ⟨x, hx⟩ : ∃ x, cr r (sb b z) = x := ⟨_, rfl⟩
  obtain ⟨y, hy⟩ : ∃ y, cr r (sb c z) = y := ⟨_, rfl⟩
  obtain ⟨N, hN⟩ : ∃ N, cr (sb b z) (sb c z) = N := ⟨_, rfl⟩
  rw [hx, hy, hN] at i1 i2 hq he
  rw [hx, hy] at hc
  rcases Int.lt_trichotomy (y - x) 0 with h1 | h1 | h1
  · have hN2 : N < 0 := neg_of' h1 (by rw [Int.mul_comm]; exact hq)
    obtain ⟨o1, o2⟩ := opp (x := y) (y := x) (by rw [Int.mul_comm]; exact hc) (by omega)
    rw [ab_npos (by omega), ab_npos (by omega)] at he
    refine ⟨x - y, x, by omega, by omega, ?_⟩
    unfold ml sb ad
    simp only
    ext
    · show (x - y) * (K * z.1 + A * r.1 - K * b.1) = x * (K * c.1 - K * b.1); grind
    · show (x - y) * (K * z.2 + A * r.2 - K * b.2) = x * (K * c.2 - K * b.2); grind
  · rw [h1, Int.mul_zero] at hq; omega
  · have hN2 : 0 < N := pos_of h1 (by rw [Int.mul_comm]; exact hq)
    obtain ⟨o1, o2⟩ := opp hc h1
    rw [ab_pos (by omega), ab_pos (by omega)] at he
    refine ⟨y - x, -x, by omega, by omega, ?_⟩
    unfold ml sb ad
    simp only
    ext
    · show (y - x) * (K * z.1 + A * r.1 - K * b.1) = -x * (K * c.1 - K * b.1); grind
    · show (y - x) * (K * z.2 + A * r.2 - K * b.2) = -x * (K * c.2 - K * b.2); grind
/-- An edge that is met behind z, or only later. -/
theorem sep_hit {r z b c : Pt} {K A : Int} (hK : 0 < K) (h : 0 < K * (cr (sb b z) (sb c z) * cr (sb b z) (sb c z)) - A * (cr (sb b z) (sb c z) * (cr r (sb c z) - cr r (sb b z)))) : Sep (ml K b) (ml K c) (ml K z) (ad (ml K z) (ml A r)) := by
  refine sep_line ?_
  have e : cr (sb (ml K c) (ml K b)) (sb (ml K b) (ml K z)) * cr (sb (ml K c) (ml K b)) (sb (ml K b) (ad (ml K z) (ml A r))) = (K * K * K) * (K * (cr (sb b z) (sb c z) * cr (sb b z) (sb c z)) - A * (cr (sb b z) (sb c z) * (cr r (sb c z) - cr r (sb b z)))) := by
    have e1 : cr (sb (ml K c) (ml K b)) (sb (ml K b) (ml K z)) = -(K * K * cr (sb b z) (sb c z)) := by unfold cr sb ml; grind
    have e2 : cr (sb (ml K c) (ml K b)) (sb (ml K b) (ad (ml K z) (ml A r))) = K * (-(K * cr (sb b z) (sb c z)) + A * (cr r (sb c z) - cr r (sb b z))) := by unfold cr sb ml ad; grind
    rw [e1, e2]; grind
  rw [e]
  exact Int.mul_pos (Int.mul_pos (Int.mul_pos hK hK) hK) h
theorem sep_side_ml {r z b c : Pt} {K A : Int} (hK : 0 < K) (h : 0 < cr r (sb b z) * cr r (sb c z)) : Sep (ml K b) (ml K c) (ml K z) (ad (ml K z) (ml A r)) := by
  refine sep_side (r := r) (by unfold cr sb ml ad; grind) ?_
  have e : cr r (sb (ml K b) (ml K z)) * cr r (sb (ml K c) (ml K z)) = (K * K) * (cr r (sb b z) * cr r (sb c z)) := by unfold cr sb ml; grind
  rw [e]
  exact Int.mul_pos (Int.mul_pos hK hK) h
/-- A point in two edges: there is none. -/
theorem not_two (hp : Poly P n) {w : Pt} {j k : Nat} (hk : k + 2 ≤ n) (h1 : Inner w (P j) (P (j + 1))) (h2 : Inner w (P (j + (k + 1))) (P (j + (k + 1) + 1))) : False := by
  have nil : ∀ l, dt l (sb w w) = 0 := fun l => by unfold dt sb; simp
  rcases Nat.eq_zero_or_pos k with rfl | h0
  · obtain ⟨l, l1, l2⟩ := hp.turn j
    have a1 := (inner_dir h1 l1).2
    have a2 := (inner_dir h2 l2).1
    have : dt l (sb w w) = dt l (sb w (P (j + (0 + 1)))) + dt l (sb (P (j + 1)) w) := by rw [show j + (0 + 1) = j + 1 by omega]; unfold dt sb; grind
    rw [nil] at this; omega
  · rcases Nat.lt_or_ge (k + 2) n with h3 | h3
    · obtain ⟨l, l1, l2, l3, l4⟩ := hp.apart j (k + 1) (by omega) (by omega)
      have a1 := inner_dt h1 l1 l2
      have a2 := inner_dt h1 l3 l4
      have e1 : dt (ng l) (sb w (P (j + (k + 1)))) = dt l (sb (P (j + (k + 1))) w) := by unfold dt ng sb; grind
      have e2 : dt (ng l) (sb w (P (j + (k + 1) + 1))) = dt l (sb (P (j + (k + 1) + 1)) w) := by unfold dt ng sb; grind
      have := inner_dt (l := ng l) (q := w) h2 (by omega) (by omega)
      have e3 : dt (ng l) (sb w w) = 0 := nil _
      omega
    · have e : j + (k + 1) + 1 = j + n := by omega
      obtain ⟨l, l1, l2⟩ := hp.turn (j + (k + 1))
      rw [e, hp.per] at l1 h2
      rw [show j + (k + 1) + 2 = j + 1 + n by omega, hp.per, e, hp.per] at l2
      have a1 := (inner_dir h2 l1).2
      have a2 := (inner_dir h1 l2).1
      have : dt l (sb w w) = dt l (sb w (P j)) + dt l (sb (P j) w) := by unfold dt sb; grind
      rw [nil] at this; omega
theorem ab_mul {x y : Int} (h : 0 < x * y) : x * y = ab x * ab y := by
  rcases Int.lt_trichotomy x 0 with h1 | h1 | h1
  · have := neg_of' h1 h
    rw [ab_npos (by omega), ab_npos (by omega)]; grind
  · rw [h1] at h; simp at h
  · have := pos_of h1 h
    rw [ab_pos (by omega), ab_pos (by omega)]
theorem ab_sq (x : Int) : x * x = ab x * ab x := by unfold ab; split <;> grind
set_option maxHeartbeats 1000000 in
theorem TT_off (hp : Poly P n) (z : Pt) (hoff : ∀ i, ¬ (cr (sb (P i) z) (sb (P (i + 1)) z) = 0 ∧ dt (sb (P i) z) (sb (P (i + 1)) z) ≤ 0)) :
    TT P n z = 0 ∨ ∃ s : Int, (s = 1 ∨ s = -1) ∧ TT P n z = Cn P n 0 + 2 * s := by
  have hper := hp.per
  have hn3 := hp.three
  obtain ⟨M, hM, hb⟩ := bound_all (fun i => (P i).2 - z.2) n
  have hb2 : ∀ i, -M < (P i).2 - z.2 ∧ (P i).2 - z.2 < M := fun i => by
    rw [per_mod hper i]; exact hb _ (Nat.mod_lt _ (by omega))
  obtain ⟨r, hr⟩ : ∃ r : Pt, r = (1, M) := ⟨_, rfl⟩
  have hal : ∀ i, cr r (sb (P i) z) ≠ 0 := fun i e => by
    have e1 : (P i).2 - z.2 = M * ((P i).1 - z.1) := by rw [hr] at e; unfold cr sb at e; simp at e; omega
    have h1 := hb2 i
    rcases Int.lt_trichotomy ((P i).1 - z.1) 0 with h2 | h2 | h2
    · have : M * ((P i).1 - z.1) ≤ M * (-1) := Int.mul_le_mul_of_nonneg_left (by omega) (by omega)
      omega
    · rw [h2, Int.mul_zero] at e1
      have e2 : sb (P i) z = (0, 0) := by unfold sb; rw [e1, h2]
      exact hoff i ⟨by rw [e2]; unfold cr; simp, by rw [e2]; unfold dt; simp⟩
    · have : M * 1 ≤ M * ((P i).1 - z.1) := Int.mul_le_mul_of_nonneg_left (by omega) (by omega)
      omega
  have hN0 : ∀ i, cr r (sb (P i) z) * cr r (sb (P (i + 1)) z) < 0 → cr (sb (P i) z) (sb (P (i + 1)) z) ≠ 0 := fun i hc e => by
    refine hoff i ⟨e, ?_⟩
    obtain ⟨u, hu⟩ : ∃ u, sb (P i) z = u := ⟨_, rfl⟩
    obtain ⟨v, hv⟩ : ∃ v, sb (P (i + 1)) z = v := ⟨_, rfl⟩
    rw [hu, hv] at hc e ⊢
    have e1 : cr r u * v.1 = cr r v * u.1 := by
      have h : cr r u * v.1 = cr r v * u.1 - cr u v * r.1 := by unfold cr; grind
      rw [h, e]; simp
    have e2 : cr r u * v.2 = cr r v * u.2 := by
      have h : cr r u * v.2 = cr r v * u.2 - cr u v * r.2 := by unfold cr; grind
      rw [h, e]; simp
    have h1 : (cr r u * cr r u) * dt u v = (cr r u * cr r v) * dt u u := by unfold dt; grind
    have h2 : 0 ≤ dt u u := by unfold dt; have := sq_nn u.1; have := sq_nn u.2; omega
    have h3 : (cr r u * cr r v) * dt u u ≤ 0 := Int.mul_nonpos_of_nonpos_of_nonneg (Int.le_of_lt hc) h2
    have h4 : cr r u ≠ 0 := fun e => by rw [e] at hc; simp at hc
    exact np_of (sq_pos h4) (by omega)
  let Q : Nat → Prop := fun i => cr r (sb (P i) z) * cr r (sb (P (i + 1)) z) < 0 ∧ 0 < cr (sb (P i) z) (sb (P (i + 1)) z) * (cr r (sb (P (i + 1)) z) - cr r (sb (P i) z))
  let A : Nat → Int := fun i => ab (cr (sb (P i) z) (sb (P (i + 1)) z))
  let B : Nat → Int := fun i => ab (cr r (sb (P (i + 1)) z) - cr r (sb (P i) z))
  have hQm : ∀ i, Q i → Q (i % n) ∧ A (i % n) = A i ∧ B (i % n) = B i := fun i h => by
    have e1 : P (i % n) = P i := (per_mod hper i).symm
    have e2 := per_mod1 hper i
    refine ⟨?_, ?_, ?_⟩
    · show cr r (sb (P (i % n)) z) * cr r (sb (P (i % n + 1)) z) < 0 ∧ 0 < cr (sb (P (i % n)) z) (sb (P (i % n + 1)) z) * (cr r (sb (P (i % n + 1)) z) - cr r (sb (P (i % n)) z))
      rw [e1, e2]; exact h
    · show ab (cr (sb (P (i % n)) z) (sb (P (i % n + 1)) z)) = _; rw [e1, e2]
    · show ab (cr r (sb (P (i % n + 1)) z) - cr r (sb (P (i % n)) z)) = _; rw [e1, e2]
  have hDn : ∀ i, cr r (sb (P i) z) * cr r (sb (P (i + 1)) z) < 0 → cr r (sb (P (i + 1)) z) - cr r (sb (P i) z) ≠ 0 := fun i hc e => by
    have e2 : cr r (sb (P (i + 1)) z) = cr r (sb (P i) z) := by omega
    rw [e2] at hc
    have := sq_nn (cr r (sb (P i) z)); omega
  by_cases hex : ∃ i, i < n ∧ Q i
  case neg =>
    have hno : ∀ i, ¬ Q i := fun i h => hex ⟨i % n, Nat.mod_lt _ (by omega), (hQm i h).1⟩
    obtain ⟨X, hX, hx⟩ := bound_all (fun i => (P i).1 - z.1) n
    have hx2 : ∀ i, (P i).1 - z.1 < X := fun i => by
      rw [per_mod hper i]; exact (hx _ (Nat.mod_lt _ (by omega))).2
    have hsep : ∀ i, Sep (P i) (P (i + 1)) z (ad (ml 1 z) (ml X r)) := fun i => by
      have e1 : ∀ u : Pt, ml 1 u = u := fun u => by unfold ml; simp
      have key : Sep (ml 1 (P i)) (ml 1 (P (i + 1))) (ml 1 z) (ad (ml 1 z) (ml X r)) := by
        rcases Int.lt_trichotomy (cr r (sb (P i) z) * cr r (sb (P (i + 1)) z)) 0 with h1 | h1 | h1
        · refine sep_hit (by omega) ?_
          have h2 : ¬ 0 < cr (sb (P i) z) (sb (P (i + 1)) z) * (cr r (sb (P (i + 1)) z) - cr r (sb (P i) z)) := fun h => hno i ⟨h1, h⟩
          have h3 := sq_pos (hN0 i h1)
          have h4 : X * (cr (sb (P i) z) (sb (P (i + 1)) z) * (cr r (sb (P (i + 1)) z) - cr r (sb (P i) z))) ≤ 0 := Int.mul_nonpos_of_nonneg_of_nonpos (by omega) (by omega)
          omega
        · exact absurd (Int.mul_eq_zero.1 h1) (fun h => h.elim (hal i) (hal (i + 1)))
        · exact sep_side_ml (by omega) h1
      rw [e1, e1, e1] at key
      rwa [e1]
    refine .inl ?_
    rw [← TT_move hper hsep]
    have h0 : ∀ k, k < n → seen P (ad (ml 1 z) (ml X r)) k = (fun _ => (0 : Int)) k := fun k _ => by
      have hneg : ∀ i, 0 < dt (-1, 0) (sb (P i) (ad (ml 1 z) (ml X r))) := fun i => by
        have h1 := hx2 i
        rw [hr]; unfold dt sb ad ml; simp; omega
      show vw _ _ = 0
      rw [vw_half (hneg k) (hneg (k + 1))]; simp [sgn]
    unfold TT
    rw [sumZ_congr h0, sumZ_zero]
  obtain ⟨j, hj, hQj, hmin⟩ := least_frac (Q := Q) A B (fun i h => ab_pm (hDn i h.1)) n hex
  have hmin2 : ∀ i, Q i → A j * B i ≤ A i * B j := fun i h => by
    obtain ⟨q1, q2, q3⟩ := hQm i h
    have := hmin _ (Nat.mod_lt _ (by omega)) q1
    rwa [q2, q3] at this
  have hK : 0 < B j := ab_pm (hDn j hQj.1)
  have hp' := hp.scale hK
  have hin : Inner (ad (ml (B j) z) (ml (A j) r)) (ml (B j) (P j)) (ml (B j) (P (j + 1))) := inner_hit hQj.1 hQj.2 rfl
  have hTw := TT_inner (P := fun i => ml (B j) (P i)) hp' (j := j) hin
  rw [Cn_scale hK] at hTw
  have hsep : ∀ k, k + 2 ≤ n → Sep (ml (B j) (P (j + (k + 1)))) (ml (B j) (P (j + (k + 1) + 1))) (ml (B j) z) (ad (ml (B j) z) (ml (A j) r)) := fun k hk => by
    obtain ⟨i, hi⟩ : ∃ i, j + (k + 1) = i := ⟨_, rfl⟩
    have hne : ¬ (Q i ∧ A j * B i = A i * B j) := fun ⟨h1, h2⟩ => by
      have := inner_hit (K := B j) (A := A j) h1.1 h1.2 h2
      rw [← hi] at this
      exact not_two (P := fun i => ml (B j) (P i)) hp' hk hin this
    rw [hi]
    rcases Int.lt_trichotomy (cr r (sb (P i) z) * cr r (sb (P (i + 1)) z)) 0 with h1 | h1 | h1
    · refine sep_hit hK ?_
      have h3 := sq_pos (hN0 i h1)
      by_cases h2 : 0 < cr (sb (P i) z) (sb (P (i + 1)) z) * (cr r (sb (P (i + 1)) z) - cr r (sb (P i) z))
      · have h4 := hmin2 i ⟨h1, h2⟩
        have h5 : A j * B i ≠ A i * B j := fun e => hne ⟨⟨h1, h2⟩, e⟩
        have hA0 : 0 < A i := ab_pm (hN0 i h1)
        have h6 : 0 < A i * (A i * B j - A j * B i) := Int.mul_pos hA0 (by omega)
        have h7 : cr (sb (P i) z) (sb (P (i + 1)) z) * cr (sb (P i) z) (sb (P (i + 1)) z) = A i * A i := ab_sq _
        have h8 : cr (sb (P i) z) (sb (P (i + 1)) z) * (cr r (sb (P (i + 1)) z) - cr r (sb (P i) z)) = A i * B i := ab_mul h2
        rw [h7, h8]
        have : B j * (A i * A i) - A j * (A i * B i) = A i * (A i * B j - A j * B i) := by grind
        omega
      · have hA0 : 0 ≤ A j := by have : 0 < A j := ab_pm (hN0 j hQj.1); omega
        have h4 : A j * (cr (sb (P i) z) (sb (P (i + 1)) z) * (cr r (sb (P (i + 1)) z) - cr r (sb (P i) z))) ≤ 0 := Int.mul_nonpos_of_nonneg_of_nonpos hA0 (by omega)
        have h5 := Int.mul_pos hK h3
        omega
    · exact absurd (Int.mul_eq_zero.1 h1) (fun h => h.elim (hal i) (hal (i + 1)))
    · exact sep_side_ml hK h1
  obtain ⟨m, rfl⟩ : ∃ m, n = m + 1 := ⟨n - 1, by omega⟩
  obtain ⟨w, hw⟩ : ∃ w, ad (ml (B j) z) (ml (A j) r) = w := ⟨_, rfl⟩
  obtain ⟨Z, hZ⟩ : ∃ Z, ml (B j) z = Z := ⟨_, rfl⟩
  rw [hw] at hin hTw hsep
  rw [hZ] at hsep
  have hTz : TT (fun i => ml (B j) (P i)) (m + 1) Z = TT P (m + 1) z := by rw [← hZ]; exact TT_scale hK z
  obtain ⟨Pp, hPp⟩ : ∃ Pp, (fun i => ml (B j) (P i)) = Pp := ⟨_, rfl⟩
  have hPi : ∀ i, ml (B j) (P i) = Pp i := fun i => by rw [← hPp]
  rw [hPp] at hTz hTw hp'
  rw [hPi, hPi] at hin
  simp only [hPi] at hsep
  have hper' := hp'.per
  let U : Nat → Int := fun i => vw (sb (Pp i) Z) (sb (Pp i) w)
  have hcell : ∀ k, k < m → seen Pp w (j + (k + 1)) = seen Pp Z (j + (k + 1)) + (U (j + ((k + 1) + 1)) - U (j + (k + 1))) := fun k hk => by
    have := cell (hsep k (by omega))
    show vw _ _ = vw _ _ + (vw _ _ - vw _ _)
    rw [this, show j + (k + 1) + 1 = j + (k + 1 + 1) by omega]
    omega
  have hw0 : seen Pp w (j + 0) = 0 := vw_par (inner_par hin).1
  have e1 : TT Pp (m + 1) w = sumZ (fun k => seen Pp Z (j + (k + 1))) m + (U (j + (m + 1)) - U (j + 1)) := by
    rw [TT_at hper' w j, sumZ_front, hw0, sumZ_congr hcell, sumZ_add, sumZ_tel (fun k => U (j + (k + 1))), show j + (0 + 1) = j + 1 from rfl]
    omega
  have e2 : TT Pp (m + 1) Z = seen Pp Z j + sumZ (fun k => seen Pp Z (j + (k + 1))) m := by
    rw [TT_at hper' Z j, sumZ_front]; rfl
  have e3 : U (j + (m + 1)) = U j := by show vw _ _ = vw _ _; rw [hper']
  have hcr : cr (sb (Pp j) Z) (sb (Pp (j + 1)) Z) ≠ 0 := fun e => by
    have h1 : cr (sb (Pp j) Z) (sb (Pp (j + 1)) Z) = (B j * B j) * cr (sb (P j) z) (sb (P (j + 1)) z) := by rw [← hPi, ← hPi, ← hZ]; unfold cr sb ml; grind
    rw [h1] at e
    rcases Int.mul_eq_zero.1 e with h2 | h2
    · have := Int.mul_pos hK hK; omega
    · exact hN0 j hQj.1 h2
  obtain ⟨kk, mm, hm0, hmk, hie⟩ := hin
  have f1 : kk * (w.1 - (Pp j).1) = mm * ((Pp (j + 1)).1 - (Pp j).1) := congrArg (fun z => z.1) hie
  have f2 : kk * (w.2 - (Pp j).2) = mm * ((Pp (j + 1)).2 - (Pp j).2) := congrArg (fun z => z.2) hie
  have g1 : U j = vw (sb (Pp j) Z) (sb (sb (Pp j) Z) (sb (Pp (j + 1)) Z)) := by
    show vw _ _ = _
    rw [← vw_ml (show 0 < kk by omega) _ (sb (Pp j) w), ← vw_ml hm0 _ (sb (sb (Pp j) Z) (sb (Pp (j + 1)) Z))]
    congr 1
    unfold ml sb; ext
    · simp only; grind
    · simp only; grind
  have g2 : U (j + 1) = vw (sb (Pp (j + 1)) Z) (sb (sb (Pp (j + 1)) Z) (sb (Pp j) Z)) := by
    show vw _ _ = _
    rw [← vw_ml (show 0 < kk by omega) _ (sb (Pp (j + 1)) w), ← vw_ml (show 0 < kk - mm by omega) _ (sb (sb (Pp (j + 1)) Z) (sb (Pp j) Z))]
    congr 1
    unfold ml sb; ext
    · simp only; grind
    · simp only; grind
  have ht := half_turn hcr
  refine .inr ⟨sgn (cr (sb (Pp j) Z) (sb (Pp (j + 1)) Z)), sgn_pm hcr, ?_⟩
  have hs : seen Pp Z j = vw (sb (Pp j) Z) (sb (Pp (j + 1)) Z) := rfl
  rw [← hTz, ← hTw, e1, e2, e3, g1, g2, hs]
  omega
end
end Go.Proofs.Ytomnodpmpdodbaa
