/- The turns about all points of a box add up to the area. -/
import Derived.Test.YtomnodpmpdodbaaTuE
namespace Go.Proofs.Ytomnodpmpdodbaa
theorem sumZ_append (f : Nat → Int) (a : Nat) : ∀ b, sumZ f (a + b) = sumZ f a + sumZ (fun k => f (a + k)) b
  | 0 => by simp [sumZ]
  | b + 1 => by rw [← Nat.add_assoc]; simp only [sumZ]; rw [sumZ_append f a b]; omega
theorem sumZ_rev (f : Nat → Int) : ∀ m, sumZ f (m + 1) = sumZ (fun k => f (m - k)) (m + 1)
  | 0 => rfl
  | m + 1 => by
    have h1 : sumZ (fun k => f (m + 1 - k)) (m + 1 + 1) = f (m + 1 - 0) + sumZ (fun k => f (m + 1 - (k + 1))) (m + 1) := sumZ_front _ _
    have h2 : sumZ (fun k => f (m + 1 - (k + 1))) (m + 1) = sumZ (fun k => f (m - k)) (m + 1) := sumZ_congr fun k _ => by rw [show m + 1 - (k + 1) = m - k by omega]
    rw [h1, h2, ← sumZ_rev f m]
    simp only [sumZ, Nat.sub_zero]; omega
theorem sumZ_comm (f : Nat → Nat → Int) (a : Nat) : ∀ b, sumZ (fun i => sumZ (fun j => f i j) b) a = sumZ (fun j => sumZ (fun i => f i j) a) b
  | 0 => by simp only [sumZ]; exact sumZ_zero a
  | b + 1 => by simp only [sumZ]; rw [sumZ_add, sumZ_comm f a b]
theorem sumZ_neg (f : Nat → Int) (m : Nat) : sumZ (fun k => -f k) m = -sumZ f m := by
  have := sumZ_mul (-1) f m
  rw [show (-1) * sumZ f m = -sumZ f m by omega] at this
  rw [← this]
  exact sumZ_congr fun k _ => by omega
/-- A sum over a longer way of what is nothing elsewhere. -/
theorem sumZ_window (f : Nat → Int) (s d r : Nat) (h1 : ∀ k, k < s → f k = 0) (h2 : ∀ k, s + d ≤ k → f k = 0) : sumZ f (s + d + r) = sumZ (fun k => f (s + k)) d := by
  rw [sumZ_append, sumZ_append, sumZ_congr (m := s) (g := fun _ => 0) (fun k hk => h1 k hk), sumZ_zero, sumZ_congr (m := r) (g := fun _ => 0) (fun k _ => h2 _ (by omega)), sumZ_zero]
  omega
def pz (x : Int) : Int := if 0 ≤ x then x else 0
theorem sgn_lin {D m y : Int} (hD : 0 < D) : sgn (D * y - m) = (pz (y - m / D) + pz (-((-m) / D) - y - 1)) - (pz (y - 1 - m / D) + pz (-((-m) / D) - y)) := by
  have h1 := Int.mul_ediv_add_emod m D
  have h2 := Int.emod_nonneg m (show D ≠ 0 by omega)
  have h3 := Int.emod_lt_of_pos m hD
  have h4 := Int.mul_ediv_add_emod (-m) D
  have h5 := Int.emod_nonneg (-m) (show D ≠ 0 by omega)
  have h6 := Int.emod_lt_of_pos (-m) hD
  obtain ⟨q, hq⟩ : ∃ q, m / D = q := ⟨_, rfl⟩
  obtain ⟨p, hp⟩ : ∃ p, (-m) / D = p := ⟨_, rfl⟩
  rw [hq] at h1 ⊢; rw [hp] at h4 ⊢
  rcases Int.lt_trichotomy (D * y - m) 0 with h7 | h7 | h7
  · have a1 : D * y < D * (q + 1) := by rw [Int.mul_add]; omega
    have a2 : y < q + 1 := Int.lt_of_mul_lt_mul_left a1 (by omega)
    have a3 : D * p < D * (-y) := by rw [Int.mul_neg]; omega
    have a4 : p < -y := Int.lt_of_mul_lt_mul_left a3 (by omega)
    rw [sgn_neg h7]; unfold pz
    split <;> split <;> split <;> split <;> omega
  · have a1 : D * y < D * (q + 1) := by rw [Int.mul_add]; omega
    have a2 : y < q + 1 := Int.lt_of_mul_lt_mul_left a1 (by omega)
    have a3 : D * q ≤ D * y := by omega
    have a4 : q ≤ y := Int.le_of_mul_le_mul_left a3 hD
    have a5 : D * (-y) < D * (p + 1) := by rw [Int.mul_neg, Int.mul_add]; omega
    have a6 : -y < p + 1 := Int.lt_of_mul_lt_mul_left a5 (by omega)
    have a7 : D * p ≤ D * (-y) := by rw [Int.mul_neg]; omega
    have a8 : p ≤ -y := Int.le_of_mul_le_mul_left a7 hD
    rw [h7]; unfold pz
    have : sgn 0 = 0 := rfl
    rw [this]
    split <;> split <;> split <;> split <;> omega
  · have a3 : D * q < D * y := by omega
    have a4 : q < y := Int.lt_of_mul_lt_mul_left a3 (by omega)
    have a5 : D * (-y) < D * (p + 1) := by rw [Int.mul_neg, Int.mul_add]; omega
    have a6 : -y < p + 1 := Int.lt_of_mul_lt_mul_left a5 (by omega)
    rw [sgn_pos h7]; unfold pz
    split <;> split <;> split <;> split <;> omega
/-- A column. -/
theorem col {D m Y0 : Int} {H : Nat} (hD : 0 < D) (h1 : D * Y0 ≤ m) (h2 : m ≤ D * (Y0 + H)) : sumZ (fun y => sgn (D * (Y0 + (y : Int)) - m)) (H + 1) = 2 * Y0 + H - (m / D - (-m) / D) := by
  obtain ⟨F, hF⟩ : ∃ F : Nat → Int, F = fun k : Nat => pz (Y0 + (k : Int) - 1 - m / D) + pz (-((-m) / D) - (Y0 + (k : Int))) := ⟨_, rfl⟩
  have e : ∀ y, y < H + 1 → sgn (D * (Y0 + (y : Int)) - m) = F (y + 1) - F y := fun y _ => by
    rw [sgn_lin hD, hF]
    simp only
    have e1 : Y0 + ((y + 1 : Nat) : Int) - 1 - m / D = Y0 + (y : Int) - m / D := by omega
    have e2 : -((-m) / D) - (Y0 + ((y + 1 : Nat) : Int)) = -((-m) / D) - (Y0 + (y : Int)) - 1 := by omega
    rw [e1, e2]
  rw [sumZ_congr e, sumZ_tel F, hF]
  have a1 : Y0 ≤ m / D := Int.le_ediv_of_mul_le hD (by rw [Int.mul_comm]; exact h1)
  have a2 : m / D < Y0 + H + 1 := Int.ediv_lt_of_lt_mul hD (by rw [Int.mul_comm, Int.mul_add]; omega)
  have a3 : -(Y0 + H) ≤ (-m) / D := Int.le_ediv_of_mul_le hD (by rw [Int.mul_comm, Int.mul_neg]; omega)
  have a4 : (-m) / D < -Y0 + 1 := Int.ediv_lt_of_lt_mul hD (by rw [Int.mul_comm, Int.mul_add, Int.mul_neg]; omega)
  simp only
  unfold pz
  split <;> split <;> split <;> split <;> omega
/-- One edge, seen from all points of a box. -/
def edgeS (b c : Pt) (X0 Y0 : Int) (W H : Nat) : Int := sumZ (fun x => sumZ (fun y => vw (sb b (X0 + (x : Int), Y0 + (y : Int))) (sb c (X0 + (x : Int), Y0 + (y : Int)))) (H + 1)) (W + 1)
def hz (D t : Nat) : Int := ab (sgn ((D : Int) - t) - sgn (-(t : Int)))
theorem hz_sum (D : Nat) (hD : 0 < D) : sumZ (fun t => hz D t) (D + 1) = 2 * D := by
  obtain ⟨d, rfl⟩ : ∃ d, D = d + 1 := ⟨D - 1, by omega⟩
  rw [show sumZ (fun t => hz (d + 1) t) (d + 1 + 1) = sumZ (fun t => hz (d + 1) t) (d + 1) + hz (d + 1) (d + 1) from rfl, sumZ_front]
  have h0 : hz (d + 1) 0 = 1 := by unfold hz; rw [sgn_pos (by omega)]; decide
  have h1 : hz (d + 1) (d + 1) = 1 := by
    unfold hz
    rw [Int.sub_self, sgn_neg (show -((d + 1 : Nat) : Int) < 0 by omega)]; decide
  obtain ⟨F, hF⟩ : ∃ F : Nat → Int, F = fun k : Nat => 2 * (k : Int) := ⟨_, rfl⟩
  have h2 : ∀ k, k < d → hz (d + 1) (k + 1) = F (k + 1) - F k := fun k hk => by
    unfold hz
    rw [sgn_pos (show 0 < ((d + 1 : Nat) : Int) - ((k + 1 : Nat) : Int) by omega), sgn_neg (show -((k + 1 : Nat) : Int) < 0 by omega), hF]
    simp only
    have : ab (1 - -1) = 2 := by decide
    rw [this]; omega
  rw [h0, h1, sumZ_congr h2, sumZ_tel F, hF]
  simp only; omega
theorem hz_symm (D t : Nat) (h : t ≤ D) : hz D (D - t) = hz D t := by
  unfold hz
  have e1 : (D : Int) - ((D - t : Nat) : Int) = t := by omega
  have e2 : -((D - t : Nat) : Int) = -((D : Int) - t) := by omega
  rw [e1, e2, sgn_neg_, sgn_neg_]
  congr 1; omega
theorem edgeS_pos {b c : Pt} {X0 Y0 : Int} {W H : Nat} (h : b.1 < c.1) (hbx : X0 ≤ b.1) (hcx : c.1 ≤ X0 + W) (hb1 : Y0 ≤ b.2) (hb2 : b.2 ≤ Y0 + H) (hc1 : Y0 ≤ c.2) (hc2 : c.2 ≤ Y0 + H) : edgeS b c X0 Y0 W H = 2 * (c.1 - b.1) * (2 * Y0 + H - b.2 - c.2) := by
  obtain ⟨D, hD⟩ : ∃ D : Nat, (D : Int) = c.1 - b.1 := ⟨(c.1 - b.1).toNat, by omega⟩
  obtain ⟨s, hs⟩ : ∃ s : Nat, (s : Int) = b.1 - X0 := ⟨(b.1 - X0).toNat, by omega⟩
  obtain ⟨r, hr⟩ : ∃ r : Nat, W + 1 = s + (D + 1) + r := ⟨W + 1 - (s + (D + 1)), by omega⟩
  have hD0 : 0 < D := by omega
  have hDi : (0 : Int) < D := by omega
  unfold edgeS
  rw [hr]
  let m : Nat → Int := fun t => (t : Int) * c.2 + ((D : Int) - t) * b.2
  have hfac : ∀ x : Nat, sumZ (fun y => vw (sb b (X0 + (x : Int), Y0 + (y : Int))) (sb c (X0 + (x : Int), Y0 + (y : Int)))) (H + 1) = ab (sgn (c.1 - (X0 + x)) - sgn (b.1 - (X0 + x))) * sumZ (fun y => sgn (cr (sb b (X0 + (x : Int), Y0 + (y : Int))) (sb c (X0 + (x : Int), Y0 + (y : Int))))) (H + 1) := fun x => by
    rw [← sumZ_mul]; rfl
  have hout1 : ∀ k, k < s → sumZ (fun y => vw (sb b (X0 + (k : Int), Y0 + (y : Int))) (sb c (X0 + (k : Int), Y0 + (y : Int)))) (H + 1) = 0 := fun k hk => by
    rw [hfac, sgn_pos (show 0 < c.1 - (X0 + k) by omega), sgn_pos (show 0 < b.1 - (X0 + k) by omega)]; simp [ab]
  have hout2 : ∀ k, s + (D + 1) ≤ k → sumZ (fun y => vw (sb b (X0 + (k : Int), Y0 + (y : Int))) (sb c (X0 + (k : Int), Y0 + (y : Int)))) (H + 1) = 0 := fun k hk => by
    rw [hfac, sgn_neg (show c.1 - (X0 + k) < 0 by omega), sgn_neg (show b.1 - (X0 + k) < 0 by omega)]; simp [ab]
  rw [sumZ_window _ s (D + 1) r hout1 hout2]
  have hm1 : ∀ t, t ≤ D → (D : Int) * Y0 ≤ m t ∧ m t ≤ D * (Y0 + H) := fun t ht => by
    have a1 : (t : Int) * Y0 ≤ t * c.2 := Int.mul_le_mul_of_nonneg_left hc1 (by omega)
    have a2 : ((D : Int) - t) * Y0 ≤ ((D : Int) - t) * b.2 := Int.mul_le_mul_of_nonneg_left hb1 (by omega)
    have a3 : (t : Int) * c.2 ≤ t * (Y0 + H) := Int.mul_le_mul_of_nonneg_left hc2 (by omega)
    have a4 : ((D : Int) - t) * b.2 ≤ ((D : Int) - t) * (Y0 + H) := Int.mul_le_mul_of_nonneg_left hb2 (by omega)
    have e1 : (t : Int) * Y0 + ((D : Int) - t) * Y0 = D * Y0 := by grind
    have e2 : (t : Int) * (Y0 + H) + ((D : Int) - t) * (Y0 + H) = D * (Y0 + H) := by grind
    show _ ≤ (t : Int) * c.2 + ((D : Int) - t) * b.2 ∧ (t : Int) * c.2 + ((D : Int) - t) * b.2 ≤ _
    omega
  let G : Nat → Int := fun t => 2 * Y0 + H - (m t / D - (-m t) / D)
  have hcol : ∀ t, t < D + 1 → sumZ (fun y => vw (sb b (X0 + ((s + t : Nat) : Int), Y0 + (y : Int))) (sb c (X0 + ((s + t : Nat) : Int), Y0 + (y : Int)))) (H + 1) = hz D t * G t := fun t ht => by
    rw [hfac]
    have e1 : c.1 - (X0 + ((s + t : Nat) : Int)) = (D : Int) - t := by omega
    have e2 : b.1 - (X0 + ((s + t : Nat) : Int)) = -(t : Int) := by omega
    rw [e1, e2]
    have e3 : ∀ y, y < H + 1 → sgn (cr (sb b (X0 + ((s + t : Nat) : Int), Y0 + (y : Int))) (sb c (X0 + ((s + t : Nat) : Int), Y0 + (y : Int)))) = sgn ((D : Int) * (Y0 + (y : Int)) - m t) := fun y _ => by
      congr 1
      unfold cr sb
      simp only
      rw [e1, e2]
      show -(t : Int) * (c.2 - (Y0 + y)) - (b.2 - (Y0 + y)) * ((D : Int) - t) = D * (Y0 + y) - ((t : Int) * c.2 + ((D : Int) - t) * b.2)
      grind
    rw [sumZ_congr e3, col hDi (hm1 t (by omega)).1 (hm1 t (by omega)).2]
    rfl
  rw [sumZ_congr hcol]
  have hG : ∀ t, t ≤ D → G (D - t) = 2 * (2 * Y0 + H - b.2 - c.2) - G t := fun t ht => by
    have e1 : m (D - t) = D * (b.2 + c.2) - m t := by
      show ((D - t : Nat) : Int) * c.2 + ((D : Int) - ((D - t : Nat) : Int)) * b.2 = D * (b.2 + c.2) - ((t : Int) * c.2 + ((D : Int) - t) * b.2)
      have : ((D - t : Nat) : Int) = (D : Int) - t := by omega
      rw [this]; grind
    have e2 : m (D - t) / D = b.2 + c.2 + (-m t) / D := by
      rw [e1, show (D : Int) * (b.2 + c.2) - m t = -m t + (b.2 + c.2) * D by grind, Int.add_mul_ediv_right _ _ (by omega)]; omega
    have e3 : (-m (D - t)) / D = -(b.2 + c.2) + m t / D := by
      rw [e1, show -((D : Int) * (b.2 + c.2) - m t) = m t + (-(b.2 + c.2)) * D by grind, Int.add_mul_ediv_right _ _ (by omega)]; omega
    show 2 * Y0 + H - (m (D - t) / D - (-m (D - t)) / D) = 2 * (2 * Y0 + H - b.2 - c.2) - (2 * Y0 + H - (m t / D - (-m t) / D))
    rw [e2, e3]; omega
  have hrev := sumZ_rev (fun t => hz D t * G t) D
  have h2 : sumZ (fun k => (fun t => hz D t * G t) (D - k)) (D + 1) = (2 * (2 * Y0 + H - b.2 - c.2)) * sumZ (fun t => hz D t) (D + 1) + -sumZ (fun t => hz D t * G t) (D + 1) := by
    rw [← sumZ_mul, ← sumZ_neg, ← sumZ_add]
    refine sumZ_congr fun k hk => ?_
    show hz D (D - k) * G (D - k) = _
    rw [hz_symm D k (by omega), hG k (by omega)]
    grind
  rw [h2, hz_sum D hD0] at hrev
  have : 2 * (c.1 - b.1) * (2 * Y0 + H - b.2 - c.2) = (2 * Y0 + H - b.2 - c.2) * (2 * D) := by rw [hD]; grind
  rw [this]
  have e4 : 2 * (2 * Y0 + ↑H - b.2 - c.2) * (2 * (D : Int)) = 2 * ((2 * Y0 + H - b.2 - c.2) * (2 * D)) := by grind
  rw [e4] at hrev
  omega
theorem edgeS_anti (b c : Pt) (X0 Y0 : Int) (W H : Nat) : edgeS c b X0 Y0 W H = -edgeS b c X0 Y0 W H := by
  unfold edgeS
  rw [← sumZ_neg]
  refine sumZ_congr fun x _ => ?_
  rw [← sumZ_neg]
  exact sumZ_congr fun y _ => vw_anti _ _
theorem edgeS_all {b c : Pt} {X0 Y0 : Int} {W H : Nat} (hbx : X0 ≤ b.1) (hbx2 : b.1 ≤ X0 + W) (hcx : X0 ≤ c.1) (hcx2 : c.1 ≤ X0 + W) (hb1 : Y0 ≤ b.2) (hb2 : b.2 ≤ Y0 + H) (hc1 : Y0 ≤ c.2) (hc2 : c.2 ≤ Y0 + H) : edgeS b c X0 Y0 W H = 2 * (c.1 - b.1) * (2 * Y0 + H - b.2 - c.2) := by
  rcases Int.lt_trichotomy b.1 c.1 with h | h | h
  · exact edgeS_pos h hbx hcx2 hb1 hb2 hc1 hc2
  · have h0 : ∀ x, x < W + 1 → sumZ (fun y => vw (sb b (X0 + (x : Int), Y0 + (y : Int))) (sb c (X0 + (x : Int), Y0 + (y : Int)))) (H + 1) = (fun _ => (0 : Int)) x := fun x _ => by
      rw [sumZ_congr (g := fun _ => (0 : Int)) fun y _ => by unfold vw sb; simp only; rw [h, Int.sub_self]; simp [ab]]
      exact sumZ_zero _
    unfold edgeS
    rw [sumZ_congr h0, sumZ_zero, h]; simp
  · rw [← Int.neg_neg (edgeS b c X0 Y0 W H), ← edgeS_anti, edgeS_pos h hcx hbx2 hc1 hc2 hb1 hb2]
    grind
/-- The turns about all points of a box that holds the polygon. -/
theorem box_sum {P : Nat → Pt} {n : Nat} (hper : ∀ i, P (i + n) = P i) {X0 Y0 : Int} {W H : Nat} (hin : ∀ i, X0 ≤ (P i).1 ∧ (P i).1 ≤ X0 + W ∧ Y0 ≤ (P i).2 ∧ (P i).2 ≤ Y0 + H) :
    sumZ (fun x => sumZ (fun y => TT P n (X0 + (x : Int), Y0 + (y : Int))) (H + 1)) (W + 1) = 2 * sumZ (fun i => cr (P i) (P (i + 1))) n := by
  have h1 : sumZ (fun x => sumZ (fun y => TT P n (X0 + (x : Int), Y0 + (y : Int))) (H + 1)) (W + 1) = sumZ (fun i => edgeS (P i) (P (i + 1)) X0 Y0 W H) n := by
    have h2 : ∀ x, x < W + 1 → sumZ (fun y => TT P n (X0 + (x : Int), Y0 + (y : Int))) (H + 1) = sumZ (fun i => sumZ (fun y => seen P (X0 + (x : Int), Y0 + (y : Int)) i) (H + 1)) n := fun x _ => by
      unfold TT
      exact (sumZ_comm (fun i y => seen P (X0 + (x : Int), Y0 + (y : Int)) i) n (H + 1)).symm
    rw [sumZ_congr h2]
    exact sumZ_comm (fun x i => sumZ (fun y => seen P (X0 + (x : Int), Y0 + (y : Int)) i) (H + 1)) (W + 1) n
  rw [h1, ← sumZ_mul]
  obtain ⟨F, hF⟩ : ∃ F : Nat → Int, F = fun i => 2 * ((2 * Y0 + H) * (P i).1 - (P i).1 * (P i).2) := ⟨_, rfl⟩
  have h3 : ∀ i, i < n → edgeS (P i) (P (i + 1)) X0 Y0 W H = 2 * cr (P i) (P (i + 1)) + (F (i + 1) - F i) := fun i _ => by
    obtain ⟨a1, a2, a3, a4⟩ := hin i
    obtain ⟨b1, b2, b3, b4⟩ := hin (i + 1)
    rw [edgeS_all a1 a2 b1 b2 a3 a4 b3 b4, hF]
    unfold cr
    simp only
    grind
  rw [sumZ_congr h3, sumZ_add, sumZ_tel F, hF]
  have := hper 0
  rw [Nat.zero_add] at this
  simp only
  rw [this]; omega
end Go.Proofs.Ytomnodpmpdodbaa
