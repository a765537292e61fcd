/- Polygons with lines between their edges: how they turn about their corners. -/
import Derived.Test.YtomnodpmpdodbaaTuA
namespace Go.Proofs.Ytomnodpmpdodbaa
structure Poly (P : Nat → Pt) (n : Nat) : Prop where
  three : 3 ≤ n
  per : ∀ i, P (i + n) = P i
  apart : ∀ i k, 2 ≤ k → k + 2 ≤ n → Sep (P (i + k)) (P (i + k + 1)) (P i) (P (i + 1))
  turn : ∀ i, ∃ l, 0 < dt l (sb (P (i + 1)) (P i)) ∧ 0 < dt l (sb (P (i + 2)) (P (i + 1)))
def seen (P : Nat → Pt) (z : Pt) (i : Nat) : Int := vw (sb (P i) z) (sb (P (i + 1)) z)
def TT (P : Nat → Pt) (n : Nat) (z : Pt) : Int := sumZ (seen P z) n
def tau (P : Nat → Pt) (i : Nat) : Int := vw (sb (P (i + 1)) (P i)) (sb (P (i + 2)) (P (i + 1)))
section
variable {P : Nat → Pt} {n : Nat}
theorem sb_self (u : Pt) : sb u u = (0, 0) := by unfold sb; simp
theorem seen_per (h : ∀ i, P (i + n) = P i) (z : Pt) (i : Nat) : seen P z (i + n) = seen P z i := by
  unfold seen; rw [h, show i + n + 1 = i + 1 + n by omega, h]
theorem tau_per (h : ∀ i, P (i + n) = P i) (i : Nat) : tau P (i + n) = tau P i := by
  unfold tau; rw [h, show i + n + 1 = i + 1 + n by omega, h, show i + n + 2 = i + 2 + n by omega, h]
theorem TT_at (h : ∀ i, P (i + n) = P i) (z : Pt) (a : Nat) : TT P n z = sumZ (fun k => seen P z (a + k)) n := (sumZ_shift (seen_per h z) a).symm
theorem seen_fst (z : Pt) (i : Nat) (h : P i = z) : seen P z i = 0 := vw_zero_l _ _ (by rw [h]; exact sb_self z)
theorem seen_snd (z : Pt) (i : Nat) (h : P (i + 1) = z) : seen P z i = 0 := vw_zero_r _ _ (by rw [h]; exact sb_self z)
theorem TT_vertex {m : Nat} (h : ∀ i, P (i + (m + 3)) = P i) (a : Nat) : TT P (m + 3) (P a) = sumZ (fun k => seen P (P a) (a + (k + 1))) (m + 1) := by
  rw [TT_at h _ a, show sumZ (fun k => seen P (P a) (a + k)) (m + 3) = sumZ (fun k => seen P (P a) (a + k)) (m + 2) + seen P (P a) (a + (m + 2)) from rfl, sumZ_front, seen_fst (P a) (a + 0) rfl, seen_snd _ (a + (m + 2)) (by rw [show a + (m + 2) + 1 = a + (m + 3) by omega, h])]
  omega
theorem TT_next {m : Nat} (h : ∀ i, P (i + (m + 3)) = P i) (a : Nat) : TT P (m + 3) (P (a + 1)) = sumZ (fun k => seen P (P (a + 1)) (a + (k + 2))) (m + 1) := by
  rw [TT_at h _ a, sumZ_front, seen_snd _ (a + 0) rfl, sumZ_front, seen_fst _ (a + (0 + 1)) rfl]
  simp
/-- The ways to two neighbouring corners. -/
def side (P : Nat → Pt) (a i : Nat) : Int := vw (sb (P i) (P a)) (sb (P i) (P (a + 1)))
theorem seen_cell {i a : Nat} (h : Sep (P i) (P (i + 1)) (P a) (P (a + 1))) : seen P (P (a + 1)) i = seen P (P a) i + (side P a (i + 1) - side P a i) := by
  have := cell h
  unfold seen side
  rw [this]; omega
theorem dt_ng (l u : Pt) : dt (ng l) u = -dt l u := by unfold dt ng; grind
theorem tri_on (i : Nat) (h : ∃ l, 0 < dt l (sb (P (i + 1)) (P i)) ∧ 0 < dt l (sb (P (i + 2)) (P (i + 1)))) : seen P (P i) (i + 1) + side P i (i + 2) = tau P i := by
  obtain ⟨l, h1, h2⟩ := h
  have h3 : 0 < dt l (sb (P (i + 2)) (P i)) := by
    have : dt l (sb (P (i + 2)) (P i)) = dt l (sb (P (i + 2)) (P (i + 1))) + dt l (sb (P (i + 1)) (P i)) := by unfold dt sb; grind
    omega
  exact vw_tri h1 h3 h2
theorem tri_back (q a b : Pt) (h : ∃ l, 0 < dt l (sb a q) ∧ 0 < dt l (sb b a)) : vw (sb q a) (sb q b) + vw (sb q b) (sb a b) = vw (sb a q) (sb b a) := by
  obtain ⟨l, h1, h2⟩ := h
  have e1 : dt (ng l) (sb q a) = dt l (sb a q) := by unfold dt ng sb; grind
  have e2 : dt (ng l) (sb a b) = dt l (sb b a) := by unfold dt ng sb; grind
  have e3 : dt (ng l) (sb q b) = dt l (sb a q) + dt l (sb b a) := by unfold dt ng sb; grind
  rw [vw_tri (l := ng l) (by omega) (by omega) (by omega), ← vw_ng, sb_ng, sb_ng]
/-- The turn of the whole about a corner and the turn at it add up to the same at each corner. -/
def Cn (P : Nat → Pt) (n a : Nat) : Int := TT P n (P (a + 1)) + tau P a
theorem Cn_prev (hp : Poly P n) (a : Nat) : Cn P n a = Cn P n (a + n - 1) := by
  obtain ⟨m, rfl⟩ : ∃ m, n = m + 3 := ⟨n - 3, by have := hp.three; omega⟩
  have hper := hp.per
  have ha : a + (m + 3) - 1 = a + (m + 2) := by omega
  have hq : P (a + (m + 2) + 1) = P a := by rw [show a + (m + 2) + 1 = a + (m + 3) by omega, hper]
  have hq2 : P (a + (m + 2) + 2) = P (a + 1) := by rw [show a + (m + 2) + 2 = a + 1 + (m + 3) by omega, hper]
  rw [ha]
  unfold Cn
  rw [hq, TT_next hper, TT_vertex hper]
  rw [show sumZ (fun k => seen P (P (a + 1)) (a + (k + 2))) (m + 1) = sumZ (fun k => seen P (P (a + 1)) (a + (k + 2))) m + seen P (P (a + 1)) (a + (m + 2)) from rfl, sumZ_front]
  have hc : sumZ (fun k => seen P (P (a + 1)) (a + (k + 2))) m = sumZ (fun k => seen P (P a) (a + (k + 1 + 1))) m + (side P a (a + (m + 2)) - side P a (a + 2)) := by
    have h1 : ∀ k, k < m → seen P (P (a + 1)) (a + (k + 2)) = seen P (P a) (a + (k + 1 + 1)) + (side P a (a + ((k + 1) + 2)) - side P a (a + (k + 2))) := fun k hk => by
      have h2 := seen_cell (P := P) (i := a + (k + 2)) (a := a) (hp.apart a (k + 2) (by omega) (by omega))
      rw [h2, show a + (k + 2) + 1 = a + (k + 1 + 2) by omega]
    rw [sumZ_congr h1, sumZ_add]
    have h3 := sumZ_tel (fun k => side P a (a + (k + 2))) m
    rw [h3]
  have ht1 := tri_on (P := P) a (hp.turn a)
  have ht2 := tri_back (P (a + (m + 2))) (P a) (P (a + 1)) (by
    have := hp.turn (a + (m + 2))
    rwa [hq, hq2] at this)
  have e1 : side P a (a + (m + 2)) = vw (sb (P (a + (m + 2))) (P a)) (sb (P (a + (m + 2))) (P (a + 1))) := rfl
  have e2 : seen P (P (a + 1)) (a + (m + 2)) = vw (sb (P (a + (m + 2))) (P (a + 1))) (sb (P a) (P (a + 1))) := by unfold seen; rw [hq]
  have e3 : tau P (a + (m + 2)) = vw (sb (P a) (P (a + (m + 2)))) (sb (P (a + 1)) (P a)) := by unfold tau; rw [hq, hq2]
  rw [hc, e1, e2, e3]
  rw [show a + (0 + 1) = a + 1 by omega]
  omega
theorem Cn_per (hp : Poly P n) (a : Nat) : Cn P n (a + n) = Cn P n a := by
  unfold Cn; rw [show a + n + 1 = a + 1 + n by omega, hp.per, tau_per hp.per]
theorem Cn_all (hp : Poly P n) : ∀ a, Cn P n a = Cn P n 0
  | 0 => rfl
  | a + 1 => by
    rw [Cn_prev hp (a + 1), show a + 1 + n - 1 = a + n by omega, Cn_per hp, Cn_all hp a]
/-- All turns at corners together. -/
theorem tau_sum (hp : Poly P n) : sumZ (tau P) n = 2 * Cn P n 0 := by
  obtain ⟨m, rfl⟩ : ∃ m, n = m + 3 := ⟨n - 3, by have := hp.three; omega⟩
  have hper := hp.per
  have hn0 : P (m + 3) = P 0 := by have := hper 0; rwa [Nat.zero_add] at this
  let A : Nat → Int := fun j => sumZ (fun k => seen P (P (j + 1)) (j + 2 + k)) (m + 1 - j)
  have hA : ∀ j, j ≤ m → A (j + 1) = A j - tau P (j + 1) + seen P (P 0) (j + 1) := fun j hj => by
    obtain ⟨s, hs⟩ : ∃ s, m + 1 - j = s + 1 := ⟨m - j, by omega⟩
    have hs2 : m + 1 - (j + 1) = s := by omega
    have hs3 : j + 1 + 2 + s = m + 3 := by omega
    show sumZ (fun k => seen P (P (j + 1 + 1)) (j + 1 + 2 + k)) (m + 1 - (j + 1)) = sumZ (fun k => seen P (P (j + 1)) (j + 2 + k)) (m + 1 - j) - _ + _
    rw [hs, hs2, sumZ_front]
    have h1 : ∀ k, k < s → seen P (P (j + 1 + 1)) (j + 1 + 2 + k) = seen P (P (j + 1)) (j + 2 + (k + 1)) + (side P (j + 1) (j + 1 + 2 + (k + 1)) - side P (j + 1) (j + 1 + 2 + k)) := fun k hk => by
      have h2 := seen_cell (P := P) (i := j + 1 + (k + 2)) (a := j + 1) (hp.apart (j + 1) (k + 2) (by omega) (by omega))
      rw [show j + 1 + 2 + k = j + 1 + (k + 2) by omega, h2, show j + 1 + (k + 2) + 1 = j + 1 + 2 + (k + 1) by omega, show j + 1 + (k + 2) = j + 2 + (k + 1) by omega]
    rw [sumZ_congr h1, sumZ_add, sumZ_tel (fun k => side P (j + 1) (j + 1 + 2 + k)) s, hs3]
    have ht := tri_on (P := P) (j + 1) (hp.turn (j + 1))
    have hv : side P (j + 1) (m + 3) = seen P (P 0) (j + 1) := by
      unfold side seen
      rw [hn0, ← vw_ng, sb_ng, sb_ng]
    rw [hv, show j + 2 + 0 = j + 1 + 1 by omega, show j + 1 + 2 + 0 = j + 1 + 2 by omega]
    omega
  have hsum : ∀ r, r ≤ m + 1 → A r = A 0 - sumZ (fun k => tau P (k + 1)) r + sumZ (fun k => seen P (P 0) (k + 1)) r := fun r => by
    induction r with
    | zero => intro _; simp [sumZ]
    | succ r ih => intro hr; rw [hA r (by omega), ih (by omega)]; simp only [sumZ]; omega
  have h1 := hsum (m + 1) (Nat.le_refl _)
  have h2 : A (m + 1) = 0 := by show sumZ _ (m + 1 - (m + 1)) = 0; rw [Nat.sub_self]; rfl
  have h3 : A 0 = TT P (m + 3) (P 1) := by
    have := TT_next hper 0
    rw [Nat.zero_add] at this
    rw [this]
    show sumZ (fun k => seen P (P (0 + 1)) (0 + 2 + k)) (m + 1 - 0) = _
    exact sumZ_congr fun k _ => by rw [show 0 + 2 + k = 0 + (k + 2) by omega]
  have h4 : sumZ (fun k => seen P (P 0) (k + 1)) (m + 1) = TT P (m + 3) (P 0) := by
    rw [TT_vertex hper 0]
    exact sumZ_congr fun k _ => by rw [Nat.zero_add]
  have h5 : sumZ (tau P) (m + 3) = tau P 0 + sumZ (fun k => tau P (k + 1)) (m + 1) + tau P (m + 2) := by
    rw [show sumZ (tau P) (m + 3) = sumZ (tau P) (m + 2) + tau P (m + 2) from rfl, sumZ_front]
  have h6 : Cn P (m + 3) 0 = TT P (m + 3) (P 1) + tau P 0 := rfl
  have h7 : Cn P (m + 3) (m + 2) = TT P (m + 3) (P 0) + tau P (m + 2) := by unfold Cn; rw [show m + 2 + 1 = m + 3 by omega, hn0]
  have h8 := Cn_all hp (m + 2)
  omega
end
end Go.Proofs.Ytomnodpmpdodbaa
