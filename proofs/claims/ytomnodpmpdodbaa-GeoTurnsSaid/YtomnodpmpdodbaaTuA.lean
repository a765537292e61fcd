/- Winding in whole numbers: how far a way turns about a point, measured by its crossings of the upright line. -/
import Derived.Test.YtomnodpmpdodbaaGeoPar
namespace Go.Proofs.Ytomnodpmpdodbaa
/-- Sums. -/
def sumZ (f : Nat → Int) : Nat → Int
  | 0 => 0
  | k + 1 => sumZ f k + f k
theorem sumZ_congr {f g : Nat → Int} : ∀ {m : Nat}, (∀ k, k < m → f k = g k) → sumZ f m = sumZ g m
  | 0, _ => rfl
  | m + 1, h => by simp only [sumZ]; rw [sumZ_congr fun k hk => h k (by omega), h m (by omega)]
theorem sumZ_add (f g : Nat → Int) : ∀ m, sumZ (fun k => f k + g k) m = sumZ f m + sumZ g m
  | 0 => rfl
  | m + 1 => by simp only [sumZ]; rw [sumZ_add f g m]; omega
theorem sumZ_tel (f : Nat → Int) : ∀ m, sumZ (fun k => f (k + 1) - f k) m = f m - f 0
  | 0 => by simp [sumZ]
  | m + 1 => by simp only [sumZ]; rw [sumZ_tel f m]; omega
theorem sumZ_zero : ∀ m, sumZ (fun _ => 0) m = 0
  | 0 => rfl
  | m + 1 => by simp only [sumZ]; rw [sumZ_zero m]; rfl
theorem sumZ_front (f : Nat → Int) : ∀ m, sumZ f (m + 1) = f 0 + sumZ (fun k => f (k + 1)) m
  | 0 => by simp [sumZ]
  | m + 1 => by rw [show sumZ f (m + 1 + 1) = sumZ f (m + 1) + f (m + 1) from rfl, sumZ_front f m]; simp only [sumZ]; omega
theorem sumZ_mul (c : Int) (f : Nat → Int) : ∀ m, sumZ (fun k => c * f k) m = c * sumZ f m
  | 0 => by simp [sumZ]
  | m + 1 => by simp only [sumZ]; rw [sumZ_mul c f m, Int.mul_add]
/-- A sum over a whole period does not depend on where it begins. -/
theorem sumZ_shift {f : Nat → Int} {n : Nat} (h : ∀ i, f (i + n) = f i) : ∀ a, sumZ (fun k => f (a + k)) n = sumZ f n
  | 0 => by simp
  | a + 1 => by
    rcases n with _ | m
    · rfl
    · have h1 : sumZ (fun k => f (a + k)) (m + 1) = f a + sumZ (fun k => f (a + (k + 1))) m := by rw [sumZ_front]; rfl
      have h2 : sumZ (fun k => f (a + 1 + k)) (m + 1) = sumZ (fun k => f (a + 1 + k)) m + f (a + 1 + m) := rfl
      have h3 : f (a + 1 + m) = f a := by rw [show a + 1 + m = a + (m + 1) by omega, h]
      have h4 : sumZ (fun k => f (a + 1 + k)) m = sumZ (fun k => f (a + (k + 1))) m := sumZ_congr fun k _ => by rw [show a + 1 + k = a + (k + 1) by omega]
      have := sumZ_shift h a
      rw [h2, h3, h4, ← this, h1]; omega
/-- Ways between points. -/
def cr (u v : Pt) : Int := u.1 * v.2 - u.2 * v.1
def dt (u v : Pt) : Int := u.1 * v.1 + u.2 * v.2
def sb (u v : Pt) : Pt := (u.1 - v.1, u.2 - v.2)
def ng (u : Pt) : Pt := (-u.1, -u.2)
def ad (u v : Pt) : Pt := (u.1 + v.1, u.2 + v.2)
def ml (k : Int) (u : Pt) : Pt := (k * u.1, k * u.2)
def ab (x : Int) : Int := if x < 0 then -x else x
/-- The turn from u to v, a whole turn being 4. -/
def vw (u v : Pt) : Int := ab (sgn v.1 - sgn u.1) * sgn (cr u v)
theorem ab_neg (x : Int) : ab (-x) = ab x := by unfold ab; split <;> split <;> omega
theorem ab_zero : ab 0 = 0 := rfl
theorem sgn_neg_ (x : Int) : sgn (-x) = -sgn x := by unfold sgn; split <;> split <;> (try split) <;> (try split) <;> omega
theorem vw_anti (u v : Pt) : vw u v = -vw v u := by
  unfold vw
  have h1 : ab (sgn v.1 - sgn u.1) = ab (sgn u.1 - sgn v.1) := by rw [← ab_neg]; congr 1; omega
  have h2 : cr u v = -cr v u := by unfold cr; grind
  rw [h1, h2, sgn_neg_, Int.mul_neg]
theorem vw_ng (u v : Pt) : vw (ng u) (ng v) = vw u v := by
  unfold vw ng cr
  have h1 : ab (sgn (-v.1) - sgn (-u.1)) = ab (sgn v.1 - sgn u.1) := by rw [sgn_neg_, sgn_neg_, ← ab_neg]; congr 1; omega
  have h2 : -u.1 * -v.2 - -u.2 * -v.1 = u.1 * v.2 - u.2 * v.1 := by grind
  simp only
  rw [h1, h2]
theorem vw_par {u v : Pt} (h : cr u v = 0) : vw u v = 0 := by unfold vw; rw [h]; simp [sgn]
theorem vw_ml {k : Int} (hk : 0 < k) (u v : Pt) : vw u (ml k v) = vw u v := by
  unfold vw ml cr
  simp only
  rw [sgn_mul hk, show u.1 * (k * v.2) - u.2 * (k * v.1) = k * (u.1 * v.2 - u.2 * v.1) by grind, sgn_mul hk]
theorem vw_ml2 {k : Int} (hk : 0 < k) (u v : Pt) : vw (ml k u) (ml k v) = vw u v := by
  rw [vw_ml hk, vw_anti, vw_ml hk, ← vw_anti]
theorem sgn_of_mul {k x : Int} (h : 0 < k * x) : sgn x = sgn k := by
  rcases Int.lt_trichotomy k 0 with hk | hk | hk
  · rw [sgn_neg hk, sgn_neg (neg_of' hk h)]
  · subst hk; simp at h
  · rw [sgn_pos hk, sgn_pos (pos_of hk h)]
theorem sgn_of_mul' {k x : Int} (h : k * x < 0) : sgn x = -sgn k := by
  rw [← sgn_neg_]; exact sgn_of_mul (by rw [Int.neg_mul]; omega)
/-- On one side of a line the turn is a difference. -/
theorem vw_half {l u v : Pt} (hu : 0 < dt l u) (hv : 0 < dt l v) : vw u v = sgn l.2 * (sgn u.1 - sgn v.1) := by
  have e : l.2 * cr u v = u.1 * dt l v - v.1 * dt l u := by unfold cr dt; grind
  unfold vw
  rcases Int.lt_trichotomy u.1 0 with h1 | h1 | h1 <;> rcases Int.lt_trichotomy v.1 0 with h2 | h2 | h2
  · rw [sgn_neg h1, sgn_neg h2]; simp [ab]
  · have a1 := Int.mul_neg_of_neg_of_pos h1 hv
    have : l.2 * cr u v < 0 := by rw [e, h2]; omega
    rw [sgn_of_mul' this, sgn_neg h1, h2]; simp [sgn, ab]
  · have a1 := Int.mul_neg_of_neg_of_pos h1 hv; have a2 := Int.mul_pos h2 hu
    have : l.2 * cr u v < 0 := by rw [e]; omega
    rw [sgn_of_mul' this, sgn_neg h1, sgn_pos h2]; simp [ab]; omega
  · have a2 := Int.mul_neg_of_neg_of_pos h2 hu
    have : 0 < l.2 * cr u v := by rw [e, h1]; omega
    rw [sgn_of_mul this, sgn_neg h2, h1]; simp [sgn, ab]
  · rw [h1, h2]; simp [sgn, ab]
  · have a2 := Int.mul_pos h2 hu
    have : l.2 * cr u v < 0 := by rw [e, h1]; omega
    rw [sgn_of_mul' this, sgn_pos h2, h1]; simp [sgn, ab]
  · have a1 := Int.mul_pos h1 hv; have a2 := Int.mul_neg_of_neg_of_pos h2 hu
    have : 0 < l.2 * cr u v := by rw [e]; omega
    rw [sgn_of_mul this, sgn_pos h1, sgn_neg h2]; simp [ab]; omega
  · have a1 := Int.mul_pos h1 hv
    have : 0 < l.2 * cr u v := by rw [e, h2]; omega
    rw [sgn_of_mul this, sgn_pos h1, h2]; simp [sgn, ab]
  · rw [sgn_pos h1, sgn_pos h2]; simp [ab]
/-- Three ways on one side of a line. -/
theorem vw_tri {l a b c : Pt} (ha : 0 < dt l a) (hb : 0 < dt l b) (hc : 0 < dt l c) : vw a b + vw b c = vw a c := by
  rw [vw_half ha hb, vw_half hb hc, vw_half ha hc, ← Int.mul_add]; congr 1; omega
/-- Two segments with a line between them. -/
def Sep (b c d e : Pt) : Prop := ∃ l : Pt, 0 < dt l (sb b d) ∧ 0 < dt l (sb b e) ∧ 0 < dt l (sb c d) ∧ 0 < dt l (sb c e)
/-- A cell: a segment seen from the ends of another one. -/
theorem cell {b c d e : Pt} (h : Sep b c d e) : vw (sb b e) (sb c e) = vw (sb b d) (sb c d) + vw (sb c d) (sb c e) - vw (sb b d) (sb b e) := by
  obtain ⟨l, h1, h2, h3, h4⟩ := h
  rw [vw_half h2 h4, vw_half h1 h3, vw_half h3 h4, vw_half h1 h2]
  have e : ∀ x y z : Int, x * (y - z) = x * y - x * z := fun x y z => Int.mul_sub x y z
  simp only [e]; omega
theorem sb_ng (u v : Pt) : ng (sb u v) = sb v u := by unfold ng sb; ext <;> simp <;> omega
theorem vw_zero_l (v : Pt) (u : Pt) (h : u = (0, 0)) : vw u v = 0 := vw_par (by subst h; unfold cr; simp)
theorem vw_zero_r (u : Pt) (v : Pt) (h : v = (0, 0)) : vw u v = 0 := vw_par (by subst h; unfold cr; simp)
end Go.Proofs.Ytomnodpmpdodbaa
