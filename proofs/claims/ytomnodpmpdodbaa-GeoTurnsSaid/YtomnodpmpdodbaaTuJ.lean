/- Polygons that begin elsewhere, are turned by a right angle, or run backwards. -/
import Derived.Test.YtomnodpmpdodbaaTuI
namespace Go.Proofs.Ytomnodpmpdodbaa
/-- The same polygon as seen by the laws: simple, area, where. -/
def JJ (u : Pt) : Pt := (-u.2, u.1)
section
variable {P : Nat → Pt} {n : Nat}
theorem Sm.shift (h : Sm P n) (k : Nat) : Sm (fun i => P (i + k)) n :=
  ⟨fun i => by have := h.ne (i + k); rwa [show i + k + 1 = i + 1 + k by omega] at this,
   fun i => by have := h.fold (i + k); rwa [show i + k + 1 = i + 1 + k by omega, show i + k + 2 = i + 2 + k by omega] at this,
   fun i j h1 h2 => by have := h.apart (i + k) j h1 h2; rwa [show i + k + 1 = i + 1 + k by omega, show i + k + j = i + j + k by omega, show i + j + k + 1 = i + j + 1 + k by omega] at this⟩
theorem cross_J (a b c : Pt) : crossZ (JJ a) (JJ b) (JJ c) = crossZ a b c := by unfold crossZ JJ; grind
theorem dot_J (a b c : Pt) : dotZ (JJ a) (JJ b) (JJ c) = dotZ a b c := by unfold dotZ JJ; grind
theorem JJ_inj {a b : Pt} (h : JJ a = JJ b) : a = b := by
  have h1 := congrArg (fun z => z.1) h
  have h2 := congrArg (fun z => z.2) h
  unfold JJ at h1 h2
  simp only at h1 h2
  exact Prod.ext h2 (by omega)
theorem has_J (a b c : Pt) : hasB (JJ a, JJ b) (JJ c) = hasB (a, b) c := by unfold hasB; simp only; rw [cross_J, dot_J]
theorem folds_J (a b c d : Pt) : foldsB (JJ a, JJ b) (JJ c, JJ d) = foldsB (a, b) (c, d) := by unfold foldsB; simp only; rw [cross_J, dot_J]
theorem meets_J (a b c d : Pt) : meetsB (JJ a, JJ b) (JJ c, JJ d) = meetsB (a, b) (c, d) := by unfold meetsB; simp only [has_J, cross_J]
theorem sm_J : Sm (fun i => JJ (P i)) n ↔ Sm P n := by
  constructor
  · intro h
    exact ⟨fun i e => h.ne i (by show JJ (P i) = JJ (P (i + 1)); rw [e]), fun i => by have := h.fold i; rwa [folds_J] at this, fun i k h1 h2 => by have := h.apart i k h1 h2; rwa [meets_J] at this⟩
  · intro h
    exact ⟨fun i e => h.ne i (JJ_inj e), fun i => by show foldsB _ _ = false; rw [folds_J]; exact h.fold i, fun i k h1 h2 => by show meetsB _ _ = false; rw [meets_J]; exact h.apart i k h1 h2⟩
theorem cross_rev (a b c : Pt) : crossZ b a c = -crossZ a b c := by unfold crossZ; grind
theorem dot_rev (a b c : Pt) : dotZ c b a = dotZ c a b := by unfold dotZ; grind
theorem has_rev (a b c : Pt) : hasB (b, a) c = hasB (a, b) c := by
  unfold hasB; simp only
  rw [cross_rev, dot_rev]
  congr 1
  exact decide_eq_decide.2 (by omega)
theorem sgn_rev {x y : Int} : (sgn (-x) ≠ sgn (-y)) ↔ (sgn x ≠ sgn y) := by rw [sgn_neg_, sgn_neg_]; omega
theorem meets_rev (a b c d : Pt) : meetsB (b, a) (d, c) = meetsB (a, b) (c, d) := by
  unfold meetsB
  simp only
  rw [has_rev a b, has_rev a b, has_rev c d, has_rev c d, cross_rev a b, cross_rev a b, cross_rev c d, cross_rev c d]
  have e1 : decide (sgn (-crossZ a b d) ≠ sgn (-crossZ a b c)) = decide (sgn (crossZ a b c) ≠ sgn (crossZ a b d)) := decide_eq_decide.2 (by rw [sgn_neg_, sgn_neg_]; omega)
  have e2 : decide (sgn (-crossZ c d b) ≠ sgn (-crossZ c d a)) = decide (sgn (crossZ c d a) ≠ sgn (crossZ c d b)) := decide_eq_decide.2 (by rw [sgn_neg_, sgn_neg_]; omega)
  rw [e1, e2]
  cases hasB (a, b) c <;> cases hasB (a, b) d <;> cases hasB (c, d) a <;> cases hasB (c, d) b <;> rfl
theorem folds_rev (a b d : Pt) : foldsB (d, b) (b, a) = foldsB (a, b) (b, d) := by
  unfold foldsB; simp only
  have e1 : crossZ d b a = -crossZ a b d := by unfold crossZ; grind
  have e2 : dotZ b d a = dotZ b a d := by unfold dotZ; grind
  rw [e1, e2]
  congr 1
  exact decide_eq_decide.2 (by omega)
/-- The corners backwards: M is a multiple of n, less one. -/
theorem sm_back {P' : Nat → Pt} (h : Sm P n) (hb : ∀ i, ∃ j, P' i = P (j + n + 2) ∧ P' (i + 1) = P (j + n + 1) ∧ P' (i + 2) = P (j + n) ∧ ∀ k, k + 2 ≤ n → P' (i + k) = P (j + n + 2 - k) ∧ P' (i + k + 1) = P (j + n + 1 - k)) : Sm P' n := by
  refine ⟨fun i => ?_, fun i => ?_, fun i k h1 h2 => ?_⟩
  · obtain ⟨j, e0, e1, _, _⟩ := hb i
    rw [e0, e1]; exact fun e => h.ne (j + n + 1) e.symm
  · obtain ⟨j, e0, e1, e2, _⟩ := hb i
    rw [e0, e1, e2, folds_rev]; exact h.fold (j + n)
  · obtain ⟨j, e0, e1, _, e3⟩ := hb i
    obtain ⟨f1, f2⟩ := e3 k h2
    rw [e0, e1, f1, f2]
    have := h.apart (j + n + 1 - k) k h1 h2
    rw [show j + n + 1 - k + k = j + n + 1 by omega, show j + n + 1 - k + 1 = j + n + 2 - k by omega] at this
    rw [meets_symm, ← meets_rev] at this
    have hh := this
    rw [meets_rev] at hh
    rw [← meets_rev]
    exact hh
end
end Go.Proofs.Ytomnodpmpdodbaa
