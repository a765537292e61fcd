/- Pick's law: the area of a simple polygon in points inside and on the edges. -/
import Derived.Test.YtomnodpmpdodbaaTuH
namespace Go.Proofs.Ytomnodpmpdodbaa
theorem sumZ_one {g : Nat → Int} {j0 : Nat} : ∀ {n : Nat}, j0 < n → (∀ j, j < n → j ≠ j0 → g j = 0) → sumZ g n = g j0
  | 0, h, _ => absurd h (Nat.not_lt_zero _)
  | n + 1, h, hz => by
    simp only [sumZ]
    by_cases e : j0 = n
    · subst e
      rw [sumZ_congr (g := fun _ => 0) fun k hk => hz k (by omega) (by omega), sumZ_zero]; omega
    · rw [sumZ_one (by omega) fun j hj hne => hz j (by omega) hne, hz n (by omega) (fun e2 => e e2.symm)]; omega
theorem sumZ_mono {f g : Nat → Int} : ∀ {n : Nat}, (∀ k, k < n → f k ≤ g k) → sumZ f n ≤ sumZ g n
  | 0, _ => Int.le_refl _
  | n + 1, h => by simp only [sumZ]; have := sumZ_mono (fun k hk => h k (show k < n + 1 by omega) : ∀ k, k < n → f k ≤ g k); have := h n (by omega); omega
/-- A sum over a box. -/
def boxS (X0 Y0 : Int) (W H : Nat) (f : Pt → Int) : Int := sumZ (fun x => sumZ (fun y => f (X0 + (x : Int), Y0 + (y : Int))) (H + 1)) (W + 1)
theorem boxS_congr {X0 Y0 : Int} {W H : Nat} {f g : Pt → Int} (h : ∀ z, f z = g z) : boxS X0 Y0 W H f = boxS X0 Y0 W H g := sumZ_congr fun _ _ => sumZ_congr fun _ _ => h _
theorem boxS_mono {X0 Y0 : Int} {W H : Nat} {f g : Pt → Int} (h : ∀ z, f z ≤ g z) : boxS X0 Y0 W H f ≤ boxS X0 Y0 W H g := sumZ_mono fun _ _ => sumZ_mono fun _ _ => h _
theorem boxS_add (X0 Y0 : Int) (W H : Nat) (f g : Pt → Int) : boxS X0 Y0 W H (fun z => f z + g z) = boxS X0 Y0 W H f + boxS X0 Y0 W H g := by
  unfold boxS
  rw [← sumZ_add]
  exact sumZ_congr fun x _ => sumZ_add _ _ _
theorem boxS_mul (X0 Y0 : Int) (W H : Nat) (c : Int) (f : Pt → Int) : boxS X0 Y0 W H (fun z => c * f z) = c * boxS X0 Y0 W H f := by
  unfold boxS
  rw [← sumZ_mul]
  exact sumZ_congr fun x _ => sumZ_mul _ _ _
theorem boxS_one {X0 Y0 : Int} {W H : Nat} {q : Pt} (c : Int) (h : X0 ≤ q.1 ∧ q.1 ≤ X0 + W ∧ Y0 ≤ q.2 ∧ q.2 ≤ Y0 + H) : boxS X0 Y0 W H (fun z => if z = q then c else 0) = c := by
  unfold boxS
  have hx : (q.1 - X0).toNat < W + 1 := by omega
  have hy : (q.2 - Y0).toNat < H + 1 := by omega
  rw [sumZ_one hx fun j _ hne => by
    rw [sumZ_congr (g := fun _ => 0) fun k _ => if_neg fun e => hne (by have := congrArg (fun z => z.1) e; simp only at this; omega)]
    exact sumZ_zero _]
  rw [sumZ_one hy fun j _ hne => if_neg fun e => hne (by have := congrArg (fun z => z.2) e; simp only at this; omega)]
  exact if_pos (Prod.ext (by simp only; omega) (by simp only; omega))
theorem boxS_sum (X0 Y0 : Int) (W H n : Nat) (f : Nat → Pt → Int) : boxS X0 Y0 W H (fun z => sumZ (fun j => f j z) n) = sumZ (fun j => boxS X0 Y0 W H (f j)) n := by
  unfold boxS
  have h1 : ∀ x, x < W + 1 → sumZ (fun y => sumZ (fun j => f j (X0 + (x : Int), Y0 + (y : Int))) n) (H + 1) = sumZ (fun j => sumZ (fun y => f j (X0 + (x : Int), Y0 + (y : Int))) (H + 1)) n := fun x _ => sumZ_comm (fun y j => f j (X0 + (x : Int), Y0 + (y : Int))) (H + 1) n
  rw [sumZ_congr h1]
  exact sumZ_comm (fun x j => sumZ (fun y => f j (X0 + (x : Int), Y0 + (y : Int))) (H + 1)) (W + 1) n
section
variable {p : List Pt}
theorem vertex_on (hn : 0 < p.length) (j : Nat) : hasB (PP p j, PP p (j + 1)) (PP p (j + 1)) = true := by
  have := hn
  exact (has_iff _ _ _).2 ⟨by rw [sb_self]; unfold cr; simp, by rw [sb_self]; unfold dt; simp⟩
/-- What a point sees, by where it lies. -/
theorem point_law (hn : 3 ≤ p.length) (hp : Poly (PP p) p.length) {s : Int} (hs : s = 1 ∨ s = -1) (hC : Cn (PP p) p.length 0 = 2 * s) (z : Pt) :
    s * TT (PP p) p.length z = (4 * (if whereZ p z = 1 then 1 else 0) + 2 * (if whereZ p z = 0 then 1 else 0)) + -sumZ (fun j => if z = PP p (j + 1) then s * tau (PP p) j else 0) p.length ∧
    sumZ (fun j => if z = PP p (j + 1) then 1 else 0) p.length ≤ (if whereZ p z = 0 then 1 else 0) ∧ (whereZ p z = 1 ∨ whereZ p z = 0 ∨ whereZ p z = -1) := by
  have hss : s * (2 * s) = 2 := by rcases hs with rfl | rfl <;> decide
  by_cases hv : ∃ j, j < p.length ∧ z = PP p (j + 1)
  · obtain ⟨j, hj, rfl⟩ := hv
    have hw : whereZ p (PP p (j + 1)) = 0 := where_on (by omega) (vertex_on (by omega) j)
    have hne : ∀ k, k < p.length → k ≠ j → PP p (j + 1) ≠ PP p (k + 1) := fun k hk hkj e => by
      rcases Nat.lt_or_gt_of_ne hkj with h1 | h1
      · have := hp.distinct (k + 1) (j - k) (by omega) (by omega)
        rw [show k + 1 + (j - k) = j + 1 by omega] at this
        exact this e
      · have := hp.distinct (j + 1) (k - j) (by omega) (by omega)
        rw [show j + 1 + (k - j) = k + 1 by omega] at this
        exact this e.symm
    rw [sumZ_one hj fun k hk hkj => if_neg (hne k hk hkj), sumZ_one hj fun k hk hkj => if_neg (hne k hk hkj), if_pos rfl, if_pos rfl, hw]
    refine ⟨?_, by decide, .inr (.inl rfl)⟩
    have h1 := Cn_all hp j
    rw [hC] at h1
    unfold Cn at h1
    have h2 : TT (PP p) p.length (PP p (j + 1)) = 2 * s - tau (PP p) j := by omega
    rw [h2, Int.mul_sub, hss]; simp; omega
  · have hv0 : ∀ f : Nat → Int, sumZ (fun j => if z = PP p (j + 1) then f j else 0) p.length = 0 := fun f => by
      rw [sumZ_congr (g := fun _ => 0) fun k hk => if_neg fun e => hv ⟨k, hk, e⟩]
      exact sumZ_zero _
    rw [hv0, hv0 (fun _ => 1)]
    by_cases hon : ∃ i, hasB (PP p i, PP p (i + 1)) z = true
    · obtain ⟨i, hi⟩ := hon
      have hw : whereZ p z = 0 := where_on (by omega) hi
      have hvi : ∀ i, z ≠ PP p (i + 1) := fun i e => hv ⟨i % p.length, Nat.mod_lt _ (by omega), by rw [e]; unfold PP; rw [Nat.mod_add_mod]⟩
      have hin : Inner z (PP p i) (PP p (i + 1)) := by
        rcases on_edge hi with h | h | h
        · exact absurd (by rw [h]; have := PP_per p i; rw [show i + p.length = (i + p.length - 1) + 1 by omega] at this; exact this.symm) (hvi (i + p.length - 1))
        · exact absurd h (hvi i)
        · exact h
      rw [TT_inner hp hin, hC, hss, hw]
      exact ⟨by simp, by decide, .inr (.inl rfl)⟩
    · have hoff : ∀ i, hasB (PP p i, PP p (i + 1)) z = false := fun i => by
        rcases h : hasB (PP p i, PP p (i + 1)) z with _ | _
        · rfl
        · exact absurd ⟨i, h⟩ hon
      obtain ⟨r, hr1, hr2⟩ := where_off hoff
      have hT := TT_off hp z fun i e => by have := (has_iff _ _ _).2 e; rw [hoff i] at this; exact absurd this (by decide)
      have hcase : r = 0 ∨ r = s := by
        rcases hT with h | ⟨s2, h1, h2⟩
        · left; omega
        · rw [hC] at h2
          rcases hs with rfl | rfl <;> rcases h1 with rfl | rfl <;> omega
      rcases hcase with rfl | rfl
      · rw [hr2, hr1]; exact ⟨by simp, by decide, .inr (.inr rfl)⟩
      · have h3 : ¬ r % 2 = 0 := by rcases hs with rfl | rfl <;> decide
        rw [hr2, hr1, if_neg h3]
        refine ⟨?_, by decide, .inl rfl⟩
        have : r * (4 * r) = 4 := by rcases hs with rfl | rfl <;> decide
        rw [this]; simp
/-- Pick. -/
theorem pick (hn : 3 ≤ p.length) (hsm : simpleB (edgesL p) = true) {X0 Y0 : Int} {W H : Nat} (hin : ∀ i, X0 ≤ (PP p i).1 ∧ (PP p i).1 ≤ X0 + W ∧ Y0 ≤ (PP p i).2 ∧ (PP p i).2 ≤ Y0 + H) :
    ∃ s : Int, (s = 1 ∨ s = -1) ∧ s * twiceZ p = 2 * boxS X0 Y0 W H (fun z => if whereZ p z = 1 then 1 else 0) + boxS X0 Y0 W H (fun z => if whereZ p z = 0 then 1 else 0) - 2 ∧ 3 ≤ boxS X0 Y0 W H (fun z => if whereZ p z = 0 then 1 else 0) ∧ 0 ≤ boxS X0 Y0 W H (fun z => if whereZ p z = 1 then 1 else 0) := by
  have hp := ((sm_iff hn).1 hsm).poly hn (PP_per p)
  obtain ⟨s, hs, hC⟩ := Cn_two hp
  have hss : s * (2 * s) = 2 := by rcases hs with rfl | rfl <;> decide
  have hL := point_law hn hp hs hC
  have h1 : s * (2 * twiceZ p) = boxS X0 Y0 W H (fun z => s * TT (PP p) p.length z) := by
    rw [boxS_mul, twice_cr, ← box_sum (PP_per p) hin]; rfl
  have h2 : boxS X0 Y0 W H (fun z => s * TT (PP p) p.length z) = 4 * boxS X0 Y0 W H (fun z => if whereZ p z = 1 then 1 else 0) + 2 * boxS X0 Y0 W H (fun z => if whereZ p z = 0 then 1 else 0) + -(s * sumZ (tau (PP p)) p.length) := by
    rw [boxS_congr fun z => (hL z).1, boxS_add, boxS_add, boxS_mul, boxS_mul]
    have h3 : boxS X0 Y0 W H (fun z => -sumZ (fun j => if z = PP p (j + 1) then s * tau (PP p) j else 0) p.length) = -(s * sumZ (tau (PP p)) p.length) := by
      have h4 : boxS X0 Y0 W H (fun z => -sumZ (fun j => if z = PP p (j + 1) then s * tau (PP p) j else 0) p.length) = -1 * boxS X0 Y0 W H (fun z => sumZ (fun j => if z = PP p (j + 1) then s * tau (PP p) j else 0) p.length) := by
        rw [← boxS_mul]
        exact boxS_congr fun z => by omega
      rw [h4, boxS_sum X0 Y0 W H p.length (fun j z => if z = PP p (j + 1) then s * tau (PP p) j else 0), sumZ_congr fun j _ => boxS_one (s * tau (PP p) j) (hin (j + 1)), sumZ_mul]
      omega
    rw [h3]
  have hB : (p.length : Int) ≤ boxS X0 Y0 W H (fun z => if whereZ p z = 0 then 1 else 0) := by
    have h5 := boxS_mono (X0 := X0) (Y0 := Y0) (W := W) (H := H) fun z => (hL z).2.1
    rw [boxS_sum X0 Y0 W H p.length (fun j z => if z = PP p (j + 1) then 1 else 0), sumZ_congr fun j _ => boxS_one 1 (hin (j + 1))] at h5
    have h6 : ∀ n : Nat, sumZ (fun _ => (1 : Int)) n = n := fun n => by
      induction n with
      | zero => rfl
      | succ n ih => simp only [sumZ]; rw [ih]; omega
    rw [h6] at h5
    exact h5
  have hI : 0 ≤ boxS X0 Y0 W H (fun z => if whereZ p z = 1 then 1 else 0) := by
    have h5 := boxS_mono (X0 := X0) (Y0 := Y0) (W := W) (H := H) (f := fun _ => 0) (g := fun z => if whereZ p z = 1 then (1 : Int) else 0) fun z => by show (0 : Int) ≤ (if whereZ p z = 1 then (1 : Int) else 0); split <;> omega
    have h6 : boxS X0 Y0 W H (fun _ => 0) = 0 := by
      unfold boxS
      rw [sumZ_congr (g := fun _ => 0) fun x _ => sumZ_zero _]
      exact sumZ_zero _
    rw [h6] at h5; exact h5
  rw [h2, tau_sum hp, hC] at h1
  have e1 : s * (2 * twiceZ p) = 2 * (s * twiceZ p) := by grind
  have e2 : s * (2 * (2 * s)) = 4 := by rcases hs with rfl | rfl <;> decide
  rw [e1, e2] at h1
  exact ⟨s, hs, by omega, by omega, hI⟩
theorem PP_ok (hn : 0 < p.length) (hok : p.all okP = true) (i : Nat) : okP (PP p i) = true := ok_all hok (Nat.mod_lt _ hn)
/-- A simple polygon has an area. -/
theorem twice_ne (hn : 3 ≤ p.length) (hsm : simpleB (edgesL p) = true) (hok : p.all okP = true) : twiceZ p ≠ 0 := by
  obtain ⟨s, _, h1, h2, h3⟩ := pick (X0 := -16384) (Y0 := -16384) (W := 32768) (H := 32768) hn hsm fun i => by
    have := okP_t (PP_ok (by omega) hok i); omega
  intro e
  rw [e] at h1; omega
end
end Go.Proofs.Ytomnodpmpdodbaa
