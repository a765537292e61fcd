/- Plain laws of zones: the greatest one is alone; discs and points; greater discs; the opposite order. -/
import Derived.Test.YtgjfidknedojbaaZoneI
namespace Go.Proofs.Ytgjfidknedojbaa
open Go.RowKit
/-- A point at distance 0 of an edge lies on it. -/
theorem zero_on {a b c : Pt} (hne : b ≠ c) (h : cmpZ b c a 0 ≤ 0) : hasB (b, c) a = true := by
  have hL := sq_len hne
  have key : crossZ b c a = 0 ∧ dotZ a b c ≤ 0 := by
    unfold cmpZ at h
    split at h
    · have e : a = b := by
        rcases Classical.em (a = b) with e | e
        · exact e
        · have := sq_len e; simp at h; omega
      subst e
      constructor
      · unfold crossZ; grind
      · unfold dotZ; simp
    · split at h
      · have e : a = c := by
          rcases Classical.em (a = c) with e | e
          · exact e
          · have := sq_len e; simp at h; omega
        subst e
        constructor
        · unfold crossZ; grind
        · unfold dotZ; simp
      · rename_i h1 h2
        have h3 : crossZ b c a * crossZ b c a ≤ 0 := by simp at h; omega
        have h4 : crossZ b c a = 0 := by
          rcases Classical.em (crossZ b c a = 0) with e | e
          · exact e
          · have := sq_pos e; omega
        refine ⟨h4, ?_⟩
        have e0 : dotZ a b c = sqZ a b - dotZ b a c := by unfold dotZ sqZ; grind
        have e1 : dotZ b a c * dotZ b a c = sqZ b c * sqZ a b := by
          have l1 := lagr (c.1 - b.1) (c.2 - b.2) (a.1 - b.1) (a.2 - b.2)
          have l2 : (c.1 - b.1) * (a.2 - b.2) - (c.2 - b.2) * (a.1 - b.1) = 0 := by unfold crossZ at h4; omega
          rw [l2] at l1
          unfold dotZ sqZ; grind
        rcases Int.lt_or_le (dotZ b a c) (sqZ a b) with h5 | h5
        · have p1 : dotZ b a c * dotZ b a c < sqZ b c * dotZ b a c := Int.mul_lt_mul_of_pos_right (by omega) (by omega)
          have p2 : sqZ b c * dotZ b a c ≤ sqZ b c * sqZ a b := Int.mul_le_mul_of_nonneg_left (by omega) (Int.le_of_lt hL)
          omega
        · omega
  unfold hasB
  rw [decide_eq_true (show crossZ (b, c).1 (b, c).2 a = 0 from key.1), decide_eq_true (show dotZ a (b, c).1 (b, c).2 ≤ 0 from key.2)]
  rfl
/-- A disc of radius 0 touches what its centre is in. -/
theorem touch_in {p : List Pt} {a : Pt} (hp : checkZ p = 0) (ha : okP a = true) (ht : touchB p a 0 = true) : 0 ≤ insZ p a := by
  have iE : insE p a = 0 := by unfold insE; rw [if_pos hp, if_pos ha]
  have dE : discE p a 0 = 0 := by unfold discE; rw [if_pos iE, if_pos ⟨by decide, by decide⟩]
  have eI : discI p a 0 = whereZ p a := by unfold discI; rw [if_pos dE]
  have eL : discL p a 0 = leastF (edgesL p) a 0 1 := by unfold discL; rw [if_pos dE]
  have eq : insZ p a = whereZ p a := by unfold insZ; rw [if_pos iE]
  unfold touchB at ht
  rw [eI, eL] at ht
  simp only [dE, decide_true, Bool.true_and, Bool.or_eq_true, decide_eq_true_eq, least_le] at ht
  rw [eq]
  rcases ht with g | g | ⟨e, he, g⟩
  · exact g
  · omega
  · have wa := (whereF_on (c := a) (edgesL p) (-1) (.inr rfl)).1
    have : whereZ p a = 0 := wa.2 ⟨e, he, zero_on (nondeg hp e he) g⟩
    omega
theorem cover_touch {p : List Pt} {a : Pt} {r : Int} (h : coverB p a r = true) : touchB p a r = true := by
  unfold coverB at h; unfold touchB
  simp only [Bool.and_eq_true] at h
  rw [h.1.1, h.1.2]; rfl
/-! What a list without error is. -/
theorem firstE_all {l : List Zn} (h : firstE l = 0) : ∀ z ∈ l, oneZ z = 0 := by
  induction l with
  | nil => intro z hz; cases hz
  | cons y l ih =>
    unfold firstE at h
    by_cases g : oneZ y = 0
    · rw [if_neg (by rw [g]; decide)] at h
      intro z hz
      rcases List.mem_cons.1 hz with rfl | hz
      · exact g
      · exact ih h z hz
    · rw [if_pos g] at h; exact absurd h g
theorem firstE_of {l : List Zn} (h : ∀ z ∈ l, oneZ z = 0) : firstE l = 0 := by
  induction l with
  | nil => rfl
  | cons y l ih =>
    unfold firstE
    rw [if_neg (by rw [h y (List.mem_cons_self ..)]; decide)]
    exact ih fun z hz => h z (List.mem_cons_of_mem _ hz)
theorem zcheck_inv {l : List Zn} (h : zcheckZ l = 0) : l.length ≤ 16 ∧ firstE l = 0 ∧ twins l = false := by
  unfold zcheckZ at h
  by_cases g : 16 < l.length
  · rw [if_pos g] at h; exact absurd h (by decide)
  · rw [if_neg g] at h
    by_cases g1 : firstE l = 0
    · rw [if_neg (fun e => e g1)] at h
      rcases g2 : twins l with _ | _
      · exact ⟨by omega, g1, rfl⟩
      · rw [if_pos g2] at h; exact absurd h (by decide)
    · rw [if_pos g1] at h; exact absurd h g1
theorem zcheck_of {l : List Zn} (h : l.length ≤ 16) (h1 : firstE l = 0) (h2 : twins l = false) : zcheckZ l = 0 := zcheck_ok (by omega) h1 h2
theorem one_inv {z : Zn} (h : oneZ z = 0) : checkZ z.p = 0 ∧ 0 ≤ z.r ∧ z.r ≤ 1000000 := by
  unfold oneZ at h
  split at h
  · exact absurd h (by decide)
  · split at h
    · rename_i g; exact absurd h g
    · rename_i g
      split at h
      · exact absurd h (by decide)
      · exact ⟨by omega, by omega, by omega⟩
theorem zat_mem {l : List Zn} {k : Nat} (h : k < l.length) : zAt l k ∈ l := by rw [zAt_get h]; exact List.getElem_mem h
theorem zcheck_at {l : List Zn} (h : zcheckZ l = 0) {k : Nat} (hk : k < l.length) : checkZ (zAt l k).p = 0 ∧ 0 ≤ (zAt l k).r ∧ (zAt l k).r ≤ 1000000 :=
  one_inv (firstE_all (zcheck_inv h).2.1 _ (zat_mem hk))
theorem twins_f {l : List Zn} (h : twins l = false) {i k : Nat} (hi : i < l.length) (hk : k < i) : twinB (zAt l k) (zAt l i) = false := by
  rcases g : twinB (zAt l k) (zAt l i) with _ | _
  · rfl
  · rw [twins_yes hi hk g] at h; cases h
theorem twin_rank {y z : Zn} (h : twinB y z = false) : y.r ≠ z.r := by
  unfold twinB at h
  rw [Bool.or_eq_false_iff] at h
  exact of_decide_eq_false h.2
theorem rank_one {l : List Zn} (h : zcheckZ l = 0) {i k : Nat} (hi : i < l.length) (hk : k < l.length) (he : (zAt l k).r = (zAt l i).r) : k = i := by
  rcases Nat.lt_trichotomy k i with g | g | g
  · exact absurd he (twin_rank (twins_f (zcheck_inv h).2.2 hi g))
  · exact g
  · exact absurd he.symm (twin_rank (twins_f (zcheck_inv h).2.2 hk g))
theorem okD_inv {l : List Zn} {p : Pt} {r : Int} (h : okD l p r = true) : zcheckZ l = 0 ∧ ∀ k, k < l.length → discE (zAt l k).p p r = 0 := by
  unfold okD at h
  rw [Bool.and_eq_true, List.all_eq_true] at h
  exact ⟨of_decide_eq_true h.1, fun k hk => of_decide_eq_true (h.2 _ (zat_mem hk))⟩
theorem okD_of {l : List Zn} {p : Pt} {r : Int} (h : zcheckZ l = 0) (hp : okP p = true) (h0 : 0 ≤ r) (h1 : r ≤ 16384) : okD l p r = true :=
  okD_yes h fun k hk => by
    have := (zcheck_at h hk).1
    rw [zAt_get hk] at this
    unfold discE insE
    rw [if_pos this, if_pos hp, if_pos rfl, if_pos ⟨h0, h1⟩]
theorem okD_pt {l : List Zn} {p : Pt} {r : Int} (h : okD l p r = true) {k : Nat} (hk : k < l.length) : checkZ (zAt l k).p = 0 ∧ okP p = true ∧ 0 ≤ r ∧ r ≤ 16384 := by
  have h1 := discE_inv ((okD_inv h).2 k hk)
  have h2 := insE_inv h1.1
  exact ⟨h2.1, h2.2, h1.2⟩
theorem mT (l : List Zn) (p : Pt) (r : Int) {k : Nat} (hk : k < l.length) : mAt (touchL l p r) k = touchB (zAt l k).p p r := by
  rw [mAt_get (by simpa [touchL] using hk), zAt_get hk]; simp [touchL]
theorem mC (l : List Zn) (p : Pt) (r : Int) {k : Nat} (hk : k < l.length) : mAt (coverL l p r) k = coverB (zAt l k).p p r := by
  rw [mAt_get (by simpa [coverL] using hk), zAt_get hk]; simp [coverL]
theorem above_f {l : List Zn} {m : List Bool} {i : Nat} : aboveB l m i = false ↔ ∀ k, k < l.length → mAt m k = true → (zAt l k).r ≤ (zAt l i).r := by
  refine ⟨fun h k hk hm => ?_, above_no⟩
  rcases Int.lt_or_le (zAt l i).r (zAt l k).r with g | g
  · rw [above_yes hk hm g] at h; cases h
  · exact g
theorem good_iff {l : List Zn} {t c : List Bool} {i : Nat} : goodB l t c i = true ↔ mAt c i = true ∧ ∀ k, k < l.length → mAt t k = true → (zAt l k).r ≤ (zAt l i).r := by
  unfold goodB
  rw [Bool.and_eq_true, ← above_f, Bool.not_eq_true']
theorem firstG_inv {l : List Zn} {t c : List Bool} {i : Nat} (h : firstG l t c = some i) : i < l.length ∧ goodB l t c i = true := by
  unfold firstG at h
  exact ⟨by have := List.mem_of_find?_eq_some h; simpa using this, List.find?_some h⟩
theorem firstG_no {l : List Zn} {t c : List Bool} (h : firstG l t c = none) {i : Nat} (hi : i < l.length) : goodB l t c i = false := by
  unfold firstG at h
  rw [List.find?_eq_none] at h
  have := h i (by simpa using hi)
  rcases g : goodB l t c i with _ | _
  · rfl
  · exact absurd g this
theorem good_one {l : List Zn} {t c : List Bool} (hz : zcheckZ l = 0) (hct : ∀ k, k < l.length → mAt c k = true → mAt t k = true) {i j : Nat} (hi : i < l.length) (hj : j < l.length) (gi : goodB l t c i = true) (gj : goodB l t c j = true) : i = j := by
  rw [good_iff] at gi gj
  have h1 := gi.2 j hj (hct j hj gj.1)
  have h2 := gj.2 i hi (hct i hi gi.1)
  exact rank_one hz hj hi (by omega)
theorem firstG_of {l : List Zn} {t c : List Bool} (hz : zcheckZ l = 0) (hct : ∀ k, k < l.length → mAt c k = true → mAt t k = true) {i : Nat} (hi : i < l.length) (gi : goodB l t c i = true) : firstG l t c = some i := by
  rcases h : firstG l t c with _ | j
  · rw [firstG_no h hi] at gi; cases gi
  · obtain ⟨hj, gj⟩ := firstG_inv h
    rw [good_one hz hct hi hj gi gj]
theorem ct_of {l : List Zn} {p : Pt} {r : Int} : ∀ k, k < l.length → mAt (coverL l p r) k = true → mAt (touchL l p r) k = true := fun k hk h => by
  rw [mC l p r hk] at h; rw [mT l p r hk]; exact cover_touch h
/-- What Sure says. -/
theorem sure_inv {l : List Zn} {p : Pt} {r : Int} {i : Nat} (h : sureZ l p r = some i) : okD l p r = true ∧ i < l.length ∧ coverB (zAt l i).p p r = true ∧ ∀ k, k < l.length → touchB (zAt l k).p p r = true → (zAt l k).r ≤ (zAt l i).r := by
  unfold sureZ at h
  rcases g : okD l p r with _ | _
  · rw [if_neg (by rw [g]; decide)] at h; cases h
  · rw [if_pos g] at h
    obtain ⟨hi, gi⟩ := firstG_inv h
    rw [good_iff, mC l p r hi] at gi
    exact ⟨rfl, hi, gi.1, fun k hk ht => gi.2 k hk (by rw [mT l p r hk]; exact ht)⟩
theorem sure_of {l : List Zn} {p : Pt} {r : Int} {i : Nat} (h : okD l p r = true) (hi : i < l.length) (hc : coverB (zAt l i).p p r = true) (ht : ∀ k, k < l.length → touchB (zAt l k).p p r = true → (zAt l k).r ≤ (zAt l i).r) : sureZ l p r = some i := by
  unfold sureZ
  rw [if_pos h]
  exact firstG_of (okD_inv h).1 ct_of hi (good_iff.2 ⟨by rw [mC l p r hi]; exact hc, fun k hk g => ht k hk (by rw [mT l p r hk] at g; exact g)⟩)
theorem poss_mem {l : List Zn} {p : Pt} {r : Int} {i : Nat} : i ∈ possZ l p r ↔ okD l p r = true ∧ i < l.length ∧ touchB (zAt l i).p p r = true ∧ ∀ k, k < l.length → coverB (zAt l k).p p r = true → (zAt l k).r ≤ (zAt l i).r := by
  unfold possZ
  rcases g : okD l p r with _ | _
  · rw [if_neg (by decide)]; simp
  · rw [if_pos rfl]
    unfold allG upG
    rw [List.mem_filter, List.mem_range, good_iff]
    constructor
    · rintro ⟨hi, h1, h2⟩
      rw [mT l p r hi] at h1
      exact ⟨rfl, hi, h1, fun k hk hc => h2 k hk (by rw [mC l p r hk]; exact hc)⟩
    · rintro ⟨_, hi, h1, h2⟩
      exact ⟨hi, by rw [mT l p r hi]; exact h1, fun k hk hc => h2 k hk (by rw [mC l p r hk] at hc; exact hc)⟩
theorem poss_sorted (l : List Zn) (p : Pt) (r : Int) : (possZ l p r).Pairwise (· < ·) := by
  unfold possZ
  split
  · unfold allG upG
    exact List.Pairwise.filter _ List.pairwise_lt_range
  · exact List.Pairwise.nil
theorem sorted_one {l : List Nat} {i : Nat} (hs : l.Pairwise (· < ·)) (hi : i ∈ l) (ha : ∀ j ∈ l, j = i) : l = [i] := by
  match l, hs, hi, ha with
  | [], _, hi, _ => cases hi
  | [x], _, _, ha => rw [ha x (List.mem_cons_self ..)]
  | x :: y :: l, hs, _, ha =>
    have h1 := ha x (List.mem_cons_self ..)
    have h2 := ha y (List.mem_cons_of_mem _ (List.mem_cons_self ..))
    have := (List.pairwise_cons.1 hs).1 y (List.mem_cons_self ..)
    omega
/-- A sure zone is the only possible one. -/
theorem sure_poss {l : List Zn} {p : Pt} {r : Int} {i : Nat} (h : sureZ l p r = some i) : possZ l p r = [i] := by
  obtain ⟨ho, hi, hc, ht⟩ := sure_inv h
  refine sorted_one (poss_sorted l p r) (poss_mem.2 ⟨ho, hi, cover_touch hc, fun k hk g => ht k hk (cover_touch g)⟩) fun j hj => ?_
  obtain ⟨_, hjl, h1, h2⟩ := poss_mem.1 hj
  have := ht j hjl h1
  have := h2 i hi hc
  exact rank_one (okD_inv ho).1 hi hjl (by omega)
/-- Without a sure zone a single point has no possible one. -/
theorem none_poss {l : List Zn} {p : Pt} (h : sureZ l p 0 = none) : possZ l p 0 = [] := by
  rcases hl : possZ l p 0 with _ | ⟨j, m⟩
  · rfl
  · exfalso
    obtain ⟨ho, hj, h1, h2⟩ := poss_mem.1 (show j ∈ possZ l p 0 by rw [hl]; exact List.mem_cons_self ..)
    have tc : ∀ k, k < l.length → touchB (zAt l k).p p 0 = true → coverB (zAt l k).p p 0 = true := fun k hk g => by
      obtain ⟨a1, a2, _⟩ := okD_pt ho hk
      exact ((disc_law a1 a2 a2 (Int.le_refl 0) (by decide) (by unfold sqZ; simp)).2.2 rfl).1 (touch_in a1 a2 g)
    rw [sure_of ho hj (tc j hj h1) fun k hk g => h2 k hk (tc k hk g)] at h
    cases h
/-- The zone of a point of the disc. -/
theorem disc_poss {l : List Zn} {p q : Pt} {r : Int} {k : Nat} (ho : okD l p r = true) (hd : sqZ p q ≤ r * r) (h : sureZ l q 0 = some k) : k ∈ possZ l p r := by
  obtain ⟨ho2, hk, hc, ht⟩ := sure_inv h
  obtain ⟨a1, a2, a3, a4⟩ := okD_pt ho hk
  obtain ⟨_, b2, _⟩ := okD_pt ho2 hk
  refine poss_mem.2 ⟨ho, hk, ?_, fun m hm g => ?_⟩
  · exact (disc_law a1 a2 b2 a3 a4 hd).2.1 (((disc_law a1 b2 b2 (Int.le_refl 0) (by decide) (by unfold sqZ; simp)).2.2 rfl).2 hc)
  · obtain ⟨c1, _⟩ := okD_pt ho hm
    exact ht m hm (cover_touch (((disc_law c1 b2 b2 (Int.le_refl 0) (by decide) (by unfold sqZ; simp)).2.2 rfl).1 ((disc_law c1 a2 b2 a3 a4 hd).1 g)))
theorem disc_sure {l : List Zn} {p q : Pt} {r : Int} {i : Nat} (hq : okP q = true) (hd : sqZ p q ≤ r * r) (h : sureZ l p r = some i) : sureZ l q 0 = some i := by
  obtain ⟨ho, hi, hc, ht⟩ := sure_inv h
  have hz := (okD_inv ho).1
  obtain ⟨a1, a2, a3, a4⟩ := okD_pt ho hi
  refine sure_of (okD_of hz hq (Int.le_refl 0) (by decide)) hi ?_ fun k hk g => ht k hk ?_
  · exact ((disc_law a1 hq hq (Int.le_refl 0) (by decide) (by unfold sqZ; simp)).2.2 rfl).1 ((disc_law a1 a2 hq a3 a4 hd).1 hc)
  · obtain ⟨c1, _⟩ := okD_pt ho hk
    exact (disc_law c1 a2 hq a3 a4 hd).2.1 (touch_in c1 hq g)
/-! Greater discs. -/
theorem sgn_mono {x y : Int} (h : x ≤ y) : sgn x ≤ sgn y := by
  rcases Int.lt_trichotomy y 0 with h1 | h1 | h1
  · rw [sgn_neg h1, sgn_neg (by omega)]; exact Int.le_refl _
  · subst h1
    rcases Int.lt_or_le x 0 with h2 | h2
    · rw [sgn_neg h2]; decide
    · obtain rfl : x = 0 := by omega
      exact Int.le_refl _
  · rw [sgn_pos h1]; exact (sgn_bd x).2
theorem dot_self (a b : Pt) : 0 ≤ dotZ a b b := by
  unfold dotZ
  have := sq_nn (b.1 - a.1); have := sq_nn (b.2 - a.2)
  omega
theorem near_mono (e : Ed) (a : Pt) {r s : Int} (h0 : 0 ≤ r) (h : r ≤ s) : nearZ e a s ≤ nearZ e a r := by
  have hq : r * r ≤ s * s := Int.mul_le_mul h h h0 (by omega)
  unfold nearZ
  split
  · exact sgn_mono (by omega)
  · split
    · exact sgn_mono (by omega)
    · exact sgn_mono (by have := Int.mul_le_mul_of_nonneg_right hq (dot_self e.1 e.2); omega)
theorem least_mono (a : Pt) {r s : Int} (h0 : 0 ≤ r) (h : r ≤ s) : ∀ (l : List Ed) (m n : Int), m ≤ n → leastF l a s m ≤ leastF l a r n
  | [], _, _, hm => hm
  | e :: l, m, n, hm => least_mono a h0 h l _ _ (by have := near_mono e a h0 h; omega)
theorem discE_same (p : List Pt) (a : Pt) {r s : Int} (h0 : 0 ≤ r) (h : r ≤ s) (h1 : s ≤ 16384) : discE p a s = discE p a r := by
  unfold discE
  split
  · rw [if_pos ⟨by omega, h1⟩, if_pos ⟨h0, by omega⟩]
  · rfl
theorem touch_mono {p : List Pt} {a : Pt} {r s : Int} (h0 : 0 ≤ r) (h : r ≤ s) (h1 : s ≤ 16384) (ht : touchB p a r = true) : touchB p a s = true := by
  unfold touchB at *
  have hE := discE_same p a h0 h h1
  by_cases h2 : discE p a r = 0
  · have h3 : discE p a s = 0 := by rw [hE, h2]
    rw [decide_eq_true h2, Bool.true_and] at ht
    rw [decide_eq_true h3, Bool.true_and]
    have e1 : discI p a s = discI p a r := by unfold discI; rw [if_pos h3, if_pos h2]
    have e2 : discL p a s ≤ discL p a r := by unfold discL; rw [if_pos h3, if_pos h2]; exact least_mono a h0 h _ _ _ (Int.le_refl _)
    rw [e1]
    simp only [Bool.or_eq_true, decide_eq_true_eq] at ht ⊢
    omega
  · rw [decide_eq_false h2] at ht; exact absurd ht (by simp)
theorem cover_mono {p : List Pt} {a : Pt} {r s : Int} (h0 : 0 ≤ r) (h : r ≤ s) (h1 : s ≤ 16384) (ht : coverB p a s = true) : coverB p a r = true := by
  unfold coverB at *
  have hE := discE_same p a h0 h h1
  by_cases h2 : discE p a s = 0
  · have h3 : discE p a r = 0 := by rw [← hE, h2]
    rw [decide_eq_true h2, Bool.true_and] at ht
    rw [decide_eq_true h3, Bool.true_and]
    have e1 : discI p a s = discI p a r := by unfold discI; rw [if_pos h3, if_pos h2]
    have e2 : discL p a s ≤ discL p a r := by unfold discL; rw [if_pos h3, if_pos h2]; exact least_mono a h0 h _ _ _ (Int.le_refl _)
    rw [e1] at ht
    simp only [Bool.and_eq_true, decide_eq_true_eq] at ht ⊢
    omega
  · rw [decide_eq_false h2] at ht; exact absurd ht (by simp)
theorem okD_same (l : List Zn) (p : Pt) {r s : Int} (h0 : 0 ≤ r) (h : r ≤ s) (h1 : s ≤ 16384) : okD l p s = okD l p r := by
  unfold okD
  congr 1
  rw [show (fun z : Zn => decide (discE z.p p s = 0)) = fun z : Zn => decide (discE z.p p r = 0) from funext fun z => by rw [discE_same z.p p h0 h h1]]
theorem poss_grow {l : List Zn} {p : Pt} {r s : Int} (h0 : 0 ≤ r) (h : r ≤ s) (h1 : s ≤ 16384) {i : Nat} (hi : i ∈ possZ l p r) : i ∈ possZ l p s := by
  obtain ⟨a1, a2, a3, a4⟩ := poss_mem.1 hi
  exact poss_mem.2 ⟨by rw [okD_same l p h0 h h1]; exact a1, a2, touch_mono h0 h h1 a3, fun k hk g => a4 k hk (cover_mono h0 h h1 g)⟩
theorem sure_grow {l : List Zn} {p : Pt} {r s : Int} (h0 : 0 ≤ r) (h : r ≤ s) (h1 : s ≤ 16384) {i : Nat} (hi : sureZ l p s = some i) : sureZ l p r = some i := by
  obtain ⟨a1, a2, a3, a4⟩ := sure_inv hi
  exact sure_of (by rw [← okD_same l p h0 h h1]; exact a1) a2 (cover_mono h0 h h1 a3) fun k hk g => a4 k hk (touch_mono h0 h h1 g)
/-! The opposite order. -/
theorem zat_rev {l : List Zn} {k : Nat} (hk : k < l.length) : zAt l.reverse k = zAt l (l.length - 1 - k) := by
  rw [zAt_get (by simpa using hk), zAt_get (by omega), List.getElem_reverse]
theorem twin_symm (y z : Zn) : twinB y z = twinB z y := by
  unfold twinB
  congr 1
  · exact Bool.eq_iff_iff.2 (by simp only [beq_iff_eq]; exact eq_comm)
  · exact decide_eq_decide.2 eq_comm
theorem zcheck_rev1 {l : List Zn} (h : zcheckZ l = 0) : zcheckZ l.reverse = 0 := by
  obtain ⟨h1, h2, h3⟩ := zcheck_inv h
  refine zcheck_of (by simpa using h1) (firstE_of fun z hz => firstE_all h2 z (by simpa using hz)) (twins_no fun i k hi hk => ?_)
  have hi' : i < l.length := by simpa using hi
  rw [zat_rev hi', zat_rev (by omega), twin_symm]
  exact twins_f h3 (by omega) (by omega)
theorem zcheck_rev (l : List Zn) : zcheckZ l.reverse = 0 ↔ zcheckZ l = 0 :=
  ⟨fun h => by have := zcheck_rev1 h; rwa [List.reverse_reverse] at this, zcheck_rev1⟩
theorem okD_rev (l : List Zn) (p : Pt) (r : Int) : okD l.reverse p r = okD l p r := by
  unfold okD
  rw [List.all_reverse]
  congr 1
  exact decide_eq_decide.2 (zcheck_rev l)
theorem sure_rev1 {l : List Zn} {p : Pt} {r : Int} {i : Nat} (h : sureZ l p r = some i) : sureZ l.reverse p r = some (l.length - 1 - i) := by
  obtain ⟨a1, a2, a3, a4⟩ := sure_inv h
  have e : zAt l.reverse (l.length - 1 - i) = zAt l i := by rw [zat_rev (by omega)]; congr 1; omega
  refine sure_of (by rw [okD_rev]; exact a1) (by rw [List.length_reverse]; omega) (by rw [e]; exact a3) fun k hk g => ?_
  have hk' : k < l.length := by simpa using hk
  rw [e]
  rw [zat_rev hk'] at g ⊢
  exact a4 _ (by omega) g
theorem sure_rev (l : List Zn) (p : Pt) (r : Int) : sureZ l.reverse p r = (sureZ l p r).map fun i => l.length - 1 - i := by
  rcases h : sureZ l p r with _ | i
  · rcases h2 : sureZ l.reverse p r with _ | j
    · rfl
    · have := sure_rev1 h2
      rw [List.reverse_reverse, h] at this
      cases this
  · exact sure_rev1 h
theorem sorted_ext {l m : List Nat} (hl : l.Pairwise (· < ·)) (hm : m.Pairwise (· < ·)) (h : ∀ x, x ∈ l ↔ x ∈ m) : l = m := by
  induction l generalizing m with
  | nil =>
    rcases m with _ | ⟨y, m⟩
    · rfl
    · exact absurd ((h y).2 (List.mem_cons_self ..)) (by simp)
  | cons x l ih =>
    rcases m with _ | ⟨y, m⟩
    · exact absurd ((h x).1 (List.mem_cons_self ..)) (by simp)
    · have hl' := List.pairwise_cons.1 hl
      have hm' := List.pairwise_cons.1 hm
      have e : x = y := by
        have h1 := (h x).1 (List.mem_cons_self ..)
        have h2 := (h y).2 (List.mem_cons_self ..)
        rcases List.mem_cons.1 h1 with e | h1
        · exact e
        · rcases List.mem_cons.1 h2 with e | h2
          · exact e.symm
          · have := hl'.1 y h2; have := hm'.1 x h1; omega
      subst e
      rw [ih hl'.2 hm'.2 fun z => ?_]
      constructor
      · intro hz
        rcases List.mem_cons.1 ((h z).1 (List.mem_cons_of_mem _ hz)) with e | e
        · subst e; exact absurd (hl'.1 z hz) (Nat.lt_irrefl z)
        · exact e
      · intro hz
        rcases List.mem_cons.1 ((h z).2 (List.mem_cons_of_mem _ hz)) with e | e
        · subst e; exact absurd (hm'.1 z hz) (Nat.lt_irrefl z)
        · exact e
theorem poss_rev1 {l : List Zn} {p : Pt} {r : Int} {i : Nat} (h : i ∈ possZ l p r) : l.length - 1 - i ∈ possZ l.reverse p r := by
  obtain ⟨a1, a2, a3, a4⟩ := poss_mem.1 h
  have e : zAt l.reverse (l.length - 1 - i) = zAt l i := by rw [zat_rev (by omega)]; congr 1; omega
  refine poss_mem.2 ⟨by rw [okD_rev]; exact a1, by rw [List.length_reverse]; omega, by rw [e]; exact a3, fun k hk g => ?_⟩
  have hk' : k < l.length := by simpa using hk
  rw [e]
  rw [zat_rev hk'] at g ⊢
  exact a4 _ (by omega) g
theorem poss_lt {l : List Zn} {p : Pt} {r : Int} {i : Nat} (h : i ∈ possZ l p r) : i < l.length := (poss_mem.1 h).2.1
theorem poss_rev (l : List Zn) (p : Pt) (r : Int) : possZ l.reverse p r = ((possZ l p r).map fun i => l.length - 1 - i).reverse := by
  refine sorted_ext (poss_sorted _ _ _) ?_ fun x => ?_
  · rw [List.pairwise_reverse, List.pairwise_map]
    refine (List.Pairwise.and_mem.1 (poss_sorted l p r)).imp fun {a b} hab => ?_
    have := poss_lt hab.2.1; have := hab.2.2
    omega
  · rw [List.mem_reverse, List.mem_map]
    constructor
    · intro h
      have h1 := poss_rev1 h
      rw [List.reverse_reverse, List.length_reverse] at h1
      have := poss_lt h
      rw [List.length_reverse] at this
      exact ⟨_, h1, by omega⟩
    · rintro ⟨i, hi, rfl⟩
      exact poss_rev1 hi
/-! The reference's Find. -/
def insB (z : Zn) (p : Pt) : Bool := decide (insE z.p p = 0) && decide (0 ≤ insZ z.p p)
def maxO (l : List Zn) (p : Pt) : Nat → Option Nat
  | 0 => none
  | k + 1 => if insB (zAt l k) p = true then match maxO l p k with
    | none => some k
    | some b => if (zAt l b).r < (zAt l k).r then some k else some b
    else maxO l p k
def rfindZ (l : List Zn) (p : Pt) : Option Nat := if zcheckZ l = 0 then maxO l p l.length else none
theorem maxO_inv (l : List Zn) (p : Pt) : ∀ n, (maxO l p n = none → ∀ k, k < n → insB (zAt l k) p = false) ∧ ∀ b, maxO l p n = some b → b < n ∧ insB (zAt l b) p = true ∧ ∀ k, k < n → insB (zAt l k) p = true → (zAt l k).r ≤ (zAt l b).r
  | 0 => ⟨fun _ k hk => absurd hk (Nat.not_lt_zero k), fun b h => by cases h⟩
  | n + 1 => by
    have ih := maxO_inv l p n
    unfold maxO
    rcases h1 : insB (zAt l n) p with _ | _
    · rw [if_neg (by decide)]
      refine ⟨fun h k hk => ?_, fun b h => ?_⟩
      · rcases Nat.lt_or_ge k n with g | g
        · exact ih.1 h k g
        · obtain rfl : k = n := by omega
          exact h1
      · obtain ⟨i1, i2, i3⟩ := ih.2 b h
        refine ⟨by omega, i2, fun k hk g => ?_⟩
        rcases Nat.lt_or_ge k n with g' | g'
        · exact i3 k g' g
        · obtain rfl : k = n := by omega
          rw [h1] at g; cases g
    · rw [if_pos rfl]
      rcases h2 : maxO l p n with _ | b
      · refine ⟨fun h => (by cases h), fun b h => ?_⟩
        injection h with h
        subst h
        refine ⟨by omega, h1, fun k hk g => ?_⟩
        rcases Nat.lt_or_ge k n with g' | g'
        · rw [ih.1 h2 k g'] at g; cases g
        · obtain rfl : k = n := by omega
          exact Int.le_refl _
      · obtain ⟨i1, i2, i3⟩ := ih.2 b h2
        dsimp only
        by_cases g0 : (zAt l b).r < (zAt l n).r
        · rw [if_pos g0]
          refine ⟨fun h => (by cases h), fun b' h => ?_⟩
          injection h with h
          subst h
          refine ⟨by omega, h1, fun k hk g => ?_⟩
          rcases Nat.lt_or_ge k n with g' | g'
          · have := i3 k g' g; omega
          · obtain rfl : k = n := by omega
            exact Int.le_refl _
        · rw [if_neg g0]
          refine ⟨fun h => (by cases h), fun b' h => ?_⟩
          injection h with h
          subst h
          refine ⟨by omega, i2, fun k hk g => ?_⟩
          rcases Nat.lt_or_ge k n with g' | g'
          · exact i3 k g' g
          · obtain rfl : k = n := by omega
            omega
theorem ins_cover {l : List Zn} {p : Pt} (ho : okD l p 0 = true) {k : Nat} (hk : k < l.length) : (insB (zAt l k) p = true ↔ coverB (zAt l k).p p 0 = true) ∧ (insB (zAt l k) p = true ↔ touchB (zAt l k).p p 0 = true) := by
  obtain ⟨a1, a2, _⟩ := okD_pt ho hk
  have e : insE (zAt l k).p p = 0 := by unfold insE; rw [if_pos a1, if_pos a2]
  have d := disc_law a1 a2 a2 (Int.le_refl 0) (by decide) (by unfold sqZ; simp)
  have b : insB (zAt l k) p = true ↔ 0 ≤ insZ (zAt l k).p p := by unfold insB; rw [decide_eq_true e]; simp
  exact ⟨b.trans (d.2.2 rfl), b.trans ⟨d.2.1, touch_in a1 a2⟩⟩
theorem rfind_eq (l : List Zn) (p : Pt) : rfindZ l p = sureZ l p 0 := by
  unfold rfindZ
  by_cases hz : zcheckZ l = 0
  · rw [if_pos hz]
    rcases hp : okP p with _ | _
    · have hno : ∀ k, k < l.length → insB (zAt l k) p = false := fun k hk => by
        unfold insB insE
        rw [if_pos (zcheck_at hz hk).1, hp]
        rfl
      have h1 : sureZ l p 0 = none := by
        rcases h : sureZ l p 0 with _ | i
        · rfl
        · obtain ⟨a1, a2, _⟩ := sure_inv h
          have := (okD_pt a1 a2).2.1
          rw [hp] at this; cases this
      rw [h1]
      rcases h : maxO l p l.length with _ | b
      · rfl
      · obtain ⟨i1, i2, _⟩ := (maxO_inv l p l.length).2 b h
        rw [hno b i1] at i2; cases i2
    · have ho := okD_of hz hp (Int.le_refl 0) (by decide)
      rcases h : maxO l p l.length with _ | b
      · rcases h1 : sureZ l p 0 with _ | i
        · rfl
        · obtain ⟨_, a2, a3, _⟩ := sure_inv h1
          have := (maxO_inv l p l.length).1 h i a2
          rw [(ins_cover ho a2).1.2 a3] at this; cases this
      · obtain ⟨i1, i2, i3⟩ := (maxO_inv l p l.length).2 b h
        rw [sure_of ho i1 ((ins_cover ho i1).1.1 i2) fun k hk g => i3 k hk ((ins_cover ho hk).2.2 g)]
  · rw [if_neg hz]
    unfold sureZ
    rw [if_neg (by rw [okD_no hz]; decide)]
end Go.Proofs.Ytgjfidknedojbaa
