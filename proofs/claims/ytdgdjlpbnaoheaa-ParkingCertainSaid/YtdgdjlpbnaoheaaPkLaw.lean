/- Plain laws of verdicts: who is possibly at a permitted place is not at fault, who is surely at one is good. -/
import Derived.Test.YtdgdjlpbnaoheaaPkO
namespace Go.Proofs.Ytdgdjlpbnaoheaa
open Go.RowKit
theorem fc_area {l : List Fc} (h : fcheckZ l = 0) : ∀ f ∈ l, checkZ f.p = 0 := by
  have h1 : firstFc l = 0 := by
    unfold fcheckZ at h
    split at h
    · exact absurd h (by decide)
    · exact h
  clear h
  induction l with
  | nil => intro f hf; cases hf
  | cons g l ih =>
    unfold firstFc at h1
    by_cases h0 : oneFc g = 0
    · rw [if_neg (fun e => e h0)] at h1
      intro f hf
      rcases List.mem_cons.1 hf with rfl | hf
      · rcases hk : kindB f.k with _ | _
        · rw [oneFc_kind hk] at h0; exact absurd h0 (by decide)
        · by_cases hc : checkZ f.p = 0
          · exact hc
          · rw [oneFc_area hk hc] at h0; exact absurd h0 hc
      · exact ih h1 f hf
    · rw [if_pos h0] at h1; exact absurd h1 h0
theorem ins_iff {p : List Pt} {q : Pt} (h : checkZ p = 0) (hq : okP q = true) : insB p q = true ↔ 0 ≤ insZ p q := by
  unfold insB
  rw [← insE_eq, ← insZ_eq]
  have : insE p q = 0 := by unfold insE; rw [if_pos h, if_pos hq]
  rw [this]
  simp
theorem touch_zero {b c a : Pt} (h : cmpZ b c a 0 ≤ 0) : hasB (b, c) a = true := by
  have eq0 : ∀ {x y : Pt}, sqZ x y ≤ 0 → x = y := fun {x y} h => by
    rcases Classical.em (x = y) with g | g
    · exact g
    · have := sq_len g; omega
  unfold cmpZ at h
  split at h
  · rw [eq0 (x := a) (y := b) (by omega)]; exact has_end1 b c
  · split at h
    · rw [eq0 (x := a) (y := c) (by omega)]; exact has_end2 b c
    · rename_i h1 h2
      have h1' : 0 < dotZ b a c := by omega
      have h2' : dotZ b a c < sqZ b c := by omega
      have hx : crossZ b c a = 0 := by
        rcases Classical.em (crossZ b c a = 0) with g | g
        · exact g
        · have := sq_pos g; omega
      have hl := lagr (a.1 - b.1) (a.2 - b.2) (c.1 - b.1) (c.2 - b.2)
      have e1 : (a.1 - b.1) * (c.2 - b.2) - (a.2 - b.2) * (c.1 - b.1) = 0 := by unfold crossZ at hx; grind
      have e2 : (a.1 - b.1) * (c.1 - b.1) + (a.2 - b.2) * (c.2 - b.2) = dotZ b a c := by unfold dotZ; grind
      have e3 : (c.1 - b.1) * (c.1 - b.1) + (c.2 - b.2) * (c.2 - b.2) = sqZ b c := by unfold sqZ; grind
      obtain ⟨u, hu⟩ : ∃ u, (a.1 - b.1) * (a.1 - b.1) + (a.2 - b.2) * (a.2 - b.2) = u := ⟨_, rfl⟩
      obtain ⟨d, hd⟩ : ∃ d, dotZ b a c = d := ⟨_, rfl⟩
      obtain ⟨s, hs⟩ : ∃ s, sqZ b c = s := ⟨_, rfl⟩
      rw [e1, e2, e3, hu, hd, hs] at hl
      rw [hd] at h1' h2'; rw [hs] at h2'
      have e4 : dotZ a b c = u - d := by rw [← hu, ← hd]; unfold dotZ; grind
      have h3 : u < d := by
        rcases Int.lt_or_le u d with g | g
        · exact g
        · have m1 := Int.mul_le_mul_of_nonneg_right g (show 0 ≤ s by omega)
          have m2 := Int.mul_lt_mul_of_pos_left h2' h1'
          omega
      unfold hasB
      rw [Bool.and_eq_true, decide_eq_true_eq, decide_eq_true_eq]
      exact ⟨hx, by rw [e4]; omega⟩
/-- At the radius 0, what touches is inside. -/
theorem touch_in {p : List Pt} {a : Pt} (hp : checkZ p = 0) (ha : okP a = true) (h : touchB p a 0 = true) : 0 ≤ insZ p a := by
  have iE : insE p a = 0 := by unfold insE; rw [if_pos hp, if_pos ha]
  have dE : discE p a 0 = 0 := by unfold discE; rw [if_pos iE, if_pos ⟨by decide, by decide⟩]
  have eI : discI p a 0 = whereZ p a := by unfold discI; rw [if_pos dE]
  have eL : discL p a 0 = leastF (edgesL p) a 0 1 := by unfold discL; rw [if_pos dE]
  have eq : insZ p a = whereZ p a := by unfold insZ; rw [if_pos iE]
  unfold touchB at h
  rw [eI, eL] at h
  simp only [dE, decide_true, Bool.true_and, Bool.or_eq_true, decide_eq_true_eq, least_le] at h
  rw [eq]
  rcases h with g | g | ⟨e, he, g⟩
  · exact g
  · omega
  · have wa := whereF_on (c := a) (edgesL p) (-1) (.inr rfl)
    change (whereZ p a = 0 ↔ _) ∧ _ at wa
    rw [wa.1.2 ⟨e, he, touch_zero g⟩]
    decide
section
variable {l : List Fc} {p : Pk} {q : Pt}
theorem pk_ok (hp : pkB p = true) : okP (p.x, p.y) = true := by
  obtain ⟨_, _, _, h4, h5, _⟩ := pkB_inv hp
  unfold okP; simp; omega
theorem sure_ins (hp : pkB p = true) (hl : fcheckZ l = 0) (hq : okP q = true) (hd : sqZ (p.x, p.y) q ≤ p.r * p.r) {f : Fc} (hf : f ∈ l) (hc : coverB f.p (p.x, p.y) p.r = true) : insB f.p q = true := by
  have h6 := (pkB_inv hp).2.2.2.2.2
  exact (ins_iff (fc_area hl f hf) hq).2 ((disc_law (fc_area hl f hf) (pk_ok hp) hq h6.1 h6.2 hd).1 hc)
theorem ins_poss (hp : pkB p = true) (hl : fcheckZ l = 0) (hq : okP q = true) (hd : sqZ (p.x, p.y) q ≤ p.r * p.r) {f : Fc} (hf : f ∈ l) (hc : insB f.p q = true) : touchB f.p (p.x, p.y) p.r = true := by
  have h6 := (pkB_inv hp).2.2.2.2.2
  exact (disc_law (fc_area hl f hf) (pk_ok hp) hq h6.1 h6.2 hd).2.1 ((ins_iff (fc_area hl f hf) hq).1 hc)
theorem some_only (l : List Fc) (t : Int) : someB l 2 t = l.any (onlyB t) := by
  unfold someB
  congr 1
  funext f
  unfold onlyB
  rw [Bool.and_comm]
theorem judge_2 (s1 p1 s2 p2 o c : Bool) : judgeB s1 p1 s2 p2 o c = 2 ↔ s1 = true ∨ (o = true ∧ p2 = false) := by
  cases s1 <;> cases p1 <;> cases s2 <;> cases p2 <;> cases o <;> cases c <;> simp [judgeB]
theorem judge_1 (s1 p1 s2 p2 o : Bool) (h : judgeB s1 p1 s2 p2 o false = 1) : p1 = false ∧ (s2 = true ∨ o = false) := by
  revert h
  cases s1 <;> cases p1 <;> cases s2 <;> cases p2 <;> cases o <;> simp [judgeB]
theorem judge_3 (s1 p1 s2 p2 o c : Bool) (h1 : p1 = s1) (h2 : p2 = s2) : judgeB s1 p1 s2 p2 o c ≠ 3 := by
  subst h1 h2
  cases p1 <;> cases p2 <;> cases o <;> cases c <;> simp [judgeB]
theorem judge_rng (s1 p1 s2 p2 o c : Bool) : judgeB s1 p1 s2 p2 o c = 1 ∨ judgeB s1 p1 s2 p2 o c = 2 ∨ (judgeB s1 p1 s2 p2 o c = 3 ∧ c = false) := by
  cases s1 <;> cases p1 <;> cases s2 <;> cases p2 <;> cases o <;> cases c <;> simp [judgeB]
/-- Who possibly is at a permitted place is not at fault. -/
theorem fair_law (hp : pkB p = true) (hl : fcheckZ l = 0) (hq : okP q = true) (hd : sqZ (p.x, p.y) q ≤ p.r * p.r) (hg : permB l q p.tm = true) (c : Bool) : judgeZ l c p ≠ 2 := by
  unfold permB at hg
  rw [Bool.and_eq_true, Bool.not_eq_true', Bool.or_eq_true, Bool.not_eq_true'] at hg
  obtain ⟨h1, h2⟩ := hg
  intro h
  rcases (judge_2 _ _ _ _ _ _).1 h with h | ⟨ho, hn⟩
  · obtain ⟨f, hf, hs⟩ := List.any_eq_true.1 h
    unfold sureB at hs
    rw [Bool.and_eq_true, Bool.and_eq_true, decide_eq_true_eq] at hs
    have hb : badB2 q p.tm f = true := by
      unfold badB2
      rw [hs.1.2, decide_eq_true hs.1.1, sure_ins hp hl hq hd hf hs.2]; rfl
    rw [List.any_eq_true.2 ⟨f, hf, hb⟩] at h1; cases h1
  · rw [some_only] at ho
    rcases h2 with h2 | h2
    · rw [ho] at h2; cases h2
    · obtain ⟨f, hf, hs⟩ := List.any_eq_true.1 h2
      unfold goodB2 at hs
      rw [Bool.and_eq_true, Bool.and_eq_true, decide_eq_true_eq] at hs
      have hb : possA l 2 p = true := List.any_eq_true.2 ⟨f, hf, by unfold possB; rw [hs.1.1, decide_eq_true hs.1.2, ins_poss hp hl hq hd hf hs.2]; rfl⟩
      rw [hb] at hn; cases hn
/-- Who is good without a photo is at a permitted place. -/
theorem sure_law (hp : pkB p = true) (hl : fcheckZ l = 0) (hq : okP q = true) (hd : sqZ (p.x, p.y) q ≤ p.r * p.r) (h : judgeZ l false p = 1) : permB l q p.tm = true := by
  obtain ⟨h1, h2⟩ := judge_1 _ _ _ _ _ h
  unfold permB
  have hb : l.any (badB2 q p.tm) = false := by
    rw [List.any_eq_false]
    intro f hf hs
    unfold badB2 at hs
    rw [Bool.and_eq_true, Bool.and_eq_true, decide_eq_true_eq] at hs
    have : possA l 1 p = true := List.any_eq_true.2 ⟨f, hf, by unfold possB; rw [hs.1.1, decide_eq_true hs.1.2, ins_poss hp hl hq hd hf hs.2]; rfl⟩
    rw [this] at h1; cases h1
  rw [hb]
  rcases h2 with h2 | h2
  · obtain ⟨f, hf, hs⟩ := List.any_eq_true.1 h2
    unfold sureB at hs
    rw [Bool.and_eq_true, Bool.and_eq_true, decide_eq_true_eq] at hs
    have : l.any (goodB2 q p.tm) = true := List.any_eq_true.2 ⟨f, hf, by unfold goodB2; rw [hs.1.2, decide_eq_true hs.1.1, sure_ins hp hl hq hd hf hs.2]; rfl⟩
    rw [this]; simp
  · rw [some_only] at h2
    rw [h2]; rfl
/-- At the radius 0 nothing is open. -/
theorem zero_law (hp : pkB p = true) (hl : fcheckZ l = 0) (h0 : p.r = 0) (c : Bool) : judgeZ l c p ≠ 3 := by
  have hs : ∀ k : Int, possA l k p = sureA l k p := fun k => by
    unfold possA sureA
    rw [Bool.eq_iff_iff, List.any_eq_true, List.any_eq_true]
    constructor
    · rintro ⟨f, hf, hs⟩
      refine ⟨f, hf, ?_⟩
      unfold possB at hs
      unfold sureB
      rw [Bool.and_eq_true] at hs ⊢
      refine ⟨hs.1, ?_⟩
      rw [h0] at hs ⊢
      exact ((disc_law (fc_area hl f hf) (pk_ok hp) (pk_ok hp) (by decide) (by decide) (by unfold sqZ; simp)).2.2 rfl).1 (touch_in (fc_area hl f hf) (pk_ok hp) hs.2)
    · rintro ⟨f, hf, hs⟩
      refine ⟨f, hf, ?_⟩
      unfold sureB at hs
      unfold possB
      rw [Bool.and_eq_true] at hs ⊢
      refine ⟨hs.1, ?_⟩
      rw [h0] at hs ⊢
      exact (disc_law (fc_area hl f hf) (pk_ok hp) (pk_ok hp) (by decide) (by decide) (by unfold sqZ; simp)).2.1 (((disc_law (fc_area hl f hf) (pk_ok hp) (pk_ok hp) (by decide) (by decide) (by unfold sqZ; simp)).2.2 rfl).2 hs.2)
  exact judge_3 _ _ _ _ _ _ (hs 1) (hs 2)
end
end Go.Proofs.Ytdgdjlpbnaoheaa
