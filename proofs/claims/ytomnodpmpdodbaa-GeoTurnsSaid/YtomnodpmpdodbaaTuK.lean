/- A polygon that begins at another corner, or is turned by a right angle: the same answers. -/
import Derived.Test.YtomnodpmpdodbaaTuJ
namespace Go.Proofs.Ytomnodpmpdodbaa
theorem line_of {u v : Pt} (h : ¬ (cr u v = 0 ∧ dt u v ≤ 0)) : ∃ l, 0 < dt l u ∧ 0 < dt l v := by
  by_cases hcr : cr u v = 0
  · have h3 : 0 < dt u v := by have := fun e => h ⟨hcr, e⟩; omega
    refine ⟨u, ?_, h3⟩
    have hu : ¬ (u.1 = 0 ∧ u.2 = 0) := fun ⟨e1, e2⟩ => by unfold dt at h3; rw [e1, e2] at h3; simp at h3
    exact nz_sq hu
  · have h4 : 0 < sgn (cr u v) * cr u v := by
      rcases Int.lt_or_gt_of_ne hcr with h | h
      · rw [sgn_neg h]; omega
      · rw [sgn_pos h]; omega
    refine ⟨(sgn (cr u v) * (v.2 - u.2), sgn (cr u v) * (u.1 - v.1)), ?_, ?_⟩
    · have : dt (sgn (cr u v) * (v.2 - u.2), sgn (cr u v) * (u.1 - v.1)) u = sgn (cr u v) * cr u v := by
        generalize sgn (cr u v) = s
        unfold dt cr; grind
      omega
    · have : dt (sgn (cr u v) * (v.2 - u.2), sgn (cr u v) * (u.1 - v.1)) v = sgn (cr u v) * cr u v := by
        generalize sgn (cr u v) = s
        unfold dt cr; grind
      omega
/-- On one side of a line this number does not change. -/
theorem quarter {l u : Pt} (h : 0 < dt l u) : sgn l.1 * sgn u.2 + sgn l.2 * sgn u.1 - sgn u.1 * sgn u.2 = sgn l.1 * sgn l.2 := by
  have key : (sgn u.1 - sgn l.1) * (sgn u.2 - sgn l.2) = 0 := by
    by_cases h1 : 0 < l.1 * u.1
    · rw [sgn_of_mul h1, Int.sub_self, Int.zero_mul]
    · have h2 : 0 < l.2 * u.2 := by unfold dt at h; omega
      rw [sgn_of_mul h2, Int.sub_self, Int.mul_zero]
  have e : (sgn u.1 - sgn l.1) * (sgn u.2 - sgn l.2) = sgn u.1 * sgn u.2 - sgn l.2 * sgn u.1 - sgn l.1 * sgn u.2 + sgn l.1 * sgn l.2 := by grind
  omega
theorem vw_JJ {u v : Pt} (h : ¬ (cr u v = 0 ∧ dt u v ≤ 0)) : vw (JJ u) (JJ v) = vw u v + (sgn v.1 * sgn v.2 - sgn u.1 * sgn u.2) := by
  obtain ⟨l, h1, h2⟩ := line_of h
  have e1 : dt (JJ l) (JJ u) = dt l u := by unfold dt JJ; grind
  have e2 : dt (JJ l) (JJ v) = dt l v := by unfold dt JJ; grind
  rw [vw_half (l := JJ l) (by rw [e1]; exact h1) (by rw [e2]; exact h2), vw_half h1 h2]
  have q1 := quarter h1
  have q2 := quarter h2
  unfold JJ
  simp only
  rw [sgn_neg_, sgn_neg_]
  have a1 : sgn l.1 * (-sgn u.2 - -sgn v.2) = sgn l.1 * sgn v.2 - sgn l.1 * sgn u.2 := by grind
  have a2 : sgn l.2 * (sgn u.1 - sgn v.1) = sgn l.2 * sgn u.1 - sgn l.2 * sgn v.1 := by grind
  rw [a1, a2]; omega
theorem sb_JJ (u v : Pt) : sb (JJ u) (JJ v) = JJ (sb u v) := by unfold sb JJ; ext <;> simp; omega
section
variable {p q : List Pt}
theorem all_PP (hn : 0 < p.length) : p.all okP = true ↔ ∀ i, okP (PP p i) = true := by
  constructor
  · intro h i; exact PP_ok hn h i
  · intro h
    refine List.all_eq_true.2 fun x hx => ?_
    obtain ⟨i, hi, rfl⟩ := List.getElem_of_mem hx
    have := h i
    unfold PP at this
    rwa [Nat.mod_eq_of_lt hi, pAt_get hi] at this
/-- What a polygon's answers depend on: rotation. -/
theorem twice_shift {k : Nat} (hl : q.length = p.length) (h : ∀ i, PP q i = PP p (i + k)) : twiceZ q = twiceZ p := by
  rw [twice_cr, twice_cr, hl]
  have hper : ∀ i, cr (PP p (i + p.length)) (PP p (i + p.length + 1)) = cr (PP p i) (PP p (i + 1)) := fun i => by rw [PP_per, show i + p.length + 1 = i + 1 + p.length by omega, PP_per]
  have := sumZ_shift (f := fun i => cr (PP p i) (PP p (i + 1))) hper k
  rw [← this]
  exact sumZ_congr fun i _ => by rw [h, h, show i + 1 + k = k + i + 1 by omega, show i + k = k + i by omega]
theorem sm_shift {k : Nat} (hn : 0 < p.length) (h : ∀ i, PP q i = PP p (i + k)) : Sm (PP q) p.length ↔ Sm (PP p) p.length := by
  have e : PP q = fun i => PP p (i + k) := funext h
  rw [e]
  constructor
  · intro hs
    have h2 := hs.shift (p.length * k - k)
    have e2 : (fun i => (fun i => PP p (i + k)) (i + (p.length * k - k))) = PP p := funext fun i => by
      show PP p (i + (p.length * k - k) + k) = PP p i
      have h3 : k ≤ p.length * k := Nat.le_mul_of_pos_left k hn
      rw [show i + (p.length * k - k) + k = i + p.length * k by omega]
      exact per_mul (PP_per p) k i
    rwa [e2] at h2
  · exact fun hs => hs.shift k
theorem where_shift {k : Nat} (hn : 0 < p.length) (hl : q.length = p.length) (h : ∀ i, PP q i = PP p (i + k)) (c : Pt) : whereZ q c = whereZ p c := by
  by_cases hon : ∃ i, hasB (PP p i, PP p (i + 1)) c = true
  · obtain ⟨i, hi⟩ := hon
    rw [where_on hn hi]
    have h3 : k ≤ p.length * k := Nat.le_mul_of_pos_left k hn
    refine where_on (by omega) (i := i + (p.length * k - k)) ?_
    rw [h, h, show i + (p.length * k - k) + k = i + p.length * k by omega, show i + (p.length * k - k) + 1 + k = i + 1 + p.length * k by omega, per_mul (PP_per p), per_mul (PP_per p)]
    exact hi
  · have hoff : ∀ i, hasB (PP p i, PP p (i + 1)) c = false := fun i => by
      rcases h : hasB (PP p i, PP p (i + 1)) c with _ | _
      · rfl
      · exact absurd ⟨i, h⟩ hon
    obtain ⟨r, h1, h2⟩ := where_off hoff
    obtain ⟨r', h1', h2'⟩ := where_off (p := q) (z := c) fun i => by rw [h, h, show i + 1 + k = i + k + 1 by omega]; exact hoff _
    have e : TT (PP q) q.length c = TT (PP p) p.length c := by
      rw [hl, TT_at (PP_per p) c k]
      exact sumZ_congr fun i _ => by unfold seen; rw [h, h, show i + 1 + k = k + i + 1 by omega, show i + k = k + i by omega]
    have : r' = r := by omega
    rw [h2, h2', this]
/-- Turned by a right angle. -/
theorem twice_J (hl : q.length = p.length) (h : ∀ i, PP q i = JJ (PP p i)) : twiceZ q = twiceZ p := by
  rw [twice_cr, twice_cr, hl]
  exact sumZ_congr fun i _ => by rw [h, h]; unfold cr JJ; grind
theorem where_J (hn : 0 < p.length) (hl : q.length = p.length) (h : ∀ i, PP q i = JJ (PP p i)) (c : Pt) : whereZ q (JJ c) = whereZ p c := by
  by_cases hon : ∃ i, hasB (PP p i, PP p (i + 1)) c = true
  · obtain ⟨i, hi⟩ := hon
    rw [where_on hn hi]
    exact where_on (by omega) (i := i) (by rw [h, h, has_J]; exact hi)
  · have hoff : ∀ i, hasB (PP p i, PP p (i + 1)) c = false := fun i => by
      rcases h : hasB (PP p i, PP p (i + 1)) c with _ | _
      · rfl
      · exact absurd ⟨i, h⟩ hon
    obtain ⟨r, h1, h2⟩ := where_off hoff
    obtain ⟨r', h1', h2'⟩ := where_off (p := q) (z := JJ c) fun i => by rw [h, h, has_J]; exact hoff _
    have e : TT (PP q) q.length (JJ c) = TT (PP p) p.length c := by
      rw [hl]
      unfold TT
      have hs : ∀ i, i < p.length → seen (PP q) (JJ c) i = seen (PP p) c i + ((fun i => sgn (sb (PP p i) c).1 * sgn (sb (PP p i) c).2) (i + 1) - (fun i => sgn (sb (PP p i) c).1 * sgn (sb (PP p i) c).2) i) := fun i _ => by
        unfold seen
        rw [h, h, sb_JJ, sb_JJ]
        exact vw_JJ fun e => by have := (has_iff _ _ _).2 e; rw [hoff i] at this; exact absurd this (by decide)
      rw [sumZ_congr hs, sumZ_add, sumZ_tel (fun i => sgn (sb (PP p i) c).1 * sgn (sb (PP p i) c).2)]
      have := PP_per p 0
      rw [Nat.zero_add] at this
      rw [this]; omega
    have : r' = r := by omega
    rw [h2, h2', this]
/-- The check depends on these alone. -/
theorem check_same (hl : q.length = p.length) (hok : q.all okP = p.all okP) (hs : 3 ≤ p.length → (simpleB (edgesL q) = simpleB (edgesL p))) (ht : twiceZ q = twiceZ p) : checkZ q = checkZ p := by
  unfold checkZ
  rw [hl, hok, ht]
  by_cases h : p.length < 3 ∨ 32 < p.length
  · rw [if_pos h, if_pos h]
  · rw [if_neg h, if_neg h, hs (by omega)]
theorem bool_iff {a b : Bool} (h : a = true ↔ b = true) : a = b := by cases a <;> cases b <;> simp_all
theorem check_shift {k : Nat} (hn : 0 < p.length) (hl : q.length = p.length) (h : ∀ i, PP q i = PP p (i + k)) : checkZ q = checkZ p := by
  refine check_same hl (bool_iff ?_) (fun h3 => bool_iff ?_) (twice_shift hl h)
  · rw [all_PP hn, all_PP (by omega)]
    constructor
    · intro hq i
      have h3 : k ≤ p.length * k := Nat.le_mul_of_pos_left k hn
      have := hq (i + (p.length * k - k))
      rw [h, show i + (p.length * k - k) + k = i + p.length * k by omega, per_mul (PP_per p)] at this
      exact this
    · intro hp i; rw [h]; exact hp _
  · rw [sm_iff h3, sm_iff (by omega), hl]; exact sm_shift hn h
theorem check_J (hn : 0 < p.length) (hl : q.length = p.length) (h : ∀ i, PP q i = JJ (PP p i)) : checkZ q = checkZ p := by
  refine check_same hl (bool_iff ?_) (fun h3 => bool_iff ?_) (twice_J hl h)
  · rw [all_PP hn, all_PP (by omega)]
    have e : ∀ u : Pt, okP (JJ u) = okP u := fun u => by unfold okP JJ; exact decide_eq_decide.2 (by simp only; omega)
    constructor
    · intro hq i; have := hq i; rwa [h, e] at this
    · intro hp i; rw [h, e]; exact hp i
  · rw [sm_iff h3, sm_iff (by omega), hl, show PP q = fun i => JJ (PP p i) from funext h]; exact sm_J
end
end Go.Proofs.Ytomnodpmpdodbaa
