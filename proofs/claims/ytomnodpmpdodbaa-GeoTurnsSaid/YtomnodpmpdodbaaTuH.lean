/- The program's where counts whole turns. -/
import Derived.Test.YtomnodpmpdodbaaTuG
namespace Go.Proofs.Ytomnodpmpdodbaa
def gq (u : Pt) : Int := if 0 < u.2 then 1 - sgn u.1 else 3 + sgn u.1
def rI (e : Ed) (c : Pt) : Int := if crossB e c = true then (if e.1.2 < e.2.2 then 1 else -1) else 0
theorem cross_cr (b c z : Pt) : crossZ b c z = cr (sb b z) (sb c z) := by unfold crossZ cr sb; grind
theorem dot_dt (b c z : Pt) : dotZ z b c = dt (sb b z) (sb c z) := by unfold dotZ dt sb; grind
theorem sgn_mul_self (x : Int) : sgn x * x = ab x := by
  rcases Int.lt_trichotomy x 0 with h | h | h
  · rw [sgn_neg h, ab_npos (by omega)]; omega
  · rw [h]; rfl
  · rw [sgn_pos h, ab_pos (by omega)]; omega
theorem quad_low {u v : Pt} (hu : u.2 ≤ 0) (hv : v.2 ≤ 0) (h : ¬ (cr u v = 0 ∧ dt u v ≤ 0)) : vw u v = sgn v.1 - sgn u.1 := by
  have key : ∀ l : Pt, l.2 < 0 → 0 < dt l u → 0 < dt l v → vw u v = sgn v.1 - sgn u.1 := fun l h1 h2 h3 => by
    rw [vw_half h2 h3, sgn_neg h1]; omega
  by_cases hu0 : u.2 = 0
  · by_cases hv0 : v.2 = 0
    · have hc : cr u v = 0 := by unfold cr; rw [hu0, hv0]; simp
      have hd : 0 < u.1 * v.1 := by
        have : ¬ dt u v ≤ 0 := fun e => h ⟨hc, e⟩
        unfold dt at this; rw [hu0] at this; simp at this; exact this
      refine key (sgn u.1, -1) (by show (-1 : Int) < 0; decide) ?_ ?_
      · unfold dt; rw [hu0]; simp only
        have := sgn_mul_self u.1
        have : 0 < ab u.1 := ab_pm (fun e => by rw [e] at hd; simp at hd)
        omega
      · unfold dt; rw [hv0]; simp only
        have e : sgn u.1 = sgn v.1 := (sgn_of_mul hd).symm
        have := sgn_mul_self v.1
        have : 0 < ab v.1 := ab_pm (fun e => by rw [e] at hd; simp at hd)
        rw [e]; omega
    · have hu1 : u.1 ≠ 0 := fun e => h ⟨by unfold cr; rw [hu0, e]; simp, by unfold dt; rw [hu0, e]; simp⟩
      refine key (sgn u.1, -(ab v.1 + 1)) (by show -(ab v.1 + 1) < 0; unfold ab; split <;> omega) ?_ ?_
      · unfold dt; rw [hu0]; simp only
        have := sgn_mul_self u.1
        have := ab_pm hu1
        omega
      · unfold dt; simp only
        have h1 : -(ab v.1) ≤ sgn u.1 * v.1 := by
          have := sgn_bd u.1
          rcases Int.lt_trichotomy u.1 0 with h2 | h2 | h2
          · rw [sgn_neg h2]; unfold ab; split <;> omega
          · exact absurd h2 hu1
          · rw [sgn_pos h2]; unfold ab; split <;> omega
        have h2 : (ab v.1 + 1) * 1 ≤ (ab v.1 + 1) * (-v.2) := Int.mul_le_mul_of_nonneg_left (by omega) (by unfold ab; split <;> omega)
        have h3 : -(ab v.1 + 1) * v.2 = (ab v.1 + 1) * (-v.2) := by grind
        omega
  · by_cases hv0 : v.2 = 0
    · have hv1 : v.1 ≠ 0 := fun e => h ⟨by unfold cr; rw [hv0, e]; simp, by unfold dt; rw [hv0, e]; simp⟩
      refine key (sgn v.1, -(ab u.1 + 1)) (by show -(ab u.1 + 1) < 0; unfold ab; split <;> omega) ?_ ?_
      · unfold dt; simp only
        have h1 : -(ab u.1) ≤ sgn v.1 * u.1 := by
          rcases Int.lt_trichotomy v.1 0 with h2 | h2 | h2
          · rw [sgn_neg h2]; unfold ab; split <;> omega
          · exact absurd h2 hv1
          · rw [sgn_pos h2]; unfold ab; split <;> omega
        have h2 : (ab u.1 + 1) * 1 ≤ (ab u.1 + 1) * (-u.2) := Int.mul_le_mul_of_nonneg_left (by omega) (by unfold ab; split <;> omega)
        have h3 : -(ab u.1 + 1) * u.2 = (ab u.1 + 1) * (-u.2) := by grind
        omega
      · unfold dt; rw [hv0]; simp only
        have := sgn_mul_self v.1
        have := ab_pm hv1
        omega
    · exact key (0, -1) (by decide) (by unfold dt; simp only; omega) (by unfold dt; simp only; omega)
theorem quad_up {u v : Pt} (hu : u.2 ≤ 0) (hv : 0 < v.2) (h : ¬ (cr u v = 0 ∧ dt u v ≤ 0)) : cr u v ≠ 0 ∧ vw u v = 4 * (if 0 < cr u v then 1 else 0) - 2 - sgn v.1 - sgn u.1 := by
  have hc : cr u v ≠ 0 := fun e => h ⟨e, by
    have e1 : v.2 * dt u v = u.2 * (v.1 * v.1 + v.2 * v.2) + v.1 * cr u v := by unfold dt cr; grind
    have h1 := sq_nn v.1; have h2 := sq_nn v.2
    have h3 : u.2 * (v.1 * v.1 + v.2 * v.2) ≤ 0 := Int.mul_nonpos_of_nonpos_of_nonneg hu (by omega)
    rw [e, Int.mul_zero] at e1
    exact np_of hv (by omega)⟩
  refine ⟨hc, ?_⟩
  have hcd : cr u v = u.1 * v.2 + (-u.2) * v.1 := by unfold cr; grind
  unfold vw
  rcases Int.lt_or_gt_of_ne hc with h1 | h1
  · rw [sgn_neg h1, if_neg (by omega)]
    have hno : ¬ (0 ≤ u.1 ∧ 0 ≤ v.1) := fun ⟨a, b⟩ => by
      have := Int.mul_nonneg a (Int.le_of_lt hv); have := Int.mul_nonneg (show 0 ≤ -u.2 by omega) b; omega
    rcases Int.lt_trichotomy u.1 0 with h2 | h2 | h2 <;> rcases Int.lt_trichotomy v.1 0 with h3 | h3 | h3
    · rw [sgn_neg h2, sgn_neg h3]; decide
    · rw [sgn_neg h2, h3]; decide
    · rw [sgn_neg h2, sgn_pos h3]; decide
    · rw [h2, sgn_neg h3]; decide
    · exact absurd ⟨by omega, by omega⟩ hno
    · exact absurd ⟨by omega, by omega⟩ hno
    · rw [sgn_pos h2, sgn_neg h3]; decide
    · exact absurd ⟨by omega, by omega⟩ hno
    · exact absurd ⟨by omega, by omega⟩ hno
  · rw [sgn_pos h1, if_pos h1]
    have hno : ¬ (u.1 ≤ 0 ∧ v.1 ≤ 0) := fun ⟨a, b⟩ => by
      have := Int.mul_nonpos_of_nonpos_of_nonneg a (Int.le_of_lt hv); have := Int.mul_nonpos_of_nonneg_of_nonpos (show 0 ≤ -u.2 by omega) b; omega
    rcases Int.lt_trichotomy u.1 0 with h2 | h2 | h2 <;> rcases Int.lt_trichotomy v.1 0 with h3 | h3 | h3
    · exact absurd ⟨by omega, by omega⟩ hno
    · exact absurd ⟨by omega, by omega⟩ hno
    · rw [sgn_neg h2, sgn_pos h3]; decide
    · exact absurd ⟨by omega, by omega⟩ hno
    · exact absurd ⟨by omega, by omega⟩ hno
    · rw [h2, sgn_pos h3]; decide
    · rw [sgn_pos h2, sgn_neg h3]; decide
    · rw [sgn_pos h2, h3]; decide
    · rw [sgn_pos h2, sgn_pos h3]; decide
theorem cr_anti (u v : Pt) : cr v u = -cr u v := by unfold cr; grind
theorem dt_comm (u v : Pt) : dt v u = dt u v := by unfold dt; grind
/-- A turn is a crossing of the ray to the right, and what changes by quarters. -/
theorem vw_quad {b c z : Pt} (h : ¬ (cr (sb b z) (sb c z) = 0 ∧ dt (sb b z) (sb c z) ≤ 0)) : vw (sb b z) (sb c z) = 4 * rI (b, c) z + (gq (sb c z) - gq (sb b z)) := by
  have hb : 0 < (sb b z).2 ↔ z.2 < b.2 := by unfold sb; simp only; omega
  have hc : 0 < (sb c z).2 ↔ z.2 < c.2 := by unfold sb; simp only; omega
  have hcz := cross_cr b c z
  unfold rI crossB
  simp only
  rw [hcz]
  by_cases h1 : z.2 < b.2 <;> by_cases h2 : z.2 < c.2
  · rw [decide_eq_true h1, decide_eq_true h2]
    unfold gq
    rw [if_pos (hb.2 h1), if_pos (hc.2 h2), vw_half (l := (0, 1)) (by unfold dt; simp only; have := hb.2 h1; omega) (by unfold dt; simp only; have := hc.2 h2; omega)]
    simp [sgn_pos (show (0 : Int) < 1 by decide)]; omega
  · have h3 : ¬ b.2 < c.2 := by omega
    have hh : ¬ (cr (sb c z) (sb b z) = 0 ∧ dt (sb c z) (sb b z) ≤ 0) := fun ⟨a, b⟩ => h ⟨by rw [cr_anti] at a; omega, by rwa [dt_comm] at b⟩
    obtain ⟨q1, q2⟩ := quad_up (u := sb c z) (v := sb b z) (by have := fun e => h2 (hc.1 e); omega) (hb.2 h1) hh
    rw [decide_eq_true h1, decide_eq_false h2, decide_eq_false h3, vw_anti, q2, cr_anti (sb b z) (sb c z)]
    rw [cr_anti (sb b z) (sb c z)] at q1
    unfold gq
    rw [if_pos (hb.2 h1), if_neg (fun e => h2 (hc.1 e)), if_neg h3]
    by_cases h4 : 0 < cr (sb b z) (sb c z)
    · rw [decide_eq_true h4, if_neg (by omega)]; simp; omega
    · rw [decide_eq_false h4, if_pos (by omega)]; simp; omega
  · have h3 : b.2 < c.2 := by omega
    obtain ⟨q1, q2⟩ := quad_up (u := sb b z) (v := sb c z) (by have := fun e => h1 (hb.1 e); omega) (hc.2 h2) h
    rw [decide_eq_false h1, decide_eq_true h2, decide_eq_true h3, q2]
    unfold gq
    rw [if_neg (fun e => h1 (hb.1 e)), if_pos (hc.2 h2), if_pos h3]
    by_cases h4 : 0 < cr (sb b z) (sb c z)
    · rw [decide_eq_true h4, if_pos h4]; simp; omega
    · rw [decide_eq_false h4, if_neg h4]; simp; omega
  · rw [decide_eq_false h1, decide_eq_false h2]
    have q := quad_low (u := sb b z) (v := sb c z) (by have := fun e => h1 (hb.1 e); omega) (by have := fun e => h2 (hc.1 e); omega) h
    unfold gq
    rw [if_neg (fun e => h1 (hb.1 e)), if_neg (fun e => h2 (hc.1 e)), q]
    simp; omega
theorem sum_range (f : Nat → Int) : ∀ n, ((List.range n).map f).sum = sumZ f n
  | 0 => rfl
  | n + 1 => by rw [List.range_succ, List.map_append, List.sum_append, sum_range f n]; simp [sumZ]
theorem twice_cr (p : List Pt) : twiceZ p = sumZ (fun i => cr (PP p i) (PP p (i + 1))) p.length := by
  unfold twiceZ sumE edgesL
  rw [List.map_map, sum_range]
  refine sumZ_congr fun i hi => ?_
  show termE (edgeZ p i) = _
  rw [edge_PP hi]; rfl
theorem rI_odd (e : Ed) (c : Pt) : (crossB e c = true ∧ (rI e c = 1 ∨ rI e c = -1)) ∨ (crossB e c = false ∧ rI e c = 0) := by
  unfold rI
  rcases h : crossB e c with _ | _
  · exact .inr ⟨rfl, by simp⟩
  · refine .inl ⟨rfl, ?_⟩
    rw [if_pos rfl]; split
    · exact .inl rfl
    · exact .inr rfl
theorem whereF_par (c : Pt) : ∀ (l : List Ed) (o : Int), (∀ e ∈ l, hasB e c = false) → whereF l c o = if (l.map fun e => rI e c).sum % 2 = 0 then o else -o
  | [], o, _ => by simp [whereF]
  | e :: l, o, h => by
    have h1 : whereF (e :: l) c o = if hasB e c = true then 0 else whereF l c (if crossB e c = true then -o else o) := rfl
    rw [h1, if_neg (by rw [h e (List.mem_cons_self ..)]; decide), whereF_par c l _ fun e he => h e (List.mem_cons_of_mem _ he)]
    rw [List.map_cons, List.sum_cons]
    obtain ⟨S, hS⟩ : ∃ S, (l.map fun e => rI e c).sum = S := ⟨_, rfl⟩
    rw [hS]
    rcases rI_odd e c with ⟨q1, q2⟩ | ⟨q1, q2⟩
    · rw [if_pos q1]
      rcases q2 with q2 | q2 <;> rw [q2] <;> by_cases h3 : S % 2 = 0
      · rw [if_pos h3, if_neg (by omega)]
      · rw [if_neg h3, if_pos (by omega)]; omega
      · rw [if_pos h3, if_neg (by omega)]
      · rw [if_neg h3, if_pos (by omega)]; omega
    · rw [if_neg (show ¬ crossB e c = true by rw [q1]; decide), q2, Int.zero_add]
theorem whereF_on (c : Pt) : ∀ (l : List Ed) (o : Int), (∃ e ∈ l, hasB e c = true) → whereF l c o = 0
  | [], o, ⟨e, he, _⟩ => by cases he
  | e :: l, o, ⟨f, hf, h⟩ => by
    have h1 : whereF (e :: l) c o = if hasB e c = true then 0 else whereF l c (if crossB e c = true then -o else o) := rfl
    rw [h1]
    by_cases h2 : hasB e c = true
    · rw [if_pos h2]
    · rw [if_neg h2]
      rcases List.mem_cons.1 hf with rfl | hf
      · exact absurd h h2
      · exact whereF_on c l _ ⟨f, hf, h⟩
theorem edges_mem {p : List Pt} {e : Ed} (h : e ∈ edgesL p) : ∃ i, i < p.length ∧ e = (PP p i, PP p (i + 1)) := by
  unfold edgesL at h
  obtain ⟨i, hi, rfl⟩ := List.mem_map.1 h
  have := List.mem_range.1 hi
  exact ⟨i, this, edge_PP this⟩
theorem edge_in {p : List Pt} (hn : 0 < p.length) (i : Nat) : (PP p i, PP p (i + 1)) ∈ edgesL p := by
  have h1 : PP p i = PP p (i % p.length) := by unfold PP; rw [Nat.mod_mod]
  have h2 : PP p (i + 1) = PP p (i % p.length + 1) := by unfold PP; rw [Nat.mod_add_mod]
  rw [h1, h2, ← edge_PP (Nat.mod_lt _ hn)]
  exact List.mem_map.2 ⟨i % p.length, List.mem_range.2 (Nat.mod_lt _ hn), rfl⟩
theorem where_on {p : List Pt} {c : Pt} (hn : 0 < p.length) {i : Nat} (h : hasB (PP p i, PP p (i + 1)) c = true) : whereZ p c = 0 := whereF_on c _ _ ⟨_, edge_in hn i, h⟩
theorem has_iff (b c z : Pt) : hasB (b, c) z = true ↔ cr (sb b z) (sb c z) = 0 ∧ dt (sb b z) (sb c z) ≤ 0 := by
  unfold hasB
  simp only [Bool.and_eq_true, decide_eq_true_eq]
  rw [cross_cr, dot_dt]
/-- Off the edges, the program's answer is in the number of turns. -/
theorem where_off {p : List Pt} {z : Pt} (h : ∀ i, hasB (PP p i, PP p (i + 1)) z = false) : ∃ r : Int, TT (PP p) p.length z = 4 * r ∧ whereZ p z = if r % 2 = 0 then -1 else 1 := by
  refine ⟨sumZ (fun i => rI (PP p i, PP p (i + 1)) z) p.length, ?_, ?_⟩
  · unfold TT
    have h1 : ∀ i, i < p.length → seen (PP p) z i = 4 * rI (PP p i, PP p (i + 1)) z + (gq (sb (PP p (i + 1)) z) - gq (sb (PP p i) z)) := fun i _ => by
      unfold seen
      exact vw_quad (fun e => by have := (has_iff _ _ _).2 e; rw [h i] at this; exact absurd this (by decide))
    rw [sumZ_congr h1, sumZ_add, sumZ_mul, sumZ_tel (fun i => gq (sb (PP p i) z))]
    have := PP_per p 0
    rw [Nat.zero_add] at this
    rw [this]; omega
  · unfold whereZ
    rw [whereF_par z _ _ fun e he => by obtain ⟨i, _, rfl⟩ := edges_mem he; exact h i]
    have : ((edgesL p).map fun e => rI e z).sum = sumZ (fun i => rI (PP p i, PP p (i + 1)) z) p.length := by
      unfold edgesL
      rw [List.map_map, sum_range]
      exact sumZ_congr fun i hi => by show rI (edgeZ p i) z = _; rw [edge_PP hi]
    rw [this]; rfl
theorem on_edge {b c z : Pt} (h : hasB (b, c) z = true) : z = b ∨ z = c ∨ Inner z b c := by
  obtain ⟨h1, h2⟩ := (has_iff b c z).1 h
  by_cases e1 : z = b
  · exact .inl e1
  · by_cases e2 : z = c
    · exact .inr (.inl e2)
    · refine .inr (.inr ⟨dt (sb c b) (sb c b), dt (sb z b) (sb c b), ?_, ?_, ?_⟩)
      · have : dt (sb z b) (sb c b) = dt (sb z b) (sb z b) - dt (sb b z) (sb c z) := by unfold dt sb; grind
        have hp : 0 < dt (sb z b) (sb z b) := nz_sq (fun ⟨a1, a2⟩ => e1 (by unfold sb at a1 a2; simp only at a1 a2; exact Prod.ext (by omega) (by omega)))
        omega
      · have : dt (sb c b) (sb c b) - dt (sb z b) (sb c b) = dt (sb c z) (sb c z) - dt (sb b z) (sb c z) := by unfold dt sb; grind
        have hp : 0 < dt (sb c z) (sb c z) := nz_sq (fun ⟨a1, a2⟩ => e2 (by unfold sb at a1 a2; simp only at a1 a2; exact Prod.ext (by omega) (by omega)))
        omega
      · have g1 : dt (sb c b) (sb c b) * (z.1 - b.1) = dt (sb z b) (sb c b) * (c.1 - b.1) - (c.2 - b.2) * cr (sb b z) (sb c z) := by unfold dt cr sb; grind
        have g2 : dt (sb c b) (sb c b) * (z.2 - b.2) = dt (sb z b) (sb c b) * (c.2 - b.2) + (c.1 - b.1) * cr (sb b z) (sb c z) := by unfold dt cr sb; grind
        rw [h1] at g1 g2
        unfold ml
        ext
        · show dt (sb c b) (sb c b) * (z.1 - b.1) = dt (sb z b) (sb c b) * (c.1 - b.1); omega
        · show dt (sb c b) (sb c b) * (z.2 - b.2) = dt (sb z b) (sb c b) * (c.2 - b.2); omega
end Go.Proofs.Ytomnodpmpdodbaa
