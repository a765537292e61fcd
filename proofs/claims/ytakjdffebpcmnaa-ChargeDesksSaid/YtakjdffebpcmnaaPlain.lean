/- The plain laws of the statements on banks and desks: what keeping, charging once and taking turns come to. -/
import Derived.Test.YtakjdffebpcmnaaCopy
namespace Go.Proofs.Ytakjdffebpcmnaa
open Go.RowKit
/-! A bank keeps what it has. -/
theorem clash_iff {l : List P3} {p : P3} : clash l p = false ↔ ∀ x ∈ l, x.1 = p.1 → x = p := by
  unfold clash
  rw [List.any_eq_false]
  constructor
  · intro h x hx e
    have := h x hx
    simp only [decide_eq_true_eq, not_and, Decidable.not_not, ne_eq] at this
    exact this e
  · intro h x hx
    simp only [decide_eq_true_eq, not_and, ne_eq, Decidable.not_not]
    exact h x hx
theorem paid_had {l : List P3} {p : P3} (h : clash l p = false) (hp : p ∈ l) : paidP l p.1 = p ∧ paidB l p.1 = true := by
  rcases hf : l.find? (fun x => decide (x.1 = p.1)) with _ | x
  · rw [List.find?_eq_none] at hf
    exact absurd (decide_eq_true rfl) (hf p hp)
  · have h1 := List.mem_of_find?_eq_some hf
    have h2 : x.1 = p.1 := by simpa using List.find?_some hf
    have := clash_iff.1 h x h1 h2
    subst this
    simp [paidP, paidB, hf]
theorem paid_not {l : List P3} {p : P3} (h : clash l p = false) (hp : p ∉ l) : paidP l p.1 = z3 ∧ paidB l p.1 = false := by
  rcases hf : l.find? (fun x => decide (x.1 = p.1)) with _ | x
  · simp [paidP, paidB, hf]
  · have h1 := List.mem_of_find?_eq_some hf
    have h2 : x.1 = p.1 := by simpa using List.find?_some hf
    exact absurd (clash_iff.1 h x h1 h2 ▸ h1) hp
theorem paid_ride {l : List P3} {r : Int} {x : P3} (hx : x ∈ l) (h : x.1 = r) : paidB l r = true ∧ ∃ y ∈ l, y.1 = r ∧ paidP l r = y := by
  rcases hf : l.find? (fun x => decide (x.1 = r)) with _ | y
  · rw [List.find?_eq_none] at hf
    exact absurd (decide_eq_true h) (hf x hx)
  · exact ⟨by simp [paidB, hf], y, List.mem_of_find?_eq_some hf, by simpa using List.find?_some hf, by simp [paidP, hf]⟩
theorem payE_ok {l : List P3} {p : P3} (h : payE l p = 0) : rightB p = true ∧ clash l p = false ∧ (p ∈ l ∨ l.length < 256) := by
  unfold payE at h
  split at h
  · exact absurd h (by decide)
  · rename_i h1
    split at h
    · exact absurd h (by decide)
    · rename_i h2
      split at h
      · exact absurd h (by decide)
      · rename_i h3
        refine ⟨by simpa using h1, by simpa using h2, ?_⟩
        by_cases hp : p ∈ l
        · exact .inl hp
        · exact .inr (by have : ¬ (256 ≤ l.length) := fun e => h3 ⟨hp, e⟩; omega)
theorem payE_no {l : List P3} {p : P3} (h : payE l p ≠ 0) : (payE l p = 1 ∧ rightB p = false) ∨ (payE l p = 21 ∧ clash l p = true) ∨ (payE l p = 8 ∧ 256 ≤ l.length) := by
  unfold payE at h ⊢
  by_cases h1 : rightB p = false
  · exact .inl ⟨by rw [if_pos h1], h1⟩
  · rw [if_neg h1] at h ⊢
    by_cases h2 : clash l p = true
    · exact .inr (.inl ⟨by rw [if_pos h2], h2⟩)
    · rw [if_neg h2] at h ⊢
      by_cases h3 : p ∉ l ∧ 256 ≤ l.length
      · exact .inr (.inr ⟨by rw [if_pos h3], h3.2⟩)
      · rw [if_neg h3] at h; exact absurd rfl h
theorem clash_mem {l : List P3} {p : P3} (h : clash l p = true) : ∃ x ∈ l, x.1 = p.1 ∧ x ≠ p := by
  unfold clash at h
  obtain ⟨x, hx, h2⟩ := List.any_eq_true.1 h
  exact ⟨x, hx, of_decide_eq_true h2⟩
theorem payL_has {l : List P3} {p : P3} (h : payE l p = 0) : clash (payL l p) p = false ∧ p ∈ payL l p := by
  obtain ⟨_, h2, _⟩ := payE_ok h
  by_cases hp : p ∈ l
  · rw [payL_had h hp]; exact ⟨h2, hp⟩
  · rw [payL_new h hp]
    refine ⟨clash_iff.2 fun x hx e => ?_, by simp⟩
    rcases List.mem_append.1 hx with hx | hx
    · exact clash_iff.1 h2 x hx e
    · exact List.mem_singleton.1 hx
theorem payE_again {l : List P3} {p : P3} (h : payE l p = 0) : payE (payL l p) p = 0 := payE_had (payE_ok h).1 (payL_has h).1 (payL_has h).2
theorem payL_again {l : List P3} {p : P3} (h : payE l p = 0) : payL (payL l p) p = payL l p := payL_had (payE_again h) (payL_has h).2
theorem payL_sub {l : List P3} {p : P3} (h : payE l p = 0) {x : P3} (hx : x ∈ l) : x ∈ payL l p := by
  by_cases hp : p ∈ l
  · rw [payL_had h hp]; exact hx
  · rw [payL_new h hp]; exact List.mem_append_left _ hx
theorem payL_len {l : List P3} {p : P3} (h : payE l p = 0) : l.length ≤ (payL l p).length ∧ (payL l p).length ≤ l.length + 1 := by
  by_cases hp : p ∈ l
  · rw [payL_had h hp]; omega
  · rw [payL_new h hp]; simp

/-! No ride of a bank stands twice. -/
def distP (m : List P3) : Prop := ∀ i (hi : i < m.length) k (hk : k < i), m[i].1 ≠ m[k].1
theorem distP_eq {m : List P3} (h : distP m) {x y : P3} (hx : x ∈ m) (hy : y ∈ m) (e : x.1 = y.1) : x = y := by
  obtain ⟨i, hi, rfl⟩ := List.getElem_of_mem hx
  obtain ⟨j, hj, rfl⟩ := List.getElem_of_mem hy
  rcases Nat.lt_trichotomy i j with h1 | h1 | h1
  · exact absurd e.symm (h j hj i h1)
  · subst h1; rfl
  · exact absurd e (h i hi j h1)
theorem distP_pay {m : List P3} {p : P3} (h : distP m) (h0 : payE m p = 0) : distP (payL m p) := by
  by_cases hp : p ∈ m
  · rw [payL_had h0 hp]; exact h
  · rw [payL_new h0 hp]
    intro i hi k hk
    have hkm : k < m.length := by simp at hi; omega
    rw [List.getElem_append_left hkm]
    rcases Nat.lt_or_ge i m.length with h1 | h1
    · rw [List.getElem_append_left h1]
      exact h i h1 k hk
    · have hi' : i = m.length := by simp at hi; omega
      subst hi'
      have e0 : (m ++ [p])[m.length]'hi = p := by simp
      rw [e0]
      intro e
      have := clash_iff.1 (payE_ok h0).2.1 _ (List.getElem_mem hkm) e.symm
      exact hp (this ▸ List.getElem_mem hkm)
theorem paid_of {m : List P3} (h : distP m) {s : P3} (hs : s ∈ m) : paidP m s.1 = s ∧ paidB m s.1 = true :=
  paid_had (clash_iff.2 fun _ hx e => distP_eq h hx hs e) hs
theorem paid_other {m : List P3} (h : distP m) {r x : P3} (hx : x ∈ m) (e : x.1 = r.1) (hne : x ≠ r) : paidP m r.1 ≠ r ∧ paidB m r.1 = true := by
  obtain ⟨h1, y, hy, h2, h3⟩ := paid_ride hx e
  refine ⟨?_, h1⟩
  rw [h3]
  rintro rfl
  exact hne (distP_eq h hx hy e)

/-! Which payment is next. -/
theorem best_spec (st tr : Nat → Int) : ∀ k, (best st tr k < 0 → ∀ j, j < k → st j ≠ 0) ∧ (0 ≤ best st tr k → st (best st tr k).toNat = 0 ∧ (∀ j, j < k → st j = 0 → tr (best st tr k).toNat ≤ tr j) ∧ ∀ j, j < (best st tr k).toNat → st j = 0 → tr (best st tr k).toNat < tr j)
  | 0 => ⟨fun _ j h => absurd h (Nat.not_lt_zero _), fun h => by simp [best] at h⟩
  | k + 1 => by
    have ih := best_spec st tr k
    have bd := best_bound st tr k
    unfold best
    split
    · rename_i h
      refine ⟨fun h' => by omega, fun _ => ⟨by simpa using h.1, fun j hj h0 => ?_, fun j hj h0 => ?_⟩⟩
      · simp only [Int.toNat_natCast]
        rcases Nat.lt_or_ge j k with h1 | h1
        · rcases h.2 with h2 | h2
          · exact absurd h0 (ih.1 h2 j h1)
          · by_cases hb : best st tr k < 0
            · exact absurd h0 (ih.1 hb j h1)
            · have := (ih.2 (by omega)).2.1 j h1 h0; omega
        · have : j = k := by omega
          subst this; exact Int.le_refl _
      · simp only [Int.toNat_natCast] at hj ⊢
        rcases h.2 with h2 | h2
        · exact absurd h0 (ih.1 h2 j hj)
        · by_cases hb : best st tr k < 0
          · exact absurd h0 (ih.1 hb j hj)
          · have := (ih.2 (by omega)).2.1 j hj h0; omega
    · rename_i h
      refine ⟨fun h' j hj => ?_, fun h' => ⟨(ih.2 h').1, fun j hj h0 => ?_, (ih.2 h').2.2⟩⟩
      · intro h0
        rcases Nat.lt_or_ge j k with h1 | h1
        · exact ih.1 h' j h1 h0
        · have : j = k := by omega
          subst this
          exact h ⟨h0, .inl h'⟩
      · rcases Nat.lt_or_ge j k with h1 | h1
        · exact (ih.2 h').2.1 j h1 h0
        · have : j = k := by omega
          subst this
          have : ¬ (tr j < tr (best st tr j).toNat) := fun e => h ⟨h0, .inr e⟩
          omega
theorem next_spec {L : List En} (h : nextB L = true) : ∃ b, ∃ hb : b < L.length, nextP L = L[b].1 ∧ L[b].2.1 = 0 ∧ (∀ j (hj : j < L.length), L[j].2.1 = 0 → L[b].2.2 ≤ L[j].2.2) ∧ ∀ j (hj : j < L.length), j < b → L[j].2.1 = 0 → L[b].2.2 < L[j].2.2 := by
  have h0 : 0 ≤ bst L L.length := of_decide_eq_true h
  have hbd := bst_bound L L.length
  have hs := (best_spec (stOf L) (trOf L) L.length).2 h0
  obtain ⟨b, hb⟩ : ∃ b : Nat, bst L L.length = b := ⟨(bst L L.length).toNat, by omega⟩
  have hbl : b < L.length := by omega
  change stOf L (bst L L.length).toNat = 0 ∧ (∀ j, j < L.length → stOf L j = 0 → trOf L (bst L L.length).toNat ≤ trOf L j) ∧ ∀ j, j < (bst L L.length).toNat → stOf L j = 0 → trOf L (bst L L.length).toNat < trOf L j at hs
  rw [hb, Int.toNat_natCast, stOf_at hbl, trOf_at hbl] at hs
  refine ⟨b, hbl, ?_, hs.1, fun j hj h1 => ?_, fun j hj hjb h1 => ?_⟩
  · unfold nextP
    rw [if_neg (by omega), hb, Int.toNat_natCast]
    simp [hbl]
  · have := hs.2.1 j hj (by rw [stOf_at hj]; exact h1)
    rwa [trOf_at hj] at this
  · have := hs.2.2 j hjb (by rw [stOf_at hj]; exact h1)
    rwa [trOf_at hj] at this
theorem next_none {L : List En} (h : nextB L = false) : ∀ j (hj : j < L.length), L[j].2.1 ≠ 0 := by
  have h0 : bst L L.length < 0 := by have := of_decide_eq_false h; omega
  intro j hj
  have := (best_spec (stOf L) (trOf L) L.length).1 h0 j hj
  rwa [stOf_at hj] at this
theorem dist_idx {L : List En} (h : dist L) {b : Nat} (hb : b < L.length) : idx L L[b].1.1 = some b :=
  idx_at hb rfl fun j hj hjb => by
    have := idx_none (h b hb) (j := j) (by simp; omega)
    simpa using this
theorem dist_eq {L : List En} (h : dist L) {i j : Nat} (hi : i < L.length) (hj : j < L.length) (e : L[i].1.1 = L[j].1.1) : i = j := by
  have h1 := dist_idx h hi
  rw [e, dist_idx h hj] at h1
  injection h1 with h1
  exact h1.symm

/-! How many are open, and of what rank. -/
def sts (L : List En) : List Int := L.map (·.2.1)
def rk (L : List En) (i : Nat) : Nat := ((sts L).take i).countP fun s => decide (s = 0)
def nOpen (L : List En) : Nat := rk L L.length
theorem rk_succ {L : List En} {i : Nat} (hi : i < L.length) : rk L (i + 1) = rk L i + if L[i].2.1 = 0 then 1 else 0 := by
  unfold rk
  rw [List.take_succ_eq_append_getElem (by simpa [sts] using hi), List.countP_append, List.countP_singleton]
  simp [sts]
theorem rk_mono {L : List En} {i : Nat} : ∀ d, i + d ≤ L.length → rk L i ≤ rk L (i + d)
  | 0, _ => Nat.le_refl _
  | d + 1, h => by
    have h1 := rk_mono (L := L) (i := i) d (by omega)
    have h2 := rk_succ (L := L) (i := i + d) (by omega)
    rw [show i + (d + 1) = i + d + 1 from rfl, h2]
    omega
theorem rk_le {L : List En} {i j : Nat} (h : i ≤ j) (hj : j ≤ L.length) : rk L i ≤ rk L j := by
  have := rk_mono (L := L) (i := i) (j - i) (by omega)
  rwa [show i + (j - i) = j from by omega] at this
theorem rk_lt {L : List En} {i j : Nat} (hi : i < L.length) (h : i < j) (hj : j ≤ L.length) (h0 : L[i].2.1 = 0) : rk L i < rk L j := by
  have h1 := rk_succ hi
  rw [if_pos h0] at h1
  have := rk_le (L := L) (i := i + 1) (j := j) (by omega) hj
  omega
theorem rk_inj {L : List En} {i j : Nat} (hi : i < L.length) (hj : j < L.length) (h0 : L[i].2.1 = 0) (h1 : L[j].2.1 = 0) (h : rk L i = rk L j) : i = j := by
  rcases Nat.lt_trichotomy i j with h2 | h2 | h2
  · have := rk_lt hi h2 (Nat.le_of_lt hj) h0; omega
  · exact h2
  · have := rk_lt hj h2 (Nat.le_of_lt hi) h1; omega
theorem rk_find {L : List En} : ∀ (k r : Nat), k ≤ L.length → r < rk L k → ∃ j, ∃ hj : j < L.length, j < k ∧ L[j].2.1 = 0 ∧ rk L j = r
  | 0, r, _, h => by simp [rk] at h
  | k + 1, r, hk, h => by
    have hs := rk_succ (L := L) (i := k) (by omega)
    by_cases h1 : r < rk L k
    · obtain ⟨j, hj, h2, h3⟩ := rk_find k r (by omega) h1
      exact ⟨j, hj, by omega, h3⟩
    · by_cases h0 : L[k].2.1 = 0
      · rw [if_pos h0] at hs
        exact ⟨k, by omega, by omega, h0, by omega⟩
      · rw [if_neg h0] at hs; omega
theorem rk_zero {L : List En} (h : nOpen L = 0) {j : Nat} (hj : j < L.length) : L[j].2.1 ≠ 0 := fun h0 => by
  have := rk_lt hj hj (Nat.le_refl _) h0
  unfold nOpen at h; omega
theorem ofS_open (L : List En) : (ofS L 0).length = nOpen L := by
  unfold ofS nOpen rk sts
  rw [List.length_map, List.take_of_length_le (by simp), List.countP_map, List.countP_eq_length_filter]
  rfl
theorem sts_set {L : List En} {b : Nat} (hb : b < L.length) (h0 : L[b].2.1 = 0) (p : P3) (t : Int) : sts (L.set b (p, 0, t)) = sts L := by
  unfold sts
  rw [List.map_set]
  apply List.ext_getElem (by simp)
  intro k h1 h2
  rw [List.getElem_set]
  split
  · rename_i e; subst e; simp [h0]
  · rfl
theorem rk_set {L : List En} {b : Nat} (hb : b < L.length) (h0 : L[b].2.1 = 0) (p : P3) (t : Int) (i : Nat) : rk (L.set b (p, 0, t)) i = rk L i := by
  unfold rk; rw [sts_set hb h0]
theorem nOpen_set {L : List En} {b : Nat} (hb : b < L.length) (h0 : L[b].2.1 = 0) (p : P3) (t : Int) : nOpen (L.set b (p, 0, t)) = nOpen L := by
  unfold nOpen; rw [rk_set hb h0, List.length_set]
theorem nOpen_close {L : List En} {b : Nat} (hb : b < L.length) (h0 : L[b].2.1 = 0) (p : P3) (s t : Int) (hs : s ≠ 0) : nOpen (L.set b (p, s, t)) + 1 = nOpen L := by
  have h1 : nOpen (L.set b (p, s, t)) = ((sts L).set b s).countP fun s => decide (s = 0) := by
    unfold nOpen rk sts
    rw [List.take_of_length_le (by simp), List.map_set]
  have h2 : nOpen L = (sts L).countP fun s => decide (s = 0) := by
    unfold nOpen rk sts
    rw [List.take_of_length_le (by simp)]
  have hb' : b < (sts L).length := by simpa [sts] using hb
  have hp : 0 < (sts L).countP fun s => decide (s = 0) := by
    rw [List.countP_pos_iff]
    exact ⟨(sts L)[b], List.getElem_mem hb', by simp [sts, h0]⟩
  have hs0 : decide ((sts L)[b] = 0) = true := by simp [sts, h0]
  rw [h1, h2, List.countP_set hb', if_pos hs0, if_neg (by simp [hs])]
  omega
theorem nOpen_pos {L : List En} {b : Nat} (hb : b < L.length) (h0 : L[b].2.1 = 0) : 0 < nOpen L := by
  have := rk_lt hb hb (Nat.le_refl _) h0
  unfold nOpen; omega
theorem nextB_iff {L : List En} : nextB L = true ↔ 0 < nOpen L := by
  constructor
  · intro h
    obtain ⟨b, hb, _, h0, _⟩ := next_spec h
    exact nOpen_pos hb h0
  · intro h
    rcases hn : nextB L with _ | _
    · obtain ⟨j, hj, _, h0, _⟩ := rk_find L.length 0 (Nat.le_refl _) h
      exact absurd h0 (next_none hn j hj)
    · rfl
/-- What an answer about the next payment makes of the entries. -/
theorem next_ans {L : List En} (hd : dist L) {b : Nat} (hb : b < L.length) (h0 : L[b].2.1 = 0) (e : Int) : ansE L L[b].1.1 = 0 ∧ ansL L L[b].1.1 e = L.set b (L[b].1, stNew 0 e, L[b].2.2 + 1) := by
  have hi := dist_idx hd hb
  exact ⟨ansE_ok hi h0, ansL_ok hi h0⟩
theorem ansL_len (L : List En) (r e : Int) : (ansL L r e).length = L.length := by
  unfold ansL
  split
  · rfl
  · split
    · simp
    · rfl
theorem three_len {N : Nat} {L : List En} (h : fine N L) : (ofS L 0).length + (ofS L 1).length + (ofS L 2).length = L.length := by
  obtain ⟨hl, h⟩ := h
  clear hl
  induction L with
  | nil => rfl
  | cons x L ih =>
    have h1 := ih fun y hy => h y (List.mem_cons_of_mem _ hy)
    have h2 := (h x (List.mem_cons_self ..)).2.1
    have e : ∀ s, (ofS (x :: L) s).length = (ofS L s).length + if x.2.1 = s then 1 else 0 := fun s => by
      unfold ofS
      simp only [List.length_map, List.filter_cons]
      by_cases hs : x.2.1 = s <;> simp [hs]
    rw [e, e, e, List.length_cons]
    rcases h2 with h2 | h2 | h2 <;> simp [h2] <;> omega

/-! Charging once. -/
def OnceI (L : List En) (m : List P3) : Prop := ∀ e ∈ L, (e.2.1 = 1 → e.1 ∈ m) ∧ (e.2.1 = 2 → ∃ x ∈ m, x.1 = e.1.1 ∧ x ≠ e.1)
theorem once_open {L : List En} {m : List P3} (h : ∀ e ∈ L, e.2.1 = 0) : OnceI L m := fun e he => by
  have := h e he
  exact ⟨fun h1 => by omega, fun h1 => by omega⟩
theorem ask_open {L : List En} {p : P3} (h : ∀ e ∈ L, e.2.1 = 0) : ∀ e ∈ askL L p, e.2.1 = 0 := by
  unfold askL
  split
  · intro e he
    rcases List.mem_append.1 he with he | he
    · exact h e he
    · obtain rfl := List.mem_singleton.1 he; rfl
  · exact h
theorem all_open {L : List En} (h : ∀ e ∈ L, e.2.1 = 0) : (ofS L 0).length = L.length := by
  unfold ofS
  rw [List.length_map, List.filter_eq_self.2 fun e he => decide_eq_true (h e he)]
theorem once_set {L : List En} {m m' : List P3} {b : Nat} (h : OnceI L m) (hb : b < L.length) (hm : ∀ x ∈ m, x ∈ m') (s t : Int) (h1 : s = 1 → L[b].1 ∈ m') (h2 : s = 2 → ∃ x ∈ m', x.1 = L[b].1.1 ∧ x ≠ L[b].1) : OnceI (L.set b (L[b].1, s, t)) m' := by
  intro e he
  rcases List.mem_or_eq_of_mem_set he with he | rfl
  · obtain ⟨a1, a2⟩ := h e he
    exact ⟨fun e1 => hm _ (a1 e1), fun e2 => let ⟨x, hx, r⟩ := a2 e2; ⟨x, hm _ hx, r⟩⟩
  · exact ⟨h1, h2⟩
theorem ofS_mem {L : List En} {s : Int} {p : P3} (h : p ∈ ofS L s) : ∃ e ∈ L, e.1 = p ∧ e.2.1 = s := by
  obtain ⟨e, he, rfl⟩ := List.mem_map.1 h
  obtain ⟨h1, h2⟩ := List.mem_filter.1 he
  exact ⟨e, h1, rfl, of_decide_eq_true h2⟩
theorem once_settled {L : List En} {m : List P3} (h : OnceI L m) (hd : distP m) {p : P3} (hp : p ∈ ofS L 1) : paidP m p.1 = p ∧ paidB m p.1 = true := by
  obtain ⟨e, he, rfl, hs⟩ := ofS_mem hp
  exact paid_of hd ((h e he).1 hs)
theorem once_refused {L : List En} {m : List P3} (h : OnceI L m) (hd : distP m) {p : P3} (hp : p ∈ ofS L 2) : paidP m p.1 ≠ p ∧ paidB m p.1 = true := by
  obtain ⟨e, he, rfl, hs⟩ := ofS_mem hp
  obtain ⟨x, hx, e1, e2⟩ := (h e he).2 hs
  exact paid_other hd hx e1 e2

/-! Taking turns. -/
def PhB (L : List En) (T : Int) (r : Nat) : Prop := ∀ j (hj : j < L.length), L[j].2.1 = 0 → L[j].2.2 = if rk L j < r then T + 1 else T
def gap (M : Int) : List En → Int
  | [] => 0
  | e :: L => (if e.2.1 = 0 then M - e.2.2 else 0) + gap M L
theorem gap_set (M : Int) : ∀ (L : List En) (b : Nat) (hb : b < L.length), L[b].2.1 = 0 → ∀ (p : P3) (t : Int), gap M (L.set b (p, 0, t)) = gap M L + L[b].2.2 - t
  | [], b, hb, _, _, _ => absurd hb (Nat.not_lt_zero _)
  | e :: L, 0, _, h0, p, t => by
    simp only [List.set_cons_zero, gap, List.getElem_cons_zero] at h0 ⊢
    rw [if_pos h0]; simp; omega
  | e :: L, b + 1, hb, h0, p, t => by
    have := gap_set M L b (by simpa using hb) (by simpa using h0) p t
    simp only [List.set_cons_succ, gap, List.getElem_cons_succ] at this ⊢
    omega
theorem gap_bd (M : Int) : ∀ (L : List En), (∀ e ∈ L, e.2.1 = 0 → e.2.2 ≤ M) → 0 ≤ gap M L ∧ (gap M L = 0 → ∀ e ∈ L, e.2.1 = 0 → e.2.2 = M)
  | [], _ => ⟨Int.le_refl _, fun _ e he => by cases he⟩
  | e :: L, h => by
    have ih := gap_bd M L fun x hx => h x (List.mem_cons_of_mem _ hx)
    have h1 := h e (List.mem_cons_self ..)
    simp only [gap]
    by_cases h0 : e.2.1 = 0
    · have h2 := h1 h0
      rw [if_pos h0]
      refine ⟨by omega, fun hg x hx hx0 => ?_⟩
      rcases List.mem_cons.1 hx with rfl | hx
      · omega
      · exact ih.2 (by omega) x hx hx0
    · rw [if_neg h0]
      refine ⟨by omega, fun hg x hx hx0 => ?_⟩
      rcases List.mem_cons.1 hx with rfl | hx
      · exact absurd hx0 h0
      · exact ih.2 (by omega) x hx hx0
theorem gap_top (M : Int) (hM : 0 ≤ M) : ∀ (L : List En), (∀ e ∈ L, 0 ≤ e.2.2) → gap M L ≤ M * ((ofS L 0).length : Nat)
  | [], _ => by simp [gap, ofS]
  | e :: L, h => by
    have ih := gap_top M hM L fun x hx => h x (List.mem_cons_of_mem _ hx)
    have h1 := h e (List.mem_cons_self ..)
    have e1 : (ofS (e :: L) 0).length = (ofS L 0).length + if e.2.1 = 0 then 1 else 0 := by
      unfold ofS
      simp only [List.length_map, List.filter_cons]
      by_cases hs : e.2.1 = 0 <;> simp [hs]
    rw [e1]
    simp only [gap]
    by_cases h0 : e.2.1 = 0
    · rw [if_pos h0, if_pos h0, Int.natCast_add, Int.mul_add]; simp; omega
    · rw [if_neg h0, if_neg h0]; simpa using ih
theorem phB_rank {L : List En} {T : Int} {r b : Nat} (h : PhB L T r) (hr : r < nOpen L) (hb : b < L.length) (h0 : L[b].2.1 = 0) (h1 : ∀ j (hj : j < L.length), L[j].2.1 = 0 → L[b].2.2 ≤ L[j].2.2) (h2 : ∀ j (hj : j < L.length), j < b → L[j].2.1 = 0 → L[b].2.2 < L[j].2.2) : rk L b = r ∧ L[b].2.2 = T := by
  obtain ⟨j, hj, _, hj0, hjr⟩ := rk_find L.length r (Nat.le_refl _) hr
  have tj := h j hj hj0
  rw [if_neg (by omega)] at tj
  have tb := h b hb h0
  have a1 := h1 j hj hj0
  by_cases hlt : rk L b < r
  · rw [if_pos hlt] at tb; omega
  · rw [if_neg hlt] at tb
    refine ⟨?_, tb⟩
    rcases Nat.lt_or_ge j b with hjb | hjb
    · have := h2 j hj hjb hj0; omega
    · have := rk_le (L := L) hjb (Nat.le_of_lt hj)
      omega
theorem phB_step {L : List En} {T : Int} {r b : Nat} (h : PhB L T r) (hb : b < L.length) (h0 : L[b].2.1 = 0) (hr : rk L b = r) (ht : L[b].2.2 = T) : PhB (L.set b (L[b].1, 0, L[b].2.2 + 1)) T (r + 1) := by
  intro j hj hj0
  have hj' : j < L.length := by simpa using hj
  rw [rk_set hb h0]
  rw [List.getElem_set] at hj0 ⊢
  split at hj0
  · rename_i e
    subst e
    rw [if_pos rfl, if_pos (by omega)]
    show L[b].2.2 + 1 = T + 1
    omega
  · rename_i e
    rw [if_neg e]
    have hne : rk L j ≠ r := fun e' => e (rk_inj hb hj' h0 hj0 (hr.trans e'.symm))
    rw [h j hj' hj0]
    by_cases hlt : rk L j < r
    · rw [if_pos hlt, if_pos (by omega)]
    · rw [if_neg hlt, if_neg (by omega)]
theorem phB_wrap {L : List En} {T : Int} (h : PhB L T (nOpen L)) : PhB L (T + 1) 0 := fun j hj hj0 => by
  rw [h j hj hj0, if_pos (show rk L j < nOpen L from rk_lt hj hj (Nat.le_refl _) hj0), if_neg (Nat.not_lt_zero _)]
/-- After k lost answers: the tries come even. -/
def Even (n k : Nat) (L : List En) : Prop := ((∀ e ∈ L, e.2.1 = 0 → e.2.2 ≤ 40) ∧ gap 40 L + k ≤ 40 * n) ∨ ∃ T r, r < n ∧ PhB L T r
theorem even_start {L : List En} {N : Nat} (h : fine N L) (hN : N ≤ 40) : Even (nOpen L) 0 L :=
  .inl ⟨fun e he _ => by have := (h.2 e he).2.2.2; omega, by
    have := gap_top 40 (by decide) L fun e he => (h.2 e he).2.2.1
    rw [ofS_open] at this
    simpa using this⟩
theorem even_step {L : List En} {n k b : Nat} (h : Even n k L) (hn : nOpen L = n) (hb : b < L.length) (h0 : L[b].2.1 = 0) (h1 : ∀ j (hj : j < L.length), L[j].2.1 = 0 → L[b].2.2 ≤ L[j].2.2) (h2 : ∀ j (hj : j < L.length), j < b → L[j].2.1 = 0 → L[b].2.2 < L[j].2.2) : Even n (k + 1) (L.set b (L[b].1, 0, L[b].2.2 + 1)) := by
  have hpos := nOpen_pos hb h0
  have key : ∀ T r, r < n → PhB L T r → Even n (k + 1) (L.set b (L[b].1, 0, L[b].2.2 + 1)) := fun T r hr hp => by
    obtain ⟨e1, e2⟩ := phB_rank hp (by omega) hb h0 h1 h2
    have hs := phB_step hp hb h0 e1 e2
    by_cases hl : r + 1 < n
    · exact .inr ⟨T, r + 1, hl, hs⟩
    · have : r + 1 = nOpen (L.set b (L[b].1, 0, L[b].2.2 + 1)) := by rw [nOpen_set hb h0]; omega
      rw [this] at hs
      exact .inr ⟨T + 1, 0, by omega, phB_wrap hs⟩
  rcases h with ⟨ha, hg⟩ | ⟨T, r, hr, hp⟩
  · obtain ⟨g1, g2⟩ := gap_bd 40 L ha
    by_cases hz : gap 40 L = 0
    · exact key 40 0 (by omega) fun j hj hj0 => by rw [if_neg (Nat.not_lt_zero _)]; exact g2 hz _ (List.getElem_mem hj) hj0
    · have hlt : L[b].2.2 < 40 := by
        rcases Int.lt_or_le L[b].2.2 40 with h | h
        · exact h
        · refine absurd ?_ hz
          have : ∀ (M : List En), (∀ e ∈ M, e.2.1 = 0 → e.2.2 = 40) → gap 40 M = 0 := fun M => by
            induction M with
            | nil => intro _; rfl
            | cons e M ih =>
              intro hM
              simp only [gap]
              rw [ih fun x hx => hM x (List.mem_cons_of_mem _ hx)]
              by_cases hs : e.2.1 = 0
              · rw [if_pos hs, hM e (List.mem_cons_self ..) hs]; omega
              · rw [if_neg hs]; omega
          refine this L fun e he he0 => ?_
          obtain ⟨j, hj, rfl⟩ := List.getElem_of_mem he
          have a1 := h1 j hj he0
          have a2 := ha _ he he0
          omega
      refine .inl ⟨fun e he he0 => ?_, ?_⟩
      · rcases List.mem_or_eq_of_mem_set he with he | rfl
        · exact ha e he he0
        · show L[b].2.2 + 1 ≤ 40
          omega
      · rw [gap_set 40 L b hb h0]; omega
  · exact key T r hr hp
theorem even_end {L : List En} {n : Nat} (h : Even n (80 * n) L) (hn : 0 < n) : ∃ T r, r < n ∧ PhB L T r := by
  rcases h with ⟨ha, hg⟩ | h
  · have := (gap_bd 40 L ha).1
    omega
  · exact h
/-- The rides that were tried in k rounds from rank r on. -/
def Tried (L : List En) (n r k : Nat) (tried : List Int) : Prop := tried.length = k ∧ ∀ x ∈ tried, ∃ j, ∃ hj : j < L.length, L[j].2.1 = 0 ∧ L[j].1.1 = x ∧ ∃ i, i < k ∧ (rk L j = r + i ∨ rk L j + n = r + i)
def rot (n r k : Nat) : Nat := if r + k < n then r + k else r + k - n
theorem tried_new {L : List En} {n r k b : Nat} {tried : List Int} (h : Tried L n r k tried) (hd : dist L) (_hn : nOpen L = n) (hr : r < n) (hk : k < n) (hb : b < L.length) (h0 : L[b].2.1 = 0) (hrk : rk L b = rot n r k) : (∀ x ∈ tried, x ≠ L[b].1.1) ∧ Tried (L.set b (L[b].1, 0, L[b].2.2 + 1)) n r (k + 1) (tried ++ [L[b].1.1]) := by
  have hrk' : rk L b = r + k ∨ rk L b + n = r + k := by
    rw [hrk]; unfold rot
    by_cases h : r + k < n
    · rw [if_pos h]; exact .inl rfl
    · rw [if_neg h]; exact .inr (by omega)
  refine ⟨fun x hx => ?_, by simp [h.1], fun x hx => ?_⟩
  · obtain ⟨j, hj, hj0, rfl, i, hi, hji⟩ := h.2 x hx
    intro e
    have : j = b := dist_eq hd hj hb e
    subst this
    omega
  · have hstep : ∀ j (hj : j < L.length), L[j].2.1 = 0 → ∃ hj' : j < (L.set b (L[b].1, 0, L[b].2.2 + 1)).length, (L.set b (L[b].1, 0, L[b].2.2 + 1))[j].2.1 = 0 ∧ (L.set b (L[b].1, 0, L[b].2.2 + 1))[j].1.1 = L[j].1.1 := fun j hj hj0 => by
      refine ⟨by simpa using hj, ?_⟩
      rw [List.getElem_set]
      split
      · rename_i e; subst e; exact ⟨rfl, rfl⟩
      · exact ⟨hj0, rfl⟩
    rcases List.mem_append.1 hx with hx | hx
    · obtain ⟨j, hj, hj0, rfl, i, hi, hji⟩ := h.2 x hx
      obtain ⟨hj', e1, e2⟩ := hstep j hj hj0
      exact ⟨j, hj', e1, e2, i, by omega, by rw [rk_set hb h0]; exact hji⟩
    · obtain rfl := List.mem_singleton.1 hx
      obtain ⟨hj', e1, e2⟩ := hstep b hb h0
      exact ⟨b, hj', e1, e2, k, by omega, by rw [rk_set hb h0]; exact hrk'⟩
theorem phB_rot {L : List En} {T : Int} {n r k b : Nat} (h : PhB L T (rot n r k)) (hn : nOpen L = n) (hr : r < n) (hk : k < n) (hb : b < L.length) (h0 : L[b].2.1 = 0) (h1 : ∀ j (hj : j < L.length), L[j].2.1 = 0 → L[b].2.2 ≤ L[j].2.2) (h2 : ∀ j (hj : j < L.length), j < b → L[j].2.1 = 0 → L[b].2.2 < L[j].2.2) : rk L b = rot n r k ∧ ∃ T', PhB (L.set b (L[b].1, 0, L[b].2.2 + 1)) T' (rot n r (k + 1)) := by
  have hlt : rot n r k < n := by unfold rot; split <;> omega
  obtain ⟨e1, e2⟩ := phB_rank h (by omega) hb h0 h1 h2
  refine ⟨e1, ?_⟩
  have hs := phB_step h hb h0 e1 e2
  by_cases hw : rot n r k + 1 < n
  · refine ⟨T, ?_⟩
    rw [show rot n r (k + 1) = rot n r k + 1 from by unfold rot at hw ⊢; split at hw <;> split <;> omega]
    exact hs
  · refine ⟨T + 1, ?_⟩
    rw [show rot n r (k + 1) = 0 from by unfold rot at hw hlt ⊢; split at hw <;> split <;> omega]
    apply phB_wrap
    rw [nOpen_set hb h0, hn, show n = rot n r k + 1 from by omega]
    exact hs

/-! All payments that were asked for are open, settled or refused. -/
def three (L : List En) : List P3 := ofS L 0 ++ ofS L 1 ++ ofS L 2
theorem three_mem {L : List En} {p : P3} (h : p ∈ three L) : ∃ e ∈ L, e.1 = p := by
  unfold three at h
  rcases List.mem_append.1 h with h | h
  · rcases List.mem_append.1 h with h | h
    · exact let ⟨e, he, h1, _⟩ := ofS_mem h; ⟨e, he, h1⟩
    · exact let ⟨e, he, h1, _⟩ := ofS_mem h; ⟨e, he, h1⟩
  · exact let ⟨e, he, h1, _⟩ := ofS_mem h; ⟨e, he, h1⟩
theorem dist_pair {L : List En} (h : dist L) : L.Pairwise fun x y => x.1.1 ≠ y.1.1 := by
  rw [List.pairwise_iff_getElem]
  intro i j hi hj hij e
  have := dist_eq h hi hj e
  omega
theorem ofS_pair {L : List En} (h : dist L) (s : Int) : (ofS L s).Pairwise fun x y => x.1 ≠ y.1 := by
  unfold ofS
  rw [List.pairwise_map]
  exact (dist_pair h).sublist List.filter_sublist
theorem ofS_apart {L : List En} (h : dist L) {s t : Int} (hst : s ≠ t) {x y : P3} (hx : x ∈ ofS L s) (hy : y ∈ ofS L t) : x.1 ≠ y.1 := by
  obtain ⟨e, he, rfl, h1⟩ := ofS_mem hx
  obtain ⟨e', he', rfl, h2⟩ := ofS_mem hy
  obtain ⟨i, hi, rfl⟩ := List.getElem_of_mem he
  obtain ⟨j, hj, rfl⟩ := List.getElem_of_mem he'
  intro e
  have := dist_eq h hi hj e
  subst this
  exact hst (h1.symm.trans h2)
theorem three_pair {L : List En} (h : dist L) : (three L).Pairwise fun x y => x.1 ≠ y.1 := by
  unfold three
  rw [List.pairwise_append, List.pairwise_append]
  refine ⟨⟨ofS_pair h 0, ofS_pair h 1, fun x hx y hy => ofS_apart h (by decide) hx hy⟩, ofS_pair h 2, fun x hx y hy => ?_⟩
  rcases List.mem_append.1 hx with hx | hx
  · exact ofS_apart h (by decide) hx hy
  · exact ofS_apart h (by decide) hx hy
theorem three_apart {L : List En} (h : dist L) {i k : Nat} (hi : i < (three L).length) (hk : k < i) : (three L)[k].1 ≠ (three L)[i].1 :=
  List.pairwise_iff_getElem.1 (three_pair h) k i (by omega) hi hk
/-- The rides of the asks that were accepted. -/
def Rides (L : List En) (rides : List Int) : Prop := ∀ e ∈ L, e.1.1 ∈ rides
theorem rides_ask {L : List En} {rides : List Int} {p : P3} (h : Rides L rides) : Rides (askL L p) (if askE L p = 0 then rides ++ [p.1] else rides) := by
  by_cases hn : rightB p = true ∧ idx L p.1 = none ∧ L.length < 256
  · rw [if_pos (askE_new hn.1 hn.2.1 hn.2.2)]
    intro e he
    rw [askL, if_pos hn] at he
    rcases List.mem_append.1 he with he | he
    · exact List.mem_append_left _ (h e he)
    · obtain rfl := List.mem_singleton.1 he
      simp
  · intro e he
    rw [askL, if_neg hn] at he
    have := h e he
    split
    · exact List.mem_append_left _ this
    · exact this
theorem rides_ans {L : List En} {rides : List Int} {r e : Int} (h : Rides L rides) : Rides (ansL L r e) rides := by
  unfold ansL
  split
  · exact h
  · rename_i i hi
    split
    · intro x hx
      rcases List.mem_or_eq_of_mem_set hx with hx | rfl
      · exact h x hx
      · have hil := idx_lt hi
        have := h _ (List.getElem_mem hil)
        show ((L.map (·.1)).getD i z3).1 ∈ rides
        simpa [hil] using this
    · exact h

/-! A full desk. -/
def asks (k : Nat) : List En := (List.range k).map fun (i : Nat) => (((i : Int) + 1, 1, 100 * ((i : Int) + 1)), 0, 0)
theorem asks_len (k : Nat) : (asks k).length = k := by simp [asks]
theorem asks_at {k i : Nat} (hi : i < (asks k).length) : (asks k)[i] = (((i : Int) + 1, 1, 100 * ((i : Int) + 1)), 0, 0) := by simp [asks]
theorem asks_idx {k : Nat} {r : Int} (h1 : 1 ≤ r) (h2 : r ≤ k) : ∃ i : Nat, idx (asks k) r = some i ∧ (i : Int) + 1 = r := by
  have hl := asks_len k
  refine ⟨(r - 1).toNat, idx_at (by omega) ?_ fun j hj hjk => ?_, by omega⟩
  · rw [asks_at]; show (((r - 1).toNat : Int)) + 1 = r; omega
  · rw [asks_at]; show ((j : Int)) + 1 ≠ r; omega
theorem asks_none {k : Nat} {r : Int} (h : r < 1 ∨ (k : Int) < r) : idx (asks k) r = none :=
  idx_no fun j hj => by
    have := asks_len k
    rw [asks_at]; show ((j : Int)) + 1 ≠ r; omega
theorem asks_step {k : Nat} (hk : k < 256) : askE (asks k) ((k : Int) + 1, 1, 100 * ((k : Int) + 1)) = 0 ∧ askL (asks k) ((k : Int) + 1, 1, 100 * ((k : Int) + 1)) = asks (k + 1) := by
  have hr : rightB ((k : Int) + 1, 1, 100 * ((k : Int) + 1)) = true := decide_eq_true ⟨by simp; omega, by simp; omega, by simp, by simp, by simp; omega, by simp; omega⟩
  have hi : idx (asks k) ((k : Int) + 1) = none := asks_none (.inr (by omega))
  have hl := asks_len k
  refine ⟨askE_new hr hi (by omega), ?_⟩
  rw [askL_new hr hi (by omega)]
  simp [asks, List.range_succ]
/-- What the full desk says to one more. -/
def wantE (p : P3) : Int := if rightB p = false then 1 else if p.1 ≤ 256 then (if p = (p.1, 1, 100 * p.1) then 0 else 21) else 8
theorem asks_want (p : P3) : askE (asks 256) p = wantE p ∧ (askL (asks 256) p) = asks 256 := by
  unfold wantE
  have hl := asks_len 256
  rcases hr : rightB p with _ | _
  · exact ⟨by rw [askE_range hr, if_pos rfl], askL_range hr⟩
  · have h1 := of_decide_eq_true hr
    rw [if_neg (by decide)]
    by_cases h2 : p.1 ≤ 256
    · rw [if_pos h2]
      obtain ⟨i, hi, he⟩ := asks_idx (k := 256) h1.1 h2
      refine ⟨?_, askL_had hi⟩
      have hil := idx_lt hi
      by_cases h3 : p = (p.1, 1, 100 * p.1)
      · rw [if_pos h3]
        refine askE_same hr hi ?_
        rw [asks_at hil, h3, he]
      · rw [if_neg h3]
        refine askE_other hr hi ?_
        rw [asks_at hil]
        show (((i : Int) + 1, 1, 100 * ((i : Int) + 1)) : P3) ≠ p
        rw [he]
        exact fun e => h3 e.symm
    · rw [if_neg h2]
      exact ⟨askE_full hr (asks_none (.inr (by omega))) (by omega), askL_full (by omega)⟩
theorem asks_open (k : Nat) : (ofS (asks k) 0).length = k := by
  rw [all_open fun e he => by obtain ⟨i, hi, rfl⟩ := List.getElem_of_mem he; rw [asks_at], asks_len]
end Go.Proofs.Ytakjdffebpcmnaa
