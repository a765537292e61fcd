/- The plain law of taking the oldest first. -/
import Derived.Test.YthbmofijdhfeeaaPlain
namespace Go.Proofs.Ythbmofijdhfeeaa
open Go.RowKit
theorem takeR_count (k : Int) : ∀ (l : List Lt) (n : Int), 0 ≤ n → (∀ x ∈ l, 0 ≤ x.2) → takeR k n l = max 0 (n - countN l k) ∧ countN (takeX k n l) k = countN l k - (n - takeR k n l)
  | [], n, hn, _ => by simp [takeR, countN, takeX]; omega
  | x :: l, n, hn, h => by
    have hx := h x (List.mem_cons_self ..)
    have hl := fun y hy => h y (List.mem_cons_of_mem _ hy)
    have hc : 0 ≤ countN l k := by
      have : ∀ (l : List Lt), (∀ y ∈ l, 0 ≤ y.2) → 0 ≤ countN l k := fun l => by
        induction l with
        | nil => intro _; simp [countN]
        | cons y l ih =>
          intro h
          have h1 := ih fun z hz => h z (List.mem_cons_of_mem _ hz)
          have h2 := h y (List.mem_cons_self ..)
          simp only [countN]; split <;> omega
      exact this l hl
    have ht : 0 ≤ n - tk k n x := by unfold tk; split <;> omega
    obtain ⟨i1, i2⟩ := takeR_count k l (n - tk k n x) ht hl
    simp only [takeR, takeX, countN]
    rw [i1] at i2 ⊢
    rw [i2]
    unfold tk at *
    by_cases hk : x.1.2.1 = k
    · rw [if_pos hk]
      by_cases hm : x.1.2.1 = k ∧ 0 < min n x.2
      · rw [if_pos hm] at *; constructor <;> (try rw [if_pos hk]) <;> omega
      · rw [if_neg hm] at *
        have : ¬ 0 < min n x.2 := fun e => hm ⟨hk, e⟩
        constructor <;> (try rw [if_pos hk]) <;> omega
    · rw [if_neg hk]
      have hm : ¬ (x.1.2.1 = k ∧ 0 < min n x.2) := fun e => hk e.1
      rw [if_neg hm] at *
      constructor <;> (try rw [if_neg hk]) <;> omega
theorem take_all {l : List Lt} {k n : Int} (hf : fine l) (h : takeE l k n = 0) : takeR k n l = 0 ∧ countN (takeX k n l) k = countN l k - n ∧ takeO k n l ≠ [] := by
  obtain ⟨_, h2, h3⟩ := takeE_inv h
  have hn : 1 ≤ n ∧ n ≤ 1000000 := of_decide_eq_true h2
  obtain ⟨i1, i2⟩ := takeR_count k l n (by omega) fun x hx => (fine_left hf x hx).1
  have hz : takeR k n l = 0 := by rw [i1]; omega
  refine ⟨hz, by rw [i2, hz]; omega, fun e => ?_⟩
  have : ∀ (l : List Lt) (n : Int), takeO k n l = [] → takeR k n l = n := fun l => by
    induction l with
    | nil => intro n _; rfl
    | cons x l ih =>
      intro n hn
      simp only [takeO, List.append_eq_nil_iff] at hn
      simp only [takeR]
      have htk : tk k n x = 0 := by
        unfold tk
        split
        · rename_i hc; rw [if_pos hc] at hn; exact absurd hn.1 (by simp)
        · rfl
      rw [htk, Int.sub_zero] at hn ⊢
      exact ih n hn.2
  have := this l n e
  omega
/-- How many lots were taken of among the first i. -/
def took (k n : Int) (l : List Lt) (i : Nat) : Nat := (takeO k n (l.take i)).length
theorem took_split (k n : Int) (l : List Lt) (i : Nat) : takeO k n l = takeO k n (l.take i) ++ takeO k (takeR k n (l.take i)) (l.drop i) := by
  conv => lhs; rw [← List.take_append_drop i l]
  rw [takeO_app]
/-- The lot i, where some were taken of it. -/
theorem first_yes {k n : Int} {l : List Lt} {i : Nat} (hi : i < l.length) (hc : l[i].1.2.1 = k ∧ 0 < min (takeR k n (l.take i)) l[i].2) :
    ∃ h : took k n l i < (takeO k n l).length, (takeO k n l)[took k n l i].1 = l[i].1.1 ∧ took k n l (i + 1) = took k n l i + 1 := by
  have h1 := took_split k n l i
  have h2 : takeO k (takeR k n (l.take i)) (l.drop i) = (l[i].1.1, min (takeR k n (l.take i)) l[i].2) :: takeO k (takeR k n (l.take i) - tk k (takeR k n (l.take i)) l[i]) (l.drop (i + 1)) := by
    rw [List.drop_eq_getElem_cons hi]
    simp only [takeO]
    rw [if_pos hc]
    rfl
  rw [h2] at h1
  have hlt : took k n l i < (takeO k n l).length := by unfold took; rw [h1]; simp
  refine ⟨hlt, ?_, ?_⟩
  · have : (takeO k n l)[took k n l i]? = some (l[i].1.1, min (takeR k n (l.take i)) l[i].2) := by
      unfold took
      rw [h1, List.getElem?_append_right (Nat.le_refl _)]
      simp
    rw [List.getElem?_eq_getElem hlt] at this
    injection this with this
    rw [this]
  · unfold took
    rw [takeO_yes k n l hi hc.1 hc.2]
    simp
theorem first_no {k n : Int} {l : List Lt} {i : Nat} (hi : i < l.length) (hc : ¬ (l[i].1.2.1 = k ∧ 0 < min (takeR k n (l.take i)) l[i].2)) : took k n l (i + 1) = took k n l i := by
  unfold took; rw [takeO_no k n l hi hc]
/-- The lot i of the kind, none taken of it, while others are still taken of: it is another's turn, and it is empty. -/
theorem first_none {k n : Int} {l : List Lt} {i : Nat} (hd : dist l) (hf : fine l) (hn : 0 ≤ n) (hi : i < l.length) (hk : l[i].1.2.1 = k) (hc : ¬ (l[i].1.2.1 = k ∧ 0 < min (takeR k n (l.take i)) l[i].2)) (hlt : took k n l i < (takeO k n l).length) :
    (takeO k n l)[took k n l i].1 ≠ l[i].1.1 ∧ l[i].2 = 0 := by
  have h1 := took_split k n l i
  have hm : ¬ 0 < min (takeR k n (l.take i)) l[i].2 := fun e => hc ⟨hk, e⟩
  have h0 := (fine_left hf _ (List.getElem_mem hi)).1
  have hR := takeR_bd k (l.take i) n hn fun x hx => (fine_left hf x (List.mem_of_mem_take hx)).1
  have hrest : 0 < takeR k n (l.take i) := by
    rcases Int.lt_or_le 0 (takeR k n (l.take i)) with h | h
    · exact h
    · have hz : ∀ (m : List Lt), takeO k (takeR k n (l.take i)) m = [] := fun m => by
        rcases hm2 : takeO k (takeR k n (l.take i)) m with _ | ⟨t, ts⟩
        · rfl
        · obtain ⟨x, _, _, h2, _, h4, _⟩ := takeO_mem k m (takeR k n (l.take i)) t (by rw [hm2]; exact List.mem_cons_self ..)
          omega
      rw [hz, List.append_nil] at h1
      unfold took at hlt
      rw [← h1] at hlt
      omega
  refine ⟨fun e => ?_, by omega⟩
  have hlt2 : took k n l i < (takeO k n (l.take i) ++ takeO k (takeR k n (l.take i)) (l.drop i)).length := by rw [← h1]; exact hlt
  have hmem : (takeO k n l)[took k n l i] ∈ takeO k (takeR k n (l.take i)) (l.drop i) := by
    have : (takeO k n l)[took k n l i]? = (takeO k (takeR k n (l.take i)) (l.drop i))[0]? := by
      rw [h1, List.getElem?_append_right (by unfold took; exact Nat.le_refl _)]
      unfold took; simp
    rw [List.getElem?_eq_getElem hlt] at this
    exact List.mem_of_getElem? this.symm
  have htk0 : tk k (takeR k n (l.take i)) l[i] = 0 := tk_no hc
  rw [List.drop_eq_getElem_cons hi] at hmem
  simp only [takeO] at hmem
  rw [if_neg hc, List.nil_append] at hmem
  obtain ⟨x, hx, h2, _⟩ := takeO_mem k _ _ _ hmem
  obtain ⟨j, hj, rfl⟩ := List.getElem_of_mem hx
  rw [List.getElem_drop] at h2
  have := dist_eq hd (i := i + 1 + j) (j := i) (by simp at hj; omega) hi (h2.trans e)
  omega
/-- The lot i, of which some were taken though others follow: it is empty then. -/
theorem first_empty {k n : Int} {l : List Lt} {i : Nat} (hf : fine l) (hn : 0 ≤ n) (hi : i < l.length) (hc : l[i].1.2.1 = k ∧ 0 < min (takeR k n (l.take i)) l[i].2) (hlt : took k n l i + 1 < (takeO k n l).length) :
    l[i].2 - tk k (takeR k n (l.take i)) l[i] = 0 := by
  have h1 := took_split k n l (i + 1)
  have h2 := (first_yes hi hc).2.2
  have hR := takeR_bd k (l.take i) n hn fun x hx => (fine_left hf x (List.mem_of_mem_take hx)).1
  rcases Int.lt_or_le (takeR k n (l.take i)) (l[i].2 + 1) with h | h
  · rcases Int.lt_or_le (takeR k n (l.take i)) l[i].2 with h' | h'
    · exfalso
      have hz : takeR k n (l.take (i + 1)) = 0 := by
        rw [takeR_step k n l hi, tk_yes hc.1 hc.2]; omega
      have he : takeO k (takeR k n (l.take (i + 1))) (l.drop (i + 1)) = [] := by
        rcases hm2 : takeO k (takeR k n (l.take (i + 1))) (l.drop (i + 1)) with _ | ⟨t, ts⟩
        · rfl
        · obtain ⟨x, _, _, h2, _, h4, _⟩ := takeO_mem k _ (takeR k n (l.take (i + 1))) t (by rw [hm2]; exact List.mem_cons_self ..)
          omega
      rw [he, List.append_nil] at h1
      unfold took at h2 hlt
      rw [← h2, ← h1] at hlt
      omega
    · rw [tk_yes hc.1 hc.2]; omega
  · rw [tk_yes hc.1 hc.2]; omega
theorem takeX_at (k n : Int) (l : List Lt) {i : Nat} (hi : i < l.length) : (takeX k n l)[i]'(by rw [takeX_len]; exact hi) = (l[i].1, l[i].2 - tk k (takeR k n (l.take i)) l[i]) := by
  have h1 := mid_end k n l (i := l.length) (Nat.le_refl _)
  have h2 : ∀ m, i < m → m ≤ l.length → (mid k n l m)[i]'(by rw [mid_len]; exact hi) = (l[i].1, l[i].2 - tk k (takeR k n (l.take i)) l[i]) := fun m => by
    induction m with
    | zero => intro h; exact absurd h (Nat.not_lt_zero _)
    | succ m ih =>
      intro h hm
      have hs := mid_step k n l (i := m) (by omega)
      have hg : (mid k n l (m + 1))[i]'(by rw [mid_len]; exact hi) = ((mid k n l m).set m (l[m].1, l[m].2 - tk k (takeR k n (l.take m)) l[m]))[i]'(by rw [List.length_set, mid_len]; exact hi) := by simp only [hs]
      rw [hg, List.getElem_set]
      split
      · rename_i e; subst e; rfl
      · rename_i e
        exact ih (by omega) (by omega)
  have h3 := h2 l.length hi (Nat.le_refl _)
  have h4 : (mid k n l l.length)[i]'(by rw [mid_len]; exact hi) = (takeX k n l)[i]'(by rw [takeX_len]; exact hi) := by simp only [h1]
  rw [← h4]; exact h3
end Go.Proofs.Ythbmofijdhfeeaa
