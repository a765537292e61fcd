/- Plain facts on spendings: sums by day, what Check, Left, Spend and Power come to, with no program in sight. -/
namespace Go.Proofs.Ytdfmngnhmiemgaa

abbrev Sp := Int × Int
/-- The units of a day. -/
def sumTo : List Sp → Int → Int
  | [], _ => 0
  | p :: r, d => (if p.1 = d then p.2 else 0) + sumTo r d
theorem sumTo_append (l m : List Sp) (d : Int) : sumTo (l ++ m) d = sumTo l d + sumTo m d := by
  induction l with
  | nil => simp [sumTo]
  | cons p r ih => simp only [List.cons_append, sumTo, ih]; omega
theorem sumTo_one (p : Sp) (d : Int) : sumTo [p] d = if p.1 = d then p.2 else 0 := by simp [sumTo]
theorem sumTo_succ {l : List Sp} {k : Nat} (hk : k < l.length) (d : Int) : sumTo (l.take (k + 1)) d = sumTo (l.take k) d + if l[k].1 = d then l[k].2 else 0 := by
  rw [List.take_succ_eq_append_getElem hk, sumTo_append, sumTo_one]
theorem sumTo_reverse (l : List Sp) (d : Int) : sumTo l.reverse d = sumTo l d := by
  induction l with
  | nil => rfl
  | cons p r ih => rw [List.reverse_cons, sumTo_append, ih, sumTo_one]; simp only [sumTo]; omega

/-- A spending in its ranges. -/
def inR (p : Sp) : Prop := 0 ≤ p.1 ∧ p.1 ≤ 49709 ∧ 1 ≤ p.2 ∧ p.2 ≤ 1000000
instance (p : Sp) : Decidable (inR p) := by unfold inR; infer_instance
def allR (l : List Sp) : Prop := ∀ p ∈ l, inR p
instance (l : List Sp) : Decidable (allR l) := by unfold allR; infer_instance
theorem allR_take {l : List Sp} (h : allR l) (k : Nat) : allR (l.take k) := fun p hp => h p (List.mem_of_mem_take hp)
theorem sum_bd {l : List Sp} (h : allR l) (d : Int) : 0 ≤ sumTo l d ∧ sumTo l d ≤ 1000000 * l.length := by
  induction l with
  | nil => simp [sumTo]
  | cons p r ih =>
    have h1 := ih fun q hq => h q (List.mem_cons_of_mem _ hq)
    have h2 := h p List.mem_cons_self
    unfold inR at h2
    simp only [sumTo, List.length_cons]
    split <;> omega
theorem sum_take_le {l : List Sp} (h : allR l) (k : Nat) (d : Int) : sumTo (l.take k) d ≤ sumTo l d := by
  have := sumTo_append (l.take k) (l.drop k) d
  rw [List.take_append_drop] at this
  have h2 := (sum_bd (l := l.drop k) (fun p hp => h p (List.mem_of_mem_drop hp)) d).1
  omega

/-- No day has more than the limit. -/
def fitsIn (l : List Sp) (lim : Int) : Prop := ∀ p ∈ l, sumTo l p.1 ≤ lim
instance (l : List Sp) (lim : Int) : Decidable (fitsIn l lim) := by unfold fitsIn; infer_instance
theorem fits_day {l : List Sp} {lim : Int} (h : fitsIn l lim) (h0 : 0 ≤ lim) (d : Int) : sumTo l d ≤ lim := by
  by_cases hd : ∃ p ∈ l, p.1 = d
  · obtain ⟨p, hp, rfl⟩ := hd
    exact h p hp
  · have : sumTo l d = 0 := by
      clear h
      induction l with
      | nil => rfl
      | cons p r ih =>
        have h1 : p.1 ≠ d := fun e => hd ⟨p, List.mem_cons_self, e⟩
        simp only [sumTo, if_neg h1]
        have := ih fun ⟨q, hq, e⟩ => hd ⟨q, List.mem_cons_of_mem _ hq, e⟩
        omega
    omega
theorem fits_of_days {l : List Sp} {lim : Int} (h : ∀ d, sumTo l d ≤ lim) : fitsIn l lim := fun p _ => h p.1
/-- Prefix by prefix. -/
def fitsTo (l : List Sp) (lim : Int) (k : Nat) : Prop := ∀ j (hj : j < l.length), j < k → sumTo (l.take (j + 1)) l[j].1 ≤ lim
theorem fitsTo_day {l : List Sp} {lim : Int} (h0 : 0 ≤ lim) (d : Int) : ∀ k, k ≤ l.length → fitsTo l lim k → sumTo (l.take k) d ≤ lim
  | 0, _, _ => by simp [sumTo]; exact h0
  | k + 1, hk, h => by
    have hk' : k < l.length := by omega
    by_cases hd : l[k].1 = d
    · subst hd
      exact h k hk' (by omega)
    · rw [sumTo_succ hk', if_neg hd]
      have := fitsTo_day h0 d k (by omega) fun j hj hjk => h j hj (by omega)
      omega
theorem fitsTo_all {l : List Sp} {lim : Int} (h0 : 0 ≤ lim) (h : fitsTo l lim l.length) : fitsIn l lim := fits_of_days fun d => by
  have := fitsTo_day h0 d l.length (Nat.le_refl _) h
  rwa [List.take_length] at this
theorem fitsTo_no {l : List Sp} {lim : Int} (hr : allR l) {k : Nat} (hk : k < l.length) (h : lim < sumTo (l.take (k + 1)) l[k].1) : ¬ fitsIn l lim := fun hf => by
  have h1 := hf _ (List.getElem_mem hk)
  have h2 := sum_take_le hr (k + 1) l[k].1
  omega
theorem fitsTo_succ {l : List Sp} {lim : Int} {k : Nat} (h : fitsTo l lim k) (hk : k < l.length) (h1 : sumTo (l.take (k + 1)) l[k].1 ≤ lim) : fitsTo l lim (k + 1) := by
  intro j hj hjk
  rcases Nat.lt_or_eq_of_le (Nat.lt_succ_iff.1 hjk) with h' | rfl
  · exact h j hj h'
  · exact h1

/-- What Check says. -/
def checkE (l : List Sp) (lim : Int) : Int :=
  if lim < 0 ∨ 1000000 < lim then 1 else if 512 < l.length then 8 else if ¬ allR l then 1 else if ¬ fitsIn l lim then 31 else 0
theorem check_lim {l : List Sp} {lim : Int} (h : lim < 0 ∨ 1000000 < lim) : checkE l lim = 1 := if_pos h
theorem check_full {l : List Sp} {lim : Int} (h1 : 0 ≤ lim) (h2 : lim ≤ 1000000) (h : 512 < l.length) : checkE l lim = 8 := by
  rw [checkE, if_neg (by omega), if_pos h]
theorem check_range {l : List Sp} {lim : Int} (h1 : 0 ≤ lim) (h2 : lim ≤ 1000000) (h3 : l.length ≤ 512) (h : ¬ allR l) : checkE l lim = 1 := by
  rw [checkE, if_neg (by omega), if_neg (by omega), if_pos h]
theorem check_over {l : List Sp} {lim : Int} (h1 : 0 ≤ lim) (h2 : lim ≤ 1000000) (h3 : l.length ≤ 512) (h4 : allR l) (h : ¬ fitsIn l lim) : checkE l lim = 31 := by
  rw [checkE, if_neg (by omega), if_neg (by omega), if_neg (fun e => e h4), if_pos h]
theorem check_ok {l : List Sp} {lim : Int} (h1 : 0 ≤ lim) (h2 : lim ≤ 1000000) (h3 : l.length ≤ 512) (h4 : allR l) (h : fitsIn l lim) : checkE l lim = 0 := by
  rw [checkE, if_neg (by omega), if_neg (by omega), if_neg (fun e => e h4), if_neg (fun e => e h)]
theorem check_iff {l : List Sp} {lim : Int} : checkE l lim = 0 ↔ 0 ≤ lim ∧ lim ≤ 1000000 ∧ l.length ≤ 512 ∧ allR l ∧ fitsIn l lim := by
  constructor
  · intro h
    by_cases h1 : lim < 0 ∨ 1000000 < lim
    · rw [check_lim h1] at h; cases h
    by_cases h2 : 512 < l.length
    · rw [check_full (by omega) (by omega) h2] at h; cases h
    by_cases h3 : allR l
    · by_cases h4 : fitsIn l lim
      · exact ⟨by omega, by omega, by omega, h3, h4⟩
      · rw [check_over (by omega) (by omega) (by omega) h3 h4] at h; cases h
    · rw [check_range (by omega) (by omega) (by omega) h3] at h; cases h
  · exact fun ⟨a, b, c, d, e⟩ => check_ok a b c d e

/-- What Left says. -/
def leftE (l : List Sp) (lim day : Int) : Int := if checkE l lim ≠ 0 then checkE l lim else if day < 0 ∨ 49709 < day then 1 else 0
def leftN (l : List Sp) (lim day : Int) : Int := if leftE l lim day = 0 then lim - sumTo l day else 0
theorem left_bad {l : List Sp} {lim day : Int} (h : checkE l lim ≠ 0) : leftE l lim day = checkE l lim ∧ leftN l lim day = 0 := by
  have h1 : leftE l lim day = checkE l lim := if_pos h
  exact ⟨h1, by rw [leftN, h1, if_neg h]⟩
theorem left_day {l : List Sp} {lim day : Int} (h : checkE l lim = 0) (hd : day < 0 ∨ 49709 < day) : leftE l lim day = 1 ∧ leftN l lim day = 0 := by
  have h1 : leftE l lim day = 1 := by rw [leftE, if_neg (fun e => e h), if_pos hd]
  exact ⟨h1, by rw [leftN, h1]; rfl⟩
theorem left_ok {l : List Sp} {lim day : Int} (h : checkE l lim = 0) (h1 : 0 ≤ day) (h2 : day ≤ 49709) : leftE l lim day = 0 ∧ leftN l lim day = lim - sumTo l day := by
  have h3 : leftE l lim day = 0 := by rw [leftE, if_neg (fun e => e h), if_neg (by omega)]
  exact ⟨h3, by rw [leftN, h3]; rfl⟩

/-- The units for k days from a first one. -/
def days (first units : Int) : Nat → List Sp
  | 0 => []
  | k + 1 => days first units k ++ [(first + k, units)]
theorem days_len (f u : Int) (k : Nat) : (days f u k).length = k := by
  induction k with
  | zero => rfl
  | succ k ih => simp [days, ih]
/-- There is room for the units at the first k days. -/
def room (l : List Sp) (lim first units : Int) (k : Nat) : Prop := ∀ j : Nat, j < k → units ≤ lim - sumTo l (first + j)
instance (l : List Sp) (lim first units : Int) (k : Nat) : Decidable (room l lim first units k) := by unfold room; infer_instance
theorem room_zero (l : List Sp) (lim first units : Int) : room l lim first units 0 := fun _ h => absurd h (Nat.not_lt_zero _)
theorem room_succ {l : List Sp} {lim first units : Int} {k : Nat} (h : room l lim first units k) (h1 : units ≤ lim - sumTo l (first + k)) : room l lim first units (k + 1) := by
  intro j hj
  rcases Nat.lt_or_eq_of_le (Nat.lt_succ_iff.1 hj) with h' | rfl
  · exact h j h'
  · exact h1
/-- The number of days of a window that is not empty. -/
def nDays (a b : Int) : Nat := ((b - 1) / 86400 - a / 86400 + 1).toNat
/-- What Spend says. -/
def spendE (l : List Sp) (lim a b units : Int) : Int :=
  if checkE l lim ≠ 0 then checkE l lim
  else if a < 0 ∨ b < a ∨ 4294944000 < b ∨ units < 1 ∨ 1000000 < units then 1
  else if a = b then 0
  else if 512 - (l.length : Int) < (b - 1) / 86400 - a / 86400 + 1 then 8
  else if ¬ room l lim (a / 86400) units (nDays a b) then 31 else 0
def spendL (l : List Sp) (lim a b units : Int) : List Sp :=
  if spendE l lim a b units ≠ 0 then [] else if a = b then l else l ++ days (a / 86400) units (nDays a b)
theorem spend_check {l : List Sp} {lim a b units : Int} (h : checkE l lim ≠ 0) : spendE l lim a b units = checkE l lim := if_pos h
theorem spend_range {l : List Sp} {lim a b units : Int} (h : checkE l lim = 0) (h1 : a < 0 ∨ b < a ∨ 4294944000 < b ∨ units < 1 ∨ 1000000 < units) : spendE l lim a b units = 1 := by
  rw [spendE, if_neg (fun e => e h), if_pos h1]
theorem spend_none {l : List Sp} {lim a b units : Int} (h : checkE l lim = 0) (h1 : ¬ (a < 0 ∨ b < a ∨ 4294944000 < b ∨ units < 1 ∨ 1000000 < units)) (h2 : a = b) : spendE l lim a b units = 0 := by
  rw [spendE, if_neg (fun e => e h), if_neg h1, if_pos h2]
theorem spend_full {l : List Sp} {lim a b units : Int} (h : checkE l lim = 0) (h1 : ¬ (a < 0 ∨ b < a ∨ 4294944000 < b ∨ units < 1 ∨ 1000000 < units)) (h2 : a ≠ b) (h3 : 512 - (l.length : Int) < (b - 1) / 86400 - a / 86400 + 1) : spendE l lim a b units = 8 := by
  rw [spendE, if_neg (fun e => e h), if_neg h1, if_neg h2, if_pos h3]
theorem spend_over {l : List Sp} {lim a b units : Int} (h : checkE l lim = 0) (h1 : ¬ (a < 0 ∨ b < a ∨ 4294944000 < b ∨ units < 1 ∨ 1000000 < units)) (h2 : a ≠ b) (h3 : ¬ 512 - (l.length : Int) < (b - 1) / 86400 - a / 86400 + 1) (h4 : ¬ room l lim (a / 86400) units (nDays a b)) : spendE l lim a b units = 31 := by
  rw [spendE, if_neg (fun e => e h), if_neg h1, if_neg h2, if_neg h3, if_pos h4]
theorem spend_ok {l : List Sp} {lim a b units : Int} (h : checkE l lim = 0) (h1 : ¬ (a < 0 ∨ b < a ∨ 4294944000 < b ∨ units < 1 ∨ 1000000 < units)) (h2 : a ≠ b) (h3 : ¬ 512 - (l.length : Int) < (b - 1) / 86400 - a / 86400 + 1) (h4 : room l lim (a / 86400) units (nDays a b)) : spendE l lim a b units = 0 := by
  rw [spendE, if_neg (fun e => e h), if_neg h1, if_neg h2, if_neg h3, if_neg (fun e => e h4)]
theorem spendL_bad {l : List Sp} {lim a b units : Int} (h : spendE l lim a b units ≠ 0) : spendL l lim a b units = [] := if_pos h
theorem spendL_same {l : List Sp} {lim a b units : Int} (h : spendE l lim a b units = 0) (h2 : a = b) : spendL l lim a b units = l := by rw [spendL, if_neg (fun e => e h), if_pos h2]
theorem spendL_ok {l : List Sp} {lim a b units : Int} (h : spendE l lim a b units = 0) (h2 : a ≠ b) : spendL l lim a b units = l ++ days (a / 86400) units (nDays a b) := by rw [spendL, if_neg (fun e => e h), if_neg h2]
end Go.Proofs.Ytdfmngnhmiemgaa
