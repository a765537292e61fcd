/- The plain law of parts: lots, what is left of them, and what is taken and put back; no program in sight. -/
import Derived.Test.YthbmofijdhfeeaaBase
namespace Go.Proofs.Ythbmofijdhfeeaa
open Go.RowKit
abbrev L4 := Int × Int × Int × Int
abbrev Lt := L4 × Int
abbrev T2 := Int × Int
def encL (x : L4) : List Value := [.int .i64 x.1, .int .i64 x.2.1, .int .i64 x.2.2.1, .int .i64 x.2.2.2]
def encT (x : T2) : List Value := [.int .i64 x.1, .int .i64 x.2]
def encX (x : Lt) : List Value := [.int .i64 x.1.1, .int .i64 x.1.2.1, .int .i64 x.1.2.2.1, .int .i64 x.1.2.2.2, .int .i64 x.2]
def cellsL (l : List L4) : List Value := l.flatMap encL
def cellsT (l : List T2) : List Value := l.flatMap encT
def cellsX (l : List Lt) : List Value := l.flatMap encX
def cellsI (l : List Int) : List Value := l.map (Value.int .i64)
theorem encL_len (p : L4) : (encL p).length = 4 := rfl
theorem encT_len (p : T2) : (encT p).length = 2 := rfl
theorem encX_len (p : Lt) : (encX p).length = 5 := rfl
def okL (x : L4) : Bool := decide (1 ≤ x.1 ∧ x.1 ≤ 1000000 ∧ 1 ≤ x.2.2.1 ∧ x.2.2.1 ≤ 1000000 ∧ 0 ≤ x.2.2.2 ∧ x.2.2.2 ≤ 4294943999)
def kindB (k : Int) : Bool := decide (0 ≤ k ∧ k ≤ 7)
def numB (n : Int) : Bool := decide (1 ≤ n ∧ n ≤ 1000000)
def idx (l : List Lt) (r : Int) : Option Nat := l.findIdx? fun x => decide (x.1.1 = r)
theorem idx_lt {l : List Lt} {r : Int} {i : Nat} (h : idx l r = some i) : i < l.length := (List.findIdx?_eq_some_iff_getElem.1 h).1
theorem idx_ride {l : List Lt} {r : Int} {i : Nat} (h : idx l r = some i) : (l[i]'(idx_lt h)).1.1 = r := by
  obtain ⟨hi, h1, _⟩ := List.findIdx?_eq_some_iff_getElem.1 h
  exact of_decide_eq_true h1
theorem idx_at {l : List Lt} {r : Int} {k : Nat} (hk : k < l.length) (h : l[k].1.1 = r) (hb : ∀ j (hj : j < l.length), j < k → l[j].1.1 ≠ r) : idx l r = some k :=
  List.findIdx?_eq_some_iff_getElem.2 ⟨hk, decide_eq_true h, fun j hj => by simpa using hb j (by omega) hj⟩
theorem idx_no {l : List Lt} {r : Int} (hb : ∀ j (hj : j < l.length), l[j].1.1 ≠ r) : idx l r = none := by
  unfold idx
  rw [List.findIdx?_eq_none_iff]
  intro x hx
  obtain ⟨j, hj, rfl⟩ := List.getElem_of_mem hx
  exact decide_eq_false (hb j hj)
theorem idx_none {l : List Lt} {r : Int} (h : idx l r = none) {j : Nat} (hj : j < l.length) : l[j].1.1 ≠ r := by
  unfold idx at h
  rw [List.findIdx?_eq_none_iff] at h
  exact of_decide_eq_false (h _ (List.getElem_mem hj))
theorem idx_snoc {l : List Lt} {x : Lt} (r : Int) (h : idx l x.1.1 = none) : idx (l ++ [x]) r = if x.1.1 = r then some l.length else idx l r := by
  unfold idx at *
  rw [List.findIdx?_append]
  by_cases e : x.1.1 = r
  · subst e
    rw [h, if_pos rfl]
    simp [List.findIdx?_cons]
  · rw [if_neg e]
    cases List.findIdx? (fun y : Lt => decide (y.1.1 = r)) l with
    | none => simp [List.findIdx?_cons, e]
    | some i => simp
/-- idx looks at the lots alone. -/
theorem idx_lots {l m : List Lt} (r : Int) (h : l.map (·.1) = m.map (·.1)) : idx l r = idx m r := by
  have hf : ∀ m : List Lt, idx m r = List.findIdx? (fun x : L4 => decide (x.1 = r)) (m.map (·.1)) := fun m => by
    unfold idx; rw [List.findIdx?_map]; rfl
  rw [hf, hf, h]
def lastAt (l : List Lt) : Int := match l.getLast? with | some x => x.1.2.2.2 | none => 0
theorem lastAt_at {l : List Lt} (h : l.length - 1 < l.length) : lastAt l = (l[l.length - 1]).1.2.2.2 := by
  unfold lastAt
  rw [List.getLast?_eq_getElem?, List.getElem?_eq_getElem h]
def addE (l : List Lt) (x : L4) : Int :=
  if 512 ≤ l.length then 8 else if okL x = false then 1 else if kindB x.2.1 = false then 14 else if idx l x.1 ≠ none then 6 else if l ≠ [] ∧ x.2.2.2 < lastAt l then 9 else 0
def addL (l : List Lt) (x : L4) : List Lt := if addE l x = 0 then l ++ [(x, x.2.2.1)] else l
theorem addE_full {l : List Lt} {x : L4} (h : 512 ≤ l.length) : addE l x = 8 := if_pos h
theorem addE_range {l : List Lt} {x : L4} (h : l.length < 512) (h1 : okL x = false) : addE l x = 1 := by unfold addE; rw [if_neg (by omega), if_pos h1]
theorem addE_kind {l : List Lt} {x : L4} (h : l.length < 512) (h1 : okL x = true) (h2 : kindB x.2.1 = false) : addE l x = 14 := by
  unfold addE; rw [if_neg (by omega), if_neg (by rw [h1]; decide), if_pos h2]
theorem addE_twice {l : List Lt} {x : L4} (h : l.length < 512) (h1 : okL x = true) (h2 : kindB x.2.1 = true) {i : Nat} (h3 : idx l x.1 = some i) : addE l x = 6 := by
  unfold addE; rw [if_neg (by omega), if_neg (by rw [h1]; decide), if_neg (by rw [h2]; decide), if_pos (by rw [h3]; simp)]
theorem addE_order {l : List Lt} {x : L4} (h : l.length < 512) (h1 : okL x = true) (h2 : kindB x.2.1 = true) (h3 : idx l x.1 = none) (h4 : l ≠ []) (h5 : x.2.2.2 < lastAt l) : addE l x = 9 := by
  unfold addE; rw [if_neg (by omega), if_neg (by rw [h1]; decide), if_neg (by rw [h2]; decide), if_neg (by rw [h3]; simp), if_pos ⟨h4, h5⟩]
theorem addE_ok {l : List Lt} {x : L4} (h : l.length < 512) (h1 : okL x = true) (h2 : kindB x.2.1 = true) (h3 : idx l x.1 = none) (h4 : l = [] ∨ lastAt l ≤ x.2.2.2) : addE l x = 0 := by
  unfold addE; rw [if_neg (by omega), if_neg (by rw [h1]; decide), if_neg (by rw [h2]; decide), if_neg (by rw [h3]; simp), if_neg]
  rintro ⟨h5, h6⟩
  rcases h4 with h4 | h4
  · exact h5 h4
  · omega
theorem addE_inv {l : List Lt} {x : L4} (h : addE l x = 0) : l.length < 512 ∧ okL x = true ∧ kindB x.2.1 = true ∧ idx l x.1 = none ∧ (l = [] ∨ lastAt l ≤ x.2.2.2) := by
  unfold addE at h
  by_cases h0 : 512 ≤ l.length
  · rw [if_pos h0] at h; exact absurd h (by decide)
  rw [if_neg h0] at h
  by_cases h1 : okL x = false
  · rw [if_pos h1] at h; exact absurd h (by decide)
  rw [if_neg h1] at h
  by_cases h2 : kindB x.2.1 = false
  · rw [if_pos h2] at h; exact absurd h (by decide)
  rw [if_neg h2] at h
  by_cases h3 : idx l x.1 ≠ none
  · rw [if_pos h3] at h; exact absurd h (by decide)
  rw [if_neg h3] at h
  by_cases h4 : l ≠ [] ∧ x.2.2.2 < lastAt l
  · rw [if_pos h4] at h; exact absurd h (by decide)
  refine ⟨by omega, by simpa using h1, by simpa using h2, by simpa using h3, ?_⟩
  by_cases h5 : l = []
  · exact .inl h5
  · exact .inr (by have : ¬ x.2.2.2 < lastAt l := fun e => h4 ⟨h5, e⟩; omega)
theorem addL_ok {l : List Lt} {x : L4} (h : addE l x = 0) : addL l x = l ++ [(x, x.2.2.1)] := if_pos h
theorem addL_no {l : List Lt} {x : L4} (h : addE l x ≠ 0) : addL l x = l := if_neg h

/-! How many parts of a kind there are. -/
def countN : List Lt → Int → Int
  | [], _ => 0
  | x :: l, k => (if x.1.2.1 = k then x.2 else 0) + countN l k
theorem countN_app (l m : List Lt) (k : Int) : countN (l ++ m) k = countN l k + countN m k := by
  induction l with
  | nil => simp [countN]
  | cons x l ih => simp only [List.cons_append, countN, ih]; omega
theorem countN_take {l : List Lt} {i : Nat} (hi : i < l.length) (k : Int) : countN (l.take (i + 1)) k = countN (l.take i) k + if l[i].1.2.1 = k then l[i].2 else 0 := by
  rw [List.take_succ_eq_append_getElem hi, countN_app]
  simp [countN]
/-- What holds of every store. -/
def fine (l : List Lt) : Prop := l.length ≤ 512 ∧ ∀ x ∈ l, okL x.1 = true ∧ kindB x.1.2.1 = true ∧ 0 ≤ x.2 ∧ x.2 ≤ x.1.2.2.1
theorem okL_iff {x : L4} : okL x = true ↔ 1 ≤ x.1 ∧ x.1 ≤ 1000000 ∧ 1 ≤ x.2.2.1 ∧ x.2.2.1 ≤ 1000000 ∧ 0 ≤ x.2.2.2 ∧ x.2.2.2 ≤ 4294943999 := decide_eq_true_iff
theorem countN_bd : ∀ (l : List Lt) (k : Int), (∀ x ∈ l, 0 ≤ x.2 ∧ x.2 ≤ 1000000) → 0 ≤ countN l k ∧ countN l k ≤ 1000000 * (l.length : Nat)
  | [], _, _ => by simp [countN]
  | x :: l, k, h => by
    have h1 := countN_bd l k fun y hy => h y (List.mem_cons_of_mem _ hy)
    have h2 := h x (List.mem_cons_self ..)
    simp only [countN, List.length_cons]
    split <;> omega
theorem fine_left {l : List Lt} (h : fine l) : ∀ x ∈ l, 0 ≤ x.2 ∧ x.2 ≤ 1000000 := fun x hx => by
  obtain ⟨h1, _, h3, h4⟩ := h.2 x hx
  have := okL_iff.1 h1
  omega
theorem countN_small {l : List Lt} (h : fine l) (k : Int) : 0 ≤ countN l k ∧ countN l k ≤ 512000000 := by
  have h1 := countN_bd l k (fine_left h)
  have := h.1
  omega
theorem countN_le (l : List Lt) (k : Int) (i : Nat) (h : ∀ x ∈ l, 0 ≤ x.2 ∧ x.2 ≤ 1000000) (hl : l.length ≤ 512) : 0 ≤ countN (l.take i) k ∧ countN (l.take i) k ≤ 512000000 := by
  have h1 := countN_bd (l.take i) k fun x hx => h x (List.mem_of_mem_take hx)
  have : (l.take i).length ≤ l.length := List.length_take_le' ..
  omega

/-! Taking parts. -/
def tk (k n : Int) (x : Lt) : Int := if x.1.2.1 = k ∧ 0 < min n x.2 then min n x.2 else 0
def takeR (k : Int) : Int → List Lt → Int
  | n, [] => n
  | n, x :: l => takeR k (n - tk k n x) l
def takeX (k : Int) : Int → List Lt → List Lt
  | _, [] => []
  | n, x :: l => (x.1, x.2 - tk k n x) :: takeX k (n - tk k n x) l
def takeO (k : Int) : Int → List Lt → List T2
  | _, [] => []
  | n, x :: l => (if x.1.2.1 = k ∧ 0 < min n x.2 then [(x.1.1, min n x.2)] else []) ++ takeO k (n - tk k n x) l
theorem takeR_app (k : Int) : ∀ (l m : List Lt) (n : Int), takeR k n (l ++ m) = takeR k (takeR k n l) m
  | [], _, _ => rfl
  | _ :: l, m, _ => takeR_app k l m _
theorem takeX_app (k : Int) : ∀ (l m : List Lt) (n : Int), takeX k n (l ++ m) = takeX k n l ++ takeX k (takeR k n l) m
  | [], _, _ => rfl
  | x :: l, m, n => by simp only [List.cons_append, takeX, takeR, takeX_app k l m]
theorem takeO_app (k : Int) : ∀ (l m : List Lt) (n : Int), takeO k n (l ++ m) = takeO k n l ++ takeO k (takeR k n l) m
  | [], _, _ => rfl
  | x :: l, m, n => by simp only [List.cons_append, takeO, takeR, takeO_app k l m, List.append_assoc]
theorem takeX_len (k : Int) : ∀ (l : List Lt) (n : Int), (takeX k n l).length = l.length
  | [], _ => rfl
  | _ :: l, _ => by simp only [takeX, List.length_cons, takeX_len k l]
theorem takeX_lots (k : Int) : ∀ (l : List Lt) (n : Int), (takeX k n l).map (·.1) = l.map (·.1)
  | [], _ => rfl
  | _ :: l, _ => by simp only [takeX, List.map_cons, takeX_lots k l]
theorem takeO_len (k : Int) : ∀ (l : List Lt) (n : Int), (takeO k n l).length ≤ l.length
  | [], _ => Nat.le_refl _
  | x :: l, n => by
    have := takeO_len k l (n - tk k n x)
    simp only [takeO, List.length_append, List.length_cons]
    split <;> simp <;> omega
/-- What a list of entries is after the first i were looked at. -/
def mid (k n : Int) (l : List Lt) (i : Nat) : List Lt := takeX k n (l.take i) ++ l.drop i
theorem mid_zero (k n : Int) (l : List Lt) : mid k n l 0 = l := by simp [mid, takeX]
theorem mid_end (k n : Int) (l : List Lt) {i : Nat} (h : l.length ≤ i) : mid k n l i = takeX k n l := by simp [mid, List.take_of_length_le h, List.drop_eq_nil_of_le h]
theorem mid_len (k n : Int) (l : List Lt) (i : Nat) : (mid k n l i).length = l.length := by
  unfold mid
  rw [List.length_append, takeX_len, List.length_take, List.length_drop]
  omega
theorem mid_lots (k n : Int) (l : List Lt) (i : Nat) : (mid k n l i).map (·.1) = l.map (·.1) := by
  unfold mid
  rw [List.map_append, takeX_lots, ← List.map_append, List.take_append_drop]
theorem mid_at (k n : Int) (l : List Lt) {i : Nat} (hi : i < l.length) : (mid k n l i)[i]'(by rw [mid_len]; exact hi) = l[i] := by
  unfold mid
  have h1 : (takeX k n (l.take i)).length = i := by rw [takeX_len, List.length_take]; omega
  rw [List.getElem_append_right (by omega)]
  simp [h1]
theorem takeR_step (k n : Int) (l : List Lt) {i : Nat} (hi : i < l.length) : takeR k n (l.take (i + 1)) = takeR k n (l.take i) - tk k (takeR k n (l.take i)) l[i] := by
  rw [List.take_succ_eq_append_getElem hi, takeR_app]; rfl
theorem takeO_yes (k n : Int) (l : List Lt) {i : Nat} (hi : i < l.length) (h : l[i].1.2.1 = k) (h0 : 0 < min (takeR k n (l.take i)) l[i].2) : takeO k n (l.take (i + 1)) = takeO k n (l.take i) ++ [(l[i].1.1, min (takeR k n (l.take i)) l[i].2)] := by
  rw [List.take_succ_eq_append_getElem hi, takeO_app]
  simp only [takeO, List.append_nil]
  rw [if_pos ⟨h, h0⟩]
theorem takeO_no (k n : Int) (l : List Lt) {i : Nat} (hi : i < l.length) (h : ¬ (l[i].1.2.1 = k ∧ 0 < min (takeR k n (l.take i)) l[i].2)) : takeO k n (l.take (i + 1)) = takeO k n (l.take i) := by
  rw [List.take_succ_eq_append_getElem hi, takeO_app]
  simp only [takeO, List.append_nil]
  rw [if_neg h, List.append_nil]
theorem tk_yes {k n : Int} {x : Lt} (h : x.1.2.1 = k) (h0 : 0 < min n x.2) : tk k n x = min n x.2 := if_pos ⟨h, h0⟩
theorem tk_no {k n : Int} {x : Lt} (h : ¬ (x.1.2.1 = k ∧ 0 < min n x.2)) : tk k n x = 0 := if_neg h
theorem mid_step (k n : Int) (l : List Lt) {i : Nat} (hi : i < l.length) : mid k n l (i + 1) = (mid k n l i).set i (l[i].1, l[i].2 - tk k (takeR k n (l.take i)) l[i]) := by
  unfold mid
  have h1 : (takeX k n (l.take i)).length = i := by rw [takeX_len, List.length_take]; omega
  rw [List.set_append_right _ _ (by omega), h1, Nat.sub_self, List.take_succ_eq_append_getElem hi, takeX_app, List.append_assoc, List.drop_eq_getElem_cons hi]
  rfl
theorem mid_no (k n : Int) (l : List Lt) {i : Nat} (hi : i < l.length) (h : ¬ (l[i].1.2.1 = k ∧ 0 < min (takeR k n (l.take i)) l[i].2)) : mid k n l (i + 1) = mid k n l i := by
  rw [mid_step k n l hi, tk_no h, Int.sub_zero]
  have := mid_at k n l hi
  rw [← this]
  exact List.set_getElem_self ..
theorem takeR_bd (k : Int) : ∀ (l : List Lt) (n : Int), 0 ≤ n → (∀ x ∈ l, 0 ≤ x.2) → 0 ≤ takeR k n l ∧ takeR k n l ≤ n
  | [], n, h, _ => ⟨h, Int.le_refl _⟩
  | x :: l, n, h, hx => by
    have h1 := hx x (List.mem_cons_self ..)
    have h2 : 0 ≤ tk k n x ∧ tk k n x ≤ n := by unfold tk; split <;> omega
    have := takeR_bd k l (n - tk k n x) (by omega) fun y hy => hx y (List.mem_cons_of_mem _ hy)
    simp only [takeR]; omega
def takeE (l : List Lt) (k n : Int) : Int := if kindB k = false then 14 else if numB n = false then 1 else if countN l k < n then 29 else 0
def tookX (l : List Lt) (k n : Int) : List Lt := if takeE l k n = 0 then takeX k n l else l
def tookO (l : List Lt) (k n : Int) : List T2 := if takeE l k n = 0 then takeO k n l else []
theorem takeE_kind {l : List Lt} {k n : Int} (h : kindB k = false) : takeE l k n = 14 := if_pos h
theorem takeE_range {l : List Lt} {k n : Int} (h : kindB k = true) (h1 : numB n = false) : takeE l k n = 1 := by unfold takeE; rw [if_neg (by rw [h]; decide), if_pos h1]
theorem takeE_stock {l : List Lt} {k n : Int} (h : kindB k = true) (h1 : numB n = true) (h2 : countN l k < n) : takeE l k n = 29 := by unfold takeE; rw [if_neg (by rw [h]; decide), if_neg (by rw [h1]; decide), if_pos h2]
theorem takeE_ok {l : List Lt} {k n : Int} (h : kindB k = true) (h1 : numB n = true) (h2 : n ≤ countN l k) : takeE l k n = 0 := by unfold takeE; rw [if_neg (by rw [h]; decide), if_neg (by rw [h1]; decide), if_neg (by omega)]
theorem takeE_inv {l : List Lt} {k n : Int} (h : takeE l k n = 0) : kindB k = true ∧ numB n = true ∧ n ≤ countN l k := by
  unfold takeE at h
  by_cases h1 : kindB k = false
  · rw [if_pos h1] at h; exact absurd h (by decide)
  rw [if_neg h1] at h
  by_cases h2 : numB n = false
  · rw [if_pos h2] at h; exact absurd h (by decide)
  rw [if_neg h2] at h
  by_cases h3 : countN l k < n
  · rw [if_pos h3] at h; exact absurd h (by decide)
  exact ⟨by simpa using h1, by simpa using h2, by omega⟩
theorem tookX_ok {l : List Lt} {k n : Int} (h : takeE l k n = 0) : tookX l k n = takeX k n l := if_pos h
theorem tookX_no {l : List Lt} {k n : Int} (h : takeE l k n ≠ 0) : tookX l k n = l := if_neg h
theorem tookO_ok {l : List Lt} {k n : Int} (h : takeE l k n = 0) : tookO l k n = takeO k n l := if_pos h
theorem tookO_no {l : List Lt} {k n : Int} (h : takeE l k n ≠ 0) : tookO l k n = [] := if_neg h

/-! Putting parts back, and what is left. -/
def leftE (l : List Lt) (r : Int) : Int := match idx l r with | none => 7 | some _ => 0
def leftN (l : List Lt) (r : Int) : Int := match idx l r with | none => 0 | some i => (l.map (·.2)).getD i 0
theorem left_none {l : List Lt} {r : Int} (h : idx l r = none) : leftE l r = 7 ∧ leftN l r = 0 := by simp [leftE, leftN, h]
theorem left_some {l : List Lt} {r : Int} {i : Nat} (h : idx l r = some i) : leftE l r = 0 ∧ leftN l r = (l[i]'(idx_lt h)).2 := by
  have := idx_lt h
  simp [leftE, leftN, h, this]
def backE (l : List Lt) (r n : Int) : Int := match idx l r with
  | none => 7
  | some i => if numB n = false then 1 else if ((l.map (·.1.2.2.1)).getD i 0) < (l.map (·.2)).getD i 0 + n then 27 else 0
def backL (l : List Lt) (r n : Int) : List Lt := match idx l r with
  | none => l
  | some i => if backE l r n = 0 then l.set i ((l.map (·.1)).getD i (0, 0, 0, 0), (l.map (·.2)).getD i 0 + n) else l
theorem backE_none {l : List Lt} {r n : Int} (h : idx l r = none) : backE l r n = 7 := by simp [backE, h]
theorem backE_range {l : List Lt} {r n : Int} {i : Nat} (h : idx l r = some i) (h1 : numB n = false) : backE l r n = 1 := by simp [backE, h, h1]
theorem backE_amount {l : List Lt} {r n : Int} {i : Nat} (h : idx l r = some i) (h1 : numB n = true) (h2 : (l[i]'(idx_lt h)).1.2.2.1 < (l[i]'(idx_lt h)).2 + n) : backE l r n = 27 := by
  have hi := idx_lt h
  simp [backE, h, h1, hi, h2]
theorem backE_ok {l : List Lt} {r n : Int} {i : Nat} (h : idx l r = some i) (h1 : numB n = true) (h2 : (l[i]'(idx_lt h)).2 + n ≤ (l[i]'(idx_lt h)).1.2.2.1) : backE l r n = 0 := by
  have hi := idx_lt h
  have : ¬ ((l[i]'(idx_lt h)).1.2.2.1 < (l[i]'(idx_lt h)).2 + n) := by omega
  simp [backE, h, h1, hi, this]
theorem backL_no {l : List Lt} {r n : Int} (h : backE l r n ≠ 0) : backL l r n = l := by
  unfold backL; split
  · rfl
  · rw [if_neg h]
theorem backL_ok {l : List Lt} {r n : Int} {i : Nat} (h : idx l r = some i) (h1 : backE l r n = 0) : backL l r n = l.set i ((l[i]'(idx_lt h)).1, (l[i]'(idx_lt h)).2 + n) := by
  have hi := idx_lt h
  unfold backL
  rw [h]
  simp only [h1, if_true]
  simp [hi]
theorem backE_inv {l : List Lt} {r n : Int} (h : backE l r n = 0) : ∃ i, ∃ hi : idx l r = some i, numB n = true ∧ (l[i]'(idx_lt hi)).2 + n ≤ (l[i]'(idx_lt hi)).1.2.2.1 := by
  rcases Option.eq_none_or_eq_some (idx l r) with hi | ⟨i, hi⟩
  · rw [backE_none hi] at h; exact absurd h (by decide)
  · refine ⟨i, hi, ?_⟩
    rcases h1 : numB n with _ | _
    · rw [backE_range hi h1] at h; exact absurd h (by decide)
    · refine ⟨rfl, ?_⟩
      rcases Int.lt_or_le (l[i]'(idx_lt hi)).1.2.2.1 ((l[i]'(idx_lt hi)).2 + n) with h2 | h2
      · rw [backE_amount hi h1 h2] at h; exact absurd h (by decide)
      · exact h2
def lotsL (l : List Lt) : List L4 := l.map fun x => (x.1.1, x.1.2.1, x.2, x.1.2.2.2)

/-! What holds of every store stays. -/
theorem fine_nil : fine [] := ⟨by simp, fun x hx => by cases hx⟩
theorem fine_add {l : List Lt} {x : L4} (h : fine l) : fine (addL l x) := by
  by_cases h0 : addE l x = 0
  · rw [addL_ok h0]
    obtain ⟨a1, a2, a3, _, _⟩ := addE_inv h0
    refine ⟨by simp; omega, fun y hy => ?_⟩
    rcases List.mem_append.1 hy with hy | hy
    · exact h.2 y hy
    · obtain rfl := List.mem_singleton.1 hy
      have := okL_iff.1 a2
      exact ⟨a2, a3, by show 0 ≤ x.2.2.1; omega, Int.le_refl _⟩
  · rw [addL_no h0]; exact h
theorem fine_takeX (k : Int) : ∀ (l : List Lt) (n : Int), (∀ x ∈ l, okL x.1 = true ∧ kindB x.1.2.1 = true ∧ 0 ≤ x.2 ∧ x.2 ≤ x.1.2.2.1) → ∀ x ∈ takeX k n l, okL x.1 = true ∧ kindB x.1.2.1 = true ∧ 0 ≤ x.2 ∧ x.2 ≤ x.1.2.2.1
  | [], _, _, x, hx => by cases hx
  | y :: l, n, h, x, hx => by
    have h1 := h y (List.mem_cons_self ..)
    have h2 : 0 ≤ tk k n y ∧ tk k n y ≤ y.2 := by unfold tk; split <;> omega
    rcases List.mem_cons.1 hx with rfl | hx
    · exact ⟨h1.1, h1.2.1, by show 0 ≤ y.2 - tk k n y; omega, by show y.2 - tk k n y ≤ y.1.2.2.1; omega⟩
    · exact fine_takeX k l _ (fun z hz => h z (List.mem_cons_of_mem _ hz)) x hx
theorem fine_take {l : List Lt} {k n : Int} (h : fine l) : fine (tookX l k n) := by
  unfold tookX
  split
  · exact ⟨by rw [takeX_len]; exact h.1, fine_takeX k l n h.2⟩
  · exact h
theorem fine_back {l : List Lt} {r n : Int} (h : fine l) : fine (backL l r n) := by
  by_cases h0 : backE l r n = 0
  · obtain ⟨i, hi, h1, h2⟩ := backE_inv h0
    rw [backL_ok hi h0]
    refine ⟨by simpa using h.1, fun x hx => ?_⟩
    rcases List.mem_or_eq_of_mem_set hx with hx | rfl
    · exact h.2 x hx
    · obtain ⟨a1, a2, a3, a4⟩ := h.2 _ (List.getElem_mem (idx_lt hi))
      have : 1 ≤ n ∧ n ≤ 1000000 := of_decide_eq_true h1
      exact ⟨a1, a2, by show 0 ≤ (l[i]'(idx_lt hi)).2 + n; omega, h2⟩
  · rw [backL_no h0]; exact h
/-- No lot stands twice. -/
def dist (l : List Lt) : Prop := ∀ k (hk : k < l.length), idx (l.take k) l[k].1.1 = none
theorem dist_nil : dist [] := fun _ hk => absurd hk (Nat.not_lt_zero _)
theorem dist_lots {l m : List Lt} (h : l.map (·.1) = m.map (·.1)) (hd : dist l) : dist m := fun k hk => by
  have hl : l.length = m.length := by have := congrArg List.length h; simpa using this
  have h1 := hd k (by omega)
  have e : (l[k]'(by omega)).1 = m[k].1 := by
    have h2 : (l.map (·.1))[k]'(by simp; omega) = (m.map (·.1))[k]'(by simpa using hk) := by simp only [h]
    simpa using h2
  rw [← e, idx_lots (m := l.take k) _ (by rw [List.map_take, List.map_take, h])]
  exact h1
theorem dist_add {l : List Lt} {x : L4} (h : dist l) : dist (addL l x) := by
  by_cases h0 : addE l x = 0
  · rw [addL_ok h0]
    obtain ⟨_, _, _, h3, _⟩ := addE_inv h0
    intro k hk
    rcases Nat.lt_or_ge k l.length with h1 | h1
    · rw [List.getElem_append_left h1, List.take_append_of_le_length (by omega)]
      exact h k h1
    · have : k = l.length := by simp at hk; omega
      subst this
      simp only [List.take_left', List.getElem_concat_length]
      exact h3
  · rw [addL_no h0]; exact h
theorem dist_take {l : List Lt} {k n : Int} (h : dist l) : dist (tookX l k n) := by
  unfold tookX
  split
  · exact dist_lots (takeX_lots k l n).symm h
  · exact h
theorem lots_set (l : List Lt) (i : Nat) (hi : i < l.length) (n : Int) : (l.set i (l[i].1, n)).map (·.1) = l.map (·.1) := by
  rw [List.map_set]
  apply List.ext_getElem (by simp)
  intro k h1 h2
  rw [List.getElem_set]
  split
  · rename_i e; subst e; simp
  · rfl
theorem lots_back (l : List Lt) (r n : Int) : (backL l r n).map (·.1) = l.map (·.1) := by
  by_cases h0 : backE l r n = 0
  · obtain ⟨i, hi, _, _⟩ := backE_inv h0
    rw [backL_ok hi h0, lots_set]
  · rw [backL_no h0]
theorem dist_back {l : List Lt} {r n : Int} (h : dist l) : dist (backL l r n) := dist_lots (lots_back l r n).symm h
theorem dist_idx {l : List Lt} (h : dist l) {b : Nat} (hb : b < l.length) : idx l l[b].1.1 = some b :=
  idx_at hb rfl fun j hj hjb => by
    have := idx_none (h b hb) (j := j) (by simp; omega)
    simpa using this
theorem dist_eq {l : List Lt} (h : dist l) {i j : Nat} (hi : i < l.length) (hj : j < l.length) (e : l[i].1.1 = l[j].1.1) : i = j := by
  have h1 := dist_idx h hi
  rw [e, dist_idx h hj] at h1
  injection h1 with h1
  exact h1.symm
/-- An entry's cells, with another number left. -/
theorem cellsX_set : ∀ (l : List Lt) (i : Nat) (hi : i < l.length) (t : Int), (cellsX l).set (i * 5 + 4) (.int .i64 t) = cellsX (l.set i (l[i].1, t))
  | [], i, hi, _ => absurd hi (Nat.not_lt_zero _)
  | x :: l, 0, _, t => by simp [cellsX, encX]
  | x :: l, i + 1, hi, t => by
    have ih := cellsX_set l i (by simpa using hi) t
    have e4 : (i + 1) * 5 + 4 = (i * 5 + 4) + 1 + 1 + 1 + 1 + 1 := by omega
    have hc : ∀ (y : Lt) (m : List Lt), cellsX (y :: m) = .int .i64 y.1.1 :: .int .i64 y.1.2.1 :: .int .i64 y.1.2.2.1 :: .int .i64 y.1.2.2.2 :: .int .i64 y.2 :: cellsX m := fun _ _ => rfl
    rw [hc, e4]
    simp only [List.set_cons_succ]
    rw [ih]
    rfl
end Go.Proofs.Ythbmofijdhfeeaa
