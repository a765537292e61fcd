/- The plain law of charging: payments, banks, desks, with no program in sight. -/
import Derived.Test.YtakjdffebpcmnaaBase
namespace Go.Proofs.Ytakjdffebpcmnaa
open Go.RowKit
abbrev P3 := Int × Int × Int
abbrev En := P3 × Int × Int
def encP (p : P3) : List Value := [.int .i64 p.1, .int .i64 p.2.1, .int .i64 p.2.2]
def encE (x : En) : List Value := [.int .i64 x.1.1, .int .i64 x.1.2.1, .int .i64 x.1.2.2, .int .i64 x.2.1, .int .i64 x.2.2]
def cellsP (l : List P3) : List Value := l.flatMap encP
def cellsE (l : List En) : List Value := l.flatMap encE
theorem encP_len (p : P3) : (encP p).length = 3 := rfl
theorem encE_len (p : En) : (encE p).length = 5 := rfl
/-- The numbers are in their ranges. -/
def rightB (p : P3) : Bool := decide (1 ≤ p.1 ∧ p.1 ≤ 1000000 ∧ 0 ≤ p.2.1 ∧ p.2.1 < 128 ∧ 0 ≤ p.2.2 ∧ p.2.2 ≤ 1000000000000)
def sameB (l m : List P3) : Bool := decide (l = m)
theorem same_len {l m : List P3} (h : l.length ≠ m.length) : sameB l m = false := decide_eq_false fun e => h (by rw [e])
theorem same_at {l m : List P3} {k : Nat} (hl : k < l.length) (hm : k < m.length) (h : l[k] ≠ m[k]) : sameB l m = false := decide_eq_false fun e => by subst e; exact h rfl
theorem same_all {l m : List P3} (h : l.length = m.length) (ha : ∀ j (hj : j < l.length), l[j] = m[j]'(by omega)) : sameB l m = true := decide_eq_true (List.ext_getElem h fun i h1 _ => ha i h1)
theorem same_refl (l : List P3) : sameB l l = true := decide_eq_true rfl

/-! The bank. -/
def clash (l : List P3) (p : P3) : Bool := l.any fun x => decide (x.1 = p.1 ∧ x ≠ p)
def payE (l : List P3) (p : P3) : Int := if rightB p = false then 1 else if clash l p = true then 21 else if p ∉ l ∧ 256 ≤ l.length then 8 else 0
def payL (l : List P3) (p : P3) : List P3 := if payE l p = 0 then (if p ∈ l then l else l ++ [p]) else []
def z3 : P3 := (0, 0, 0)
def paidP (l : List P3) (r : Int) : P3 := (l.find? fun x => decide (x.1 = r)).getD z3
def paidB (l : List P3) (r : Int) : Bool := (l.find? fun x => decide (x.1 = r)).isSome
theorem payE_range {l : List P3} {p : P3} (h : rightB p = false) : payE l p = 1 := by simp [payE, h]
theorem payE_clash {l : List P3} {p : P3} (h : rightB p = true) (h2 : clash l p = true) : payE l p = 21 := by simp [payE, h, h2]
theorem payE_full {l : List P3} {p : P3} (h : rightB p = true) (h2 : clash l p = false) (h3 : p ∉ l) (h4 : 256 ≤ l.length) : payE l p = 8 := by simp [payE, h, h2, h3, h4]
theorem payE_had {l : List P3} {p : P3} (h : rightB p = true) (h2 : clash l p = false) (h3 : p ∈ l) : payE l p = 0 := by simp [payE, h, h2, h3]
theorem payE_new {l : List P3} {p : P3} (h : rightB p = true) (h2 : clash l p = false) (h4 : l.length < 256) : payE l p = 0 := by
  simp only [payE, h, h2]; rw [if_neg (by decide), if_neg (by decide), if_neg (by omega)]
theorem payL_had {l : List P3} {p : P3} (h : payE l p = 0) (h3 : p ∈ l) : payL l p = l := by simp [payL, h, h3]
theorem payL_new {l : List P3} {p : P3} (h : payE l p = 0) (h3 : p ∉ l) : payL l p = l ++ [p] := by simp [payL, h, h3]
theorem payL_no {l : List P3} {p : P3} (h : payE l p ≠ 0) : payL l p = [] := by simp [payL, h]
theorem clash_at {l : List P3} {p : P3} {k : Nat} (hk : k < l.length) (h : l[k].1 = p.1) (h2 : l[k] ≠ p) : clash l p = true := by
  unfold clash
  rw [List.any_eq_true]
  exact ⟨_, List.getElem_mem hk, decide_eq_true ⟨h, h2⟩⟩
theorem clash_take {l : List P3} {p : P3} {k : Nat} (hk : k < l.length) (h : clash (l.take k) p = false) (h2 : ¬ (l[k].1 = p.1 ∧ l[k] ≠ p)) : clash (l.take (k + 1)) p = false := by
  unfold clash at h ⊢
  rw [List.take_succ_eq_append_getElem hk, List.any_append, h]
  simp only [List.any_cons, List.any_nil, Bool.or_false, Bool.false_or]
  exact decide_eq_false h2
theorem mem_take_snoc {l : List P3} {p : P3} {k : Nat} (hk : k < l.length) : p ∈ l.take (k + 1) ↔ p ∈ l.take k ∨ l[k] = p := by
  rw [List.take_succ_eq_append_getElem hk, List.mem_append, List.mem_singleton]
  exact or_congr_right eq_comm
def memB (l : List P3) (p : P3) : Bool := decide (p ∈ l)
theorem memB_snoc {l : List P3} {p : P3} {k : Nat} (hk : k < l.length) : memB (l.take (k + 1)) p = (memB (l.take k) p || decide (l[k] = p)) := by
  unfold memB
  rw [Bool.eq_iff_iff, Bool.or_eq_true, decide_eq_true_iff, decide_eq_true_iff, decide_eq_true_iff]
  exact mem_take_snoc hk
theorem find_at {α : Type} {f : α → Bool} {l : List α} {k : Nat} (hk : k < l.length) (h : f l[k] = true) (hb : ∀ j (hj : j < l.length), j < k → f l[j] = false) : l.find? f = some l[k] :=
  List.find?_eq_some_iff_getElem.2 ⟨h, k, hk, rfl, fun j hj => by rw [hb j (by omega) hj]; rfl⟩
theorem find_no {α : Type} {f : α → Bool} {l : List α} (hb : ∀ j (hj : j < l.length), f l[j] = false) : l.find? f = none := by
  rw [List.find?_eq_none]
  intro x hx
  obtain ⟨j, hj, rfl⟩ := List.getElem_of_mem hx
  rw [hb j hj]; decide

/-! The desk. -/
/-- The place of a ride's entry. -/
def idx (l : List En) (r : Int) : Option Nat := l.findIdx? fun x => decide (x.1.1 = r)
theorem idx_lt {l : List En} {r : Int} {i : Nat} (h : idx l r = some i) : i < l.length := (List.findIdx?_eq_some_iff_getElem.1 h).1
theorem idx_ride {l : List En} {r : Int} {i : Nat} (h : idx l r = some i) : (l[i]'(idx_lt h)).1.1 = r := by
  obtain ⟨hi, h1, _⟩ := List.findIdx?_eq_some_iff_getElem.1 h
  exact of_decide_eq_true h1
theorem idx_at {l : List En} {r : Int} {k : Nat} (hk : k < l.length) (h : l[k].1.1 = r) (hb : ∀ j (hj : j < l.length), j < k → l[j].1.1 ≠ r) : idx l r = some k :=
  List.findIdx?_eq_some_iff_getElem.2 ⟨hk, decide_eq_true h, fun j hj => by simpa using hb j (by omega) hj⟩
theorem idx_no {l : List En} {r : Int} (hb : ∀ j (hj : j < l.length), l[j].1.1 ≠ r) : idx l r = none := by
  unfold idx
  rw [List.findIdx?_eq_none_iff]
  intro x hx
  obtain ⟨j, hj, rfl⟩ := List.getElem_of_mem hx
  exact decide_eq_false (hb j hj)
theorem idx_none {l : List En} {r : Int} (h : idx l r = none) {j : Nat} (hj : j < l.length) : l[j].1.1 ≠ r := by
  unfold idx at h
  rw [List.findIdx?_eq_none_iff] at h
  exact of_decide_eq_false (h _ (List.getElem_mem hj))
theorem idx_snoc {l : List En} {x : En} (r : Int) (h : idx l x.1.1 = none) : idx (l ++ [x]) r = if x.1.1 = r then some l.length else idx l r := by
  unfold idx at *
  rw [List.findIdx?_append]
  by_cases e : x.1.1 = r
  · subst e
    rw [h, if_pos rfl]
    simp [List.findIdx?_cons]
  · rw [if_neg e]
    cases List.findIdx? (fun y : En => decide (y.1.1 = r)) l with
    | none => simp [List.findIdx?_cons, e]
    | some i => simp
def askE (l : List En) (p : P3) : Int :=
  if rightB p = false then 1 else match idx l p.1 with
    | some i => if ((l.map (·.1)).getD i z3) = p then 0 else 21
    | none => if 256 ≤ l.length then 8 else 0
def askL (l : List En) (p : P3) : List En := if rightB p = true ∧ idx l p.1 = none ∧ l.length < 256 then l ++ [(p, 0, 0)] else l
theorem askE_range {l : List En} {p : P3} (h : rightB p = false) : askE l p = 1 := by simp [askE, h]
theorem askE_same {l : List En} {p : P3} {i : Nat} (h : rightB p = true) (hi : idx l p.1 = some i) (he : (l[i]'(idx_lt hi)).1 = p) : askE l p = 0 := by
  have := idx_lt hi
  simp [askE, h, hi, this, he]
theorem askE_other {l : List En} {p : P3} {i : Nat} (h : rightB p = true) (hi : idx l p.1 = some i) (he : (l[i]'(idx_lt hi)).1 ≠ p) : askE l p = 21 := by
  have := idx_lt hi
  simp [askE, h, hi, this, he]
theorem askE_full {l : List En} {p : P3} (h : rightB p = true) (hi : idx l p.1 = none) (hl : 256 ≤ l.length) : askE l p = 8 := by simp [askE, h, hi, hl]
theorem askE_new {l : List En} {p : P3} (h : rightB p = true) (hi : idx l p.1 = none) (hl : l.length < 256) : askE l p = 0 := by
  simp only [askE, h, hi]; rw [if_neg (by decide), if_neg (by omega)]
theorem askL_new {l : List En} {p : P3} (h : rightB p = true) (hi : idx l p.1 = none) (hl : l.length < 256) : askL l p = l ++ [(p, 0, 0)] := if_pos ⟨h, hi, hl⟩
theorem askL_range {l : List En} {p : P3} (h : rightB p = false) : askL l p = l := if_neg fun e => by rw [h] at e; exact absurd e.1 (by decide)
theorem askL_had {l : List En} {p : P3} {i : Nat} (h : idx l p.1 = some i) : askL l p = l := if_neg fun e => by rw [h] at e; exact absurd e.2.1 (by simp)
theorem askL_full {l : List En} {p : P3} (h : 256 ≤ l.length) : askL l p = l := if_neg fun e => by omega

/-- The place of the payment that is to be tried next, among the first k. -/
def best (st tr : Nat → Int) : Nat → Int
  | 0 => -1
  | k + 1 => if st k = 0 ∧ (best st tr k < 0 ∨ tr k < tr (best st tr k).toNat) then k else best st tr k
def stOf (l : List En) (k : Nat) : Int := (l.map (·.2.1)).getD k 0
def trOf (l : List En) (k : Nat) : Int := (l.map (·.2.2)).getD k 0
def bst (l : List En) (k : Nat) : Int := best (stOf l) (trOf l) k
theorem stOf_at {l : List En} {k : Nat} (hk : k < l.length) : stOf l k = l[k].2.1 := by simp [stOf, hk]
theorem trOf_at {l : List En} {k : Nat} (hk : k < l.length) : trOf l k = l[k].2.2 := by simp [trOf, hk]
theorem best_bound (st tr : Nat → Int) : ∀ k, -1 ≤ best st tr k ∧ best st tr k < k
  | 0 => by simp [best]
  | k + 1 => by
    have := best_bound st tr k
    unfold best
    split <;> omega
theorem bst_bound (l : List En) (k : Nat) : -1 ≤ bst l k ∧ bst l k < k := best_bound _ _ k
theorem bst_take {l : List En} {k : Nat} (hk : k < l.length) (h : l[k].2.1 = 0) (h2 : bst l k < 0 ∨ l[k].2.2 < trOf l (bst l k).toNat) : bst l (k + 1) = k := by
  unfold bst best
  rw [if_pos ⟨by rw [stOf_at hk]; exact h, by rw [trOf_at hk]; exact h2⟩]
theorem bst_state {l : List En} {k : Nat} (hk : k < l.length) (h : l[k].2.1 ≠ 0) : bst l (k + 1) = bst l k := by
  unfold bst; rw [best]
  rw [if_neg fun e => by rw [stOf_at hk] at e; exact h e.1]
theorem bst_later {l : List En} {k : Nat} (hk : k < l.length) (h1 : 0 ≤ bst l k) (h2 : trOf l (bst l k).toNat ≤ l[k].2.2) : bst l (k + 1) = bst l k := by
  unfold bst at *; rw [best]
  rw [if_neg fun e => by rw [trOf_at hk] at e; omega]
def nextP (l : List En) : P3 := if bst l l.length < 0 then z3 else (l.map (·.1)).getD (bst l l.length).toNat z3
def nextB (l : List En) : Bool := decide (0 ≤ bst l l.length)

/-- Answer. -/
def stNew (s e : Int) : Int := if e = 0 then 1 else if e = 21 then 2 else s
def ansE (l : List En) (r : Int) : Int := match idx l r with
  | none => 7
  | some i => if stOf l i = 0 then 0 else 12
def ansL (l : List En) (r e : Int) : List En := match idx l r with
  | none => l
  | some i => if stOf l i = 0 then l.set i ((l.map (·.1)).getD i z3, stNew 0 e, trOf l i + 1) else l
theorem ansE_none {l : List En} {r : Int} (h : idx l r = none) : ansE l r = 7 := by simp [ansE, h]
theorem ansL_none {l : List En} {r e : Int} (h : idx l r = none) : ansL l r e = l := by simp [ansL, h]
theorem ansE_state {l : List En} {r : Int} {i : Nat} (h : idx l r = some i) (h2 : (l[i]'(idx_lt h)).2.1 ≠ 0) : ansE l r = 12 := by
  simp only [ansE, h]; rw [stOf_at (idx_lt h), if_neg h2]
theorem ansL_state {l : List En} {r e : Int} {i : Nat} (h : idx l r = some i) (h2 : (l[i]'(idx_lt h)).2.1 ≠ 0) : ansL l r e = l := by
  simp only [ansL, h]; rw [stOf_at (idx_lt h), if_neg h2]
theorem ansE_ok {l : List En} {r : Int} {i : Nat} (h : idx l r = some i) (h2 : (l[i]'(idx_lt h)).2.1 = 0) : ansE l r = 0 := by
  simp only [ansE, h]; rw [stOf_at (idx_lt h), if_pos h2]
theorem ansL_ok {l : List En} {r e : Int} {i : Nat} (h : idx l r = some i) (h2 : (l[i]'(idx_lt h)).2.1 = 0) : ansL l r e = l.set i ((l[i]'(idx_lt h)).1, stNew 0 e, (l[i]'(idx_lt h)).2.2 + 1) := by
  have hi := idx_lt h
  simp only [ansL, h]; rw [stOf_at hi, if_pos h2, trOf_at hi]
  simp [hi]
/-- The payments in a state. -/
def ofS (l : List En) (s : Int) : List P3 := (l.filter fun x => decide (x.2.1 = s)).map (·.1)
theorem ofS_yes {l : List En} {s : Int} {k : Nat} (hk : k < l.length) (h : l[k].2.1 = s) : ofS (l.take (k + 1)) s = ofS (l.take k) s ++ [l[k].1] := by
  unfold ofS
  rw [List.take_succ_eq_append_getElem hk, List.filter_append, List.map_append]
  simp [h]
theorem ofS_no {l : List En} {s : Int} {k : Nat} (hk : k < l.length) (h : l[k].2.1 ≠ s) : ofS (l.take (k + 1)) s = ofS (l.take k) s := by
  unfold ofS
  rw [List.take_succ_eq_append_getElem hk, List.filter_append, List.map_append]
  simp [h]
theorem ofS_len (l : List En) (s : Int) : (ofS l s).length ≤ l.length := by
  unfold ofS
  rw [List.length_map]
  exact List.length_filter_le _ _
/-- What holds of every desk: its states, its tries. -/
def fine (N : Nat) (l : List En) : Prop := l.length ≤ 256 ∧ ∀ x ∈ l, rightB x.1 = true ∧ (x.2.1 = 0 ∨ x.2.1 = 1 ∨ x.2.1 = 2) ∧ 0 ≤ x.2.2 ∧ x.2.2 ≤ N
theorem fine_nil (N : Nat) : fine N [] := ⟨by simp, fun x hx => by cases hx⟩
theorem fine_mono {N M : Nat} {l : List En} (h : fine N l) (hn : N ≤ M) : fine M l := ⟨h.1, fun x hx => let ⟨r, a, b, c⟩ := h.2 x hx; ⟨r, a, b, by omega⟩⟩
theorem fine_ask {N : Nat} {l : List En} {p : P3} (h : fine N l) : fine N (askL l p) := by
  unfold askL
  split
  · rename_i hh
    refine ⟨by simp; omega, fun x hx => ?_⟩
    rcases List.mem_append.1 hx with hx | hx
    · exact h.2 x hx
    · obtain rfl := List.mem_singleton.1 hx
      exact ⟨hh.1, .inl rfl, by simp, by simp⟩
  · exact h
theorem fine_ans {N : Nat} {l : List En} {r e : Int} (h : fine N l) : fine (N + 1) (ansL l r e) := by
  unfold ansL
  split
  · exact fine_mono h (by omega)
  · rename_i i hi
    split
    · refine ⟨by simpa using h.1, fun x hx => ?_⟩
      rcases List.mem_or_eq_of_mem_set hx with hx | rfl
      · exact (fine_mono h (by omega)).2 x hx
      · have hl := idx_lt hi
        have := h.2 _ (List.getElem_mem hl)
        refine ⟨?_, ?_, ?_, ?_⟩
        · show rightB ((l.map (·.1)).getD i z3) = true
          simp only [List.getD_eq_getElem?_getD, List.getElem?_map, List.getElem?_eq_getElem hl, Option.map_some, Option.getD_some]
          exact this.1
        · show stNew 0 e = 0 ∨ stNew 0 e = 1 ∨ stNew 0 e = 2
          unfold stNew; (repeat' split) <;> simp
        · show 0 ≤ trOf l i + 1
          rw [trOf_at hl]; omega
        · show trOf l i + 1 ≤ ((N + 1 : Nat) : Int)
          rw [trOf_at hl]; omega
    · exact fine_mono h (by omega)
/-- An answered entry's cells. -/
theorem cellsE_set : ∀ (l : List En) (i : Nat) (hi : i < l.length) (s t : Int), ((cellsE l).set (i * 5 + 4) (.int .i64 t)).set (i * 5 + 3) (.int .i64 s) = cellsE (l.set i (l[i].1, s, t))
  | [], i, hi, _, _ => absurd hi (Nat.not_lt_zero _)
  | x :: l, 0, _, s, t => by simp [cellsE, encE]
  | x :: l, i + 1, hi, s, t => by
    have ih := cellsE_set l i (by simpa using hi) s t
    have e4 : (i + 1) * 5 + 4 = (i * 5 + 4) + 1 + 1 + 1 + 1 + 1 := by omega
    have e3 : (i + 1) * 5 + 3 = (i * 5 + 3) + 1 + 1 + 1 + 1 + 1 := by omega
    have hc : ∀ (y : En) (m : List En), cellsE (y :: m) = .int .i64 y.1.1 :: .int .i64 y.1.2.1 :: .int .i64 y.1.2.2 :: .int .i64 y.2.1 :: .int .i64 y.2.2 :: cellsE m := fun _ _ => rfl
    rw [hc, e4, e3]
    simp only [List.set_cons_succ]
    rw [ih]
    rfl
theorem cellsE_tries : ∀ (l : List En) (i : Nat) (hi : i < l.length) (t : Int), (cellsE l).set (i * 5 + 4) (.int .i64 t) = cellsE (l.set i (l[i].1, l[i].2.1, t))
  | [], i, hi, _ => absurd hi (Nat.not_lt_zero _)
  | x :: l, 0, _, t => by simp [cellsE, encE]
  | x :: l, i + 1, hi, t => by
    have ih := cellsE_tries l i (by simpa using hi) t
    have e4 : (i + 1) * 5 + 4 = (i * 5 + 4) + 1 + 1 + 1 + 1 + 1 := by omega
    have hc : ∀ (y : En) (m : List En), cellsE (y :: m) = .int .i64 y.1.1 :: .int .i64 y.1.2.1 :: .int .i64 y.1.2.2 :: .int .i64 y.2.1 :: .int .i64 y.2.2 :: cellsE m := fun _ _ => rfl
    rw [hc, e4]
    simp only [List.set_cons_succ]
    rw [ih]
    rfl
theorem idx_set {l : List En} {i : Nat} (hi : i < l.length) (s t r : Int) : idx (l.set i (l[i].1, s, t)) r = idx l r := by
  unfold idx
  have h : (l.set i (l[i].1, s, t)).map (·.1) = l.map (·.1) := by
    rw [List.map_set]
    apply List.ext_getElem (by simp)
    intro k h1 h2
    rw [List.getElem_set]
    split
    · rename_i e; subst e; simp
    · rfl
  have hf : ∀ m : List En, List.findIdx? (fun x : En => decide (x.1.1 = r)) m = List.findIdx? (fun x : P3 => decide (x.1 = r)) (m.map (·.1)) := fun m => by
    rw [List.findIdx?_map]; rfl
  rw [hf, hf, h]
theorem stNew_ok : stNew 0 0 = 1 := rfl
theorem stNew_diff : stNew 0 21 = 2 := rfl
theorem stNew_lost {e : Int} (h : e ≠ 0) (h2 : e ≠ 21) : stNew 0 e = 0 := by unfold stNew; rw [if_neg h, if_neg h2]
end Go.Proofs.Ytakjdffebpcmnaa
