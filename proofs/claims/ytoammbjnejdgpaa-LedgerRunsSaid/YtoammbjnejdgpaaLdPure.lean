/- Plain words for ledgers: postings with their lines, what Post, Reverse and Balance say, with no program in sight. -/
import Derived.Test.YtoammbjnejdgpaaBase
namespace Go.Proofs.Ytoammbjnejdgpaa
open Go.RowKit
/-- A line: account, amount. -/
abbrev Ln := Int × Int
/-- A posting as data: ID, moment, lines; and whether it was taken back or takes back. -/
structure Dt where
  id : Int
  tm : Int
  ls : List Ln
  used : Bool
def lnErr (acc : Int) (x : Ln) : Int := if x.1 < 0 ∨ acc ≤ x.1 then 7 else if x.2 = 0 ∨ x.2 < -1000000000000 ∨ 1000000000000 < x.2 then 27 else 0
def lnsErr (acc : Int) : List Ln → Int
  | [] => 0
  | x :: l => if lnErr acc x ≠ 0 then lnErr acc x else lnsErr acc l
def lnSum : List Ln → Int
  | [] => 0
  | x :: l => x.2 + lnSum l
theorem lnSum_app : ∀ l m : List Ln, lnSum (l ++ m) = lnSum l + lnSum m
  | [], m => by simp [lnSum]
  | x :: l, m => by rw [List.cons_append]; simp only [lnSum]; rw [lnSum_app l m]; omega
theorem lnSum_take {l : List Ln} {k : Nat} (h : k < l.length) : lnSum (l.take (k + 1)) = lnSum (l.take k) + l[k].2 := by
  rw [List.take_succ_eq_append_getElem h, lnSum_app]; simp [lnSum]
theorem lnsErr_bad {acc : Int} : ∀ {l : List Ln} {k : Nat} (hk : k < l.length), lnErr acc l[k] ≠ 0 → (∀ j (hj : j < l.length), j < k → lnErr acc l[j] = 0) → lnsErr acc l = lnErr acc l[k]
  | [], k, hk, _, _ => absurd hk (Nat.not_lt_zero _)
  | p :: q, 0, hk, h, _ => by unfold lnsErr; exact if_pos h
  | p :: q, k + 1, hk, h, hb => by
    unfold lnsErr
    rw [if_neg (fun e => e (hb 0 (Nat.succ_pos _) (Nat.succ_pos _)))]
    exact lnsErr_bad (l := q) (k := k) (by simpa using hk) h fun j hj hjk => hb (j + 1) (by simpa using hj) (by omega)
theorem lnsErr_ok {acc : Int} : ∀ {l : List Ln}, (∀ j (hj : j < l.length), lnErr acc l[j] = 0) → lnsErr acc l = 0
  | [], _ => rfl
  | p :: q, hb => by
    unfold lnsErr
    rw [if_neg (fun e => e (hb 0 (Nat.succ_pos _)))]
    exact lnsErr_ok (l := q) fun j hj => hb (j + 1) (by simpa using hj)
theorem lnsErr_inv {acc : Int} : ∀ {l : List Ln}, lnsErr acc l = 0 → ∀ x ∈ l, lnErr acc x = 0
  | [], _, x, hx => by cases hx
  | p :: q, h, x, hx => by
    unfold lnsErr at h
    by_cases h0 : lnErr acc p = 0
    · rw [if_neg (fun e => e h0)] at h
      rcases List.mem_cons.1 hx with rfl | hx
      · exact h0
      · exact lnsErr_inv h x hx
    · rw [if_pos h0] at h; exact absurd h h0
theorem lnErr_inv {acc : Int} {x : Ln} (h : lnErr acc x = 0) : (0 ≤ x.1 ∧ x.1 < acc) ∧ x.2 ≠ 0 ∧ -1000000000000 ≤ x.2 ∧ x.2 ≤ 1000000000000 := by
  unfold lnErr at h
  split at h
  · exact absurd h (by decide)
  · split at h
    · exact absurd h (by decide)
    · omega
theorem lnErr_mk {acc : Int} {x : Ln} (h : (0 ≤ x.1 ∧ x.1 < acc) ∧ x.2 ≠ 0 ∧ -1000000000000 ≤ x.2 ∧ x.2 ≤ 1000000000000) : lnErr acc x = 0 := by
  unfold lnErr; rw [if_neg (by omega), if_neg (by omega)]
theorem lnErr_none {acc : Int} {x : Ln} (h : x.1 < 0 ∨ acc ≤ x.1) : lnErr acc x = 7 := if_pos h
theorem lnErr_amt {acc : Int} {x : Ln} (h : ¬ (x.1 < 0 ∨ acc ≤ x.1)) (h2 : x.2 = 0 ∨ x.2 < -1000000000000 ∨ 1000000000000 < x.2) : lnErr acc x = 27 := by unfold lnErr; rw [if_neg h, if_pos h2]
/-- The error of a posting's lines. -/
def linesE (acc : Int) (l : List Ln) : Int := if l.length < 2 ∨ 16 < l.length then 3 else if lnsErr acc l ≠ 0 then lnsErr acc l else if lnSum l ≠ 0 then 28 else 0
theorem linesE_form {acc : Int} {l : List Ln} (h : l.length < 2 ∨ 16 < l.length) : linesE acc l = 3 := if_pos h
theorem linesE_bad {acc : Int} {l : List Ln} (h : ¬ (l.length < 2 ∨ 16 < l.length)) (h1 : lnsErr acc l ≠ 0) : linesE acc l = lnsErr acc l := by unfold linesE; rw [if_neg h, if_pos h1]
theorem linesE_sum {acc : Int} {l : List Ln} (h : ¬ (l.length < 2 ∨ 16 < l.length)) (h1 : lnsErr acc l = 0) (h2 : lnSum l ≠ 0) : linesE acc l = 28 := by unfold linesE; rw [if_neg h, if_neg (fun e => e h1), if_pos h2]
theorem linesE_ok {acc : Int} {l : List Ln} (h : ¬ (l.length < 2 ∨ 16 < l.length)) (h1 : lnsErr acc l = 0) (h2 : lnSum l = 0) : linesE acc l = 0 := by unfold linesE; rw [if_neg h, if_neg (fun e => e h1), if_neg (fun e => e h2)]
theorem linesE_inv {acc : Int} {l : List Ln} (h : linesE acc l = 0) : 2 ≤ l.length ∧ l.length ≤ 16 ∧ lnsErr acc l = 0 ∧ lnSum l = 0 := by
  by_cases h0 : l.length < 2 ∨ 16 < l.length
  · rw [linesE_form h0] at h; exact absurd h (by decide)
  · by_cases h1 : lnsErr acc l = 0
    · by_cases h2 : lnSum l = 0
      · exact ⟨by omega, by omega, h1, h2⟩
      · rw [linesE_sum h0 h1 h2] at h; exact absurd h (by decide)
    · rw [linesE_bad h0 h1] at h; exact absurd h h1
theorem lnSum_bd {acc : Int} : ∀ {l : List Ln}, (∀ x ∈ l, lnErr acc x = 0) → -1000000000000 * (l.length : Int) ≤ lnSum l ∧ lnSum l ≤ 1000000000000 * (l.length : Int)
  | [], _ => by simp [lnSum]
  | x :: l, h => by
    have h1 := lnErr_inv (h x (List.mem_cons_self ..))
    have h2 := lnSum_bd (l := l) fun y hy => h y (List.mem_cons_of_mem _ hy)
    simp only [lnSum, List.length_cons, Int.natCast_add]
    omega
/-- Where a posting lies. -/
def idx (l : List Dt) (r : Int) : Option Nat := l.findIdx? fun x => decide (x.id = r)
theorem idx_lt {l : List Dt} {r : Int} {i : Nat} (h : idx l r = some i) : i < l.length := (List.findIdx?_eq_some_iff_getElem.1 h).1
theorem idx_id {l : List Dt} {r : Int} {i : Nat} (h : idx l r = some i) : (l[i]'(idx_lt h)).id = r := by
  have := (List.findIdx?_eq_some_iff_getElem.1 h).2.1
  simpa using this
theorem idx_at {l : List Dt} {r : Int} {k : Nat} (hk : k < l.length) (h : l[k].id = r) (hb : ∀ j (hj : j < l.length), j < k → l[j].id ≠ r) : idx l r = some k :=
  List.findIdx?_eq_some_iff_getElem.2 ⟨hk, by simpa using h, fun j hj => by simpa using hb j (Nat.lt_trans hj hk) hj⟩
theorem idx_no {l : List Dt} {r : Int} (hb : ∀ j (hj : j < l.length), l[j].id ≠ r) : idx l r = none := by
  unfold idx
  rw [List.findIdx?_eq_none_iff]
  intro x hx
  obtain ⟨j, hj, rfl⟩ := List.getElem_of_mem hx
  simpa using hb j hj
theorem idx_none {l : List Dt} {r : Int} (h : idx l r = none) {j : Nat} (hj : j < l.length) : l[j].id ≠ r := by
  unfold idx at h
  rw [List.findIdx?_eq_none_iff] at h
  simpa using h l[j] (List.getElem_mem hj)
def idxI (l : List Dt) (r : Int) : Int := match idx l r with | some i => (i : Int) | none => -1
theorem idxI_some {l : List Dt} {r : Int} {i : Nat} (h : idx l r = some i) : idxI l r = i := by unfold idxI; rw [h]
theorem idxI_none {l : List Dt} {r : Int} (h : idx l r = none) : idxI l r = -1 := by unfold idxI; rw [h]
def lastTm (l : List Dt) : Int := match l.getLast? with | some x => x.tm | none => 0
theorem lastTm_at {l : List Dt} (h : l.length - 1 < l.length) : lastTm l = (l[l.length - 1]).tm := by
  unfold lastTm
  rw [List.getLast?_eq_getElem?, List.getElem?_eq_getElem h]
def rangeP (id tm : Int) : Bool := decide (1 ≤ id ∧ id ≤ 1000000 ∧ 0 ≤ tm ∧ tm ≤ 4294943999)
/-- The error of a posting. -/
def postE (acc : Int) (l : List Dt) (id tm : Int) (ls : List Ln) : Int :=
  if 512 ≤ l.length then 8 else if rangeP id tm = false then 1 else if linesE acc ls ≠ 0 then linesE acc ls else if idx l id ≠ none then 6 else if l ≠ [] ∧ tm < lastTm l then 9 else 0
section
variable {acc : Int} {l : List Dt} {id tm : Int} {ls : List Ln}
theorem postE_full (h : 512 ≤ l.length) : postE acc l id tm ls = 8 := if_pos h
theorem postE_range (h : l.length < 512) (h1 : rangeP id tm = false) : postE acc l id tm ls = 1 := by unfold postE; rw [if_neg (by omega), if_pos h1]
theorem postE_lines (h : l.length < 512) (h1 : rangeP id tm = true) (h2 : linesE acc ls ≠ 0) : postE acc l id tm ls = linesE acc ls := by unfold postE; rw [if_neg (by omega), if_neg (by rw [h1]; decide), if_pos h2]
theorem postE_twice (h : l.length < 512) (h1 : rangeP id tm = true) (h2 : linesE acc ls = 0) (h3 : idx l id ≠ none) : postE acc l id tm ls = 6 := by unfold postE; rw [if_neg (by omega), if_neg (by rw [h1]; decide), if_neg (fun e => e h2), if_pos h3]
theorem postE_order (h : l.length < 512) (h1 : rangeP id tm = true) (h2 : linesE acc ls = 0) (h3 : idx l id = none) (h4 : l ≠ [] ∧ tm < lastTm l) : postE acc l id tm ls = 9 := by unfold postE; rw [if_neg (by omega), if_neg (by rw [h1]; decide), if_neg (fun e => e h2), if_neg (fun e => e h3), if_pos h4]
theorem postE_ok (h : l.length < 512) (h1 : rangeP id tm = true) (h2 : linesE acc ls = 0) (h3 : idx l id = none) (h4 : ¬ (l ≠ [] ∧ tm < lastTm l)) : postE acc l id tm ls = 0 := by unfold postE; rw [if_neg (by omega), if_neg (by rw [h1]; decide), if_neg (fun e => e h2), if_neg (fun e => e h3), if_neg h4]
theorem postE_inv (h : postE acc l id tm ls = 0) : l.length < 512 ∧ rangeP id tm = true ∧ linesE acc ls = 0 ∧ idx l id = none ∧ ¬ (l ≠ [] ∧ tm < lastTm l) := by
  by_cases h0 : 512 ≤ l.length
  · rw [postE_full h0] at h; exact absurd h (by decide)
  · rcases h1 : rangeP id tm with _ | _
    · rw [postE_range (by omega) h1] at h; exact absurd h (by decide)
    · by_cases h2 : linesE acc ls = 0
      · by_cases h3 : idx l id = none
        · by_cases h4 : l ≠ [] ∧ tm < lastTm l
          · rw [postE_order (by omega) h1 h2 h3 h4] at h; exact absurd h (by decide)
          · exact ⟨by omega, rfl, h2, h3, h4⟩
        · rw [postE_twice (by omega) h1 h2 h3] at h; exact absurd h (by decide)
      · rw [postE_lines (by omega) h1 h2] at h; exact absurd h h2
end
def postD (acc : Int) (l : List Dt) (id tm : Int) (ls : List Ln) (used : Bool) : List Dt := if postE acc l id tm ls = 0 then l ++ [⟨id, tm, ls, used⟩] else l
def negL (l : List Ln) : List Ln := l.map fun x => (x.1, -x.2)
def markD (l : List Dt) (i : Nat) (b : Bool) : List Dt := l.modify i fun x => { x with used := b }
def revE (acc : Int) (l : List Dt) (id by_ tm : Int) : Int := match idx l id with
  | none => 7
  | some i => if (l.getD i ⟨0, 0, [], false⟩).used = true then 20 else postE acc l by_ tm (negL (l.getD i ⟨0, 0, [], false⟩).ls)
def revD (acc : Int) (l : List Dt) (id by_ tm : Int) : List Dt := match idx l id with
  | none => l
  | some i => if revE acc l id by_ tm = 0 then markD l i true ++ [⟨by_, tm, negL (l.getD i ⟨0, 0, [], false⟩).ls, true⟩] else l
/-- What a posting adds to an account. -/
def lnAdd (a : Int) : List Ln → Int
  | [] => 0
  | x :: l => (if x.1 = a then x.2 else 0) + lnAdd a l
def balN (l : List Dt) (a t : Int) : Int := match l with
  | [] => 0
  | x :: l => (if x.tm ≤ t then lnAdd a x.ls else 0) + balN l a t
def balE (acc a t : Int) : Int := if a < 0 ∨ acc ≤ a then 7 else if t < 0 ∨ 4294943999 < t then 1 else 0
end Go.Proofs.Ytoammbjnejdgpaa
