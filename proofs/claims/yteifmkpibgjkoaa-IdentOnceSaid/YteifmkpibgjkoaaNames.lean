/- Plain facts on lists of identifiers: what a table and the reference's lists do, with no program in sight. -/
import Derived.Test.YteifmkpibgjkoaaPure
import Derived.Laws.Strings
import Derived.WideShapes
namespace Go.Proofs.Yteifmkpibgjkoaa

/-- Two strings are equal. -/
def eqS (a b : ByteArray) : Bool := a.data.toList == b.data.toList
theorem eqS_walk (a b : ByteArray) : (a.toList == b.toList) = eqS a b := by rw [eqS, ByteArray.toList_eq, ByteArray.toList_eq]
theorem eqS_iff {a b : ByteArray} : eqS a b = true ↔ a = b := by
  rw [eqS, beq_iff_eq]
  exact ⟨fun h => Go.WideShapes.bytes_inj h, fun h => by rw [h]⟩
theorem eqS_refl (a : ByteArray) : eqS a a = true := eqS_iff.2 rfl

/-- The place of a string in a list. -/
def posOf (l : List ByteArray) (s : ByteArray) : Option Nat := l.findIdx? fun x => eqS x s
theorem posOf_some {l : List ByteArray} {s : ByteArray} {i : Nat} (hi : i < l.length) (h : eqS l[i] s = true) (hb : ∀ j (hj : j < i), eqS (l[j]'(by omega)) s = false) : posOf l s = some i := by
  unfold posOf
  rw [List.findIdx?_eq_some_iff_getElem]
  exact ⟨hi, h, fun j hj => by rw [hb j hj]; simp⟩
theorem posOf_none {l : List ByteArray} {s : ByteArray} (h : ∀ j (hj : j < l.length), eqS l[j] s = false) : posOf l s = none := by
  unfold posOf
  rw [List.findIdx?_eq_none_iff]
  intro x hx
  obtain ⟨j, hj, rfl⟩ := List.getElem_of_mem hx
  exact h j hj
theorem posOf_get {l : List ByteArray} {s : ByteArray} {i : Nat} (h : posOf l s = some i) : ∃ hi : i < l.length, l[i] = s := by
  unfold posOf at h
  rw [List.findIdx?_eq_some_iff_getElem] at h
  obtain ⟨hi, h1, _⟩ := h
  exact ⟨hi, eqS_iff.1 h1⟩
theorem posOf_mem {l : List ByteArray} {s : ByteArray} : posOf l s = none ↔ s ∉ l := by
  unfold posOf
  rw [List.findIdx?_eq_none_iff]
  constructor
  · intro h hm
    have := h s hm
    rw [eqS_refl] at this
    cases this
  · intro h x hx
    rw [Bool.eq_false_iff]
    intro e
    rw [eqS_iff] at e
    exact h (e ▸ hx)
theorem posOf_snoc {l : List ByteArray} {s : ByteArray} (t : ByteArray) (h : posOf l s = none) : posOf (l ++ [s]) t = if eqS s t then some l.length else posOf l t := by
  unfold posOf
  rw [List.findIdx?_append]
  by_cases e : eqS s t = true
  · rw [eqS_iff] at e
    subst e
    unfold posOf at h
    rw [h, eqS_refl]
    simp [List.findIdx?_cons, eqS_refl]
  · have e' : eqS s t = false := by simpa using e
    rw [e']
    simp [List.findIdx?_cons, e']
theorem posOf_nil (s : ByteArray) : posOf [] s = none := rfl

/-- The reference's Find. -/
def findI (l : List ByteArray) (s : ByteArray) : Int := match posOf l s with | some i => i | none => -1
theorem findI_some {l : List ByteArray} {s : ByteArray} {i : Nat} (h : posOf l s = some i) : findI l s = i := by rw [findI, h]
theorem findI_none {l : List ByteArray} {s : ByteArray} (h : posOf l s = none) : findI l s = -1 := by rw [findI, h]

/-- The error of adding a string to a list of identifiers. -/
def addE (l : List ByteArray) (s : ByteArray) : Int := if validS s = false then 5 else if (posOf l s).isSome then 6 else if 512 ≤ l.length then 8 else 0
def addL (l : List ByteArray) (s : ByteArray) : List ByteArray := if addE l s = 0 then l ++ [s] else l
theorem addE_name {l : List ByteArray} {s : ByteArray} (h : validS s = false) : addE l s = 5 := by simp [addE, h]
theorem addE_twice {l : List ByteArray} {s : ByteArray} (h : validS s = true) (h2 : (posOf l s).isSome = true) : addE l s = 6 := by simp [addE, h, h2]
theorem addE_full {l : List ByteArray} {s : ByteArray} (h : validS s = true) (h2 : posOf l s = none) (h3 : 512 ≤ l.length) : addE l s = 8 := by simp [addE, h, h2, h3]
theorem addE_ok {l : List ByteArray} {s : ByteArray} (h : validS s = true) (h2 : posOf l s = none) (h3 : l.length < 512) : addE l s = 0 := by
  rw [addE, if_neg (by simp [h]), if_neg (by simp [h2]), if_neg (by omega)]
theorem addE_zero {l : List ByteArray} {s : ByteArray} : addE l s = 0 ↔ validS s = true ∧ posOf l s = none ∧ l.length < 512 := by
  constructor
  · intro h
    unfold addE at h
    by_cases h1 : validS s = false
    · rw [if_pos h1] at h; cases h
    rw [if_neg h1] at h
    by_cases h2 : (posOf l s).isSome = true
    · rw [if_pos h2] at h; cases h
    rw [if_neg h2] at h
    by_cases h3 : 512 ≤ l.length
    · rw [if_pos h3] at h; cases h
    exact ⟨by simpa using h1, by simpa using h2, by omega⟩
  · exact fun ⟨a, b, c⟩ => addE_ok a b c
theorem addL_ok {l : List ByteArray} {s : ByteArray} (h : addE l s = 0) : addL l s = l ++ [s] := by rw [addL, if_pos h]
theorem addL_no {l : List ByteArray} {s : ByteArray} (h : addE l s ≠ 0) : addL l s = l := by rw [addL, if_neg h]
theorem addL_le (l : List ByteArray) (s : ByteArray) : (addL l s).length ≤ l.length + 1 := by unfold addL; split <;> simp
theorem addL_512 {l : List ByteArray} (s : ByteArray) (h : l.length ≤ 512) : (addL l s).length ≤ 512 := by
  by_cases h0 : addE l s = 0
  · rw [addL_ok h0]; have := (addE_zero.1 h0).2.2; simp; omega
  · rw [addL_no h0]; exact h

/-- The first error of adding the strings of a list one after the other. -/
def newE : List ByteArray → List ByteArray → Int
  | _, [] => 0
  | acc, s :: r => if addE acc s = 0 then newE (acc ++ [s]) r else addE acc s
/-- The first k strings of l go in one after the other. -/
def fits (l : List ByteArray) (k : Nat) : Prop := ∀ j (hj : j < l.length), j < k → addE (l.take j) l[j] = 0
theorem fits_zero (l : List ByteArray) : fits l 0 := fun _ _ h => absurd h (Nat.not_lt_zero _)
theorem fits_succ {l : List ByteArray} {k : Nat} (hk : k < l.length) (h : fits l k) (h0 : addE (l.take k) l[k] = 0) : fits l (k + 1) := by
  intro j hj hjk
  rcases Nat.lt_or_eq_of_le (Nat.lt_succ_iff.1 hjk) with h' | rfl
  · exact h j hj h'
  · exact h0
theorem newE_fits {l : List ByteArray} : ∀ k, k ≤ l.length → fits l k → newE [] l = newE (l.take k) (l.drop k)
  | 0, _, _ => by simp
  | k + 1, hk, h => by
    have hk' : k < l.length := by omega
    rw [newE_fits k (by omega) (fun j hj hjk => h j hj (by omega)), List.drop_eq_getElem_cons hk', newE, if_pos (h k hk' (by omega)), List.take_succ_eq_append_getElem hk']
theorem newE_ok {l : List ByteArray} (h : fits l l.length) : newE [] l = 0 := by
  rw [newE_fits l.length (Nat.le_refl _) h]; simp [newE]
theorem newE_bad {l : List ByteArray} {k : Nat} (hk : k < l.length) (h : fits l k) (h0 : addE (l.take k) l[k] ≠ 0) : newE [] l = addE (l.take k) l[k] := by
  rw [newE_fits k (by omega) h, List.drop_eq_getElem_cons hk, newE, if_neg h0]
theorem newE_iff {l : List ByteArray} : newE [] l = 0 ↔ fits l l.length := by
  constructor
  · intro h j hj _
    revert j
    suffices ∀ k, k ≤ l.length → fits l k by intro j hj _; exact this (j + 1) hj j hj (by omega)
    intro k
    induction k with
    | zero => exact fun _ => fits_zero l
    | succ k ih =>
      intro hk
      have hk' : k < l.length := by omega
      have hf := ih (by omega)
      refine fits_succ hk' hf ?_
      by_cases h0 : addE (l.take k) l[k] = 0
      · exact h0
      · rw [newE_bad hk' hf h0] at h; exact absurd h h0
  · exact newE_ok
end Go.Proofs.Yteifmkpibgjkoaa
