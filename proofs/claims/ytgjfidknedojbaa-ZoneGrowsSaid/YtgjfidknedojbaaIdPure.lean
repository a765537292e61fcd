/- Plain facts on identifiers: what ident.Valid computes, with no program in sight. -/
namespace Go.Proofs.Ytgjfidknedojbaa

def letterB (c : UInt8) : Bool := decide (97 ≤ c.toNat) && decide (c.toNat ≤ 122)
def charB (c : UInt8) : Bool := letterB c || (decide (48 ≤ c.toNat) && decide (c.toNat ≤ 57)) || c.toNat == 45

/-- The byte at a place, 0 behind the end. -/
def byteAt (s : ByteArray) (i : Nat) : UInt8 := s.data.toList.getD i 0
theorem byteAt_eq (s : ByteArray) (i : Nat) (h : i < s.size) : s[i] = byteAt s i := by
  have h' : i < s.data.toList.length := by simpa using h
  unfold byteAt
  rw [List.getD_eq_getElem?_getD, List.getElem?_eq_getElem h']
  rfl

/-- All bytes before a place are letters, digits or hyphens. -/
def goodTo (s : ByteArray) (k : Nat) : Prop := ∀ i, i < k → charB (byteAt s i) = true
/-- What Valid says. -/
def validS (s : ByteArray) : Bool :=
  decide (1 ≤ s.size) && decide (s.size ≤ 32) && letterB (byteAt s 0) && !((byteAt s (s.size - 1)).toNat == 45) && decide (∀ i, i < s.size → charB (byteAt s i) = true)

theorem validS_iff (s : ByteArray) : validS s = true ↔ 1 ≤ s.size ∧ s.size ≤ 32 ∧ letterB (byteAt s 0) = true ∧ (byteAt s (s.size - 1)).toNat ≠ 45 ∧ goodTo s s.size := by
  simp [validS, goodTo, and_assoc]

theorem valid_short {s : ByteArray} (h : s.size < 1) : validS s = false := by
  rw [Bool.eq_false_iff]; intro e; have := (validS_iff s).1 e; omega
theorem valid_long {s : ByteArray} (h : 32 < s.size) : validS s = false := by
  rw [Bool.eq_false_iff]; intro e; have := (validS_iff s).1 e; omega
theorem valid_first {s : ByteArray} (h : letterB (byteAt s 0) = false) : validS s = false := by
  rw [Bool.eq_false_iff]; intro e; have := (validS_iff s).1 e; simp [h] at this
theorem valid_last {s : ByteArray} (h : (byteAt s (s.size - 1)).toNat = 45) : validS s = false := by
  rw [Bool.eq_false_iff]; intro e; have := (validS_iff s).1 e; simp [h] at this
theorem valid_char {s : ByteArray} {k : Nat} (hk : k < s.size) (h : charB (byteAt s k) = false) : validS s = false := by
  rw [Bool.eq_false_iff]; intro e; have := ((validS_iff s).1 e).2.2.2.2 k hk; simp [h] at this
theorem valid_ok {s : ByteArray} (h1 : 1 ≤ s.size) (h2 : s.size ≤ 32) (h3 : letterB (byteAt s 0) = true) (h4 : (byteAt s (s.size - 1)).toNat ≠ 45) (h5 : goodTo s s.size) : validS s = true :=
  (validS_iff s).2 ⟨h1, h2, h3, h4, h5⟩
theorem good_zero (s : ByteArray) : goodTo s 0 := fun _ h => absurd h (Nat.not_lt_zero _)
theorem good_succ {s : ByteArray} {k : Nat} (h : goodTo s k) (hc : charB (byteAt s k) = true) : goodTo s (k + 1) := by
  intro i hi
  rcases Nat.lt_or_eq_of_le (Nat.lt_succ_iff.1 hi) with h' | rfl
  · exact h i h'
  · exact hc
theorem char_letter {c : UInt8} (h : letterB c = true) : charB c = true := by simp [charB, h]
theorem char_digit {c : UInt8} (h1 : 48 ≤ c.toNat) (h2 : c.toNat ≤ 57) : charB c = true := by simp [charB, h1, h2]
theorem char_hyphen {c : UInt8} (h : c.toNat = 45) : charB c = true := by simp [charB, h]
theorem char_bad {c : UInt8} (h : letterB c = false) (h1 : c.toNat < 48 ∨ 57 < c.toNat) (h2 : c.toNat ≠ 45) : charB c = false := by
  simp [charB, h, h2]; omega
theorem letter_of {c : UInt8} (h1 : 97 ≤ c.toNat) (h2 : c.toNat ≤ 122) : letterB c = true := by simp [letterB, h1, h2]
theorem letter_not {c : UInt8} (h : c.toNat < 97 ∨ 122 < c.toNat) : letterB c = false := by simp [letterB]; omega
end Go.Proofs.Ytgjfidknedojbaa
