/- The walks of ident.letter, ident.Valid and the reference's Valid: both say what validS says. -/
import Derived.Test.YtgjfidknedojbaaFlat
import Derived.Test.YtgjfidknedojbaaIdPure
namespace Go.Proofs.Ytgjfidknedojbaa
open Go.RowKit

set_option maxHeartbeats 400000 in
theorem letter_any (c : UInt8) (w : World) :
    Calls Try.prog 40 #[.int .u8 c.toNat] w fun e w' => e = .returned (.bool (letterB c)) ∧ w = w' := by
  by_cases h1 : 97 ≤ c.toNat
  · by_cases h2 : c.toNat ≤ 122
    · rw [letter_of h1 h2]
      go_enter Try.func40, Try.ntmps40
      go_wp2
      go_ret
      exact ⟨ret_bool (by simp; omega), rfl⟩
    · rw [letter_not (.inr (by omega))]
      go_enter Try.func40, Try.ntmps40
      go_wp2
      go_ret
      exact ⟨ret_bool (by simp; omega), rfl⟩
  · rw [letter_not (.inl (by omega))]
    go_enter Try.func40, Try.ntmps40
    go_wp2
    go_ret
    exact ⟨rfl, rfl⟩

theorem beq45_t {n : Nat} (h : n = 45) : ((n : Int) == 45) = true := by simp; omega
theorem beq45_f {n : Nat} (h : n ≠ 45) : ((n : Int) == 45) = false := by simp; omega
theorem bne45_t {n : Nat} (h : n ≠ 45) : ((n : Int) != 45) = true := by simp; omega
theorem bne45_f {n : Nat} (h : n = 45) : ((n : Int) != 45) = false := by simp; omega

set_option maxHeartbeats 1000000 in
theorem idvalid_any (s : ByteArray) (hs : s.size ≤ maxLen) (w : World) :
    Calls Try.prog 26 #[.string s] w fun e w' => e = .returned (.bool (validS s)) ∧ w = w' := by
  unfold maxLen at hs
  have hb : ∀ (i : Nat) (h : i < s.size), s[i] = byteAt s i := byteAt_eq s
  by_cases c1 : s.size < 1
  · rw [valid_short c1]
    go_enter Try.func26, Try.ntmps26
    go_wp2_with fail
    go_ret
    exact ⟨rfl, rfl⟩
  by_cases c2 : 32 < s.size
  · rw [valid_long c2]
    go_enter Try.func26, Try.ntmps26
    go_wp2_with fail
    go_ret
    exact ⟨rfl, rfl⟩
  rcases hl : letterB (byteAt s 0) with _ | _
  · rw [valid_first hl]
    go_enter Try.func26, Try.ntmps26
    go_wp2_with (go_at_call 40; refine (letter_any _ _).mono ?_; rintro e w' ⟨rfl, rfl⟩)
    go_ret
    exact ⟨rfl, rfl⟩
  by_cases c3 : (byteAt s (s.size - 1)).toNat = 45
  · rw [valid_last c3]
    have c3' := beq45_t c3
    clear c3
    go_enter Try.func26, Try.ntmps26
    go_wp2_with (go_at_call 40; refine (letter_any _ _).mono ?_; rintro e w' ⟨rfl, rfl⟩)
    go_ret
    exact ⟨rfl, rfl⟩
  have HF : Hid (goodTo s s.size → validS s = true) := fun h => valid_ok (by omega) (by omega) hl c3 h
  have HB : Hid (∀ k, k < s.size → charB (byteAt s k) = false → validS s = false) := fun k hk h => valid_char hk h
  have c3' := beq45_f c3
  clear c3
  go_enter Try.func26, Try.ntmps26
  go_wp2_with (go_at_call 40; refine (letter_any _ _).mono ?_; rintro e w' ⟨rfl, rfl⟩)
  go_loop [28] (fun i => ∃ k : Nat, k ≤ s.size ∧ i = .int .i64 k ∧ goodTo s k) (fun i => s.size - (intOf i).toNat)
  case atStart => exact ⟨0, Nat.zero_le _, rfl, good_zero s⟩
  case round =>
    obtain ⟨k, hk, rfl, hg⟩ := hrel
    have HG := Lib.hid hg
    clear hg
    by_cases hlt : k < s.size
    · rcases hlk : letterB (byteAt s k) with _ | _
      · by_cases d1 : 48 ≤ (byteAt s k).toNat ∧ (byteAt s k).toNat ≤ 57
        · obtain ⟨d1, d2⟩ := d1
          have HC := Lib.hid (char_digit d1 d2)
          go_wp2_with (go_at_call 40; refine (letter_any _ _).mono ?_; rintro e w' ⟨rfl, rfl⟩)
          go_round
          case rel => exact ⟨k + 1, by omega, by go_num, good_succ HG.out HC.out⟩
          case measure => simp [intOf]; omega
        · by_cases d2 : (byteAt s k).toNat = 45
          · have HC := Lib.hid (char_hyphen d2)
            have d2' := bne45_f d2
            clear d2
            go_wp2_with (go_at_call 40; refine (letter_any _ _).mono ?_; rintro e w' ⟨rfl, rfl⟩)
            all_goals
              go_round
              case rel => exact ⟨k + 1, by omega, by go_num, good_succ HG.out HC.out⟩
              case measure => simp [intOf]; omega
          · have HC := Lib.hid (char_bad hlk (by omega) d2)
            have d2' := bne45_t d2
            clear d2
            rcases (by omega : (byteAt s k).toNat < 48 ∨ 57 < (byteAt s k).toNat) with d3 | d3
            all_goals
              go_wp2_with (go_at_call 40; refine (letter_any _ _).mono ?_; rintro e w' ⟨rfl, rfl⟩)
              go_ret
              exact ⟨ret_bool (HB.out k hlt HC.out).symm, rfl⟩
      · have HC := Lib.hid (char_letter hlk)
        go_wp2_with (go_at_call 40; refine (letter_any _ _).mono ?_; rintro e w' ⟨rfl, rfl⟩)
        go_round
        case rel => exact ⟨k + 1, by omega, by go_num, good_succ HG.out HC.out⟩
        case measure => simp [intOf]; omega
    · have HK : Hid (k = s.size) := by unfold Hid; omega
      go_wp2_with fail
      go_ret
      exact ⟨ret_bool (HF.out (HK.out ▸ HG.out)).symm, rfl⟩

theorem eq45_f {n : Nat} (h : n ≠ 45) : ((n : Int) == 45) = false := by simp; omega

set_option maxHeartbeats 2000000 in
theorem ridvalid_any (s : ByteArray) (hs : s.size ≤ maxLen) (w : World) :
    Calls Try.prog 46 #[.string s] w fun e w' => e = .returned (.bool (validS s)) ∧ ∃ n, w' = w.drewN n := by
  unfold maxLen at hs
  have hb : ∀ (i : Nat) (h : i < s.size), s[i] = byteAt s i := byteAt_eq s
  by_cases c1 : s.size < 1
  · rw [valid_short c1]
    go_enter Try.func46, Try.ntmps46
    go_wp2_with fail
    go_ret
    exact ⟨rfl, 0, rfl⟩
  by_cases c2 : 32 < s.size
  · rw [valid_long c2]
    go_enter Try.func46, Try.ntmps46
    go_wp2_with fail
    go_ret
    exact ⟨rfl, 0, rfl⟩
  have HF : Hid (letterB (byteAt s 0) = true → (byteAt s (s.size - 1)).toNat ≠ 45 → goodTo s s.size → validS s = true) := fun a b h => valid_ok (by omega) (by omega) a b h
  have HB : Hid (∀ k, k < s.size → charB (byteAt s k) = false → validS s = false) := fun k hk h => valid_char hk h
  have HL : Hid ((byteAt s (s.size - 1)).toNat = 45 → validS s = false) := fun h => valid_last h
  have H0 : Hid (letterB (byteAt s 0) = false → validS s = false) := fun h => valid_first h
  go_enter Try.func46, Try.ntmps46
  go_wp2_with fail
  go_loopw [3] (fun i wr => ∃ k : Nat, k ≤ s.size ∧ i = .int .i64 k ∧ goodTo s k ∧ (0 < k → letterB (byteAt s 0) = true) ∧ ∃ n, wr = w.drewN n) (fun i _ => s.size - (intOf i).toNat)
  case atStart => exact ⟨0, Nat.zero_le _, rfl, good_zero s, fun h => absurd h (by omega), 0, rfl⟩
  case round =>
    obtain ⟨k, hk, rfl, hg, hf, n, rfl⟩ := hrel
    have HG := Lib.hid hg
    have HFk := Lib.hid hf
    clear hg hf
    by_cases hlt : k < s.size
    · go_wp2_with fail
      have hlt' : (k : Int) < (s.size : Int) := by omega
      have hk0 : (0 : Int) ≤ (k : Int) := by omega
      by_cases hL : 97 ≤ (byteAt s k).toNat ∧ (byteAt s k).toNat ≤ 122
      · obtain ⟨l1, l2⟩ := hL
        have HC := Lib.hid (letter_of l1 l2)
        have q1 : decide ((97 : Int) ≤ ((byteAt s k).toNat : Int)) = true := decide_eq_true (by omega)
        have q2 : decide (((byteAt s k).toNat : Int) ≤ 122) = true := decide_eq_true (by omega)
        have q3 : decide ((48 : Int) ≤ ((byteAt s k).toNat : Int)) = true := decide_eq_true (by omega)
        have q4 : decide (((byteAt s k).toNat : Int) ≤ 57) = false := decide_eq_false (by omega)
        go_quiet (fail)
        go_wp2_with fail
        go_roundw
        case rel => exact ⟨k + 1, by omega, by go_num, good_succ HG.out (char_letter HC.out), fun _ => if h0 : k = 0 then by have := HC.out; rw [h0] at this; exact this else HFk.out (by omega), _, rfl⟩
        case measure => simp [intOf]; omega
      · have HN : Hid (letterB (byteAt s k) = false) := letter_not (by omega)
        by_cases hz : k = 0
        · have hz' : ((k : Int) == 0) = true := eq0_t (by omega)
          have HZ := Lib.hid hz
          clear hz
          rcases (by omega : (byteAt s k).toNat < 48 ∨ (48 ≤ (byteAt s k).toNat ∧ (byteAt s k).toNat ≤ 57) ∨ (57 < (byteAt s k).toNat ∧ (byteAt s k).toNat < 97) ∨ 122 < (byteAt s k).toNat) with d | ⟨d, d'⟩ | ⟨d, d'⟩ | d
          · have q1 : decide ((97 : Int) ≤ ((byteAt s k).toNat : Int)) = false := decide_eq_false (by omega)
            have q2 : decide (((byteAt s k).toNat : Int) ≤ 122) = true := decide_eq_true (by omega)
            have q3 : decide ((48 : Int) ≤ ((byteAt s k).toNat : Int)) = false := decide_eq_false (by omega)
            have q4 : decide (((byteAt s k).toNat : Int) ≤ 57) = true := decide_eq_true (by omega)
            go_quiet (fail)
            go_wp2_with fail
            go_ret
            exact ⟨ret_bool (H0.out (HZ.out ▸ HN.out)).symm, _, rfl⟩
          · have q1 : decide ((97 : Int) ≤ ((byteAt s k).toNat : Int)) = false := decide_eq_false (by omega)
            have q2 : decide (((byteAt s k).toNat : Int) ≤ 122) = true := decide_eq_true (by omega)
            have q3 : decide ((48 : Int) ≤ ((byteAt s k).toNat : Int)) = true := decide_eq_true (by omega)
            have q4 : decide (((byteAt s k).toNat : Int) ≤ 57) = true := decide_eq_true (by omega)
            go_quiet (fail)
            go_wp2_with fail
            go_ret
            exact ⟨ret_bool (H0.out (HZ.out ▸ HN.out)).symm, _, rfl⟩
          · have q1 : decide ((97 : Int) ≤ ((byteAt s k).toNat : Int)) = false := decide_eq_false (by omega)
            have q2 : decide (((byteAt s k).toNat : Int) ≤ 122) = true := decide_eq_true (by omega)
            have q3 : decide ((48 : Int) ≤ ((byteAt s k).toNat : Int)) = true := decide_eq_true (by omega)
            have q4 : decide (((byteAt s k).toNat : Int) ≤ 57) = false := decide_eq_false (by omega)
            go_quiet (fail)
            go_wp2_with fail
            go_ret
            exact ⟨ret_bool (H0.out (HZ.out ▸ HN.out)).symm, _, rfl⟩
          · have q1 : decide ((97 : Int) ≤ ((byteAt s k).toNat : Int)) = true := decide_eq_true (by omega)
            have q2 : decide (((byteAt s k).toNat : Int) ≤ 122) = false := decide_eq_false (by omega)
            have q3 : decide ((48 : Int) ≤ ((byteAt s k).toNat : Int)) = true := decide_eq_true (by omega)
            have q4 : decide (((byteAt s k).toNat : Int) ≤ 57) = false := decide_eq_false (by omega)
            go_quiet (fail)
            go_wp2_with fail
            go_ret
            exact ⟨ret_bool (H0.out (HZ.out ▸ HN.out)).symm, _, rfl⟩
        · have hz' : ((k : Int) == 0) = false := eq0_f (by omega)
          have hz2 : 0 < k := by omega
          clear hz
          by_cases hD : 48 ≤ (byteAt s k).toNat ∧ (byteAt s k).toNat ≤ 57
          · obtain ⟨d1, d2⟩ := hD
            have HC := Lib.hid (char_digit d1 d2)
            have q1 : decide ((97 : Int) ≤ ((byteAt s k).toNat : Int)) = false := decide_eq_false (by omega)
            have q2 : decide (((byteAt s k).toNat : Int) ≤ 122) = true := decide_eq_true (by omega)
            have q3 : decide ((48 : Int) ≤ ((byteAt s k).toNat : Int)) = true := decide_eq_true (by omega)
            have q4 : decide (((byteAt s k).toNat : Int) ≤ 57) = true := decide_eq_true (by omega)
            go_quiet (fail)
            go_wp2_with fail
            go_roundw
            case rel => exact ⟨k + 1, by omega, by go_num, good_succ HG.out HC.out, fun _ => HFk.out hz2, _, rfl⟩
            case measure => simp [intOf]; omega
          · by_cases h45 : (byteAt s k).toNat = 45
            · have HC := Lib.hid (char_hyphen h45)
              have h45' := bne45_f h45
              have q1 : decide ((97 : Int) ≤ ((byteAt s k).toNat : Int)) = false := decide_eq_false (by omega)
              have q2 : decide (((byteAt s k).toNat : Int) ≤ 122) = true := decide_eq_true (by omega)
              have q3 : decide ((48 : Int) ≤ ((byteAt s k).toNat : Int)) = false := decide_eq_false (by omega)
              have q4 : decide (((byteAt s k).toNat : Int) ≤ 57) = true := decide_eq_true (by omega)
              clear h45
              go_quiet (fail)
              go_wp2_with fail
              go_roundw
              case rel => exact ⟨k + 1, by omega, by go_num, good_succ HG.out HC.out, fun _ => HFk.out hz2, _, rfl⟩
              case measure => simp [intOf]; omega
            · have HC := Lib.hid (char_bad HN.out (by omega) h45)
              have h45' := bne45_t h45
              clear h45
              rcases (by omega : (byteAt s k).toNat < 48 ∨ (57 < (byteAt s k).toNat ∧ (byteAt s k).toNat < 97) ∨ 122 < (byteAt s k).toNat) with d | ⟨d, d'⟩ | d
              · have q1 : decide ((97 : Int) ≤ ((byteAt s k).toNat : Int)) = false := decide_eq_false (by omega)
                have q2 : decide (((byteAt s k).toNat : Int) ≤ 122) = true := decide_eq_true (by omega)
                have q3 : decide ((48 : Int) ≤ ((byteAt s k).toNat : Int)) = false := decide_eq_false (by omega)
                have q4 : decide (((byteAt s k).toNat : Int) ≤ 57) = true := decide_eq_true (by omega)
                go_quiet (fail)
                go_wp2_with fail
                go_ret
                exact ⟨ret_bool (HB.out k hlt HC.out).symm, _, rfl⟩
              · have q1 : decide ((97 : Int) ≤ ((byteAt s k).toNat : Int)) = false := decide_eq_false (by omega)
                have q2 : decide (((byteAt s k).toNat : Int) ≤ 122) = true := decide_eq_true (by omega)
                have q3 : decide ((48 : Int) ≤ ((byteAt s k).toNat : Int)) = true := decide_eq_true (by omega)
                have q4 : decide (((byteAt s k).toNat : Int) ≤ 57) = false := decide_eq_false (by omega)
                go_quiet (fail)
                go_wp2_with fail
                go_ret
                exact ⟨ret_bool (HB.out k hlt HC.out).symm, _, rfl⟩
              · have q1 : decide ((97 : Int) ≤ ((byteAt s k).toNat : Int)) = true := decide_eq_true (by omega)
                have q2 : decide (((byteAt s k).toNat : Int) ≤ 122) = false := decide_eq_false (by omega)
                have q3 : decide ((48 : Int) ≤ ((byteAt s k).toNat : Int)) = true := decide_eq_true (by omega)
                have q4 : decide (((byteAt s k).toNat : Int) ≤ 57) = false := decide_eq_false (by omega)
                go_quiet (fail)
                go_wp2_with fail
                go_ret
                exact ⟨ret_bool (HB.out k hlt HC.out).symm, _, rfl⟩
    · have HK : Hid (k = s.size) := by unfold Hid; omega
      have hl := HFk.out (by omega)
      have HLt := Lib.hid hl
      clear hl
      by_cases h45 : (byteAt s (s.size - 1)).toNat = 45
      · have HE := Lib.hid (HL.out h45)
        have h45' := bne45_f h45
        clear h45
        go_wp2_with fail
        go_ret
        exact ⟨ret_bool HE.out.symm, _, rfl⟩
      · have HE := Lib.hid (HF.out HLt.out h45 (HK.out ▸ HG.out))
        have h45' := bne45_t h45
        clear h45
        go_wp2_with fail
        go_ret
        exact ⟨ret_bool HE.out.symm, _, rfl⟩
end Go.Proofs.Ytgjfidknedojbaa
