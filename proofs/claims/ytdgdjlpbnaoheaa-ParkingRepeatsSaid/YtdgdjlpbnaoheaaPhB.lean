/- Rotations and the numbers of bits. -/
import Derived.Test.YtdgdjlpbnaoheaaGeoPure
import Derived.Test.YtdgdjlpbnaoheaaFrame
import Derived.Test.YtdgdjlpbnaoheaaPhPop
namespace Go.Proofs.Ytdgdjlpbnaoheaa
open Go.RowKit
def rotZ (x k : Int) : Int := bits .or .u64 (IntKind.u64.wrap (x * 2 ^ k.toNat)) (x / 2 ^ (64 - k).toNat)
theorem u64_in {n : Int} (h0 : 0 ≤ n) (h1 : n < 2 ^ 64) : IntKind.u64.wrap n = n := by simp [IntKind.wrap, IntKind.bits, IntKind.signed]; omega
theorem ones_any (x : Nat) (w : World) (hx : x < 18446744073709551616) : Calls Try.prog 77 #[.int .u64 x] w fun e w' => e = .returned (.int .i64 (cnt x.testBit 64 : Nat)) ∧ w' = w := by
  go_enter Try.func77, Try.ntmps77
  go_wp2_with fail
  have h := swI_eq hx
  simp only [swI] at h
  rw [IntWalk.i64_left] at h
  go_ret
  exact ⟨ret_int h, rfl⟩
theorem apart_any (a b : Nat) (x : Int) (w : World) (ha : a < 18446744073709551616) (hb : b < 18446744073709551616) (hx : (apartN a b : Int) = x) : Calls Try.prog 53 #[.int .u64 a, .int .u64 b] w fun e w' => e = .returned (.int .i64 x) ∧ w' = w := by
  subst hx
  have f1 := bits_xor_u64_nat a b ha hb
  have hlt : a ^^^ b < 18446744073709551616 := Nat.xor_lt_two_pow (n := 64) ha hb
  have HX := Lib.hid (apart_xor a b)
  go_enter Try.func53, Try.ntmps53
  go_wp2_with fail
  refine (ones_any (a ^^^ b) _ hlt).mono ?_
  rintro e w1 ⟨rfl, rfl⟩
  go_wp2_with fail
  go_ret
  exact ⟨ret_int (by rw [HX.out]), rfl⟩
theorem bit_int (a k : Nat) : ((a : Int) / 2 ^ k).tmod 2 = if a.testBit k = true then 1 else 0 := by
  rw [Nat.testBit_eq_decide_div_mod_eq]
  have e : ((a : Int) / 2 ^ k) = ((a / 2 ^ k : Nat) : Int) := by rw [Int.natCast_ediv, Int.natCast_pow]; rfl
  rw [e, Int.tmod_eq_emod_of_nonneg (Int.natCast_nonneg _)]
  by_cases h : a / 2 ^ k % 2 = 1
  · rw [if_pos (by simp [h])]; omega
  · rw [if_neg (by simp [h])]; omega
theorem bit_ne (a b k : Nat) : (((a : Int) / 2 ^ k).tmod 2 != ((b : Int) / 2 ^ k).tmod 2) = (a.testBit k != b.testBit k) := by
  rw [bit_int, bit_int]
  cases a.testBit k <;> cases b.testBit k <;> rfl
set_option maxHeartbeats 1000000 in
theorem rpapart_any (a b : Nat) (x : Int) (w : World) (hx : (apartN a b : Int) = x) : Calls Try.prog 57 #[.int .u64 a, .int .u64 b] w fun e w' => e = .returned (.int .i64 x) ∧ ∃ n, w' = w.drewN n := by
  have HX := Lib.hid hx
  clear hx
  go_enter Try.func57, Try.ntmps57
  go_wp2_with fail
  go_loopw [5, 6] (fun s5 s6 wr => ∃ (k m q : Nat), k ≤ 64 ∧ s6 = .int .i64 k ∧ s5 = .int .i64 m ∧ m ≤ k ∧ Hid (cnt (fun i => a.testBit i != b.testBit i) k = m) ∧ wr = w.drewN q) (fun _ s _ => 64 - (intOf s).toNat)
  case atStart => exact ⟨0, 0, 0, by decide, rfl, rfl, Nat.le_refl _, Lib.hid rfl, rfl⟩
  case round =>
    obtain ⟨k, m, q, hk, rfl, rfl, hm, HC, rfl⟩ := hrel
    by_cases hlt : k < 64
    · have hk0 : (0 : Int) ≤ k := by omega
      have hk1 : (k : Int) < 64 := by omega
      have hbit := bit_ne a b k
      have f0 : ((k : Int)).toNat = k := by omega
      rcases hv : (a.testBit k != b.testBit k) with _ | _
      · rw [hv] at hbit
        have HV : Hid (cnt (fun i => a.testBit i != b.testBit i) (k + 1) = m) := Lib.hid (by show cnt _ k + (if (a.testBit k != b.testBit k) = true then 1 else 0) = m; rw [HC.out, hv]; rfl)
        clear hv
        go_wp2_with fail
        go_quiet (fail)
        go_wp2_with fail
        go_roundw
        case rel => exact ⟨k + 1, m, _, by omega, by go_num, rfl, by omega, HV, rfl⟩
        case measure => simp [intOf]; omega
      · rw [hv] at hbit
        have HV : Hid (cnt (fun i => a.testBit i != b.testBit i) (k + 1) = m + 1) := Lib.hid (by show cnt _ k + (if (a.testBit k != b.testBit k) = true then 1 else 0) = m + 1; rw [HC.out, hv]; rfl)
        clear hv
        go_wp2_with fail
        go_quiet (fail)
        go_wp2_with fail
        go_roundw
        case rel => exact ⟨k + 1, m + 1, _, by omega, by go_num, by go_num, by omega, HV, rfl⟩
        case measure => simp [intOf]; omega
    · obtain rfl : k = 64 := by omega
      have HE : Hid ((m : Int) = x) := Lib.hid (by rw [← HX.out, ← HC.out]; rfl)
      go_wp2_with fail
      go_ret
      exact ⟨ret_int HE.out, _, rfl⟩
end Go.Proofs.Ytdgdjlpbnaoheaa
