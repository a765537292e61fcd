/- The statement's long(n), and the table that takes 512 of them. -/
import Derived.Test.YteifmkpibgjkoaaIdentTableWalk
namespace Go.Proofs.Yteifmkpibgjkoaa
open Go.RowKit

def longS (n : Nat) : ByteArray := ⟨#[110]⟩ ++ strOfNums [48 + (n : Int) / 100 % 10, 48 + (n : Int) / 10 % 10, 48 + (n : Int) % 10]
theorem longS_list (n : Nat) : (longS n).data.toList = [110, UInt8.ofNat (48 + n / 100 % 10), UInt8.ofNat (48 + n / 10 % 10), UInt8.ofNat (48 + n % 10)] := by
  have e : ∀ k : Nat, (48 + (k : Int) % 10).toNat = 48 + k % 10 := fun k => by omega
  have e1 : (48 + (n : Int) / 100 % 10).toNat = 48 + n / 100 % 10 := by have := e (n / 100); simpa using this
  have e2 : (48 + (n : Int) / 10 % 10).toNat = 48 + n / 10 % 10 := by have := e (n / 10); simpa using this
  have e3 := e n
  unfold longS strOfNums
  simp only [ByteArray.data_append, Array.toList_append, List.map_cons, List.map_nil, e1, e2, e3]
  rfl
theorem longS_size (n : Nat) : (longS n).size = 4 := by
  have : (longS n).data.toList.length = 4 := by rw [longS_list]; rfl
  simpa using this
theorem byte_inj {a b : Nat} (ha : a < 10) (hb : b < 10) (h : UInt8.ofNat (48 + a) = UInt8.ofNat (48 + b)) : a = b := by
  have := congrArg UInt8.toNat h
  simp at this
  omega
theorem longS_inj {m n : Nat} (hm : m < 1000) (hn : n < 1000) (h : longS m = longS n) : m = n := by
  have h' := congrArg (fun s : ByteArray => s.data.toList) h
  simp only [longS_list, List.cons.injEq, and_true, true_and] at h'
  have h1 := byte_inj (Nat.mod_lt _ (by omega)) (Nat.mod_lt _ (by omega)) h'.1
  have h2 := byte_inj (Nat.mod_lt _ (by omega)) (Nat.mod_lt _ (by omega)) h'.2.1
  have h3 := byte_inj (Nat.mod_lt _ (by omega)) (Nat.mod_lt _ (by omega)) h'.2.2
  omega
theorem byteAt_long (n i : Nat) : byteAt (longS n) i = [110, UInt8.ofNat (48 + n / 100 % 10), UInt8.ofNat (48 + n / 10 % 10), UInt8.ofNat (48 + n % 10)].getD i 0 := by rw [byteAt, longS_list]
theorem digit_char {a : Nat} (ha : a < 10) : charB (UInt8.ofNat (48 + a)) = true := by
  apply char_digit
  · simp; omega
  · simp; omega
theorem longS_valid (n : Nat) : validS (longS n) = true := by
  refine valid_ok (by rw [longS_size]; omega) (by rw [longS_size]; omega) ?_ ?_ ?_
  · rw [byteAt_long]; exact (by decide : letterB 110 = true)
  · rw [longS_size, byteAt_long]
    simp
    omega
  · rw [longS_size]
    intro i hi
    rw [byteAt_long]
    match i, hi with
    | 0, _ => exact (by decide : charB 110 = true)
    | 1, _ => exact digit_char (Nat.mod_lt _ (by omega))
    | 2, _ => exact digit_char (Nat.mod_lt _ (by omega))
    | 3, _ => exact digit_char (Nat.mod_lt _ (by omega))
def longs (k : Nat) : List ByteArray := (List.range k).map longS
theorem longs_len (k : Nat) : (longs k).length = k := by simp [longs]
theorem longs_get (k i : Nat) (h : i < k) : (longs k)[i]'(by rw [longs_len]; exact h) = longS i := by simp [longs]
theorem longs_succ (k : Nat) : longs (k + 1) = longs k ++ [longS k] := by simp [longs, List.range_succ]
theorem longs_pos {k i : Nat} (hk : k ≤ 512) (hi : i < k) : posOf (longs k) (longS i) = some i := by
  refine posOf_some (by rw [longs_len]; exact hi) (by rw [longs_get k i hi]; exact eqS_refl _) fun j hj => ?_
  rw [longs_get k j (by omega), Bool.eq_false_iff]
  intro e
  rw [eqS_iff] at e
  have := longS_inj (by omega) (by omega) e
  omega
theorem longs_new {k : Nat} (hk : k < 512) : posOf (longs k) (longS k) = none := by
  refine posOf_none fun j hj => ?_
  rw [longs_len] at hj
  rw [longs_get k j hj, Bool.eq_false_iff]
  intro e
  rw [eqS_iff] at e
  have := longS_inj (by omega) (by omega) e
  omega
theorem longs_add {k : Nat} (hk : k < 512) : addE (longs k) (longS k) = 0 := addE_ok (longS_valid k) (longs_new hk) (by rw [longs_len]; exact hk)

set_option maxHeartbeats 400000 in
set_option maxRecDepth 10000 in
theorem long_any (n : Nat) (hn : n < 1000) (w : World) :
    Calls Try.prog 22 #[.int .i64 n] w fun e w' => e = .returned (.string (longS n)) ∧ Below w.heap.size w w' := by
  have hconv := run_convert_bytes_arg (P := Try.prog) (w.alloc (.cells #[.int .u8 (48 + (n : Int) / 100 % 10), .int .u8 (48 + (n : Int) / 10 % 10), .int .u8 (48 + (n : Int) % 10)] 5)) 49 5 Try.underlying49 Try.underlying5 w.heap.size 0 3 3 [48 + (n : Int) / 100 % 10, 48 + (n : Int) / 10 % 10, 48 + (n : Int) % 10] rfl (by
    intro i hi
    rw [show (⟨w.heap.size, 0 + i, none⟩ : Addr) = ⟨w.heap.size, i, none⟩ from by rw [Nat.zero_add]]
    rw [(Blk.new w 5 _).cell i]
    match i, hi with
    | 0, _ => rfl
    | 1, _ => rfl
    | 2, _ => rfl) 9 Try.underlying9
  have hsz : (strOfNums [48 + (n : Int) / 100 % 10, 48 + (n : Int) / 10 % 10, 48 + (n : Int) % 10]).size ≤ 3 := Nat.le_refl _
  go_enter Try.func22, Try.ntmps22
  go_wp2_with fail
  go_ret
  exact ⟨rfl, (Below.refl _ _).alloc (Nat.le_refl _) _⟩
end Go.Proofs.Yteifmkpibgjkoaa
