/- The reference's code: its words are the program's. -/
import Derived.Test.YtpipojgfpilhdaaPhL
namespace Go.Proofs.Ytpipojgfpilhdaa
open Go.RowKit
/-- The word of a group, as the reference makes it. -/
def rwordF (xs : List Int) (g : Nat) : Nat → Int
  | 0 => 0
  | i + 1 => if 8 * g + i < xs.length then putB (rwordF xs g i) (uAt xs (8 * g + i)) i else if i = 7 then bits .or .u64 (rwordF xs g i) (IntKind.u64.wrap ((xs.length % 256 : Nat) * 72057594037927936)) else rwordF xs g i
theorem rword_in {xs : List Int} {g i : Nat} (h : 8 * g + i < xs.length) : rwordF xs g (i + 1) = putB (rwordF xs g i) (uAt xs (8 * g + i)) i := if_pos h
theorem rword_out {xs : List Int} {g i : Nat} (h : ¬ 8 * g + i < xs.length) (h7 : i ≠ 7) : rwordF xs g (i + 1) = rwordF xs g i := by
  show (if _ then _ else _) = _
  rw [if_neg h, if_neg h7]
theorem rword_end {xs : List Int} {g : Nat} (h : ¬ 8 * g + 7 < xs.length) : rwordF xs g 8 = bits .or .u64 (rwordF xs g 7) (IntKind.u64.wrap ((xs.length % 256 : Nat) * 72057594037927936)) := by
  rw [show (8 : Nat) = 7 + 1 from rfl, rwordF, if_neg h, if_pos rfl]
theorem rword_to {xs : List Int} {g : Nat} : ∀ {i : Nat}, 8 * g + i ≤ xs.length → rwordF xs g i = wordF (fun i => uAt xs (8 * g + i)) i
  | 0, _ => rfl
  | i + 1, h => by rw [rword_in (by omega), rword_to (by omega)]; rfl
theorem rword_past {xs : List Int} {g : Nat} (hg : g = xs.length / 8) : ∀ j, xs.length % 8 + j ≤ 7 → rwordF xs g (xs.length % 8 + j) = wordF (fun i => uAt xs (8 * g + i)) (xs.length % 8)
  | 0, _ => rword_to (by omega)
  | j + 1, h => by
    rw [← Nat.add_assoc, rword_out (by omega) (by omega), rword_past hg j (by omega)]
theorem rword_full {xs : List Int} {g : Nat} (h : g < xs.length / 8) : rwordF xs g 8 = wordAt xs g := rword_to (by omega)
theorem wrap_len (n : Nat) : IntKind.u64.wrap ((n % 256 : Nat) * 72057594037927936) = IntKind.u64.wrap ((n : Int) * 72057594037927936) := by
  rw [IntKind.wrap_u64, IntKind.wrap_u64]
  omega
theorem rword_last {xs : List Int} : rwordF xs (xs.length / 8) 8 = lastW xs := by
  have hlt : ¬ 8 * (xs.length / 8) + 7 < xs.length := by omega
  have h1 := rword_end hlt
  have h2 := rword_past (xs := xs) rfl (7 - xs.length % 8) (by omega)
  rw [show xs.length % 8 + (7 - xs.length % 8) = 7 by omega] at h2
  rw [h2, wrap_len] at h1
  exact h1
theorem sum_of (ka kb : Int) (xs : List Int) : sumV ka kb xs = endV (takeV (absorb xs (initV ka kb) (xs.length / 8)) (rwordF xs (xs.length / 8) 8)) := by rw [rword_last]; rfl
/-- All words, the last one too. -/
def rabs (xs : List Int) (v : V4) : Nat → V4
  | 0 => v
  | k + 1 => takeV (rabs xs v k) (rwordF xs k 8)
theorem rabs_to {xs : List Int} (v : V4) : ∀ {k : Nat}, k ≤ xs.length / 8 → rabs xs v k = absorb xs v k
  | 0, _ => rfl
  | k + 1, h => by
    show takeV (rabs xs v k) (rwordF xs k 8) = takeV (absorb xs v k) (wordAt xs k)
    rw [rabs_to v (by omega), rword_full (by omega)]
theorem rabs_sum (ka kb : Int) (xs : List Int) : sumV ka kb xs = endV (rabs xs (initV ka kb) (xs.length / 8 + 1)) := by
  rw [sum_of]
  show _ = endV (takeV (rabs xs _ _) _)
  rw [rabs_to _ (Nat.le_refl _)]
end Go.Proofs.Ytpipojgfpilhdaa
