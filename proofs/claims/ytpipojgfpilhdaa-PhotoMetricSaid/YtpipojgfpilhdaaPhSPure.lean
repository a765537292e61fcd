/- The enlarged photo: its pixels, and that its sums are four times the photo's. -/
import Derived.Test.YtpipojgfpilhdaaPhP
namespace Go.Proofs.Ytpipojgfpilhdaa
open Go.RowKit
theorem sumTo_two {f g : Nat → Int} {a : Nat} : ∀ {n : Nat}, (∀ i, i < n → g (2 * (a + i)) = f (a + i) ∧ g (2 * (a + i) + 1) = f (a + i)) → sumTo g (2 * a) (2 * n) = 2 * sumTo f a n
  | 0, _ => rfl
  | n + 1, h => by
    have h1 := h n (by omega)
    have ih := sumTo_two (n := n) fun i hi => h i (by omega)
    show sumTo g (2 * a) (2 * n) + g (2 * a + 2 * n) + g (2 * a + (2 * n + 1)) = 2 * (sumTo f a n + f (a + n))
    rw [show 2 * a + 2 * n = 2 * (a + n) by omega, show 2 * a + (2 * n + 1) = 2 * (a + n) + 1 by omega, h1.1, h1.2, ih]
    omega
theorem x0_two {W c : Nat} (h : W % 9 = 0) : x0 (2 * W) c = 2 * x0 W c := by
  unfold x0
  obtain ⟨q, rfl⟩ : ∃ q, W = 9 * q := ⟨W / 9, by omega⟩
  rw [show c * (2 * (9 * q)) = 9 * (2 * (c * q)) by grind, show c * (9 * q) = 9 * (c * q) by grind, Nat.mul_div_cancel_left _ (by decide), Nat.mul_div_cancel_left _ (by decide)]
theorem y0_two {H r : Nat} (h : H % 8 = 0) : y0 (2 * H) r = 2 * y0 H r := by
  unfold y0
  obtain ⟨q, rfl⟩ : ∃ q, H = 8 * q := ⟨H / 8, by omega⟩
  rw [show r * (2 * (8 * q)) = 8 * (2 * (r * q)) by grind, show r * (8 * q) = 8 * (r * q) by grind, Nat.mul_div_cancel_left _ (by decide), Nat.mul_div_cancel_left _ (by decide)]
theorem cellN_two {W H c r : Nat} (hW : W % 9 = 0) (hH : H % 8 = 0) : cellN (2 * W) (2 * H) c r = 4 * cellN W H c r := by
  unfold cellN
  rw [x0_two hW, x0_two hW, y0_two hH, y0_two hH, ← Nat.mul_sub, ← Nat.mul_sub]
  grind
def larL (px : List Int) (W k : Nat) : List Int := (List.range k).map fun i => uAt px (i / (2 * W) / 2 * W + i % (2 * W) / 2)
theorem larL_step (px : List Int) (W k : Nat) : larL px W (k + 1) = larL px W k ++ [uAt px (k / (2 * W) / 2 * W + k % (2 * W) / 2)] := by unfold larL; rw [List.range_succ, List.map_append]; rfl
theorem larL_at {px : List Int} {W k i : Nat} (h : i < k) : uAt (larL px W k) i = uAt px (i / (2 * W) / 2 * W + i % (2 * W) / 2) := by
  unfold larL
  rw [uAt_get (by simpa using h)]; simp
theorem larL_xy {px : List Int} {W H x y : Nat} (hx : x < 2 * W) (hy : y < 2 * H) : uAt (larL px W (2 * W * (2 * H))) (y * (2 * W) + x) = uAt px (y / 2 * W + x / 2) := by
  rw [larL_at (pix_lt hx hy)]
  have e1 : (y * (2 * W) + x) / (2 * W) = y := by rw [Nat.mul_comm y, Nat.mul_add_div (by omega), Nat.div_eq_of_lt hx, Nat.add_zero]
  have e2 : (y * (2 * W) + x) % (2 * W) = x := by rw [Nat.mul_comm y, Nat.mul_add_mod, Nat.mod_eq_of_lt hx]
  rw [e1, e2]
theorem pixRow_two {px : List Int} {W H c y : Nat} (hW : W % 9 = 0) (hc : c ≤ 8) (hy : y < 2 * H) : pixRow (larL px W (2 * W * (2 * H))) (2 * W) c y = 2 * pixRow px W c (y / 2) := by
  have hx := x0_max (W := W) (c := c + 1) (by omega)
  unfold pixRow
  rw [x0_two hW, x0_two hW, ← Nat.mul_sub]
  refine sumTo_two (f := fun x => uAt px (y / 2 * W + x)) (g := fun x => uAt (larL px W (2 * W * (2 * H))) (y * (2 * W) + x)) fun i hi => ⟨?_, ?_⟩
  · show uAt _ _ = uAt _ _
    rw [larL_xy (by omega) hy, show 2 * (x0 W c + i) / 2 = x0 W c + i by omega]
  · show uAt _ _ = uAt _ _
    rw [larL_xy (by omega) hy, show (2 * (x0 W c + i) + 1) / 2 = x0 W c + i by omega]
theorem sumTo_mul {f : Nat → Int} {a : Nat} (k : Int) : ∀ n : Nat, sumTo (fun i => k * f i) a n = k * sumTo f a n
  | 0 => by simp [sumTo]
  | n + 1 => by
    show sumTo (fun i => k * f i) a n + k * f (a + n) = k * (sumTo f a n + f (a + n))
    rw [sumTo_mul k n, Int.mul_add]
theorem cellS_two {px : List Int} {W H c r : Nat} (hW : W % 9 = 0) (hH : H % 8 = 0) (hc : c ≤ 8) (hr : r ≤ 7) : cellS (larL px W (2 * W * (2 * H))) (2 * W) (2 * H) c r = 4 * cellS px W H c r := by
  have hy := y0_max (H := H) (r := r + 1) (by omega)
  unfold cellS
  rw [y0_two hH, y0_two hH, ← Nat.mul_sub, sumTo_two (f := fun y => 2 * pixRow px W c y) fun i hi => ⟨?_, ?_⟩, sumTo_mul]
  · omega
  · rw [pixRow_two hW hc (by omega), show 2 * (y0 H r + i) / 2 = y0 H r + i by omega]
  · rw [pixRow_two hW hc (by omega), show (2 * (y0 H r + i) + 1) / 2 = y0 H r + i by omega]
theorem bit_two {px : List Int} {W H k : Nat} (hW : W % 9 = 0) (hH : H % 8 = 0) (hk : k < 64) : bitM (larL px W (2 * W * (2 * H))) (2 * W) (2 * H) k = bitM px W H k := by
  unfold bitM
  rw [cellS_two hW hH (by omega) (by omega), cellS_two hW hH (by omega) (by omega), cellN_two hW hH, cellN_two hW hH]
  generalize cellS px W H (k % 8) (k / 8) = s1
  generalize cellS px W H (k % 8 + 1) (k / 8) = s2
  generalize cellN W H (k % 8) (k / 8) = n1
  generalize cellN W H (k % 8 + 1) (k / 8) = n2
  rw [Int.natCast_mul, Int.natCast_mul, decide_eq_decide]
  have e1 : 4 * s1 * (((4 : Nat) : Int) * (n2 : Int)) = 16 * (s1 * n2) := by grind
  have e2 : 4 * s2 * (((4 : Nat) : Int) * (n1 : Int)) = 16 * (s2 * n1) := by grind
  rw [e1, e2]
  omega
end Go.Proofs.Ytpipojgfpilhdaa
