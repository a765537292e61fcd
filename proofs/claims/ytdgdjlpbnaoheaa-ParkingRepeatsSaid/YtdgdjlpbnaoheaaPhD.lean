/- The cells of a photo: their sums and numbers; the reference's walk. -/
import Derived.Test.YtdgdjlpbnaoheaaPhC
namespace Go.Proofs.Ytdgdjlpbnaoheaa
open Go.RowKit
def sumTo (f : Nat → Int) (a : Nat) : Nat → Int
  | 0 => 0
  | n + 1 => sumTo f a n + f (a + n)
theorem sumTo_bd {f : Nat → Int} {B : Int} (hf : ∀ i, 0 ≤ f i ∧ f i ≤ B) (a : Nat) : ∀ n : Nat, 0 ≤ sumTo f a n ∧ sumTo f a n ≤ B * n
  | 0 => by simp [sumTo]
  | n + 1 => by
    have h1 := sumTo_bd hf a n
    have h2 := hf (a + n)
    show 0 ≤ sumTo f a n + f (a + n) ∧ sumTo f a n + f (a + n) ≤ B * ((n + 1 : Nat) : Int)
    rw [Int.natCast_add, Int.mul_add]
    omega
theorem sumTo_congr {f g : Nat → Int} {a : Nat} : ∀ {n : Nat}, (∀ i, i < n → f (a + i) = g (a + i)) → sumTo f a n = sumTo g a n
  | 0, _ => rfl
  | n + 1, h => by
    show sumTo f a n + f (a + n) = sumTo g a n + g (a + n)
    rw [sumTo_congr fun i hi => h i (by omega), h n (by omega)]
/-- The first column of a column of cells; the first row of a row of cells. -/
def x0 (W c : Nat) : Nat := c * W / 9
def y0 (H r : Nat) : Nat := r * H / 8
def pixRow (px : List Int) (W c : Nat) (y : Nat) : Int := sumTo (fun x => uAt px (y * W + x)) (x0 W c) (x0 W (c + 1) - x0 W c)
def cellS (px : List Int) (W H c r : Nat) : Int := sumTo (pixRow px W c) (y0 H r) (y0 H (r + 1) - y0 H r)
def cellN (W H c r : Nat) : Nat := (y0 H (r + 1) - y0 H r) * (x0 W (c + 1) - x0 W c)
theorem x0_le (W c : Nat) : x0 W c ≤ x0 W (c + 1) := by unfold x0; rw [Nat.add_mul]; omega
theorem y0_le (H r : Nat) : y0 H r ≤ y0 H (r + 1) := by unfold y0; rw [Nat.add_mul]; omega
theorem x0_max {W c : Nat} (h : c ≤ 9) : x0 W c ≤ W := by
  unfold x0
  have : c * W ≤ 9 * W := Nat.mul_le_mul_right W h
  omega
theorem y0_max {H r : Nat} (h : r ≤ 8) : y0 H r ≤ H := by
  unfold y0
  have : r * H ≤ 8 * H := Nat.mul_le_mul_right H h
  omega
theorem pix_lt {W H x y : Nat} (hx : x < W) (hy : y < H) : y * W + x < W * H := by
  have : (y + 1) * W ≤ H * W := Nat.mul_le_mul_right W hy
  rw [Nat.add_mul] at this
  rw [Nat.mul_comm W H]
  omega
theorem pixRow_bd {px : List Int} (h : Bytes px) {W c : Nat} (hc : c ≤ 8) (hW : W ≤ 64) (y : Nat) : 0 ≤ pixRow px W c y ∧ pixRow px W c y ≤ 16320 := by
  have h1 := sumTo_bd (f := fun x => uAt px (y * W + x)) (B := 255) (fun i => h.at_ _) (x0 W c) (x0 W (c + 1) - x0 W c)
  have h2 := x0_max (W := W) (c := c + 1) (by omega)
  unfold pixRow
  omega
theorem cellS_bd {px : List Int} (h : Bytes px) {W H c r : Nat} (hc : c ≤ 8) (hr : r ≤ 7) (hW : W ≤ 64) (hH : H ≤ 64) : 0 ≤ cellS px W H c r ∧ cellS px W H c r ≤ 1044480 := by
  have h1 := sumTo_bd (f := pixRow px W c) (B := 16320) (fun i => pixRow_bd h hc hW i) (y0 H r) (y0 H (r + 1) - y0 H r)
  have h2 := y0_max (H := H) (r := r + 1) (by omega)
  unfold cellS
  omega
theorem cellN_bd {W H c r : Nat} (hc : c ≤ 8) (hr : r ≤ 7) (hW : W ≤ 64) (hH : H ≤ 64) : cellN W H c r ≤ 4096 := by
  have h1 := x0_max (W := W) (c := c + 1) (by omega)
  have h2 := y0_max (H := H) (r := r + 1) (by omega)
  unfold cellN
  exact Nat.mul_le_mul (show _ ≤ 64 by omega) (show _ ≤ 64 by omega)
theorem ph_dims {p : Ph} (h : pcheckZ p = 0) : ∃ W H : Nat, p.W = (W : Int) ∧ p.H = (H : Int) ∧ 9 ≤ W ∧ W ≤ 64 ∧ 9 ≤ H ∧ H ≤ 64 ∧ p.n = W * H := by
  obtain ⟨_, _, _, _, g5, g6, g7, g8, g9⟩ := pcheck_inv h
  refine ⟨p.W.toNat, p.H.toNat, by omega, by omega, by omega, by omega, by omega, by omega, ?_⟩
  have e : ((p.W.toNat * p.H.toNat : Nat) : Int) = p.W * p.H := by rw [Int.natCast_mul, Int.toNat_of_nonneg (by omega), Int.toNat_of_nonneg (by omega)]
  omega
set_option maxHeartbeats 4000000 in
set_option maxRecDepth 10000 in
theorem rcell_core (ride tm : Int) (W H : Nat) (A : Option Addr) (n cc : Nat) (px : List Int) (c r : Nat) (s mm : Int) (w : World) (h : Reads w w.heap.size 1 A n (cellsU px)) (hby : Bytes px) (hW1 : 9 ≤ W) (hH1 : 9 ≤ H) (hW2 : W ≤ 64) (hH2 : H ≤ 64) (hn : n = W * H) (hc : c ≤ 8) (hr : r ≤ 7) (hs : cellS px W H c r = s) (hm : (cellN W H c r : Int) = mm) : Calls Try.prog 33 #[.agg #[.int .i64 ride, .int .i64 tm, .int .i64 (W : Int), .int .i64 (H : Int), .slice A n cc], .int .i64 c, .int .i64 r] w (RetII w s mm) := by
  have HN := Lib.hid hn
  have hwh : 81 ≤ W * H ∧ W * H ≤ 4096 := ⟨Nat.mul_le_mul (show 9 ≤ W from hW1) (show 9 ≤ H from hH1), Nat.mul_le_mul (show W ≤ 64 from hW2) (show H ≤ 64 from hH2)⟩
  have hpos : 0 < n := by omega
  have hn2 : n ≤ 4096 := by omega
  have HRA : Hid (∀ u, Below w.heap.size w u → Reads u u.heap.size 1 A n (cellsU px)) := Lib.hid fun u hu => (h.below hu).more hu.size
  obtain ⟨b, off, rfl, _, _⟩ := u_cells h hpos
  obtain ⟨kk, hK⟩ := box1K w 46 #[.int .i64 ride, .int .i64 tm, .int .i64 (W : Int), .int .i64 (H : Int), .slice (some ⟨b, off, none⟩) n cc]
  have HK := Lib.hid hK
  clear hK
  obtain ⟨B0, hbb⟩ := HK.out _ kk
  have c00 := B0.cell 0
  have c01 := B0.cell 1
  have c02 := B0.cell 2
  have c03 := B0.cell 3
  have c04 := B0.cell 4
  have HB := Lib.hid hbb
  clear B0 hbb
  have HBY := Lib.hid hby
  have HS := Lib.hid hs; have HM := Lib.hid hm
  have HBB := Lib.hid HB.out
  obtain ⟨b', off', hbo, _, hcell⟩ := u_cells (HRA.out _ HB.out) hpos
  obtain ⟨rfl, rfl⟩ : b = b' ∧ off = off' := by simpa using hbo
  have HCELL := Lib.hid hcell
  clear h hn hwh hs hm HB hbo hcell
  -- the bounds of the rows and columns
  obtain ⟨a0, ha0⟩ : ∃ a, r * H = a := ⟨_, rfl⟩
  obtain ⟨a1, ha1⟩ : ∃ a, (r + 1) * H = a := ⟨_, rfl⟩
  obtain ⟨b0, hb0⟩ : ∃ a, c * W = a := ⟨_, rfl⟩
  obtain ⟨b1, hb1⟩ : ∃ a, (c + 1) * W = a := ⟨_, rfl⟩
  have fa0 : (r : Int) * (H : Int) = (a0 : Int) := by rw [← ha0, Int.natCast_mul]
  have fa1 : ((r : Int) + 1) * (H : Int) = (a1 : Int) := by rw [← ha1, Int.natCast_mul]; rfl
  have fb0 : (c : Int) * (W : Int) = (b0 : Int) := by rw [← hb0, Int.natCast_mul]
  have fb1 : ((c : Int) + 1) * (W : Int) = (b1 : Int) := by rw [← hb1, Int.natCast_mul]; rfl
  have la1 : a1 ≤ 8 * H := by rw [← ha1]; exact Nat.mul_le_mul_right H (by omega)
  have lb1 : b1 ≤ 9 * W := by rw [← hb1]; exact Nat.mul_le_mul_right W (by omega)
  have la0 : a0 ≤ a1 := by rw [← ha0, ← ha1]; exact Nat.mul_le_mul_right H (by omega)
  have lb0 : b0 ≤ b1 := by rw [← hb0, ← hb1]; exact Nat.mul_le_mul_right W (by omega)
  have HY0 : Hid (y0 H r = a0 / 8) := Lib.hid (by unfold y0; rw [ha0])
  have HY1 : Hid (y0 H (r + 1) = a1 / 8) := Lib.hid (by unfold y0; rw [ha1])
  have HX0 : Hid (x0 W c = b0 / 9) := Lib.hid (by unfold x0; rw [hb0])
  have HX1 : Hid (x0 W (c + 1) = b1 / 9) := Lib.hid (by unfold x0; rw [hb1])
  clear ha0 ha1 hb0 hb1
  go_enter Try.func33, Try.ntmps33
  go_wp2_with fail
  obtain ⟨nx, hnx⟩ : ∃ nx, b1 / 9 - b0 / 9 = nx := ⟨_, rfl⟩
  have lnx : nx ≤ 64 := by omega
  have HNX : Hid (x0 W (c + 1) - x0 W c = nx) := Lib.hid (by rw [HX0.out, HX1.out]; exact hnx)
  have HRB := Lib.hid (fun y => pixRow_bd HBY.out hc hW2 (y := y))
  go_loop [8, 9, 10] (fun s8 s9 s10 => ∃ (k : Nat) (t m : Int), k ≤ a1 / 8 - a0 / 8 ∧ s10 = .int .i64 ((a0 / 8 + k : Nat) : Int) ∧ s8 = .int .i64 t ∧ s9 = .int .i64 m ∧ 0 ≤ t ∧ t ≤ 16320 * k ∧ 0 ≤ m ∧ m ≤ 64 * k ∧ Hid (sumTo (pixRow px W c) (y0 H r) k = t) ∧ Hid (((k * nx : Nat) : Int) = m)) (fun _ _ s => a1 / 8 - (intOf s).toNat)
  case atStart => exact ⟨0, 0, 0, Nat.zero_le _, by simp, rfl, rfl, by omega, by omega, by omega, by omega, Lib.hid rfl, Lib.hid (by simp)⟩
  case round =>
    obtain ⟨k, t, m, hk, rfl, rfl, rfl, ht0, ht1, hm0, hm1, HT, HMM⟩ := hrel
    obtain ⟨y, hy⟩ : ∃ y, a0 / 8 + k = y := ⟨_, rfl⟩
    rw [hy]
    by_cases hlt : y < a1 / 8
    · have hi1 : (y : Int) < (a1 : Int) / 8 := by omega
      obtain ⟨my, hmy⟩ : ∃ a, y * W = a := ⟨_, rfl⟩
      have fmy : (y : Int) * (W : Int) = (my : Int) := by rw [← hmy, Int.natCast_mul]
      have lmy : my + W ≤ W * H := by
        have : (y + 1) * W ≤ H * W := Nat.mul_le_mul_right W (by omega)
        rw [Nat.add_mul, Nat.mul_comm H W] at this; omega
      have lwh : W * H ≤ 4096 := Nat.mul_le_mul (show W ≤ 64 from hW2) (show H ≤ 64 from hH2)
      have HY := Lib.hid hy; have HMY := Lib.hid hmy
      clear hy hmy
      go_wp2_with fail
      go_loop [8, 9, 11] (fun s8 s9 s11 => ∃ (j : Nat) (u : Int), j ≤ nx ∧ s11 = .int .i64 ((b0 / 9 + j : Nat) : Int) ∧ s8 = .int .i64 (t + u) ∧ s9 = .int .i64 (m + j) ∧ 0 ≤ u ∧ u ≤ 255 * j ∧ Hid (sumTo (fun x => uAt px (y * W + x)) (x0 W c) j = u)) (fun _ _ s => b1 / 9 - (intOf s).toNat)
      case atStart => exact ⟨0, 0, Nat.zero_le _, by simp, by simp, by simp, by omega, by omega, Lib.hid rfl⟩
      case round =>
        obtain ⟨j, u, hj, rfl, rfl, rfl, hu0, hu1, HU⟩ := hrel
        obtain ⟨x, hx⟩ : ∃ x, b0 / 9 + j = x := ⟨_, rfl⟩
        rw [hx]
        by_cases hltx : x < b1 / 9
        · have hi2 : (x : Int) < (b1 : Int) / 9 := by omega
          have e1 := HCELL.out (my + x) (by have := HN.out; omega)
          have hub := HBY.out.at_ (my + x)
          have hin1 : (my : Int) + (x : Int) < n := by have := HN.out; omega
          have hin0 : (0 : Int) ≤ (my : Int) + (x : Int) := by omega
          have htn : ((my : Int) + (x : Int)).toNat = my + x := by omega
          obtain ⟨v, hv⟩ : ∃ v, uAt px (my + x) = v := ⟨_, rfl⟩
          rw [hv] at e1 hub
          have HUU : Hid (sumTo (fun x => uAt px (y * W + x)) (x0 W c) (j + 1) = u + v) := Lib.hid (by
            show sumTo _ _ j + uAt px (y * W + (x0 W c + j)) = u + v
            rw [HU.out, HX0.out, hx, HMY.out, hv])
          have HX := Lib.hid hx
          clear hv hx
          go_wp2_with fail
          go_round
          case rel => exact ⟨j + 1, u + v, by have := HX.out; omega, by have := HX.out; go_num, by rw [Int.add_assoc], by go_num, by omega, by omega, HUU⟩
          case measure => simp [intOf]; omega
        · have hje : j = nx := by omega
          have HTT : Hid (sumTo (pixRow px W c) (y0 H r) (k + 1) = t + u) := Lib.hid (by
            show sumTo _ _ k + pixRow px W c (y0 H r + k) = t + u
            rw [HT.out, HY0.out, HY.out]
            congr 1
            unfold pixRow
            rw [HNX.out, ← hje]
            exact HU.out)
          have HTM : Hid ((((k + 1) * nx : Nat) : Int) = m + j) := Lib.hid (by rw [Nat.add_mul, Int.natCast_add, HMM.out, hje]; omega)
          have hi2 : ¬ ((x : Int) < (b1 : Int) / 9) := by omega
          clear hx hje
          go_wp2_with fail
          go_round
          case rel => exact ⟨k + 1, t + u, m + j, by have := HY.out; omega, by have := HY.out; go_num, rfl, rfl, by omega, by omega, by omega, by omega, HTT, HTM⟩
          case measure => simp [intOf]; omega
    · have hke : k = a1 / 8 - a0 / 8 := by omega
      have hi1 : ¬ ((y : Int) < (a1 : Int) / 8) := by omega
      have HES : Hid (t = s) := Lib.hid (by
        rw [← HS.out, ← HT.out]; unfold cellS; rw [HY0.out, HY1.out, ← hke])
      have HEM : Hid (m = mm) := Lib.hid (by
        rw [← HM.out, ← HMM.out]; unfold cellN; rw [HY0.out, HY1.out, HNX.out, ← hke])
      go_wp2_with fail
      go_ret2
      exact ⟨ret_ii HES.out HEM.out, HBB.out⟩
theorem rcell_any (p : Ph) (W H c r : Nat) (s m : Int) (w : World) (h : PR w p) (hW : p.W = (W : Int)) (hH : p.H = (H : Int)) (hW1 : 9 ≤ W) (hW2 : W ≤ 64) (hH1 : 9 ≤ H) (hH2 : H ≤ 64) (hn : p.n = W * H) (hc : c ≤ 8) (hr : r ≤ 7) (hs : cellS p.px W H c r = s) (hm : (cellN W H c r : Int) = m) : Calls Try.prog 33 #[aggF p, .int .i64 c, .int .i64 r] w (RetII w s m) := by
  have := rcell_core p.ride p.tm W H p.A p.n p.c p.px c r s m w h.1 h.2.1 hW1 hH1 hW2 hH2 hn hc hr hs hm
  rw [← hW, ← hH] at this
  exact this
end Go.Proofs.Ytdgdjlpbnaoheaa
