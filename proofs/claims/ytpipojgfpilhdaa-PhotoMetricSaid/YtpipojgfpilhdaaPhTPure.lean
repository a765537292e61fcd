/- The lightened photo: the same bits, the same use. -/
import Derived.Test.YtpipojgfpilhdaaPhSPure
namespace Go.Proofs.Ytpipojgfpilhdaa
open Go.RowKit
def litL (px : List Int) (by_ : Int) (k : Nat) : List Int := (px.take k).map fun b => b + by_
def litOk (px : List Int) (by_ : Int) : Bool := px.all fun b => decide (-255 ≤ by_ ∧ by_ ≤ 255 ∧ 0 ≤ b + by_ ∧ b + by_ ≤ 255)
theorem litL_step {px : List Int} {k : Nat} (y : Int) (h : k < px.length) : litL px y (k + 1) = litL px y k ++ [uAt px k + y] := by
  unfold litL; rw [List.take_succ_eq_append_getElem h, List.map_append, uAt_get h]; rfl
theorem litL_at {px : List Int} {y : Int} {i : Nat} (h : i < px.length) : uAt (litL px y px.length) i = uAt px i + y := by
  unfold litL
  rw [List.take_length, uAt_get (by simpa using h), uAt_get h]; simp
theorem litOk_at {px : List Int} {y : Int} (h : litOk px y = true) {k : Nat} (hk : k < px.length) : -255 ≤ y ∧ y ≤ 255 ∧ 0 ≤ uAt px k + y ∧ uAt px k + y ≤ 255 := by
  rw [uAt_get hk]
  exact of_decide_eq_true (List.all_eq_true.1 h _ (List.getElem_mem hk))
theorem litOk_bad {px : List Int} {y : Int} {k : Nat} (hk : k < px.length) (h : ¬ (-255 ≤ y ∧ y ≤ 255 ∧ 0 ≤ uAt px k + y ∧ uAt px k + y ≤ 255)) : litOk px y = false := by
  rcases hb : litOk px y with _ | _
  · rfl
  · exact absurd (litOk_at hb hk) h
theorem litOk_all {px : List Int} {y : Int} (h : ∀ k, k < px.length → -255 ≤ y ∧ y ≤ 255 ∧ 0 ≤ uAt px k + y ∧ uAt px k + y ≤ 255) : litOk px y = true := by
  refine List.all_eq_true.2 fun b hb => decide_eq_true ?_
  obtain ⟨k, hk, rfl⟩ := List.getElem_of_mem hb
  rw [← uAt_get hk]
  exact h k hk
theorem litL_bytes {px : List Int} {y : Int} (h : litOk px y = true) (k : Nat) : Bytes (litL px y k) := by
  intro b hb
  unfold litL at hb
  obtain ⟨a, ha, rfl⟩ := List.mem_map.mp hb
  obtain ⟨j, hj, rfl⟩ := List.getElem_of_mem (List.mem_of_mem_take ha)
  have := litOk_at h hj
  rw [uAt_get hj] at this
  omega
theorem sumTo_lit {f g : Nat → Int} {a : Nat} {c : Int} : ∀ {n : Nat}, (∀ i, i < n → g (a + i) = f (a + i) + c) → sumTo g a n = sumTo f a n + c * n
  | 0, _ => by simp [sumTo]
  | n + 1, h => by
    show sumTo g a n + g (a + n) = sumTo f a n + f (a + n) + c * ((n + 1 : Nat) : Int)
    rw [sumTo_lit fun i hi => h i (by omega), h n (by omega), Int.natCast_add, Int.mul_add]
    omega
theorem cellS_lit {px : List Int} {y : Int} {W H c r : Nat} (hl : px.length = W * H) (hc : c ≤ 8) (hr : r ≤ 7) : cellS (litL px y px.length) W H c r = cellS px W H c r + y * (cellN W H c r : Int) := by
  have hx := x0_max (W := W) (c := c + 1) (by omega)
  have hy := y0_max (H := H) (r := r + 1) (by omega)
  have row : ∀ z, z < H → pixRow (litL px y px.length) W c z = pixRow px W c z + y * ((x0 W (c + 1) - x0 W c : Nat) : Int) := fun z hz => by
    unfold pixRow
    refine sumTo_lit (f := fun x => uAt px (z * W + x)) (g := fun x => uAt (litL px y px.length) (z * W + x)) fun i hi => ?_
    exact litL_at (by rw [hl]; exact pix_lt (by omega) hz)
  unfold cellS
  rw [sumTo_lit (f := pixRow px W c) (c := y * ((x0 W (c + 1) - x0 W c : Nat) : Int)) fun i hi => row _ (by omega)]
  unfold cellN
  rw [Int.natCast_mul]
  congr 1
  rw [Int.mul_assoc, Int.mul_comm ((x0 W (c + 1) - x0 W c : Nat) : Int)]
theorem bit_lit {px : List Int} {y : Int} {W H k : Nat} (hl : px.length = W * H) (hk : k < 64) : bitM (litL px y px.length) W H k = bitM px W H k := by
  unfold bitM
  rw [cellS_lit hl (by omega) (by omega), cellS_lit hl (by omega) (by omega), decide_eq_decide]
  generalize cellS px W H (k % 8) (k / 8) = s1
  generalize cellS px W H (k % 8 + 1) (k / 8) = s2
  generalize cellN W H (k % 8) (k / 8) = n1
  generalize cellN W H (k % 8 + 1) (k / 8) = n2
  have e1 : (s1 + y * (n1 : Int)) * (n2 : Int) = s1 * n2 + y * n1 * n2 := by grind
  have e2 : (s2 + y * (n2 : Int)) * (n1 : Int) = s2 * n1 + y * n1 * n2 := by grind
  rw [e1, e2]
  omega
def litP (p : Ph) (y : Int) (A : Option Addr) (n c : Nat) : Ph := ⟨p.ride, p.tm, p.W, p.H, A, n, c, litL p.px y p.n⟩
theorem lit_check {p : Ph} {y : Int} {A : Option Addr} {c : Nat} : pcheckZ (litP p y A p.n c) = pcheckZ p := rfl
theorem lit_mark {p : Ph} {y : Int} {A : Option Addr} {c : Nat} (hl : p.px.length = p.n) : markN (litP p y A p.n c) = markN p := by
  unfold markN
  rw [lit_check]
  split
  · rename_i h
    obtain ⟨W, H, hW, hH, _, _, _, _, hn⟩ := ph_dims h
    refine markTo_congr fun i hi => ?_
    show bitM (litL p.px y p.n) p.W.toNat p.H.toNat i = bitM p.px p.W.toNat p.H.toNat i
    rw [← hl]
    have e1 : p.W.toNat = W := by omega
    have e2 : p.H.toNat = H := by omega
    rw [e1, e2]
    exact bit_lit (by omega) hi
  · rfl
theorem mx_lit (y : Int) : ∀ (l : List Int) (a : Int), (l.map fun b => b + y).foldl max (a + y) = l.foldl max a + y
  | [], _ => rfl
  | b :: l, a => by
    rw [List.map_cons, List.foldl_cons, List.foldl_cons, ← mx_lit y l]
    congr 1; omega
theorem mn_lit (y : Int) : ∀ (l : List Int) (a : Int), (l.map fun b => b + y).foldl min (a + y) = l.foldl min a + y
  | [], _ => rfl
  | b :: l, a => by
    rw [List.map_cons, List.foldl_cons, List.foldl_cons, ← mn_lit y l]
    congr 1; omega
theorem mxU_cons {b : Int} {l : List Int} (h : 0 ≤ b) : mxU (b :: l) = l.foldl max b := by
  unfold mxU; rw [List.foldl_cons, Int.max_eq_right h]
theorem mnU_cons {b : Int} {l : List Int} (h : b ≤ 255) : mnU (b :: l) = l.foldl min b := by
  unfold mnU; rw [List.foldl_cons, Int.min_eq_right h]
theorem lit_mm {px : List Int} {y : Int} (hb : Bytes px) (h : litOk px y = true) (h0 : 0 < px.length) : mxU (litL px y px.length) - mnU (litL px y px.length) = mxU px - mnU px := by
  match px, hb, h, h0 with
  | b :: l, hb, h, h0 =>
    have h1 := hb b (List.mem_cons_self ..)
    have h2 := litOk_at h h0
    rw [uAt_get h0] at h2
    have h2' : 0 ≤ b + y ∧ b + y ≤ 255 := h2.2.2
    have e : litL (b :: l) y (b :: l).length = (b + y) :: l.map fun b => b + y := by unfold litL; rw [List.take_length]; rfl
    rw [e, mxU_cons h2'.1, mnU_cons h2'.2, mxU_cons h1.1, mnU_cons h1.2, mx_lit, mn_lit]
    omega
theorem lit_usable {p : Ph} {y : Int} {A : Option Addr} {c : Nat} (hl : p.px.length = p.n) (hb : Bytes p.px) (h : litOk p.px y = true) : usableB (litP p y A p.n c) = usableB p := by
  unfold usableB
  rw [lit_check]
  by_cases hx : pcheckZ p = 0
  · have e : mxU (litP p y A p.n c).px - mnU (litP p y A p.n c).px = mxU p.px - mnU p.px := by
      show mxU (litL p.px y p.n) - mnU (litL p.px y p.n) = _
      rw [← hl]
      refine lit_mm hb h ?_
      obtain ⟨W, H, hW, hH, h1, _, h2, _, hn⟩ := ph_dims hx
      rw [hl, hn]
      exact Nat.mul_pos (by omega) (by omega)
    rw [e]
  · rw [decide_eq_false hx]; rfl
end Go.Proofs.Ytpipojgfpilhdaa
