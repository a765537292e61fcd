/- Two rows of the call's own that are appended to in one statement whose order is open: what holds of both at every moment. -/
import Derived.Test.YtomnodpmpdodbaaBase
namespace Go.Proofs.Ytomnodpmpdodbaa
open Go.RowKit
/-- Two slices own rows in new blocks, apart from each other; the old memory is as it was. -/
def Two (B : Nat) (v0 w : World) (tx sx : Nat) (VX : Value) (nx : Nat) (xs : List Value) (ty sy : Nat) (VY : Value) (ny : Nat) (ys : List Value) : Prop :=
  Below B v0 w ∧ B ≤ w.heap.size ∧ w.ownsRow B tx sx VX nx xs ∧ w.ownsRow B ty sy VY ny ys ∧ ∀ g, VX.ownBlock = some g → VY.ownBlock ≠ some g
section
variable {B : Nat} {v0 w w' : World} {tx sx nx ty sy ny nx' ny' : Nat} {VX VY VX' VY' : Value} {xs ys xs' ys' : List Value}
theorem Two.below (T : Two B v0 w tx sx VX nx xs ty sy VY ny ys) : Below B v0 w := T.1
theorem Two.base (T : Two B v0 w tx sx VX nx xs ty sy VY ny ys) : B ≤ w.heap.size := T.2.1
theorem Two.ownX (T : Two B v0 w tx sx VX nx xs ty sy VY ny ys) : w.ownsRow B tx sx VX nx xs := T.2.2.1
theorem Two.ownY (T : Two B v0 w tx sx VX nx xs ty sy VY ny ys) : w.ownsRow B ty sy VY ny ys := T.2.2.2.1
theorem Two.drew (T : Two B v0 w tx sx VX nx xs ty sy VY ny ys) : Two B v0 w.drew tx sx VX nx xs ty sy VY ny ys := ⟨⟨T.1.os, T.1.tape, T.1.output, T.1.size, T.1.block⟩, T.2⟩
theorem Two.alloc (T : Two B v0 w tx sx VX nx xs ty sy VY ny ys) (o : Obj) : Two B v0 (w.alloc o) tx sx VX nx xs ty sy VY ny ys :=
  ⟨T.1.alloc T.2.1 o, by have := T.2.1; simp; omega, T.ownX.alloc o, T.ownY.alloc o, T.2.2.2.2⟩
theorem Two.ltX (T : Two B v0 w tx sx VX nx xs ty sy VY ny ys) : ∀ g, VX.ownBlock = some g → g < w.heap.size := fun g hg => (T.ownX.lt g hg).2
theorem Two.ltY (T : Two B v0 w tx sx VX nx xs ty sy VY ny ys) : ∀ g, VY.ownBlock = some g → g < w.heap.size := fun g hg => (T.ownY.lt g hg).2
theorem Two.left (T : Two B v0 w tx sx VX nx xs ty sy VY ny ys) (h : w'.ownsRow B tx sx VX' nx' xs') (hg : w.grownBy w' VX.ownBlock) (hat : VX'.ownBlock = VX.ownBlock ∨ VX'.ownBlock = some w.heap.size) : Two B v0 w' tx sx VX' nx' xs' ty sy VY ny ys := by
  refine ⟨below_own T.1 T.ownX hg T.2.1 (Nat.le_refl _), Nat.le_trans T.2.1 hg.size, h, T.ownY.kept hg ?_, fun g h1 h2 => ?_⟩
  · rcases hv : VX.ownBlock with _ | g
    · cases hy : VY.ownBlock with
      | none => exact .inl rfl
      | some k => exact .inr (by simp)
    · exact .inr (T.2.2.2.2 g hv)
  · rcases hat with e | e
    · exact T.2.2.2.2 g (e ▸ h1) h2
    · rw [e] at h1; injection h1 with h1; have := T.ltY g h2; omega
theorem Two.right (T : Two B v0 w tx sx VX nx xs ty sy VY ny ys) (h : w'.ownsRow B ty sy VY' ny' ys') (hg : w.grownBy w' VY.ownBlock) (hat : VY'.ownBlock = VY.ownBlock ∨ VY'.ownBlock = some w.heap.size) : Two B v0 w' tx sx VX nx xs ty sy VY' ny' ys' := by
  refine ⟨below_own T.1 T.ownY hg T.2.1 (Nat.le_refl _), Nat.le_trans T.2.1 hg.size, T.ownX.kept hg ?_, h, fun g h1 h2 => ?_⟩
  · rcases hv : VX.ownBlock with _ | g
    · exact .inl rfl
    · exact .inr fun e => T.2.2.2.2 g hv e.symm
  · rcases hat with e | e
    · exact T.2.2.2.2 g h1 (e ▸ h2)
    · rw [e] at h2; injection h2 with h2; have := T.ltX g h1; omega
end
/-- A new block of one element, behind an append to a row in another block. -/
theorem Reads.grownU {w w' : World} {u size : Nat} {news : List Value} {row : Option Nat} (h : Reads w (u + 1) size (some ⟨u, 0, none⟩) 1 news) (hg : w.grownBy w' row) (hu : u < w.heap.size) (hr : ∀ g, row = some g → g < u) : Reads w' (u + 1) size (some ⟨u, 0, none⟩) 1 news :=
  ⟨h.1, fun hn => by
    obtain ⟨ad, e, hb, hc⟩ := h.2 hn
    injection e with e
    subst e
    exact ⟨_, rfl, hb, fun j v hv => (World.cell?_of_block (hg.block _ (by rw [block_of_add]; exact hu) (fun e' => by
      have := hr _ e'.symm
      rw [block_of_add] at this
      exact Nat.lt_irrefl _ this))).trans (hc j v hv)⟩⟩
theorem Reads.grownA2 {u w' : World} {o o' : Obj} {size : Nat} {news : List Value} {row : Option Nat} (h : Reads ((u.alloc o).alloc o') (u.heap.size + 1 + 1) size (some ⟨u.heap.size + 1, 0, none⟩) 1 news) (hg : ((u.alloc o).alloc o').grownBy w' row) (hr : ∀ g, row = some g → g < u.heap.size) : Reads w' (u.heap.size + 1 + 1) size (some ⟨u.heap.size + 1, 0, none⟩) 1 news :=
  h.grownU hg (by simp) fun g e => Nat.lt_succ_of_lt (hr g e)
theorem Reads.grownA1 {u w' : World} {o o' : Obj} {size : Nat} {news : List Value} {row : Option Nat} (h : Reads ((u.alloc o).alloc o') (u.heap.size + 1) size (some ⟨u.heap.size, 0, none⟩) 1 news) (hg : ((u.alloc o).alloc o').grownBy w' row) (hr : ∀ g, row = some g → g < u.heap.size) : Reads w' (u.heap.size + 1) size (some ⟨u.heap.size, 0, none⟩) 1 news :=
  h.grownU hg (by simp; omega) hr
theorem Reads.grownD2 {u w' : World} {o o' : Obj} {size : Nat} {news : List Value} {row : Option Nat} (h : Reads ((u.alloc o).alloc o') (u.heap.size + 1 + 1) size (some ⟨u.heap.size + 1, 0, none⟩) 1 news) (hg : ((u.alloc o).alloc o').drew.grownBy w' row) (hr : ∀ g, row = some g → g < u.heap.size) : Reads w' (u.heap.size + 1 + 1) size (some ⟨u.heap.size + 1, 0, none⟩) 1 news :=
  Reads.grownA2 h ⟨hg.os, hg.tape, hg.output, hg.size, hg.block⟩ hr
theorem Reads.grownD1 {u w' : World} {o o' : Obj} {size : Nat} {news : List Value} {row : Option Nat} (h : Reads ((u.alloc o).alloc o') (u.heap.size + 1) size (some ⟨u.heap.size, 0, none⟩) 1 news) (hg : ((u.alloc o).alloc o').drew.grownBy w' row) (hr : ∀ g, row = some g → g < u.heap.size) : Reads w' (u.heap.size + 1) size (some ⟨u.heap.size, 0, none⟩) 1 news :=
  Reads.grownA1 h ⟨hg.os, hg.tape, hg.output, hg.size, hg.block⟩ hr
theorem Reads.alloc1 {u : World} {o : Obj} {size : Nat} {news : List Value} (h : Reads (u.alloc o) (u.heap.size + 1) size (some ⟨u.heap.size, 0, none⟩) 1 news) (o' : Obj) : Reads ((u.alloc o).alloc o') (u.heap.size + 1) size (some ⟨u.heap.size, 0, none⟩) 1 news :=
  h.alloc (by simp) o'
theorem Reads.fresh1 (w : World) (t : TypeId) (cs : Array Value) (size : Nat) (h : cs.size = 1 * size) : Reads (w.alloc (.cells cs t)) (w.heap.size + 1) size (some ⟨w.heap.size, 0, none⟩) 1 cs.toList := Reads.fresh w t cs 1 size h
theorem Reads.fresh2 (w : World) (o : Obj) (t : TypeId) (cs : Array Value) (size : Nat) (h : cs.size = 1 * size) : Reads ((w.alloc o).alloc (.cells cs t)) (w.heap.size + 1 + 1) size (some ⟨w.heap.size + 1, 0, none⟩) 1 cs.toList := by
  have := Reads.fresh (w.alloc o) t cs 1 size h
  simpa using this
end Go.Proofs.Ytomnodpmpdodbaa
