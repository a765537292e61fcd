/- Regions that draw their order, whose callees only read what lay there but make memory of their own: one walk in the order of the text serves every order. The class of worlds: all worlds in which the old memory is as it was. -/
import Derived.Test.YtomnodpmpdodbaaBase
import Derived.BigQuiet
namespace Go.Proofs.Ytomnodpmpdodbaa
open Go.RowKit
/-- A world behind w: what lay in w lies there still. -/
def Fam (w : World) : Type := { u : World // Below w.heap.size w u }
instance famNonempty (w : World) : Nonempty (Fam w) := ⟨⟨w, Below.refl _ _⟩⟩
def Fam.val {w : World} (z : Fam w) : World := z.1
theorem Fam.prop {w : World} (z : Fam w) : Below w.heap.size w z.val := z.2
theorem Fam.cell {w : World} (z : Fam w) {p : Addr} (h : p.block < w.heap.size) : z.val.cell? p = w.cell? p := z.2.cell h
theorem Fam.some_ {w : World} (z : Fam w) {p : Addr} {v : Value} (h : w.cell? p = some v) : z.val.cell? p = some v := (z.2.cell (World.block_lt_of_cell? w p h)).trans h
theorem Fam.blk {w : World} (z : Fam w) {g : Nat} {t : TypeId} {cs : Array Value} (h : Blk w g t cs) : Blk z.val g t cs := h.below z.2 h.lt
theorem Fam.reads {w : World} (z : Fam w) {size n : Nat} {A : Option Addr} {xs : List Value} (h : Reads w w.heap.size size A n xs) : Reads z.val z.val.heap.size size A n xs := (h.below z.2).more z.2.size
theorem wp_region_fam {P : Program} {id : Nat} {Q : Exit → Act → World → Prop} {a : Act} {w : World} {l : List Oper} (hm : P.follows .mixedOrders = true) (hB : Region.lexB .any l.toArray = true)
    (h : wpQuiet P l.toArray (fun w' => ∃ z : Fam w, w' = z.val) (fun a' => ∀ w', (∃ z : Fam w, w' = z.val) → Q .normal a' w') l a) : (Code.region id l.toArray true).wp P Q a w :=
  wp_region_quiet (C := fun w' => ∃ z : Fam w, w' = z.val) hm hB ⟨⟨w.drew, ⟨rfl, rfl, rfl, Nat.le_refl _, fun _ _ => rfl⟩⟩, rfl⟩ (by simpa using h)
/-- A callee's contract in such a world. -/
theorem fam_call {P : Program} {f : FuncId} {args : Array Value} {w : World} {z : Fam w} {v : Value} (h : Calls P f args z.val fun e w' => e = .returned v ∧ Below z.val.heap.size z.val w') :
    Calls P f args z.val fun e w'' => e = .returned v ∧ ∃ m : Fam w, w'' = m.val :=
  h.mono fun _ w'' ⟨he, hb⟩ => ⟨he, ⟨w'', z.2.trans (hb.mono z.2.size)⟩, rfl⟩
theorem fam_same {P : Program} {f : FuncId} {args : Array Value} {w : World} {z : Fam w} {v : Value} (h : Calls P f args z.val fun e w' => e = .returned v ∧ z.val = w') :
    Calls P f args z.val fun e w'' => e = .returned v ∧ ∃ m : Fam w, w'' = m.val :=
  h.mono fun _ _ ⟨he, hb⟩ => ⟨he, z, hb.symm⟩
end Go.Proofs.Ytomnodpmpdodbaa
