/- A posting that was handed in. -/
import Derived.Test.YtoammbjnejdgpaaLdP
import Derived.Test.YtoammbjnejdgpaaFlat
namespace Go.Proofs.Ytoammbjnejdgpaa
open Go.ChangeShapes Go.WideShapes Go.RowKit
section
variable {H : Type} {enc : TypeId × Value → H} {W : World} {b0 : Nat} {v : Value}
theorem open_pg {d p} (hv : Value.okWide Try.prog W .any b0 45 v) (h : DataW.Trod enc Try.prog W 0 (fun _ => true) true 45 v d p) : ∃ (id tm : Int) (A : Option Addr) (n c : Nat), v = .agg #[.int .i64 id, .int .i64 tm, .slice A n c] := by
  obtain ⟨cs, rfl, hl, hf⟩ := open_flat (k := 4) (ts := [3, 3, 43]) Try.underlying45 (by kernel_rfl) hv h
  obtain ⟨a0, g0, _⟩ := hf.int 0 rfl Try.underlying3
  obtain ⟨a1, g1, _⟩ := hf.int 1 rfl Try.underlying3
  obtain ⟨A, n, c, row, g2, _⟩ := hf.recs (k := 4) (ts' := [3, 3]) 2 rfl Try.underlying43 (by kernel_rfl) (by kernel_rfl) (by decide)
  obtain rfl := list3 hl g0 g1 g2
  exact ⟨a0, a1, A, n, c, rfl⟩
end
end Go.Proofs.Ytoammbjnejdgpaa
