/- How the law's pair of radii is opened. -/
import Derived.Test.YtgjfidknedojbaaTenOpen
namespace Go.Proofs.Ytgjfidknedojbaa
open Go.ChangeShapes Go.WideShapes Go.ChangeAt Go.RowKit Go.Deep
section
variable {H : Type} {enc : TypeId × Value → H} {W : World} {b0 : Nat} {v : Value} {d : DataW H} {p : List MemPlace}
theorem open_pair (hv : Value.okWide Try.prog W .any b0 46 v) (h : DataW.Trod enc Try.prog W 0 (fun _ => true) true 46 v d p) : ∃ a : Int × Int, v = .agg #[.int .i64 a.1, .int .i64 a.2] := by
  obtain ⟨cs, rfl⟩ : ∃ cs : Array Value, v = .agg cs := by
    have hv' := hv
    simp only [Value.okWide, Try.underlying46] at hv'
    obtain ⟨cs, h, _⟩ := hv'
    exact ⟨cs, h⟩
  obtain ⟨fuel, hf⟩ := h
  have ht := flat_trod 4 46 [3, 3] (by kernel_rfl) _ _ _ hf
  obtain ⟨cs', hcs, hl, hfl⟩ : ∃ cs' : List Value, cs = cs'.toArray ∧ cs'.length = 2 ∧ FlatAt enc Try.prog W 0 (fun _ => true) true [3, 3] cs' 0 := ⟨cs.toList, by simp, ht.1, ht.2⟩
  obtain ⟨a, h0, _⟩ := hfl.int 0 rfl Try.underlying3
  obtain ⟨b, h1, _⟩ := hfl.int 1 rfl Try.underlying3
  obtain rfl := list2 hl h0 h1
  exact ⟨(a, b), by rw [hcs]⟩
end
end Go.Proofs.Ytgjfidknedojbaa
