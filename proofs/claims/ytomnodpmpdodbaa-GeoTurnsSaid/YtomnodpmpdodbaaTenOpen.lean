/- How the laws' arguments are opened: points, polygons. -/
import Derived.Test.YtomnodpmpdodbaaFlat
import Derived.Test.YtomnodpmpdodbaaGeoPure
namespace Go.Proofs.Ytomnodpmpdodbaa
open Go.ChangeShapes Go.WideShapes Go.ChangeAt Go.RowKit Go.Deep
section
variable {H : Type} {enc : TypeId × Value → H} {W : World} {b0 : Nat} {v : Value} {d : DataW H} {p : List MemPlace}
theorem open_pt (hv : Value.okWide Try.prog W .any b0 23 v) (h : DataW.Trod enc Try.prog W 0 (fun _ => true) true 23 v d p) : ∃ a : Pt, v = aggP a := by
  obtain ⟨cs, rfl, hl, hf⟩ := open_flat (k := 4) (ts := [3, 3]) Try.underlying23 (by kernel_rfl) hv h
  obtain ⟨a, h0, _⟩ := hf.int 0 rfl Try.underlying3
  obtain ⟨b, h1, _⟩ := hf.int 1 rfl Try.underlying3
  obtain rfl := list2 hl h0 h1
  exact ⟨(a, b), rfl⟩
theorem open_poly (hv : Value.okWide Try.prog W .any b0 28 v) (h : DataW.Trod enc Try.prog W 0 (fun _ => true) true 28 v d p) :
    ∃ (A : Option Addr) (n c : Nat) (l : List Pt), v = .slice A n c ∧ Reads W W.heap.size 2 A n (cellsPt l) ∧ n ≤ c ∧ c ≤ maxLen := by
  obtain ⟨A, n, c, row, rfl, h1, h2, h3, h4, h5⟩ := open_flat_recs (k := 4) (ts := [3, 3]) Try.underlying28 (by kernel_rfl) (by kernel_rfl) (by decide) hv h
  obtain ⟨l, _, hl2, _⟩ := rows_recs (enc := encPt) (Q := fun _ => True) (row := row) (n := n) fun i hi => by
    obtain ⟨a, h0, _⟩ := (h5 i hi).int 0 rfl Try.underlying3
    obtain ⟨b, h1, _⟩ := (h5 i hi).int 1 rfl Try.underlying3
    exact ⟨(a, b), list2 (h4 i) h0 h1, trivial⟩
  rw [hl2] at h1
  exact ⟨A, n, c, l, rfl, h1, h2, h3⟩
end
end Go.Proofs.Ytomnodpmpdodbaa
