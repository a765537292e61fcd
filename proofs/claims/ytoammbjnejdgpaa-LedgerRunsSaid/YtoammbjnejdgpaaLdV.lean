/- A script that was handed in. -/
import Derived.Test.YtoammbjnejdgpaaLdU
namespace Go.Proofs.Ytoammbjnejdgpaa
open Go.ChangeShapes Go.WideShapes Go.RowKit
section
variable {H : Type} {enc : TypeId × Value → H} {W : World} {b0 : Nat} {v : Value}
theorem open_script {d p} (hv : Value.okWide Try.prog W .any b0 40 v) (h : DataW.Trod enc Try.prog W 0 (fun _ => true) true 40 v d p) : ∃ (acc : Int) (A : Option Addr) (n c : Nat) (l : List Oc), v = .agg #[.int .i64 acc, .slice A n c] ∧ OsR W A n l ∧ n ≤ c ∧ c ≤ maxLen := by
  obtain ⟨cs, rfl, hl, hf⟩ := open_flat (k := 4) (ts := [3, 38]) Try.underlying40 (by kernel_rfl) hv h
  obtain ⟨a0, g0, _⟩ := hf.int 0 rfl Try.underlying3
  obtain ⟨A, n, c, row, g1, h1, h2, h3, h4, h5⟩ := hf.recs (k := 4) (ts' := [3, 3, 43, 3]) 1 rfl Try.underlying38 (by kernel_rfl) (by kernel_rfl) (by decide)
  obtain rfl := list2 hl g0 g1
  obtain ⟨l, hl1, hl2, hl3⟩ := rows_recs (enc := encOc) (Q := fun o : Oc => Reads W W.heap.size 2 o.A o.n (cellsLn o.ls)) (row := row) (n := n) fun i hi => by
    obtain ⟨a0, g0, _⟩ := (h5 i hi).int 0 rfl Try.underlying3
    obtain ⟨a1, g1, _⟩ := (h5 i hi).int 1 rfl Try.underlying3
    obtain ⟨A', n', c', row', g2, k1, k2, k3, k4, k5⟩ := (h5 i hi).recs (k := 4) (ts' := [3, 3]) 2 rfl Try.underlying43 (by kernel_rfl) (by kernel_rfl) (by decide)
    obtain ⟨a3, g3, _⟩ := (h5 i hi).int 3 rfl Try.underlying3
    obtain ⟨q, _, hq2, _⟩ := rows_recs (enc := encLn) (Q := fun _ : Ln => True) (row := row') (n := n') fun j hj => by
      obtain ⟨x, e0, _⟩ := (k5 j hj).int 0 rfl Try.underlying3
      obtain ⟨y, e1, _⟩ := (k5 j hj).int 1 rfl Try.underlying3
      exact ⟨(x, y), list2 (k4 j) e0 e1, trivial⟩
    rw [hq2] at k1
    exact ⟨⟨a0, a1, A', n', c', q, a3⟩, list4 (h4 i) g0 g1 g2 g3, k1⟩
  rw [hl2] at h1
  exact ⟨a0, A, n, c, l, rfl, ⟨h1, hl3⟩, h2, h3⟩
end
end Go.Proofs.Ytoammbjnejdgpaa
