/- How the laws' arguments are opened: a list of spendings, a window, a ratio. -/
import Derived.Test.YtdfmngnhmiemgaaFrame
import Derived.Test.YtdfmngnhmiemgaaCheck
namespace Go.Proofs.Ytdfmngnhmiemgaa
open Go.ChangeShapes Go.WideShapes Go.ChangeAt Go.RowKit Go.Deep Go.Joins
section
variable {H : Type} {enc : TypeId × Value → H} {W : World} {b0 : Nat} {v : Value} {d : DataW H} {p : List MemPlace}
theorem open_sp (hv : Value.okWide Try.prog W .any b0 22 v) (h : DataW.Trod enc Try.prog W 0 (fun _ => true) true 22 v d p) :
    ∃ (A : Option Addr) (n c : Nat) (l : List Sp), v = .slice A n c ∧ Reads W W.heap.size 2 A n (cellsS l) ∧ n ≤ c ∧ c ≤ maxLen := by
  obtain ⟨A, n, c, row, rfl, h1, h2, h3, h4, h5⟩ := open_recs Try.underlying22 Try.underlying41 (by kernel_rfl) (by kernel_rfl) (by decide) hv h
  obtain ⟨l, _, hl2, _⟩ := rows_recs (enc := encS) (Q := fun _ => True) (row := row) (n := n) fun i hi => by
    obtain ⟨u0, e0, y0, k0, t0⟩ := h5 i hi 0 _ rfl
    obtain ⟨u1, e1, y1, k1, t1⟩ := h5 i hi 1 _ rfl
    obtain ⟨a, rfl, _⟩ := cell_int Try.underlying3 t0
    obtain ⟨b, rfl, _⟩ := cell_int Try.underlying3 t1
    refine ⟨(a, b), ?_, trivial⟩
    have hlen : (row i).length = 2 := h4 i
    match hr : row i, hlen with
    | [x, y], _ =>
      rw [hr] at e0 e1
      simp only [List.getElem?_cons_zero, List.getElem?_cons_succ, Option.some.injEq] at e0 e1
      rw [e0, e1]
      rfl
  rw [hl2] at h1
  exact ⟨A, n, c, l, rfl, h1, h2, h3⟩
theorem open_win (hv : Value.okWide Try.prog W .any b0 30 v) (h : DataW.Trod enc Try.prog W 0 (fun _ => true) true 30 v d p) : ∃ a b : Int, v = .agg #[.int .i64 a, .int .i64 b] := by
  obtain ⟨c0, c1, y0, y1, m, rfl, _, _, h0, h1⟩ := open_agg2 Try.underlying30 (by kernel_rfl) (by kernel_rfl) hv h
  obtain ⟨a, rfl, _⟩ := cell_int Try.underlying3 h0
  obtain ⟨b, rfl, _⟩ := cell_int Try.underlying3 h1
  exact ⟨a, b, rfl⟩
theorem open_ratio (hv : Value.okWide Try.prog W .any b0 36 v) (h : DataW.Trod enc Try.prog W 0 (fun _ => true) true 36 v d p) : ∃ a b : Int, v = .agg #[.int .i64 a, .int .i64 b] := by
  obtain ⟨c0, c1, y0, y1, m, rfl, _, _, h0, h1⟩ := open_agg2 Try.underlying36 (by kernel_rfl) (by kernel_rfl) hv h
  obtain ⟨a, rfl, _⟩ := cell_int Try.underlying3 h0
  obtain ⟨b, rfl, _⟩ := cell_int Try.underlying3 h1
  exact ⟨a, b, rfl⟩
end
end Go.Proofs.Ytdfmngnhmiemgaa
