/- How the laws' arguments are opened: lots, takes, calls. -/
import Derived.Test.YthbmofijdhfeeaaFlat
import Derived.Test.YthbmofijdhfeeaaPure
namespace Go.Proofs.Ythbmofijdhfeeaa
open Go.ChangeShapes Go.WideShapes Go.ChangeAt Go.RowKit Go.Deep
abbrev Op5 := Int × L4
def encO (o : Op5) : List Value := [.int .u8 o.1, .int .i64 o.2.1, .int .i64 o.2.2.1, .int .i64 o.2.2.2.1, .int .i64 o.2.2.2.2]
def cellsO (l : List Op5) : List Value := l.flatMap encO
theorem encO_len (o : Op5) : (encO o).length = 5 := rfl
section
variable {H : Type} {enc : TypeId × Value → H} {W : World} {b0 : Nat} {v : Value} {d : DataW H} {p : List MemPlace}
theorem open_lot (hv : Value.okWide Try.prog W .any b0 47 v) (h : DataW.Trod enc Try.prog W 0 (fun _ => true) true 47 v d p) : ∃ a b c e : Int, v = .agg #[.int .i64 a, .int .i64 b, .int .i64 c, .int .i64 e] ∧ (Lit.int .i64 a).wf = true := by
  obtain ⟨cs, rfl, hl, hf⟩ := open_flat (k := 4) (ts := [3, 3, 3, 3]) Try.underlying47 (by kernel_rfl) hv h
  obtain ⟨a, h0, hw⟩ := hf.int 0 rfl Try.underlying3
  obtain ⟨b, h1, _⟩ := hf.int 1 rfl Try.underlying3
  obtain ⟨c, h2, _⟩ := hf.int 2 rfl Try.underlying3
  obtain ⟨e, h3, _⟩ := hf.int 3 rfl Try.underlying3
  obtain rfl := list4 hl h0 h1 h2 h3
  exact ⟨a, b, c, e, rfl, hw⟩
theorem open_take (hv : Value.okWide Try.prog W .any b0 58 v) (h : DataW.Trod enc Try.prog W 0 (fun _ => true) true 58 v d p) : ∃ a b : Int, v = .agg #[.int .i64 a, .int .i64 b] := by
  obtain ⟨cs, rfl, hl, hf⟩ := open_flat (k := 4) (ts := [3, 3]) Try.underlying58 (by kernel_rfl) hv h
  obtain ⟨a, h0, _⟩ := hf.int 0 rfl Try.underlying3
  obtain ⟨b, h1, _⟩ := hf.int 1 rfl Try.underlying3
  obtain rfl := list2 hl h0 h1
  exact ⟨a, b, rfl⟩
theorem open_lots (hv : Value.okWide Try.prog W .any b0 22 v) (h : DataW.Trod enc Try.prog W 0 (fun _ => true) true 22 v d p) :
    ∃ (A : Option Addr) (n c : Nat) (l : List L4), v = .slice A n c ∧ Reads W W.heap.size 4 A n (cellsL l) ∧ n ≤ c ∧ c ≤ maxLen := by
  obtain ⟨A, n, c, row, rfl, h1, h2, h3, h4, h5⟩ := open_flat_recs (k := 4) (ts := [3, 3, 3, 3]) Try.underlying22 (by kernel_rfl) (by kernel_rfl) (by decide) hv h
  obtain ⟨l, _, hl2, _⟩ := rows_recs (enc := encL) (Q := fun _ => True) (row := row) (n := n) fun i hi => by
    obtain ⟨a, h0, _⟩ := (h5 i hi).int 0 rfl Try.underlying3
    obtain ⟨b, h1, _⟩ := (h5 i hi).int 1 rfl Try.underlying3
    obtain ⟨c, h2, _⟩ := (h5 i hi).int 2 rfl Try.underlying3
    obtain ⟨e, h3, _⟩ := (h5 i hi).int 3 rfl Try.underlying3
    exact ⟨(a, b, c, e), list4 (h4 i) h0 h1 h2 h3, trivial⟩
  rw [hl2] at h1
  exact ⟨A, n, c, l, rfl, h1, h2, h3⟩
theorem open_ops (hv : Value.okWide Try.prog W .any b0 42 v) (h : DataW.Trod enc Try.prog W 0 (fun _ => true) true 42 v d p) :
    ∃ (A : Option Addr) (n c : Nat) (l : List Op5), v = .slice A n c ∧ Reads W W.heap.size 5 A n (cellsO l) ∧ n ≤ c ∧ c ≤ maxLen ∧ ∀ o ∈ l, (Lit.int .i64 o.2.1).wf = true := by
  obtain ⟨A, n, c, row, rfl, h1, h2, h3, h4, h5⟩ := open_flat_recs (k := 4) (ts := [5, 3, 3, 3, 3]) Try.underlying42 (by kernel_rfl) (by kernel_rfl) (by decide) hv h
  obtain ⟨l, _, hl2, hq⟩ := rows_recs (enc := encO) (Q := fun o => (Lit.int .i64 o.2.1).wf = true) (row := row) (n := n) fun i hi => by
    obtain ⟨k, h0, _⟩ := (h5 i hi).int 0 rfl Try.underlying5
    obtain ⟨a, h1, hw⟩ := (h5 i hi).int 1 rfl Try.underlying3
    obtain ⟨b, h2, _⟩ := (h5 i hi).int 2 rfl Try.underlying3
    obtain ⟨c, h3, _⟩ := (h5 i hi).int 3 rfl Try.underlying3
    obtain ⟨e, h6, _⟩ := (h5 i hi).int 4 rfl Try.underlying3
    exact ⟨(k, a, b, c, e), list5 (h4 i) h0 h1 h2 h3 h6, hw⟩
  rw [hl2] at h1
  exact ⟨A, n, c, l, rfl, h1, h2, h3, hq⟩
end
end Go.Proofs.Ythbmofijdhfeeaa
