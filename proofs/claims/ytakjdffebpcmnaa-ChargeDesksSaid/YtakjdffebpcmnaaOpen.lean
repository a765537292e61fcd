/- How the laws' arguments are opened: payments, a bank, calls, flags. -/
import Derived.Test.YtakjdffebpcmnaaFlat
import Derived.Test.YtakjdffebpcmnaaPure
namespace Go.Proofs.Ytakjdffebpcmnaa
open Go.ChangeShapes Go.WideShapes Go.ChangeAt Go.RowKit Go.Deep
abbrev O5 := Int × P3 × Int
def encO (o : O5) : List Value := [.int .i64 o.1, .int .i64 o.2.1.1, .int .i64 o.2.1.2.1, .int .i64 o.2.1.2.2, .int .i64 o.2.2]
def cellsO (l : List O5) : List Value := l.flatMap encO
theorem encO_len (o : O5) : (encO o).length = 5 := rfl
section
variable {H : Type} {enc : TypeId × Value → H} {W : World} {b0 : Nat} {v : Value} {d : DataW H} {p : List MemPlace}
theorem open_pay (hv : Value.okWide Try.prog W .any b0 23 v) (h : DataW.Trod enc Try.prog W 0 (fun _ => true) true 23 v d p) : ∃ a b c : Int, v = .agg #[.int .i64 a, .int .i64 b, .int .i64 c] := by
  obtain ⟨cs, rfl, hl, hf⟩ := open_flat (k := 4) (ts := [3, 3, 3]) Try.underlying23 (by kernel_rfl) hv h
  obtain ⟨a, h0, _⟩ := hf.int 0 rfl Try.underlying3
  obtain ⟨b, h1, _⟩ := hf.int 1 rfl Try.underlying3
  obtain ⟨c, h2, _⟩ := hf.int 2 rfl Try.underlying3
  obtain rfl := list3 hl h0 h1 h2
  exact ⟨a, b, c, rfl⟩
theorem rows_pay {A : Option Addr} {n : Nat} {row : Nat → List Value} (h1 : Reads W W.heap.size 3 A n ((List.range n).flatMap row)) (h4 : ∀ i, (row i).length = 3) (h5 : ∀ i, i < n → FlatAt enc Try.prog W 0 (fun _ => true) true [3, 3, 3] (row i) 0) : ∃ l : List P3, Reads W W.heap.size 3 A n (cellsP l) := by
  obtain ⟨l, _, hl2, _⟩ := rows_recs (enc := encP) (Q := fun _ => True) (row := row) (n := n) fun i hi => by
    obtain ⟨a, h0, _⟩ := (h5 i hi).int 0 rfl Try.underlying3
    obtain ⟨b, h1, _⟩ := (h5 i hi).int 1 rfl Try.underlying3
    obtain ⟨c, h2, _⟩ := (h5 i hi).int 2 rfl Try.underlying3
    exact ⟨(a, b, c), list3 (h4 i) h0 h1 h2, trivial⟩
  rw [hl2] at h1
  exact ⟨l, h1⟩
theorem open_pays (hv : Value.okWide Try.prog W .any b0 30 v) (h : DataW.Trod enc Try.prog W 0 (fun _ => true) true 30 v d p) :
    ∃ (A : Option Addr) (n c : Nat) (l : List P3), v = .slice A n c ∧ Reads W W.heap.size 3 A n (cellsP l) ∧ n ≤ c ∧ c ≤ maxLen := by
  obtain ⟨A, n, c, row, rfl, h1, h2, h3, h4, h5⟩ := open_flat_recs (k := 4) (ts := [3, 3, 3]) Try.underlying30 (by kernel_rfl) (by kernel_rfl) (by decide) hv h
  obtain ⟨l, hl⟩ := rows_pay h1 h4 h5
  exact ⟨A, n, c, l, rfl, hl, h2, h3⟩
theorem open_bank (hv : Value.okWide Try.prog W .any b0 51 v) (h : DataW.Trod enc Try.prog W 0 (fun _ => true) true 51 v d p) :
    ∃ (A : Option Addr) (n c : Nat) (l : List P3), v = .agg #[.slice A n c] ∧ Reads W W.heap.size 3 A n (cellsP l) ∧ n ≤ c ∧ c ≤ maxLen := by
  obtain ⟨cs, rfl, hl, hf⟩ := open_flat (k := 4) (ts := [30]) Try.underlying51 (by kernel_rfl) hv h
  obtain ⟨A, n, c, row, h0, h1, h2, h3, h4, h5⟩ := hf.recs 0 rfl Try.underlying30 (k := 4) (ts' := [3, 3, 3]) (by kernel_rfl) (by kernel_rfl) (by decide)
  obtain ⟨l, hl'⟩ := rows_pay h1 h4 h5
  obtain rfl := list1 hl h0
  exact ⟨A, n, c, l, rfl, hl', h2, h3⟩
theorem open_op (hv : Value.okWide Try.prog W .any b0 37 v) (h : DataW.Trod enc Try.prog W 0 (fun _ => true) true 37 v d p) : ∃ k a b c e : Int, v = .agg #[.int .i64 k, .int .i64 a, .int .i64 b, .int .i64 c, .int .i64 e] := by
  obtain ⟨cs, rfl, hl, hf⟩ := open_flat (k := 4) (ts := [3, 3, 3, 3, 26]) Try.underlying37 (by kernel_rfl) hv h
  obtain ⟨k, h0, _⟩ := hf.int 0 rfl Try.underlying3
  obtain ⟨a, h1, _⟩ := hf.int 1 rfl Try.underlying3
  obtain ⟨b, h2, _⟩ := hf.int 2 rfl Try.underlying3
  obtain ⟨c, h3, _⟩ := hf.int 3 rfl Try.underlying3
  obtain ⟨e, h4, _⟩ := hf.int 4 rfl Try.underlying26
  obtain rfl := list5 hl h0 h1 h2 h3 h4
  exact ⟨k, a, b, c, e, rfl⟩
theorem open_ops (hv : Value.okWide Try.prog W .any b0 33 v) (h : DataW.Trod enc Try.prog W 0 (fun _ => true) true 33 v d p) :
    ∃ (A : Option Addr) (n c : Nat) (l : List O5), v = .slice A n c ∧ Reads W W.heap.size 5 A n (cellsO l) ∧ n ≤ c ∧ c ≤ maxLen ∧ ∀ o ∈ l, (Lit.int .i64 o.2.1.1).wf = true := by
  obtain ⟨A, n, c, row, rfl, h1, h2, h3, h4, h5⟩ := open_flat_recs (k := 4) (ts := [3, 3, 3, 3, 26]) Try.underlying33 (by kernel_rfl) (by kernel_rfl) (by decide) hv h
  obtain ⟨l, _, hl2, hq⟩ := rows_recs (enc := encO) (Q := fun o => (Lit.int .i64 o.2.1.1).wf = true) (row := row) (n := n) fun i hi => by
    obtain ⟨k, h0, _⟩ := (h5 i hi).int 0 rfl Try.underlying3
    obtain ⟨a, h1, hw⟩ := (h5 i hi).int 1 rfl Try.underlying3
    obtain ⟨b, h2, _⟩ := (h5 i hi).int 2 rfl Try.underlying3
    obtain ⟨c, h3, _⟩ := (h5 i hi).int 3 rfl Try.underlying3
    obtain ⟨e, h6, _⟩ := (h5 i hi).int 4 rfl Try.underlying26
    exact ⟨(k, (a, b, c), e), list5 (h4 i) h0 h1 h2 h3 h6, hw⟩
  rw [hl2] at h1
  exact ⟨A, n, c, l, rfl, h1, h2, h3, hq⟩
theorem open_flags (hv : Value.okWide Try.prog W .any b0 59 v) (h : DataW.Trod enc Try.prog W 0 (fun _ => true) true 59 v d p) :
    ∃ (A : Option Addr) (n c : Nat) (l : List Bool), v = .slice A n c ∧ Reads W W.heap.size 1 A n (l.map Value.bool) ∧ n ≤ c ∧ c ≤ maxLen := by
  obtain ⟨A, n, c, row, rfl, h1, h2, h3, h4, h5⟩ := open_flat_recs (k := 4) (ts := [4]) Try.underlying59 (by kernel_rfl) (by kernel_rfl) (by decide) hv h
  obtain ⟨l, _, hl2, _⟩ := rows_recs (enc := fun b => [Value.bool b]) (Q := fun _ => True) (row := row) (n := n) fun i hi => by
    obtain ⟨k, h0⟩ := (h5 i hi).bool 0 rfl Try.underlying4
    exact ⟨k, list1 (h4 i) h0, trivial⟩
  rw [hl2] at h1
  refine ⟨A, n, c, l, rfl, ?_, h2, h3⟩
  have : ∀ l : List Bool, (l.flatMap fun b => [Value.bool b]) = l.map Value.bool := fun l => by
    induction l with
    | nil => rfl
    | cons b l ih => rw [List.flatMap_cons, ih]; rfl
  rw [this] at h1
  exact h1
end
end Go.Proofs.Ytakjdffebpcmnaa
