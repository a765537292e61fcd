/- How the laws' arguments are opened: fences, photos, parked bicycles, points. -/
import Derived.Test.YtdgdjlpbnaoheaaPkL
import Derived.Test.YtdgdjlpbnaoheaaFlat
namespace Go.Proofs.Ytdgdjlpbnaoheaa
open Go.ChangeShapes Go.WideShapes Go.ChangeAt Go.RowKit Go.Deep
section
variable {H : Type} {enc : TypeId × Value → H} {W : World} {b0 : Nat} {v : Value} {d : DataW H} {p : List MemPlace}
theorem u8_wf {a : Int} (h : (Lit.int .u8 a).wf = true) : 0 ≤ a ∧ a ≤ 255 := by
  change (decide (0 ≤ a) && decide (a ≤ 255)) = true at h
  rw [Bool.and_eq_true] at h
  exact ⟨of_decide_eq_true h.1, of_decide_eq_true h.2⟩
theorem flat_u : ∀ l : List Int, l.flatMap (fun x : Int => [Value.int .u8 x]) = cellsU l
  | [] => rfl
  | x :: l => by
    have := flat_u l
    unfold cellsU at this ⊢
    rw [List.flatMap_cons, List.map_cons, this]; rfl
set_option maxRecDepth 100000 in
theorem open_photos (hv : Value.okWide Try.prog W .any b0 23 v) (h : DataW.Trod enc Try.prog W 0 (fun _ => true) true 23 v d p) :
    ∃ (A : Option Addr) (n c : Nat) (l : List Ph), v = .slice A n c ∧ PsR W A n l ∧ n ≤ c ∧ c ≤ maxLen := by
  obtain ⟨A, n, c, row, rfl, h1, h2, h3, h4, h5⟩ := open_flat_recs (k := 4) (ts := [3, 3, 3, 3, 44]) Try.underlying23 (by kernel_rfl) (by kernel_rfl) (by decide) hv h
  obtain ⟨l, hl1, hl2, hl3⟩ := rows_recs (enc := encF) (Q := fun z => PR W z) (row := row) (n := n) fun i hi => by
    obtain ⟨a0, g0, _⟩ := (h5 i hi).int 0 rfl Try.underlying3
    obtain ⟨a1, g1, _⟩ := (h5 i hi).int 1 rfl Try.underlying3
    obtain ⟨a2, g2, _⟩ := (h5 i hi).int 2 rfl Try.underlying3
    obtain ⟨a3, g3, _⟩ := (h5 i hi).int 3 rfl Try.underlying3
    obtain ⟨A', n', c', row', g4, k1, k2, k3, k4, k5⟩ := (h5 i hi).recs (k := 4) (ts' := [5]) 4 rfl Try.underlying44 (by kernel_rfl) (by kernel_rfl) (by decide)
    obtain ⟨q, _, hq2, hq3⟩ := rows_recs (enc := fun x : Int => [Value.int .u8 x]) (Q := fun x => 0 ≤ x ∧ x ≤ 255) (row := row') (n := n') fun j hj => by
      obtain ⟨x, e0, e1⟩ := (k5 j hj).int 0 rfl Try.underlying5
      exact ⟨x, list1 (k4 j) e0, u8_wf e1⟩
    rw [hq2] at k1
    have hcu : q.flatMap (fun x : Int => [Value.int .u8 x]) = cellsU q := flat_u _
    rw [hcu] at k1
    exact ⟨⟨a0, a1, a2, a3, A', n', c', q⟩, list5 (h4 i) g0 g1 g2 g3 g4, k1, hq3, Nat.le_trans k2 k3⟩
  rw [hl2] at h1
  exact ⟨A, n, c, l, rfl, ⟨h1, hl3, hl1⟩, h2, h3⟩
set_option maxRecDepth 100000 in
theorem open_fences (hv : Value.okWide Try.prog W .any b0 22 v) (h : DataW.Trod enc Try.prog W 0 (fun _ => true) true 22 v d p) :
    ∃ (A : Option Addr) (n c : Nat) (l : List Fc), v = .slice A n c ∧ FcR W A n l ∧ n ≤ c ∧ c ≤ maxLen := by
  obtain ⟨A, n, c, row, rfl, h1, h2, h3, h4, h5⟩ := open_flat_recs (k := 6) (ts := [3, 57, 3, 3, 3, 3]) Try.underlying22 (by kernel_rfl) (by kernel_rfl) (by decide) hv h
  obtain ⟨l, hl1, hl2, hl3⟩ := rows_recs (enc := encFc) (Q := fun f => Reads W W.heap.size 2 f.A f.n (cellsPt f.p) ∧ f.n ≤ 9223372036854775807) (row := row) (n := n) fun i hi => by
    obtain ⟨a0, g0, _⟩ := (h5 i hi).int 0 rfl Try.underlying3
    obtain ⟨A', n', c', row', g1, k1, k2, k3, k4, k5⟩ := (h5 i hi).recs (k := 4) (ts' := [3, 3]) 1 rfl Try.underlying57 (by kernel_rfl) (by kernel_rfl) (by decide)
    obtain ⟨a2, g2, _⟩ := (h5 i hi).int 2 rfl Try.underlying3
    obtain ⟨a3, g3, _⟩ := (h5 i hi).int 3 rfl Try.underlying3
    obtain ⟨a4, g4, _⟩ := (h5 i hi).int 4 rfl Try.underlying3
    obtain ⟨a5, g5, _⟩ := (h5 i hi).int 5 rfl Try.underlying3
    obtain ⟨q, _, hq2, _⟩ := rows_recs (enc := encPt) (Q := fun _ => True) (row := row') (n := n') fun j hj => by
      obtain ⟨a, e0, _⟩ := (k5 j hj).int 0 rfl Try.underlying3
      obtain ⟨b, e1, _⟩ := (k5 j hj).int 1 rfl Try.underlying3
      exact ⟨(a, b), list2 (k4 j) e0 e1, trivial⟩
    rw [hq2] at k1
    exact ⟨⟨a0, A', n', c', q, a2, a3, a4, a5⟩, list6 (h4 i) g0 g1 g2 g3 g4 g5, k1, Nat.le_trans k2 k3⟩
  rw [hl2] at h1
  exact ⟨A, n, c, l, rfl, ⟨h1, hl3, hl1⟩, h2, h3⟩
set_option maxRecDepth 100000 in
theorem open_pk (hv : Value.okWide Try.prog W .any b0 27 v) (h : DataW.Trod enc Try.prog W 0 (fun _ => true) true 27 v d p) : ∃ a : Pk, v = aggK a := by
  obtain ⟨cs, rfl, hl, hf⟩ := open_flat (k := 6) (ts := [3, 3, 3, 3, 3, 3]) Try.underlying27 (by kernel_rfl) hv h
  obtain ⟨a0, g0, _⟩ := hf.int 0 rfl Try.underlying3
  obtain ⟨a1, g1, _⟩ := hf.int 1 rfl Try.underlying3
  obtain ⟨a2, g2, _⟩ := hf.int 2 rfl Try.underlying3
  obtain ⟨a3, g3, _⟩ := hf.int 3 rfl Try.underlying3
  obtain ⟨a4, g4, _⟩ := hf.int 4 rfl Try.underlying3
  obtain ⟨a5, g5, _⟩ := hf.int 5 rfl Try.underlying3
  obtain rfl := list6 hl g0 g1 g2 g3 g4 g5
  exact ⟨⟨a0, a1, a2, a3, a4, a5⟩, rfl⟩
set_option maxRecDepth 100000 in
theorem open_parkeds (hv : Value.okWide Try.prog W .any b0 37 v) (h : DataW.Trod enc Try.prog W 0 (fun _ => true) true 37 v d p) :
    ∃ (A : Option Addr) (n c : Nat) (l : List Pk), v = .slice A n c ∧ parkedR W A n l ∧ n ≤ c ∧ c ≤ maxLen := by
  obtain ⟨A, n, c, row, rfl, h1, h2, h3, h4, h5⟩ := open_flat_recs (k := 6) (ts := [3, 3, 3, 3, 3, 3]) Try.underlying37 (by kernel_rfl) (by kernel_rfl) (by decide) hv h
  obtain ⟨l, hl1, hl2, _⟩ := rows_recs (enc := encPk) (Q := fun _ => True) (row := row) (n := n) fun i hi => by
    obtain ⟨a0, g0, _⟩ := (h5 i hi).int 0 rfl Try.underlying3
    obtain ⟨a1, g1, _⟩ := (h5 i hi).int 1 rfl Try.underlying3
    obtain ⟨a2, g2, _⟩ := (h5 i hi).int 2 rfl Try.underlying3
    obtain ⟨a3, g3, _⟩ := (h5 i hi).int 3 rfl Try.underlying3
    obtain ⟨a4, g4, _⟩ := (h5 i hi).int 4 rfl Try.underlying3
    obtain ⟨a5, g5, _⟩ := (h5 i hi).int 5 rfl Try.underlying3
    exact ⟨⟨a0, a1, a2, a3, a4, a5⟩, list6 (h4 i) g0 g1 g2 g3 g4 g5, trivial⟩
  rw [hl2] at h1
  exact ⟨A, n, c, l, rfl, ⟨h1, hl1⟩, h2, h3⟩
set_option maxRecDepth 100000 in
theorem open_pt (hv : Value.okWide Try.prog W .any b0 25 v) (h : DataW.Trod enc Try.prog W 0 (fun _ => true) true 25 v d p) : ∃ a : Pt, v = aggP a := by
  obtain ⟨cs, rfl, hl, hf⟩ := open_flat (k := 4) (ts := [3, 3]) Try.underlying25 (by kernel_rfl) hv h
  obtain ⟨a, h0, _⟩ := hf.int 0 rfl Try.underlying3
  obtain ⟨b, h1, _⟩ := hf.int 1 rfl Try.underlying3
  obtain rfl := list2 hl h0 h1
  exact ⟨(a, b), rfl⟩
end
end Go.Proofs.Ytdgdjlpbnaoheaa
