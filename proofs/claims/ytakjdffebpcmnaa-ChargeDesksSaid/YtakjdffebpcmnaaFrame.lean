/- The frame of all laws of this seat: an argument that is only read reads behind the call as it did; openers for the arguments. -/
import Derived.Test.YtakjdffebpcmnaaChecked
import Derived.Test.YtakjdffebpcmnaaBase
import Derived.ProofKit
import Derived.OpenShut
import Derived.JoinedCond
import Derived.SliceStrings
import Derived.Deep.Slices
import Derived.Deep.Fields
import Derived.Lib.SmallJoins
namespace Go.Proofs.Ytakjdffebpcmnaa
open Go.ChangeShapes Go.WideShapes Go.ChangeAt Go.RowKit Go.Deep

theorem own : ownKnob Try.prog.godebug = none := by kernel_rfl
theorem laidOut : laidOutB Try.prog = true := by kernel_rfl

section
variable {H : Type} {enc : TypeId × Value → H} {P : Program} {w : World} {base : Nat} {spare : Nat → Bool} {held : Bool}
theorem open_slice_fields {t e : TypeId} {fs : Array Field} {fuel : Nat} {cs : List Value} {x : DataW H × List MemPlace} (ht : P.underlying t = some (.slice e)) (he : P.underlying e = some (.struct fs))
    (hone : oneCellFields P fs = true) (hC : P.cellsOf e = fs.size) (h : DataW.trod enc P w base spare held fuel t cs = some x) :
    (cs = [.slice none 0 0] ∧ x = (.nil, [])) ∨
    ∃ (a : Addr) (len cap m : Nat) (D : Nat → DataW H) (Pl : Nat → List MemPlace), cs = [.slice (some a) len cap] ∧ base ≤ a.block ∧ len ≤ cap ∧ cap ≤ maxLen ∧ m = (if spare a.block then cap else len) ∧
      x = (.slice ((List.range len).map D) ((List.range (m - len)).map fun j => D (len + j)), MemPlace.row a (m * fs.size) ++ (List.range m).flatMap Pl) ∧
      ∀ i, i < m → ∃ (ys : List (DataW H × List MemPlace)) (n : Nat), D i = .agg (ys.map (·.1)) ∧ Pl i = ys.flatMap (·.2) ∧ ys.length = fs.size ∧
        ∀ (j : Nat) (f : Field), fs[j]? = some f → ∃ (v : Value) (y : DataW H × List MemPlace), w.cell? (a.add (i * fs.size + j)) = some v ∧ ys[j]? = some y ∧ DataW.trod enc P w base spare held n f.type [v] = some y := by
  rcases open_slice ht h with h0 | ⟨a, len, cap, m, n, D, Pl, hcs, hb, hl, hm, hmm, hx, hi⟩
  · exact .inl h0
  · refine .inr ⟨a, len, cap, m, D, Pl, hcs, hb, hl, hm, hmm, by rw [hC] at hx; exact hx, fun i him => ?_⟩
    obtain ⟨cs', hc, ht'⟩ := hi i him
    rw [hC] at hc
    obtain ⟨ys, n', hn', hy, hlen, hyl, hf⟩ := DataW.trod_struct he ht'
    obtain ⟨_, hcl, hat⟩ := World.cells?_some hc
    simp only [Prod.mk.injEq] at hy
    refine ⟨ys, n', hy.1, hy.2, hyl, fun j f hj => ?_⟩
    obtain ⟨ho, hk⟩ := hone_of hone j f hj
    have hjl : j < fs.size := (Array.getElem?_eq_some_iff.1 hj).1
    have hcell := hat j hjl
    have hv : cs'[j]? = some (cs'[j]'(by omega)) := List.getElem?_eq_getElem (by omega)
    have h1 := hf j f hj
    rw [ho, hk] at h1
    have hone' : (cs'.drop j).take 1 = [cs'[j]'(by omega)] := by
      rw [List.drop_eq_getElem_cons (by omega)]
      rfl
    rw [hone'] at h1
    have hys : ys[j]? = some (ys[j]'(by omega)) := List.getElem?_eq_getElem (by omega)
    refine ⟨_, _, ?_, hys, h1.trans hys⟩
    rw [← Go.Deep.add_add, hcell, hv]
end

section
variable {H : Type} {enc : TypeId × Value → H} {P : Program}

theorem trodAll_below (hl : laidOutB P = true) {W W' : World} (hb : Below W.heap.size W W') (sp : Nat → Bool) : ∀ (ts : List TypeId) (vs : List Value) (ds : List (DataW H)) (ps : List MemPlace),
    ts.all (fun t => P.readableRec t && decide (t < P.types.size)) = true → DataW.TrodAll enc P W 0 (fun _ => true) true ts vs ds ps → (∀ x ∈ ps, x.block < W.heap.size) → (∀ x ∈ ps, sp x.block = true) →
    DataW.TrodAll enc P W' 0 sp true ts vs ds ps
  | [], vs, ds, ps, _, h, _, _ => by
    obtain ⟨rfl, rfl, rfl⟩ := trodAll_nil h
    exact trodAll_mk0
  | t :: ts, vs, ds, ps, ht, h, hlt, hsp => by
    obtain ⟨v, vs', d, ds', p, q, rfl, rfl, rfl, h1, h2⟩ := trodAll_cons h
    simp only [List.all_cons, Bool.and_eq_true, decide_eq_true_eq] at ht
    refine trodAll_cons_mk (WideElems.Trod_stays hl ht.1.1 ht.1.2 h1 (fun x hx => hb.same (hlt x (List.mem_append_left _ hx))) fun x hx => hsp x (List.mem_append_left _ hx)) ?_
    exact trodAll_below hl hb sp ts vs' ds' q ht.2 h2 (fun x hx => hlt x (List.mem_append_right _ hx)) fun x hx => hsp x (List.mem_append_right _ hx)

/-- A law's last step: it answered true, and nothing that was there has turned. -/
theorem law_post {f : Func} {s : ChangeSpec} {W W' : World} {args : Array Value} {ds gs : List (DataW H)} {before : List MemPlace} {tb : TypeId} {e : Ending}
    (hl : laidOutB P = true) (hr : f.params.toList.all (fun t => P.readableRec t && decide (t < P.types.size)) = true) (hrt : f.resultTypes = #[tb]) (htb : P.underlying tb = some .bool)
    (hW : DataW.Whole enc P f.params.toList s.vars false W args.toList ds gs before) (hv : s.vars = []) (h1 : (s.fn H (ds ++ gs)).results = [.lit (.bool true)]) (h2 : (s.fn H (ds ++ gs)).args = ds) (h3 : (s.fn H (ds ++ gs)).vars = [])
    (he : e = .returned (.bool true)) (hb : Below W.heap.size W W') : ∃ v, e = .returned v ∧ s.post enc P f false true false false W args v W' := by
  have hW' := hW
  obtain ⟨p, q, hA, hV, rfl, hfz, hnd⟩ := hW
  rw [hv] at hV
  obtain ⟨rfl, rfl⟩ := trodVars_none hV
  refine ⟨_, he, post_of_below (pa := p) (pv := []) hW' ?_ ?_ ?_ rfl hb ?_⟩
  · intro b sp hd
    rw [h1, hrt]
    exact trodAll_cons_mk (shut_bool htb true) trodAll_mk0
  · intro sp hsp
    rw [h2]
    exact trodAll_below hl hb sp _ _ _ _ hr hA (fun x hx => hW'.lt x (List.mem_append_left _ hx)) fun x hx => hsp x (List.mem_append_left _ hx)
  · intro sp _
    rw [h3, hv]
    rfl
  · exact ok_one hrt rfl (okWide_bool_mk htb true)

section
variable {W : World} {b0 : Nat} {t e : TypeId} {v : Value} {d : DataW H} {p : List MemPlace}
/-- A slice of strings comes in. -/
theorem open_strs (ht : P.underlying t = some (.slice e)) (he : P.underlying e = some .string) (hc : P.cellsOf e = 1) (hv : Value.okWide P W .any b0 t v) (h : DataW.Trod enc P W 0 (fun _ => true) true t v d p) :
    ∃ (A : Option Addr) (n c : Nat) (l : List ByteArray), v = .slice A n c ∧ Reads W W.heap.size 1 A n (l.map Value.string) ∧ n ≤ c ∧ c ≤ maxLen ∧ ∀ s ∈ l, s.size ≤ maxLen := by
  obtain ⟨a0, len, cap, rfl⟩ := okWide_slice ht hv
  obtain ⟨fuel, hf⟩ := h
  rcases open_strings ht he hc hf with ⟨hcs, _⟩ | ⟨a, len', cap', ss, hcs, _, hlen, hm, hz, _, hcell, hws⟩
  · simp only [Value.cells, List.cons.injEq, and_true] at hcs
    injection hcs with e1 e2 e3
    subst e1 e2 e3
    exact ⟨none, 0, 0, [], rfl, Reads.none_, Nat.le_refl _, Nat.zero_le _, fun s hs => by cases hs⟩
  · simp only [Value.cells, List.cons.injEq, and_true] at hcs
    injection hcs with e1 e2 e3
    subst e1 e2 e3
    rw [if_pos rfl] at hz
    refine ⟨some a, len, cap, ss.take len, rfl, ⟨by simp; omega, fun h0 => ⟨a, rfl, ?_, ?_⟩⟩, hlen, hm, fun s hs => hws s (List.mem_of_mem_take hs)⟩
    · have := hcell 0 (by omega)
      have hb := World.block_lt_of_cell? W _ this
      rwa [block_of_add] at hb
    · intro j u hu
      rw [List.getElem?_map] at hu
      rcases hg : (ss.take len)[j]? with _ | x
      · rw [hg] at hu; cases hu
      · rw [hg] at hu
        have hu' : Value.string x = u := by simpa using hu
        subst hu'
        obtain ⟨hj, hx⟩ := List.getElem?_eq_some_iff.1 hg
        have hjl : j < ss.length := by simp at hj; omega
        have := hcell j hjl
        rw [this, List.getD_eq_getElem?_getD, List.getElem?_eq_getElem hjl]
        rw [List.getElem_take] at hx
        rw [← hx]
        rfl
/-- A slice of structs comes in: its cells, row by row, and of each cell that it reads as its field's type. -/
theorem open_recs_at {fs : Array Field} {base : Nat} {sp : Nat → Bool} {hd : Bool} {fuel : Nat} {x : DataW H × List MemPlace} (ht : P.underlying t = some (.slice e)) (he : P.underlying e = some (.struct fs)) (hone : oneCellFields P fs = true) (hC : P.cellsOf e = fs.size) (h0 : 0 < fs.size)
    {A : Option Addr} {n c : Nat} (h : DataW.trod enc P W base sp hd fuel t [.slice A n c] = some x) :
    ∃ (row : Nat → List Value), Reads W W.heap.size fs.size A n ((List.range n).flatMap row) ∧ n ≤ c ∧ c ≤ maxLen ∧ (∀ i, (row i).length = fs.size) ∧
      ∀ i, i < n → ∀ (j : Nat) (f : Field), fs[j]? = some f → ∃ u, (row i)[j]? = some u ∧ ∃ (y : DataW H × List MemPlace) (k : Nat), DataW.trod enc P W base sp hd k f.type [u] = some y := by
  rcases open_slice_fields ht he hone hC h with ⟨hcs, _⟩ | ⟨a, len, cap, m, D, Pl, hcs, _, hlen, hm, hmm, _, hi⟩
  · simp only [List.cons.injEq, and_true] at hcs
    injection hcs with e1 e2 e3
    subst e1 e2 e3
    exact ⟨fun _ => List.replicate fs.size undef, Reads.none_, Nat.le_refl _, Nat.zero_le _, fun _ => by simp, fun i h => absurd h (Nat.not_lt_zero _)⟩
  · simp only [List.cons.injEq, and_true] at hcs
    injection hcs with e1 e2 e3
    subst e1 e2 e3
    have hnm : n ≤ m := by rw [hmm]; split <;> omega
    have hlenr : ∀ i, ((fun i => (List.range fs.size).map fun j => (W.cell? (a.add (i * fs.size + j))).getD undef) i).length = fs.size := fun i => by simp
    have hrow : ∀ i j, j < fs.size → ((fun i => (List.range fs.size).map fun j => (W.cell? (a.add (i * fs.size + j))).getD undef) i)[j]? = some ((W.cell? (a.add (i * fs.size + j))).getD undef) := fun i j hj => by
      simp [List.getElem?_map, List.getElem?_range hj]
    refine ⟨fun i => (List.range fs.size).map fun j => (W.cell? (a.add (i * fs.size + j))).getD undef, ⟨by rw [flat_len _ fs.size hlenr]; simp, fun hn => ⟨a, rfl, ?_, fun q u hu => ?_⟩⟩, hlen, hm, hlenr, fun i hin j f hf => ?_⟩
    · obtain ⟨ys, k, _, _, _, hf⟩ := hi 0 (by omega)
      obtain ⟨v, y, hc, _⟩ := hf 0 _ (Array.getElem?_eq_getElem h0)
      have hb := World.block_lt_of_cell? W _ hc
      rwa [block_of_add] at hb
    · have hq : q < n * fs.size := by
        have := (List.getElem?_eq_some_iff.1 hu).1
        rw [flat_len _ fs.size hlenr] at this
        simpa using this
      have hqi : q / fs.size < n := Nat.div_lt_of_lt_mul (by rw [Nat.mul_comm]; exact hq)
      have hqj : q % fs.size < fs.size := Nat.mod_lt _ h0
      have hqe : q = q / fs.size * fs.size + q % fs.size := by rw [Nat.mul_comm]; exact (Nat.div_add_mod q fs.size).symm
      rw [hqe, flat_get _ fs.size hlenr _ _ _ (by simpa using hqi) hqj, hrow _ _ hqj] at hu
      simp only [List.getElem_range] at hu
      obtain ⟨ys, k, _, _, _, hf⟩ := hi (q / fs.size) (by omega)
      obtain ⟨v, y, hc, _⟩ := hf (q % fs.size) _ (Array.getElem?_eq_getElem hqj)
      rw [hc] at hu
      rw [hqe, hc]
      exact hu
    · have hj : j < fs.size := (Array.getElem?_eq_some_iff.1 hf).1
      obtain ⟨ys, k, _, _, _, hff⟩ := hi i (by omega)
      obtain ⟨v, y, hc, _, ht'⟩ := hff j f hf
      exact ⟨_, hrow i j hj, y, k, by rw [hc]; exact ht'⟩
theorem open_recs {fs : Array Field} (ht : P.underlying t = some (.slice e)) (he : P.underlying e = some (.struct fs)) (hone : oneCellFields P fs = true) (hC : P.cellsOf e = fs.size) (h0 : 0 < fs.size) (hv : Value.okWide P W .any b0 t v) (h : DataW.Trod enc P W 0 (fun _ => true) true t v d p) :
    ∃ (A : Option Addr) (n c : Nat) (row : Nat → List Value), v = .slice A n c ∧ Reads W W.heap.size fs.size A n ((List.range n).flatMap row) ∧ n ≤ c ∧ c ≤ maxLen ∧ (∀ i, (row i).length = fs.size) ∧
      ∀ i, i < n → ∀ (j : Nat) (f : Field), fs[j]? = some f → ∃ u, (row i)[j]? = some u ∧ ∃ (y : DataW H × List MemPlace) (k : Nat), DataW.trod enc P W 0 (fun _ => true) true k f.type [u] = some y := by
  obtain ⟨A, n, c, rfl⟩ := okWide_slice ht hv
  obtain ⟨fuel, hf⟩ := h
  obtain ⟨row, h1, h2, h3, h4, h5⟩ := open_recs_at ht he hone hC h0 (A := A) (n := n) (c := c) (by simpa [Value.cells] using hf)
  exact ⟨A, n, c, row, rfl, h1, h2, h3, h4, h5⟩
/-- Rows that are all records of one kind. -/
theorem rows_recs {α : Type} {enc : α → List Value} {row : Nat → List Value} {n : Nat} {Q : α → Prop} (h : ∀ i, i < n → ∃ x, row i = enc x ∧ Q x) :
    ∃ l : List α, l.length = n ∧ (List.range n).flatMap row = l.flatMap enc ∧ ∀ x ∈ l, Q x := by
  induction n with
  | zero => exact ⟨[], rfl, rfl, fun x hx => by cases hx⟩
  | succ n ih =>
    obtain ⟨l, h1, h2, h3⟩ := ih fun i hi => h i (by omega)
    obtain ⟨x, hx, hq⟩ := h n (by omega)
    refine ⟨l ++ [x], by simp [h1], by rw [List.range_succ, List.flatMap_append, h2, List.flatMap_append]; simp [hx], fun y hy => ?_⟩
    rcases List.mem_append.1 hy with hy | hy
    · exact h3 y hy
    · obtain rfl := List.mem_singleton.1 hy
      exact hq
theorem cell_int {k : IntKind} {m : Nat} {base : Nat} {sp : Nat → Bool} {hd : Bool} {y : DataW H × List MemPlace} {u : Value} {ti : TypeId} (ht : P.underlying ti = some (.int k)) (h : DataW.trod enc P W base sp hd m ti [u] = some y) : ∃ a, u = .int k a ∧ (Lit.int k a).wf = true := by
  obtain ⟨a, he, _, hw⟩ := DataW.trod_int ht h
  simp only [List.cons.injEq, and_true] at he
  exact ⟨a, he, hw⟩
end
end
end Go.Proofs.Ytakjdffebpcmnaa
