/- Structs and arrays by value, and slices of them, whatever is nested in them: their cells, each of which reads as its own type. -/
import Derived.Test.YtakjdffebpcmnaaFrame
namespace Go.Proofs.Ytakjdffebpcmnaa
open Go.ChangeShapes Go.WideShapes Go.ChangeAt Go.RowKit Go.Deep
def prim (P : Program) (t : TypeId) : Bool := match P.underlying t with
  | some .bool => true
  | some (.int _) => true
  | some .string => true
  | some (.slice _) => true
  | _ => false
def flatFs (P : Program) (g : TypeId → Option (List TypeId)) : List Field → Nat → Option (List TypeId)
  | [], _ => some []
  | f :: fs, o => match g f.type with
    | some ts => if f.offset = o ∧ P.cellsOf f.type = ts.length then (flatFs P g fs (o + ts.length)).map (ts ++ ·) else none
    | none => none
/-- The types of a type's cells, one after the other. -/
def flatOf (P : Program) : Nat → TypeId → Option (List TypeId)
  | 0, _ => none
  | k + 1, t => if prim P t = true then some [t] else match P.underlying t with
    | some (.struct fs) => match flatFs P (flatOf P k) fs.toList 0 with
      | some ts => if P.cellsOf t = ts.length then some ts else none
      | none => none
    | some (.array n e) => match flatOf P k e with
      | some ts => if P.cellsOf t = n * ts.length ∧ P.cellsOf e = ts.length then some ((List.range n).flatMap fun _ => ts) else none
      | none => none
    | _ => none
section
variable {H : Type} {enc : TypeId × Value → H} {P : Program} {w : World} {base : Nat} {spare : Nat → Bool} {held : Bool}
theorem flat_prim {t : TypeId} {cs : List Value} {x : DataW H × List MemPlace} {n : Nat} (hp : prim P t = true) (h : DataW.trod enc P w base spare held n t cs = some x) : ∃ u, cs = [u] := by
  unfold prim at hp
  split at hp
  · rename_i ht; obtain ⟨b, h1, _⟩ := DataW.trod_bool ht h; exact ⟨_, h1⟩
  · rename_i ht; obtain ⟨b, h1, _⟩ := DataW.trod_int ht h; exact ⟨_, h1⟩
  · rename_i ht; obtain ⟨b, h1, _⟩ := DataW.trod_string ht h; exact ⟨_, h1⟩
  · rename_i ht
    rcases DataW.trod_slice ht h with ⟨h1, _⟩ | ⟨a, len, cap, _, _, _, _, h1, _⟩
    · exact ⟨_, h1⟩
    · exact ⟨_, h1⟩
  · cases hp
/-- What is said of the cells of a type that is laid flat. -/
def FlatAt (enc : TypeId × Value → H) (P : Program) (w : World) (base : Nat) (spare : Nat → Bool) (held : Bool) (ts : List TypeId) (cs : List Value) (o : Nat) : Prop :=
  ∀ j ti, ts[j]? = some ti → ∃ u, cs[o + j]? = some u ∧ ∃ (y : DataW H × List MemPlace) (m : Nat), DataW.trod enc P w base spare held m ti [u] = some y
theorem flat_fs {g : TypeId → Option (List TypeId)} {cs : List Value} {m : Nat}
    (hg : ∀ t ts, g t = some ts → ∀ (cs : List Value) (x : DataW H × List MemPlace) (n : Nat), DataW.trod enc P w base spare held n t cs = some x → cs.length = ts.length ∧ FlatAt enc P w base spare held ts cs 0) :
    ∀ (fs : List Field) (o : Nat) (ts : List TypeId), flatFs P g fs o = some ts → (∀ (i : Nat) (f : Field), fs[i]? = some f → ∃ y : DataW H × List MemPlace, DataW.trod enc P w base spare held m f.type ((cs.drop f.offset).take (P.cellsOf f.type)) = some y) → FlatAt enc P w base spare held ts cs o
  | [], o, ts, h, _ => by
    simp only [flatFs, Option.some.injEq] at h
    subst h
    intro j ti hj
    simp at hj
  | f :: fs, o, ts, h, hf => by
    simp only [flatFs] at h
    split at h
    · rename_i ts1 h1
      split at h
      · rename_i hc
        obtain ⟨ho, hl⟩ := hc
        rcases h2 : flatFs P g fs (o + ts1.length) with _ | ts2
        · rw [h2] at h; cases h
        · rw [h2] at h
          simp only [Option.map_some, Option.some.injEq] at h
          subst h
          obtain ⟨y, hy⟩ := hf 0 f rfl
          have h3 := hg _ _ h1 _ _ _ hy
          have h4 := flat_fs hg fs (o + ts1.length) ts2 h2 fun i f' hi => hf (i + 1) f' (by simpa using hi)
          intro j ti hj
          by_cases hlt : j < ts1.length
          · rw [List.getElem?_append_left hlt] at hj
            obtain ⟨u, hu, y', k, hk⟩ := h3.2 j ti hj
            refine ⟨u, ?_, y', k, hk⟩
            rw [Nat.zero_add, List.getElem?_take, if_pos (by omega), List.getElem?_drop, ho] at hu
            exact hu
          · rw [List.getElem?_append_right (by omega)] at hj
            obtain ⟨u, hu, r⟩ := h4 _ ti hj
            exact ⟨u, by rw [← hu]; congr 1; omega, r⟩
      · cases h
    · cases h
theorem flat_trod : ∀ (k : Nat) (t : TypeId) (ts : List TypeId), flatOf P k t = some ts → ∀ (cs : List Value) (x : DataW H × List MemPlace) (n : Nat), DataW.trod enc P w base spare held n t cs = some x → cs.length = ts.length ∧ FlatAt enc P w base spare held ts cs 0
  | 0, _, _, h, _, _, _, _ => by simp [flatOf] at h
  | k + 1, t, ts, h, cs, x, n, hx => by
    simp only [flatOf] at h
    split at h
    · rename_i hp
      simp only [Option.some.injEq] at h
      subst h
      obtain ⟨u, rfl⟩ := flat_prim hp hx
      refine ⟨rfl, fun j ti hj => ?_⟩
      rcases j with _ | j
      · simp only [List.getElem?_cons_zero, Option.some.injEq] at hj
        subst hj
        exact ⟨u, rfl, x, n, hx⟩
      · simp at hj
    · split at h
      · rename_i fs ht
        split at h
        · rename_i ts1 h1
          split at h
          · rename_i hc
            simp only [Option.some.injEq] at h
            subst h
            obtain ⟨xs, m, _, _, hl, hxl, hf⟩ := DataW.trod_struct ht hx
            refine ⟨hl.trans hc, flat_fs (m := m) (fun t ts h => flat_trod k t ts h) fs.toList 0 ts1 h1 fun i f hi => ?_⟩
            have hi' : fs[i]? = some f := by simpa using hi
            have hlt : i < fs.size := (Array.getElem?_eq_some_iff.1 hi').1
            exact ⟨xs[i]'(by omega), by rw [hf i f hi', List.getElem?_eq_getElem]⟩
          · cases h
        · cases h
      · rename_i q e ht
        split at h
        · rename_i ts1 h1
          split at h
          · rename_i hc
            obtain ⟨hc1, hc2⟩ := hc
            simp only [Option.some.injEq] at h
            subst h
            obtain ⟨xs, m, _, _, hl, hxl, hf⟩ := DataW.trod_array ht hx
            have hlen0 : ∀ l : List Nat, (l.flatMap fun _ => ts1).length = l.length * ts1.length := fun l => by
              induction l with
              | nil => simp
              | cons y l ih => rw [List.flatMap_cons, List.length_append, ih, List.length_cons, Nat.add_mul]; omega
            have hlen : ((List.range q).flatMap fun _ => ts1).length = q * ts1.length := by rw [hlen0, List.length_range]
            refine ⟨by rw [hl, hc1, hlen], fun j ti hj => ?_⟩
            have hjl : j < q * ts1.length := by
              have := (List.getElem?_eq_some_iff.1 hj).1
              rwa [hlen] at this
            have h0 : 0 < ts1.length := by
              rcases Nat.eq_zero_or_pos ts1.length with h0 | h0
              · rw [h0] at hjl; omega
              · exact h0
            have hqi : j / ts1.length < q := Nat.div_lt_of_lt_mul (by rw [Nat.mul_comm]; exact hjl)
            have hqj : j % ts1.length < ts1.length := Nat.mod_lt _ h0
            have hqe : j = j / ts1.length * ts1.length + j % ts1.length := by rw [Nat.mul_comm]; exact (Nat.div_add_mod j ts1.length).symm
            have hget : ∀ (l : List Nat) (a b : Nat), a < l.length → b < ts1.length → (l.flatMap fun _ => ts1)[a * ts1.length + b]? = ts1[b]? := fun l => by
              induction l with
              | nil => intro a b ha; exact absurd ha (Nat.not_lt_zero _)
              | cons y l ih =>
                intro a b ha hb
                rcases a with _ | a
                · rw [List.flatMap_cons, List.getElem?_append_left (by omega)]; simp
                · rw [List.flatMap_cons, List.getElem?_append_right (by rw [Nat.add_mul]; omega), show (a + 1) * ts1.length + b - ts1.length = a * ts1.length + b from by rw [Nat.add_mul]; omega]
                  exact ih a b (by simpa using ha) hb
            rw [hqe, hget _ _ _ (by simpa using hqi) hqj] at hj
            have hxi := hf (j / ts1.length) hqi
            rw [List.getElem?_eq_getElem (by omega)] at hxi
            obtain ⟨u, hu, r⟩ := (flat_trod k e ts1 h1 _ _ _ hxi).2 _ ti hj
            refine ⟨u, ?_, r⟩
            rw [Nat.zero_add, List.getElem?_take, if_pos (by omega), List.getElem?_drop, hc2, ← hqe] at hu
            rw [Nat.zero_add]; exact hu
          · cases h
        · cases h
      · cases h
/-- A struct or array comes in by value. -/
theorem open_flat {b0 k : Nat} {t : TypeId} {v : Value} {d : DataW H} {p : List MemPlace} {ts : List TypeId} {fs : Array Field} (ht : P.underlying t = some (.struct fs)) (hts : flatOf P k t = some ts) (hv : Value.okWide P w .any b0 t v) (h : DataW.Trod enc P w 0 (fun _ => true) true t v d p) :
    ∃ cs : List Value, v = .agg cs.toArray ∧ cs.length = ts.length ∧ FlatAt enc P w 0 (fun _ => true) true ts cs 0 := by
  obtain ⟨cs, rfl, _⟩ := okWide_struct ht hv
  obtain ⟨fuel, hf⟩ := h
  have := flat_trod k t ts hts _ _ _ hf
  exact ⟨cs.toList, by simp, this.1, this.2⟩
/-- A slice of structs or arrays comes in: rows, and of each cell of a row that it reads as its own type. -/
theorem open_flat_recs_at {t e : TypeId} {k : Nat} {ts : List TypeId} {bs : Nat} {sp : Nat → Bool} {hd : Bool} {fuel : Nat} {x : DataW H × List MemPlace} (ht : P.underlying t = some (.slice e)) (hts : flatOf P k e = some ts) (hC : P.cellsOf e = ts.length) (h0 : 0 < ts.length)
    {A : Option Addr} {n c : Nat} (h : DataW.trod enc P w bs sp hd fuel t [.slice A n c] = some x) :
    ∃ (row : Nat → List Value), Reads w w.heap.size ts.length A n ((List.range n).flatMap row) ∧ n ≤ c ∧ c ≤ maxLen ∧ (∀ i, (row i).length = ts.length) ∧ ∀ i, i < n → FlatAt enc P w bs sp hd ts (row i) 0 := by
  rcases open_slice ht h with ⟨hcs, _⟩ | ⟨a, len, cap, m, q, D, Pl, hcs, hb, hl, hm, hmm, _, hi⟩
  · simp only [List.cons.injEq, and_true] at hcs
    injection hcs with e1 e2 e3
    subst e1 e2 e3
    exact ⟨fun _ => List.replicate ts.length undef, Reads.none_, Nat.le_refl _, Nat.zero_le _, fun _ => by simp, fun i h => absurd h (Nat.not_lt_zero _)⟩
  · simp only [List.cons.injEq, and_true] at hcs
    injection hcs with e1 e2 e3
    subst e1 e2 e3
    have hnm : n ≤ m := by rw [hmm]; split <;> omega
    have hlenr : ∀ i, ((fun i => (List.range ts.length).map fun j => (w.cell? (a.add (i * ts.length + j))).getD undef) i).length = ts.length := fun i => by simp
    have hrow : ∀ i j, j < ts.length → ((fun i => (List.range ts.length).map fun j => (w.cell? (a.add (i * ts.length + j))).getD undef) i)[j]? = some ((w.cell? (a.add (i * ts.length + j))).getD undef) := fun i j hj => by
      simp [List.getElem?_map, List.getElem?_range hj]
    have key : ∀ i, i < n → ∃ cs' : List Value, cs'.length = ts.length ∧ (∀ j, j < ts.length → w.cell? (a.add (i * ts.length + j)) = cs'[j]?) ∧ FlatAt enc P w bs sp hd ts cs' 0 := fun i hin => by
      obtain ⟨cs', hc, ht'⟩ := hi i (by omega)
      rw [hC] at hc
      obtain ⟨_, hcl, hat⟩ := World.cells?_some hc
      refine ⟨cs', hcl, fun j hj => ?_, (flat_trod k e ts hts _ _ _ ht').2⟩
      rw [← Go.Deep.add_add]
      exact hat j hj
    refine ⟨fun i => (List.range ts.length).map fun j => (w.cell? (a.add (i * ts.length + j))).getD undef, ⟨by rw [flat_len _ ts.length hlenr]; simp, fun hn => ⟨a, rfl, ?_, fun q u hu => ?_⟩⟩, hl, hm, hlenr, fun i hin j ti hj => ?_⟩
    · obtain ⟨cs', hcl, hat, _⟩ := key 0 hn
      have hc := hat 0 h0
      rw [List.getElem?_eq_getElem (by omega)] at hc
      have hbl := World.block_lt_of_cell? w _ hc
      rwa [block_of_add] at hbl
    · have hq : q < n * ts.length := by
        have := (List.getElem?_eq_some_iff.1 hu).1
        rw [flat_len _ ts.length hlenr] at this
        simpa using this
      have hqi : q / ts.length < n := Nat.div_lt_of_lt_mul (by rw [Nat.mul_comm]; exact hq)
      have hqj : q % ts.length < ts.length := Nat.mod_lt _ h0
      have hqe : q = q / ts.length * ts.length + q % ts.length := by rw [Nat.mul_comm]; exact (Nat.div_add_mod q ts.length).symm
      rw [hqe, flat_get _ ts.length hlenr _ _ _ (by simpa using hqi) hqj, hrow _ _ hqj] at hu
      simp only [List.getElem_range] at hu
      obtain ⟨cs', hcl, hat, _⟩ := key (q / ts.length) hqi
      have hc := hat (q % ts.length) hqj
      rw [List.getElem?_eq_getElem (by omega)] at hc
      rw [hc] at hu
      rw [hqe, hc]
      exact hu
    · obtain ⟨cs', hcl, hat, hfl⟩ := key i hin
      obtain ⟨u, hu, r⟩ := hfl j ti hj
      rw [Nat.zero_add] at hu ⊢
      have hjl : j < ts.length := (List.getElem?_eq_some_iff.1 hj).1
      have hc := hat j hjl
      exact ⟨u, by rw [hrow i j hjl, hc, hu]; rfl, r⟩
theorem open_flat_recs {b0 k : Nat} {t e : TypeId} {v : Value} {d : DataW H} {p : List MemPlace} {ts : List TypeId} (ht : P.underlying t = some (.slice e)) (hts : flatOf P k e = some ts) (hC : P.cellsOf e = ts.length) (h0 : 0 < ts.length) (hv : Value.okWide P w .any b0 t v) (h : DataW.Trod enc P w 0 (fun _ => true) true t v d p) :
    ∃ (A : Option Addr) (n c : Nat) (row : Nat → List Value), v = .slice A n c ∧ Reads w w.heap.size ts.length A n ((List.range n).flatMap row) ∧ n ≤ c ∧ c ≤ maxLen ∧ (∀ i, (row i).length = ts.length) ∧ ∀ i, i < n → FlatAt enc P w 0 (fun _ => true) true ts (row i) 0 := by
  obtain ⟨A, n, c, rfl⟩ := okWide_slice ht hv
  obtain ⟨fuel, hf⟩ := h
  obtain ⟨row, h1, h2, h3, h4, h5⟩ := open_flat_recs_at ht hts hC h0 (A := A) (n := n) (c := c) (by simpa [Value.cells] using hf)
  exact ⟨A, n, c, row, rfl, h1, h2, h3, h4, h5⟩
theorem FlatAt.get {ts : List TypeId} {cs : List Value} (h : FlatAt enc P w base spare held ts cs 0) (j : Nat) {ti : TypeId} (hj : ts[j]? = some ti) : ∃ u, cs[j]? = some u ∧ ∃ (y : DataW H × List MemPlace) (m : Nat), DataW.trod enc P w base spare held m ti [u] = some y := by
  obtain ⟨u, hu, r⟩ := h j ti hj
  rw [Nat.zero_add] at hu
  exact ⟨u, hu, r⟩
theorem FlatAt.int {ts : List TypeId} {cs : List Value} (h : FlatAt enc P w base spare held ts cs 0) (j : Nat) {ti : TypeId} (hj : ts[j]? = some ti) {k : IntKind} (ht : P.underlying ti = some (.int k)) : ∃ a, cs[j]? = some (.int k a) ∧ (Lit.int k a).wf = true := by
  obtain ⟨u, hu, y, m, hy⟩ := h.get j hj
  obtain ⟨a, rfl, hw⟩ := cell_int ht hy
  exact ⟨a, hu, hw⟩
theorem FlatAt.bool {ts : List TypeId} {cs : List Value} (h : FlatAt enc P w base spare held ts cs 0) (j : Nat) {ti : TypeId} (hj : ts[j]? = some ti) (ht : P.underlying ti = some .bool) : ∃ a, cs[j]? = some (.bool a) := by
  obtain ⟨u, hu, y, m, hy⟩ := h.get j hj
  obtain ⟨a, he, _⟩ := DataW.trod_bool ht hy
  simp only [List.cons.injEq, and_true] at he
  subst he
  exact ⟨a, hu⟩
theorem FlatAt.str {ts : List TypeId} {cs : List Value} (h : FlatAt enc P w base spare held ts cs 0) (j : Nat) {ti : TypeId} (hj : ts[j]? = some ti) (ht : P.underlying ti = some .string) : ∃ s : ByteArray, cs[j]? = some (.string s) ∧ s.size ≤ maxLen := by
  obtain ⟨u, hu, y, m, hy⟩ := h.get j hj
  obtain ⟨a, he, _, hs⟩ := DataW.trod_string ht hy
  simp only [List.cons.injEq, and_true] at he
  subst he
  exact ⟨a, hu, hs⟩
/-- A cell that reads as a slice of structs. -/
theorem FlatAt.recs {ts ts' : List TypeId} {cs : List Value} (h : FlatAt enc P w base spare held ts cs 0) (j : Nat) {t e : TypeId} {k : Nat} (hj : ts[j]? = some t) (ht : P.underlying t = some (.slice e)) (hts : flatOf P k e = some ts') (hC : P.cellsOf e = ts'.length) (h0 : 0 < ts'.length) :
    ∃ (A : Option Addr) (n c : Nat) (row : Nat → List Value), cs[j]? = some (.slice A n c) ∧ Reads w w.heap.size ts'.length A n ((List.range n).flatMap row) ∧ n ≤ c ∧ c ≤ maxLen ∧ (∀ i, (row i).length = ts'.length) ∧ ∀ i, i < n → FlatAt enc P w base spare held ts' (row i) 0 := by
  obtain ⟨u, hu, y, m, hy⟩ := h.get j hj
  obtain ⟨A, n, c, rfl⟩ : ∃ A n c, u = .slice A n c := by
    rcases DataW.trod_slice ht hy with ⟨he, _⟩ | ⟨a, len, cap, _, _, _, _, he, _⟩
    · simp only [List.cons.injEq, and_true] at he; exact ⟨_, _, _, he⟩
    · simp only [List.cons.injEq, and_true] at he; exact ⟨_, _, _, he⟩
  obtain ⟨row, h1, h2, h3, h4, h5⟩ := open_flat_recs_at ht hts hC h0 hy
  exact ⟨A, n, c, row, hu, h1, h2, h3, h4, h5⟩
end
theorem list1 {α : Type} {l : List α} (h : l.length = 1) {a : α} (h0 : l[0]? = some a) : l = [a] := by
  match l, h with
  | [x], _ => simpa using h0
theorem list2 {α : Type} {l : List α} (h : l.length = 2) {a b : α} (h0 : l[0]? = some a) (h1 : l[1]? = some b) : l = [a, b] := by
  match l, h with
  | [x, y], _ => simp at h0 h1; rw [h0, h1]
theorem list3 {α : Type} {l : List α} (h : l.length = 3) {a b c : α} (h0 : l[0]? = some a) (h1 : l[1]? = some b) (h2 : l[2]? = some c) : l = [a, b, c] := by
  match l, h with
  | [x, y, z], _ => simp at h0 h1 h2; rw [h0, h1, h2]
theorem list4 {α : Type} {l : List α} (h : l.length = 4) {a b c d : α} (h0 : l[0]? = some a) (h1 : l[1]? = some b) (h2 : l[2]? = some c) (h3 : l[3]? = some d) : l = [a, b, c, d] := by
  match l, h with
  | [x, y, z, u], _ => simp at h0 h1 h2 h3; rw [h0, h1, h2, h3]
theorem list5 {α : Type} {l : List α} (h : l.length = 5) {a b c d e : α} (h0 : l[0]? = some a) (h1 : l[1]? = some b) (h2 : l[2]? = some c) (h3 : l[3]? = some d) (h4 : l[4]? = some e) : l = [a, b, c, d, e] := by
  match l, h with
  | [x, y, z, u, v], _ => simp at h0 h1 h2 h3 h4; rw [h0, h1, h2, h3, h4]
theorem list6 {α : Type} {l : List α} (h : l.length = 6) {a b c d e f : α} (h0 : l[0]? = some a) (h1 : l[1]? = some b) (h2 : l[2]? = some c) (h3 : l[3]? = some d) (h4 : l[4]? = some e) (h5 : l[5]? = some f) : l = [a, b, c, d, e, f] := by
  match l, h with
  | [x, y, z, u, v, w], _ => simp at h0 h1 h2 h3 h4 h5; rw [h0, h1, h2, h3, h4, h5]
end Go.Proofs.Ytakjdffebpcmnaa
