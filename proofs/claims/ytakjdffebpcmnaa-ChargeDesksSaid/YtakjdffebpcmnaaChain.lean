/- Rows that a drawn region makes: an empty literal, a copy by append, an element more by append; whichever comes when. -/
import Derived.Test.YtakjdffebpcmnaaFree
import Derived.Great.BuildSlice
namespace Go.Proofs.Ytakjdffebpcmnaa
open Go Go.RowKit
/-- No block of elements e changes. -/
def Keeps (e : TypeId) (w w' : World) : Prop := ∀ (g : Nat) (cs : Array Value), w.heap[g]? = some (.cells cs e (0, 0)) → w'.heap[g]? = some (.cells cs e (0, 0))
section
variable {e e' : TypeId} {w w' : World} {B size n : Nat} {v : Value} {xs : List Value}
theorem Keeps.refl (e : TypeId) (w : World) : Keeps e w w := fun _ _ h => h
theorem Keeps.of_below (h : Below w.heap.size w w') : Keeps e w w' := fun g cs hg => by
  refine (h.block g ?_).trans hg
  rcases Nat.lt_or_ge g w.heap.size with h1 | h1
  · exact h1
  · rw [Array.getElem?_eq_none h1] at hg; cases hg
theorem Keeps.alloc (e : TypeId) (w : World) (o : Obj) : Keeps e w (w.alloc o) := Keeps.of_below ((Below.refl _ _).alloc (Nat.le_refl _) o)
theorem Keeps.grown (h : w.ownsRow B e' size v n xs) (hg : w.grownBy w' v.ownBlock) (hne : e' ≠ e) : Keeps e w w' := fun g cs hc => by
  have hl : g < w.heap.size := by
    rcases Nat.lt_or_ge g w.heap.size with h1 | h1
    · exact h1
    · rw [Array.getElem?_eq_none h1] at hc; cases hc
  refine (hg.block g hl fun hb => ?_).trans hc
  rcases h.2 with ⟨rfl, _⟩ | ⟨g', cap, cur, rfl, _, hh, _⟩
  · cases hb
  · have : g = g' := by simpa [Value.ownBlock] using hb
    subst this
    rw [hh] at hc
    injection hc with hc
    injection hc with _ h2
    exact hne h2
theorem Keeps.own (hk : Keeps e w w') (h : w.ownsRow B e size v n xs) : w'.ownsRow B e size v n xs := by
  refine ⟨h.1, ?_⟩
  rcases h.2 with h2 | ⟨g', cap, cur, hv, hb, hh, r⟩
  · exact .inl h2
  · exact .inr ⟨g', cap, cur, hv, hb, hk _ _ hh, r⟩
theorem Keeps.blk {g : Nat} {cs : Array Value} (hk : Keeps e w w') (h : Blk w g e cs) : Blk w' g e cs := hk _ _ h
theorem own_lt (h : w.ownsRow B e size v n xs) {g : Nat} (hg : v.ownBlock = some g) : g < w.heap.size := by
  rcases h.2 with ⟨rfl, _⟩ | ⟨g', cap, cur, rfl, _, hh, _⟩
  · cases hg
  · have : g' = g := by simpa [Value.ownBlock] using hg
    subst this
    rcases Nat.lt_or_ge g' w.heap.size with h1 | h1
    · exact h1
    · rw [Array.getElem?_eq_none h1] at hh; cases hh
end
/-- i0: the empty literal; i1: the copy; i2: the literal of the further element; i3: the row with it. -/
structure Ch (B : Nat) (e : TypeId) (size n : Nat) (xs news : List Value) (i0 i1 i2 i3 : Nat) (S : Nat → Bool) (v : Nat → Value) (u : World) : Prop where
  h0 : S i0 = true → S i1 = false → u.ownsRow B e size (v i0) 0 []
  h1 : S i1 = true → S i3 = false → u.ownsRow B e size (v i1) n xs
  h2 : S i2 = true → S i3 = false → ∃ b, v i2 = .slice (some ⟨b, 0, none⟩) 1 1 ∧ Blk u b e news.toArray ∧ (S i0 = true → S i1 = false → (v i0).ownBlock ≠ some b)
  h3 : S i3 = true → u.ownsRow B e size (v i3) (n + 1) (xs ++ news)
section
variable {B size n i0 i1 i2 i3 : Nat} {e : TypeId} {xs news : List Value} {S : Nat → Bool} {v : Nat → Value} {u u' : World}
theorem Ch.start : Ch B e size n xs news i0 i1 i2 i3 (fun _ => false) v u := ⟨fun h => absurd h Bool.false_ne_true, fun h => absurd h Bool.false_ne_true, fun h => absurd h Bool.false_ne_true, fun h => absurd h Bool.false_ne_true⟩
theorem Ch.keep (h : Ch B e size n xs news i0 i1 i2 i3 S v u) (hk : Keeps e u u') : Ch B e size n xs news i0 i1 i2 i3 S v u' :=
  ⟨fun a b => hk.own (h.h0 a b), fun a b => hk.own (h.h1 a b), fun a b => let ⟨b', x, y, z⟩ := h.h2 a b; ⟨b', x, hk.blk y, z⟩, fun a => hk.own (h.h3 a)⟩
theorem Ch.other (h : Ch B e size n xs news i0 i1 i2 i3 S v u) (hk : Keeps e u u') {i : Nat} (x : Value) (n0 : i0 ≠ i) (n1 : i1 ≠ i) (n2 : i2 ≠ i) (n3 : i3 ≠ i) : Ch B e size n xs news i0 i1 i2 i3 (upd S i true) (upd v i x) u' := by
  have h' := h.keep hk
  constructor
  · rw [upd_ne S _ n0, upd_ne S _ n1, upd_ne v _ n0]; exact h'.h0
  · rw [upd_ne S _ n1, upd_ne S _ n3, upd_ne v _ n1]; exact h'.h1
  · rw [upd_ne S _ n2, upd_ne S _ n3, upd_ne S _ n0, upd_ne S _ n1, upd_ne v _ n2, upd_ne v _ n0]; exact h'.h2
  · rw [upd_ne S _ n3, upd_ne v _ n3]; exact h'.h3
theorem Ch.step0 (h : Ch B e size n xs news i0 i1 i2 i3 S v u) (hB : B ≤ u.heap.size) (n1 : i1 ≠ i0) (n2 : i2 ≠ i0) (n3 : i3 ≠ i0) :
    Ch B e size n xs news i0 i1 i2 i3 (upd S i0 true) (upd v i0 (.slice (some ⟨u.heap.size, 0, none⟩) 0 0)) (u.alloc (.cells #[] e)) := by
  have h' := h.keep (Keeps.alloc e u (.cells #[] e))
  constructor
  · rw [upd_at, upd_at]
    intro _ _
    exact ⟨by simp, .inr ⟨u.heap.size, 0, #[], rfl, hB, heap_alloc_new u _, Nat.le_refl _, by decide, by simp, by simp⟩⟩
  · rw [upd_ne S _ n1, upd_ne S _ n3, upd_ne v _ n1]; exact h'.h1
  · rw [upd_ne S _ n2, upd_ne S _ n3, upd_ne S _ n1, upd_ne v _ n2, upd_at, upd_at]
    intro a b
    obtain ⟨b', x, y, _⟩ := h.h2 a b
    refine ⟨b', x, (Keeps.alloc e u _).blk y, fun _ _ he => ?_⟩
    have h1 : u.heap.size = b' := by simpa [Value.ownBlock] using he
    have := y.lt
    omega
  · rw [upd_ne S _ n3, upd_ne v _ n3]; exact h'.h3
theorem Ch.step1 (h : Ch B e size n xs news i0 i1 i2 i3 S v u) (hS0 : S i0 = true) (hS1 : S i1 = false) (hS3 : S i3 = false) {x : Value} (hx : u'.ownsRow B e size x n xs) (hg : u.grownBy u' (v i0).ownBlock) (n2 : i2 ≠ i1) (n3 : i3 ≠ i1) :
    Ch B e size n xs news i0 i1 i2 i3 (upd S i1 true) (upd v i1 x) u' := by
  constructor
  · rw [upd_at]
    intro _ h; cases h
  · rw [upd_at, upd_at]
    exact fun _ _ => hx
  · rw [upd_ne S _ n2, upd_ne S _ n3, upd_ne v _ n2, upd_at]
    intro a b
    obtain ⟨b', x, y, z⟩ := h.h2 a b
    exact ⟨b', x, y.grown hg fun e => z hS0 hS1 e.symm, fun _ h => by cases h⟩
  · rw [upd_ne S _ n3]
    intro h; rw [hS3] at h; cases h
theorem Ch.step2 (h : Ch B e size n xs news i0 i1 i2 i3 S v u) {cs : Array Value} (hcs : cs = news.toArray) (n0 : i0 ≠ i2) (n1 : i1 ≠ i2) (n3 : i3 ≠ i2) :
    Ch B e size n xs news i0 i1 i2 i3 (upd S i2 true) (upd v i2 (.slice (some ⟨u.heap.size, 0, none⟩) 1 1)) (u.alloc (.cells cs e)) := by
  subst hcs
  have h' := h.keep (Keeps.alloc e u (.cells news.toArray e))
  constructor
  · rw [upd_ne S _ n0, upd_ne S _ n1, upd_ne v _ n0]; exact h'.h0
  · rw [upd_ne S _ n1, upd_ne S _ n3, upd_ne v _ n1]; exact h'.h1
  · rw [upd_ne S _ n3, upd_ne S _ n1, upd_ne S _ n0, upd_ne v _ n0, upd_at, upd_at]
    intro _ _
    refine ⟨_, rfl, Blk.new u e _, fun a b he => ?_⟩
    have := own_lt (h.h0 a b) he
    omega
  · rw [upd_ne S _ n3, upd_ne v _ n3]; exact h'.h3
theorem Ch.step3 (hS1 : S i1 = true) {x : Value} (hx : u'.ownsRow B e size x (n + 1) (xs ++ news)) (n1 : i1 ≠ i3) :
    Ch B e size n xs news i0 i1 i2 i3 (upd S i3 true) (upd v i3 x) u' := by
  constructor
  · rw [upd_ne S _ n1]
    intro _ h; rw [hS1] at h; cases h
  · rw [upd_at]
    intro _ h; cases h
  · rw [upd_at]
    intro _ h; cases h
  · rw [upd_at, upd_at]
    exact fun _ => hx
/-- The literal of one element reads as that. -/
theorem Ch.lit (h : Ch B e size n xs news i0 i1 i2 i3 S v u) (hS2 : S i2 = true) (hS3 : S i3 = false) (hn : news.length = size) : ∃ b, v i2 = .slice (some ⟨b, 0, none⟩) 1 1 ∧ Reads u u.heap.size size (some ⟨b, 0, none⟩) 1 news := by
  obtain ⟨b, hv, hb, _⟩ := h.h2 hS2 hS3
  refine ⟨b, hv, by omega, fun _ => ⟨_, rfl, hb.lt, fun j y hj => ?_⟩⟩
  have := hb.cell j
  rw [show (⟨b, 0, none⟩ : Addr).add j = ⟨b, j, none⟩ by unfold Addr.add; by_cases h0 : j = 0 <;> simp [h0]]
  rw [this]
  simpa using hj
end
section
variable {P : Program} {ρ : Operand → Value} {o : Oper} {w : World}
theorem exec_bs0 (t e : TypeId) (i : TypeInfo) (ho : o.op = .buildSlice t 0 #[]) (ht : P.underlying t = some (.slice e)) (hi : P.info? e = some i) :
    (execOp ρ o).run P w = .ok (.value (.slice (some ⟨w.heap.size, 0, none⟩) 0 0)) (w.alloc (.cells #[] e)) := by
  simp [execOp, ho, Instr.buildSlice, run_underlying ht, sizeOf, typeInfo, hi, Instr.fill, newRow, Result.andThen]
  rw [show (Array.range 0) = #[] from by simp [Array.range]]
  simp
theorem exec_bs1 (t e : TypeId) (ie : TypeInfo) (z y : Value) (x : Operand) (size : Nat) (cells : Array Value) (ho : o.op = .buildSlice t 1 #[(0, x)]) (hx : ρ x = y) (ht : P.underlying t = some (.slice e)) (hie : P.info? e = some ie) (hz : ie.zero = some z) (hs : ie.size = size) (h0 : 0 < size) (h1 : size ≤ 2 ^ 24)
    (hf : Instr.fill (fun i => some (i * size, size)) ((Array.range (1 * size)).map (z.cells[· % z.cells.size]!)) [(0, y)] = some cells) :
    (execOp ρ o).run P w = .ok (.value (.slice (some ⟨w.heap.size, 0, none⟩) 1 1)) (w.alloc (.cells cells e)) := by
  subst hs
  have := run_buildSlice w t e 1 #[(0, y)] cells ie z ht hie hz (by omega) (by omega) hf
  simp only [execOp, ho, List.map_toArray, List.map_cons, List.map_nil, hx, Sem.run_bind, this, Result.andThen_ok, Sem.run_pure]
theorem exec_append (s x : Operand) (t : TypeId) (ho : o.op = .call { callee := .builtin .append, args := #[s, x], argTypes := #[t, t] })
    (base : Nat) (e : TypeId) (i : TypeInfo) (z : Value) (size bytes : Nat) (ht : P.underlying t = some (.slice e)) (hi : P.info? e = some i) (hz : i.zero = some z)
    (hsize : i.size = size) (hby : i.bytes = bytes) (hzs : z.cells.size = size) (hsz : 0 < size)
    (v : Value) (n : Nat) (xs : List Value) (hs : ρ s = v) (hown : w.ownsRow base e size v n xs)
    (B : Nat) (A : Option Addr) (m c : Nat) (news : List Value) (hx : ρ x = .slice A m c) (hr : Reads w B size A m news) (h1 : ∀ u ∈ news, u.oneCell' = true)
    (h63 : n + m ≤ maxLen) (hbytes : (n + m) * bytes ≤ 140737488355328) (hbase : base ≤ w.heap.size) :
    ∃ v' w', (execOp ρ o).run P w = .ok (.value v') w' ∧ w'.ownsRow base e size v' (n + m) (xs ++ news) ∧ w.grownBy w' v.ownBlock ∧ (v'.ownBlock = v.ownBlock ∨ v'.ownBlock = some w.heap.size) := by
  obtain ⟨v', w', hrun, h2, h3, h4⟩ := run_append_any (P := P) w base t o.type e i z size bytes ht hi hz hsize hby hzs hsz v n xs hown B A m c news hr h1 h63 hbytes hbase
  refine ⟨v', w', ?_, h2, h3, h4⟩
  simp only [execOp, ho, resolve, invoke, builtin, Sem.run_bind, Sem.run_pure, Result.andThen_ok, List.map_toArray, List.map_cons, List.map_nil, hs, hx, hrun]
end
/-- What an append leaves alone: all that is older than the base. -/
theorem own_grown_below {B : Nat} {e : TypeId} {size n : Nat} {v : Value} {xs : List Value} {w0 w w' : World} (hb : Below B w0 w) (h : w.ownsRow B e size v n xs) (hg : w.grownBy w' v.ownBlock) (hB : B ≤ w0.heap.size) : Below B w0 w' := by
  have hs := hb.size
  refine hb.trans ⟨hg.os, hg.tape, hg.output, hg.size, fun k hk => hg.block k (by omega) fun e => ?_⟩
  have := (h.lt k e.symm).1
  omega
end Go.Proofs.Ytakjdffebpcmnaa
