/- Plain words for fences: what Check, Active, Sure and Possible say, with no program in sight. -/
import Derived.Test.YtdgdjlpbnaoheaaGeoDsc
namespace Go.Proofs.Ytdgdjlpbnaoheaa
open Go.RowKit
/-- A fence: its kind, where its corners lie, the corners, its window and its hours. -/
structure Fc where
  k : Int
  A : Option Addr
  n : Nat
  c : Nat
  p : List Pt
  wf : Int
  wt : Int
  hf : Int
  ht : Int
def encFc (f : Fc) : List Value := [.int .i64 f.k, .slice f.A f.n f.c, .int .i64 f.wf, .int .i64 f.wt, .int .i64 f.hf, .int .i64 f.ht]
def cellsFc (l : List Fc) : List Value := l.flatMap encFc
theorem encFc_len (f : Fc) : (encFc f).length = 6 := rfl
abbrev aggFc (f : Fc) : Value := .agg #[.int .i64 f.k, .slice f.A f.n f.c, .int .i64 f.wf, .int .i64 f.wt, .int .i64 f.hf, .int .i64 f.ht]
abbrev aggW (a : Int × Int) : Value := .agg #[.int .i64 a.1, .int .i64 a.2]
/-- The corners of all fences lie where the fences say. -/
def FcOk (w : World) (l : List Fc) : Prop := ∀ f ∈ l, Reads w w.heap.size 2 f.A f.n (cellsPt f.p) ∧ f.n ≤ 9223372036854775807
theorem FcOk.below {w w' : World} {l : List Fc} (h : FcOk w l) (hb : Below w.heap.size w w') : FcOk w' l := fun f hf =>
  ⟨((h f hf).1.below hb).more hb.size, (h f hf).2⟩
/-- The fences l lie at A. -/
def FcR (w : World) (A : Option Addr) (n : Nat) (l : List Fc) : Prop := Reads w w.heap.size 6 A n (cellsFc l) ∧ FcOk w l ∧ l.length = n
theorem FcR.below {w w' : World} {A : Option Addr} {n : Nat} {l : List Fc} (h : FcR w A n l) (hb : Below w.heap.size w w') : FcR w' A n l :=
  ⟨(h.1.below hb).more hb.size, h.2.1.below hb, h.2.2⟩
theorem FcR.cells {w : World} {A : Option Addr} {n : Nat} {l : List Fc} (h : FcR w A n l) (hn : 0 < n) : ∃ b off, A = some ⟨b, off, none⟩ ∧ b < w.heap.size ∧ ∀ k (hk : k < l.length), w.cell? ⟨b, off + k * 6, none⟩ = some (.int .i64 l[k].k) ∧ w.cell? ⟨b, off + k * 6 + 1, none⟩ = some (.slice l[k].A l[k].n l[k].c) ∧ w.cell? ⟨b, off + k * 6 + 2, none⟩ = some (.int .i64 l[k].wf) ∧ w.cell? ⟨b, off + k * 6 + 3, none⟩ = some (.int .i64 l[k].wt) ∧ w.cell? ⟨b, off + k * 6 + 4, none⟩ = some (.int .i64 l[k].hf) ∧ w.cell? ⟨b, off + k * 6 + 5, none⟩ = some (.int .i64 l[k].ht) := by
  obtain ⟨b, off, e, hb, hc⟩ := h.1.recs encFc_len (by omega) hn
  exact ⟨b, off, e, hb, fun k hk => ⟨hc k hk 0 _ rfl, hc k hk 1 _ rfl, hc k hk 2 _ rfl, hc k hk 3 _ rfl, hc k hk 4 _ rfl, hc k hk 5 _ rfl⟩⟩
def kindB (k : Int) : Bool := decide (1 ≤ k) && decide (k ≤ 3)
def winB (a : Int × Int) : Bool := decide (0 ≤ a.1) && decide (a.1 ≤ a.2) && decide (a.2 ≤ 4294944000)
def inW (a : Int × Int) (t : Int) : Bool := decide (a.1 ≤ t) && decide (t < a.2)
def hoursZ (f : Fc) : Int := if winB (f.wf, f.wt) = false ∨ f.hf < 0 ∨ f.ht < f.hf ∨ 86400 < f.ht then 1 else 0
/-- The error of a fence by itself. -/
def oneFc (f : Fc) : Int := if kindB f.k = false then 14 else if checkZ f.p ≠ 0 then checkZ f.p else hoursZ f
def firstFc : List Fc → Int
  | [] => 0
  | f :: l => if oneFc f ≠ 0 then oneFc f else firstFc l
def fcheckZ (l : List Fc) : Int := if 32 < l.length then 8 else firstFc l
theorem firstFc_step {l : List Fc} {k : Nat} (hk : k < l.length) : firstFc (l.drop k) = if oneFc l[k] ≠ 0 then oneFc l[k] else firstFc (l.drop (k + 1)) := by
  rw [List.drop_eq_getElem_cons hk]; rfl
theorem firstFc_end {l : List Fc} {k : Nat} (hk : l.length ≤ k) : firstFc (l.drop k) = 0 := by rw [List.drop_eq_nil_of_le hk]; rfl
theorem fcheck_full {l : List Fc} (h : 32 < l.length) : fcheckZ l = 8 := if_pos h
theorem fcheck_few {l : List Fc} (h : ¬ 32 < l.length) : fcheckZ l = firstFc l := if_neg h
theorem oneFc_kind {f : Fc} (h : kindB f.k = false) : oneFc f = 14 := if_pos h
theorem oneFc_area {f : Fc} (h : kindB f.k = true) (h1 : checkZ f.p ≠ 0) : oneFc f = checkZ f.p := by unfold oneFc; rw [if_neg (by rw [h]; decide), if_pos h1]
theorem oneFc_hours {f : Fc} (h : kindB f.k = true) (h1 : checkZ f.p = 0) : oneFc f = hoursZ f := by unfold oneFc; rw [if_neg (by rw [h]; decide), if_neg (fun e => e h1)]
/-- The fence is in force at a moment. -/
def activeB (f : Fc) (t : Int) : Bool := decide (0 ≤ t) && decide (t ≤ 4294943999) && inW (f.wf, f.wt) t && inW (f.hf, f.ht) (t % 86400)
def rangeB (p : Pt) (r t : Int) : Bool := decide (0 ≤ t) && decide (t ≤ 4294943999) && okP p && decide (0 ≤ r) && decide (r ≤ 16384)
/-- The error of a question. -/
def questZ (l : List Fc) (k : Int) (p : Pt) (r t : Int) : Int := if fcheckZ l ≠ 0 then fcheckZ l else if kindB k = false then 14 else if rangeB p r t = false then 1 else 0
def sureB (k : Int) (p : Pt) (r t : Int) (f : Fc) : Bool := decide (f.k = k) && activeB f t && coverB f.p p r
def possB (k : Int) (p : Pt) (r t : Int) (f : Fc) : Bool := decide (f.k = k) && activeB f t && touchB f.p p r
/-- The numbers of the fences of which a thing is true. -/
def numsL (q : Fc → Bool) : List Fc → Nat → List Int
  | [], _ => []
  | f :: l, i => if q f = true then (i : Int) :: numsL q l (i + 1) else numsL q l (i + 1)
theorem numsL_snoc (q : Fc → Bool) (f : Fc) : ∀ (l : List Fc) (i : Nat), numsL q (l ++ [f]) i = numsL q l i ++ (if q f = true then [((i + l.length : Nat) : Int)] else [])
  | [], i => by simp [numsL]
  | g :: l, i => by
    have := numsL_snoc q f l (i + 1)
    simp only [List.cons_append, numsL]
    rw [this]
    have e : i + 1 + l.length = i + (g :: l).length := by simp; omega
    rw [e]
    split <;> simp
theorem numsL_take (q : Fc → Bool) {l : List Fc} {k : Nat} (hk : k < l.length) : numsL q (l.take (k + 1)) 0 = numsL q (l.take k) 0 ++ (if q l[k] = true then [(k : Int)] else []) := by
  rw [List.take_succ_eq_append_getElem hk, numsL_snoc]
  have e : 0 + (l.take k).length = k := by simp; omega
  rw [e]
theorem numsL_len (q : Fc → Bool) : ∀ (l : List Fc) (i : Nat), (numsL q l i).length ≤ l.length
  | [], i => Nat.le_refl _
  | f :: l, i => by
    have := numsL_len q l (i + 1)
    simp only [numsL, List.length_cons]
    split
    · simp; omega
    · omega
theorem numsL_pos (q : Fc → Bool) : ∀ (l : List Fc) (i : Nat), (0 < (numsL q l i).length) ↔ l.any q = true
  | [], i => by simp [numsL]
  | f :: l, i => by
    have := numsL_pos q l (i + 1)
    simp only [numsL, List.any_cons]
    rcases h : q f with _ | _
    · simpa using this
    · simp
def fcAt (l : List Fc) (i : Nat) : Fc := l.getD i ⟨0, none, 0, 0, [], 0, 0, 0, 0⟩
theorem fcAt_get {l : List Fc} {i : Nat} (h : i < l.length) : fcAt l i = l[i] := by unfold fcAt; rw [List.getD_eq_getElem?_getD, List.getElem?_eq_getElem h]; rfl
end Go.Proofs.Ytdgdjlpbnaoheaa
