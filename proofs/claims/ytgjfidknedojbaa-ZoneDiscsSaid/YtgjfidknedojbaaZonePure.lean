/- Plain words for zones: what Check, Sure, Possible say, with no program in sight. -/
import Derived.Test.YtgjfidknedojbaaGeoDsc
import Derived.Test.YtgjfidknedojbaaIdValid
namespace Go.Proofs.Ytgjfidknedojbaa
open Go.RowKit
/-- A zone: its ID, where its corners lie, the corners, its rank. -/
structure Zn where
  s : ByteArray
  A : Option Addr
  n : Nat
  c : Nat
  p : List Pt
  r : Int
def encZ (z : Zn) : List Value := [.string z.s, .slice z.A z.n z.c, .int .i64 z.r]
def cellsZ (l : List Zn) : List Value := l.flatMap encZ
theorem encZ_len (z : Zn) : (encZ z).length = 3 := rfl
abbrev aggZ (z : Zn) : Value := .agg #[.string z.s, .slice z.A z.n z.c, .int .i64 z.r]
/-- The corners of all zones lie where the zones say. -/
def ZOk (w : World) (l : List Zn) : Prop := ∀ z ∈ l, Reads w w.heap.size 2 z.A z.n (cellsPt z.p) ∧ z.n ≤ 9223372036854775807 ∧ z.s.size ≤ maxLen
theorem ZOk.below {w w' : World} {l : List Zn} (h : ZOk w l) (hb : Below w.heap.size w w') : ZOk w' l := fun z hz =>
  ⟨((h z hz).1.below hb).more hb.size, (h z hz).2⟩
/-- The zones l lie at A. -/
def ZR (w : World) (A : Option Addr) (n : Nat) (l : List Zn) : Prop := Reads w w.heap.size 3 A n (cellsZ l) ∧ ZOk w l ∧ l.length = n
theorem ZR.below {w w' : World} {A : Option Addr} {n : Nat} {l : List Zn} (h : ZR w A n l) (hb : Below w.heap.size w w') : ZR w' A n l :=
  ⟨(h.1.below hb).more hb.size, h.2.1.below hb, h.2.2⟩
theorem ZR.cells {w : World} {A : Option Addr} {n : Nat} {l : List Zn} (h : ZR w A n l) (hn : 0 < n) : ∃ b off, A = some ⟨b, off, none⟩ ∧ b < w.heap.size ∧ ∀ k (hk : k < l.length), w.cell? ⟨b, off + k * 3, none⟩ = some (.string l[k].s) ∧ w.cell? ⟨b, off + k * 3 + 1, none⟩ = some (.slice l[k].A l[k].n l[k].c) ∧ w.cell? ⟨b, off + k * 3 + 2, none⟩ = some (.int .i64 l[k].r) := by
  obtain ⟨b, off, e, hb, hc⟩ := h.1.recs encZ_len (by omega) hn
  exact ⟨b, off, e, hb, fun k hk => ⟨hc k hk 0 _ rfl, hc k hk 1 _ rfl, hc k hk 2 _ rfl⟩⟩
/-- The error of a zone by itself. -/
def oneZ (z : Zn) : Int := if validS z.s = false then 5 else if checkZ z.p ≠ 0 then checkZ z.p else if z.r < 0 ∨ 1000000 < z.r then 1 else 0
/-- Two zones with one ID or rank. -/
def twinB (y z : Zn) : Bool := (y.s.data.toList == z.s.data.toList) || decide (y.r = z.r)
def firstE : List Zn → Int
  | [] => 0
  | z :: l => if oneZ z ≠ 0 then oneZ z else firstE l
def zAt (l : List Zn) (i : Nat) : Zn := l.getD i ⟨.empty, none, 0, 0, [], 0⟩
theorem zAt_get {l : List Zn} {i : Nat} (h : i < l.length) : zAt l i = l[i] := by unfold zAt; rw [List.getD_eq_getElem?_getD, List.getElem?_eq_getElem h]; rfl
def twins (l : List Zn) : Bool := (List.range l.length).any fun i => (List.range i).any fun k => twinB (zAt l k) (zAt l i)
def zcheckZ (l : List Zn) : Int := if 16 < l.length then 8 else if firstE l ≠ 0 then firstE l else if twins l = true then 6 else 0
theorem firstE_step {l : List Zn} {k : Nat} (hk : k < l.length) : firstE (l.drop k) = if oneZ l[k] ≠ 0 then oneZ l[k] else firstE (l.drop (k + 1)) := by
  rw [List.drop_eq_getElem_cons hk]; rfl
theorem firstE_end {l : List Zn} {k : Nat} (hk : l.length ≤ k) : firstE (l.drop k) = 0 := by rw [List.drop_eq_nil_of_le hk]; rfl
theorem twins_yes {l : List Zn} {i k : Nat} (hi : i < l.length) (hk : k < i) (h : twinB (zAt l k) (zAt l i) = true) : twins l = true := by
  unfold twins
  rw [List.any_eq_true]
  exact ⟨i, by simpa using hi, by rw [List.any_eq_true]; exact ⟨k, by simpa using hk, h⟩⟩
theorem twins_no {l : List Zn} (h : ∀ i k, i < l.length → k < i → twinB (zAt l k) (zAt l i) = false) : twins l = false := by
  unfold twins
  rw [List.any_eq_false]
  intro i hi
  rw [Bool.not_eq_true, List.any_eq_false]
  intro k hk
  rw [h i k (by simpa using hi) (by simpa using hk)]
  decide
end Go.Proofs.Ytgjfidknedojbaa
