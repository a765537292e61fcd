/- Plain words for points, edges and polygons, and small lemmas on products. -/
import Derived.Test.YtomnodpmpdodbaaBase
namespace Go.Proofs.Ytomnodpmpdodbaa
open Go.RowKit
abbrev Pt := Int × Int
abbrev Ed := Pt × Pt
def encPt (p : Pt) : List Value := [.int .i64 p.1, .int .i64 p.2]
def encEd (e : Ed) : List Value := [.int .i64 e.1.1, .int .i64 e.1.2, .int .i64 e.2.1, .int .i64 e.2.2]
def cellsPt (l : List Pt) : List Value := l.flatMap encPt
def cellsEd (l : List Ed) : List Value := l.flatMap encEd
theorem encPt_len (p : Pt) : (encPt p).length = 2 := rfl
theorem encEd_len (e : Ed) : (encEd e).length = 4 := rfl
abbrev aggP (p : Pt) : Value := .agg #[.int .i64 p.1, .int .i64 p.2]
abbrev aggE (e : Ed) : Value := .agg #[.int .i64 e.1.1, .int .i64 e.1.2, .int .i64 e.2.1, .int .i64 e.2.2]
def RetBI (w : World) (x : Bool) (y : Int) (e : Ending) (w' : World) : Prop := e = .returned (.tuple #[.bool x, .int .i64 y]) ∧ Below w.heap.size w w'
def RetIII (w : World) (x y z : Int) (e : Ending) (w' : World) : Prop := e = .returned (.tuple #[.int .i64 x, .int .i64 y, .int .i64 z]) ∧ Below w.heap.size w w'
theorem box1 (w : World) (s : TypeId) (A : Array Value) : Blk (w.alloc (.cells A s)) w.heap.size s A ∧ Below w.heap.size w (w.alloc (.cells A s)) :=
  ⟨Blk.new w s A, (Below.refl _ _).alloc (Nat.le_refl _) _⟩
theorem box2 (w : World) (s t : TypeId) (A B : Array Value) : Blk ((w.alloc (.cells A s)).alloc (.cells B t)) w.heap.size s A ∧ Blk ((w.alloc (.cells A s)).alloc (.cells B t)) (w.heap.size + 1) t B ∧ Below w.heap.size w ((w.alloc (.cells A s)).alloc (.cells B t)) :=
  ⟨(Blk.new w s A).alloc _, by simpa using Blk.new (w.alloc (.cells A s)) t B, ((Below.refl _ _).alloc (Nat.le_refl _) _).alloc (by simp) _⟩
theorem box3 (w : World) (s t u : TypeId) (A B C : Array Value) : Blk (((w.alloc (.cells A s)).alloc (.cells B t)).alloc (.cells C u)) w.heap.size s A ∧ Blk (((w.alloc (.cells A s)).alloc (.cells B t)).alloc (.cells C u)) (w.heap.size + 1) t B ∧ Blk (((w.alloc (.cells A s)).alloc (.cells B t)).alloc (.cells C u)) (w.heap.size + 1 + 1) u C ∧ Below w.heap.size w (((w.alloc (.cells A s)).alloc (.cells B t)).alloc (.cells C u)) := by
  obtain ⟨h1, h2, h3⟩ := box2 w s t A B
  exact ⟨h1.alloc _, h2.alloc _, by simpa using Blk.new ((w.alloc (.cells A s)).alloc (.cells B t)) u C, h3.alloc (by simp; omega) _⟩
theorem box4 (w : World) (s t u v : TypeId) (A B C D : Array Value) : Blk ((((w.alloc (.cells A s)).alloc (.cells B t)).alloc (.cells C u)).alloc (.cells D v)) w.heap.size s A ∧ Blk ((((w.alloc (.cells A s)).alloc (.cells B t)).alloc (.cells C u)).alloc (.cells D v)) (w.heap.size + 1) t B ∧ Blk ((((w.alloc (.cells A s)).alloc (.cells B t)).alloc (.cells C u)).alloc (.cells D v)) (w.heap.size + 1 + 1) u C ∧ Blk ((((w.alloc (.cells A s)).alloc (.cells B t)).alloc (.cells C u)).alloc (.cells D v)) (w.heap.size + 1 + 1 + 1) v D ∧ Below w.heap.size w ((((w.alloc (.cells A s)).alloc (.cells B t)).alloc (.cells C u)).alloc (.cells D v)) := by
  obtain ⟨h1, h2, h3, h4⟩ := box3 w s t u A B C
  exact ⟨h1.alloc _, h2.alloc _, h3.alloc _, by simpa using Blk.new (((w.alloc (.cells A s)).alloc (.cells B t)).alloc (.cells C u)) v D, h4.alloc (by simp; omega) _⟩
theorem box1K (w : World) (s : TypeId) (A : Array Value) : Below (w.alloc (.cells A s)).heap.size (w.alloc (.cells A s)) (w.alloc (.cells A s)) ∧ ∀ x, Below (w.alloc (.cells A s)).heap.size (w.alloc (.cells A s)) x → Blk x w.heap.size s A ∧ Below w.heap.size w x := by
  obtain ⟨h0, hb⟩ := box1 w s A
  exact ⟨Below.refl _ _, fun x hx => ⟨h0.below hx h0.lt, hb.trans (hx.mono hb.size)⟩⟩
theorem box2K (w : World) (s t : TypeId) (A B : Array Value) : Below ((w.alloc (.cells A s)).alloc (.cells B t)).heap.size ((w.alloc (.cells A s)).alloc (.cells B t)) ((w.alloc (.cells A s)).alloc (.cells B t)) ∧ ∀ x, Below ((w.alloc (.cells A s)).alloc (.cells B t)).heap.size ((w.alloc (.cells A s)).alloc (.cells B t)) x → Blk x w.heap.size s A ∧ Blk x (w.heap.size + 1) t B ∧ Below w.heap.size w x := by
  obtain ⟨h0, h1, hb⟩ := box2 w s t A B
  exact ⟨Below.refl _ _, fun x hx => ⟨h0.below hx h0.lt, h1.below hx h1.lt, hb.trans (hx.mono hb.size)⟩⟩
theorem box3K (w : World) (s t u : TypeId) (A B C : Array Value) : Below (((w.alloc (.cells A s)).alloc (.cells B t)).alloc (.cells C u)).heap.size (((w.alloc (.cells A s)).alloc (.cells B t)).alloc (.cells C u)) (((w.alloc (.cells A s)).alloc (.cells B t)).alloc (.cells C u)) ∧ ∀ x, Below (((w.alloc (.cells A s)).alloc (.cells B t)).alloc (.cells C u)).heap.size (((w.alloc (.cells A s)).alloc (.cells B t)).alloc (.cells C u)) x → Blk x w.heap.size s A ∧ Blk x (w.heap.size + 1) t B ∧ Blk x (w.heap.size + 1 + 1) u C ∧ Below w.heap.size w x := by
  obtain ⟨h0, h1, h2, hb⟩ := box3 w s t u A B C
  exact ⟨Below.refl _ _, fun x hx => ⟨h0.below hx h0.lt, h1.below hx h1.lt, h2.below hx h2.lt, hb.trans (hx.mono hb.size)⟩⟩
theorem box4K (w : World) (s t u v : TypeId) (A B C D : Array Value) : Below ((((w.alloc (.cells A s)).alloc (.cells B t)).alloc (.cells C u)).alloc (.cells D v)).heap.size ((((w.alloc (.cells A s)).alloc (.cells B t)).alloc (.cells C u)).alloc (.cells D v)) ((((w.alloc (.cells A s)).alloc (.cells B t)).alloc (.cells C u)).alloc (.cells D v)) ∧ ∀ x, Below ((((w.alloc (.cells A s)).alloc (.cells B t)).alloc (.cells C u)).alloc (.cells D v)).heap.size ((((w.alloc (.cells A s)).alloc (.cells B t)).alloc (.cells C u)).alloc (.cells D v)) x → Blk x w.heap.size s A ∧ Blk x (w.heap.size + 1) t B ∧ Blk x (w.heap.size + 1 + 1) u C ∧ Blk x (w.heap.size + 1 + 1 + 1) v D ∧ Below w.heap.size w x := by
  obtain ⟨h0, h1, h2, h3, hb⟩ := box4 w s t u v A B C D
  exact ⟨Below.refl _ _, fun x hx => ⟨h0.below hx h0.lt, h1.below hx h1.lt, h2.below hx h2.lt, h3.below hx h3.lt, hb.trans (hx.mono hb.size)⟩⟩
theorem below_next {B : Nat} {a b c : World} (h : Below B a b) (hB : B ≤ a.heap.size) (h2 : Below b.heap.size b c) : Below B a c := h.trans (h2.mono (Nat.le_trans hB h.size))
theorem below_drew_ {B : Nat} {a b : World} (h : Below B a b) : Below B a b.drew := ⟨h.os, h.tape, h.output, h.size, h.block⟩
theorem wr_ {n : Int} (h : -9223372036854775808 ≤ n ∧ n ≤ 9223372036854775807) : IntKind.i64.wrap n = n := IntWalk.i64_in _ (by omega)
theorem mul_bd {x y A B : Int} (h1 : -A ≤ x) (h2 : x ≤ A) (h3 : -B ≤ y) (h4 : y ≤ B) : -(A*B) ≤ x*y ∧ x*y ≤ A*B := by
  have a1 := Int.mul_nonneg (show 0 ≤ A - x by omega) (show 0 ≤ B + y by omega)
  have a2 := Int.mul_nonneg (show 0 ≤ A + x by omega) (show 0 ≤ B - y by omega)
  have a3 := Int.mul_nonneg (show 0 ≤ A - x by omega) (show 0 ≤ B - y by omega)
  have a4 := Int.mul_nonneg (show 0 ≤ A + x by omega) (show 0 ≤ B + y by omega)
  simp only [Int.sub_mul, Int.mul_sub, Int.add_mul, Int.mul_add] at a1 a2 a3 a4
  omega
def okP (p : Pt) : Bool := decide (-16384 ≤ p.1 ∧ p.1 ≤ 16384 ∧ -16384 ≤ p.2 ∧ p.2 ≤ 16384)
theorem okP_t {p : Pt} (h : okP p = true) : -16384 ≤ p.1 ∧ p.1 ≤ 16384 ∧ -16384 ≤ p.2 ∧ p.2 ≤ 16384 := of_decide_eq_true h
theorem okP_f {p : Pt} (h : okP p = false) : ¬ (-16384 ≤ p.1 ∧ p.1 ≤ 16384 ∧ -16384 ≤ p.2 ∧ p.2 ≤ 16384) := of_decide_eq_false h
def crossZ (a b c : Pt) : Int := (b.1 - a.1) * (c.2 - a.2) - (b.2 - a.2) * (c.1 - a.1)
def dotZ (a b c : Pt) : Int := (b.1 - a.1) * (c.1 - a.1) + (b.2 - a.2) * (c.2 - a.2)
def sqZ (a b : Pt) : Int := (a.1 - b.1) * (a.1 - b.1) + (a.2 - b.2) * (a.2 - b.2)
def sgn (n : Int) : Int := if 0 < n then 1 else if n < 0 then -1 else 0
def sideZ (a b c : Pt) : Int := if okP a = true ∧ okP b = true ∧ okP c = true then sgn (crossZ a b c) else 0
theorem sgn_bd (n : Int) : -1 ≤ sgn n ∧ sgn n ≤ 1 := by unfold sgn; split <;> (try split) <;> omega
theorem sgn_pos {n : Int} (h : 0 < n) : sgn n = 1 := if_pos h
theorem sgn_neg {n : Int} (h : n < 0) : sgn n = -1 := by unfold sgn; rw [if_neg (by omega), if_pos h]
theorem sgn_zero {n : Int} (h : n ≤ 0) (h2 : 0 ≤ n) : sgn n = 0 := by unfold sgn; rw [if_neg (by omega), if_neg (by omega)]
theorem sideZ_ok {a b c : Pt} (h1 : okP a = true) (h2 : okP b = true) (h3 : okP c = true) : sideZ a b c = sgn (crossZ a b c) := if_pos ⟨h1, h2, h3⟩
theorem sideZ_no {a b c : Pt} (h : ¬ (okP a = true ∧ okP b = true ∧ okP c = true)) : sideZ a b c = 0 := if_neg h
/-- A product of differences of coordinates. -/
theorem prod_bd {x y u v : Int} (hx : -16384 ≤ x ∧ x ≤ 16384) (hy : -16384 ≤ y ∧ y ≤ 16384) (hu : -16384 ≤ u ∧ u ≤ 16384) (hv : -16384 ≤ v ∧ v ≤ 16384) : -1073741824 ≤ (x - y) * (u - v) ∧ (x - y) * (u - v) ≤ 1073741824 :=
  mul_bd (A := 32768) (B := 32768) (by omega) (by omega) (by omega) (by omega)
theorem cross_bd {a b c : Pt} (h1 : okP a = true) (h2 : okP b = true) (h3 : okP c = true) : -2147483648 ≤ crossZ a b c ∧ crossZ a b c ≤ 2147483648 := by
  obtain ⟨p1, p2, p3, p4⟩ := okP_t h1; obtain ⟨q1, q2, q3, q4⟩ := okP_t h2; obtain ⟨r1, r2, r3, r4⟩ := okP_t h3
  have e1 := prod_bd ⟨q1, q2⟩ ⟨p1, p2⟩ ⟨r3, r4⟩ ⟨p3, p4⟩
  have e2 := prod_bd ⟨q3, q4⟩ ⟨p3, p4⟩ ⟨r1, r2⟩ ⟨p1, p2⟩
  unfold crossZ; omega
theorem dot_bd {a b c : Pt} (h1 : okP a = true) (h2 : okP b = true) (h3 : okP c = true) : -2147483648 ≤ dotZ a b c ∧ dotZ a b c ≤ 2147483648 := by
  obtain ⟨p1, p2, p3, p4⟩ := okP_t h1; obtain ⟨q1, q2, q3, q4⟩ := okP_t h2; obtain ⟨r1, r2, r3, r4⟩ := okP_t h3
  have e1 := prod_bd ⟨q1, q2⟩ ⟨p1, p2⟩ ⟨r1, r2⟩ ⟨p1, p2⟩
  have e2 := prod_bd ⟨q3, q4⟩ ⟨p3, p4⟩ ⟨r3, r4⟩ ⟨p3, p4⟩
  unfold dotZ; omega
theorem sq_bd {a b : Pt} (h1 : okP a = true) (h2 : okP b = true) : -2147483648 ≤ sqZ a b ∧ sqZ a b ≤ 2147483648 := by
  obtain ⟨p1, p2, p3, p4⟩ := okP_t h1; obtain ⟨q1, q2, q3, q4⟩ := okP_t h2
  have e1 := prod_bd ⟨p1, p2⟩ ⟨q1, q2⟩ ⟨p1, p2⟩ ⟨q1, q2⟩
  have e2 := prod_bd ⟨p3, p4⟩ ⟨q3, q4⟩ ⟨p3, p4⟩ ⟨q3, q4⟩
  unfold sqZ; omega
/-- The program's test of a point on an edge, and the reference's. -/
def hasB (e : Ed) (c : Pt) : Bool := decide (crossZ e.1 e.2 c = 0) && decide (dotZ c e.1 e.2 ≤ 0)
def onB (a b c : Pt) : Bool := decide (crossZ a b c = 0) && decide (min a.1 b.1 ≤ c.1) && decide (c.1 ≤ max a.1 b.1) && decide (min a.2 b.2 ≤ c.2) && decide (c.2 ≤ max a.2 b.2)
def foldsB (e f : Ed) : Bool := decide (crossZ e.1 e.2 f.2 = 0) && decide (0 < dotZ e.2 e.1 f.2)
def meetsB (e f : Ed) : Bool := hasB e f.1 || hasB e f.2 || hasB f e.1 || hasB f e.2 || (decide (sgn (crossZ e.1 e.2 f.1) ≠ sgn (crossZ e.1 e.2 f.2)) && decide (sgn (crossZ f.1 f.2 e.1) ≠ sgn (crossZ f.1 f.2 e.2)))
def meetB (a b c d : Pt) : Bool := onB a b c || onB a b d || onB c d a || onB c d b || (decide (sideZ a b c * sideZ a b d < 0) && decide (sideZ c d a * sideZ c d b < 0))
/-- The edges of a polygon. -/
def pAt (p : List Pt) (i : Nat) : Pt := p.getD i (0, 0)
theorem pAt_get {p : List Pt} {i : Nat} (h : i < p.length) : pAt p i = p[i] := by unfold pAt; rw [List.getD_eq_getElem?_getD, List.getElem?_eq_getElem h]; rfl
def edgeZ (p : List Pt) (i : Nat) : Ed := (pAt p i, pAt p ((i + 1) % p.length))
def edgesL (p : List Pt) : List Ed := (List.range p.length).map (edgeZ p)
theorem edgesL_len (p : List Pt) : (edgesL p).length = p.length := by simp [edgesL]
theorem edgesL_at (p : List Pt) {i : Nat} (h : i < (edgesL p).length) : (edgesL p)[i] = edgeZ p i := by simp [edgesL]
def okE (e : Ed) : Bool := okP e.1 && okP e.2
theorem okE_t {e : Ed} (h : okE e = true) : okP e.1 = true ∧ okP e.2 = true := by simpa [okE] using h
theorem ok_all {p : List Pt} (h : p.all okP = true) {i : Nat} (hi : i < p.length) : okP (pAt p i) = true := by
  rw [pAt_get hi]; exact List.all_eq_true.1 h _ (List.getElem_mem hi)
theorem edges_ok {p : List Pt} (h : p.all okP = true) : ∀ e ∈ edgesL p, okE e = true := fun e he => by
  obtain ⟨i, hi, rfl⟩ := List.getElem_of_mem he
  rw [edgesL_at]
  rw [edgesL_len] at hi
  simp only [okE, edgeZ, ok_all h hi, ok_all h (Nat.mod_lt _ (Nat.lt_of_le_of_lt (Nat.zero_le _) hi)), Bool.and_self]
end Go.Proofs.Ytomnodpmpdodbaa
