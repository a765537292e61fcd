/- Plain words for parked bicycles: what Check, Judge and All say, with no program in sight. -/
import Derived.Test.YtdgdjlpbnaoheaaFcC
import Derived.Test.YtdgdjlpbnaoheaaPhG
import Derived.Test.YtdgdjlpbnaoheaaPhB
namespace Go.Proofs.Ytdgdjlpbnaoheaa
open Go.RowKit
/-- A parked bicycle: ride, rider, moment, place, radius. -/
structure Pk where
  ride : Int
  rider : Int
  tm : Int
  x : Int
  y : Int
  r : Int
def encPk (p : Pk) : List Value := [.int .i64 p.ride, .int .i64 p.rider, .int .i64 p.tm, .int .i64 p.x, .int .i64 p.y, .int .i64 p.r]
def cellsPk (l : List Pk) : List Value := l.flatMap encPk
theorem encPk_len (p : Pk) : (encPk p).length = 6 := rfl
abbrev aggK (p : Pk) : Value := .agg #[.int .i64 p.ride, .int .i64 p.rider, .int .i64 p.tm, .int .i64 p.x, .int .i64 p.y, .int .i64 p.r]
def inB (n lo hi : Int) : Bool := decide (lo ≤ n) && decide (n ≤ hi)
theorem inB_t {n lo hi : Int} (h : inB n lo hi = true) : lo ≤ n ∧ n ≤ hi := by unfold inB at h; simpa using h
theorem inB_ok {n lo hi : Int} (h : lo ≤ n ∧ n ≤ hi) : inB n lo hi = true := by unfold inB; simpa using h
theorem inB_lo {n lo hi : Int} (h : n < lo) : inB n lo hi = false := by unfold inB; rw [decide_eq_false (by omega)]; rfl
theorem inB_hi {n lo hi : Int} (h : hi < n) : inB n lo hi = false := by unfold inB; rw [decide_eq_false (show ¬ n ≤ hi by omega), Bool.and_false]
theorem inB_f {n lo hi : Int} (h : inB n lo hi = false) : n < lo ∨ (lo ≤ n ∧ hi < n) := by
  rcases Classical.em (n < lo) with g | g
  · exact .inl g
  · refine .inr ⟨by omega, ?_⟩
    rcases Classical.em (hi < n) with g2 | g2
    · exact g2
    · rw [inB_ok ⟨by omega, by omega⟩] at h; cases h
/-- The bicycle's numbers are within their limits. -/
def pkB (p : Pk) : Bool := inB p.ride 1 1000000 && inB p.rider 0 127 && inB p.tm 0 4294943999 && inB p.x (-16384) 16384 && inB p.y (-16384) 16384 && inB p.r 0 16384
def pkZ (p : Pk) : Int := if pkB p = true then 0 else 1
theorem pkZ_1 {p : Pk} (h : pkB p = false) : pkZ p = 1 := by unfold pkZ; rw [h]; rfl
theorem pkZ_0 {p : Pk} (h : pkB p = true) : pkZ p = 0 := by unfold pkZ; rw [h]; rfl
theorem pkB_inv {p : Pk} (h : pkB p = true) : (1 ≤ p.ride ∧ p.ride ≤ 1000000) ∧ (0 ≤ p.rider ∧ p.rider ≤ 127) ∧ (0 ≤ p.tm ∧ p.tm ≤ 4294943999) ∧ (-16384 ≤ p.x ∧ p.x ≤ 16384) ∧ (-16384 ≤ p.y ∧ p.y ≤ 16384) ∧ (0 ≤ p.r ∧ p.r ≤ 16384) := by
  unfold pkB at h
  simp only [Bool.and_eq_true] at h
  obtain ⟨⟨⟨⟨⟨h1, h2⟩, h3⟩, h4⟩, h5⟩, h6⟩ := h
  exact ⟨inB_t h1, inB_t h2, inB_t h3, inB_t h4, inB_t h5, inB_t h6⟩
/-- The first of the six numbers that is out of its limits. -/
theorem pkB_cases (p : Pk) : (pkB p = false ∧ inB p.ride 1 1000000 = false) ∨ (pkB p = false ∧ inB p.ride 1 1000000 = true ∧ inB p.rider 0 127 = false) ∨ (pkB p = false ∧ inB p.ride 1 1000000 = true ∧ inB p.rider 0 127 = true ∧ inB p.tm 0 4294943999 = false) ∨ (pkB p = false ∧ inB p.ride 1 1000000 = true ∧ inB p.rider 0 127 = true ∧ inB p.tm 0 4294943999 = true ∧ inB p.x (-16384) 16384 = false) ∨ (pkB p = false ∧ inB p.ride 1 1000000 = true ∧ inB p.rider 0 127 = true ∧ inB p.tm 0 4294943999 = true ∧ inB p.x (-16384) 16384 = true ∧ inB p.y (-16384) 16384 = false) ∨ (pkB p = false ∧ inB p.ride 1 1000000 = true ∧ inB p.rider 0 127 = true ∧ inB p.tm 0 4294943999 = true ∧ inB p.x (-16384) 16384 = true ∧ inB p.y (-16384) 16384 = true ∧ inB p.r 0 16384 = false) ∨ (pkB p = true ∧ inB p.ride 1 1000000 = true ∧ inB p.rider 0 127 = true ∧ inB p.tm 0 4294943999 = true ∧ inB p.x (-16384) 16384 = true ∧ inB p.y (-16384) 16384 = true ∧ inB p.r 0 16384 = true) := by
  unfold pkB
  cases inB p.ride 1 1000000 <;> cases inB p.rider 0 127 <;> cases inB p.tm 0 4294943999 <;> cases inB p.x (-16384) 16384 <;> cases inB p.y (-16384) 16384 <;> cases inB p.r 0 16384 <;> simp
/-- The error of Judge: of the bicycle, of the fences, of too many photos. -/
def faultZ (l : List Fc) (m : Nat) (p : Pk) : Int := if pkZ p ≠ 0 then pkZ p else if fcheckZ l ≠ 0 then fcheckZ l else if 64 < m then 8 else 0
theorem fault_pk {l : List Fc} {m : Nat} {p : Pk} (h : pkZ p ≠ 0) : faultZ l m p = pkZ p := if_pos h
theorem fault_fc {l : List Fc} {m : Nat} {p : Pk} (h : pkZ p = 0) (h1 : fcheckZ l ≠ 0) : faultZ l m p = fcheckZ l := by unfold faultZ; rw [if_neg (fun e => e h), if_pos h1]
theorem fault_full {l : List Fc} {m : Nat} {p : Pk} (h : pkZ p = 0) (h1 : fcheckZ l = 0) (h2 : 64 < m) : faultZ l m p = 8 := by unfold faultZ; rw [if_neg (fun e => e h), if_neg (fun e => e h1), if_pos h2]
theorem fault_ok {l : List Fc} {m : Nat} {p : Pk} (h : pkZ p = 0) (h1 : fcheckZ l = 0) (h2 : ¬ 64 < m) : faultZ l m p = 0 := by unfold faultZ; rw [if_neg (fun e => e h), if_neg (fun e => e h1), if_neg h2]
theorem fault_inv {l : List Fc} {m : Nat} {p : Pk} (h : faultZ l m p = 0) : pkB p = true ∧ fcheckZ l = 0 ∧ m ≤ 64 := by
  rcases hb : pkB p with _ | _
  · rw [fault_pk (by rw [pkZ_1 hb]; decide), pkZ_1 hb] at h; exact absurd h (by decide)
  · by_cases h1 : fcheckZ l = 0
    · by_cases h2 : 64 < m
      · rw [fault_full (pkZ_0 hb) h1 h2] at h; exact absurd h (by decide)
      · exact ⟨rfl, h1, by omega⟩
    · rw [fault_fc (pkZ_0 hb) h1] at h; exact absurd h h1
def someB (l : List Fc) (k t : Int) : Bool := l.any fun f => decide (f.k = k) && activeB f t
/-- Does a photo count? -/
def countB (x : Ph) (p : Pk) : Bool := decide (x.ride = p.ride) && inB x.tm (p.tm - 300) (p.tm + 300) && usableB x
def countsB (l : List Ph) (p : Pk) : Bool := l.any fun x => countB x p
def judgeB (s1 p1 s2 p2 only c : Bool) : Int := if s1 = true then 2 else if only = true ∧ p2 = false then 2 else if p1 = false ∧ (s2 = true ∨ only = false) then 1 else if c = true then 1 else 3
/-- Is there a fence of a kind that surely, that possibly contains the bicycle? -/
def sureA (l : List Fc) (k : Int) (p : Pk) : Bool := l.any (sureB k (p.x, p.y) p.r p.tm)
def possA (l : List Fc) (k : Int) (p : Pk) : Bool := l.any (possB k (p.x, p.y) p.r p.tm)
def judgeZ (l : List Fc) (c : Bool) (p : Pk) : Int := judgeB (sureA l 1 p) (possA l 1 p) (sureA l 2 p) (possA l 2 p) (someB l 2 p.tm) c
theorem quest_of {l : List Fc} {p : Pk} (hp : pkB p = true) (hl : fcheckZ l = 0) {k : Int} (hk : kindB k = true) : questZ l k (p.x, p.y) p.r p.tm = 0 := by
  obtain ⟨_, _, h3, h4, h5, h6⟩ := pkB_inv hp
  refine quest_ok hl hk ?_
  unfold rangeB okP
  simp
  omega
theorem sureN_pos {l : List Fc} {p : Pk} (hp : pkB p = true) (hl : fcheckZ l = 0) {k : Int} (hk : kindB k = true) : decide (0 < sureN l k (p.x, p.y) p.r p.tm) = sureA l k p := by
  rw [sureN_ok (quest_of hp hl hk)]
  unfold sureA
  rcases h : l.any (sureB k (p.x, p.y) p.r p.tm) with _ | _
  · refine decide_eq_false fun e => ?_
    rw [numsL_pos, h] at e; cases e
  · exact decide_eq_true ((numsL_pos _ l 0).2 h)
theorem possN_pos {l : List Fc} {p : Pk} (hp : pkB p = true) (hl : fcheckZ l = 0) {k : Int} (hk : kindB k = true) : decide (0 < possN l k (p.x, p.y) p.r p.tm) = possA l k p := by
  rw [possN_ok (quest_of hp hl hk)]
  unfold possA
  rcases h : l.any (possB k (p.x, p.y) p.r p.tm) with _ | _
  · refine decide_eq_false fun e => ?_
    rw [numsL_pos, h] at e; cases e
  · exact decide_eq_true ((numsL_pos _ l 0).2 h)
/-- Does a photo repeat an earlier one of another ride? -/
def repB (l : List Ph) (x : Ph) : Bool := decide (pcheckZ x = 0) && l.any fun y => decide (pcheckZ y = 0) && decide (y.ride ≠ x.ride) && decide (apartN (markN y) (markN x) ≤ 4)
def origT (l : List Ph) : Nat → List Ph
  | 0 => []
  | k + 1 => if repB (l.take k) (phAt l k) = true then origT l k else origT l k ++ [phAt l k]
def origL (l : List Ph) : List Ph := origT l l.length
theorem origT_mem (l : List Ph) : ∀ k, k ≤ l.length → ∀ x ∈ origT l k, x ∈ l
  | 0, _, x, h => by cases h
  | k + 1, hk, x, h => by
    unfold origT at h
    split at h
    · exact origT_mem l k (by omega) x h
    · rcases List.mem_append.1 h with h | h
      · exact origT_mem l k (by omega) x h
      · rw [List.mem_singleton.1 h, phAt_get (by omega)]; exact List.getElem_mem _
theorem origT_len (l : List Ph) : ∀ k, (origT l k).length ≤ k
  | 0 => Nat.le_refl _
  | k + 1 => by
    have := origT_len l k
    unfold origT
    split
    · omega
    · rw [List.length_append]; simp; omega
def parkedR (w : World) (A : Option Addr) (n : Nat) (l : List Pk) : Prop := Reads w w.heap.size 6 A n (cellsPk l) ∧ l.length = n
theorem parkedR.below {w w' : World} {A : Option Addr} {n : Nat} {l : List Pk} (h : parkedR w A n l) (hb : Below w.heap.size w w') : parkedR w' A n l := ⟨(h.1.below hb).more hb.size, h.2⟩
theorem parkedR.cells {w : World} {A : Option Addr} {n : Nat} {l : List Pk} (h : parkedR w A n l) (hn : 0 < n) : ∃ b off, A = some ⟨b, off, none⟩ ∧ b < w.heap.size ∧ ∀ k (hk : k < l.length), w.cell? ⟨b, off + k * 6, none⟩ = some (.int .i64 l[k].ride) ∧ w.cell? ⟨b, off + k * 6 + 1, none⟩ = some (.int .i64 l[k].rider) ∧ w.cell? ⟨b, off + k * 6 + 2, none⟩ = some (.int .i64 l[k].tm) ∧ w.cell? ⟨b, off + k * 6 + 3, none⟩ = some (.int .i64 l[k].x) ∧ w.cell? ⟨b, off + k * 6 + 4, none⟩ = some (.int .i64 l[k].y) ∧ w.cell? ⟨b, off + k * 6 + 5, none⟩ = some (.int .i64 l[k].r) := by
  obtain ⟨b, off, e, hb, hc⟩ := h.1.recs encPk_len (by omega) hn
  exact ⟨b, off, e, hb, fun k hk => ⟨hc k hk 0 _ rfl, hc k hk 1 _ rfl, hc k hk 2 _ rfl, hc k hk 3 _ rfl, hc k hk 4 _ rfl, hc k hk 5 _ rfl⟩⟩
def pkAt (l : List Pk) (i : Nat) : Pk := l.getD i ⟨0, 0, 0, 0, 0, 0⟩
theorem pkAt_get {l : List Pk} {i : Nat} (h : i < l.length) : pkAt l i = l[i] := by unfold pkAt; rw [List.getD_eq_getElem?_getD, List.getElem?_eq_getElem h]; rfl
end Go.Proofs.Ytdgdjlpbnaoheaa
