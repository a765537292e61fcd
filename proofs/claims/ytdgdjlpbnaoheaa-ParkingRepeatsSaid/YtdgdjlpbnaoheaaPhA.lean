/- Photos: what Check says; the walks of both Check and of Few. -/
import Derived.Test.YtdgdjlpbnaoheaaGeoPure
import Derived.Test.YtdgdjlpbnaoheaaFrame
namespace Go.Proofs.Ytdgdjlpbnaoheaa
open Go.RowKit
/-- A photo: ride, moment, columns, rows, where its pixels lie, and the pixels. -/
structure Ph where
  ride : Int
  tm : Int
  W : Int
  H : Int
  A : Option Addr
  n : Nat
  c : Nat
  px : List Int
def cellsU (l : List Int) : List Value := l.map (Value.int .u8)
def encF (p : Ph) : List Value := [.int .i64 p.ride, .int .i64 p.tm, .int .i64 p.W, .int .i64 p.H, .slice p.A p.n p.c]
theorem encF_len (p : Ph) : (encF p).length = 5 := rfl
abbrev aggF (p : Ph) : Value := .agg #[.int .i64 p.ride, .int .i64 p.tm, .int .i64 p.W, .int .i64 p.H, .slice p.A p.n p.c]
def pcheckZ (p : Ph) : Int := if p.ride < 1 ∨ 1000000 < p.ride ∨ p.tm < 0 ∨ 4294943999 < p.tm ∨ p.W < 9 ∨ 64 < p.W ∨ p.H < 9 ∨ 64 < p.H then 1 else if (p.n : Int) ≠ p.W * p.H then 3 else 0
theorem pcheck_inv {p : Ph} (h : pcheckZ p = 0) : 1 ≤ p.ride ∧ p.ride ≤ 1000000 ∧ 0 ≤ p.tm ∧ p.tm ≤ 4294943999 ∧ 9 ≤ p.W ∧ p.W ≤ 64 ∧ 9 ≤ p.H ∧ p.H ≤ 64 ∧ (p.n : Int) = p.W * p.H := by
  unfold pcheckZ at h
  split at h
  · exact absurd h (by decide)
  · split at h
    · exact absurd h (by decide)
    · rename_i h1 h2
      refine ⟨by omega, by omega, by omega, by omega, by omega, by omega, by omega, by omega, ?_⟩
      rcases Classical.em ((p.n : Int) = p.W * p.H) with g | g
      · exact g
      · exact absurd g h2
theorem pcheck_1 {p : Ph} (h : p.ride < 1 ∨ 1000000 < p.ride ∨ p.tm < 0 ∨ 4294943999 < p.tm ∨ p.W < 9 ∨ 64 < p.W ∨ p.H < 9 ∨ 64 < p.H) : pcheckZ p = 1 := if_pos h
theorem pcheck_cases (p : Ph) : (pcheckZ p = 1 ∧ (p.ride < 1 ∨ (1 ≤ p.ride ∧ 1000000 < p.ride) ∨ (1 ≤ p.ride ∧ p.ride ≤ 1000000 ∧ p.tm < 0) ∨ (1 ≤ p.ride ∧ p.ride ≤ 1000000 ∧ 0 ≤ p.tm ∧ 4294943999 < p.tm) ∨ (1 ≤ p.ride ∧ p.ride ≤ 1000000 ∧ 0 ≤ p.tm ∧ p.tm ≤ 4294943999 ∧ p.W < 9) ∨ (1 ≤ p.ride ∧ p.ride ≤ 1000000 ∧ 0 ≤ p.tm ∧ p.tm ≤ 4294943999 ∧ 9 ≤ p.W ∧ 64 < p.W) ∨ (1 ≤ p.ride ∧ p.ride ≤ 1000000 ∧ 0 ≤ p.tm ∧ p.tm ≤ 4294943999 ∧ 9 ≤ p.W ∧ p.W ≤ 64 ∧ p.H < 9) ∨ (1 ≤ p.ride ∧ p.ride ≤ 1000000 ∧ 0 ≤ p.tm ∧ p.tm ≤ 4294943999 ∧ 9 ≤ p.W ∧ p.W ≤ 64 ∧ 9 ≤ p.H ∧ 64 < p.H)))
    ∨ ((1 ≤ p.ride ∧ p.ride ≤ 1000000 ∧ 0 ≤ p.tm ∧ p.tm ≤ 4294943999 ∧ 9 ≤ p.W ∧ p.W ≤ 64 ∧ 9 ≤ p.H ∧ p.H ≤ 64) ∧ ((pcheckZ p = 3 ∧ ((p.n : Int) != p.W * p.H) = true) ∨ (pcheckZ p = 0 ∧ ((p.n : Int) != p.W * p.H) = false))) := by
  by_cases h : p.ride < 1 ∨ 1000000 < p.ride ∨ p.tm < 0 ∨ 4294943999 < p.tm ∨ p.W < 9 ∨ 64 < p.W ∨ p.H < 9 ∨ 64 < p.H
  · exact .inl ⟨pcheck_1 h, by omega⟩
  · refine .inr ⟨by omega, ?_⟩
    unfold pcheckZ
    rw [if_neg h]
    by_cases g : (p.n : Int) = p.W * p.H
    · exact .inr ⟨if_neg (fun e => e g), by simp [g]⟩
    · exact .inl ⟨if_pos g, by simpa using g⟩
theorem mul_wh {W H : Int} (h1 : 9 ≤ W) (h2 : W ≤ 64) (h3 : 9 ≤ H) (h4 : H ≤ 64) : 0 ≤ W * H ∧ W * H ≤ 4096 := by
  have := mul_bd (A := 64) (B := 64) (x := W) (y := H) (by omega) (by omega) (by omega) (by omega)
  have := Int.mul_nonneg (show 0 ≤ W by omega) (show 0 ≤ H by omega)
  omega
set_option maxHeartbeats 2000000 in
theorem pcheck_any (p : Ph) (x : Int) (w : World) (hx : pcheckZ p = x) : Calls Try.prog 66 #[aggF p] w (RetI w x) := by
  obtain ⟨kk, hK⟩ := box1K w 46 #[.int .i64 p.ride, .int .i64 p.tm, .int .i64 p.W, .int .i64 p.H, .slice p.A p.n p.c]
  have HK := Lib.hid hK
  clear hK
  obtain ⟨B0, hbb⟩ := HK.out _ kk
  have c00 := B0.cell 0
  have c01 := B0.cell 1
  have c02 := B0.cell 2
  have c03 := B0.cell 3
  have c04 := B0.cell 4
  have HB := Lib.hid hbb
  clear B0 hbb
  have hcs := pcheck_cases p
  rw [hx] at hcs
  clear hx
  rcases hcs with ⟨rfl, hcs⟩ | ⟨hb, hcs⟩
  · rcases hcs with g | ⟨g1, g⟩ | ⟨g1, g2, g⟩ | ⟨g1, g2, g3, g⟩ | ⟨g1, g2, g3, g4, g⟩ | ⟨g1, g2, g3, g4, g5, g⟩ | ⟨g1, g2, g3, g4, g5, g6, g⟩ | ⟨g1, g2, g3, g4, g5, g6, g7, g⟩
    all_goals
      go_enter Try.func66, Try.ntmps66
      go_wp2_with fail
      go_ret
      exact ⟨rfl, HB.out⟩
  · obtain ⟨g1, g2, g3, g4, g5, g6, g7, g8⟩ := hb
    have f1 := wr_ (n := p.W * p.H) (by have := mul_wh g5 g6 g7 g8; omega)
    rcases hcs with ⟨rfl, g⟩ | ⟨rfl, g⟩
    all_goals
      go_enter Try.func66, Try.ntmps66
      go_wp2_with fail
      go_ret
      exact ⟨rfl, HB.out⟩
set_option maxHeartbeats 2000000 in
theorem rpcheck_any (p : Ph) (x : Int) (w : World) (hx : pcheckZ p = x) : Calls Try.prog 32 #[aggF p] w (RetI w x) := by
  obtain ⟨kk, hK⟩ := box1K w 46 #[.int .i64 p.ride, .int .i64 p.tm, .int .i64 p.W, .int .i64 p.H, .slice p.A p.n p.c]
  have HK := Lib.hid hK
  clear hK
  obtain ⟨B0, hbb⟩ := HK.out _ kk
  have c00 := B0.cell 0
  have c01 := B0.cell 1
  have c02 := B0.cell 2
  have c03 := B0.cell 3
  have c04 := B0.cell 4
  have HB := Lib.hid hbb
  clear B0 hbb
  have hcs := pcheck_cases p
  rw [hx] at hcs
  clear hx
  rcases hcs with ⟨rfl, hcs⟩ | ⟨hb, hcs⟩
  · rcases hcs with g | ⟨g1, g⟩ | ⟨g1, g2, g⟩ | ⟨g1, g2, g3, g⟩ | ⟨g1, g2, g3, g4, g⟩ | ⟨g1, g2, g3, g4, g5, g⟩ | ⟨g1, g2, g3, g4, g5, g6, g⟩ | ⟨g1, g2, g3, g4, g5, g6, g7, g⟩
    all_goals
      go_enter Try.func32, Try.ntmps32
      go_wp2_with fail
      go_ret
      exact ⟨rfl, HB.out⟩
  · obtain ⟨g1, g2, g3, g4, g5, g6, g7, g8⟩ := hb
    have f1 := wr_ (n := p.W * p.H) (by have := mul_wh g5 g6 g7 g8; omega)
    rcases hcs with ⟨rfl, g⟩ | ⟨rfl, g⟩
    all_goals
      go_enter Try.func32, Try.ntmps32
      go_wp2_with fail
      go_ret
      exact ⟨rfl, HB.out⟩
end Go.Proofs.Ytdgdjlpbnaoheaa
