/- The examples of the chapter: the walk of awake. -/
import Derived.Test.YtpipojgfpilhdaaPhN
namespace Go.Proofs.Ytpipojgfpilhdaa
open Go.RowKit
def colP (t : Nat) (A : Option Addr) (c : Nat) : Ph := ⟨1, 0, 9, 9, A, 81, c, colL t 81⟩
def photos3 (A B C : Option Addr) (a b c : Nat) : List Ph := [colP 1 A a, colP 0 B b, colP 4 C c]
theorem col_bytes (t : Nat) (ht : t ≤ 20) : Bytes (colL t 81) := fun b hb => by
  unfold colL at hb
  obtain ⟨i, _, rfl⟩ := List.mem_map.1 hb
  have : i % 9 * t ≤ 8 * 20 := Nat.mul_le_mul (by omega) ht
  omega
theorem aw1 (t : Nat) (A : Option Addr) (c : Nat) : pcheckZ (colP t A c) = 0 := by kernel_rfl
theorem aw2a : (List.range 64).all (bitM (colL 1 81) 9 9) = true := by kernel_rfl
theorem aw2b : markTo (fun _ => true) 64 = 18446744073709551615 := by kernel_rfl
theorem aw2 (A : Option Addr) (c : Nat) : markN (colP 1 A c) = 18446744073709551615 := by
  have h : markN (colP 1 A c) = markTo (bitM (colL 1 81) 9 9) 64 := by unfold markN; rw [if_pos (aw1 1 A c)]; rfl
  rw [h, ← aw2b]
  exact markTo_congr fun i hi => List.all_eq_true.1 aw2a i (by simpa using hi)
theorem aw3 (A : Option Addr) (c : Nat) : markN (colP 0 A c) = 0 := by kernel_rfl
theorem aw4 (A B C : Option Addr) (a b c : Nat) : repE (photos3 A B C a b c) 63 = 0 := by kernel_rfl
theorem aw5 (A B C : Option Addr) (a b c : Nat) : repP (photos3 A B C a b c) 63 = [(0, 2)] := by kernel_rfl
theorem aw6 (A : Option Addr) (c : Nat) : usableB (colP 1 A c) = false := by kernel_rfl
theorem aw7 (A : Option Addr) (c : Nat) : usableB (colP 4 A c) = true := by kernel_rfl
theorem aw8 (A : Option Addr) (c : Nat) : (digZ (colP 1 A c) != 0) = true := by kernel_rfl
theorem aw9 : (apartN 0 3 : Int) = 2 := by kernel_rfl
theorem col_1 (w : World) : Calls Try.prog 29 #[.int .i64 1] w (fun e w' => ∃ A c, e = .returned (aggF (colP 1 A c)) ∧ Below w.heap.size w w' ∧ PR w' (colP 1 A c)) :=
  (columns_any 1 w (by decide)).mono fun _ _ ⟨A, c, h1, h2, h3⟩ => ⟨A, c, h1, h2, h3, col_bytes 1 (by decide), (by decide : 81 ≤ 9223372036854775807)⟩
theorem col_0 (w : World) : Calls Try.prog 29 #[.int .i64 0] w (fun e w' => ∃ A c, e = .returned (aggF (colP 0 A c)) ∧ Below w.heap.size w w' ∧ PR w' (colP 0 A c)) :=
  (columns_any 0 w (by decide)).mono fun _ _ ⟨A, c, h1, h2, h3⟩ => ⟨A, c, h1, h2, h3, col_bytes 0 (by decide), (by decide : 81 ≤ 9223372036854775807)⟩
theorem col_4 (w : World) : Calls Try.prog 29 #[.int .i64 4] w (fun e w' => ∃ A c, e = .returned (aggF (colP 4 A c)) ∧ Below w.heap.size w w' ∧ PR w' (colP 4 A c)) :=
  (columns_any 4 w (by decide)).mono fun _ _ ⟨A, c, h1, h2, h3⟩ => ⟨A, c, h1, h2, h3, col_bytes 4 (by decide), (by decide : 81 ≤ 9223372036854775807)⟩
theorem encF_col (t : Nat) (A : Option Addr) (c : Nat) : encF (colP t A c) = [.int .i64 1, .int .i64 0, .int .i64 9, .int .i64 9, .slice A 81 c] := rfl
theorem ps_fresh (u : World) (A B C : Option Addr) (a b c : Nat) (h1 : PR u (colP 1 A a)) (h2 : PR u (colP 0 B b)) (h3 : PR u (colP 4 C c)) :
    PsR (u.alloc (.cells #[.int .i64 1, .int .i64 0, .int .i64 9, .int .i64 9, .slice A 81 a, .int .i64 1, .int .i64 0, .int .i64 9, .int .i64 9, .slice B 81 b, .int .i64 1, .int .i64 0, .int .i64 9, .int .i64 9, .slice C 81 c] 24)) (some ⟨u.heap.size, 0, none⟩) 3 (photos3 A B C a b c) := by
  have h := Reads.fresh u 24 #[.int .i64 1, .int .i64 0, .int .i64 9, .int .i64 9, .slice A 81 a, .int .i64 1, .int .i64 0, .int .i64 9, .int .i64 9, .slice B 81 b, .int .i64 1, .int .i64 0, .int .i64 9, .int .i64 9, .slice C 81 c] 3 5 rfl
  have hb := (Below.refl u.heap.size u).alloc (Nat.le_refl _) (.cells #[.int .i64 1, .int .i64 0, .int .i64 9, .int .i64 9, .slice A 81 a, .int .i64 1, .int .i64 0, .int .i64 9, .int .i64 9, .slice B 81 b, .int .i64 1, .int .i64 0, .int .i64 9, .int .i64 9, .slice C 81 c] 24)
  refine ⟨h.more (by simp), fun p hp => ?_, rfl⟩
  simp only [photos3, List.mem_cons, List.not_mem_nil, or_false] at hp
  rcases hp with rfl | rfl | rfl
  · exact h1.below hb
  · exact h2.below hb
  · exact h3.below hb
def AwakePost (w : World) (e : Ending) (w' : World) : Prop := e = .returned (.bool true) ∧ Below w.heap.size w w'
theorem eq47 (w : World) : (Op.equalIn 10000 47 (.agg #[.int .i64 0, .int .i64 2]) (.agg #[.int .i64 0, .int .i64 2])).run Try.prog w = .ok true w := by kernel_rfl
set_option maxHeartbeats 8000000 in
set_option maxRecDepth 100000 in
theorem awake_any (w : World) : Calls Try.prog 12 #[] w (AwakePost w) := by
  have hq := eq47
  go_enter Try.func12, Try.ntmps12
  go_wp2_with fail
  have kk := Below.refl w.heap.size w
  refine (col_1 _).mono ?_
  rintro e w1 ⟨A1, c1, rfl, hb1, p1⟩
  have P1 := Lib.hid p1
  clear p1
  replace kk := below_next kk (Nat.le_refl _) hb1
  clear hb1
  go_wp2_with fail
  refine (mark_any (colP 1 A1 c1) 18446744073709551615 0 _ P1.out (aw2 _ _) (aw1 _ _ _)).mono ?_
  rintro e w2 ⟨rfl, hb2⟩
  replace kk := below_next kk (Nat.le_refl _) hb2
  clear hb2
  go_wp2_with fail
  refine (col_0 _).mono ?_
  rintro e w3 ⟨A2, c2, rfl, hb3, p2⟩
  have P2 := Lib.hid p2
  clear p2 P1
  replace kk := below_next kk (Nat.le_refl _) hb3
  clear hb3
  go_wp2_with fail
  refine (mark_any (colP 0 A2 c2) 0 0 _ P2.out (aw3 _ _) (aw1 _ _ _)).mono ?_
  rintro e w4 ⟨rfl, hb4⟩
  replace kk := below_next kk (Nat.le_refl _) hb4
  clear hb4
  go_wp2_with fail
  refine (col_1 _).mono ?_
  rintro e w5 ⟨A3, c3, rfl, hb5, p3⟩
  have P3 := Lib.hid p3
  clear p3 P2
  replace kk := below_next kk (Nat.le_refl _) hb5
  clear hb5
  go_wp2_with fail
  refine (col_0 _).mono ?_
  rintro e w6 ⟨A4, c4, rfl, hb6, p4⟩
  have P4 := Lib.hid p4
  replace P3 := Lib.hid (P3.out.below hb6)
  clear p4
  replace kk := below_next kk (Nat.le_refl _) hb6
  clear hb6
  go_wp2_with fail
  refine (col_4 _).mono ?_
  rintro e w7 ⟨A5, c5, rfl, hb7, p5⟩
  have P5 := Lib.hid p5
  replace P3 := Lib.hid (P3.out.below hb7)
  replace P4 := Lib.hid (P4.out.below hb7)
  clear p5
  replace kk := below_next kk (Nat.le_refl _) hb7
  clear hb7
  go_wp2_with fail
  have HPS := Lib.hid (ps_fresh w7 A3 A4 A5 c3 c4 c5 P3.out P4.out P5.out)
  replace kk := kk.alloc kk.size (.cells #[.int .i64 1, .int .i64 0, .int .i64 9, .int .i64 9, .slice A3 81 c3, .int .i64 1, .int .i64 0, .int .i64 9, .int .i64 9, .slice A4 81 c4, .int .i64 1, .int .i64 0, .int .i64 9, .int .i64 9, .slice A5 81 c5] 24)
  clear P3 P4 P5
  refine (repeats_any (some ⟨w7.heap.size, 0, none⟩) 3 3 (photos3 A3 A4 A5 c3 c4 c5) 63 0 [(0, 2)] _ HPS.out (by decide) (aw4 _ _ _ _ _ _) (aw5 _ _ _ _ _ _)).mono ?_
  rintro e w8 ⟨AR, nr, cr, rfl, hr, hb8⟩
  obtain rfl : nr = 1 := (recs_len hr encPt_len (by omega)).symm
  obtain ⟨bR, oR, rfl, hbR, hcR⟩ := hr.recs encPt_len (by omega) (by omega)
  have e0 : w8.cell? ⟨bR, oR, none⟩ = some (.int .i64 0) := hcR 0 (by decide) 0 _ rfl
  have e1 : w8.cell? ⟨bR, oR + 1, none⟩ = some (.int .i64 2) := hcR 0 (by decide) 1 _ rfl
  have E0 := Lib.hid e0; have E1 := Lib.hid e1; have HBR := Lib.hid hbR
  replace kk := below_next kk (Nat.le_refl _) hb8
  have kr := Below.refl w8.heap.size w8
  clear hr hcR e0 e1 hbR hb8 HPS
  go_wp2_with fail
  refine (col_1 _).mono ?_
  rintro e w9 ⟨A6, c6, rfl, hb9, p6⟩
  have P6 := Lib.hid p6
  clear p6
  replace kk := below_next kk (Nat.le_refl _) hb9
  replace kr := below_next kr (Nat.le_refl _) hb9
  clear hb9
  go_wp2_with fail
  obtain ⟨dg, hdg⟩ : ∃ d, digZ (colP 1 A6 c6) = d := ⟨_, rfl⟩
  have hd0 := aw8 A6 c6
  rw [hdg] at hd0
  have HDG := Lib.hid hdg
  clear hdg
  refine (digest_any (colP 1 A6 c6) dg 0 _ P6.out HDG.out (aw1 _ _ _)).mono ?_
  rintro e w10 ⟨rfl, hb10⟩
  replace kk := below_next kk (Nat.le_refl _) hb10
  replace kr := below_next kr (Nat.le_refl _) hb10
  have e0 := (kr.cell (p := ⟨bR, oR, none⟩) HBR.out).trans E0.out
  have e1 := (kr.cell (p := ⟨bR, oR + 1, none⟩) HBR.out).trans E1.out
  clear hb10 P6 HDG kr
  go_wp2_with fail
  refine (col_1 _).mono ?_
  rintro e w11 ⟨A7, c7, rfl, hb11, p7⟩
  have P7 := Lib.hid p7
  clear p7 e0 e1
  replace kk := below_next kk (Nat.le_refl _) hb11
  clear hb11
  go_wp2_with fail
  refine (usable_any (colP 1 A7 c7) false _ P7.out (aw6 _ _)).mono ?_
  rintro e w12 ⟨rfl, hb12⟩
  replace kk := below_next kk (Nat.le_refl _) hb12
  clear hb12
  go_wp2_with fail
  refine (col_4 _).mono ?_
  rintro e w13 ⟨A8, c8, rfl, hb13, p8⟩
  have P8 := Lib.hid p8
  clear p8
  replace kk := below_next kk (Nat.le_refl _) hb13
  clear hb13
  go_wp2_with fail
  refine (usable_any (colP 4 A8 c8) true _ P8.out (aw7 _ _)).mono ?_
  rintro e w14 ⟨rfl, hb14⟩
  replace kk := below_next kk (Nat.le_refl _) hb14
  clear hb14
  go_wp2_with fail
  refine (apart_b 0 3 2 _ (by decide) (by decide) aw9).mono ?_
  rintro e w15 ⟨rfl, hb15⟩
  replace kk := below_next kk (Nat.le_refl _) hb15
  clear hb15
  go_wp2_with fail
  refine (pcheck_any ⟨0, 0, 0, 0, none, 0, 0, []⟩ 1 _ (by kernel_rfl)).mono ?_
  rintro e w16 ⟨rfl, hb16⟩
  replace kk := below_next kk (Nat.le_refl _) hb16
  clear hb16
  go_wp2_with fail
  go_ret
  exact ⟨rfl, kk⟩
end Go.Proofs.Ytpipojgfpilhdaa
