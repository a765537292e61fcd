/- The examples of the chapter: the walk of awake. -/
import Derived.Test.YtdgdjlpbnaoheaaPkK
namespace Go.Proofs.Ytdgdjlpbnaoheaa
open Go.RowKit
theorem fc_one (u : World) (g : Nat) (hg : u.heap.size = g) (f : Fc) (h : Reads u u.heap.size 2 f.A f.n (cellsPt f.p)) (hn : f.n ≤ 9223372036854775807) : FcR (u.alloc (.cells #[.int .i64 f.k, .slice f.A f.n f.c, .int .i64 f.wf, .int .i64 f.wt, .int .i64 f.hf, .int .i64 f.ht] 61)) (some ⟨g, 0, none⟩) 1 [f] := by
  subst hg
  have h1 := Reads.fresh u 61 #[.int .i64 f.k, .slice f.A f.n f.c, .int .i64 f.wf, .int .i64 f.wt, .int .i64 f.hf, .int .i64 f.ht] 1 6 rfl
  have hb := (Below.refl u.heap.size u).alloc (Nat.le_refl _) (.cells #[.int .i64 f.k, .slice f.A f.n f.c, .int .i64 f.wf, .int .i64 f.wt, .int .i64 f.hf, .int .i64 f.ht] 61)
  refine ⟨h1.more (by simp), fun q hq => ?_, rfl⟩
  obtain rfl := List.mem_singleton.mp hq
  exact ⟨(h.below hb).more hb.size, hn⟩
theorem ph_two (u : World) (p q : Ph) (h : PR u p) (h2 : PR u q) : PsR (u.alloc (.cells #[.int .i64 p.ride, .int .i64 p.tm, .int .i64 p.W, .int .i64 p.H, .slice p.A p.n p.c, .int .i64 q.ride, .int .i64 q.tm, .int .i64 q.W, .int .i64 q.H, .slice q.A q.n q.c] 46)) (some ⟨u.heap.size, 0, none⟩) 2 [p, q] := by
  have h1 := Reads.fresh u 46 #[.int .i64 p.ride, .int .i64 p.tm, .int .i64 p.W, .int .i64 p.H, .slice p.A p.n p.c, .int .i64 q.ride, .int .i64 q.tm, .int .i64 q.W, .int .i64 q.H, .slice q.A q.n q.c] 2 5 rfl
  have hb := (Below.refl u.heap.size u).alloc (Nat.le_refl _) (.cells #[.int .i64 p.ride, .int .i64 p.tm, .int .i64 p.W, .int .i64 p.H, .slice p.A p.n p.c, .int .i64 q.ride, .int .i64 q.tm, .int .i64 q.W, .int .i64 q.H, .slice q.A q.n q.c] 46)
  refine ⟨h1.more (by simp), fun z hz => ?_, rfl⟩
  simp only [List.mem_cons, List.not_mem_nil, or_false] at hz
  rcases hz with rfl | rfl
  · exact h.below hb
  · exact h2.below hb
theorem pk_two (u : World) (p q : Pk) : parkedR (u.alloc (.cells #[.int .i64 p.ride, .int .i64 p.rider, .int .i64 p.tm, .int .i64 p.x, .int .i64 p.y, .int .i64 p.r, .int .i64 q.ride, .int .i64 q.rider, .int .i64 q.tm, .int .i64 q.x, .int .i64 q.y, .int .i64 q.r] 27)) (some ⟨u.heap.size, 0, none⟩) 2 [p, q] := by
  have h1 := Reads.fresh u 27 #[.int .i64 p.ride, .int .i64 p.rider, .int .i64 p.tm, .int .i64 p.x, .int .i64 p.y, .int .i64 p.r, .int .i64 q.ride, .int .i64 q.rider, .int .i64 q.tm, .int .i64 q.x, .int .i64 q.y, .int .i64 q.r] 2 6 rfl
  exact ⟨h1.more (by simp), rfl⟩
theorem ps_none (w : World) : PsR w none 0 [] := ⟨Reads.none_, (fun _ hp => nomatch hp), rfl⟩
theorem apart_self (a : Nat) : apartN a a ≤ 4 := by
  have : ∀ k, cnt (fun i => a.testBit i != a.testBit i) k = 0 := fun k => by
    induction k with
    | zero => rfl
    | succ k ih => unfold cnt; rw [ih]; simp
  unfold apartN; rw [this]; decide
def ph7 (A B : Option Addr) : List Ph := [picP 7 1300 A, picP 8 1000 B]
theorem pic_ok1 (A : Option Addr) : pcheckZ (picP 7 1300 A) = 0 := by kernel_rfl
theorem pic_ok2 (A : Option Addr) : pcheckZ (picP 8 1000 A) = 0 := by kernel_rfl
theorem orig7 (A B : Option Addr) : origL (ph7 A B) = [picP 7 1300 A] := by
  have r0 : repB ((ph7 A B).take 0) (phAt (ph7 A B) 0) = false := by
    show repB [] (picP 7 1300 A) = false
    unfold repB; simp
  have r1 : repB ((ph7 A B).take 1) (phAt (ph7 A B) 1) = true := by
    show repB [picP 7 1300 A] (picP 8 1000 B) = true
    unfold repB
    rw [pic_ok2, List.any_cons, pic_ok1]
    have hm : markN (picP 7 1300 A) = markN (picP 8 1000 B) := by
      unfold markN
      rw [if_pos (pic_ok1 A), if_pos (pic_ok2 B)]
    rw [hm, decide_eq_true (apart_self _)]
    rfl
  show (if repB ((ph7 A B).take 1) (phAt (ph7 A B) 1) = true then (if repB ((ph7 A B).take 0) (phAt (ph7 A B) 0) = true then [] else [] ++ [phAt (ph7 A B) 0]) else _) = _
  rw [r1, r0]; rfl
theorem f1 (A : Option Addr) : faultZ [sqFc 1 A] 0 (atK 7 50) = 0 := by kernel_rfl
theorem v1 (A : Option Addr) : judgeV [sqFc 1 A] [] (atK 7 50) = (7, 3, 1000, 2) := by kernel_rfl
theorem f2 (A : Option Addr) : faultZ [sqFc 1 A] 0 (atK 7 150) = 0 := by kernel_rfl
theorem v2 (A : Option Addr) : judgeV [sqFc 1 A] [] (atK 7 150) = (7, 3, 1000, 1) := by kernel_rfl
theorem f3 (A : Option Addr) : faultZ [sqFc 1 A] 0 (atK 7 110) = 0 := by kernel_rfl
theorem v3 (A : Option Addr) : judgeV [sqFc 1 A] [] (atK 7 110) = (7, 3, 1000, 3) := by kernel_rfl
theorem f4 (A : Option Addr) : faultZ [sqFc 1 A] 2 (atK 7 110) = 0 := by kernel_rfl
theorem v4 (A B C : Option Addr) : judgeV [sqFc 1 A] (ph7 B C) (atK 7 110) = (7, 3, 1000, 1) := by kernel_rfl
theorem f5 (A : Option Addr) : faultZ [sqFc 2 A] 0 (atK 7 150) = 0 := by kernel_rfl
theorem v5 (A : Option Addr) : judgeV [sqFc 2 A] [] (atK 7 150) = (7, 3, 1000, 2) := by kernel_rfl
theorem f6 (A : Option Addr) : allE [sqFc 1 A] 2 [atK 8 110, atK 7 110] = 0 := by kernel_rfl
theorem v6a (A B : Option Addr) : verdict [sqFc 1 A] [picP 7 1300 B] (atK 8 110) = (8, 3, 1000, 3) := by kernel_rfl
theorem v6b (A B : Option Addr) : verdict [sqFc 1 A] [picP 7 1300 B] (atK 7 110) = (7, 3, 1000, 1) := by kernel_rfl
theorem v6 (A B C : Option Addr) : allV [sqFc 1 A] (ph7 B C) [atK 8 110, atK 7 110] = [(8, 3, 1000, 3), (7, 3, 1000, 1)] := by
  rw [allV_ok (show allE [sqFc 1 A] (ph7 B C).length [atK 8 110, atK 7 110] = 0 from f6 A), orig7, List.map_cons, List.map_cons, List.map_nil, v6a, v6b]
theorem f7 (A : Option Addr) : allE [sqFc 1 A] 0 [atK 8 110, atK 8 50] = 6 := by kernel_rfl
theorem v7 (A : Option Addr) : allV [sqFc 1 A] [] [atK 8 110, atK 8 50] = [] := allV_no (f7 A) (by decide)
theorem f8 : pkZ (atK 0 5) = 1 := by kernel_rfl
set_option maxHeartbeats 8000000 in
set_option maxRecDepth 100000 in
theorem awake_any (w : World) : Calls Try.prog 11 #[] w (AwakePost w) := by
  have hq := eqVd 7 3 1000 1
  go_enter Try.func11, Try.ntmps11
  go_wp2_with fail
  have kk := Below.refl w.heap.size w
  refine (square_any 1 _).mono ?_
  rintro e w1 ⟨X1, rfl, hb1, rs1⟩
  replace kk := below_next kk (Nat.le_refl _) hb1
  clear hb1
  have RS1 := Lib.hid (fc_one w1 _ rfl (sqFc 1 X1) rs1 (show 4 ≤ 9223372036854775807 by decide))
  clear rs1
  have hal := (Below.refl w1.heap.size w1).alloc (Nat.le_refl _) (.cells #[.int .i64 1, .slice X1 4 4, .int .i64 0, .int .i64 4294944000, .int .i64 0, .int .i64 86400] 61)
  replace kk := kk.alloc kk.size (.cells #[.int .i64 1, .slice X1 4 4, .int .i64 0, .int .i64 4294944000, .int .i64 0, .int .i64 86400] 61)
  clear hal
  have NO := RS1
  clear RS1
  go_wp2_with fail
  refine (square_any 2 _).mono ?_
  rintro e w2 ⟨X2, rfl, hb2, rs2⟩
  replace NO := Lib.hid (NO.out.below hb2)
  replace kk := below_next kk (Nat.le_refl _) hb2
  clear hb2
  have RS2 := Lib.hid (fc_one w2 _ rfl (sqFc 2 X2) rs2 (show 4 ≤ 9223372036854775807 by decide))
  clear rs2
  have hal := (Below.refl w2.heap.size w2).alloc (Nat.le_refl _) (.cells #[.int .i64 2, .slice X2 4 4, .int .i64 0, .int .i64 4294944000, .int .i64 0, .int .i64 86400] 61)
  replace NO := Lib.hid (NO.out.below hal)
  replace kk := kk.alloc kk.size (.cells #[.int .i64 2, .slice X2 4 4, .int .i64 0, .int .i64 4294944000, .int .i64 0, .int .i64 86400] 61)
  clear hal
  have ON := RS2
  clear RS2
  go_wp2_with fail
  refine (pic_any 7 1300 _).mono ?_
  rintro e w3 ⟨P1, rfl, hb3, p1⟩
  replace NO := Lib.hid (NO.out.below hb3)
  replace ON := Lib.hid (ON.out.below hb3)
  replace kk := below_next kk (Nat.le_refl _) hb3
  have PP := Lib.hid p1
  clear p1
  clear hb3
  go_wp2_with fail
  refine (pic_any 8 1000 _).mono ?_
  rintro e w4 ⟨P2, rfl, hb4, p2⟩
  replace NO := Lib.hid (NO.out.below hb4)
  replace ON := Lib.hid (ON.out.below hb4)
  replace PP := Lib.hid (PP.out.below hb4)
  replace kk := below_next kk (Nat.le_refl _) hb4
  clear hb4
  have PH0 := Lib.hid (ph_two w4 (picP 7 1300 P1) (picP 8 1000 P2) PP.out p2)
  clear p2 PP
  have hal := (Below.refl w4.heap.size w4).alloc (Nat.le_refl _) (.cells #[.int .i64 7, .int .i64 1300, .int .i64 9, .int .i64 9, .slice P1 81 81, .int .i64 8, .int .i64 1000, .int .i64 9, .int .i64 9, .slice P2 81 81] 46)
  replace NO := Lib.hid (NO.out.below hal)
  replace ON := Lib.hid (ON.out.below hal)
  replace kk := kk.alloc kk.size (.cells #[.int .i64 7, .int .i64 1300, .int .i64 9, .int .i64 9, .slice P1 81 81, .int .i64 8, .int .i64 1000, .int .i64 9, .int .i64 9, .slice P2 81 81] 46)
  clear hal
  have PH := PH0
  clear PH0
  go_wp2_with fail
  refine (at_any 7 50 _).mono ?_
  rintro e w5 ⟨rfl, hb5⟩
  replace NO := Lib.hid (NO.out.below hb5)
  replace ON := Lib.hid (ON.out.below hb5)
  replace PH := Lib.hid (PH.out.below hb5)
  replace kk := below_next kk (Nat.le_refl _) hb5
  clear hb5
  go_wp2_with fail
  refine (pjudge_any (some ⟨w1.heap.size, 0, none⟩) 1 1 [sqFc 1 X1] none 0 0 [] (atK 7 50) (7, 3, 1000, 2) 0 _ NO.out (by decide) (ps_none _) (by decide) (f1 X1) (v1 X1)).mono ?_
  rintro e w6 ⟨rfl, hb6⟩
  replace NO := Lib.hid (NO.out.below hb6)
  replace ON := Lib.hid (ON.out.below hb6)
  replace PH := Lib.hid (PH.out.below hb6)
  replace kk := below_next kk (Nat.le_refl _) hb6
  clear hb6
  have V4 := Lib.hid (Blk.new w6 31 #[.int .i64 7, .int .i64 3, .int .i64 1000, .int .i64 2])
  have hal := (Below.refl w6.heap.size w6).alloc (Nat.le_refl _) (.cells #[.int .i64 7, .int .i64 3, .int .i64 1000, .int .i64 2] 31)
  replace NO := Lib.hid (NO.out.below hal)
  replace ON := Lib.hid (ON.out.below hal)
  replace PH := Lib.hid (PH.out.below hal)
  replace kk := kk.alloc kk.size (.cells #[.int .i64 7, .int .i64 3, .int .i64 1000, .int .i64 2] 31)
  clear hal
  go_wp2_with fail
  refine (at_any 7 150 _).mono ?_
  rintro e w7 ⟨rfl, hb7⟩
  replace NO := Lib.hid (NO.out.below hb7)
  replace ON := Lib.hid (ON.out.below hb7)
  replace PH := Lib.hid (PH.out.below hb7)
  replace V4 := Lib.hid (V4.out.ofBelow hb7)
  replace kk := below_next kk (Nat.le_refl _) hb7
  clear hb7
  go_wp2_with fail
  refine (pjudge_any (some ⟨w1.heap.size, 0, none⟩) 1 1 [sqFc 1 X1] none 0 0 [] (atK 7 150) (7, 3, 1000, 1) 0 _ NO.out (by decide) (ps_none _) (by decide) (f2 X1) (v2 X1)).mono ?_
  rintro e w8 ⟨rfl, hb8⟩
  replace NO := Lib.hid (NO.out.below hb8)
  replace ON := Lib.hid (ON.out.below hb8)
  replace PH := Lib.hid (PH.out.below hb8)
  replace V4 := Lib.hid (V4.out.ofBelow hb8)
  replace kk := below_next kk (Nat.le_refl _) hb8
  clear hb8
  have V6 := Lib.hid (Blk.new w8 31 #[.int .i64 7, .int .i64 3, .int .i64 1000, .int .i64 1])
  have hal := (Below.refl w8.heap.size w8).alloc (Nat.le_refl _) (.cells #[.int .i64 7, .int .i64 3, .int .i64 1000, .int .i64 1] 31)
  replace NO := Lib.hid (NO.out.below hal)
  replace ON := Lib.hid (ON.out.below hal)
  replace PH := Lib.hid (PH.out.below hal)
  replace V4 := Lib.hid (V4.out.ofBelow hal)
  replace kk := kk.alloc kk.size (.cells #[.int .i64 7, .int .i64 3, .int .i64 1000, .int .i64 1] 31)
  clear hal
  go_wp2_with fail
  refine (at_any 7 110 _).mono ?_
  rintro e w9 ⟨rfl, hb9⟩
  replace NO := Lib.hid (NO.out.below hb9)
  replace ON := Lib.hid (ON.out.below hb9)
  replace PH := Lib.hid (PH.out.below hb9)
  replace V4 := Lib.hid (V4.out.ofBelow hb9)
  replace V6 := Lib.hid (V6.out.ofBelow hb9)
  replace kk := below_next kk (Nat.le_refl _) hb9
  clear hb9
  go_wp2_with fail
  refine (pjudge_any (some ⟨w1.heap.size, 0, none⟩) 1 1 [sqFc 1 X1] none 0 0 [] (atK 7 110) (7, 3, 1000, 3) 0 _ NO.out (by decide) (ps_none _) (by decide) (f3 X1) (v3 X1)).mono ?_
  rintro e w10 ⟨rfl, hb10⟩
  replace NO := Lib.hid (NO.out.below hb10)
  replace ON := Lib.hid (ON.out.below hb10)
  replace PH := Lib.hid (PH.out.below hb10)
  replace V4 := Lib.hid (V4.out.ofBelow hb10)
  replace V6 := Lib.hid (V6.out.ofBelow hb10)
  replace kk := below_next kk (Nat.le_refl _) hb10
  clear hb10
  have V8 := Lib.hid (Blk.new w10 31 #[.int .i64 7, .int .i64 3, .int .i64 1000, .int .i64 3])
  have hal := (Below.refl w10.heap.size w10).alloc (Nat.le_refl _) (.cells #[.int .i64 7, .int .i64 3, .int .i64 1000, .int .i64 3] 31)
  replace NO := Lib.hid (NO.out.below hal)
  replace ON := Lib.hid (ON.out.below hal)
  replace PH := Lib.hid (PH.out.below hal)
  replace V4 := Lib.hid (V4.out.ofBelow hal)
  replace V6 := Lib.hid (V6.out.ofBelow hal)
  replace kk := kk.alloc kk.size (.cells #[.int .i64 7, .int .i64 3, .int .i64 1000, .int .i64 3] 31)
  clear hal
  go_wp2_with fail
  refine (at_any 7 110 _).mono ?_
  rintro e w11 ⟨rfl, hb11⟩
  replace NO := Lib.hid (NO.out.below hb11)
  replace ON := Lib.hid (ON.out.below hb11)
  replace PH := Lib.hid (PH.out.below hb11)
  replace V4 := Lib.hid (V4.out.ofBelow hb11)
  replace V6 := Lib.hid (V6.out.ofBelow hb11)
  replace V8 := Lib.hid (V8.out.ofBelow hb11)
  replace kk := below_next kk (Nat.le_refl _) hb11
  clear hb11
  go_wp2_with fail
  refine (pjudge_any (some ⟨w1.heap.size, 0, none⟩) 1 1 [sqFc 1 X1] (some ⟨w4.heap.size, 0, none⟩) 2 2 (ph7 P1 P2) (atK 7 110) (7, 3, 1000, 1) 0 _ NO.out (by decide) PH.out (by decide) (f4 X1) (v4 X1 P1 P2)).mono ?_
  rintro e w12 ⟨rfl, hb12⟩
  replace NO := Lib.hid (NO.out.below hb12)
  replace ON := Lib.hid (ON.out.below hb12)
  replace PH := Lib.hid (PH.out.below hb12)
  replace V4 := Lib.hid (V4.out.ofBelow hb12)
  replace V6 := Lib.hid (V6.out.ofBelow hb12)
  replace V8 := Lib.hid (V8.out.ofBelow hb12)
  replace kk := below_next kk (Nat.le_refl _) hb12
  clear hb12
  have V10 := Lib.hid (Blk.new w12 31 #[.int .i64 7, .int .i64 3, .int .i64 1000, .int .i64 1])
  have hal := (Below.refl w12.heap.size w12).alloc (Nat.le_refl _) (.cells #[.int .i64 7, .int .i64 3, .int .i64 1000, .int .i64 1] 31)
  replace NO := Lib.hid (NO.out.below hal)
  replace ON := Lib.hid (ON.out.below hal)
  replace PH := Lib.hid (PH.out.below hal)
  replace V4 := Lib.hid (V4.out.ofBelow hal)
  replace V6 := Lib.hid (V6.out.ofBelow hal)
  replace V8 := Lib.hid (V8.out.ofBelow hal)
  replace kk := kk.alloc kk.size (.cells #[.int .i64 7, .int .i64 3, .int .i64 1000, .int .i64 1] 31)
  clear hal
  go_wp2_with fail
  refine (at_any 7 150 _).mono ?_
  rintro e w13 ⟨rfl, hb13⟩
  replace NO := Lib.hid (NO.out.below hb13)
  replace ON := Lib.hid (ON.out.below hb13)
  replace PH := Lib.hid (PH.out.below hb13)
  replace V4 := Lib.hid (V4.out.ofBelow hb13)
  replace V6 := Lib.hid (V6.out.ofBelow hb13)
  replace V8 := Lib.hid (V8.out.ofBelow hb13)
  replace V10 := Lib.hid (V10.out.ofBelow hb13)
  replace kk := below_next kk (Nat.le_refl _) hb13
  clear hb13
  go_wp2_with fail
  refine (pjudge_any (some ⟨w2.heap.size, 0, none⟩) 1 1 [sqFc 2 X2] none 0 0 [] (atK 7 150) (7, 3, 1000, 2) 0 _ ON.out (by decide) (ps_none _) (by decide) (f5 X2) (v5 X2)).mono ?_
  rintro e w14 ⟨rfl, hb14⟩
  replace NO := Lib.hid (NO.out.below hb14)
  replace ON := Lib.hid (ON.out.below hb14)
  replace PH := Lib.hid (PH.out.below hb14)
  replace V4 := Lib.hid (V4.out.ofBelow hb14)
  replace V6 := Lib.hid (V6.out.ofBelow hb14)
  replace V8 := Lib.hid (V8.out.ofBelow hb14)
  replace V10 := Lib.hid (V10.out.ofBelow hb14)
  replace kk := below_next kk (Nat.le_refl _) hb14
  clear hb14
  have V12 := Lib.hid (Blk.new w14 31 #[.int .i64 7, .int .i64 3, .int .i64 1000, .int .i64 2])
  have hal := (Below.refl w14.heap.size w14).alloc (Nat.le_refl _) (.cells #[.int .i64 7, .int .i64 3, .int .i64 1000, .int .i64 2] 31)
  replace NO := Lib.hid (NO.out.below hal)
  replace ON := Lib.hid (ON.out.below hal)
  replace PH := Lib.hid (PH.out.below hal)
  replace V4 := Lib.hid (V4.out.ofBelow hal)
  replace V6 := Lib.hid (V6.out.ofBelow hal)
  replace V8 := Lib.hid (V8.out.ofBelow hal)
  replace V10 := Lib.hid (V10.out.ofBelow hal)
  replace kk := kk.alloc kk.size (.cells #[.int .i64 7, .int .i64 3, .int .i64 1000, .int .i64 2] 31)
  clear hal
  go_wp2_with fail
  refine (at_any 8 110 _).mono ?_
  rintro e w15 ⟨rfl, hb15⟩
  replace NO := Lib.hid (NO.out.below hb15)
  replace ON := Lib.hid (ON.out.below hb15)
  replace PH := Lib.hid (PH.out.below hb15)
  replace V4 := Lib.hid (V4.out.ofBelow hb15)
  replace V6 := Lib.hid (V6.out.ofBelow hb15)
  replace V8 := Lib.hid (V8.out.ofBelow hb15)
  replace V10 := Lib.hid (V10.out.ofBelow hb15)
  replace V12 := Lib.hid (V12.out.ofBelow hb15)
  replace kk := below_next kk (Nat.le_refl _) hb15
  clear hb15
  go_wp2_with fail
  refine (at_any 7 110 _).mono ?_
  rintro e w16 ⟨rfl, hb16⟩
  replace NO := Lib.hid (NO.out.below hb16)
  replace ON := Lib.hid (ON.out.below hb16)
  replace PH := Lib.hid (PH.out.below hb16)
  replace V4 := Lib.hid (V4.out.ofBelow hb16)
  replace V6 := Lib.hid (V6.out.ofBelow hb16)
  replace V8 := Lib.hid (V8.out.ofBelow hb16)
  replace V10 := Lib.hid (V10.out.ofBelow hb16)
  replace V12 := Lib.hid (V12.out.ofBelow hb16)
  replace kk := below_next kk (Nat.le_refl _) hb16
  clear hb16
  have PK := Lib.hid (pk_two w16 (atK 8 110) (atK 7 110))
  have hal := (Below.refl w16.heap.size w16).alloc (Nat.le_refl _) (.cells #[.int .i64 8, .int .i64 3, .int .i64 1000, .int .i64 110, .int .i64 50, .int .i64 20, .int .i64 7, .int .i64 3, .int .i64 1000, .int .i64 110, .int .i64 50, .int .i64 20] 27)
  replace NO := Lib.hid (NO.out.below hal)
  replace ON := Lib.hid (ON.out.below hal)
  replace PH := Lib.hid (PH.out.below hal)
  replace V4 := Lib.hid (V4.out.ofBelow hal)
  replace V6 := Lib.hid (V6.out.ofBelow hal)
  replace V8 := Lib.hid (V8.out.ofBelow hal)
  replace V10 := Lib.hid (V10.out.ofBelow hal)
  replace V12 := Lib.hid (V12.out.ofBelow hal)
  replace kk := kk.alloc kk.size (.cells #[.int .i64 8, .int .i64 3, .int .i64 1000, .int .i64 110, .int .i64 50, .int .i64 20, .int .i64 7, .int .i64 3, .int .i64 1000, .int .i64 110, .int .i64 50, .int .i64 20] 27)
  clear hal
  go_wp2_with fail
  refine (all_any (some ⟨w1.heap.size, 0, none⟩) 1 1 [sqFc 1 X1] (some ⟨w4.heap.size, 0, none⟩) 2 2 (ph7 P1 P2) (some ⟨w16.heap.size, 0, none⟩) 2 2 [atK 8 110, atK 7 110] 0 [(8, 3, 1000, 3), (7, 3, 1000, 1)] _ NO.out (by decide) PH.out (by decide) PK.out (by decide) (f6 X1) (v6 X1 P1 P2)).mono ?_
  rintro e w17 ⟨AV1, nv1, cv1, rfl, hr1, hl1, hb17⟩
  replace NO := Lib.hid (NO.out.below hb17)
  replace ON := Lib.hid (ON.out.below hb17)
  replace PH := Lib.hid (PH.out.below hb17)
  replace V4 := Lib.hid (V4.out.ofBelow hb17)
  replace V6 := Lib.hid (V6.out.ofBelow hb17)
  replace V8 := Lib.hid (V8.out.ofBelow hb17)
  replace V10 := Lib.hid (V10.out.ofBelow hb17)
  replace V12 := Lib.hid (V12.out.ofBelow hb17)
  replace kk := below_next kk (Nat.le_refl _) hb17
  clear hb17
  clear PK
  obtain rfl : nv1 = 2 := hl1.symm
  have RV := Lib.hid hr1
  clear hr1 hl1
  go_wp2_with fail
  refine (at_any 8 110 _).mono ?_
  rintro e w18 ⟨rfl, hb18⟩
  replace NO := Lib.hid (NO.out.below hb18)
  replace ON := Lib.hid (ON.out.below hb18)
  replace PH := Lib.hid (PH.out.below hb18)
  replace V4 := Lib.hid (V4.out.ofBelow hb18)
  replace V6 := Lib.hid (V6.out.ofBelow hb18)
  replace V8 := Lib.hid (V8.out.ofBelow hb18)
  replace V10 := Lib.hid (V10.out.ofBelow hb18)
  replace V12 := Lib.hid (V12.out.ofBelow hb18)
  replace RV := Lib.hid ((RV.out.below hb18).more (Below.size hb18))
  replace kk := below_next kk (Nat.le_refl _) hb18
  clear hb18
  go_wp2_with fail
  refine (at_any 8 50 _).mono ?_
  rintro e w19 ⟨rfl, hb19⟩
  replace NO := Lib.hid (NO.out.below hb19)
  replace ON := Lib.hid (ON.out.below hb19)
  replace PH := Lib.hid (PH.out.below hb19)
  replace V4 := Lib.hid (V4.out.ofBelow hb19)
  replace V6 := Lib.hid (V6.out.ofBelow hb19)
  replace V8 := Lib.hid (V8.out.ofBelow hb19)
  replace V10 := Lib.hid (V10.out.ofBelow hb19)
  replace V12 := Lib.hid (V12.out.ofBelow hb19)
  replace RV := Lib.hid ((RV.out.below hb19).more (Below.size hb19))
  replace kk := below_next kk (Nat.le_refl _) hb19
  clear hb19
  have PK := Lib.hid (pk_two w19 (atK 8 110) (atK 8 50))
  have hal := (Below.refl w19.heap.size w19).alloc (Nat.le_refl _) (.cells #[.int .i64 8, .int .i64 3, .int .i64 1000, .int .i64 110, .int .i64 50, .int .i64 20, .int .i64 8, .int .i64 3, .int .i64 1000, .int .i64 50, .int .i64 50, .int .i64 20] 27)
  replace NO := Lib.hid (NO.out.below hal)
  replace ON := Lib.hid (ON.out.below hal)
  replace PH := Lib.hid (PH.out.below hal)
  replace V4 := Lib.hid (V4.out.ofBelow hal)
  replace V6 := Lib.hid (V6.out.ofBelow hal)
  replace V8 := Lib.hid (V8.out.ofBelow hal)
  replace V10 := Lib.hid (V10.out.ofBelow hal)
  replace V12 := Lib.hid (V12.out.ofBelow hal)
  replace RV := Lib.hid ((RV.out.below hal).more (Below.size hal))
  replace kk := kk.alloc kk.size (.cells #[.int .i64 8, .int .i64 3, .int .i64 1000, .int .i64 110, .int .i64 50, .int .i64 20, .int .i64 8, .int .i64 3, .int .i64 1000, .int .i64 50, .int .i64 50, .int .i64 20] 27)
  clear hal
  go_wp2_with fail
  refine (all_any (some ⟨w1.heap.size, 0, none⟩) 1 1 [sqFc 1 X1] none 0 0 [] (some ⟨w19.heap.size, 0, none⟩) 2 2 [atK 8 110, atK 8 50] 6 [] _ NO.out (by decide) (ps_none _) (by decide) PK.out (by decide) (f7 X1) (v7 X1)).mono ?_
  rintro e w20 ⟨AV2, nv2, cv2, rfl, hr2, hl2, hb20⟩
  replace NO := Lib.hid (NO.out.below hb20)
  replace ON := Lib.hid (ON.out.below hb20)
  replace PH := Lib.hid (PH.out.below hb20)
  replace V4 := Lib.hid (V4.out.ofBelow hb20)
  replace V6 := Lib.hid (V6.out.ofBelow hb20)
  replace V8 := Lib.hid (V8.out.ofBelow hb20)
  replace V10 := Lib.hid (V10.out.ofBelow hb20)
  replace V12 := Lib.hid (V12.out.ofBelow hb20)
  replace RV := Lib.hid ((RV.out.below hb20).more (Below.size hb20))
  replace kk := below_next kk (Nat.le_refl _) hb20
  clear hb20
  clear PK
  clear hr2 hl2
  go_wp2_with fail
  refine (at_any 0 5 _).mono ?_
  rintro e w21 ⟨rfl, hb21⟩
  replace NO := Lib.hid (NO.out.below hb21)
  replace ON := Lib.hid (ON.out.below hb21)
  replace PH := Lib.hid (PH.out.below hb21)
  replace V4 := Lib.hid (V4.out.ofBelow hb21)
  replace V6 := Lib.hid (V6.out.ofBelow hb21)
  replace V8 := Lib.hid (V8.out.ofBelow hb21)
  replace V10 := Lib.hid (V10.out.ofBelow hb21)
  replace V12 := Lib.hid (V12.out.ofBelow hb21)
  replace RV := Lib.hid ((RV.out.below hb21).more (Below.size hb21))
  replace kk := below_next kk (Nat.le_refl _) hb21
  clear hb21
  go_wp2_with fail
  refine (pkcheck_any (atK 0 5) 1 _ f8).mono ?_
  rintro e w22 ⟨rfl, hb22⟩
  replace NO := Lib.hid (NO.out.below hb22)
  replace ON := Lib.hid (ON.out.below hb22)
  replace PH := Lib.hid (PH.out.below hb22)
  replace V4 := Lib.hid (V4.out.ofBelow hb22)
  replace V6 := Lib.hid (V6.out.ofBelow hb22)
  replace V8 := Lib.hid (V8.out.ofBelow hb22)
  replace V10 := Lib.hid (V10.out.ofBelow hb22)
  replace V12 := Lib.hid (V12.out.ofBelow hb22)
  replace RV := Lib.hid ((RV.out.below hb22).more (Below.size hb22))
  replace kk := below_next kk (Nat.le_refl _) hb22
  clear hb22
  have c4_3 := (V4.out.cell 3).trans rfl
  have c6_3 := (V6.out.cell 3).trans rfl
  have c8_3 := (V8.out.cell 3).trans rfl
  have c10_0 := (V10.out.cell 0).trans rfl
  have c10_1 := (V10.out.cell 1).trans rfl
  have c10_2 := (V10.out.cell 2).trans rfl
  have c10_3 := (V10.out.cell 3).trans rfl
  have c12_3 := (V12.out.cell 3).trans rfl
  obtain ⟨bv, ov, rfl, hbv, hcv⟩ := RV.out.recs encVd_len (by omega) (by omega)
  have x0 := hcv 0 (by decide) 3 _ rfl
  have x1 := hcv 1 (by decide) 3 _ rfl
  simp only [List.getElem_cons_zero, List.getElem_cons_succ] at x0 x1
  clear hcv hbv
  go_wp2_with fail
  go_ret
  exact ⟨rfl, kk⟩
end Go.Proofs.Ytdgdjlpbnaoheaa
