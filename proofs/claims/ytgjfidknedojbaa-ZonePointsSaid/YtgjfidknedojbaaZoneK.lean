/- The examples of the chapter: the walk of awake. -/
import Derived.Test.YtgjfidknedojbaaZoneJ
namespace Go.Proofs.Ytgjfidknedojbaa
open Go.RowKit
abbrev zlA (a b : Option Addr) : List Zn := [⟨⟨#[111, 108, 100, 45, 116, 111, 119, 110]⟩, a, 4, 4, sqP 0 10, 1⟩, ⟨⟨#[112, 111, 114, 116]⟩, b, 4, 4, sqP 5 15, 2⟩]
abbrev zlB (a b : Option Addr) : List Zn := [⟨⟨#[97]⟩, a, 4, 4, sqP 0 10, 3⟩, ⟨⟨#[98]⟩, b, 4, 4, sqP 0 10, 3⟩]
theorem aw1 (a b : Option Addr) : sureZ (zlA a b) (5, 5) 0 = some 1 := by kernel_rfl
theorem aw2 (a b : Option Addr) : sureZ (zlA a b) (4, 5) 0 = some 0 := by kernel_rfl
theorem aw3 (a b : Option Addr) : sureZ (zlA a b) (2, 2) 2 = some 0 := by kernel_rfl
theorem aw4 (a b : Option Addr) : sureZ (zlA a b) (4, 4) 2 = none := by kernel_rfl
theorem aw5 (a b : Option Addr) : possZ (zlA a b) (4, 4) 2 = [0, 1] := by kernel_rfl
theorem aw6 (a b : Option Addr) : possZ (zlA a b) (8, 8) 2 = [1] := by kernel_rfl
theorem aw7 (a b : Option Addr) : zcheckZ (zlA a b) = 0 := by kernel_rfl
theorem aw8 (a b : Option Addr) : zcheckZ (zlB a b) = 6 := by kernel_rfl
theorem zr_fresh (u : World) (z y : Zn) (h1 : Reads u u.heap.size 2 z.A z.n (cellsPt z.p)) (h2 : Reads u u.heap.size 2 y.A y.n (cellsPt y.p)) (b1 : z.n ≤ 9223372036854775807 ∧ z.s.size ≤ maxLen) (b2 : y.n ≤ 9223372036854775807 ∧ y.s.size ≤ maxLen) : ∀ v, Below (u.alloc (.cells #[.string z.s, .slice z.A z.n z.c, .int .i64 z.r, .string y.s, .slice y.A y.n y.c, .int .i64 y.r] 45)).heap.size (u.alloc (.cells #[.string z.s, .slice z.A z.n z.c, .int .i64 z.r, .string y.s, .slice y.A y.n y.c, .int .i64 y.r] 45)) v → ZR v (some ⟨u.heap.size, 0, none⟩) 2 [z, y] := fun v hv => by
  have h := Reads.fresh u 45 #[.string z.s, .slice z.A z.n z.c, .int .i64 z.r, .string y.s, .slice y.A y.n y.c, .int .i64 y.r] 2 3 rfl
  have hb := (Below.refl u.heap.size u).alloc (Nat.le_refl _) (.cells #[.string z.s, .slice z.A z.n z.c, .int .i64 z.r, .string y.s, .slice y.A y.n y.c, .int .i64 y.r] 45)
  have hz : ZOk u [z, y] := fun q hq => by
    rcases List.mem_cons.mp hq with rfl | hq
    · exact ⟨h1, b1⟩
    · obtain rfl := List.mem_singleton.mp hq
      exact ⟨h2, b2⟩
  exact ⟨((h.more (by simp)).below hv).more hv.size, (hz.below hb).below hv, rfl⟩
set_option maxHeartbeats 8000000 in
set_option maxRecDepth 100000 in
theorem awake_any (w : World) : Calls Try.prog 11 #[] w (AwakePost w) := by
  go_enter Try.func11, Try.ntmps11
  go_wp2_with fail
  have kk := Below.refl w.heap.size w
  refine (square_any 0 10 _).mono ?_
  rintro e w1 ⟨hb1, A1, rfl, q1⟩
  replace kk := below_next kk (Nat.le_refl _) hb1
  go_wp2_with fail
  refine (square_any 5 15 _).mono ?_
  rintro e w2 ⟨hb2, A2, rfl, q2⟩
  replace kk := below_next kk (Nat.le_refl _) hb2
  go_wp2_with fail
  have HZ1 := Lib.hid (zr_fresh w2 (zlA A1 A2)[0] (zlA A1 A2)[1] (q1.below hb2 |>.more hb2.size) q2 ⟨(show 4 ≤ 9223372036854775807 by decide), (show ByteArray.size ⟨#[111, 108, 100, 45, 116, 111, 119, 110]⟩ ≤ maxLen by decide)⟩ ⟨(show 4 ≤ 9223372036854775807 by decide), (show ByteArray.size ⟨#[112, 111, 114, 116]⟩ ≤ maxLen by decide)⟩)
  replace kk := kk.alloc kk.size (.cells #[.string ⟨#[111, 108, 100, 45, 116, 111, 119, 110]⟩, .slice A1 4 4, .int .i64 1, .string ⟨#[112, 111, 114, 116]⟩, .slice A2 4 4, .int .i64 2] 45)
  have kp := Below.refl (w2.alloc (.cells #[.string ⟨#[111, 108, 100, 45, 116, 111, 119, 110]⟩, .slice A1 4 4, .int .i64 1, .string ⟨#[112, 111, 114, 116]⟩, .slice A2 4 4, .int .i64 2] 45)).heap.size (w2.alloc (.cells #[.string ⟨#[111, 108, 100, 45, 116, 111, 119, 110]⟩, .slice A1 4 4, .int .i64 1, .string ⟨#[112, 111, 114, 116]⟩, .slice A2 4 4, .int .i64 2] 45))
  clear q1 q2
  clear hb1 hb2
  refine (at_any 5 5 _).mono ?_
  rintro e w3 ⟨rfl, hb3⟩
  replace kk := below_next kk (Nat.le_refl _) hb3
  replace kp := below_next kp (Nat.le_refl _) hb3
  clear hb3
  go_wp2_with fail
  refine (find_any (some ⟨w2.heap.size, 0, none⟩) 2 2 (zlA A1 A2) (5, 5) (some 1) _ (HZ1.out _ kp) (by decide) (by decide) (aw1 A1 A2)).mono ?_
  rintro e w4 ⟨he, hb4⟩
  replace he : e = .returned (.tuple #[.int .i64 1, .bool true]) := he
  subst he
  replace kk := below_next kk (Nat.le_refl _) hb4
  replace kp := below_next kp (Nat.le_refl _) hb4
  clear hb4
  go_wp2_with fail
  refine (at_any 4 5 _).mono ?_
  rintro e w5 ⟨rfl, hb5⟩
  replace kk := below_next kk (Nat.le_refl _) hb5
  replace kp := below_next kp (Nat.le_refl _) hb5
  clear hb5
  go_wp2_with fail
  refine (find_any (some ⟨w2.heap.size, 0, none⟩) 2 2 (zlA A1 A2) (4, 5) (some 0) _ (HZ1.out _ kp) (by decide) (by decide) (aw2 A1 A2)).mono ?_
  rintro e w6 ⟨he, hb6⟩
  replace he : e = .returned (.tuple #[.int .i64 0, .bool true]) := he
  subst he
  replace kk := below_next kk (Nat.le_refl _) hb6
  replace kp := below_next kp (Nat.le_refl _) hb6
  clear hb6
  go_wp2_with fail
  refine (at_any 2 2 _).mono ?_
  rintro e w7 ⟨rfl, hb7⟩
  replace kk := below_next kk (Nat.le_refl _) hb7
  replace kp := below_next kp (Nat.le_refl _) hb7
  clear hb7
  go_wp2_with fail
  refine (sure_any (some ⟨w2.heap.size, 0, none⟩) 2 2 (zlA A1 A2) (2, 2) 2 (some 0) _ (HZ1.out _ kp) (by decide) (by decide) (aw3 A1 A2)).mono ?_
  rintro e w8 ⟨he, hb8⟩
  replace he : e = .returned (.tuple #[.int .i64 0, .bool true]) := he
  subst he
  replace kk := below_next kk (Nat.le_refl _) hb8
  replace kp := below_next kp (Nat.le_refl _) hb8
  clear hb8
  go_wp2_with fail
  refine (at_any 4 4 _).mono ?_
  rintro e w9 ⟨rfl, hb9⟩
  replace kk := below_next kk (Nat.le_refl _) hb9
  replace kp := below_next kp (Nat.le_refl _) hb9
  clear hb9
  go_wp2_with fail
  refine (sure_any (some ⟨w2.heap.size, 0, none⟩) 2 2 (zlA A1 A2) (4, 4) 2 none _ (HZ1.out _ kp) (by decide) (by decide) (aw4 A1 A2)).mono ?_
  rintro e w10 ⟨he, hb10⟩
  replace he : e = .returned (.tuple #[.int .i64 0, .bool false]) := he
  subst he
  replace kk := below_next kk (Nat.le_refl _) hb10
  replace kp := below_next kp (Nat.le_refl _) hb10
  clear hb10
  go_wp2_with fail
  refine (square_any 0 10 _).mono ?_
  rintro e w11 ⟨hb11, A3, rfl, q3⟩
  replace kk := below_next kk (Nat.le_refl _) hb11
  replace kp := below_next kp (Nat.le_refl _) hb11
  go_wp2_with fail
  refine (square_any 0 10 _).mono ?_
  rintro e w12 ⟨hb12, A4, rfl, q4⟩
  replace kk := below_next kk (Nat.le_refl _) hb12
  replace kp := below_next kp (Nat.le_refl _) hb12
  go_wp2_with fail
  have HZ2 := Lib.hid (zr_fresh w12 (zlB A3 A4)[0] (zlB A3 A4)[1] (q3.below hb12 |>.more hb12.size) q4 ⟨(show 4 ≤ 9223372036854775807 by decide), (show ByteArray.size ⟨#[97]⟩ ≤ maxLen by decide)⟩ ⟨(show 4 ≤ 9223372036854775807 by decide), (show ByteArray.size ⟨#[98]⟩ ≤ maxLen by decide)⟩)
  replace kk := kk.alloc kk.size (.cells #[.string ⟨#[97]⟩, .slice A3 4 4, .int .i64 3, .string ⟨#[98]⟩, .slice A4 4 4, .int .i64 3] 45)
  replace kp := kp.alloc kp.size (.cells #[.string ⟨#[97]⟩, .slice A3 4 4, .int .i64 3, .string ⟨#[98]⟩, .slice A4 4 4, .int .i64 3] 45)
  have ky := Below.refl (w12.alloc (.cells #[.string ⟨#[97]⟩, .slice A3 4 4, .int .i64 3, .string ⟨#[98]⟩, .slice A4 4 4, .int .i64 3] 45)).heap.size (w12.alloc (.cells #[.string ⟨#[97]⟩, .slice A3 4 4, .int .i64 3, .string ⟨#[98]⟩, .slice A4 4 4, .int .i64 3] 45))
  clear q3 q4
  clear hb11 hb12
  refine (at_any 4 4 _).mono ?_
  rintro e w13 ⟨rfl, hb13⟩
  replace kk := below_next kk (Nat.le_refl _) hb13
  replace kp := below_next kp (Nat.le_refl _) hb13
  replace ky := below_next ky (Nat.le_refl _) hb13
  clear hb13
  go_wp2_with fail
  refine (poss_any (some ⟨w2.heap.size, 0, none⟩) 2 2 (zlA A1 A2) (4, 4) 2 [0, 1] _ (HZ1.out _ kp) (by decide) (by decide) (aw5 A1 A2)).mono ?_
  rintro e w14 ⟨hb14, P1, n14, c14, rfl, p1, hl14, hm14⟩
  replace kk := below_next kk (Nat.le_refl _) hb14
  replace kp := below_next kp (Nat.le_refl _) hb14
  replace ky := below_next ky (Nat.le_refl _) hb14
  clear hb14 hl14
  go_wp2_with fail
  have HF14 := Lib.hid (Reads.fresh w14 3 #[.int .i64 0, .int .i64 1] 2 1 rfl)
  replace kk := kk.alloc kk.size (.cells #[.int .i64 0, .int .i64 1] 3)
  replace kp := kp.alloc kp.size (.cells #[.int .i64 0, .int .i64 1] 3)
  replace ky := ky.alloc ky.size (.cells #[.int .i64 0, .int .i64 1] 3)
  have HP14 := Lib.hid ((p1.alloc (Nat.le_refl _) (.cells #[.int .i64 0, .int .i64 1] 3)).more (show w14.heap.size ≤ (w14.alloc (.cells #[.int .i64 0, .int .i64 1] 3)).heap.size by simp))
  replace HF14 := Lib.hid (HF14.out.more (show w14.heap.size + 1 ≤ (w14.alloc (.cells #[.int .i64 0, .int .i64 1] 3)).heap.size by simp))
  clear p1
  refine (same_any P1 (some ⟨w14.heap.size, 0, none⟩) n14 c14 2 2 (ints [0, 1]) [0, 1] true _ HP14.out HF14.out hm14 (by decide)).mono ?_
  rintro e w15 ⟨rfl, hb15⟩
  replace kk := below_next kk (Nat.le_refl _) hb15
  replace kp := below_next kp (Nat.le_refl _) hb15
  replace ky := below_next ky (Nat.le_refl _) hb15
  clear hb15
  go_wp2_with fail
  refine (at_any 8 8 _).mono ?_
  rintro e w16 ⟨rfl, hb16⟩
  replace kk := below_next kk (Nat.le_refl _) hb16
  replace kp := below_next kp (Nat.le_refl _) hb16
  replace ky := below_next ky (Nat.le_refl _) hb16
  clear hb16
  go_wp2_with fail
  refine (poss_any (some ⟨w2.heap.size, 0, none⟩) 2 2 (zlA A1 A2) (8, 8) 2 [1] _ (HZ1.out _ kp) (by decide) (by decide) (aw6 A1 A2)).mono ?_
  rintro e w17 ⟨hb17, P2, n17, c17, rfl, p2, hl17, hm17⟩
  replace kk := below_next kk (Nat.le_refl _) hb17
  replace kp := below_next kp (Nat.le_refl _) hb17
  replace ky := below_next ky (Nat.le_refl _) hb17
  clear hb17 hl17
  go_wp2_with fail
  have HF17 := Lib.hid (Reads.fresh w17 3 #[.int .i64 1] 1 1 rfl)
  replace kk := kk.alloc kk.size (.cells #[.int .i64 1] 3)
  replace kp := kp.alloc kp.size (.cells #[.int .i64 1] 3)
  replace ky := ky.alloc ky.size (.cells #[.int .i64 1] 3)
  have HP17 := Lib.hid ((p2.alloc (Nat.le_refl _) (.cells #[.int .i64 1] 3)).more (show w17.heap.size ≤ (w17.alloc (.cells #[.int .i64 1] 3)).heap.size by simp))
  replace HF17 := Lib.hid (HF17.out.more (show w17.heap.size + 1 ≤ (w17.alloc (.cells #[.int .i64 1] 3)).heap.size by simp))
  clear p2
  refine (same_any P2 (some ⟨w17.heap.size, 0, none⟩) n17 c17 1 1 (ints [1]) [1] true _ HP17.out HF17.out hm17 (by decide)).mono ?_
  rintro e w18 ⟨rfl, hb18⟩
  replace kk := below_next kk (Nat.le_refl _) hb18
  replace kp := below_next kp (Nat.le_refl _) hb18
  replace ky := below_next ky (Nat.le_refl _) hb18
  clear hb18
  go_wp2_with fail
  refine (zcheck_any (some ⟨w2.heap.size, 0, none⟩) 2 2 (zlA A1 A2) 0 _ (HZ1.out _ kp) (by decide) (by decide) (aw7 A1 A2)).mono ?_
  rintro e w19 ⟨rfl, hb19⟩
  replace kk := below_next kk (Nat.le_refl _) hb19
  replace kp := below_next kp (Nat.le_refl _) hb19
  replace ky := below_next ky (Nat.le_refl _) hb19
  clear hb19
  go_wp2_with fail
  refine (zcheck_any (some ⟨w12.heap.size, 0, none⟩) 2 2 (zlB A3 A4) 6 _ (HZ2.out _ ky) (by decide) (by decide) (aw8 A3 A4)).mono ?_
  rintro e w20 ⟨rfl, hb20⟩
  replace kk := below_next kk (Nat.le_refl _) hb20
  replace kp := below_next kp (Nat.le_refl _) hb20
  replace ky := below_next ky (Nat.le_refl _) hb20
  clear hb20
  go_wp2_with fail
  go_ret
  exact ⟨rfl, kk⟩
end Go.Proofs.Ytgjfidknedojbaa
