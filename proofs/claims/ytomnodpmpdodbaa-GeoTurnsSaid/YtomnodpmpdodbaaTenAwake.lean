/- The examples of the chapter: the walk of awake. -/
import Derived.Test.YtomnodpmpdodbaaGeoEq
namespace Go.Proofs.Ytomnodpmpdodbaa
open Go.RowKit
def AwakePost (w : World) (e : Ending) (w' : World) : Prop := e = .returned (.bool true) ∧ Below w.heap.size w w'
def RetAgg (w : World) (p : Pt) (e : Ending) (w' : World) : Prop := e = .returned (.agg #[.int .i64 p.1, .int .i64 p.2]) ∧ Below w.heap.size w w'
theorem at_any (x y : Int) (w : World) : Calls Try.prog 25 #[.int .i64 x, .int .i64 y] w (RetAgg w (x, y)) := by
  obtain ⟨B0, hb⟩ := box1 w 23 #[.int .i64 0, .int .i64 0]
  have z0 := (B0.cell 0).trans rfl; have z1 := (B0.cell 1).trans rfl
  have hb2 := set2_below (.int .i64 x) (.int .i64 y) hb (Nat.le_refl _)
  have x0 := set2_blk B0 (.int .i64 x) (.int .i64 y)
  go_enter Try.func25, Try.ntmps25
  go_wp2_with fail
  have B1 := (Blk.new w 23 #[.int .i64 x, .int .i64 y])
  have r0 := (B1.cell 0).trans rfl; have r1 := (B1.cell 1).trans rfl
  exact bodyPost_ret (v := .agg #[.int .i64 x, .int .i64 y]) (by simp [results, Try.results25, go_sem, r0, r1]) rfl ⟨rfl, ((Below.refl _ _).alloc (Nat.le_refl _) _)⟩
abbrev sq0 : List Pt := [(0, 0), (4, 0), (4, 4), (0, 4)]
abbrev sq1 : List Pt := [(0, 0), (0, 4), (4, 4), (4, 0)]
abbrev sq2 : List Pt := [(0, 0), (4, 4), (4, 0), (0, 4)]
theorem sq_fresh (u : World) (p : List Pt) (a1 a2 b1 b2 c1 c2 d1 d2 : Int) (hp : p = [(a1, a2), (b1, b2), (c1, c2), (d1, d2)]) : ∀ v, Below (u.alloc (.cells #[.int .i64 a1, .int .i64 a2, .int .i64 b1, .int .i64 b2, .int .i64 c1, .int .i64 c2, .int .i64 d1, .int .i64 d2] 23)).heap.size (u.alloc (.cells #[.int .i64 a1, .int .i64 a2, .int .i64 b1, .int .i64 b2, .int .i64 c1, .int .i64 c2, .int .i64 d1, .int .i64 d2] 23)) v → Reads v v.heap.size 2 (some ⟨u.heap.size, 0, none⟩) 4 (cellsPt p) := fun v hv => by
  subst hp
  have h := Reads.fresh u 23 #[.int .i64 a1, .int .i64 a2, .int .i64 b1, .int .i64 b2, .int .i64 c1, .int .i64 c2, .int .i64 d1, .int .i64 d2] 4 2 rfl
  exact ((h.more (by simp)).below hv).more hv.size
set_option maxHeartbeats 8000000 in
set_option maxRecDepth 100000 in
theorem awake_any (w : World) : Calls Try.prog 13 #[] w (AwakePost w) := by
  go_enter Try.func13, Try.ntmps13
  go_wp2_with fail
  have kk := Below.refl w.heap.size w
  refine (at_any (0) (0) _).mono ?_
  rintro e w1 ⟨rfl, hb1⟩
  replace kk := below_next kk (Nat.le_refl _) hb1
  clear hb1
  go_wp2_with fail
  refine (at_any (4) (0) _).mono ?_
  rintro e w2 ⟨rfl, hb2⟩
  replace kk := below_next kk (Nat.le_refl _) hb2
  clear hb2
  go_wp2_with fail
  refine (at_any (4) (4) _).mono ?_
  rintro e w3 ⟨rfl, hb3⟩
  replace kk := below_next kk (Nat.le_refl _) hb3
  clear hb3
  go_wp2_with fail
  refine (at_any (0) (4) _).mono ?_
  rintro e w4 ⟨rfl, hb4⟩
  replace kk := below_next kk (Nat.le_refl _) hb4
  clear hb4
  go_wp2_with fail
  have HP0 := Lib.hid (sq_fresh w4 sq0 0 0 4 0 4 4 0 4 rfl)
  replace kk := kk.alloc kk.size (.cells #[.int .i64 0, .int .i64 0, .int .i64 4, .int .i64 0, .int .i64 4, .int .i64 4, .int .i64 0, .int .i64 4] 23)
  have kp := Below.refl (w4.alloc (.cells #[.int .i64 0, .int .i64 0, .int .i64 4, .int .i64 0, .int .i64 4, .int .i64 4, .int .i64 0, .int .i64 4] 23)).heap.size (w4.alloc (.cells #[.int .i64 0, .int .i64 0, .int .i64 4, .int .i64 0, .int .i64 4, .int .i64 4, .int .i64 0, .int .i64 4] 23))
  refine (area_any (some ⟨w4.heap.size, 0, none⟩) 4 4 sq0 32 0 _ (HP0.out _ kp) (by decide) (by decide) (by decide)).mono ?_
  rintro e w5 ⟨rfl, hb5⟩
  replace kk := below_next kk (Nat.le_refl _) hb5
  replace kp := below_next kp (Nat.le_refl _) hb5
  clear hb5
  go_wp2_with fail
  refine (at_any (2) (2) _).mono ?_
  rintro e w6 ⟨rfl, hb6⟩
  replace kk := below_next kk (Nat.le_refl _) hb6
  replace kp := below_next kp (Nat.le_refl _) hb6
  clear hb6
  go_wp2_with fail
  refine (inside_any (some ⟨w4.heap.size, 0, none⟩) 4 4 sq0 (2, 2) (1) 0 _ (HP0.out _ kp) (by decide) (by decide) (by decide)).mono ?_
  rintro e w7 ⟨rfl, hb7⟩
  replace kk := below_next kk (Nat.le_refl _) hb7
  replace kp := below_next kp (Nat.le_refl _) hb7
  clear hb7
  go_wp2_with fail
  refine (at_any (4) (2) _).mono ?_
  rintro e w8 ⟨rfl, hb8⟩
  replace kk := below_next kk (Nat.le_refl _) hb8
  replace kp := below_next kp (Nat.le_refl _) hb8
  clear hb8
  go_wp2_with fail
  refine (inside_any (some ⟨w4.heap.size, 0, none⟩) 4 4 sq0 (4, 2) (0) 0 _ (HP0.out _ kp) (by decide) (by decide) (by decide)).mono ?_
  rintro e w9 ⟨rfl, hb9⟩
  replace kk := below_next kk (Nat.le_refl _) hb9
  replace kp := below_next kp (Nat.le_refl _) hb9
  clear hb9
  go_wp2_with fail
  refine (at_any (5) (2) _).mono ?_
  rintro e w10 ⟨rfl, hb10⟩
  replace kk := below_next kk (Nat.le_refl _) hb10
  replace kp := below_next kp (Nat.le_refl _) hb10
  clear hb10
  go_wp2_with fail
  refine (inside_any (some ⟨w4.heap.size, 0, none⟩) 4 4 sq0 (5, 2) (-1) 0 _ (HP0.out _ kp) (by decide) (by decide) (by decide)).mono ?_
  rintro e w11 ⟨rfl, hb11⟩
  replace kk := below_next kk (Nat.le_refl _) hb11
  replace kp := below_next kp (Nat.le_refl _) hb11
  clear hb11
  go_wp2_with fail
  refine (at_any (6) (2) _).mono ?_
  rintro e w12 ⟨rfl, hb12⟩
  replace kk := below_next kk (Nat.le_refl _) hb12
  replace kp := below_next kp (Nat.le_refl _) hb12
  clear hb12
  go_wp2_with fail
  refine (touches_any (some ⟨w4.heap.size, 0, none⟩) 4 4 sq0 (6, 2) 2 true 0 _ (HP0.out _ kp) (by decide) (by decide) (by decide)).mono ?_
  rintro e w13 ⟨rfl, hb13⟩
  replace kk := below_next kk (Nat.le_refl _) hb13
  replace kp := below_next kp (Nat.le_refl _) hb13
  clear hb13
  go_wp2_with fail
  refine (at_any (6) (2) _).mono ?_
  rintro e w14 ⟨rfl, hb14⟩
  replace kk := below_next kk (Nat.le_refl _) hb14
  replace kp := below_next kp (Nat.le_refl _) hb14
  clear hb14
  go_wp2_with fail
  refine (touches_any (some ⟨w4.heap.size, 0, none⟩) 4 4 sq0 (6, 2) 1 false 0 _ (HP0.out _ kp) (by decide) (by decide) (by decide)).mono ?_
  rintro e w15 ⟨rfl, hb15⟩
  replace kk := below_next kk (Nat.le_refl _) hb15
  replace kp := below_next kp (Nat.le_refl _) hb15
  clear hb15
  go_wp2_with fail
  refine (at_any (2) (2) _).mono ?_
  rintro e w16 ⟨rfl, hb16⟩
  replace kk := below_next kk (Nat.le_refl _) hb16
  replace kp := below_next kp (Nat.le_refl _) hb16
  clear hb16
  go_wp2_with fail
  refine (covers_any (some ⟨w4.heap.size, 0, none⟩) 4 4 sq0 (2, 2) 2 true 0 _ (HP0.out _ kp) (by decide) (by decide) (by decide)).mono ?_
  rintro e w17 ⟨rfl, hb17⟩
  replace kk := below_next kk (Nat.le_refl _) hb17
  replace kp := below_next kp (Nat.le_refl _) hb17
  clear hb17
  go_wp2_with fail
  refine (at_any (2) (2) _).mono ?_
  rintro e w18 ⟨rfl, hb18⟩
  replace kk := below_next kk (Nat.le_refl _) hb18
  replace kp := below_next kp (Nat.le_refl _) hb18
  clear hb18
  go_wp2_with fail
  refine (covers_any (some ⟨w4.heap.size, 0, none⟩) 4 4 sq0 (2, 2) 3 false 0 _ (HP0.out _ kp) (by decide) (by decide) (by decide)).mono ?_
  rintro e w19 ⟨rfl, hb19⟩
  replace kk := below_next kk (Nat.le_refl _) hb19
  replace kp := below_next kp (Nat.le_refl _) hb19
  clear hb19
  go_wp2_with fail
  refine (at_any (0) (0) _).mono ?_
  rintro e w20 ⟨rfl, hb20⟩
  replace kk := below_next kk (Nat.le_refl _) hb20
  replace kp := below_next kp (Nat.le_refl _) hb20
  clear hb20
  go_wp2_with fail
  refine (at_any (4) (0) _).mono ?_
  rintro e w21 ⟨rfl, hb21⟩
  replace kk := below_next kk (Nat.le_refl _) hb21
  replace kp := below_next kp (Nat.le_refl _) hb21
  clear hb21
  go_wp2_with fail
  refine (at_any (1) (2) _).mono ?_
  rintro e w22 ⟨rfl, hb22⟩
  replace kk := below_next kk (Nat.le_refl _) hb22
  replace kp := below_next kp (Nat.le_refl _) hb22
  clear hb22
  go_wp2_with fail
  refine (side_any (0, 0) (4, 0) (1, 2) 1 _ (by decide)).mono ?_
  rintro e w23 ⟨rfl, hb23⟩
  replace kk := below_next kk (Nat.le_refl _) hb23
  replace kp := below_next kp (Nat.le_refl _) hb23
  clear hb23
  go_wp2_with fail
  refine (at_any (0) (0) _).mono ?_
  rintro e w24 ⟨rfl, hb24⟩
  replace kk := below_next kk (Nat.le_refl _) hb24
  replace kp := below_next kp (Nat.le_refl _) hb24
  clear hb24
  go_wp2_with fail
  refine (at_any (0) (4) _).mono ?_
  rintro e w25 ⟨rfl, hb25⟩
  replace kk := below_next kk (Nat.le_refl _) hb25
  replace kp := below_next kp (Nat.le_refl _) hb25
  clear hb25
  go_wp2_with fail
  refine (at_any (4) (4) _).mono ?_
  rintro e w26 ⟨rfl, hb26⟩
  replace kk := below_next kk (Nat.le_refl _) hb26
  replace kp := below_next kp (Nat.le_refl _) hb26
  clear hb26
  go_wp2_with fail
  refine (at_any (4) (0) _).mono ?_
  rintro e w27 ⟨rfl, hb27⟩
  replace kk := below_next kk (Nat.le_refl _) hb27
  replace kp := below_next kp (Nat.le_refl _) hb27
  clear hb27
  go_wp2_with fail
  clear kp
  have HP1 := Lib.hid (sq_fresh w27 sq1 0 0 0 4 4 4 4 0 rfl)
  replace kk := kk.alloc kk.size (.cells #[.int .i64 0, .int .i64 0, .int .i64 0, .int .i64 4, .int .i64 4, .int .i64 4, .int .i64 4, .int .i64 0] 23)
  have kp := Below.refl (w27.alloc (.cells #[.int .i64 0, .int .i64 0, .int .i64 0, .int .i64 4, .int .i64 4, .int .i64 4, .int .i64 4, .int .i64 0] 23)).heap.size (w27.alloc (.cells #[.int .i64 0, .int .i64 0, .int .i64 0, .int .i64 4, .int .i64 4, .int .i64 4, .int .i64 4, .int .i64 0] 23))
  refine (check_any (some ⟨w27.heap.size, 0, none⟩) 4 4 sq1 9 _ (HP1.out _ kp) (by decide) (by decide)).mono ?_
  rintro e w28 ⟨rfl, hb28⟩
  replace kk := below_next kk (Nat.le_refl _) hb28
  replace kp := below_next kp (Nat.le_refl _) hb28
  clear hb28
  go_wp2_with fail
  refine (at_any (0) (0) _).mono ?_
  rintro e w29 ⟨rfl, hb29⟩
  replace kk := below_next kk (Nat.le_refl _) hb29
  replace kp := below_next kp (Nat.le_refl _) hb29
  clear hb29
  go_wp2_with fail
  refine (at_any (4) (4) _).mono ?_
  rintro e w30 ⟨rfl, hb30⟩
  replace kk := below_next kk (Nat.le_refl _) hb30
  replace kp := below_next kp (Nat.le_refl _) hb30
  clear hb30
  go_wp2_with fail
  refine (at_any (4) (0) _).mono ?_
  rintro e w31 ⟨rfl, hb31⟩
  replace kk := below_next kk (Nat.le_refl _) hb31
  replace kp := below_next kp (Nat.le_refl _) hb31
  clear hb31
  go_wp2_with fail
  refine (at_any (0) (4) _).mono ?_
  rintro e w32 ⟨rfl, hb32⟩
  replace kk := below_next kk (Nat.le_refl _) hb32
  replace kp := below_next kp (Nat.le_refl _) hb32
  clear hb32
  go_wp2_with fail
  clear kp
  have HP2 := Lib.hid (sq_fresh w32 sq2 0 0 4 4 4 0 0 4 rfl)
  replace kk := kk.alloc kk.size (.cells #[.int .i64 0, .int .i64 0, .int .i64 4, .int .i64 4, .int .i64 4, .int .i64 0, .int .i64 0, .int .i64 4] 23)
  have kp := Below.refl (w32.alloc (.cells #[.int .i64 0, .int .i64 0, .int .i64 4, .int .i64 4, .int .i64 4, .int .i64 0, .int .i64 0, .int .i64 4] 23)).heap.size (w32.alloc (.cells #[.int .i64 0, .int .i64 0, .int .i64 4, .int .i64 4, .int .i64 4, .int .i64 0, .int .i64 0, .int .i64 4] 23))
  refine (check_any (some ⟨w32.heap.size, 0, none⟩) 4 4 sq2 16 _ (HP2.out _ kp) (by decide) (by decide)).mono ?_
  rintro e w33 ⟨rfl, hb33⟩
  replace kk := below_next kk (Nat.le_refl _) hb33
  replace kp := below_next kp (Nat.le_refl _) hb33
  clear hb33
  go_wp2_with fail
  go_ret
  exact ⟨rfl, kk⟩
end Go.Proofs.Ytomnodpmpdodbaa
