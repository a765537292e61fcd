/- The walk of ParkingFair. -/
import Derived.Test.YtdgdjlpbnaoheaaPkLaw
namespace Go.Proofs.Ytdgdjlpbnaoheaa
open Go.RowKit
set_option maxHeartbeats 8000000 in
set_option maxRecDepth 10000 in
theorem parkingFair_walk (A : Option Addr) (n c : Nat) (l : List Fc) (A2 : Option Addr) (m c2 : Nat) (ps : List Ph) (p : Pk) (q : Pt) (w : World) (h : FcR w A n l) (hn : n ≤ 9223372036854775807) (h2 : PsR w A2 m ps) (hm : m ≤ 9223372036854775807) : Calls Try.prog 8 #[.slice A n c, .slice A2 m c2, aggK p, aggP q] w (AwakePost w) := by
  obtain ⟨kk, hK⟩ := box2K w 27 25 #[.int .i64 p.ride, .int .i64 p.rider, .int .i64 p.tm, .int .i64 p.x, .int .i64 p.y, .int .i64 p.r] #[.int .i64 q.1, .int .i64 q.2]
  have HK := Lib.hid hK
  clear hK
  obtain ⟨B0, B1, hbb⟩ := HK.out _ kk
  have c00 := B0.cell 0
  have c01 := B0.cell 1
  have c02 := B0.cell 2
  have c03 := B0.cell 3
  have c04 := B0.cell 4
  have c05 := B0.cell 5
  have c10 := B1.cell 0
  have c11 := B1.cell 1
  have HB := Lib.hid hbb
  clear B0 B1 hbb
  have HZA : Hid (∀ u, Below w.heap.size w u → FcR u A n l) := Lib.hid fun u hu => h.below hu
  have HZP : Hid (∀ u, Below w.heap.size w u → PsR u A2 m ps) := Lib.hid fun u hu => h2.below hu
  have HLP : Hid (ps.length = m) := Lib.hid h2.2.2
  obtain ⟨f, hf⟩ : ∃ f, fewK l ps = f := ⟨_, rfl⟩
  have HF := Lib.hid hf
  obtain ⟨y, hy⟩ : ∃ y, pkZ p = y := ⟨_, rfl⟩
  have HY := Lib.hid hy
  obtain ⟨z, hz⟩ : ∃ z, fcheckZ l = z := ⟨_, rfl⟩
  have HZ := Lib.hid hz
  obtain ⟨o, ho⟩ : ∃ z, okP q = z := ⟨_, rfl⟩
  have HO := Lib.hid ho
  clear h h2 hf hy hz ho
  rcases f with _ | _
  · skip
    go_enter Try.func8, Try.ntmps8
    go_wp2_with fail
    refine (fewk_any A n c l A2 m c2 ps false _ (HZA.out _ HB.out) hn (HZP.out _ HB.out) hm HF.out).mono ?_
    rintro e w1 ⟨rfl, hb1⟩
    replace kk := below_next kk (Nat.le_refl _) hb1
    clear c00 c01 c02 c03 c04 c05 c10 c11 HB hb1
    obtain ⟨B0, B1, hbb⟩ := HK.out _ kk
    have c00 := B0.cell 0
    have c01 := B0.cell 1
    have c02 := B0.cell 2
    have c03 := B0.cell 3
    have c04 := B0.cell 4
    have c05 := B0.cell 5
    have c10 := B1.cell 0
    have c11 := B1.cell 1
    have HB := Lib.hid hbb
    clear B0 B1 hbb
    go_wp2_with fail
    refine (awake_any _).mono ?_
    rintro e w2 ⟨rfl, hb2⟩
    replace kk := below_next kk (Nat.le_refl _) hb2
    clear c00 c01 c02 c03 c04 c05 c10 c11 HB hb2
    obtain ⟨B0, B1, hbb⟩ := HK.out _ kk
    have c00 := B0.cell 0
    have c01 := B0.cell 1
    have c02 := B0.cell 2
    have c03 := B0.cell 3
    have c04 := B0.cell 4
    have c05 := B0.cell 5
    have c10 := B1.cell 0
    have c11 := B1.cell 1
    have HB := Lib.hid hbb
    clear B0 B1 hbb
    go_wp2_with fail
    go_ret
    exact ⟨rfl, HB.out⟩
  by_cases h64 : 64 < m
  · have hb : (64 : Int) < m := by omega
    go_enter Try.func8, Try.ntmps8
    go_wp2_with fail
    refine (fewk_any A n c l A2 m c2 ps true _ (HZA.out _ HB.out) hn (HZP.out _ HB.out) hm HF.out).mono ?_
    rintro e w3 ⟨rfl, hb3⟩
    replace kk := below_next kk (Nat.le_refl _) hb3
    clear c00 c01 c02 c03 c04 c05 c10 c11 HB hb3
    obtain ⟨B0, B1, hbb⟩ := HK.out _ kk
    have c00 := B0.cell 0
    have c01 := B0.cell 1
    have c02 := B0.cell 2
    have c03 := B0.cell 3
    have c04 := B0.cell 4
    have c05 := B0.cell 5
    have c10 := B1.cell 0
    have c11 := B1.cell 1
    have HB := Lib.hid hbb
    clear B0 B1 hbb
    go_wp2_with fail
    refine (awake_any _).mono ?_
    rintro e w4 ⟨rfl, hb4⟩
    replace kk := below_next kk (Nat.le_refl _) hb4
    clear c00 c01 c02 c03 c04 c05 c10 c11 HB hb4
    obtain ⟨B0, B1, hbb⟩ := HK.out _ kk
    have c00 := B0.cell 0
    have c01 := B0.cell 1
    have c02 := B0.cell 2
    have c03 := B0.cell 3
    have c04 := B0.cell 4
    have c05 := B0.cell 5
    have c10 := B1.cell 0
    have c11 := B1.cell 1
    have HB := Lib.hid hbb
    clear B0 B1 hbb
    go_wp2_with fail
    go_ret
    exact ⟨rfl, HB.out⟩
  have hb : (m : Int) ≤ 64 := by omega
  by_cases h0 : y = 0
  case neg =>
    have t0 := ne0_t h0
    clear h0 h64
    go_enter Try.func8, Try.ntmps8
    go_wp2_with fail
    refine (fewk_any A n c l A2 m c2 ps true _ (HZA.out _ HB.out) hn (HZP.out _ HB.out) hm HF.out).mono ?_
    rintro e w5 ⟨rfl, hb5⟩
    replace kk := below_next kk (Nat.le_refl _) hb5
    clear c00 c01 c02 c03 c04 c05 c10 c11 HB hb5
    obtain ⟨B0, B1, hbb⟩ := HK.out _ kk
    have c00 := B0.cell 0
    have c01 := B0.cell 1
    have c02 := B0.cell 2
    have c03 := B0.cell 3
    have c04 := B0.cell 4
    have c05 := B0.cell 5
    have c10 := B1.cell 0
    have c11 := B1.cell 1
    have HB := Lib.hid hbb
    clear B0 B1 hbb
    go_wp2_with fail
    refine (rpkcheck_any p y _ HY.out).mono ?_
    rintro e w6 ⟨rfl, hb6⟩
    replace kk := below_next kk (Nat.le_refl _) hb6
    clear c00 c01 c02 c03 c04 c05 c10 c11 HB hb6
    obtain ⟨B0, B1, hbb⟩ := HK.out _ kk
    have c00 := B0.cell 0
    have c01 := B0.cell 1
    have c02 := B0.cell 2
    have c03 := B0.cell 3
    have c04 := B0.cell 4
    have c05 := B0.cell 5
    have c10 := B1.cell 0
    have c11 := B1.cell 1
    have HB := Lib.hid hbb
    clear B0 B1 hbb
    go_wp2_with fail
    refine (awake_any _).mono ?_
    rintro e w7 ⟨rfl, hb7⟩
    replace kk := below_next kk (Nat.le_refl _) hb7
    clear c00 c01 c02 c03 c04 c05 c10 c11 HB hb7
    obtain ⟨B0, B1, hbb⟩ := HK.out _ kk
    have c00 := B0.cell 0
    have c01 := B0.cell 1
    have c02 := B0.cell 2
    have c03 := B0.cell 3
    have c04 := B0.cell 4
    have c05 := B0.cell 5
    have c10 := B1.cell 0
    have c11 := B1.cell 1
    have HB := Lib.hid hbb
    clear B0 B1 hbb
    go_wp2_with fail
    go_ret
    exact ⟨rfl, HB.out⟩
  subst h0
  by_cases h0 : z = 0
  case neg =>
    have t0 := ne0_t h0
    clear h0 h64
    go_enter Try.func8, Try.ntmps8
    go_wp2_with fail
    refine (fewk_any A n c l A2 m c2 ps true _ (HZA.out _ HB.out) hn (HZP.out _ HB.out) hm HF.out).mono ?_
    rintro e w8 ⟨rfl, hb8⟩
    replace kk := below_next kk (Nat.le_refl _) hb8
    clear c00 c01 c02 c03 c04 c05 c10 c11 HB hb8
    obtain ⟨B0, B1, hbb⟩ := HK.out _ kk
    have c00 := B0.cell 0
    have c01 := B0.cell 1
    have c02 := B0.cell 2
    have c03 := B0.cell 3
    have c04 := B0.cell 4
    have c05 := B0.cell 5
    have c10 := B1.cell 0
    have c11 := B1.cell 1
    have HB := Lib.hid hbb
    clear B0 B1 hbb
    go_wp2_with fail
    refine (rpkcheck_any p 0 _ HY.out).mono ?_
    rintro e w9 ⟨rfl, hb9⟩
    replace kk := below_next kk (Nat.le_refl _) hb9
    clear c00 c01 c02 c03 c04 c05 c10 c11 HB hb9
    obtain ⟨B0, B1, hbb⟩ := HK.out _ kk
    have c00 := B0.cell 0
    have c01 := B0.cell 1
    have c02 := B0.cell 2
    have c03 := B0.cell 3
    have c04 := B0.cell 4
    have c05 := B0.cell 5
    have c10 := B1.cell 0
    have c11 := B1.cell 1
    have HB := Lib.hid hbb
    clear B0 B1 hbb
    go_wp2_with fail
    refine (rfcheck_any A n c l z _ (HZA.out _ HB.out) hn HZ.out).mono ?_
    rintro e w10 ⟨rfl, hb10⟩
    replace kk := below_next kk (Nat.le_refl _) hb10
    clear c00 c01 c02 c03 c04 c05 c10 c11 HB hb10
    obtain ⟨B0, B1, hbb⟩ := HK.out _ kk
    have c00 := B0.cell 0
    have c01 := B0.cell 1
    have c02 := B0.cell 2
    have c03 := B0.cell 3
    have c04 := B0.cell 4
    have c05 := B0.cell 5
    have c10 := B1.cell 0
    have c11 := B1.cell 1
    have HB := Lib.hid hbb
    clear B0 B1 hbb
    go_wp2_with fail
    refine (awake_any _).mono ?_
    rintro e w11 ⟨rfl, hb11⟩
    replace kk := below_next kk (Nat.le_refl _) hb11
    clear c00 c01 c02 c03 c04 c05 c10 c11 HB hb11
    obtain ⟨B0, B1, hbb⟩ := HK.out _ kk
    have c00 := B0.cell 0
    have c01 := B0.cell 1
    have c02 := B0.cell 2
    have c03 := B0.cell 3
    have c04 := B0.cell 4
    have c05 := B0.cell 5
    have c10 := B1.cell 0
    have c11 := B1.cell 1
    have HB := Lib.hid hbb
    clear B0 B1 hbb
    go_wp2_with fail
    go_ret
    exact ⟨rfl, HB.out⟩
  subst h0
  rcases o with _ | _
  · skip
    go_enter Try.func8, Try.ntmps8
    go_wp2_with fail
    refine (fewk_any A n c l A2 m c2 ps true _ (HZA.out _ HB.out) hn (HZP.out _ HB.out) hm HF.out).mono ?_
    rintro e w12 ⟨rfl, hb12⟩
    replace kk := below_next kk (Nat.le_refl _) hb12
    clear c00 c01 c02 c03 c04 c05 c10 c11 HB hb12
    obtain ⟨B0, B1, hbb⟩ := HK.out _ kk
    have c00 := B0.cell 0
    have c01 := B0.cell 1
    have c02 := B0.cell 2
    have c03 := B0.cell 3
    have c04 := B0.cell 4
    have c05 := B0.cell 5
    have c10 := B1.cell 0
    have c11 := B1.cell 1
    have HB := Lib.hid hbb
    clear B0 B1 hbb
    go_wp2_with fail
    refine (rpkcheck_any p 0 _ HY.out).mono ?_
    rintro e w13 ⟨rfl, hb13⟩
    replace kk := below_next kk (Nat.le_refl _) hb13
    clear c00 c01 c02 c03 c04 c05 c10 c11 HB hb13
    obtain ⟨B0, B1, hbb⟩ := HK.out _ kk
    have c00 := B0.cell 0
    have c01 := B0.cell 1
    have c02 := B0.cell 2
    have c03 := B0.cell 3
    have c04 := B0.cell 4
    have c05 := B0.cell 5
    have c10 := B1.cell 0
    have c11 := B1.cell 1
    have HB := Lib.hid hbb
    clear B0 B1 hbb
    go_wp2_with fail
    refine (rfcheck_any A n c l 0 _ (HZA.out _ HB.out) hn HZ.out).mono ?_
    rintro e w14 ⟨rfl, hb14⟩
    replace kk := below_next kk (Nat.le_refl _) hb14
    clear c00 c01 c02 c03 c04 c05 c10 c11 HB hb14
    obtain ⟨B0, B1, hbb⟩ := HK.out _ kk
    have c00 := B0.cell 0
    have c01 := B0.cell 1
    have c02 := B0.cell 2
    have c03 := B0.cell 3
    have c04 := B0.cell 4
    have c05 := B0.cell 5
    have c10 := B1.cell 0
    have c11 := B1.cell 1
    have HB := Lib.hid hbb
    clear B0 B1 hbb
    go_wp2_with fail
    refine (rvalid_any q false _ HO.out).mono ?_
    rintro e w15 ⟨rfl, hb15⟩
    replace kk := below_next kk (Nat.le_refl _) hb15
    clear c00 c01 c02 c03 c04 c05 c10 c11 HB hb15
    obtain ⟨B0, B1, hbb⟩ := HK.out _ kk
    have c00 := B0.cell 0
    have c01 := B0.cell 1
    have c02 := B0.cell 2
    have c03 := B0.cell 3
    have c04 := B0.cell 4
    have c05 := B0.cell 5
    have c10 := B1.cell 0
    have c11 := B1.cell 1
    have HB := Lib.hid hbb
    clear B0 B1 hbb
    go_wp2_with fail
    refine (awake_any _).mono ?_
    rintro e w16 ⟨rfl, hb16⟩
    replace kk := below_next kk (Nat.le_refl _) hb16
    clear c00 c01 c02 c03 c04 c05 c10 c11 HB hb16
    obtain ⟨B0, B1, hbb⟩ := HK.out _ kk
    have c00 := B0.cell 0
    have c01 := B0.cell 1
    have c02 := B0.cell 2
    have c03 := B0.cell 3
    have c04 := B0.cell 4
    have c05 := B0.cell 5
    have c10 := B1.cell 0
    have c11 := B1.cell 1
    have HB := Lib.hid hbb
    clear B0 B1 hbb
    go_wp2_with fail
    go_ret
    exact ⟨rfl, HB.out⟩
  have hp : pkB p = true := by
    rcases hb2 : pkB p with _ | _
    · have := HY.out; rw [pkZ_1 hb2] at this; exact absurd this (by decide)
    · rfl
  have HP := Lib.hid hp
  obtain ⟨_, _, htm, hxx, hyy, hrr⟩ := pkB_inv hp
  obtain ⟨q1, q2, q3, q4⟩ := okP_t HO.out
  have b1 := mul_bd (A := 32768) (B := 32768) (x := q.1 - p.x) (y := q.1 - p.x) (by omega) (by omega) (by omega) (by omega)
  have b2 := mul_bd (A := 32768) (B := 32768) (x := q.2 - p.y) (y := q.2 - p.y) (by omega) (by omega) (by omega) (by omega)
  have b3 := mul_bd (A := 16384) (B := 16384) (x := p.r) (y := p.r) (by omega) (by omega) (by omega) (by omega)
  have f1 := wr_ (n := q.1 - p.x) (by omega)
  have f2 := wr_ (n := q.2 - p.y) (by omega)
  have HSQ : Hid (sqZ (p.x, p.y) q = (q.1 - p.x) * (q.1 - p.x) + (q.2 - p.y) * (q.2 - p.y)) := Lib.hid (by unfold sqZ; grind)
  obtain ⟨X, hX⟩ : ∃ X, q.1 - p.x = X := ⟨_, rfl⟩
  obtain ⟨Y, hY⟩ : ∃ Y, q.2 - p.y = Y := ⟨_, rfl⟩
  rw [hX] at f1 b1 HSQ; rw [hY] at f2 b2 HSQ
  have f3 := wr_ (n := X * X) (by omega)
  have f4 := wr_ (n := Y * Y) (by omega)
  have f5 := wr_ (n := X * X + Y * Y) (by omega)
  have f6 := wr_ (n := p.r * p.r) (by omega)
  have HFL : Hid (faultZ l ps.length p = 0) := Lib.hid (fault_ok HY.out HZ.out (by have := HLP.out; omega))
  clear hxx hyy hrr q1 q2 q3 q4 b1 b2 b3 hp h64
  by_cases hs : p.r * p.r < X * X + Y * Y
  · skip
    go_enter Try.func8, Try.ntmps8
    go_wp2_with fail
    refine (fewk_any A n c l A2 m c2 ps true _ (HZA.out _ HB.out) hn (HZP.out _ HB.out) hm HF.out).mono ?_
    rintro e w17 ⟨rfl, hb17⟩
    replace kk := below_next kk (Nat.le_refl _) hb17
    clear c00 c01 c02 c03 c04 c05 c10 c11 HB hb17
    obtain ⟨B0, B1, hbb⟩ := HK.out _ kk
    have c00 := B0.cell 0
    have c01 := B0.cell 1
    have c02 := B0.cell 2
    have c03 := B0.cell 3
    have c04 := B0.cell 4
    have c05 := B0.cell 5
    have c10 := B1.cell 0
    have c11 := B1.cell 1
    have HB := Lib.hid hbb
    clear B0 B1 hbb
    go_wp2_with fail
    refine (rpkcheck_any p 0 _ HY.out).mono ?_
    rintro e w18 ⟨rfl, hb18⟩
    replace kk := below_next kk (Nat.le_refl _) hb18
    clear c00 c01 c02 c03 c04 c05 c10 c11 HB hb18
    obtain ⟨B0, B1, hbb⟩ := HK.out _ kk
    have c00 := B0.cell 0
    have c01 := B0.cell 1
    have c02 := B0.cell 2
    have c03 := B0.cell 3
    have c04 := B0.cell 4
    have c05 := B0.cell 5
    have c10 := B1.cell 0
    have c11 := B1.cell 1
    have HB := Lib.hid hbb
    clear B0 B1 hbb
    go_wp2_with fail
    refine (rfcheck_any A n c l 0 _ (HZA.out _ HB.out) hn HZ.out).mono ?_
    rintro e w19 ⟨rfl, hb19⟩
    replace kk := below_next kk (Nat.le_refl _) hb19
    clear c00 c01 c02 c03 c04 c05 c10 c11 HB hb19
    obtain ⟨B0, B1, hbb⟩ := HK.out _ kk
    have c00 := B0.cell 0
    have c01 := B0.cell 1
    have c02 := B0.cell 2
    have c03 := B0.cell 3
    have c04 := B0.cell 4
    have c05 := B0.cell 5
    have c10 := B1.cell 0
    have c11 := B1.cell 1
    have HB := Lib.hid hbb
    clear B0 B1 hbb
    go_wp2_with fail
    refine (rvalid_any q true _ HO.out).mono ?_
    rintro e w20 ⟨rfl, hb20⟩
    replace kk := below_next kk (Nat.le_refl _) hb20
    clear c00 c01 c02 c03 c04 c05 c10 c11 HB hb20
    obtain ⟨B0, B1, hbb⟩ := HK.out _ kk
    have c00 := B0.cell 0
    have c01 := B0.cell 1
    have c02 := B0.cell 2
    have c03 := B0.cell 3
    have c04 := B0.cell 4
    have c05 := B0.cell 5
    have c10 := B1.cell 0
    have c11 := B1.cell 1
    have HB := Lib.hid hbb
    clear B0 B1 hbb
    go_wp2_with fail
    have F00 : ∀ z : Fam _, z.val.cell? ⟨w.heap.size, 0, none⟩ = some (.int .i64 p.ride) := fun z => z.some_ c00
    have F01 : ∀ z : Fam _, z.val.cell? ⟨w.heap.size, 1, none⟩ = some (.int .i64 p.rider) := fun z => z.some_ c01
    have F02 : ∀ z : Fam _, z.val.cell? ⟨w.heap.size, 2, none⟩ = some (.int .i64 p.tm) := fun z => z.some_ c02
    have F03 : ∀ z : Fam _, z.val.cell? ⟨w.heap.size, 3, none⟩ = some (.int .i64 p.x) := fun z => z.some_ c03
    have F04 : ∀ z : Fam _, z.val.cell? ⟨w.heap.size, 4, none⟩ = some (.int .i64 p.y) := fun z => z.some_ c04
    have F05 : ∀ z : Fam _, z.val.cell? ⟨w.heap.size, 5, none⟩ = some (.int .i64 p.r) := fun z => z.some_ c05
    have F10 : ∀ z : Fam _, z.val.cell? ⟨w.heap.size + 1, 0, none⟩ = some (.int .i64 q.1) := fun z => z.some_ c10
    have F11 : ∀ z : Fam _, z.val.cell? ⟨w.heap.size + 1, 1, none⟩ = some (.int .i64 q.2) := fun z => z.some_ c11
    clear c00 c01 c02 c03 c04 c05 c10 c11
    refine wp_region_fam (by kernel_rfl) (by kernel_rfl) ?_
    repeat (go_big_quiet_step (((fail))))
    refine wpQuiet_nil ?_
    rintro _ ⟨z21, rfl⟩
    replace kk := below_next kk (Nat.le_refl _) z21.prop
    clear HB F00 F01 F02 F03 F04 F05 F10 F11
    obtain ⟨B0, B1, hbb⟩ := HK.out _ kk
    have c00 := B0.cell 0
    have c01 := B0.cell 1
    have c02 := B0.cell 2
    have c03 := B0.cell 3
    have c04 := B0.cell 4
    have c05 := B0.cell 5
    have c10 := B1.cell 0
    have c11 := B1.cell 1
    have HB := Lib.hid hbb
    clear B0 B1 hbb
    skip
    go_wp2_with fail
    refine (awake_any _).mono ?_
    rintro e w22 ⟨rfl, hb22⟩
    replace kk := below_next kk (Nat.le_refl _) hb22
    clear c00 c01 c02 c03 c04 c05 c10 c11 HB hb22
    obtain ⟨B0, B1, hbb⟩ := HK.out _ kk
    have c00 := B0.cell 0
    have c01 := B0.cell 1
    have c02 := B0.cell 2
    have c03 := B0.cell 3
    have c04 := B0.cell 4
    have c05 := B0.cell 5
    have c10 := B1.cell 0
    have c11 := B1.cell 1
    have HB := Lib.hid hbb
    clear B0 B1 hbb
    go_wp2_with fail
    go_ret
    exact ⟨rfl, HB.out⟩
  have hs2 : X * X + Y * Y ≤ p.r * p.r := by omega
  have HD : Hid (sqZ (p.x, p.y) q ≤ p.r * p.r) := Lib.hid (by rw [HSQ.out]; exact hs2)
  clear hs
  obtain ⟨g, hg⟩ : ∃ g, permB l q p.tm = g := ⟨_, rfl⟩
  have HG := Lib.hid hg
  rcases g with _ | _
  · clear hg
    go_enter Try.func8, Try.ntmps8
    go_wp2_with fail
    refine (fewk_any A n c l A2 m c2 ps true _ (HZA.out _ HB.out) hn (HZP.out _ HB.out) hm HF.out).mono ?_
    rintro e w23 ⟨rfl, hb23⟩
    replace kk := below_next kk (Nat.le_refl _) hb23
    clear c00 c01 c02 c03 c04 c05 c10 c11 HB hb23
    obtain ⟨B0, B1, hbb⟩ := HK.out _ kk
    have c00 := B0.cell 0
    have c01 := B0.cell 1
    have c02 := B0.cell 2
    have c03 := B0.cell 3
    have c04 := B0.cell 4
    have c05 := B0.cell 5
    have c10 := B1.cell 0
    have c11 := B1.cell 1
    have HB := Lib.hid hbb
    clear B0 B1 hbb
    go_wp2_with fail
    refine (rpkcheck_any p 0 _ HY.out).mono ?_
    rintro e w24 ⟨rfl, hb24⟩
    replace kk := below_next kk (Nat.le_refl _) hb24
    clear c00 c01 c02 c03 c04 c05 c10 c11 HB hb24
    obtain ⟨B0, B1, hbb⟩ := HK.out _ kk
    have c00 := B0.cell 0
    have c01 := B0.cell 1
    have c02 := B0.cell 2
    have c03 := B0.cell 3
    have c04 := B0.cell 4
    have c05 := B0.cell 5
    have c10 := B1.cell 0
    have c11 := B1.cell 1
    have HB := Lib.hid hbb
    clear B0 B1 hbb
    go_wp2_with fail
    refine (rfcheck_any A n c l 0 _ (HZA.out _ HB.out) hn HZ.out).mono ?_
    rintro e w25 ⟨rfl, hb25⟩
    replace kk := below_next kk (Nat.le_refl _) hb25
    clear c00 c01 c02 c03 c04 c05 c10 c11 HB hb25
    obtain ⟨B0, B1, hbb⟩ := HK.out _ kk
    have c00 := B0.cell 0
    have c01 := B0.cell 1
    have c02 := B0.cell 2
    have c03 := B0.cell 3
    have c04 := B0.cell 4
    have c05 := B0.cell 5
    have c10 := B1.cell 0
    have c11 := B1.cell 1
    have HB := Lib.hid hbb
    clear B0 B1 hbb
    go_wp2_with fail
    refine (rvalid_any q true _ HO.out).mono ?_
    rintro e w26 ⟨rfl, hb26⟩
    replace kk := below_next kk (Nat.le_refl _) hb26
    clear c00 c01 c02 c03 c04 c05 c10 c11 HB hb26
    obtain ⟨B0, B1, hbb⟩ := HK.out _ kk
    have c00 := B0.cell 0
    have c01 := B0.cell 1
    have c02 := B0.cell 2
    have c03 := B0.cell 3
    have c04 := B0.cell 4
    have c05 := B0.cell 5
    have c10 := B1.cell 0
    have c11 := B1.cell 1
    have HB := Lib.hid hbb
    clear B0 B1 hbb
    go_wp2_with fail
    have F00 : ∀ z : Fam _, z.val.cell? ⟨w.heap.size, 0, none⟩ = some (.int .i64 p.ride) := fun z => z.some_ c00
    have F01 : ∀ z : Fam _, z.val.cell? ⟨w.heap.size, 1, none⟩ = some (.int .i64 p.rider) := fun z => z.some_ c01
    have F02 : ∀ z : Fam _, z.val.cell? ⟨w.heap.size, 2, none⟩ = some (.int .i64 p.tm) := fun z => z.some_ c02
    have F03 : ∀ z : Fam _, z.val.cell? ⟨w.heap.size, 3, none⟩ = some (.int .i64 p.x) := fun z => z.some_ c03
    have F04 : ∀ z : Fam _, z.val.cell? ⟨w.heap.size, 4, none⟩ = some (.int .i64 p.y) := fun z => z.some_ c04
    have F05 : ∀ z : Fam _, z.val.cell? ⟨w.heap.size, 5, none⟩ = some (.int .i64 p.r) := fun z => z.some_ c05
    have F10 : ∀ z : Fam _, z.val.cell? ⟨w.heap.size + 1, 0, none⟩ = some (.int .i64 q.1) := fun z => z.some_ c10
    have F11 : ∀ z : Fam _, z.val.cell? ⟨w.heap.size + 1, 1, none⟩ = some (.int .i64 q.2) := fun z => z.some_ c11
    clear c00 c01 c02 c03 c04 c05 c10 c11
    refine wp_region_fam (by kernel_rfl) (by kernel_rfl) ?_
    repeat (go_big_quiet_step (((fail))))
    refine wpQuiet_nil ?_
    rintro _ ⟨z27, rfl⟩
    replace kk := below_next kk (Nat.le_refl _) z27.prop
    clear HB F00 F01 F02 F03 F04 F05 F10 F11
    obtain ⟨B0, B1, hbb⟩ := HK.out _ kk
    have c00 := B0.cell 0
    have c01 := B0.cell 1
    have c02 := B0.cell 2
    have c03 := B0.cell 3
    have c04 := B0.cell 4
    have c05 := B0.cell 5
    have c10 := B1.cell 0
    have c11 := B1.cell 1
    have HB := Lib.hid hbb
    clear B0 B1 hbb
    skip
    go_wp2_with fail
    refine (permitted_any A n c l q p.tm false _ (HZA.out _ HB.out) hn HG.out).mono ?_
    rintro e w28 ⟨rfl, hb28⟩
    replace kk := below_next kk (Nat.le_refl _) hb28
    clear c00 c01 c02 c03 c04 c05 c10 c11 HB hb28
    obtain ⟨B0, B1, hbb⟩ := HK.out _ kk
    have c00 := B0.cell 0
    have c01 := B0.cell 1
    have c02 := B0.cell 2
    have c03 := B0.cell 3
    have c04 := B0.cell 4
    have c05 := B0.cell 5
    have c10 := B1.cell 0
    have c11 := B1.cell 1
    have HB := Lib.hid hbb
    clear B0 B1 hbb
    go_wp2_with fail
    refine (awake_any _).mono ?_
    rintro e w29 ⟨rfl, hb29⟩
    replace kk := below_next kk (Nat.le_refl _) hb29
    clear c00 c01 c02 c03 c04 c05 c10 c11 HB hb29
    obtain ⟨B0, B1, hbb⟩ := HK.out _ kk
    have c00 := B0.cell 0
    have c01 := B0.cell 1
    have c02 := B0.cell 2
    have c03 := B0.cell 3
    have c04 := B0.cell 4
    have c05 := B0.cell 5
    have c10 := B1.cell 0
    have c11 := B1.cell 1
    have HB := Lib.hid hbb
    clear B0 B1 hbb
    go_wp2_with fail
    go_ret
    exact ⟨rfl, HB.out⟩
  obtain ⟨k, hk⟩ : ∃ k, judgeZ l (countsB ps p) p = k := ⟨_, rfl⟩
  have hk2 : k ≠ 2 := by rw [← hk]; exact fair_law HP.out HZ.out HO.out HD.out hg _
  have hk3 : k = 1 ∨ (k = 3 ∧ countsB ps p = false) := by
    rcases judge_rng _ _ _ _ _ _ with h1 | h1 | h1
    · exact .inl (by rw [← hk]; exact h1)
    · exact absurd (by rw [← hk]; exact h1) hk2
    · exact .inr ⟨by rw [← hk]; exact h1.1, h1.2⟩
  have HV : Hid (judgeV l ps p = (p.ride, p.rider, p.tm, k)) := Lib.hid (by unfold judgeV; rw [if_pos HFL.out]; unfold verdict; rw [hk])
  clear hk hk2 hg
  rcases hk3 with rfl | ⟨rfl, hcc⟩
  · skip
    go_enter Try.func8, Try.ntmps8
    go_wp2_with fail
    refine (fewk_any A n c l A2 m c2 ps true _ (HZA.out _ HB.out) hn (HZP.out _ HB.out) hm HF.out).mono ?_
    rintro e w30 ⟨rfl, hb30⟩
    replace kk := below_next kk (Nat.le_refl _) hb30
    clear c00 c01 c02 c03 c04 c05 c10 c11 HB hb30
    obtain ⟨B0, B1, hbb⟩ := HK.out _ kk
    have c00 := B0.cell 0
    have c01 := B0.cell 1
    have c02 := B0.cell 2
    have c03 := B0.cell 3
    have c04 := B0.cell 4
    have c05 := B0.cell 5
    have c10 := B1.cell 0
    have c11 := B1.cell 1
    have HB := Lib.hid hbb
    clear B0 B1 hbb
    go_wp2_with fail
    refine (rpkcheck_any p 0 _ HY.out).mono ?_
    rintro e w31 ⟨rfl, hb31⟩
    replace kk := below_next kk (Nat.le_refl _) hb31
    clear c00 c01 c02 c03 c04 c05 c10 c11 HB hb31
    obtain ⟨B0, B1, hbb⟩ := HK.out _ kk
    have c00 := B0.cell 0
    have c01 := B0.cell 1
    have c02 := B0.cell 2
    have c03 := B0.cell 3
    have c04 := B0.cell 4
    have c05 := B0.cell 5
    have c10 := B1.cell 0
    have c11 := B1.cell 1
    have HB := Lib.hid hbb
    clear B0 B1 hbb
    go_wp2_with fail
    refine (rfcheck_any A n c l 0 _ (HZA.out _ HB.out) hn HZ.out).mono ?_
    rintro e w32 ⟨rfl, hb32⟩
    replace kk := below_next kk (Nat.le_refl _) hb32
    clear c00 c01 c02 c03 c04 c05 c10 c11 HB hb32
    obtain ⟨B0, B1, hbb⟩ := HK.out _ kk
    have c00 := B0.cell 0
    have c01 := B0.cell 1
    have c02 := B0.cell 2
    have c03 := B0.cell 3
    have c04 := B0.cell 4
    have c05 := B0.cell 5
    have c10 := B1.cell 0
    have c11 := B1.cell 1
    have HB := Lib.hid hbb
    clear B0 B1 hbb
    go_wp2_with fail
    refine (rvalid_any q true _ HO.out).mono ?_
    rintro e w33 ⟨rfl, hb33⟩
    replace kk := below_next kk (Nat.le_refl _) hb33
    clear c00 c01 c02 c03 c04 c05 c10 c11 HB hb33
    obtain ⟨B0, B1, hbb⟩ := HK.out _ kk
    have c00 := B0.cell 0
    have c01 := B0.cell 1
    have c02 := B0.cell 2
    have c03 := B0.cell 3
    have c04 := B0.cell 4
    have c05 := B0.cell 5
    have c10 := B1.cell 0
    have c11 := B1.cell 1
    have HB := Lib.hid hbb
    clear B0 B1 hbb
    go_wp2_with fail
    have F00 : ∀ z : Fam _, z.val.cell? ⟨w.heap.size, 0, none⟩ = some (.int .i64 p.ride) := fun z => z.some_ c00
    have F01 : ∀ z : Fam _, z.val.cell? ⟨w.heap.size, 1, none⟩ = some (.int .i64 p.rider) := fun z => z.some_ c01
    have F02 : ∀ z : Fam _, z.val.cell? ⟨w.heap.size, 2, none⟩ = some (.int .i64 p.tm) := fun z => z.some_ c02
    have F03 : ∀ z : Fam _, z.val.cell? ⟨w.heap.size, 3, none⟩ = some (.int .i64 p.x) := fun z => z.some_ c03
    have F04 : ∀ z : Fam _, z.val.cell? ⟨w.heap.size, 4, none⟩ = some (.int .i64 p.y) := fun z => z.some_ c04
    have F05 : ∀ z : Fam _, z.val.cell? ⟨w.heap.size, 5, none⟩ = some (.int .i64 p.r) := fun z => z.some_ c05
    have F10 : ∀ z : Fam _, z.val.cell? ⟨w.heap.size + 1, 0, none⟩ = some (.int .i64 q.1) := fun z => z.some_ c10
    have F11 : ∀ z : Fam _, z.val.cell? ⟨w.heap.size + 1, 1, none⟩ = some (.int .i64 q.2) := fun z => z.some_ c11
    clear c00 c01 c02 c03 c04 c05 c10 c11
    refine wp_region_fam (by kernel_rfl) (by kernel_rfl) ?_
    repeat (go_big_quiet_step (((fail))))
    refine wpQuiet_nil ?_
    rintro _ ⟨z34, rfl⟩
    replace kk := below_next kk (Nat.le_refl _) z34.prop
    clear HB F00 F01 F02 F03 F04 F05 F10 F11
    obtain ⟨B0, B1, hbb⟩ := HK.out _ kk
    have c00 := B0.cell 0
    have c01 := B0.cell 1
    have c02 := B0.cell 2
    have c03 := B0.cell 3
    have c04 := B0.cell 4
    have c05 := B0.cell 5
    have c10 := B1.cell 0
    have c11 := B1.cell 1
    have HB := Lib.hid hbb
    clear B0 B1 hbb
    skip
    go_wp2_with fail
    refine (permitted_any A n c l q p.tm true _ (HZA.out _ HB.out) hn HG.out).mono ?_
    rintro e w35 ⟨rfl, hb35⟩
    replace kk := below_next kk (Nat.le_refl _) hb35
    clear c00 c01 c02 c03 c04 c05 c10 c11 HB hb35
    obtain ⟨B0, B1, hbb⟩ := HK.out _ kk
    have c00 := B0.cell 0
    have c01 := B0.cell 1
    have c02 := B0.cell 2
    have c03 := B0.cell 3
    have c04 := B0.cell 4
    have c05 := B0.cell 5
    have c10 := B1.cell 0
    have c11 := B1.cell 1
    have HB := Lib.hid hbb
    clear B0 B1 hbb
    go_wp2_with fail
    refine (pjudge_any A n c l A2 m c2 ps p (p.ride, p.rider, p.tm, 1) 0 _ (HZA.out _ HB.out) hn (HZP.out _ HB.out) hm HFL.out HV.out).mono ?_
    rintro e u1 ⟨rfl, hb1⟩
    have V1 := Blk.new u1 31 #[.int .i64 p.ride, .int .i64 p.rider, .int .i64 p.tm, .int .i64 1]
    replace kk := (below_next kk (Nat.le_refl _) hb1).alloc (below_next kk (Nat.le_refl _) hb1).size (.cells #[.int .i64 p.ride, .int .i64 p.rider, .int .i64 p.tm, .int .i64 1] 31)
    clear HB hb1 c00 c01 c02 c03 c04 c05 c10 c11
    obtain ⟨B0, B1, hbb⟩ := HK.out _ kk
    have c00 := B0.cell 0
    have c01 := B0.cell 1
    have c02 := B0.cell 2
    have c03 := B0.cell 3
    have c04 := B0.cell 4
    have c05 := B0.cell 5
    have c10 := B1.cell 0
    have c11 := B1.cell 1
    have HB := Lib.hid hbb
    clear B0 B1 hbb
    have v1_0 := (V1.cell 0).trans rfl
    have v1_1 := (V1.cell 1).trans rfl
    have v1_2 := (V1.cell 2).trans rfl
    have v1_3 := (V1.cell 3).trans rfl
    clear V1
    go_wp2_with fail
    refine (awake_any _).mono ?_
    rintro e w36 ⟨rfl, hb36⟩
    replace kk := below_next kk (Nat.le_refl _) hb36
    clear c00 c01 c02 c03 c04 c05 c10 c11 HB hb36
    obtain ⟨B0, B1, hbb⟩ := HK.out _ kk
    have c00 := B0.cell 0
    have c01 := B0.cell 1
    have c02 := B0.cell 2
    have c03 := B0.cell 3
    have c04 := B0.cell 4
    have c05 := B0.cell 5
    have c10 := B1.cell 0
    have c11 := B1.cell 1
    have HB := Lib.hid hbb
    clear B0 B1 hbb
    go_wp2_with fail
    go_ret
    exact ⟨rfl, HB.out⟩
  · have HCC := Lib.hid hcc
    clear hcc
    go_enter Try.func8, Try.ntmps8
    go_wp2_with fail
    refine (fewk_any A n c l A2 m c2 ps true _ (HZA.out _ HB.out) hn (HZP.out _ HB.out) hm HF.out).mono ?_
    rintro e w37 ⟨rfl, hb37⟩
    replace kk := below_next kk (Nat.le_refl _) hb37
    clear c00 c01 c02 c03 c04 c05 c10 c11 HB hb37
    obtain ⟨B0, B1, hbb⟩ := HK.out _ kk
    have c00 := B0.cell 0
    have c01 := B0.cell 1
    have c02 := B0.cell 2
    have c03 := B0.cell 3
    have c04 := B0.cell 4
    have c05 := B0.cell 5
    have c10 := B1.cell 0
    have c11 := B1.cell 1
    have HB := Lib.hid hbb
    clear B0 B1 hbb
    go_wp2_with fail
    refine (rpkcheck_any p 0 _ HY.out).mono ?_
    rintro e w38 ⟨rfl, hb38⟩
    replace kk := below_next kk (Nat.le_refl _) hb38
    clear c00 c01 c02 c03 c04 c05 c10 c11 HB hb38
    obtain ⟨B0, B1, hbb⟩ := HK.out _ kk
    have c00 := B0.cell 0
    have c01 := B0.cell 1
    have c02 := B0.cell 2
    have c03 := B0.cell 3
    have c04 := B0.cell 4
    have c05 := B0.cell 5
    have c10 := B1.cell 0
    have c11 := B1.cell 1
    have HB := Lib.hid hbb
    clear B0 B1 hbb
    go_wp2_with fail
    refine (rfcheck_any A n c l 0 _ (HZA.out _ HB.out) hn HZ.out).mono ?_
    rintro e w39 ⟨rfl, hb39⟩
    replace kk := below_next kk (Nat.le_refl _) hb39
    clear c00 c01 c02 c03 c04 c05 c10 c11 HB hb39
    obtain ⟨B0, B1, hbb⟩ := HK.out _ kk
    have c00 := B0.cell 0
    have c01 := B0.cell 1
    have c02 := B0.cell 2
    have c03 := B0.cell 3
    have c04 := B0.cell 4
    have c05 := B0.cell 5
    have c10 := B1.cell 0
    have c11 := B1.cell 1
    have HB := Lib.hid hbb
    clear B0 B1 hbb
    go_wp2_with fail
    refine (rvalid_any q true _ HO.out).mono ?_
    rintro e w40 ⟨rfl, hb40⟩
    replace kk := below_next kk (Nat.le_refl _) hb40
    clear c00 c01 c02 c03 c04 c05 c10 c11 HB hb40
    obtain ⟨B0, B1, hbb⟩ := HK.out _ kk
    have c00 := B0.cell 0
    have c01 := B0.cell 1
    have c02 := B0.cell 2
    have c03 := B0.cell 3
    have c04 := B0.cell 4
    have c05 := B0.cell 5
    have c10 := B1.cell 0
    have c11 := B1.cell 1
    have HB := Lib.hid hbb
    clear B0 B1 hbb
    go_wp2_with fail
    have F00 : ∀ z : Fam _, z.val.cell? ⟨w.heap.size, 0, none⟩ = some (.int .i64 p.ride) := fun z => z.some_ c00
    have F01 : ∀ z : Fam _, z.val.cell? ⟨w.heap.size, 1, none⟩ = some (.int .i64 p.rider) := fun z => z.some_ c01
    have F02 : ∀ z : Fam _, z.val.cell? ⟨w.heap.size, 2, none⟩ = some (.int .i64 p.tm) := fun z => z.some_ c02
    have F03 : ∀ z : Fam _, z.val.cell? ⟨w.heap.size, 3, none⟩ = some (.int .i64 p.x) := fun z => z.some_ c03
    have F04 : ∀ z : Fam _, z.val.cell? ⟨w.heap.size, 4, none⟩ = some (.int .i64 p.y) := fun z => z.some_ c04
    have F05 : ∀ z : Fam _, z.val.cell? ⟨w.heap.size, 5, none⟩ = some (.int .i64 p.r) := fun z => z.some_ c05
    have F10 : ∀ z : Fam _, z.val.cell? ⟨w.heap.size + 1, 0, none⟩ = some (.int .i64 q.1) := fun z => z.some_ c10
    have F11 : ∀ z : Fam _, z.val.cell? ⟨w.heap.size + 1, 1, none⟩ = some (.int .i64 q.2) := fun z => z.some_ c11
    clear c00 c01 c02 c03 c04 c05 c10 c11
    refine wp_region_fam (by kernel_rfl) (by kernel_rfl) ?_
    repeat (go_big_quiet_step (((fail))))
    refine wpQuiet_nil ?_
    rintro _ ⟨z41, rfl⟩
    replace kk := below_next kk (Nat.le_refl _) z41.prop
    clear HB F00 F01 F02 F03 F04 F05 F10 F11
    obtain ⟨B0, B1, hbb⟩ := HK.out _ kk
    have c00 := B0.cell 0
    have c01 := B0.cell 1
    have c02 := B0.cell 2
    have c03 := B0.cell 3
    have c04 := B0.cell 4
    have c05 := B0.cell 5
    have c10 := B1.cell 0
    have c11 := B1.cell 1
    have HB := Lib.hid hbb
    clear B0 B1 hbb
    skip
    go_wp2_with fail
    refine (permitted_any A n c l q p.tm true _ (HZA.out _ HB.out) hn HG.out).mono ?_
    rintro e w42 ⟨rfl, hb42⟩
    replace kk := below_next kk (Nat.le_refl _) hb42
    clear c00 c01 c02 c03 c04 c05 c10 c11 HB hb42
    obtain ⟨B0, B1, hbb⟩ := HK.out _ kk
    have c00 := B0.cell 0
    have c01 := B0.cell 1
    have c02 := B0.cell 2
    have c03 := B0.cell 3
    have c04 := B0.cell 4
    have c05 := B0.cell 5
    have c10 := B1.cell 0
    have c11 := B1.cell 1
    have HB := Lib.hid hbb
    clear B0 B1 hbb
    go_wp2_with fail
    refine (pjudge_any A n c l A2 m c2 ps p (p.ride, p.rider, p.tm, 3) 0 _ (HZA.out _ HB.out) hn (HZP.out _ HB.out) hm HFL.out HV.out).mono ?_
    rintro e u1 ⟨rfl, hb1⟩
    have V1 := Blk.new u1 31 #[.int .i64 p.ride, .int .i64 p.rider, .int .i64 p.tm, .int .i64 3]
    replace kk := (below_next kk (Nat.le_refl _) hb1).alloc (below_next kk (Nat.le_refl _) hb1).size (.cells #[.int .i64 p.ride, .int .i64 p.rider, .int .i64 p.tm, .int .i64 3] 31)
    clear HB hb1 c00 c01 c02 c03 c04 c05 c10 c11
    obtain ⟨B0, B1, hbb⟩ := HK.out _ kk
    have c00 := B0.cell 0
    have c01 := B0.cell 1
    have c02 := B0.cell 2
    have c03 := B0.cell 3
    have c04 := B0.cell 4
    have c05 := B0.cell 5
    have c10 := B1.cell 0
    have c11 := B1.cell 1
    have HB := Lib.hid hbb
    clear B0 B1 hbb
    have v1_0 := (V1.cell 0).trans rfl
    have v1_1 := (V1.cell 1).trans rfl
    have v1_2 := (V1.cell 2).trans rfl
    have v1_3 := (V1.cell 3).trans rfl
    have HV1 := Lib.hid V1
    clear V1
    go_wp2_with fail
    refine (lcounts_any A2 m c2 ps p false _ (HZP.out _ HB.out) hm htm HCC.out).mono ?_
    rintro e w43 ⟨rfl, hb43⟩
    replace kk := below_next kk (Nat.le_refl _) hb43
    clear c00 c01 c02 c03 c04 c05 c10 c11 HB hb43
    obtain ⟨B0, B1, hbb⟩ := HK.out _ kk
    have c00 := B0.cell 0
    have c01 := B0.cell 1
    have c02 := B0.cell 2
    have c03 := B0.cell 3
    have c04 := B0.cell 4
    have c05 := B0.cell 5
    have c10 := B1.cell 0
    have c11 := B1.cell 1
    have HB := Lib.hid hbb
    clear B0 B1 hbb
    go_wp2_with fail
    refine (awake_any _).mono ?_
    rintro e w44 ⟨rfl, hb44⟩
    replace kk := below_next kk (Nat.le_refl _) hb44
    clear c00 c01 c02 c03 c04 c05 c10 c11 HB hb44
    obtain ⟨B0, B1, hbb⟩ := HK.out _ kk
    have c00 := B0.cell 0
    have c01 := B0.cell 1
    have c02 := B0.cell 2
    have c03 := B0.cell 3
    have c04 := B0.cell 4
    have c05 := B0.cell 5
    have c10 := B1.cell 0
    have c11 := B1.cell 1
    have HB := Lib.hid hbb
    clear B0 B1 hbb
    go_wp2_with fail
    go_ret
    exact ⟨rfl, HB.out⟩
end Go.Proofs.Ytdgdjlpbnaoheaa
