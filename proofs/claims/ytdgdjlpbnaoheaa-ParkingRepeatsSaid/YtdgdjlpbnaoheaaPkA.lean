/- The checks of parked bicycles, of the program and of the reference. -/
import Derived.Test.YtdgdjlpbnaoheaaPkPure
import Derived.Test.YtdgdjlpbnaoheaaFcD
namespace Go.Proofs.Ytdgdjlpbnaoheaa
open Go.RowKit
set_option maxHeartbeats 1000000 in
theorem in_any (n lo hi : Int) (x : Bool) (w : World) (hx : inB n lo hi = x) : Calls Try.prog 34 #[.int .i64 n, .int .i64 lo, .int .i64 hi] w (RetSame w x) := by
  have hcs : n < lo ∨ (lo ≤ n ∧ hi < n) ∨ (lo ≤ n ∧ n ≤ hi) := by omega
  rcases hcs with g0 | ⟨g0, g1⟩ | ⟨g0, g1⟩
  · obtain rfl : x = false := by rw [← hx]; exact inB_lo g0
    clear hx
    go_enter Try.func34, Try.ntmps34
    go_wp2_with fail
    go_ret
    exact ⟨ret_bool (by simp; try omega), rfl⟩
  · obtain rfl : x = false := by rw [← hx]; exact inB_hi g1
    clear hx
    go_enter Try.func34, Try.ntmps34
    go_wp2_with fail
    go_ret
    exact ⟨ret_bool (by simp; try omega), rfl⟩
  · obtain rfl : x = true := by rw [← hx]; exact inB_ok ⟨g0, g1⟩
    clear hx
    go_enter Try.func34, Try.ntmps34
    go_wp2_with fail
    go_ret
    exact ⟨ret_bool (by simp; try omega), rfl⟩
set_option maxHeartbeats 4000000 in
theorem pkcheck_any (p : Pk) (x : Int) (w : World) (hx : pkZ p = x) : Calls Try.prog 16 #[aggK p] w (RetI w x) := by
  obtain ⟨kk, hK⟩ := box1K w 27 #[.int .i64 p.ride, .int .i64 p.rider, .int .i64 p.tm, .int .i64 p.x, .int .i64 p.y, .int .i64 p.r]
  have HK := Lib.hid hK
  clear hK
  obtain ⟨B0, hbb⟩ := HK.out _ kk
  have c00 := B0.cell 0
  have c01 := B0.cell 1
  have c02 := B0.cell 2
  have c03 := B0.cell 3
  have c04 := B0.cell 4
  have c05 := B0.cell 5
  have HB := Lib.hid hbb
  clear B0 hbb
  rcases pkB_cases p with ⟨gg, h0⟩ | ⟨gg, h0, h1⟩ | ⟨gg, h0, h1, h2⟩ | ⟨gg, h0, h1, h2, h3⟩ | ⟨gg, h0, h1, h2, h3, h4⟩ | ⟨gg, h0, h1, h2, h3, h4, h5⟩ | ⟨gg, h0, h1, h2, h3, h4, h5⟩
  · have HX : Hid (1 = x) := Lib.hid (by rw [← hx, pkZ_1 gg])
    clear hx gg
    have H0 := Lib.hid h0
    clear h0
    go_enter Try.func16, Try.ntmps16
    go_wp2_with fail
    refine (in_any p.ride 1 1000000 false _ H0.out).mono ?_
    rintro e w1 ⟨rfl, rfl⟩
    go_wp2_with fail
    go_ret
    exact ⟨ret_int HX.out, HB.out⟩
  · have HX : Hid (1 = x) := Lib.hid (by rw [← hx, pkZ_1 gg])
    clear hx gg
    have H0 := Lib.hid h0
    have H1 := Lib.hid h1
    clear h0 h1
    go_enter Try.func16, Try.ntmps16
    go_wp2_with fail
    refine (in_any p.ride 1 1000000 true _ H0.out).mono ?_
    rintro e w1 ⟨rfl, rfl⟩
    go_wp2_with fail
    refine (in_any p.rider 0 127 false _ H1.out).mono ?_
    rintro e w1 ⟨rfl, rfl⟩
    go_wp2_with fail
    go_ret
    exact ⟨ret_int HX.out, HB.out⟩
  · have HX : Hid (1 = x) := Lib.hid (by rw [← hx, pkZ_1 gg])
    clear hx gg
    have H0 := Lib.hid h0
    have H1 := Lib.hid h1
    have H2 := Lib.hid h2
    clear h0 h1 h2
    go_enter Try.func16, Try.ntmps16
    go_wp2_with fail
    refine (in_any p.ride 1 1000000 true _ H0.out).mono ?_
    rintro e w1 ⟨rfl, rfl⟩
    go_wp2_with fail
    refine (in_any p.rider 0 127 true _ H1.out).mono ?_
    rintro e w1 ⟨rfl, rfl⟩
    go_wp2_with fail
    refine (in_any p.tm 0 4294943999 false _ H2.out).mono ?_
    rintro e w1 ⟨rfl, rfl⟩
    go_wp2_with fail
    go_ret
    exact ⟨ret_int HX.out, HB.out⟩
  · have HX : Hid (1 = x) := Lib.hid (by rw [← hx, pkZ_1 gg])
    clear hx gg
    have H0 := Lib.hid h0
    have H1 := Lib.hid h1
    have H2 := Lib.hid h2
    have H3 := Lib.hid h3
    clear h0 h1 h2 h3
    go_enter Try.func16, Try.ntmps16
    go_wp2_with fail
    refine (in_any p.ride 1 1000000 true _ H0.out).mono ?_
    rintro e w1 ⟨rfl, rfl⟩
    go_wp2_with fail
    refine (in_any p.rider 0 127 true _ H1.out).mono ?_
    rintro e w1 ⟨rfl, rfl⟩
    go_wp2_with fail
    refine (in_any p.tm 0 4294943999 true _ H2.out).mono ?_
    rintro e w1 ⟨rfl, rfl⟩
    go_wp2_with fail
    refine (in_any p.x (-16384) 16384 false _ H3.out).mono ?_
    rintro e w1 ⟨rfl, rfl⟩
    go_wp2_with fail
    go_ret
    exact ⟨ret_int HX.out, HB.out⟩
  · have HX : Hid (1 = x) := Lib.hid (by rw [← hx, pkZ_1 gg])
    clear hx gg
    have H0 := Lib.hid h0
    have H1 := Lib.hid h1
    have H2 := Lib.hid h2
    have H3 := Lib.hid h3
    have H4 := Lib.hid h4
    clear h0 h1 h2 h3 h4
    go_enter Try.func16, Try.ntmps16
    go_wp2_with fail
    refine (in_any p.ride 1 1000000 true _ H0.out).mono ?_
    rintro e w1 ⟨rfl, rfl⟩
    go_wp2_with fail
    refine (in_any p.rider 0 127 true _ H1.out).mono ?_
    rintro e w1 ⟨rfl, rfl⟩
    go_wp2_with fail
    refine (in_any p.tm 0 4294943999 true _ H2.out).mono ?_
    rintro e w1 ⟨rfl, rfl⟩
    go_wp2_with fail
    refine (in_any p.x (-16384) 16384 true _ H3.out).mono ?_
    rintro e w1 ⟨rfl, rfl⟩
    go_wp2_with fail
    refine (in_any p.y (-16384) 16384 false _ H4.out).mono ?_
    rintro e w1 ⟨rfl, rfl⟩
    go_wp2_with fail
    go_ret
    exact ⟨ret_int HX.out, HB.out⟩
  · have HX : Hid (1 = x) := Lib.hid (by rw [← hx, pkZ_1 gg])
    clear hx gg
    have H0 := Lib.hid h0
    have H1 := Lib.hid h1
    have H2 := Lib.hid h2
    have H3 := Lib.hid h3
    have H4 := Lib.hid h4
    have H5 := Lib.hid h5
    clear h0 h1 h2 h3 h4 h5
    go_enter Try.func16, Try.ntmps16
    go_wp2_with fail
    refine (in_any p.ride 1 1000000 true _ H0.out).mono ?_
    rintro e w1 ⟨rfl, rfl⟩
    go_wp2_with fail
    refine (in_any p.rider 0 127 true _ H1.out).mono ?_
    rintro e w1 ⟨rfl, rfl⟩
    go_wp2_with fail
    refine (in_any p.tm 0 4294943999 true _ H2.out).mono ?_
    rintro e w1 ⟨rfl, rfl⟩
    go_wp2_with fail
    refine (in_any p.x (-16384) 16384 true _ H3.out).mono ?_
    rintro e w1 ⟨rfl, rfl⟩
    go_wp2_with fail
    refine (in_any p.y (-16384) 16384 true _ H4.out).mono ?_
    rintro e w1 ⟨rfl, rfl⟩
    go_wp2_with fail
    refine (in_any p.r 0 16384 false _ H5.out).mono ?_
    rintro e w1 ⟨rfl, rfl⟩
    go_wp2_with fail
    go_ret
    exact ⟨ret_int HX.out, HB.out⟩
  · have HX : Hid (0 = x) := Lib.hid (by rw [← hx, pkZ_0 gg])
    clear hx gg
    have H0 := Lib.hid h0
    have H1 := Lib.hid h1
    have H2 := Lib.hid h2
    have H3 := Lib.hid h3
    have H4 := Lib.hid h4
    have H5 := Lib.hid h5
    clear h0 h1 h2 h3 h4 h5
    go_enter Try.func16, Try.ntmps16
    go_wp2_with fail
    refine (in_any p.ride 1 1000000 true _ H0.out).mono ?_
    rintro e w1 ⟨rfl, rfl⟩
    go_wp2_with fail
    refine (in_any p.rider 0 127 true _ H1.out).mono ?_
    rintro e w1 ⟨rfl, rfl⟩
    go_wp2_with fail
    refine (in_any p.tm 0 4294943999 true _ H2.out).mono ?_
    rintro e w1 ⟨rfl, rfl⟩
    go_wp2_with fail
    refine (in_any p.x (-16384) 16384 true _ H3.out).mono ?_
    rintro e w1 ⟨rfl, rfl⟩
    go_wp2_with fail
    refine (in_any p.y (-16384) 16384 true _ H4.out).mono ?_
    rintro e w1 ⟨rfl, rfl⟩
    go_wp2_with fail
    refine (in_any p.r 0 16384 true _ H5.out).mono ?_
    rintro e w1 ⟨rfl, rfl⟩
    go_wp2_with fail
    go_ret
    exact ⟨ret_int HX.out, HB.out⟩
set_option maxHeartbeats 4000000 in
theorem rpkcheck_any (p : Pk) (x : Int) (w : World) (hx : pkZ p = x) : Calls Try.prog 17 #[aggK p] w (RetI w x) := by
  obtain ⟨kk, hK⟩ := box1K w 27 #[.int .i64 p.ride, .int .i64 p.rider, .int .i64 p.tm, .int .i64 p.x, .int .i64 p.y, .int .i64 p.r]
  have HK := Lib.hid hK
  clear hK
  obtain ⟨B0, hbb⟩ := HK.out _ kk
  have c00 := B0.cell 0
  have c01 := B0.cell 1
  have c02 := B0.cell 2
  have c03 := B0.cell 3
  have c04 := B0.cell 4
  have c05 := B0.cell 5
  have HB := Lib.hid hbb
  clear B0 hbb
  have hok : okP (p.x, p.y) = (inB p.x (-16384) 16384 && inB p.y (-16384) 16384) := by unfold okP inB; simp [Bool.and_assoc]
  rcases pkB_cases p with ⟨gg, h0⟩ | ⟨gg, h0, h1⟩ | ⟨gg, h0, h1, h2⟩ | ⟨gg, h0, h1, h2, h3⟩ | ⟨gg, h0, h1, h2, h3, h4⟩ | ⟨gg, h0, h1, h2, h3, h4, h5⟩ | ⟨gg, h0, h1, h2, h3, h4, h5⟩
  · have HX : Hid (1 = x) := Lib.hid (by rw [← hx, pkZ_1 gg])
    clear hx gg
    rcases inB_f h0 with e0 | ⟨e0, e1⟩
    · clear h0 hok
      go_enter Try.func17, Try.ntmps17
      go_wp2_with fail
      go_wp2_with fail
      go_ret
      exact ⟨ret_int HX.out, HB.out⟩
    · clear h0 hok
      go_enter Try.func17, Try.ntmps17
      go_wp2_with fail
      go_wp2_with fail
      go_ret
      exact ⟨ret_int HX.out, HB.out⟩
  · have HX : Hid (1 = x) := Lib.hid (by rw [← hx, pkZ_1 gg])
    clear hx gg
    obtain ⟨g0a, g0b⟩ := inB_t h0
    rcases inB_f h1 with e0 | ⟨e0, e1⟩
    · clear h0 h1 hok
      go_enter Try.func17, Try.ntmps17
      go_wp2_with fail
      go_wp2_with fail
      go_ret
      exact ⟨ret_int HX.out, HB.out⟩
    · clear h0 h1 hok
      go_enter Try.func17, Try.ntmps17
      go_wp2_with fail
      go_wp2_with fail
      go_ret
      exact ⟨ret_int HX.out, HB.out⟩
  · have HX : Hid (1 = x) := Lib.hid (by rw [← hx, pkZ_1 gg])
    clear hx gg
    obtain ⟨g0a, g0b⟩ := inB_t h0
    obtain ⟨g1a, g1b⟩ := inB_t h1
    rcases inB_f h2 with e0 | ⟨e0, e1⟩
    · clear h0 h1 h2 hok
      go_enter Try.func17, Try.ntmps17
      go_wp2_with fail
      go_wp2_with fail
      go_ret
      exact ⟨ret_int HX.out, HB.out⟩
    · clear h0 h1 h2 hok
      go_enter Try.func17, Try.ntmps17
      go_wp2_with fail
      go_wp2_with fail
      go_ret
      exact ⟨ret_int HX.out, HB.out⟩
  · have HX : Hid (1 = x) := Lib.hid (by rw [← hx, pkZ_1 gg])
    clear hx gg
    obtain ⟨g0a, g0b⟩ := inB_t h0
    obtain ⟨g1a, g1b⟩ := inB_t h1
    obtain ⟨g2a, g2b⟩ := inB_t h2
    have HV : Hid (okP (p.x, p.y) = false) := Lib.hid (by rw [hok, h3]; rfl)
    skip
    · clear h0 h1 h2 h3 hok
      go_enter Try.func17, Try.ntmps17
      go_wp2_with fail
      refine (rvalid_any (p.x, p.y) false _ HV.out).mono ?_
      rintro e w1 ⟨rfl, hb1⟩
      replace kk := below_next kk (Nat.le_refl _) hb1
      clear c00 c01 c02 c03 c04 c05 HB hb1
      obtain ⟨B0, hbb⟩ := HK.out _ kk
      have c00 := B0.cell 0
      have c01 := B0.cell 1
      have c02 := B0.cell 2
      have c03 := B0.cell 3
      have c04 := B0.cell 4
      have c05 := B0.cell 5
      have HB := Lib.hid hbb
      clear B0 hbb
      go_wp2_with fail
      go_ret
      exact ⟨ret_int HX.out, HB.out⟩
  · have HX : Hid (1 = x) := Lib.hid (by rw [← hx, pkZ_1 gg])
    clear hx gg
    obtain ⟨g0a, g0b⟩ := inB_t h0
    obtain ⟨g1a, g1b⟩ := inB_t h1
    obtain ⟨g2a, g2b⟩ := inB_t h2
    have HV : Hid (okP (p.x, p.y) = false) := Lib.hid (by rw [hok, h3, h4]; rfl)
    skip
    · clear h0 h1 h2 h3 h4 hok
      go_enter Try.func17, Try.ntmps17
      go_wp2_with fail
      refine (rvalid_any (p.x, p.y) false _ HV.out).mono ?_
      rintro e w2 ⟨rfl, hb2⟩
      replace kk := below_next kk (Nat.le_refl _) hb2
      clear c00 c01 c02 c03 c04 c05 HB hb2
      obtain ⟨B0, hbb⟩ := HK.out _ kk
      have c00 := B0.cell 0
      have c01 := B0.cell 1
      have c02 := B0.cell 2
      have c03 := B0.cell 3
      have c04 := B0.cell 4
      have c05 := B0.cell 5
      have HB := Lib.hid hbb
      clear B0 hbb
      go_wp2_with fail
      go_ret
      exact ⟨ret_int HX.out, HB.out⟩
  · have HX : Hid (1 = x) := Lib.hid (by rw [← hx, pkZ_1 gg])
    clear hx gg
    obtain ⟨g0a, g0b⟩ := inB_t h0
    obtain ⟨g1a, g1b⟩ := inB_t h1
    obtain ⟨g2a, g2b⟩ := inB_t h2
    have HV : Hid (okP (p.x, p.y) = true) := Lib.hid (by rw [hok, h3, h4]; rfl)
    rcases inB_f h5 with e0 | ⟨e0, e1⟩
    · clear h0 h1 h2 h3 h4 h5 hok
      go_enter Try.func17, Try.ntmps17
      go_wp2_with fail
      refine (rvalid_any (p.x, p.y) true _ HV.out).mono ?_
      rintro e w3 ⟨rfl, hb3⟩
      replace kk := below_next kk (Nat.le_refl _) hb3
      clear c00 c01 c02 c03 c04 c05 HB hb3
      obtain ⟨B0, hbb⟩ := HK.out _ kk
      have c00 := B0.cell 0
      have c01 := B0.cell 1
      have c02 := B0.cell 2
      have c03 := B0.cell 3
      have c04 := B0.cell 4
      have c05 := B0.cell 5
      have HB := Lib.hid hbb
      clear B0 hbb
      go_wp2_with fail
      go_ret
      exact ⟨ret_int HX.out, HB.out⟩
    · clear h0 h1 h2 h3 h4 h5 hok
      go_enter Try.func17, Try.ntmps17
      go_wp2_with fail
      refine (rvalid_any (p.x, p.y) true _ HV.out).mono ?_
      rintro e w4 ⟨rfl, hb4⟩
      replace kk := below_next kk (Nat.le_refl _) hb4
      clear c00 c01 c02 c03 c04 c05 HB hb4
      obtain ⟨B0, hbb⟩ := HK.out _ kk
      have c00 := B0.cell 0
      have c01 := B0.cell 1
      have c02 := B0.cell 2
      have c03 := B0.cell 3
      have c04 := B0.cell 4
      have c05 := B0.cell 5
      have HB := Lib.hid hbb
      clear B0 hbb
      go_wp2_with fail
      go_ret
      exact ⟨ret_int HX.out, HB.out⟩
  · have HX : Hid (0 = x) := Lib.hid (by rw [← hx, pkZ_0 gg])
    clear hx gg
    obtain ⟨g0a, g0b⟩ := inB_t h0
    obtain ⟨g1a, g1b⟩ := inB_t h1
    obtain ⟨g2a, g2b⟩ := inB_t h2
    obtain ⟨g5a, g5b⟩ := inB_t h5
    have HV : Hid (okP (p.x, p.y) = true) := Lib.hid (by rw [hok, h3, h4]; rfl)
    skip
    · clear h0 h1 h2 h3 h4 h5 hok
      go_enter Try.func17, Try.ntmps17
      go_wp2_with fail
      refine (rvalid_any (p.x, p.y) true _ HV.out).mono ?_
      rintro e w5 ⟨rfl, hb5⟩
      replace kk := below_next kk (Nat.le_refl _) hb5
      clear c00 c01 c02 c03 c04 c05 HB hb5
      obtain ⟨B0, hbb⟩ := HK.out _ kk
      have c00 := B0.cell 0
      have c01 := B0.cell 1
      have c02 := B0.cell 2
      have c03 := B0.cell 3
      have c04 := B0.cell 4
      have c05 := B0.cell 5
      have HB := Lib.hid hbb
      clear B0 hbb
      go_wp2_with fail
      go_ret
      exact ⟨ret_int HX.out, HB.out⟩
set_option maxHeartbeats 4000000 in
theorem pkfault_any (A : Option Addr) (n c : Nat) (l : List Fc) (A2 : Option Addr) (m c2 : Nat) (p : Pk) (x : Int) (w : World) (h : FcR w A n l) (hn : n ≤ 9223372036854775807) (hm : m ≤ 9223372036854775807) (hx : faultZ l m p = x) : Calls Try.prog 28 #[.slice A n c, .slice A2 m c2, aggK p] w (RetI w x) := by
  obtain ⟨kk, hK⟩ := box1K w 27 #[.int .i64 p.ride, .int .i64 p.rider, .int .i64 p.tm, .int .i64 p.x, .int .i64 p.y, .int .i64 p.r]
  have HK := Lib.hid hK
  clear hK
  obtain ⟨B0, hbb⟩ := HK.out _ kk
  have c00 := B0.cell 0
  have c01 := B0.cell 1
  have c02 := B0.cell 2
  have c03 := B0.cell 3
  have c04 := B0.cell 4
  have c05 := B0.cell 5
  have HB := Lib.hid hbb
  clear B0 hbb
  have HZA : Hid (∀ u, Below w.heap.size w u → FcR u A n l) := Lib.hid fun u hu => h.below hu
  clear h
  obtain ⟨z, hz⟩ : ∃ z, pkZ p = z := ⟨_, rfl⟩
  have HZ := Lib.hid hz
  by_cases h0 : z = 0
  case neg =>
    have HX : Hid (z = x) := Lib.hid (by rw [← hx, fault_pk (by rw [hz]; exact h0), hz])
    have t0 := ne0_t h0
    clear hz h0 hx
    go_enter Try.func28, Try.ntmps28
    go_wp2_with fail
    refine (pkcheck_any p z _ HZ.out).mono ?_
    rintro e w1 ⟨rfl, hb1⟩
    replace kk := below_next kk (Nat.le_refl _) hb1
    clear c00 c01 c02 c03 c04 c05 HB hb1
    obtain ⟨B0, hbb⟩ := HK.out _ kk
    have c00 := B0.cell 0
    have c01 := B0.cell 1
    have c02 := B0.cell 2
    have c03 := B0.cell 3
    have c04 := B0.cell 4
    have c05 := B0.cell 5
    have HB := Lib.hid hbb
    clear B0 hbb
    go_wp2_with fail
    go_ret
    exact ⟨ret_int HX.out, HB.out⟩
  subst h0
  obtain ⟨y, hy⟩ : ∃ y, fcheckZ l = y := ⟨_, rfl⟩
  have HY := Lib.hid hy
  by_cases h0 : y = 0
  case neg =>
    have HX : Hid (y = x) := Lib.hid (by rw [← hx, fault_fc hz (by rw [hy]; exact h0), hy])
    have t0 := ne0_t h0
    clear hz hy h0 hx
    go_enter Try.func28, Try.ntmps28
    go_wp2_with fail
    refine (pkcheck_any p 0 _ HZ.out).mono ?_
    rintro e w2 ⟨rfl, hb2⟩
    replace kk := below_next kk (Nat.le_refl _) hb2
    clear c00 c01 c02 c03 c04 c05 HB hb2
    obtain ⟨B0, hbb⟩ := HK.out _ kk
    have c00 := B0.cell 0
    have c01 := B0.cell 1
    have c02 := B0.cell 2
    have c03 := B0.cell 3
    have c04 := B0.cell 4
    have c05 := B0.cell 5
    have HB := Lib.hid hbb
    clear B0 hbb
    go_wp2_with fail
    refine (fcheck_any A n c l y _ (HZA.out _ HB.out) hn HY.out).mono ?_
    rintro e w3 ⟨rfl, hb3⟩
    replace kk := below_next kk (Nat.le_refl _) hb3
    clear c00 c01 c02 c03 c04 c05 HB hb3
    obtain ⟨B0, hbb⟩ := HK.out _ kk
    have c00 := B0.cell 0
    have c01 := B0.cell 1
    have c02 := B0.cell 2
    have c03 := B0.cell 3
    have c04 := B0.cell 4
    have c05 := B0.cell 5
    have HB := Lib.hid hbb
    clear B0 hbb
    go_wp2_with fail
    go_ret
    exact ⟨ret_int HX.out, HB.out⟩
  subst h0
  by_cases h2 : 64 < m
  · have HX : Hid (8 = x) := Lib.hid (by rw [← hx, fault_full hz hy h2])
    have h3 : (64 : Int) < m := by omega
    clear hz hy hx
    go_enter Try.func28, Try.ntmps28
    go_wp2_with fail
    refine (pkcheck_any p 0 _ HZ.out).mono ?_
    rintro e w4 ⟨rfl, hb4⟩
    replace kk := below_next kk (Nat.le_refl _) hb4
    clear c00 c01 c02 c03 c04 c05 HB hb4
    obtain ⟨B0, hbb⟩ := HK.out _ kk
    have c00 := B0.cell 0
    have c01 := B0.cell 1
    have c02 := B0.cell 2
    have c03 := B0.cell 3
    have c04 := B0.cell 4
    have c05 := B0.cell 5
    have HB := Lib.hid hbb
    clear B0 hbb
    go_wp2_with fail
    refine (fcheck_any A n c l 0 _ (HZA.out _ HB.out) hn HY.out).mono ?_
    rintro e w5 ⟨rfl, hb5⟩
    replace kk := below_next kk (Nat.le_refl _) hb5
    clear c00 c01 c02 c03 c04 c05 HB hb5
    obtain ⟨B0, hbb⟩ := HK.out _ kk
    have c00 := B0.cell 0
    have c01 := B0.cell 1
    have c02 := B0.cell 2
    have c03 := B0.cell 3
    have c04 := B0.cell 4
    have c05 := B0.cell 5
    have HB := Lib.hid hbb
    clear B0 hbb
    go_wp2_with fail
    go_ret
    exact ⟨ret_int HX.out, HB.out⟩
  · have HX : Hid (0 = x) := Lib.hid (by rw [← hx, fault_ok hz hy h2])
    have h3 : (m : Int) ≤ 64 := by omega
    clear hz hy hx
    go_enter Try.func28, Try.ntmps28
    go_wp2_with fail
    refine (pkcheck_any p 0 _ HZ.out).mono ?_
    rintro e w6 ⟨rfl, hb6⟩
    replace kk := below_next kk (Nat.le_refl _) hb6
    clear c00 c01 c02 c03 c04 c05 HB hb6
    obtain ⟨B0, hbb⟩ := HK.out _ kk
    have c00 := B0.cell 0
    have c01 := B0.cell 1
    have c02 := B0.cell 2
    have c03 := B0.cell 3
    have c04 := B0.cell 4
    have c05 := B0.cell 5
    have HB := Lib.hid hbb
    clear B0 hbb
    go_wp2_with fail
    refine (fcheck_any A n c l 0 _ (HZA.out _ HB.out) hn HY.out).mono ?_
    rintro e w7 ⟨rfl, hb7⟩
    replace kk := below_next kk (Nat.le_refl _) hb7
    clear c00 c01 c02 c03 c04 c05 HB hb7
    obtain ⟨B0, hbb⟩ := HK.out _ kk
    have c00 := B0.cell 0
    have c01 := B0.cell 1
    have c02 := B0.cell 2
    have c03 := B0.cell 3
    have c04 := B0.cell 4
    have c05 := B0.cell 5
    have HB := Lib.hid hbb
    clear B0 hbb
    go_wp2_with fail
    go_ret
    exact ⟨ret_int HX.out, HB.out⟩
set_option maxHeartbeats 4000000 in
theorem rpkfault_any (A : Option Addr) (n c : Nat) (l : List Fc) (A2 : Option Addr) (m c2 : Nat) (p : Pk) (x : Int) (w : World) (h : FcR w A n l) (hn : n ≤ 9223372036854775807) (hm : m ≤ 9223372036854775807) (hx : faultZ l m p = x) : Calls Try.prog 35 #[.slice A n c, .slice A2 m c2, aggK p] w (RetI w x) := by
  obtain ⟨kk, hK⟩ := box1K w 27 #[.int .i64 p.ride, .int .i64 p.rider, .int .i64 p.tm, .int .i64 p.x, .int .i64 p.y, .int .i64 p.r]
  have HK := Lib.hid hK
  clear hK
  obtain ⟨B0, hbb⟩ := HK.out _ kk
  have c00 := B0.cell 0
  have c01 := B0.cell 1
  have c02 := B0.cell 2
  have c03 := B0.cell 3
  have c04 := B0.cell 4
  have c05 := B0.cell 5
  have HB := Lib.hid hbb
  clear B0 hbb
  have HZA : Hid (∀ u, Below w.heap.size w u → FcR u A n l) := Lib.hid fun u hu => h.below hu
  clear h
  obtain ⟨z, hz⟩ : ∃ z, pkZ p = z := ⟨_, rfl⟩
  have HZ := Lib.hid hz
  by_cases h0 : z = 0
  case neg =>
    have HX : Hid (z = x) := Lib.hid (by rw [← hx, fault_pk (by rw [hz]; exact h0), hz])
    have t0 := ne0_t h0
    clear hz h0 hx
    go_enter Try.func35, Try.ntmps35
    go_wp2_with fail
    refine (rpkcheck_any p z _ HZ.out).mono ?_
    rintro e w1 ⟨rfl, hb1⟩
    replace kk := below_next kk (Nat.le_refl _) hb1
    clear c00 c01 c02 c03 c04 c05 HB hb1
    obtain ⟨B0, hbb⟩ := HK.out _ kk
    have c00 := B0.cell 0
    have c01 := B0.cell 1
    have c02 := B0.cell 2
    have c03 := B0.cell 3
    have c04 := B0.cell 4
    have c05 := B0.cell 5
    have HB := Lib.hid hbb
    clear B0 hbb
    go_wp2_with fail
    go_ret
    exact ⟨ret_int HX.out, HB.out⟩
  subst h0
  obtain ⟨y, hy⟩ : ∃ y, fcheckZ l = y := ⟨_, rfl⟩
  have HY := Lib.hid hy
  by_cases h0 : y = 0
  case neg =>
    have HX : Hid (y = x) := Lib.hid (by rw [← hx, fault_fc hz (by rw [hy]; exact h0), hy])
    have t0 := ne0_t h0
    clear hz hy h0 hx
    go_enter Try.func35, Try.ntmps35
    go_wp2_with fail
    refine (rpkcheck_any p 0 _ HZ.out).mono ?_
    rintro e w2 ⟨rfl, hb2⟩
    replace kk := below_next kk (Nat.le_refl _) hb2
    clear c00 c01 c02 c03 c04 c05 HB hb2
    obtain ⟨B0, hbb⟩ := HK.out _ kk
    have c00 := B0.cell 0
    have c01 := B0.cell 1
    have c02 := B0.cell 2
    have c03 := B0.cell 3
    have c04 := B0.cell 4
    have c05 := B0.cell 5
    have HB := Lib.hid hbb
    clear B0 hbb
    go_wp2_with fail
    refine (rfcheck_any A n c l y _ (HZA.out _ HB.out) hn HY.out).mono ?_
    rintro e w3 ⟨rfl, hb3⟩
    replace kk := below_next kk (Nat.le_refl _) hb3
    clear c00 c01 c02 c03 c04 c05 HB hb3
    obtain ⟨B0, hbb⟩ := HK.out _ kk
    have c00 := B0.cell 0
    have c01 := B0.cell 1
    have c02 := B0.cell 2
    have c03 := B0.cell 3
    have c04 := B0.cell 4
    have c05 := B0.cell 5
    have HB := Lib.hid hbb
    clear B0 hbb
    go_wp2_with fail
    go_ret
    exact ⟨ret_int HX.out, HB.out⟩
  subst h0
  by_cases h2 : 64 < m
  · have HX : Hid (8 = x) := Lib.hid (by rw [← hx, fault_full hz hy h2])
    have h3 : (64 : Int) < m := by omega
    clear hz hy hx
    go_enter Try.func35, Try.ntmps35
    go_wp2_with fail
    refine (rpkcheck_any p 0 _ HZ.out).mono ?_
    rintro e w4 ⟨rfl, hb4⟩
    replace kk := below_next kk (Nat.le_refl _) hb4
    clear c00 c01 c02 c03 c04 c05 HB hb4
    obtain ⟨B0, hbb⟩ := HK.out _ kk
    have c00 := B0.cell 0
    have c01 := B0.cell 1
    have c02 := B0.cell 2
    have c03 := B0.cell 3
    have c04 := B0.cell 4
    have c05 := B0.cell 5
    have HB := Lib.hid hbb
    clear B0 hbb
    go_wp2_with fail
    refine (rfcheck_any A n c l 0 _ (HZA.out _ HB.out) hn HY.out).mono ?_
    rintro e w5 ⟨rfl, hb5⟩
    replace kk := below_next kk (Nat.le_refl _) hb5
    clear c00 c01 c02 c03 c04 c05 HB hb5
    obtain ⟨B0, hbb⟩ := HK.out _ kk
    have c00 := B0.cell 0
    have c01 := B0.cell 1
    have c02 := B0.cell 2
    have c03 := B0.cell 3
    have c04 := B0.cell 4
    have c05 := B0.cell 5
    have HB := Lib.hid hbb
    clear B0 hbb
    go_wp2_with fail
    go_ret
    exact ⟨ret_int HX.out, HB.out⟩
  · have HX : Hid (0 = x) := Lib.hid (by rw [← hx, fault_ok hz hy h2])
    have h3 : (m : Int) ≤ 64 := by omega
    clear hz hy hx
    go_enter Try.func35, Try.ntmps35
    go_wp2_with fail
    refine (rpkcheck_any p 0 _ HZ.out).mono ?_
    rintro e w6 ⟨rfl, hb6⟩
    replace kk := below_next kk (Nat.le_refl _) hb6
    clear c00 c01 c02 c03 c04 c05 HB hb6
    obtain ⟨B0, hbb⟩ := HK.out _ kk
    have c00 := B0.cell 0
    have c01 := B0.cell 1
    have c02 := B0.cell 2
    have c03 := B0.cell 3
    have c04 := B0.cell 4
    have c05 := B0.cell 5
    have HB := Lib.hid hbb
    clear B0 hbb
    go_wp2_with fail
    refine (rfcheck_any A n c l 0 _ (HZA.out _ HB.out) hn HY.out).mono ?_
    rintro e w7 ⟨rfl, hb7⟩
    replace kk := below_next kk (Nat.le_refl _) hb7
    clear c00 c01 c02 c03 c04 c05 HB hb7
    obtain ⟨B0, hbb⟩ := HK.out _ kk
    have c00 := B0.cell 0
    have c01 := B0.cell 1
    have c02 := B0.cell 2
    have c03 := B0.cell 3
    have c04 := B0.cell 4
    have c05 := B0.cell 5
    have HB := Lib.hid hbb
    clear B0 hbb
    go_wp2_with fail
    go_ret
    exact ⟨ret_int HX.out, HB.out⟩
end Go.Proofs.Ytdgdjlpbnaoheaa
