/- The walks of the reference's Sure and Possible of fences. -/
import Derived.Test.YtdgdjlpbnaoheaaFcC
import Derived.Test.YtdgdjlpbnaoheaaGeoEq
import Derived.Test.YtdgdjlpbnaoheaaFam
namespace Go.Proofs.Ytdgdjlpbnaoheaa
open Go.RowKit
theorem range_cases2 (p : Pt) (r t : Int) : (rangeB p r t = false ∧ t < 0) ∨ (rangeB p r t = false ∧ 0 ≤ t ∧ 4294943999 < t) ∨ (rangeB p r t = false ∧ 0 ≤ t ∧ t ≤ 4294943999 ∧ p.1 < -16384) ∨ (rangeB p r t = false ∧ 0 ≤ t ∧ t ≤ 4294943999 ∧ -16384 ≤ p.1 ∧ 16384 < p.1) ∨ (rangeB p r t = false ∧ 0 ≤ t ∧ t ≤ 4294943999 ∧ -16384 ≤ p.1 ∧ p.1 ≤ 16384 ∧ p.2 < -16384) ∨ (rangeB p r t = false ∧ 0 ≤ t ∧ t ≤ 4294943999 ∧ -16384 ≤ p.1 ∧ p.1 ≤ 16384 ∧ -16384 ≤ p.2 ∧ 16384 < p.2) ∨ (rangeB p r t = false ∧ 0 ≤ t ∧ t ≤ 4294943999 ∧ -16384 ≤ p.1 ∧ p.1 ≤ 16384 ∧ -16384 ≤ p.2 ∧ p.2 ≤ 16384 ∧ r < 0) ∨ (rangeB p r t = false ∧ 0 ≤ t ∧ t ≤ 4294943999 ∧ -16384 ≤ p.1 ∧ p.1 ≤ 16384 ∧ -16384 ≤ p.2 ∧ p.2 ≤ 16384 ∧ 0 ≤ r ∧ 16384 < r) ∨ (rangeB p r t = true ∧ 0 ≤ t ∧ t ≤ 4294943999 ∧ -16384 ≤ p.1 ∧ p.1 ≤ 16384 ∧ -16384 ≤ p.2 ∧ p.2 ≤ 16384 ∧ 0 ≤ r ∧ r ≤ 16384) := by
  rcases h : rangeB p r t with _ | _ <;> simp [rangeB, okP] at h <;> simp <;> omega
set_option maxHeartbeats 4000000 in
set_option maxRecDepth 10000 in
theorem rquest_any (A : Option Addr) (n c : Nat) (l : List Fc) (k : Int) (p : Pt) (r t : Int) (y : Int) (w : World) (h : FcR w A n l) (hn : n ≤ 9223372036854775807) (hy : questZ l k p r t = y) : Calls Try.prog 78 #[.slice A n c, .int .i64 k, aggP p, .int .i64 r, .int .i64 t] w (RetI w y) := by
  obtain ⟨kk, hK⟩ := box1K w 25 #[.int .i64 p.1, .int .i64 p.2]
  have HK := Lib.hid hK
  clear hK
  obtain ⟨B0, hbb⟩ := HK.out _ kk
  have c00 := B0.cell 0
  have c01 := B0.cell 1
  have HB := Lib.hid hbb
  clear B0 hbb
  have HZA : Hid (∀ u, Below w.heap.size w u → FcR u A n l) := Lib.hid fun u hu => h.below hu
  have HY := Lib.hid hy
  clear h hy
  obtain ⟨z, hz⟩ : ∃ z, fcheckZ l = z := ⟨_, rfl⟩
  have HZ := Lib.hid hz
  by_cases h0 : z = 0
  case neg =>
    have HX : Hid (z = y) := Lib.hid (by rw [← HY.out, quest_check (by rw [hz]; exact h0), hz])
    have t0 := ne0_t h0
    clear hz h0
    go_enter Try.func78, Try.ntmps78
    go_wp2_with fail
    refine (rfcheck_any A n c l z _ (HZA.out _ HB.out) hn HZ.out).mono ?_
    rintro e w1 ⟨rfl, hb1⟩
    replace kk := below_next kk (Nat.le_refl _) hb1
    clear c00 c01 HB hb1
    obtain ⟨B0, hbb⟩ := HK.out _ kk
    have c00 := B0.cell 0
    have c01 := B0.cell 1
    have HB := Lib.hid hbb
    clear B0 hbb
    go_wp2_with fail
    go_ret
    exact ⟨ret_int HX.out, HB.out⟩
  subst h0
  rcases hk : kindB k with _ | _
  · have HX : Hid (14 = y) := Lib.hid (by rw [← HY.out, quest_kind hz hk])
    have HKD := Lib.hid hk
    clear hz hk
    go_enter Try.func78, Try.ntmps78
    go_wp2_with fail
    refine (rfcheck_any A n c l 0 _ (HZA.out _ HB.out) hn HZ.out).mono ?_
    rintro e w2 ⟨rfl, hb2⟩
    replace kk := below_next kk (Nat.le_refl _) hb2
    clear c00 c01 HB hb2
    obtain ⟨B0, hbb⟩ := HK.out _ kk
    have c00 := B0.cell 0
    have c01 := B0.cell 1
    have HB := Lib.hid hbb
    clear B0 hbb
    go_wp2_with fail
    refine (rkind_any k false _ HKD.out).mono ?_
    rintro e w3 ⟨rfl, rfl⟩
    go_wp2_with fail
    go_ret
    exact ⟨ret_int HX.out, HB.out⟩
  have HKD := Lib.hid hk
  have hrc := range_cases2 p r t
  have HBADX : Hid (rangeB p r t = false → 1 = y) := Lib.hid fun g => by rw [← HY.out, quest_range hz hk g]
  have HOKX : Hid (rangeB p r t = true → 0 = y) := Lib.hid fun g => by rw [← HY.out, quest_ok hz hk g]
  clear hz hk
  rcases hrc with ⟨gg, q1⟩ | ⟨gg, q1, q2⟩ | ⟨gg, q1, q2, q3⟩ | ⟨gg, q1, q2, q3, q4⟩ | ⟨gg, q1, q2, q3, q4, q5⟩ | ⟨gg, q1, q2, q3, q4, q5, q6⟩ | ⟨gg, q1, q2, q3, q4, q5, q6, q7⟩ | ⟨gg, q1, q2, q3, q4, q5, q6, q7, q8⟩ | ⟨gg, q1, q2, q3, q4, q5, q6, q7, q8⟩
  · have HX := Lib.hid (HBADX.out gg)
    clear gg
    go_enter Try.func78, Try.ntmps78
    go_wp2_with fail
    refine (rfcheck_any A n c l 0 _ (HZA.out _ HB.out) hn HZ.out).mono ?_
    rintro e w3 ⟨rfl, hb3⟩
    replace kk := below_next kk (Nat.le_refl _) hb3
    clear c00 c01 HB hb3
    obtain ⟨B0, hbb⟩ := HK.out _ kk
    have c00 := B0.cell 0
    have c01 := B0.cell 1
    have HB := Lib.hid hbb
    clear B0 hbb
    go_wp2_with fail
    refine (rkind_any k true _ HKD.out).mono ?_
    rintro e w3 ⟨rfl, rfl⟩
    go_wp2_with fail
    go_ret
    exact ⟨ret_int HX.out, HB.out⟩
  · have HX := Lib.hid (HBADX.out gg)
    clear gg
    go_enter Try.func78, Try.ntmps78
    go_wp2_with fail
    refine (rfcheck_any A n c l 0 _ (HZA.out _ HB.out) hn HZ.out).mono ?_
    rintro e w4 ⟨rfl, hb4⟩
    replace kk := below_next kk (Nat.le_refl _) hb4
    clear c00 c01 HB hb4
    obtain ⟨B0, hbb⟩ := HK.out _ kk
    have c00 := B0.cell 0
    have c01 := B0.cell 1
    have HB := Lib.hid hbb
    clear B0 hbb
    go_wp2_with fail
    refine (rkind_any k true _ HKD.out).mono ?_
    rintro e w3 ⟨rfl, rfl⟩
    go_wp2_with fail
    go_ret
    exact ⟨ret_int HX.out, HB.out⟩
  · have HX := Lib.hid (HBADX.out gg)
    clear gg
    go_enter Try.func78, Try.ntmps78
    go_wp2_with fail
    refine (rfcheck_any A n c l 0 _ (HZA.out _ HB.out) hn HZ.out).mono ?_
    rintro e w5 ⟨rfl, hb5⟩
    replace kk := below_next kk (Nat.le_refl _) hb5
    clear c00 c01 HB hb5
    obtain ⟨B0, hbb⟩ := HK.out _ kk
    have c00 := B0.cell 0
    have c01 := B0.cell 1
    have HB := Lib.hid hbb
    clear B0 hbb
    go_wp2_with fail
    refine (rkind_any k true _ HKD.out).mono ?_
    rintro e w3 ⟨rfl, rfl⟩
    go_wp2_with fail
    go_ret
    exact ⟨ret_int HX.out, HB.out⟩
  · have HX := Lib.hid (HBADX.out gg)
    clear gg
    go_enter Try.func78, Try.ntmps78
    go_wp2_with fail
    refine (rfcheck_any A n c l 0 _ (HZA.out _ HB.out) hn HZ.out).mono ?_
    rintro e w6 ⟨rfl, hb6⟩
    replace kk := below_next kk (Nat.le_refl _) hb6
    clear c00 c01 HB hb6
    obtain ⟨B0, hbb⟩ := HK.out _ kk
    have c00 := B0.cell 0
    have c01 := B0.cell 1
    have HB := Lib.hid hbb
    clear B0 hbb
    go_wp2_with fail
    refine (rkind_any k true _ HKD.out).mono ?_
    rintro e w3 ⟨rfl, rfl⟩
    go_wp2_with fail
    go_ret
    exact ⟨ret_int HX.out, HB.out⟩
  · have HX := Lib.hid (HBADX.out gg)
    clear gg
    go_enter Try.func78, Try.ntmps78
    go_wp2_with fail
    refine (rfcheck_any A n c l 0 _ (HZA.out _ HB.out) hn HZ.out).mono ?_
    rintro e w7 ⟨rfl, hb7⟩
    replace kk := below_next kk (Nat.le_refl _) hb7
    clear c00 c01 HB hb7
    obtain ⟨B0, hbb⟩ := HK.out _ kk
    have c00 := B0.cell 0
    have c01 := B0.cell 1
    have HB := Lib.hid hbb
    clear B0 hbb
    go_wp2_with fail
    refine (rkind_any k true _ HKD.out).mono ?_
    rintro e w3 ⟨rfl, rfl⟩
    go_wp2_with fail
    go_ret
    exact ⟨ret_int HX.out, HB.out⟩
  · have HX := Lib.hid (HBADX.out gg)
    clear gg
    go_enter Try.func78, Try.ntmps78
    go_wp2_with fail
    refine (rfcheck_any A n c l 0 _ (HZA.out _ HB.out) hn HZ.out).mono ?_
    rintro e w8 ⟨rfl, hb8⟩
    replace kk := below_next kk (Nat.le_refl _) hb8
    clear c00 c01 HB hb8
    obtain ⟨B0, hbb⟩ := HK.out _ kk
    have c00 := B0.cell 0
    have c01 := B0.cell 1
    have HB := Lib.hid hbb
    clear B0 hbb
    go_wp2_with fail
    refine (rkind_any k true _ HKD.out).mono ?_
    rintro e w3 ⟨rfl, rfl⟩
    go_wp2_with fail
    go_ret
    exact ⟨ret_int HX.out, HB.out⟩
  · have HX := Lib.hid (HBADX.out gg)
    clear gg
    go_enter Try.func78, Try.ntmps78
    go_wp2_with fail
    refine (rfcheck_any A n c l 0 _ (HZA.out _ HB.out) hn HZ.out).mono ?_
    rintro e w9 ⟨rfl, hb9⟩
    replace kk := below_next kk (Nat.le_refl _) hb9
    clear c00 c01 HB hb9
    obtain ⟨B0, hbb⟩ := HK.out _ kk
    have c00 := B0.cell 0
    have c01 := B0.cell 1
    have HB := Lib.hid hbb
    clear B0 hbb
    go_wp2_with fail
    refine (rkind_any k true _ HKD.out).mono ?_
    rintro e w3 ⟨rfl, rfl⟩
    go_wp2_with fail
    go_ret
    exact ⟨ret_int HX.out, HB.out⟩
  · have HX := Lib.hid (HBADX.out gg)
    clear gg
    go_enter Try.func78, Try.ntmps78
    go_wp2_with fail
    refine (rfcheck_any A n c l 0 _ (HZA.out _ HB.out) hn HZ.out).mono ?_
    rintro e w10 ⟨rfl, hb10⟩
    replace kk := below_next kk (Nat.le_refl _) hb10
    clear c00 c01 HB hb10
    obtain ⟨B0, hbb⟩ := HK.out _ kk
    have c00 := B0.cell 0
    have c01 := B0.cell 1
    have HB := Lib.hid hbb
    clear B0 hbb
    go_wp2_with fail
    refine (rkind_any k true _ HKD.out).mono ?_
    rintro e w3 ⟨rfl, rfl⟩
    go_wp2_with fail
    go_ret
    exact ⟨ret_int HX.out, HB.out⟩
  · have HX := Lib.hid (HOKX.out gg)
    clear gg
    go_enter Try.func78, Try.ntmps78
    go_wp2_with fail
    refine (rfcheck_any A n c l 0 _ (HZA.out _ HB.out) hn HZ.out).mono ?_
    rintro e w11 ⟨rfl, hb11⟩
    replace kk := below_next kk (Nat.le_refl _) hb11
    clear c00 c01 HB hb11
    obtain ⟨B0, hbb⟩ := HK.out _ kk
    have c00 := B0.cell 0
    have c01 := B0.cell 1
    have HB := Lib.hid hbb
    clear B0 hbb
    go_wp2_with fail
    refine (rkind_any k true _ HKD.out).mono ?_
    rintro e w3 ⟨rfl, rfl⟩
    go_wp2_with fail
    go_ret
    exact ⟨ret_int HX.out, HB.out⟩
set_option maxHeartbeats 4000000 in
set_option maxRecDepth 10000 in
theorem rsurefc_any (A : Option Addr) (n c : Nat) (l : List Fc) (k : Int) (p : Pt) (r t : Int) (m : Nat) (y : Int) (w : World) (h : FcR w A n l) (hn : n ≤ 9223372036854775807) (hy : questZ l k p r t = y) (hm : sureN l k p r t = m) : Calls Try.prog 54 #[.slice A n c, .int .i64 k, aggP p, .int .i64 r, .int .i64 t] w (RetNL w m y) := by
  obtain ⟨i0, hi0, hz0, hz1, hz2⟩ := info_parts infoInt
  obtain ⟨kk, hK⟩ := box1K w 25 #[.int .i64 p.1, .int .i64 p.2]
  have HK := Lib.hid hK
  clear hK
  obtain ⟨B0, hbb⟩ := HK.out _ kk
  have c00 := B0.cell 0
  have c01 := B0.cell 1
  have HB := Lib.hid hbb
  clear B0 hbb
  have HL := Lib.hid h.2.2
  have HZA : Hid (∀ u, Below w.heap.size w u → FcR u A n l) := Lib.hid fun u hu => h.below hu
  have HY := Lib.hid hy; have HM := Lib.hid hm
  clear h hm
  by_cases h0 : y = 0
  case neg =>
    have HM2 : Hid (0 = m) := Lib.hid (by rw [← HM.out, sureN_no hy h0])
    have t0 := ne0_t h0
    clear hy h0
    go_enter Try.func54, Try.ntmps54
    go_wp2_with fail
    refine (rquest_any A n c l k p r t y _ (HZA.out _ HB.out) hn HY.out).mono ?_
    rintro e w1 ⟨rfl, hb1⟩
    replace kk := below_next kk (Nat.le_refl _) hb1
    clear c00 c01 HB hb1
    obtain ⟨B0, hbb⟩ := HK.out _ kk
    have c00 := B0.cell 0
    have c01 := B0.cell 1
    have HB := Lib.hid hbb
    clear B0 hbb
    go_wp2_with fail
    go_ret2
    exact retNL HM2.out rfl HB.out
  subst h0
  have HM2 : Hid ((numsL (sureB k p r t) l 0).length = m) := Lib.hid (by rw [← HM.out, sureN_ok hy])
  have hn16 : n ≤ 32 := by
    have h2 : fcheckZ l = 0 := by
      by_cases g : fcheckZ l = 0
      · exact g
      · have := quest_check (k := k) (p := p) (r := r) (t := t) g; rw [hy] at this; exact this.symm
    unfold fcheckZ at h2
    by_cases g : 32 < l.length
    · rw [if_pos g] at h2; exact absurd h2 (by decide)
    · have := HL.out; omega
  clear hy
  go_enter Try.func54, Try.ntmps54
  go_wp2_with fail
  refine (rquest_any A n c l k p r t 0 _ (HZA.out _ HB.out) hn HY.out).mono ?_
  rintro e w2 ⟨rfl, hb2⟩
  replace kk := below_next kk (Nat.le_refl _) hb2
  clear c00 c01 HB hb2
  obtain ⟨B0, hbb⟩ := HK.out _ kk
  have c00 := B0.cell 0
  have c01 := B0.cell 1
  have HB := Lib.hid hbb
  clear B0 hbb
  go_wp2_with fail
  clear c00 c01
  have HT0 : Hid (Two w2.heap.size w2 w2 3 1 (.slice none 0 0) 0 [] 3 1 (.slice none 0 0) 0 []) := Lib.hid ⟨Below.refl _ _, Nat.le_refl _, World.ownsRow_nil _ _ _ _, World.ownsRow_nil _ _ _ _, fun g h => by simp [Value.ownBlock] at h⟩
  have HKK := Lib.hid kk
  clear kk HB
  go_loopw [13, 14] (fun s1 s2 wr => ∃ (i j : Nat) (A1 : Option Addr) (c1 : Nat), i ≤ n ∧ s1 = .slice A1 j c1 ∧ s2 = .int .i64 i ∧ j ≤ i ∧ Hid (j = (numsL (sureB k p r t) (l.take i) 0).length) ∧ Two w2.heap.size w2 wr 3 1 (.slice A1 j c1) j (cellsI (numsL (sureB k p r t) (l.take i) 0)) 3 1 (.slice none 0 0) 0 []) (fun _ s _ => n - (intOf s).toNat)
  case atStart => exact ⟨0, 0, none, 0, Nat.zero_le _, rfl, rfl, Nat.le_refl _, Lib.hid rfl, HT0.out⟩
  case round =>
    obtain ⟨i, j, A1, c1, hi, rfl, rfl, hj, HJ, hT⟩ := hrel
    have HT := Lib.hid hT
    have hbw := hT.below
    have HKR := Lib.hid (below_next HKK.out (Nat.le_refl _) hbw)
    obtain ⟨B0, hbb⟩ := HK.out _ HKR.out
    have HBB := Lib.hid hbb; have HB0 := Lib.hid B0
    have HZr := Lib.hid (HZA.out _ HBB.out)
    have hwlt : w.heap.size < wr.heap.size := B0.lt
    clear hT hbw hbb B0
    by_cases hlt : i < n
    · have hkl : i < l.length := by have := HL.out; omega
      obtain ⟨b, off, rfl, hb, hc⟩ := HZr.out.cells (by omega)
      obtain ⟨d0, d1, d2, d3, d4, d5⟩ := hc i hkl
      have hk0 : (0 : Int) ≤ i := by omega
      have hk1 : (i : Int) < n := by omega
      have HST := Lib.hid (numsL_take (sureB k p r t) hkl)
      obtain ⟨f, hz⟩ : ∃ f, l[i] = f := ⟨_, rfl⟩
      rw [hz] at d0 d1 d2 d3 d4 d5 HST
      have HOK : Hid (Reads wr wr.heap.size 2 f.A f.n (cellsPt f.p) ∧ f.n ≤ 9223372036854775807) := Lib.hid (by rw [← hz]; exact HZr.out.2.1 _ (List.getElem_mem hkl))
      have hzn := HOK.out.2
      clear hc hz
      have F1 : ∀ z : Fam wr, z.val.cell? ⟨b, off + i * 6 + 1, none⟩ = some (.slice f.A f.n f.c) := fun z => z.some_ d1
      have F2 : ∀ z : Fam wr, z.val.cell? ⟨w.heap.size, 0, none⟩ = some (.int .i64 p.1) := fun z => (z.blk HB0.out).cell 0
      have F3 : ∀ z : Fam wr, z.val.cell? ⟨w.heap.size, 1, none⟩ = some (.int .i64 p.2) := fun z => (z.blk HB0.out).cell 1
      have HD : Hid (∀ z : Fam wr, z.val.cell? ⟨b, off + i * 6, none⟩ = some (.int .i64 f.k) ∧ z.val.cell? ⟨b, off + i * 6 + 1, none⟩ = some (.slice f.A f.n f.c) ∧ z.val.cell? ⟨b, off + i * 6 + 2, none⟩ = some (.int .i64 f.wf) ∧ z.val.cell? ⟨b, off + i * 6 + 3, none⟩ = some (.int .i64 f.wt) ∧ z.val.cell? ⟨b, off + i * 6 + 4, none⟩ = some (.int .i64 f.hf) ∧ z.val.cell? ⟨b, off + i * 6 + 5, none⟩ = some (.int .i64 f.ht)) := Lib.hid fun z => ⟨z.some_ d0, z.some_ d1, z.some_ d2, z.some_ d3, z.some_ d4, z.some_ d5⟩
      clear d0 d1 d2 d3 d4 d5
      have HNO : Hid (sureB k p r t f = false → numsL (sureB k p r t) (l.take (i + 1)) 0 = numsL (sureB k p r t) (l.take i) 0) := Lib.hid fun g => by rw [HST.out, if_neg (by rw [g]; decide), List.append_nil]
      have HYES : Hid (sureB k p r t f = true → numsL (sureB k p r t) (l.take (i + 1)) 0 = numsL (sureB k p r t) (l.take i) 0 ++ [(i : Int)]) := Lib.hid fun g => by rw [HST.out, if_pos g]
      obtain ⟨v, hv⟩ : ∃ v, rdiscE f.p p r = v := ⟨_, rfl⟩
      have HV := Lib.hid hv
      clear hv
      rcases hcv : coverB f.p p r with _ | _
      · have HQ := Lib.hid (HNO.out (by unfold sureB; rw [hcv]; simp))
        have HJ2 : Hid (j = (numsL (sureB k p r t) (l.take (i + 1)) 0).length) := Lib.hid (by rw [HQ.out]; exact HJ.out)
        have HCV : Hid (rcoverB f.p p r = false) := Lib.hid (by rw [← cover_eq]; exact hcv)
        clear hcv
        go_wp2_with fail
        refine wp_region_fam (by kernel_rfl) (by kernel_rfl) ?_
        repeat (go_big_quiet_step ((go_at_call 79; exact fam_call (rcovers_any f.A f.n f.c f.p p r false v _ (Fam.reads _ HOK.out.1) hzn HCV.out HV.out))))
        refine wpQuiet_nil ?_
        rintro _ ⟨z1, rfl⟩
        have HT2 : Hid (Two w2.heap.size w2 z1.val 3 1 (.slice A1 j c1) j (cellsI (numsL (sureB k p r t) (l.take (i + 1)) 0)) 3 1 (.slice none 0 0) 0 []) := Lib.hid (by rw [HQ.out]; exact HT.out.stepB z1.prop)
        clear F1 F2 F3
        go_wp2_with fail
        go_roundw
        case rel => exact ⟨i + 1, j, A1, c1, by omega, rfl, by go_num, by omega, HJ2, HT2.out⟩
        case measure => simp [intOf]; omega
      have HCV : Hid (rcoverB f.p p r = true) := Lib.hid (by rw [← cover_eq]; exact hcv)
      by_cases hfk : f.k = k
      case neg =>
        have HQ := Lib.hid (HNO.out (by unfold sureB; rw [decide_eq_false hfk]; rfl))
        have HJ2 : Hid (j = (numsL (sureB k p r t) (l.take (i + 1)) 0).length) := Lib.hid (by rw [HQ.out]; exact HJ.out)
        have hfk2 : (f.k == k) = false := by simp [hfk]
        have hfk3 : decide (f.k = k) = false := by simp [hfk]
        clear hfk hcv
        go_wp2_with fail
        refine wp_region_fam (by kernel_rfl) (by kernel_rfl) ?_
        repeat (go_big_quiet_step ((go_at_call 79; exact fam_call (rcovers_any f.A f.n f.c f.p p r true v _ (Fam.reads _ HOK.out.1) hzn HCV.out HV.out))))
        refine wpQuiet_nil ?_
        rintro _ ⟨z1, rfl⟩
        have HT2 : Hid (Two w2.heap.size w2 z1.val 3 1 (.slice A1 j c1) j (cellsI (numsL (sureB k p r t) (l.take (i + 1)) 0)) 3 1 (.slice none 0 0) 0 []) := Lib.hid (by rw [HQ.out]; exact HT.out.stepB z1.prop)
        obtain ⟨d0, _⟩ := HD.out z1
        clear F1 F2 F3
        go_wp2_with fail
        go_roundw
        case rel => exact ⟨i + 1, j, A1, c1, by omega, rfl, by go_num, by omega, HJ2, HT2.out⟩
        case measure => simp [intOf]; omega
      have hfk2 : (f.k == k) = true := by simp [hfk]
      have hfk3 : decide (f.k = k) = true := by simp [hfk]
      have HFK := Lib.hid hfk
      clear hfk
      rcases ha : activeB f t with _ | _
      · have HQ := Lib.hid (HNO.out (by unfold sureB; rw [ha]; simp))
        have HJ2 : Hid (j = (numsL (sureB k p r t) (l.take (i + 1)) 0).length) := Lib.hid (by rw [HQ.out]; exact HJ.out)
        have HAC := Lib.hid ha
        clear ha hcv
        go_wp2_with fail
        refine wp_region_fam (by kernel_rfl) (by kernel_rfl) ?_
        repeat (go_big_quiet_step ((go_at_call 79; exact fam_call (rcovers_any f.A f.n f.c f.p p r true v _ (Fam.reads _ HOK.out.1) hzn HCV.out HV.out))))
        refine wpQuiet_nil ?_
        rintro _ ⟨z1, rfl⟩
        have HT1 := Lib.hid (HT.out.stepB z1.prop)
        obtain ⟨d0, d1, d2, d3, d4, d5⟩ := HD.out z1
        clear F1 F2 F3
        go_wp2_with fail
        refine (ractive_any f t false _ HAC.out).mono ?_
        rintro e w5 ⟨rfl, hb5⟩
        have HT2 : Hid (Two w2.heap.size w2 w5 3 1 (.slice A1 j c1) j (cellsI (numsL (sureB k p r t) (l.take (i + 1)) 0)) 3 1 (.slice none 0 0) 0 []) := Lib.hid (by rw [HQ.out]; exact HT1.out.stepB hb5)
        clear hb5 d0 d1 d2 d3 d4 d5
        go_wp2_with fail
        go_roundw
        case rel => exact ⟨i + 1, j, A1, c1, by omega, rfl, by go_num, by omega, HJ2, HT2.out⟩
        case measure => simp [intOf]; omega
      · have HQ := Lib.hid (HYES.out (by unfold sureB; rw [HFK.out, ha, hcv]; simp))
        have HJ2 : Hid (j + 1 = (numsL (sureB k p r t) (l.take (i + 1)) 0).length) := Lib.hid (by rw [HQ.out, List.length_append, ← HJ.out]; rfl)
        have HAC := Lib.hid ha
        clear ha hcv
        go_wp2_with fail
        refine wp_region_fam (by kernel_rfl) (by kernel_rfl) ?_
        repeat (go_big_quiet_step ((go_at_call 79; exact fam_call (rcovers_any f.A f.n f.c f.p p r true v _ (Fam.reads _ HOK.out.1) hzn HCV.out HV.out))))
        refine wpQuiet_nil ?_
        rintro _ ⟨z1, rfl⟩
        have HT1 := Lib.hid (HT.out.stepB z1.prop)
        obtain ⟨d0, d1, d2, d3, d4, d5⟩ := HD.out z1
        clear F1 F2 F3
        go_wp2_with fail
        refine (ractive_any f t true _ HAC.out).mono ?_
        rintro e w5 ⟨rfl, hb5⟩
        have T := HT1.out.stepB hb5
        clear hb5 d0 d1 d2 d3 d4 d5
        go_wp2_with (at_builtin; refine wpList_append_any _ rfl (.tmp 61) (.tmp 63) _ rfl _ 3 i0 _ 1 8 Try.underlying91 hi0 hz0 hz1 hz2 rfl (by omega) (.slice A1 j c1) j _ rfl (T.alloc _).ownX _ _ 1 1 [.int .i64 i] (by rfl) (fr1I _ i) oneI (by simp only [maxLen]; omega) (by omega) (T.alloc _).base ?_; intro v7 w7 hown7 hg7 hat7; obtain ⟨A7, c7, rfl, hr7⟩ := own_reads hown7; rw [← snocI, ← HQ.out] at hown7; have T := (T.alloc _).left hown7 hg7 hat7; clear hown7 hg7 hat7 hr7)
        go_roundw
        case rel => exact ⟨i + 1, j + 1, A7, c7, by omega, rfl, by go_num, by omega, HJ2, T⟩
        case measure => simp [intOf]; omega
    · have hle : l.take i = l := List.take_of_length_le (by have := HL.out; omega)
      have HM3 : Hid (j = m) := Lib.hid (by rw [← HM2.out, ← hle]; exact HJ.out)
      clear hle
      go_wp2_with fail
      go_ret2
      exact retNL HM3.out rfl HBB.out
set_option maxHeartbeats 4000000 in
set_option maxRecDepth 10000 in
theorem rpossfc_any (A : Option Addr) (n c : Nat) (l : List Fc) (k : Int) (p : Pt) (r t : Int) (m : Nat) (y : Int) (w : World) (h : FcR w A n l) (hn : n ≤ 9223372036854775807) (hy : questZ l k p r t = y) (hm : possN l k p r t = m) : Calls Try.prog 55 #[.slice A n c, .int .i64 k, aggP p, .int .i64 r, .int .i64 t] w (RetNL w m y) := by
  obtain ⟨i0, hi0, hz0, hz1, hz2⟩ := info_parts infoInt
  obtain ⟨kk, hK⟩ := box1K w 25 #[.int .i64 p.1, .int .i64 p.2]
  have HK := Lib.hid hK
  clear hK
  obtain ⟨B0, hbb⟩ := HK.out _ kk
  have c00 := B0.cell 0
  have c01 := B0.cell 1
  have HB := Lib.hid hbb
  clear B0 hbb
  have HL := Lib.hid h.2.2
  have HZA : Hid (∀ u, Below w.heap.size w u → FcR u A n l) := Lib.hid fun u hu => h.below hu
  have HY := Lib.hid hy; have HM := Lib.hid hm
  clear h hm
  by_cases h0 : y = 0
  case neg =>
    have HM2 : Hid (0 = m) := Lib.hid (by rw [← HM.out, possN_no hy h0])
    have t0 := ne0_t h0
    clear hy h0
    go_enter Try.func55, Try.ntmps55
    go_wp2_with fail
    refine (rquest_any A n c l k p r t y _ (HZA.out _ HB.out) hn HY.out).mono ?_
    rintro e w1 ⟨rfl, hb1⟩
    replace kk := below_next kk (Nat.le_refl _) hb1
    clear c00 c01 HB hb1
    obtain ⟨B0, hbb⟩ := HK.out _ kk
    have c00 := B0.cell 0
    have c01 := B0.cell 1
    have HB := Lib.hid hbb
    clear B0 hbb
    go_wp2_with fail
    go_ret2
    exact retNL HM2.out rfl HB.out
  subst h0
  have HM2 : Hid ((numsL (possB k p r t) l 0).length = m) := Lib.hid (by rw [← HM.out, possN_ok hy])
  have hn16 : n ≤ 32 := by
    have h2 : fcheckZ l = 0 := by
      by_cases g : fcheckZ l = 0
      · exact g
      · have := quest_check (k := k) (p := p) (r := r) (t := t) g; rw [hy] at this; exact this.symm
    unfold fcheckZ at h2
    by_cases g : 32 < l.length
    · rw [if_pos g] at h2; exact absurd h2 (by decide)
    · have := HL.out; omega
  clear hy
  go_enter Try.func55, Try.ntmps55
  go_wp2_with fail
  refine (rquest_any A n c l k p r t 0 _ (HZA.out _ HB.out) hn HY.out).mono ?_
  rintro e w2 ⟨rfl, hb2⟩
  replace kk := below_next kk (Nat.le_refl _) hb2
  clear c00 c01 HB hb2
  obtain ⟨B0, hbb⟩ := HK.out _ kk
  have c00 := B0.cell 0
  have c01 := B0.cell 1
  have HB := Lib.hid hbb
  clear B0 hbb
  go_wp2_with fail
  clear c00 c01
  have HT0 : Hid (Two w2.heap.size w2 w2 3 1 (.slice none 0 0) 0 [] 3 1 (.slice none 0 0) 0 []) := Lib.hid ⟨Below.refl _ _, Nat.le_refl _, World.ownsRow_nil _ _ _ _, World.ownsRow_nil _ _ _ _, fun g h => by simp [Value.ownBlock] at h⟩
  have HKK := Lib.hid kk
  clear kk HB
  go_loopw [13, 14] (fun s1 s2 wr => ∃ (i j : Nat) (A1 : Option Addr) (c1 : Nat), i ≤ n ∧ s1 = .slice A1 j c1 ∧ s2 = .int .i64 i ∧ j ≤ i ∧ Hid (j = (numsL (possB k p r t) (l.take i) 0).length) ∧ Two w2.heap.size w2 wr 3 1 (.slice A1 j c1) j (cellsI (numsL (possB k p r t) (l.take i) 0)) 3 1 (.slice none 0 0) 0 []) (fun _ s _ => n - (intOf s).toNat)
  case atStart => exact ⟨0, 0, none, 0, Nat.zero_le _, rfl, rfl, Nat.le_refl _, Lib.hid rfl, HT0.out⟩
  case round =>
    obtain ⟨i, j, A1, c1, hi, rfl, rfl, hj, HJ, hT⟩ := hrel
    have HT := Lib.hid hT
    have hbw := hT.below
    have HKR := Lib.hid (below_next HKK.out (Nat.le_refl _) hbw)
    obtain ⟨B0, hbb⟩ := HK.out _ HKR.out
    have HBB := Lib.hid hbb; have HB0 := Lib.hid B0
    have HZr := Lib.hid (HZA.out _ HBB.out)
    have hwlt : w.heap.size < wr.heap.size := B0.lt
    clear hT hbw hbb B0
    by_cases hlt : i < n
    · have hkl : i < l.length := by have := HL.out; omega
      obtain ⟨b, off, rfl, hb, hc⟩ := HZr.out.cells (by omega)
      obtain ⟨d0, d1, d2, d3, d4, d5⟩ := hc i hkl
      have hk0 : (0 : Int) ≤ i := by omega
      have hk1 : (i : Int) < n := by omega
      have HST := Lib.hid (numsL_take (possB k p r t) hkl)
      obtain ⟨f, hz⟩ : ∃ f, l[i] = f := ⟨_, rfl⟩
      rw [hz] at d0 d1 d2 d3 d4 d5 HST
      have HOK : Hid (Reads wr wr.heap.size 2 f.A f.n (cellsPt f.p) ∧ f.n ≤ 9223372036854775807) := Lib.hid (by rw [← hz]; exact HZr.out.2.1 _ (List.getElem_mem hkl))
      have hzn := HOK.out.2
      clear hc hz
      have F1 : ∀ z : Fam wr, z.val.cell? ⟨b, off + i * 6 + 1, none⟩ = some (.slice f.A f.n f.c) := fun z => z.some_ d1
      have F2 : ∀ z : Fam wr, z.val.cell? ⟨w.heap.size, 0, none⟩ = some (.int .i64 p.1) := fun z => (z.blk HB0.out).cell 0
      have F3 : ∀ z : Fam wr, z.val.cell? ⟨w.heap.size, 1, none⟩ = some (.int .i64 p.2) := fun z => (z.blk HB0.out).cell 1
      have HD : Hid (∀ z : Fam wr, z.val.cell? ⟨b, off + i * 6, none⟩ = some (.int .i64 f.k) ∧ z.val.cell? ⟨b, off + i * 6 + 1, none⟩ = some (.slice f.A f.n f.c) ∧ z.val.cell? ⟨b, off + i * 6 + 2, none⟩ = some (.int .i64 f.wf) ∧ z.val.cell? ⟨b, off + i * 6 + 3, none⟩ = some (.int .i64 f.wt) ∧ z.val.cell? ⟨b, off + i * 6 + 4, none⟩ = some (.int .i64 f.hf) ∧ z.val.cell? ⟨b, off + i * 6 + 5, none⟩ = some (.int .i64 f.ht)) := Lib.hid fun z => ⟨z.some_ d0, z.some_ d1, z.some_ d2, z.some_ d3, z.some_ d4, z.some_ d5⟩
      clear d0 d1 d2 d3 d4 d5
      have HNO : Hid (possB k p r t f = false → numsL (possB k p r t) (l.take (i + 1)) 0 = numsL (possB k p r t) (l.take i) 0) := Lib.hid fun g => by rw [HST.out, if_neg (by rw [g]; decide), List.append_nil]
      have HYES : Hid (possB k p r t f = true → numsL (possB k p r t) (l.take (i + 1)) 0 = numsL (possB k p r t) (l.take i) 0 ++ [(i : Int)]) := Lib.hid fun g => by rw [HST.out, if_pos g]
      obtain ⟨v, hv⟩ : ∃ v, rdiscE f.p p r = v := ⟨_, rfl⟩
      have HV := Lib.hid hv
      clear hv
      rcases hcv : touchB f.p p r with _ | _
      · have HQ := Lib.hid (HNO.out (by unfold possB; rw [hcv]; simp))
        have HJ2 : Hid (j = (numsL (possB k p r t) (l.take (i + 1)) 0).length) := Lib.hid (by rw [HQ.out]; exact HJ.out)
        have HCV : Hid (rtouchB f.p p r = false) := Lib.hid (by rw [← touch_eq]; exact hcv)
        clear hcv
        go_wp2_with fail
        refine wp_region_fam (by kernel_rfl) (by kernel_rfl) ?_
        repeat (go_big_quiet_step ((go_at_call 80; exact fam_call (rtouches_any f.A f.n f.c f.p p r false v _ (Fam.reads _ HOK.out.1) hzn HCV.out HV.out))))
        refine wpQuiet_nil ?_
        rintro _ ⟨z1, rfl⟩
        have HT2 : Hid (Two w2.heap.size w2 z1.val 3 1 (.slice A1 j c1) j (cellsI (numsL (possB k p r t) (l.take (i + 1)) 0)) 3 1 (.slice none 0 0) 0 []) := Lib.hid (by rw [HQ.out]; exact HT.out.stepB z1.prop)
        clear F1 F2 F3
        go_wp2_with fail
        go_roundw
        case rel => exact ⟨i + 1, j, A1, c1, by omega, rfl, by go_num, by omega, HJ2, HT2.out⟩
        case measure => simp [intOf]; omega
      have HCV : Hid (rtouchB f.p p r = true) := Lib.hid (by rw [← touch_eq]; exact hcv)
      by_cases hfk : f.k = k
      case neg =>
        have HQ := Lib.hid (HNO.out (by unfold possB; rw [decide_eq_false hfk]; rfl))
        have HJ2 : Hid (j = (numsL (possB k p r t) (l.take (i + 1)) 0).length) := Lib.hid (by rw [HQ.out]; exact HJ.out)
        have hfk2 : (f.k == k) = false := by simp [hfk]
        have hfk3 : decide (f.k = k) = false := by simp [hfk]
        clear hfk hcv
        go_wp2_with fail
        refine wp_region_fam (by kernel_rfl) (by kernel_rfl) ?_
        repeat (go_big_quiet_step ((go_at_call 80; exact fam_call (rtouches_any f.A f.n f.c f.p p r true v _ (Fam.reads _ HOK.out.1) hzn HCV.out HV.out))))
        refine wpQuiet_nil ?_
        rintro _ ⟨z1, rfl⟩
        have HT2 : Hid (Two w2.heap.size w2 z1.val 3 1 (.slice A1 j c1) j (cellsI (numsL (possB k p r t) (l.take (i + 1)) 0)) 3 1 (.slice none 0 0) 0 []) := Lib.hid (by rw [HQ.out]; exact HT.out.stepB z1.prop)
        obtain ⟨d0, _⟩ := HD.out z1
        clear F1 F2 F3
        go_wp2_with fail
        go_roundw
        case rel => exact ⟨i + 1, j, A1, c1, by omega, rfl, by go_num, by omega, HJ2, HT2.out⟩
        case measure => simp [intOf]; omega
      have hfk2 : (f.k == k) = true := by simp [hfk]
      have hfk3 : decide (f.k = k) = true := by simp [hfk]
      have HFK := Lib.hid hfk
      clear hfk
      rcases ha : activeB f t with _ | _
      · have HQ := Lib.hid (HNO.out (by unfold possB; rw [ha]; simp))
        have HJ2 : Hid (j = (numsL (possB k p r t) (l.take (i + 1)) 0).length) := Lib.hid (by rw [HQ.out]; exact HJ.out)
        have HAC := Lib.hid ha
        clear ha hcv
        go_wp2_with fail
        refine wp_region_fam (by kernel_rfl) (by kernel_rfl) ?_
        repeat (go_big_quiet_step ((go_at_call 80; exact fam_call (rtouches_any f.A f.n f.c f.p p r true v _ (Fam.reads _ HOK.out.1) hzn HCV.out HV.out))))
        refine wpQuiet_nil ?_
        rintro _ ⟨z1, rfl⟩
        have HT1 := Lib.hid (HT.out.stepB z1.prop)
        obtain ⟨d0, d1, d2, d3, d4, d5⟩ := HD.out z1
        clear F1 F2 F3
        go_wp2_with fail
        refine (ractive_any f t false _ HAC.out).mono ?_
        rintro e w5 ⟨rfl, hb5⟩
        have HT2 : Hid (Two w2.heap.size w2 w5 3 1 (.slice A1 j c1) j (cellsI (numsL (possB k p r t) (l.take (i + 1)) 0)) 3 1 (.slice none 0 0) 0 []) := Lib.hid (by rw [HQ.out]; exact HT1.out.stepB hb5)
        clear hb5 d0 d1 d2 d3 d4 d5
        go_wp2_with fail
        go_roundw
        case rel => exact ⟨i + 1, j, A1, c1, by omega, rfl, by go_num, by omega, HJ2, HT2.out⟩
        case measure => simp [intOf]; omega
      · have HQ := Lib.hid (HYES.out (by unfold possB; rw [HFK.out, ha, hcv]; simp))
        have HJ2 : Hid (j + 1 = (numsL (possB k p r t) (l.take (i + 1)) 0).length) := Lib.hid (by rw [HQ.out, List.length_append, ← HJ.out]; rfl)
        have HAC := Lib.hid ha
        clear ha hcv
        go_wp2_with fail
        refine wp_region_fam (by kernel_rfl) (by kernel_rfl) ?_
        repeat (go_big_quiet_step ((go_at_call 80; exact fam_call (rtouches_any f.A f.n f.c f.p p r true v _ (Fam.reads _ HOK.out.1) hzn HCV.out HV.out))))
        refine wpQuiet_nil ?_
        rintro _ ⟨z1, rfl⟩
        have HT1 := Lib.hid (HT.out.stepB z1.prop)
        obtain ⟨d0, d1, d2, d3, d4, d5⟩ := HD.out z1
        clear F1 F2 F3
        go_wp2_with fail
        refine (ractive_any f t true _ HAC.out).mono ?_
        rintro e w5 ⟨rfl, hb5⟩
        have T := HT1.out.stepB hb5
        clear hb5 d0 d1 d2 d3 d4 d5
        go_wp2_with (at_builtin; refine wpList_append_any _ rfl (.tmp 61) (.tmp 63) _ rfl _ 3 i0 _ 1 8 Try.underlying91 hi0 hz0 hz1 hz2 rfl (by omega) (.slice A1 j c1) j _ rfl (T.alloc _).ownX _ _ 1 1 [.int .i64 i] (by rfl) (fr1I _ i) oneI (by simp only [maxLen]; omega) (by omega) (T.alloc _).base ?_; intro v7 w7 hown7 hg7 hat7; obtain ⟨A7, c7, rfl, hr7⟩ := own_reads hown7; rw [← snocI, ← HQ.out] at hown7; have T := (T.alloc _).left hown7 hg7 hat7; clear hown7 hg7 hat7 hr7)
        go_roundw
        case rel => exact ⟨i + 1, j + 1, A7, c7, by omega, rfl, by go_num, by omega, HJ2, T⟩
        case measure => simp [intOf]; omega
    · have hle : l.take i = l := List.take_of_length_le (by have := HL.out; omega)
      have HM3 : Hid (j = m) := Lib.hid (by rw [← HM2.out, ← hle]; exact HJ.out)
      clear hle
      go_wp2_with fail
      go_ret2
      exact retNL HM3.out rfl HBB.out
end Go.Proofs.Ytdgdjlpbnaoheaa
