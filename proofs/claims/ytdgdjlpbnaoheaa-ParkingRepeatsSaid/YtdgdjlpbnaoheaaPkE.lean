/- The walks of the reference's kind and Judge. -/
import Derived.Test.YtdgdjlpbnaoheaaPkD
import Derived.Test.YtdgdjlpbnaoheaaMix
namespace Go.Proofs.Ytdgdjlpbnaoheaa
open Go.RowKit
theorem pos_t {m : Nat} (h : decide (0 < m) = true) : 0 < m := of_decide_eq_true h
theorem zero_f {m : Nat} (h : decide (0 < m) = false) : m = 0 := by have := of_decide_eq_false h; omega
set_option maxHeartbeats 8000000 in
set_option maxRecDepth 10000 in
theorem rkindp_any (A : Option Addr) (n c : Nat) (l : List Fc) (A2 : Option Addr) (m c2 : Nat) (ps : List Ph) (p : Pk) (k : Int) (w : World) (h : FcR w A n l) (hn : n ≤ 9223372036854775807) (h2 : PsR w A2 m ps) (hm : m ≤ 9223372036854775807) (hp : pkB p = true) (hl : fcheckZ l = 0) (hk : judgeZ l (countsB ps p) p = k) : Calls Try.prog 36 #[.slice A n c, .slice A2 m c2, aggK p] w (RetI w k) := by
  obtain ⟨kk, hK⟩ := box1K w 27 #[.int .i64 p.ride, .int .i64 p.rider, .int .i64 p.tm, .int .i64 p.x, .int .i64 p.y, .int .i64 p.r]
  have HK := Lib.hid hK
  clear hK
  obtain ⟨B0, hbb⟩ := HK.out _ kk
  have c00 := B0.cell 0
  have c01 := B0.cell 1
  have c02 := B0.cell 2
  have c03 := B0.cell 3
  have c04 := B0.cell 4
  have c05 := B0.cell 5
  have HB := Lib.hid hbb
  clear B0 hbb
  have HZA : Hid (∀ u, Below w.heap.size w u → FcR u A n l) := Lib.hid fun u hu => h.below hu
  have HZP : Hid (∀ u, Below w.heap.size w u → PsR u A2 m ps) := Lib.hid fun u hu => h2.below hu
  have HLP : Hid (ps.length = m) := Lib.hid h2.2.2
  have htm := (pkB_inv hp).2.2.1
  have HQ1 := Lib.hid (quest_of (k := 1) hp hl (by decide)); have HQ2 := Lib.hid (quest_of (k := 2) hp hl (by decide))
  obtain ⟨m1, hm1⟩ : ∃ m, sureN l 1 (p.x, p.y) p.r p.tm = m := ⟨_, rfl⟩
  obtain ⟨m2, hm2⟩ : ∃ m, possN l 1 (p.x, p.y) p.r p.tm = m := ⟨_, rfl⟩
  obtain ⟨m3, hm3⟩ : ∃ m, sureN l 2 (p.x, p.y) p.r p.tm = m := ⟨_, rfl⟩
  obtain ⟨m4, hm4⟩ : ∃ m, possN l 2 (p.x, p.y) p.r p.tm = m := ⟨_, rfl⟩
  have HM1 := Lib.hid hm1; have HM2 := Lib.hid hm2; have HM3 := Lib.hid hm3; have HM4 := Lib.hid hm4
  obtain ⟨d1, hd1⟩ : ∃ a, decide (0 < m1) = a := ⟨_, rfl⟩
  obtain ⟨b1, hb1⟩ : ∃ a, decide (0 < m2) = a := ⟨_, rfl⟩
  obtain ⟨d2, hd2⟩ : ∃ a, decide (0 < m3) = a := ⟨_, rfl⟩
  obtain ⟨b2, hb2⟩ : ∃ a, decide (0 < m4) = a := ⟨_, rfl⟩
  obtain ⟨a2, ha2⟩ : ∃ a, someB l 2 p.tm = a := ⟨_, rfl⟩
  have HA2 := Lib.hid ha2
  have HK2 : Hid (judgeB d1 b1 d2 b2 a2 (countsB ps p) = k) := Lib.hid (by
    rw [← hk, ← hd1, ← hb1, ← hd2, ← hb2, ← ha2, ← hm1, ← hm2, ← hm3, ← hm4, sureN_pos hp hl (by decide), possN_pos hp hl (by decide), sureN_pos hp hl (by decide), possN_pos hp hl (by decide)]; rfl)
  clear h h2 hp hl hk ha2 hm1 hm2 hm3 hm4
  rcases d1 with _ | _
  · skip
    have Zm1 := Lib.hid (zero_f hd1)
    have zm1 : (m1 == 0) = true := by simp [Zm1.out]
    have ym1 : ((m1 : Int) == 0) = true := by simp [Zm1.out]
    have xm1 : decide (m1 = 0) = true := by simp [Zm1.out]
    have nm1 : ¬ 0 < m1 := by rw [Zm1.out]; decide
    rcases a2 with _ | _
    · skip
      rcases b1 with _ | _
      · skip
        have Zm2 := Lib.hid (zero_f hb1)
        have zm2 : (m2 == 0) = true := by simp [Zm2.out]
        have ym2 : ((m2 : Int) == 0) = true := by simp [Zm2.out]
        have xm2 : decide (m2 = 0) = true := by simp [Zm2.out]
        have nm2 : ¬ 0 < m2 := by rw [Zm2.out]; decide
        rcases b2 with _ | _
        · skip
          have Zm4 := Lib.hid (zero_f hb2)
          have zm4 : (m4 == 0) = true := by simp [Zm4.out]
          have ym4 : ((m4 : Int) == 0) = true := by simp [Zm4.out]
          have xm4 : decide (m4 = 0) = true := by simp [Zm4.out]
          have nm4 : ¬ 0 < m4 := by rw [Zm4.out]; decide
          have HX : Hid (1 = k) := Lib.hid (by rw [← HK2.out]; simp [judgeB])
          go_enter Try.func36, Try.ntmps36
          go_wp2_with fail
          refine (rsurefc_any A n c l 1 (p.x, p.y) p.r p.tm m1 0 _ (HZA.out _ HB.out) hn HQ1.out HM1.out).mono ?_
          rintro e u1 ⟨X1, cc1, rfl, hq1⟩
          replace kk := below_next kk (Nat.le_refl _) hq1
          clear c00 c01 c02 c03 c04 c05 HB hq1
          obtain ⟨B0, hbb⟩ := HK.out _ kk
          have c00 := B0.cell 0
          have c01 := B0.cell 1
          have c02 := B0.cell 2
          have c03 := B0.cell 3
          have c04 := B0.cell 4
          have c05 := B0.cell 5
          have HB := Lib.hid hbb
          clear B0 hbb
          go_wp2_with fail
          refine (rpossfc_any A n c l 1 (p.x, p.y) p.r p.tm m2 0 _ (HZA.out _ HB.out) hn HQ1.out HM2.out).mono ?_
          rintro e u2 ⟨X2, cc2, rfl, hq2⟩
          replace kk := below_next kk (Nat.le_refl _) hq2
          clear c00 c01 c02 c03 c04 c05 HB hq2
          obtain ⟨B0, hbb⟩ := HK.out _ kk
          have c00 := B0.cell 0
          have c01 := B0.cell 1
          have c02 := B0.cell 2
          have c03 := B0.cell 3
          have c04 := B0.cell 4
          have c05 := B0.cell 5
          have HB := Lib.hid hbb
          clear B0 hbb
          go_wp2_with fail
          refine (rsurefc_any A n c l 2 (p.x, p.y) p.r p.tm m3 0 _ (HZA.out _ HB.out) hn HQ2.out HM3.out).mono ?_
          rintro e u3 ⟨X3, cc3, rfl, hq3⟩
          replace kk := below_next kk (Nat.le_refl _) hq3
          clear c00 c01 c02 c03 c04 c05 HB hq3
          obtain ⟨B0, hbb⟩ := HK.out _ kk
          have c00 := B0.cell 0
          have c01 := B0.cell 1
          have c02 := B0.cell 2
          have c03 := B0.cell 3
          have c04 := B0.cell 4
          have c05 := B0.cell 5
          have HB := Lib.hid hbb
          clear B0 hbb
          go_wp2_with fail
          refine (rpossfc_any A n c l 2 (p.x, p.y) p.r p.tm m4 0 _ (HZA.out _ HB.out) hn HQ2.out HM4.out).mono ?_
          rintro e u4 ⟨X4, cc4, rfl, hq4⟩
          replace kk := below_next kk (Nat.le_refl _) hq4
          clear c00 c01 c02 c03 c04 c05 HB hq4
          obtain ⟨B0, hbb⟩ := HK.out _ kk
          have c00 := B0.cell 0
          have c01 := B0.cell 1
          have c02 := B0.cell 2
          have c03 := B0.cell 3
          have c04 := B0.cell 4
          have c05 := B0.cell 5
          have HB := Lib.hid hbb
          clear B0 hbb
          go_wp2_with fail
          refine (ronly_any A n c l p.tm false _ (HZA.out _ HB.out) hn HA2.out).mono ?_
          rintro e w1 ⟨rfl, hb1⟩
          replace kk := below_next kk (Nat.le_refl _) hb1
          clear c00 c01 c02 c03 c04 c05 HB hb1
          obtain ⟨B0, hbb⟩ := HK.out _ kk
          have c00 := B0.cell 0
          have c01 := B0.cell 1
          have c02 := B0.cell 2
          have c03 := B0.cell 3
          have c04 := B0.cell 4
          have c05 := B0.cell 5
          have HB := Lib.hid hbb
          clear B0 hbb
          go_wp2_with fail
          refine (ronly_any A n c l p.tm false _ (HZA.out _ HB.out) hn HA2.out).mono ?_
          rintro e w2 ⟨rfl, hb2⟩
          replace kk := below_next kk (Nat.le_refl _) hb2
          clear c00 c01 c02 c03 c04 c05 HB hb2
          obtain ⟨B0, hbb⟩ := HK.out _ kk
          have c00 := B0.cell 0
          have c01 := B0.cell 1
          have c02 := B0.cell 2
          have c03 := B0.cell 3
          have c04 := B0.cell 4
          have c05 := B0.cell 5
          have HB := Lib.hid hbb
          clear B0 hbb
          go_wp2_with fail
          go_ret
          exact ⟨ret_int HX.out, HB.out⟩
        · skip
          have nm4 := pos_t hb2; have im4 : (0 : Int) < m4 := by omega
          have zm4 : (m4 == 0) = false := by simp; omega
          have ym4 : ((m4 : Int) == 0) = false := by simp; omega
          have xm4 : decide (m4 = 0) = false := by simp; omega
          have HX : Hid (1 = k) := Lib.hid (by rw [← HK2.out]; simp [judgeB])
          go_enter Try.func36, Try.ntmps36
          go_wp2_with fail
          refine (rsurefc_any A n c l 1 (p.x, p.y) p.r p.tm m1 0 _ (HZA.out _ HB.out) hn HQ1.out HM1.out).mono ?_
          rintro e u1 ⟨X1, cc1, rfl, hq1⟩
          replace kk := below_next kk (Nat.le_refl _) hq1
          clear c00 c01 c02 c03 c04 c05 HB hq1
          obtain ⟨B0, hbb⟩ := HK.out _ kk
          have c00 := B0.cell 0
          have c01 := B0.cell 1
          have c02 := B0.cell 2
          have c03 := B0.cell 3
          have c04 := B0.cell 4
          have c05 := B0.cell 5
          have HB := Lib.hid hbb
          clear B0 hbb
          go_wp2_with fail
          refine (rpossfc_any A n c l 1 (p.x, p.y) p.r p.tm m2 0 _ (HZA.out _ HB.out) hn HQ1.out HM2.out).mono ?_
          rintro e u2 ⟨X2, cc2, rfl, hq2⟩
          replace kk := below_next kk (Nat.le_refl _) hq2
          clear c00 c01 c02 c03 c04 c05 HB hq2
          obtain ⟨B0, hbb⟩ := HK.out _ kk
          have c00 := B0.cell 0
          have c01 := B0.cell 1
          have c02 := B0.cell 2
          have c03 := B0.cell 3
          have c04 := B0.cell 4
          have c05 := B0.cell 5
          have HB := Lib.hid hbb
          clear B0 hbb
          go_wp2_with fail
          refine (rsurefc_any A n c l 2 (p.x, p.y) p.r p.tm m3 0 _ (HZA.out _ HB.out) hn HQ2.out HM3.out).mono ?_
          rintro e u3 ⟨X3, cc3, rfl, hq3⟩
          replace kk := below_next kk (Nat.le_refl _) hq3
          clear c00 c01 c02 c03 c04 c05 HB hq3
          obtain ⟨B0, hbb⟩ := HK.out _ kk
          have c00 := B0.cell 0
          have c01 := B0.cell 1
          have c02 := B0.cell 2
          have c03 := B0.cell 3
          have c04 := B0.cell 4
          have c05 := B0.cell 5
          have HB := Lib.hid hbb
          clear B0 hbb
          go_wp2_with fail
          refine (rpossfc_any A n c l 2 (p.x, p.y) p.r p.tm m4 0 _ (HZA.out _ HB.out) hn HQ2.out HM4.out).mono ?_
          rintro e u4 ⟨X4, cc4, rfl, hq4⟩
          replace kk := below_next kk (Nat.le_refl _) hq4
          clear c00 c01 c02 c03 c04 c05 HB hq4
          obtain ⟨B0, hbb⟩ := HK.out _ kk
          have c00 := B0.cell 0
          have c01 := B0.cell 1
          have c02 := B0.cell 2
          have c03 := B0.cell 3
          have c04 := B0.cell 4
          have c05 := B0.cell 5
          have HB := Lib.hid hbb
          clear B0 hbb
          go_wp2_with fail
          refine (ronly_any A n c l p.tm false _ (HZA.out _ HB.out) hn HA2.out).mono ?_
          rintro e w3 ⟨rfl, hb3⟩
          replace kk := below_next kk (Nat.le_refl _) hb3
          clear c00 c01 c02 c03 c04 c05 HB hb3
          obtain ⟨B0, hbb⟩ := HK.out _ kk
          have c00 := B0.cell 0
          have c01 := B0.cell 1
          have c02 := B0.cell 2
          have c03 := B0.cell 3
          have c04 := B0.cell 4
          have c05 := B0.cell 5
          have HB := Lib.hid hbb
          clear B0 hbb
          go_wp2_with fail
          refine (ronly_any A n c l p.tm false _ (HZA.out _ HB.out) hn HA2.out).mono ?_
          rintro e w4 ⟨rfl, hb4⟩
          replace kk := below_next kk (Nat.le_refl _) hb4
          clear c00 c01 c02 c03 c04 c05 HB hb4
          obtain ⟨B0, hbb⟩ := HK.out _ kk
          have c00 := B0.cell 0
          have c01 := B0.cell 1
          have c02 := B0.cell 2
          have c03 := B0.cell 3
          have c04 := B0.cell 4
          have c05 := B0.cell 5
          have HB := Lib.hid hbb
          clear B0 hbb
          go_wp2_with fail
          go_ret
          exact ⟨ret_int HX.out, HB.out⟩
      · skip
        have nm2 := pos_t hb1; have im2 : (0 : Int) < m2 := by omega
        have zm2 : (m2 == 0) = false := by simp; omega
        have ym2 : ((m2 : Int) == 0) = false := by simp; omega
        have xm2 : decide (m2 = 0) = false := by simp; omega
        have HX1 : Hid (countsB ps p = true → 1 = k) := Lib.hid fun g => by rw [← HK2.out, g]; simp [judgeB]
        have HX3 : Hid (countsB ps p = false → 3 = k) := Lib.hid fun g => by rw [← HK2.out, g]; simp [judgeB]
        go_enter Try.func36, Try.ntmps36
        go_wp2_with fail
        refine (rsurefc_any A n c l 1 (p.x, p.y) p.r p.tm m1 0 _ (HZA.out _ HB.out) hn HQ1.out HM1.out).mono ?_
        rintro e u1 ⟨X1, cc1, rfl, hq1⟩
        replace kk := below_next kk (Nat.le_refl _) hq1
        clear c00 c01 c02 c03 c04 c05 HB hq1
        obtain ⟨B0, hbb⟩ := HK.out _ kk
        have c00 := B0.cell 0
        have c01 := B0.cell 1
        have c02 := B0.cell 2
        have c03 := B0.cell 3
        have c04 := B0.cell 4
        have c05 := B0.cell 5
        have HB := Lib.hid hbb
        clear B0 hbb
        go_wp2_with fail
        refine (rpossfc_any A n c l 1 (p.x, p.y) p.r p.tm m2 0 _ (HZA.out _ HB.out) hn HQ1.out HM2.out).mono ?_
        rintro e u2 ⟨X2, cc2, rfl, hq2⟩
        replace kk := below_next kk (Nat.le_refl _) hq2
        clear c00 c01 c02 c03 c04 c05 HB hq2
        obtain ⟨B0, hbb⟩ := HK.out _ kk
        have c00 := B0.cell 0
        have c01 := B0.cell 1
        have c02 := B0.cell 2
        have c03 := B0.cell 3
        have c04 := B0.cell 4
        have c05 := B0.cell 5
        have HB := Lib.hid hbb
        clear B0 hbb
        go_wp2_with fail
        refine (rsurefc_any A n c l 2 (p.x, p.y) p.r p.tm m3 0 _ (HZA.out _ HB.out) hn HQ2.out HM3.out).mono ?_
        rintro e u3 ⟨X3, cc3, rfl, hq3⟩
        replace kk := below_next kk (Nat.le_refl _) hq3
        clear c00 c01 c02 c03 c04 c05 HB hq3
        obtain ⟨B0, hbb⟩ := HK.out _ kk
        have c00 := B0.cell 0
        have c01 := B0.cell 1
        have c02 := B0.cell 2
        have c03 := B0.cell 3
        have c04 := B0.cell 4
        have c05 := B0.cell 5
        have HB := Lib.hid hbb
        clear B0 hbb
        go_wp2_with fail
        refine (rpossfc_any A n c l 2 (p.x, p.y) p.r p.tm m4 0 _ (HZA.out _ HB.out) hn HQ2.out HM4.out).mono ?_
        rintro e u4 ⟨X4, cc4, rfl, hq4⟩
        replace kk := below_next kk (Nat.le_refl _) hq4
        clear c00 c01 c02 c03 c04 c05 HB hq4
        obtain ⟨B0, hbb⟩ := HK.out _ kk
        have c00 := B0.cell 0
        have c01 := B0.cell 1
        have c02 := B0.cell 2
        have c03 := B0.cell 3
        have c04 := B0.cell 4
        have c05 := B0.cell 5
        have HB := Lib.hid hbb
        clear B0 hbb
        go_wp2_with fail
        refine (ronly_any A n c l p.tm false _ (HZA.out _ HB.out) hn HA2.out).mono ?_
        rintro e w5 ⟨rfl, hb5⟩
        replace kk := below_next kk (Nat.le_refl _) hb5
        clear c00 c01 c02 c03 c04 c05 HB hb5
        obtain ⟨B0, hbb⟩ := HK.out _ kk
        have c00 := B0.cell 0
        have c01 := B0.cell 1
        have c02 := B0.cell 2
        have c03 := B0.cell 3
        have c04 := B0.cell 4
        have c05 := B0.cell 5
        have HB := Lib.hid hbb
        clear B0 hbb
        go_wp2_with fail
        have HKK := Lib.hid kk
        clear kk HB c00 c01 c02 c03 c04 c05
        go_loopw [15] (fun s wr => ∃ k : Nat, k ≤ m ∧ s = .int .i64 k ∧ Hid (∀ j (hj : j < ps.length), j < k → countB ps[j] p = false) ∧ Below (w.alloc (.cells #[.int .i64 p.ride, .int .i64 p.rider, .int .i64 p.tm, .int .i64 p.x, .int .i64 p.y, .int .i64 p.r] 27)).heap.size (w.alloc (.cells #[.int .i64 p.ride, .int .i64 p.rider, .int .i64 p.tm, .int .i64 p.x, .int .i64 p.y, .int .i64 p.r] 27)) wr) (fun s _ => m - (intOf s).toNat)
        case atStart => exact ⟨0, Nat.zero_le _, rfl, Lib.hid (fun _ _ h => absurd h (Nat.not_lt_zero _)), HKK.out⟩
        case round =>
          obtain ⟨i, hi, rfl, HA, hbw⟩ := hrel
          have HBW := Lib.hid hbw
          obtain ⟨B0, hbb⟩ := HK.out _ hbw
          have HBB := Lib.hid hbb
          have HZr := Lib.hid (HZP.out _ hbb)
          have c00 := (B0.cell 0).trans rfl; have c01 := (B0.cell 1).trans rfl; have c02 := (B0.cell 2).trans rfl; have c03 := (B0.cell 3).trans rfl; have c04 := (B0.cell 4).trans rfl; have c05 := (B0.cell 5).trans rfl
          clear hbw B0 hbb
          by_cases hlt : i < m
          · have hkl : i < ps.length := by have := HLP.out; omega
            obtain ⟨b, off, rfl, hb, hc⟩ := HZr.out.cells (by omega)
            obtain ⟨e0, e1, e2, e3, e4⟩ := hc i hkl
            have hk0 : (0 : Int) ≤ i := by omega
            have hk1 : (i : Int) < m := by omega
            have HPR := Lib.hid (HZr.out.2.1 ps[i] (List.getElem_mem hkl))
            clear hc
            go_wp2_with fail
            have F00 : ∀ z : Fam _, z.val.cell? ⟨w.heap.size, 0, none⟩ = some (.int .i64 p.ride) := fun z => z.some_ c00
            have F01 : ∀ z : Fam _, z.val.cell? ⟨w.heap.size, 1, none⟩ = some (.int .i64 p.rider) := fun z => z.some_ c01
            have F02 : ∀ z : Fam _, z.val.cell? ⟨w.heap.size, 2, none⟩ = some (.int .i64 p.tm) := fun z => z.some_ c02
            have F03 : ∀ z : Fam _, z.val.cell? ⟨w.heap.size, 3, none⟩ = some (.int .i64 p.x) := fun z => z.some_ c03
            have F04 : ∀ z : Fam _, z.val.cell? ⟨w.heap.size, 4, none⟩ = some (.int .i64 p.y) := fun z => z.some_ c04
            have F05 : ∀ z : Fam _, z.val.cell? ⟨w.heap.size, 5, none⟩ = some (.int .i64 p.r) := fun z => z.some_ c05
            clear c00 c01 c02 c03 c04 c05
            have D0 : ∀ z : Fam wr, z.val.cell? ⟨b, off + i * 5, none⟩ = some (.int .i64 ps[i].ride) := fun z => z.some_ e0
            have D1 : ∀ z : Fam wr, z.val.cell? ⟨b, off + i * 5 + 1, none⟩ = some (.int .i64 ps[i].tm) := fun z => z.some_ e1
            have D2 : ∀ z : Fam wr, z.val.cell? ⟨b, off + i * 5 + 2, none⟩ = some (.int .i64 ps[i].W) := fun z => z.some_ e2
            have D3 : ∀ z : Fam wr, z.val.cell? ⟨b, off + i * 5 + 3, none⟩ = some (.int .i64 ps[i].H) := fun z => z.some_ e3
            have D4 : ∀ z : Fam wr, z.val.cell? ⟨b, off + i * 5 + 4, none⟩ = some (.slice ps[i].A ps[i].n ps[i].c) := fun z => z.some_ e4
            clear e0 e1 e2 e3 e4
            obtain ⟨y, hy⟩ : ∃ y, countB ps[i] p = y := ⟨_, rfl⟩
            have HY := Lib.hid hy
            clear hy
            refine wp_region_fam (by kernel_rfl) (by kernel_rfl) ?_
            repeat (go_big_quiet_step ((go_at_call 30; exact fam_call (rcounts_any ps[i] p y _ (HPR.out.below (Fam.prop _)) htm HY.out))))
            refine wpQuiet_nil ?_
            rintro _ ⟨z1, rfl⟩
            have HB5 := Lib.hid (below_next HBW.out (Nat.le_refl _) z1.prop)
            have HB6 := Lib.hid (below_next HBB.out (Nat.le_refl _) z1.prop)
            clear F00 F01 F02 F03 F04 F05 D0 D1 D2 D3 D4
            rcases y with _ | _
            · go_wp2_with fail
              go_roundw
              case rel => exact ⟨i + 1, by omega, by go_num, Lib.hid (fun j hj hjk => by
                rcases Nat.lt_or_eq_of_le (Nat.lt_succ_iff.1 hjk) with h' | rfl
                · exact HA.out j hj h'
                · exact HY.out), HB5.out⟩
              case measure => simp [intOf]; omega
            · have HX2 : Hid (1 = k) := Lib.hid (HX1.out (List.any_eq_true.2 ⟨_, List.getElem_mem hkl, HY.out⟩))
              go_wp2_with fail
              go_ret
              exact ⟨ret_int HX2.out, HB6.out⟩
          · have HX2 : Hid (3 = k) := Lib.hid (HX3.out (by
              unfold countsB
              rw [List.any_eq_false]
              intro f hf
              obtain ⟨j, hj, rfl⟩ := List.getElem_of_mem hf
              rw [HA.out j hj (by have := HLP.out; omega)]; decide))
            go_wp2_with fail
            go_ret
            exact ⟨ret_int HX2.out, HBB.out⟩
    · skip
      rcases b2 with _ | _
      · skip
        have Zm4 := Lib.hid (zero_f hb2)
        have zm4 : (m4 == 0) = true := by simp [Zm4.out]
        have ym4 : ((m4 : Int) == 0) = true := by simp [Zm4.out]
        have xm4 : decide (m4 = 0) = true := by simp [Zm4.out]
        have nm4 : ¬ 0 < m4 := by rw [Zm4.out]; decide
        have HX : Hid (2 = k) := Lib.hid (by rw [← HK2.out]; simp [judgeB])
        go_enter Try.func36, Try.ntmps36
        go_wp2_with fail
        refine (rsurefc_any A n c l 1 (p.x, p.y) p.r p.tm m1 0 _ (HZA.out _ HB.out) hn HQ1.out HM1.out).mono ?_
        rintro e u1 ⟨X1, cc1, rfl, hq1⟩
        replace kk := below_next kk (Nat.le_refl _) hq1
        clear c00 c01 c02 c03 c04 c05 HB hq1
        obtain ⟨B0, hbb⟩ := HK.out _ kk
        have c00 := B0.cell 0
        have c01 := B0.cell 1
        have c02 := B0.cell 2
        have c03 := B0.cell 3
        have c04 := B0.cell 4
        have c05 := B0.cell 5
        have HB := Lib.hid hbb
        clear B0 hbb
        go_wp2_with fail
        refine (rpossfc_any A n c l 1 (p.x, p.y) p.r p.tm m2 0 _ (HZA.out _ HB.out) hn HQ1.out HM2.out).mono ?_
        rintro e u2 ⟨X2, cc2, rfl, hq2⟩
        replace kk := below_next kk (Nat.le_refl _) hq2
        clear c00 c01 c02 c03 c04 c05 HB hq2
        obtain ⟨B0, hbb⟩ := HK.out _ kk
        have c00 := B0.cell 0
        have c01 := B0.cell 1
        have c02 := B0.cell 2
        have c03 := B0.cell 3
        have c04 := B0.cell 4
        have c05 := B0.cell 5
        have HB := Lib.hid hbb
        clear B0 hbb
        go_wp2_with fail
        refine (rsurefc_any A n c l 2 (p.x, p.y) p.r p.tm m3 0 _ (HZA.out _ HB.out) hn HQ2.out HM3.out).mono ?_
        rintro e u3 ⟨X3, cc3, rfl, hq3⟩
        replace kk := below_next kk (Nat.le_refl _) hq3
        clear c00 c01 c02 c03 c04 c05 HB hq3
        obtain ⟨B0, hbb⟩ := HK.out _ kk
        have c00 := B0.cell 0
        have c01 := B0.cell 1
        have c02 := B0.cell 2
        have c03 := B0.cell 3
        have c04 := B0.cell 4
        have c05 := B0.cell 5
        have HB := Lib.hid hbb
        clear B0 hbb
        go_wp2_with fail
        refine (rpossfc_any A n c l 2 (p.x, p.y) p.r p.tm m4 0 _ (HZA.out _ HB.out) hn HQ2.out HM4.out).mono ?_
        rintro e u4 ⟨X4, cc4, rfl, hq4⟩
        replace kk := below_next kk (Nat.le_refl _) hq4
        clear c00 c01 c02 c03 c04 c05 HB hq4
        obtain ⟨B0, hbb⟩ := HK.out _ kk
        have c00 := B0.cell 0
        have c01 := B0.cell 1
        have c02 := B0.cell 2
        have c03 := B0.cell 3
        have c04 := B0.cell 4
        have c05 := B0.cell 5
        have HB := Lib.hid hbb
        clear B0 hbb
        go_wp2_with fail
        refine (ronly_any A n c l p.tm true _ (HZA.out _ HB.out) hn HA2.out).mono ?_
        rintro e w6 ⟨rfl, hb6⟩
        replace kk := below_next kk (Nat.le_refl _) hb6
        clear c00 c01 c02 c03 c04 c05 HB hb6
        obtain ⟨B0, hbb⟩ := HK.out _ kk
        have c00 := B0.cell 0
        have c01 := B0.cell 1
        have c02 := B0.cell 2
        have c03 := B0.cell 3
        have c04 := B0.cell 4
        have c05 := B0.cell 5
        have HB := Lib.hid hbb
        clear B0 hbb
        go_wp2_with fail
        go_ret
        exact ⟨ret_int HX.out, HB.out⟩
      · skip
        have nm4 := pos_t hb2; have im4 : (0 : Int) < m4 := by omega
        have zm4 : (m4 == 0) = false := by simp; omega
        have ym4 : ((m4 : Int) == 0) = false := by simp; omega
        have xm4 : decide (m4 = 0) = false := by simp; omega
        rcases b1 with _ | _
        · skip
          have Zm2 := Lib.hid (zero_f hb1)
          have zm2 : (m2 == 0) = true := by simp [Zm2.out]
          have ym2 : ((m2 : Int) == 0) = true := by simp [Zm2.out]
          have xm2 : decide (m2 = 0) = true := by simp [Zm2.out]
          have nm2 : ¬ 0 < m2 := by rw [Zm2.out]; decide
          rcases d2 with _ | _
          · skip
            have Zm3 := Lib.hid (zero_f hd2)
            have zm3 : (m3 == 0) = true := by simp [Zm3.out]
            have ym3 : ((m3 : Int) == 0) = true := by simp [Zm3.out]
            have xm3 : decide (m3 = 0) = true := by simp [Zm3.out]
            have nm3 : ¬ 0 < m3 := by rw [Zm3.out]; decide
            have HX1 : Hid (countsB ps p = true → 1 = k) := Lib.hid fun g => by rw [← HK2.out, g]; simp [judgeB]
            have HX3 : Hid (countsB ps p = false → 3 = k) := Lib.hid fun g => by rw [← HK2.out, g]; simp [judgeB]
            go_enter Try.func36, Try.ntmps36
            go_wp2_with fail
            refine (rsurefc_any A n c l 1 (p.x, p.y) p.r p.tm m1 0 _ (HZA.out _ HB.out) hn HQ1.out HM1.out).mono ?_
            rintro e u1 ⟨X1, cc1, rfl, hq1⟩
            replace kk := below_next kk (Nat.le_refl _) hq1
            clear c00 c01 c02 c03 c04 c05 HB hq1
            obtain ⟨B0, hbb⟩ := HK.out _ kk
            have c00 := B0.cell 0
            have c01 := B0.cell 1
            have c02 := B0.cell 2
            have c03 := B0.cell 3
            have c04 := B0.cell 4
            have c05 := B0.cell 5
            have HB := Lib.hid hbb
            clear B0 hbb
            go_wp2_with fail
            refine (rpossfc_any A n c l 1 (p.x, p.y) p.r p.tm m2 0 _ (HZA.out _ HB.out) hn HQ1.out HM2.out).mono ?_
            rintro e u2 ⟨X2, cc2, rfl, hq2⟩
            replace kk := below_next kk (Nat.le_refl _) hq2
            clear c00 c01 c02 c03 c04 c05 HB hq2
            obtain ⟨B0, hbb⟩ := HK.out _ kk
            have c00 := B0.cell 0
            have c01 := B0.cell 1
            have c02 := B0.cell 2
            have c03 := B0.cell 3
            have c04 := B0.cell 4
            have c05 := B0.cell 5
            have HB := Lib.hid hbb
            clear B0 hbb
            go_wp2_with fail
            refine (rsurefc_any A n c l 2 (p.x, p.y) p.r p.tm m3 0 _ (HZA.out _ HB.out) hn HQ2.out HM3.out).mono ?_
            rintro e u3 ⟨X3, cc3, rfl, hq3⟩
            replace kk := below_next kk (Nat.le_refl _) hq3
            clear c00 c01 c02 c03 c04 c05 HB hq3
            obtain ⟨B0, hbb⟩ := HK.out _ kk
            have c00 := B0.cell 0
            have c01 := B0.cell 1
            have c02 := B0.cell 2
            have c03 := B0.cell 3
            have c04 := B0.cell 4
            have c05 := B0.cell 5
            have HB := Lib.hid hbb
            clear B0 hbb
            go_wp2_with fail
            refine (rpossfc_any A n c l 2 (p.x, p.y) p.r p.tm m4 0 _ (HZA.out _ HB.out) hn HQ2.out HM4.out).mono ?_
            rintro e u4 ⟨X4, cc4, rfl, hq4⟩
            replace kk := below_next kk (Nat.le_refl _) hq4
            clear c00 c01 c02 c03 c04 c05 HB hq4
            obtain ⟨B0, hbb⟩ := HK.out _ kk
            have c00 := B0.cell 0
            have c01 := B0.cell 1
            have c02 := B0.cell 2
            have c03 := B0.cell 3
            have c04 := B0.cell 4
            have c05 := B0.cell 5
            have HB := Lib.hid hbb
            clear B0 hbb
            go_wp2_with fail
            refine (ronly_any A n c l p.tm true _ (HZA.out _ HB.out) hn HA2.out).mono ?_
            rintro e w7 ⟨rfl, hb7⟩
            replace kk := below_next kk (Nat.le_refl _) hb7
            clear c00 c01 c02 c03 c04 c05 HB hb7
            obtain ⟨B0, hbb⟩ := HK.out _ kk
            have c00 := B0.cell 0
            have c01 := B0.cell 1
            have c02 := B0.cell 2
            have c03 := B0.cell 3
            have c04 := B0.cell 4
            have c05 := B0.cell 5
            have HB := Lib.hid hbb
            clear B0 hbb
            go_wp2_with fail
            refine (ronly_any A n c l p.tm true _ (HZA.out _ HB.out) hn HA2.out).mono ?_
            rintro e w8 ⟨rfl, hb8⟩
            replace kk := below_next kk (Nat.le_refl _) hb8
            clear c00 c01 c02 c03 c04 c05 HB hb8
            obtain ⟨B0, hbb⟩ := HK.out _ kk
            have c00 := B0.cell 0
            have c01 := B0.cell 1
            have c02 := B0.cell 2
            have c03 := B0.cell 3
            have c04 := B0.cell 4
            have c05 := B0.cell 5
            have HB := Lib.hid hbb
            clear B0 hbb
            go_wp2_with fail
            have HKK := Lib.hid kk
            clear kk HB c00 c01 c02 c03 c04 c05
            go_loopw [15] (fun s wr => ∃ k : Nat, k ≤ m ∧ s = .int .i64 k ∧ Hid (∀ j (hj : j < ps.length), j < k → countB ps[j] p = false) ∧ Below (w.alloc (.cells #[.int .i64 p.ride, .int .i64 p.rider, .int .i64 p.tm, .int .i64 p.x, .int .i64 p.y, .int .i64 p.r] 27)).heap.size (w.alloc (.cells #[.int .i64 p.ride, .int .i64 p.rider, .int .i64 p.tm, .int .i64 p.x, .int .i64 p.y, .int .i64 p.r] 27)) wr) (fun s _ => m - (intOf s).toNat)
            case atStart => exact ⟨0, Nat.zero_le _, rfl, Lib.hid (fun _ _ h => absurd h (Nat.not_lt_zero _)), HKK.out⟩
            case round =>
              obtain ⟨i, hi, rfl, HA, hbw⟩ := hrel
              have HBW := Lib.hid hbw
              obtain ⟨B0, hbb⟩ := HK.out _ hbw
              have HBB := Lib.hid hbb
              have HZr := Lib.hid (HZP.out _ hbb)
              have c00 := (B0.cell 0).trans rfl; have c01 := (B0.cell 1).trans rfl; have c02 := (B0.cell 2).trans rfl; have c03 := (B0.cell 3).trans rfl; have c04 := (B0.cell 4).trans rfl; have c05 := (B0.cell 5).trans rfl
              clear hbw B0 hbb
              by_cases hlt : i < m
              · have hkl : i < ps.length := by have := HLP.out; omega
                obtain ⟨b, off, rfl, hb, hc⟩ := HZr.out.cells (by omega)
                obtain ⟨e0, e1, e2, e3, e4⟩ := hc i hkl
                have hk0 : (0 : Int) ≤ i := by omega
                have hk1 : (i : Int) < m := by omega
                have HPR := Lib.hid (HZr.out.2.1 ps[i] (List.getElem_mem hkl))
                clear hc
                go_wp2_with fail
                have F00 : ∀ z : Fam _, z.val.cell? ⟨w.heap.size, 0, none⟩ = some (.int .i64 p.ride) := fun z => z.some_ c00
                have F01 : ∀ z : Fam _, z.val.cell? ⟨w.heap.size, 1, none⟩ = some (.int .i64 p.rider) := fun z => z.some_ c01
                have F02 : ∀ z : Fam _, z.val.cell? ⟨w.heap.size, 2, none⟩ = some (.int .i64 p.tm) := fun z => z.some_ c02
                have F03 : ∀ z : Fam _, z.val.cell? ⟨w.heap.size, 3, none⟩ = some (.int .i64 p.x) := fun z => z.some_ c03
                have F04 : ∀ z : Fam _, z.val.cell? ⟨w.heap.size, 4, none⟩ = some (.int .i64 p.y) := fun z => z.some_ c04
                have F05 : ∀ z : Fam _, z.val.cell? ⟨w.heap.size, 5, none⟩ = some (.int .i64 p.r) := fun z => z.some_ c05
                clear c00 c01 c02 c03 c04 c05
                have D0 : ∀ z : Fam wr, z.val.cell? ⟨b, off + i * 5, none⟩ = some (.int .i64 ps[i].ride) := fun z => z.some_ e0
                have D1 : ∀ z : Fam wr, z.val.cell? ⟨b, off + i * 5 + 1, none⟩ = some (.int .i64 ps[i].tm) := fun z => z.some_ e1
                have D2 : ∀ z : Fam wr, z.val.cell? ⟨b, off + i * 5 + 2, none⟩ = some (.int .i64 ps[i].W) := fun z => z.some_ e2
                have D3 : ∀ z : Fam wr, z.val.cell? ⟨b, off + i * 5 + 3, none⟩ = some (.int .i64 ps[i].H) := fun z => z.some_ e3
                have D4 : ∀ z : Fam wr, z.val.cell? ⟨b, off + i * 5 + 4, none⟩ = some (.slice ps[i].A ps[i].n ps[i].c) := fun z => z.some_ e4
                clear e0 e1 e2 e3 e4
                obtain ⟨y, hy⟩ : ∃ y, countB ps[i] p = y := ⟨_, rfl⟩
                have HY := Lib.hid hy
                clear hy
                refine wp_region_fam (by kernel_rfl) (by kernel_rfl) ?_
                repeat (go_big_quiet_step ((go_at_call 30; exact fam_call (rcounts_any ps[i] p y _ (HPR.out.below (Fam.prop _)) htm HY.out))))
                refine wpQuiet_nil ?_
                rintro _ ⟨z1, rfl⟩
                have HB5 := Lib.hid (below_next HBW.out (Nat.le_refl _) z1.prop)
                have HB6 := Lib.hid (below_next HBB.out (Nat.le_refl _) z1.prop)
                clear F00 F01 F02 F03 F04 F05 D0 D1 D2 D3 D4
                rcases y with _ | _
                · go_wp2_with fail
                  go_roundw
                  case rel => exact ⟨i + 1, by omega, by go_num, Lib.hid (fun j hj hjk => by
                    rcases Nat.lt_or_eq_of_le (Nat.lt_succ_iff.1 hjk) with h' | rfl
                    · exact HA.out j hj h'
                    · exact HY.out), HB5.out⟩
                  case measure => simp [intOf]; omega
                · have HX2 : Hid (1 = k) := Lib.hid (HX1.out (List.any_eq_true.2 ⟨_, List.getElem_mem hkl, HY.out⟩))
                  go_wp2_with fail
                  go_ret
                  exact ⟨ret_int HX2.out, HB6.out⟩
              · have HX2 : Hid (3 = k) := Lib.hid (HX3.out (by
                  unfold countsB
                  rw [List.any_eq_false]
                  intro f hf
                  obtain ⟨j, hj, rfl⟩ := List.getElem_of_mem hf
                  rw [HA.out j hj (by have := HLP.out; omega)]; decide))
                go_wp2_with fail
                go_ret
                exact ⟨ret_int HX2.out, HBB.out⟩
          · skip
            have nm3 := pos_t hd2; have im3 : (0 : Int) < m3 := by omega
            have zm3 : (m3 == 0) = false := by simp; omega
            have ym3 : ((m3 : Int) == 0) = false := by simp; omega
            have xm3 : decide (m3 = 0) = false := by simp; omega
            have HX : Hid (1 = k) := Lib.hid (by rw [← HK2.out]; simp [judgeB])
            go_enter Try.func36, Try.ntmps36
            go_wp2_with fail
            refine (rsurefc_any A n c l 1 (p.x, p.y) p.r p.tm m1 0 _ (HZA.out _ HB.out) hn HQ1.out HM1.out).mono ?_
            rintro e u1 ⟨X1, cc1, rfl, hq1⟩
            replace kk := below_next kk (Nat.le_refl _) hq1
            clear c00 c01 c02 c03 c04 c05 HB hq1
            obtain ⟨B0, hbb⟩ := HK.out _ kk
            have c00 := B0.cell 0
            have c01 := B0.cell 1
            have c02 := B0.cell 2
            have c03 := B0.cell 3
            have c04 := B0.cell 4
            have c05 := B0.cell 5
            have HB := Lib.hid hbb
            clear B0 hbb
            go_wp2_with fail
            refine (rpossfc_any A n c l 1 (p.x, p.y) p.r p.tm m2 0 _ (HZA.out _ HB.out) hn HQ1.out HM2.out).mono ?_
            rintro e u2 ⟨X2, cc2, rfl, hq2⟩
            replace kk := below_next kk (Nat.le_refl _) hq2
            clear c00 c01 c02 c03 c04 c05 HB hq2
            obtain ⟨B0, hbb⟩ := HK.out _ kk
            have c00 := B0.cell 0
            have c01 := B0.cell 1
            have c02 := B0.cell 2
            have c03 := B0.cell 3
            have c04 := B0.cell 4
            have c05 := B0.cell 5
            have HB := Lib.hid hbb
            clear B0 hbb
            go_wp2_with fail
            refine (rsurefc_any A n c l 2 (p.x, p.y) p.r p.tm m3 0 _ (HZA.out _ HB.out) hn HQ2.out HM3.out).mono ?_
            rintro e u3 ⟨X3, cc3, rfl, hq3⟩
            replace kk := below_next kk (Nat.le_refl _) hq3
            clear c00 c01 c02 c03 c04 c05 HB hq3
            obtain ⟨B0, hbb⟩ := HK.out _ kk
            have c00 := B0.cell 0
            have c01 := B0.cell 1
            have c02 := B0.cell 2
            have c03 := B0.cell 3
            have c04 := B0.cell 4
            have c05 := B0.cell 5
            have HB := Lib.hid hbb
            clear B0 hbb
            go_wp2_with fail
            refine (rpossfc_any A n c l 2 (p.x, p.y) p.r p.tm m4 0 _ (HZA.out _ HB.out) hn HQ2.out HM4.out).mono ?_
            rintro e u4 ⟨X4, cc4, rfl, hq4⟩
            replace kk := below_next kk (Nat.le_refl _) hq4
            clear c00 c01 c02 c03 c04 c05 HB hq4
            obtain ⟨B0, hbb⟩ := HK.out _ kk
            have c00 := B0.cell 0
            have c01 := B0.cell 1
            have c02 := B0.cell 2
            have c03 := B0.cell 3
            have c04 := B0.cell 4
            have c05 := B0.cell 5
            have HB := Lib.hid hbb
            clear B0 hbb
            go_wp2_with fail
            refine (ronly_any A n c l p.tm true _ (HZA.out _ HB.out) hn HA2.out).mono ?_
            rintro e w9 ⟨rfl, hb9⟩
            replace kk := below_next kk (Nat.le_refl _) hb9
            clear c00 c01 c02 c03 c04 c05 HB hb9
            obtain ⟨B0, hbb⟩ := HK.out _ kk
            have c00 := B0.cell 0
            have c01 := B0.cell 1
            have c02 := B0.cell 2
            have c03 := B0.cell 3
            have c04 := B0.cell 4
            have c05 := B0.cell 5
            have HB := Lib.hid hbb
            clear B0 hbb
            go_wp2_with fail
            refine (ronly_any A n c l p.tm true _ (HZA.out _ HB.out) hn HA2.out).mono ?_
            rintro e w10 ⟨rfl, hb10⟩
            replace kk := below_next kk (Nat.le_refl _) hb10
            clear c00 c01 c02 c03 c04 c05 HB hb10
            obtain ⟨B0, hbb⟩ := HK.out _ kk
            have c00 := B0.cell 0
            have c01 := B0.cell 1
            have c02 := B0.cell 2
            have c03 := B0.cell 3
            have c04 := B0.cell 4
            have c05 := B0.cell 5
            have HB := Lib.hid hbb
            clear B0 hbb
            go_wp2_with fail
            go_ret
            exact ⟨ret_int HX.out, HB.out⟩
        · skip
          have nm2 := pos_t hb1; have im2 : (0 : Int) < m2 := by omega
          have zm2 : (m2 == 0) = false := by simp; omega
          have ym2 : ((m2 : Int) == 0) = false := by simp; omega
          have xm2 : decide (m2 = 0) = false := by simp; omega
          have HX1 : Hid (countsB ps p = true → 1 = k) := Lib.hid fun g => by rw [← HK2.out, g]; simp [judgeB]
          have HX3 : Hid (countsB ps p = false → 3 = k) := Lib.hid fun g => by rw [← HK2.out, g]; simp [judgeB]
          go_enter Try.func36, Try.ntmps36
          go_wp2_with fail
          refine (rsurefc_any A n c l 1 (p.x, p.y) p.r p.tm m1 0 _ (HZA.out _ HB.out) hn HQ1.out HM1.out).mono ?_
          rintro e u1 ⟨X1, cc1, rfl, hq1⟩
          replace kk := below_next kk (Nat.le_refl _) hq1
          clear c00 c01 c02 c03 c04 c05 HB hq1
          obtain ⟨B0, hbb⟩ := HK.out _ kk
          have c00 := B0.cell 0
          have c01 := B0.cell 1
          have c02 := B0.cell 2
          have c03 := B0.cell 3
          have c04 := B0.cell 4
          have c05 := B0.cell 5
          have HB := Lib.hid hbb
          clear B0 hbb
          go_wp2_with fail
          refine (rpossfc_any A n c l 1 (p.x, p.y) p.r p.tm m2 0 _ (HZA.out _ HB.out) hn HQ1.out HM2.out).mono ?_
          rintro e u2 ⟨X2, cc2, rfl, hq2⟩
          replace kk := below_next kk (Nat.le_refl _) hq2
          clear c00 c01 c02 c03 c04 c05 HB hq2
          obtain ⟨B0, hbb⟩ := HK.out _ kk
          have c00 := B0.cell 0
          have c01 := B0.cell 1
          have c02 := B0.cell 2
          have c03 := B0.cell 3
          have c04 := B0.cell 4
          have c05 := B0.cell 5
          have HB := Lib.hid hbb
          clear B0 hbb
          go_wp2_with fail
          refine (rsurefc_any A n c l 2 (p.x, p.y) p.r p.tm m3 0 _ (HZA.out _ HB.out) hn HQ2.out HM3.out).mono ?_
          rintro e u3 ⟨X3, cc3, rfl, hq3⟩
          replace kk := below_next kk (Nat.le_refl _) hq3
          clear c00 c01 c02 c03 c04 c05 HB hq3
          obtain ⟨B0, hbb⟩ := HK.out _ kk
          have c00 := B0.cell 0
          have c01 := B0.cell 1
          have c02 := B0.cell 2
          have c03 := B0.cell 3
          have c04 := B0.cell 4
          have c05 := B0.cell 5
          have HB := Lib.hid hbb
          clear B0 hbb
          go_wp2_with fail
          refine (rpossfc_any A n c l 2 (p.x, p.y) p.r p.tm m4 0 _ (HZA.out _ HB.out) hn HQ2.out HM4.out).mono ?_
          rintro e u4 ⟨X4, cc4, rfl, hq4⟩
          replace kk := below_next kk (Nat.le_refl _) hq4
          clear c00 c01 c02 c03 c04 c05 HB hq4
          obtain ⟨B0, hbb⟩ := HK.out _ kk
          have c00 := B0.cell 0
          have c01 := B0.cell 1
          have c02 := B0.cell 2
          have c03 := B0.cell 3
          have c04 := B0.cell 4
          have c05 := B0.cell 5
          have HB := Lib.hid hbb
          clear B0 hbb
          go_wp2_with fail
          refine (ronly_any A n c l p.tm true _ (HZA.out _ HB.out) hn HA2.out).mono ?_
          rintro e w11 ⟨rfl, hb11⟩
          replace kk := below_next kk (Nat.le_refl _) hb11
          clear c00 c01 c02 c03 c04 c05 HB hb11
          obtain ⟨B0, hbb⟩ := HK.out _ kk
          have c00 := B0.cell 0
          have c01 := B0.cell 1
          have c02 := B0.cell 2
          have c03 := B0.cell 3
          have c04 := B0.cell 4
          have c05 := B0.cell 5
          have HB := Lib.hid hbb
          clear B0 hbb
          go_wp2_with fail
          have HKK := Lib.hid kk
          clear kk HB c00 c01 c02 c03 c04 c05
          go_loopw [15] (fun s wr => ∃ k : Nat, k ≤ m ∧ s = .int .i64 k ∧ Hid (∀ j (hj : j < ps.length), j < k → countB ps[j] p = false) ∧ Below (w.alloc (.cells #[.int .i64 p.ride, .int .i64 p.rider, .int .i64 p.tm, .int .i64 p.x, .int .i64 p.y, .int .i64 p.r] 27)).heap.size (w.alloc (.cells #[.int .i64 p.ride, .int .i64 p.rider, .int .i64 p.tm, .int .i64 p.x, .int .i64 p.y, .int .i64 p.r] 27)) wr) (fun s _ => m - (intOf s).toNat)
          case atStart => exact ⟨0, Nat.zero_le _, rfl, Lib.hid (fun _ _ h => absurd h (Nat.not_lt_zero _)), HKK.out⟩
          case round =>
            obtain ⟨i, hi, rfl, HA, hbw⟩ := hrel
            have HBW := Lib.hid hbw
            obtain ⟨B0, hbb⟩ := HK.out _ hbw
            have HBB := Lib.hid hbb
            have HZr := Lib.hid (HZP.out _ hbb)
            have c00 := (B0.cell 0).trans rfl; have c01 := (B0.cell 1).trans rfl; have c02 := (B0.cell 2).trans rfl; have c03 := (B0.cell 3).trans rfl; have c04 := (B0.cell 4).trans rfl; have c05 := (B0.cell 5).trans rfl
            clear hbw B0 hbb
            by_cases hlt : i < m
            · have hkl : i < ps.length := by have := HLP.out; omega
              obtain ⟨b, off, rfl, hb, hc⟩ := HZr.out.cells (by omega)
              obtain ⟨e0, e1, e2, e3, e4⟩ := hc i hkl
              have hk0 : (0 : Int) ≤ i := by omega
              have hk1 : (i : Int) < m := by omega
              have HPR := Lib.hid (HZr.out.2.1 ps[i] (List.getElem_mem hkl))
              clear hc
              go_wp2_with fail
              have F00 : ∀ z : Fam _, z.val.cell? ⟨w.heap.size, 0, none⟩ = some (.int .i64 p.ride) := fun z => z.some_ c00
              have F01 : ∀ z : Fam _, z.val.cell? ⟨w.heap.size, 1, none⟩ = some (.int .i64 p.rider) := fun z => z.some_ c01
              have F02 : ∀ z : Fam _, z.val.cell? ⟨w.heap.size, 2, none⟩ = some (.int .i64 p.tm) := fun z => z.some_ c02
              have F03 : ∀ z : Fam _, z.val.cell? ⟨w.heap.size, 3, none⟩ = some (.int .i64 p.x) := fun z => z.some_ c03
              have F04 : ∀ z : Fam _, z.val.cell? ⟨w.heap.size, 4, none⟩ = some (.int .i64 p.y) := fun z => z.some_ c04
              have F05 : ∀ z : Fam _, z.val.cell? ⟨w.heap.size, 5, none⟩ = some (.int .i64 p.r) := fun z => z.some_ c05
              clear c00 c01 c02 c03 c04 c05
              have D0 : ∀ z : Fam wr, z.val.cell? ⟨b, off + i * 5, none⟩ = some (.int .i64 ps[i].ride) := fun z => z.some_ e0
              have D1 : ∀ z : Fam wr, z.val.cell? ⟨b, off + i * 5 + 1, none⟩ = some (.int .i64 ps[i].tm) := fun z => z.some_ e1
              have D2 : ∀ z : Fam wr, z.val.cell? ⟨b, off + i * 5 + 2, none⟩ = some (.int .i64 ps[i].W) := fun z => z.some_ e2
              have D3 : ∀ z : Fam wr, z.val.cell? ⟨b, off + i * 5 + 3, none⟩ = some (.int .i64 ps[i].H) := fun z => z.some_ e3
              have D4 : ∀ z : Fam wr, z.val.cell? ⟨b, off + i * 5 + 4, none⟩ = some (.slice ps[i].A ps[i].n ps[i].c) := fun z => z.some_ e4
              clear e0 e1 e2 e3 e4
              obtain ⟨y, hy⟩ : ∃ y, countB ps[i] p = y := ⟨_, rfl⟩
              have HY := Lib.hid hy
              clear hy
              refine wp_region_fam (by kernel_rfl) (by kernel_rfl) ?_
              repeat (go_big_quiet_step ((go_at_call 30; exact fam_call (rcounts_any ps[i] p y _ (HPR.out.below (Fam.prop _)) htm HY.out))))
              refine wpQuiet_nil ?_
              rintro _ ⟨z1, rfl⟩
              have HB5 := Lib.hid (below_next HBW.out (Nat.le_refl _) z1.prop)
              have HB6 := Lib.hid (below_next HBB.out (Nat.le_refl _) z1.prop)
              clear F00 F01 F02 F03 F04 F05 D0 D1 D2 D3 D4
              rcases y with _ | _
              · go_wp2_with fail
                go_roundw
                case rel => exact ⟨i + 1, by omega, by go_num, Lib.hid (fun j hj hjk => by
                  rcases Nat.lt_or_eq_of_le (Nat.lt_succ_iff.1 hjk) with h' | rfl
                  · exact HA.out j hj h'
                  · exact HY.out), HB5.out⟩
                case measure => simp [intOf]; omega
              · have HX2 : Hid (1 = k) := Lib.hid (HX1.out (List.any_eq_true.2 ⟨_, List.getElem_mem hkl, HY.out⟩))
                go_wp2_with fail
                go_ret
                exact ⟨ret_int HX2.out, HB6.out⟩
            · have HX2 : Hid (3 = k) := Lib.hid (HX3.out (by
                unfold countsB
                rw [List.any_eq_false]
                intro f hf
                obtain ⟨j, hj, rfl⟩ := List.getElem_of_mem hf
                rw [HA.out j hj (by have := HLP.out; omega)]; decide))
              go_wp2_with fail
              go_ret
              exact ⟨ret_int HX2.out, HBB.out⟩
  · skip
    have nm1 := pos_t hd1; have im1 : (0 : Int) < m1 := by omega
    have zm1 : (m1 == 0) = false := by simp; omega
    have ym1 : ((m1 : Int) == 0) = false := by simp; omega
    have xm1 : decide (m1 = 0) = false := by simp; omega
    have HX : Hid (2 = k) := Lib.hid (by rw [← HK2.out]; simp [judgeB])
    go_enter Try.func36, Try.ntmps36
    go_wp2_with fail
    refine (rsurefc_any A n c l 1 (p.x, p.y) p.r p.tm m1 0 _ (HZA.out _ HB.out) hn HQ1.out HM1.out).mono ?_
    rintro e u1 ⟨X1, cc1, rfl, hq1⟩
    replace kk := below_next kk (Nat.le_refl _) hq1
    clear c00 c01 c02 c03 c04 c05 HB hq1
    obtain ⟨B0, hbb⟩ := HK.out _ kk
    have c00 := B0.cell 0
    have c01 := B0.cell 1
    have c02 := B0.cell 2
    have c03 := B0.cell 3
    have c04 := B0.cell 4
    have c05 := B0.cell 5
    have HB := Lib.hid hbb
    clear B0 hbb
    go_wp2_with fail
    refine (rpossfc_any A n c l 1 (p.x, p.y) p.r p.tm m2 0 _ (HZA.out _ HB.out) hn HQ1.out HM2.out).mono ?_
    rintro e u2 ⟨X2, cc2, rfl, hq2⟩
    replace kk := below_next kk (Nat.le_refl _) hq2
    clear c00 c01 c02 c03 c04 c05 HB hq2
    obtain ⟨B0, hbb⟩ := HK.out _ kk
    have c00 := B0.cell 0
    have c01 := B0.cell 1
    have c02 := B0.cell 2
    have c03 := B0.cell 3
    have c04 := B0.cell 4
    have c05 := B0.cell 5
    have HB := Lib.hid hbb
    clear B0 hbb
    go_wp2_with fail
    refine (rsurefc_any A n c l 2 (p.x, p.y) p.r p.tm m3 0 _ (HZA.out _ HB.out) hn HQ2.out HM3.out).mono ?_
    rintro e u3 ⟨X3, cc3, rfl, hq3⟩
    replace kk := below_next kk (Nat.le_refl _) hq3
    clear c00 c01 c02 c03 c04 c05 HB hq3
    obtain ⟨B0, hbb⟩ := HK.out _ kk
    have c00 := B0.cell 0
    have c01 := B0.cell 1
    have c02 := B0.cell 2
    have c03 := B0.cell 3
    have c04 := B0.cell 4
    have c05 := B0.cell 5
    have HB := Lib.hid hbb
    clear B0 hbb
    go_wp2_with fail
    refine (rpossfc_any A n c l 2 (p.x, p.y) p.r p.tm m4 0 _ (HZA.out _ HB.out) hn HQ2.out HM4.out).mono ?_
    rintro e u4 ⟨X4, cc4, rfl, hq4⟩
    replace kk := below_next kk (Nat.le_refl _) hq4
    clear c00 c01 c02 c03 c04 c05 HB hq4
    obtain ⟨B0, hbb⟩ := HK.out _ kk
    have c00 := B0.cell 0
    have c01 := B0.cell 1
    have c02 := B0.cell 2
    have c03 := B0.cell 3
    have c04 := B0.cell 4
    have c05 := B0.cell 5
    have HB := Lib.hid hbb
    clear B0 hbb
    go_wp2_with fail
    go_ret
    exact ⟨ret_int HX.out, HB.out⟩
set_option maxHeartbeats 4000000 in
theorem rjudge_any (A : Option Addr) (n c : Nat) (l : List Fc) (A2 : Option Addr) (m c2 : Nat) (ps : List Ph) (p : Pk) (v : Vd) (y : Int) (w : World) (h : FcR w A n l) (hn : n ≤ 9223372036854775807) (h2 : PsR w A2 m ps) (hm : m ≤ 9223372036854775807) (hy : faultZ l ps.length p = y) (hv : judgeV l ps p = v) : Calls Try.prog 18 #[.slice A n c, .slice A2 m c2, aggK p] w (RetVE w v y) := by
  obtain ⟨kk, hK⟩ := box2K w 27 31 #[.int .i64 p.ride, .int .i64 p.rider, .int .i64 p.tm, .int .i64 p.x, .int .i64 p.y, .int .i64 p.r] #[.int .i64 0, .int .i64 0, .int .i64 0, .int .i64 0]
  have HK := Lib.hid hK
  clear hK
  obtain ⟨B0, B1, hbb⟩ := HK.out _ kk
  have c00 := B0.cell 0
  have c01 := B0.cell 1
  have c02 := B0.cell 2
  have c03 := B0.cell 3
  have c04 := B0.cell 4
  have c05 := B0.cell 5
  have c10 := B1.cell 0
  have c11 := B1.cell 1
  have c12 := B1.cell 2
  have c13 := B1.cell 3
  have HB := Lib.hid hbb
  clear B0 B1 hbb
  have HZA : Hid (∀ u, Below w.heap.size w u → FcR u A n l) := Lib.hid fun u hu => h.below hu
  have HZP : Hid (∀ u, Below w.heap.size w u → PsR u A2 m ps) := Lib.hid fun u hu => h2.below hu
  have HLP : Hid (ps.length = m) := Lib.hid h2.2.2
  have HY : Hid (faultZ l m p = y) := Lib.hid (by rw [← HLP.out]; exact hy)
  clear h h2
  by_cases h0 : y = 0
  case neg =>
    have HV : Hid ((0, 0, 0, 0) = v) := Lib.hid (by rw [← hv]; unfold judgeV; rw [if_neg (by rw [hy]; exact h0)])
    have t0 := ne0_t h0
    clear hy hv h0
    go_enter Try.func18, Try.ntmps18
    go_wp2_with fail
    refine (rpkfault_any A n c l A2 m c2 p y _ (HZA.out _ HB.out) hn hm HY.out).mono ?_
    rintro e w1 ⟨rfl, hb1⟩
    replace kk := below_next kk (Nat.le_refl _) hb1
    clear c00 c01 c02 c03 c04 c05 c10 c11 c12 c13 HB hb1
    obtain ⟨B0, B1, hbb⟩ := HK.out _ kk
    have c00 := B0.cell 0
    have c01 := B0.cell 1
    have c02 := B0.cell 2
    have c03 := B0.cell 3
    have c04 := B0.cell 4
    have c05 := B0.cell 5
    have c10 := B1.cell 0
    have c11 := B1.cell 1
    have c12 := B1.cell 2
    have c13 := B1.cell 3
    have HB := Lib.hid hbb
    clear B0 B1 hbb
    have BV := (HK.out _ kk).2.1
    have q0 := (BV.cell 0).trans rfl; have q1 := (BV.cell 1).trans rfl; have q2 := (BV.cell 2).trans rfl; have q3 := (BV.cell 3).trans rfl
    have fq0 := BV.frozen 0; have fq1 := BV.frozen 1; have fq2 := BV.frozen 2; have fq3 := BV.frozen 3
    clear BV c10 c11 c12 c13
    go_wp2_with fail
    exact bodyPost_ret (v := .tuple #[aggVd (0, 0, 0, 0), .int .i64 y]) (by simp [results, Try.results18, go_sem, q0, q1, q2, q3]) rfl ⟨ret_ve HV.out rfl, by repeat (first | exact HB.out | refine Below.setCell ?_ (show w.heap.size ≤ w.heap.size + 1 by omega) _)⟩
  subst h0
  have HV : Hid (verdict l ps p = v) := Lib.hid (by rw [← hv]; unfold judgeV; rw [if_pos hy])
  obtain ⟨hp, hl, _⟩ := fault_inv hy
  have HP := Lib.hid hp; have HL := Lib.hid hl
  obtain ⟨k, hk⟩ : ∃ k, judgeZ l (countsB ps p) p = k := ⟨_, rfl⟩
  have HKZ := Lib.hid hk
  have HV2 : Hid ((p.ride, p.rider, p.tm, k) = v) := Lib.hid (by rw [← HV.out, ← hk]; rfl)
  clear hy hv hp hl hk
  go_enter Try.func18, Try.ntmps18
  go_wp2_with fail
  refine (rpkfault_any A n c l A2 m c2 p 0 _ (HZA.out _ HB.out) hn hm HY.out).mono ?_
  rintro e w2 ⟨rfl, hb2⟩
  replace kk := below_next kk (Nat.le_refl _) hb2
  clear c00 c01 c02 c03 c04 c05 c10 c11 c12 c13 HB hb2
  obtain ⟨B0, B1, hbb⟩ := HK.out _ kk
  have c00 := B0.cell 0
  have c01 := B0.cell 1
  have c02 := B0.cell 2
  have c03 := B0.cell 3
  have c04 := B0.cell 4
  have c05 := B0.cell 5
  have c10 := B1.cell 0
  have c11 := B1.cell 1
  have c12 := B1.cell 2
  have c13 := B1.cell 3
  have HB := Lib.hid hbb
  clear B0 B1 hbb
  go_wp2_with fail
  have F0 : ∀ z : DFam (DB w2), z.val.cell? ⟨w.heap.size, 0, none⟩ = some (.int .i64 p.ride) := fun z => DB.some_ z c00
  have F1 : ∀ z : DFam (DB w2), z.val.cell? ⟨w.heap.size, 1, none⟩ = some (.int .i64 p.rider) := fun z => DB.some_ z c01
  have F2 : ∀ z : DFam (DB w2), z.val.cell? ⟨w.heap.size, 2, none⟩ = some (.int .i64 p.tm) := fun z => DB.some_ z c02
  have F3 : ∀ z : DFam (DB w2), z.val.cell? ⟨w.heap.size, 3, none⟩ = some (.int .i64 p.x) := fun z => DB.some_ z c03
  have F4 : ∀ z : DFam (DB w2), z.val.cell? ⟨w.heap.size, 4, none⟩ = some (.int .i64 p.y) := fun z => DB.some_ z c04
  have F5 : ∀ z : DFam (DB w2), z.val.cell? ⟨w.heap.size, 5, none⟩ = some (.int .i64 p.r) := fun z => DB.some_ z c05
  clear c00 c01 c02 c03 c04 c05 c10 c11 c12 c13
  refine wp_region_mask [true, true, true, true, true, true, true, true, true, false, false, false, false] 2 (DB w2) (by kernel_rfl) (by kernel_rfl) (DB.drew _) ?_
  simp only [selT, selF, List.take_succ_cons, List.take_zero, List.drop_succ_cons, List.drop_zero]
  repeat (go_big_quiet_step (fail))
  refine wpQuiet_nil (wpEarly_cons ?_)
  clear F0 F1 F2 F3 F4 F5
  go_wp2_with fail
  refine (rkindp_any A n c l A2 m c2 ps p k _ ((HZA.out _ HB.out).below (DB.drew _)) hn ((HZP.out _ HB.out).below (DB.drew _)) hm HP.out HL.out HKZ.out).mono ?_
  rintro e w5 ⟨rfl, hb5⟩
  have hb6 : Below w2.heap.size w2 w5 := ⟨hb5.os, hb5.tape, hb5.output, hb5.size, hb5.block⟩
  have BV := (HK.out _ (below_next kk (Nat.le_refl _) hb6)).2.1
  have HB5 := Lib.hid (below_next HB.out (Nat.le_refl _) hb6)
  have q0 := (BV.cell 0).trans rfl; have q1 := (BV.cell 1).trans rfl; have q2 := (BV.cell 2).trans rfl; have q3 := (BV.cell 3).trans rfl
  have fq0 := BV.frozen 0; have fq1 := BV.frozen 1; have fq2 := BV.frozen 2; have fq3 := BV.frozen 3
  clear BV hb5
  go_wp2_with fail
  refine QN_normal ⟨hb6, wpEarly_cons ?_⟩
  go_wp2_with fail
  refine QN_normal ⟨hb6, wpEarly_nil ?_⟩
  go_wp2_with fail
  exact bodyPost_ret (v := .tuple #[aggVd (p.ride, p.rider, p.tm, k), .int .i64 0]) (by simp [results, Try.results18, go_sem, q0, q1, q2, q3]) rfl ⟨ret_ve HV2.out rfl, by repeat (first | exact HB5.out | refine Below.setCell ?_ (show w.heap.size ≤ w.heap.size + 1 by omega) _)⟩
end Go.Proofs.Ytdgdjlpbnaoheaa
