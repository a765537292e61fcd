/- The walks of both Checks of fences. -/
import Derived.Test.YtdgdjlpbnaoheaaFcA
namespace Go.Proofs.Ytdgdjlpbnaoheaa
open Go.RowKit
set_option maxHeartbeats 4000000 in
set_option maxRecDepth 10000 in
theorem fcheck_any (A : Option Addr) (n c : Nat) (l : List Fc) (x : Int) (w : World) (h : FcR w A n l) (hn : n ≤ 9223372036854775807) (hx : fcheckZ l = x) : Calls Try.prog 44 #[.slice A n c] w (RetI w x) := by
  have HZ := Lib.hid h; have HX := Lib.hid hx; have HL := Lib.hid h.2.2
  clear h hx
  by_cases hf : 32 < n
  · have HX2 : Hid (8 = x) := Lib.hid (by rw [← HX.out, fcheck_full (by have := HL.out; omega)])
    go_enter Try.func44, Try.ntmps44
    go_wp2_with fail
    go_ret
    exact ⟨ret_int HX2.out, Below.refl _ _⟩
  have hn16 : n ≤ 32 := by omega
  have HN : Hid (fcheckZ l = firstFc l) := Lib.hid (fcheck_few (by have := HL.out; omega))
  clear hf
  go_enter Try.func44, Try.ntmps44
  go_wp2_with fail
  go_loopw [11] (fun s wr => ∃ k : Nat, k ≤ n ∧ s = .int .i64 k ∧ Hid (firstFc (l.drop k) = firstFc l) ∧ Below w.heap.size w wr) (fun s _ => n - (intOf s).toNat)
  case atStart => exact ⟨0, Nat.zero_le _, rfl, Lib.hid rfl, Below.refl _ _⟩
  case round =>
    obtain ⟨k, hk, rfl, HF, hbw⟩ := hrel
    have HBW := Lib.hid hbw
    have HZr := Lib.hid (HZ.out.below hbw)
    clear hbw
    by_cases hlt : k < n
    · have hkl : k < l.length := by have := HL.out; omega
      obtain ⟨b, off, rfl, hb, hc⟩ := HZr.out.cells (by omega)
      obtain ⟨d0, d1, d2, d3, d4, d5⟩ := hc k hkl
      have hk0 : (0 : Int) ≤ k := by omega
      have hk1 : (k : Int) < n := by omega
      have HST := Lib.hid (firstFc_step hkl)
      obtain ⟨f, hz⟩ : ∃ f, l[k] = f := ⟨_, rfl⟩
      rw [hz] at d0 d1 d2 d3 d4 d5 HST
      have HOK : Hid (Reads wr wr.heap.size 2 f.A f.n (cellsPt f.p) ∧ f.n ≤ 9223372036854775807) := Lib.hid (by rw [← hz]; exact HZr.out.2.1 _ (List.getElem_mem hkl))
      obtain ⟨B0, hbb⟩ := box1 wr 61 #[.int .i64 f.k, .slice f.A f.n f.c, .int .i64 f.wf, .int .i64 f.wt, .int .i64 f.hf, .int .i64 f.ht]
      have HB0 := Lib.hid B0; have HBB := Lib.hid hbb
      have HB1 := Lib.hid (below_next HBW.out (Nat.le_refl _) hbb)
      have e0 := (B0.cell 0).trans rfl; have e1 := (B0.cell 1).trans rfl; have e2 := (B0.cell 2).trans rfl; have e3 := (B0.cell 3).trans rfl; have e4 := (B0.cell 4).trans rfl; have e5 := (B0.cell 5).trans rfl
      have hzn := HOK.out.2
      have HBAD : Hid (∀ y, y ≠ 0 → oneFc f = y → y = x) := Lib.hid fun y hy h1 => by
        rw [← HX.out, HN.out, ← HF.out, HST.out, if_pos (by rw [h1]; exact hy), h1]
      have HGOOD : Hid (oneFc f = 0 → firstFc (l.drop (k + 1)) = firstFc l) := Lib.hid fun h1 => by
        rw [← HF.out, HST.out, if_neg (fun e => e h1)]
      clear hc hz B0 hbb
      rcases hv : kindB f.k with _ | _
      · have HX2 := Lib.hid (HBAD.out 14 (by decide) (oneFc_kind hv))
        have HV := Lib.hid hv
        clear hv
        go_wp2_with fail
        refine (kind_any f.k false _ HV.out).mono ?_
        rintro e w1 ⟨rfl, rfl⟩
        go_wp2_with fail
        go_ret
        exact ⟨ret_int HX2.out, HB1.out⟩
      have HV := Lib.hid hv
      clear hv
      obtain ⟨y, hy⟩ : ∃ y, checkZ f.p = y := ⟨_, rfl⟩
      have HY := Lib.hid hy
      have HYC := Lib.hid (hy)
      by_cases h0 : y = 0
      · subst h0
        have HOH := Lib.hid (oneFc_hours HV.out hy)
        clear hy
        obtain ⟨b1, hb1⟩ : ∃ b1, winB (f.wf, f.wt) = b1 := ⟨_, rfl⟩
        have HW := Lib.hid hb1
        have hcs : (b1 = false ∧ hoursZ f = 1) ∨ (b1 = true ∧ f.hf < 0 ∧ hoursZ f = 1) ∨ (b1 = true ∧ 0 ≤ f.hf ∧ f.ht < f.hf ∧ hoursZ f = 1) ∨ (b1 = true ∧ 0 ≤ f.hf ∧ f.hf ≤ f.ht ∧ 86400 < f.ht ∧ hoursZ f = 1) ∨ (b1 = true ∧ 0 ≤ f.hf ∧ f.hf ≤ f.ht ∧ f.ht ≤ 86400 ∧ hoursZ f = 0) := by
          unfold hoursZ
          rw [hb1]
          rcases b1 with _ | _
          · exact .inl ⟨rfl, by simp⟩
          · by_cases g1 : f.hf < 0
            · exact .inr (.inl ⟨rfl, g1, by simp [g1]⟩)
            · by_cases g2 : f.ht < f.hf
              · exact .inr (.inr (.inl ⟨rfl, by omega, g2, by simp [g2]⟩))
              · by_cases g3 : 86400 < f.ht
                · exact .inr (.inr (.inr (.inl ⟨rfl, by omega, by omega, g3, by simp [g3]⟩)))
                · exact .inr (.inr (.inr (.inr ⟨rfl, by omega, by omega, by omega, by simp [g1, g2, g3]⟩)))
        clear hb1
        rcases hcs with ⟨rfl, h1⟩ | ⟨rfl, g1, h1⟩ | ⟨rfl, g1, g2, h1⟩ | ⟨rfl, g1, g2, g3, h1⟩ | ⟨rfl, g1, g2, g3, h1⟩
        · have HX2 := Lib.hid (HBAD.out 1 (by decide) (by rw [HOH.out, h1]))
          clear h1
          go_wp2_with fail
          refine (kind_any f.k true _ HV.out).mono ?_
          rintro e w1 ⟨rfl, rfl⟩
          go_wp2_with fail
          refine (check_any f.A f.n f.c f.p 0 _ ((HOK.out.1.below HBB.out).more HBB.out.size) hzn HYC.out).mono ?_
          rintro e w2 ⟨rfl, hb2⟩
          have HB2 := Lib.hid (below_next HB1.out (Nat.le_refl _) hb2)
          have x0 := HB0.out.ofBelow hb2
          have X0 := Lib.hid x0
          clear hb2 e0 e1 e2 e3 e4 e5
          have e2 := (x0.cell 2).trans rfl; have e3 := (x0.cell 3).trans rfl
          clear x0
          go_wp2_with fail
          refine (win_any (f.wf, f.wt) false _ HW.out).mono ?_
          rintro e w3 ⟨rfl, hb3⟩
          have HB3 := Lib.hid (below_next HB2.out (Nat.le_refl _) hb3)
          have x0 := X0.out.ofBelow hb3
          clear hb3 e2 e3
          have e4 := (x0.cell 4).trans rfl; have e5 := (x0.cell 5).trans rfl
          clear x0
          go_wp2_with fail
          go_ret
          exact ⟨ret_int HX2.out, HB3.out⟩
        · have HX2 := Lib.hid (HBAD.out 1 (by decide) (by rw [HOH.out, h1]))
          clear h1
          go_wp2_with fail
          refine (kind_any f.k true _ HV.out).mono ?_
          rintro e w1 ⟨rfl, rfl⟩
          go_wp2_with fail
          refine (check_any f.A f.n f.c f.p 0 _ ((HOK.out.1.below HBB.out).more HBB.out.size) hzn HYC.out).mono ?_
          rintro e w2 ⟨rfl, hb2⟩
          have HB2 := Lib.hid (below_next HB1.out (Nat.le_refl _) hb2)
          have x0 := HB0.out.ofBelow hb2
          have X0 := Lib.hid x0
          clear hb2 e0 e1 e2 e3 e4 e5
          have e2 := (x0.cell 2).trans rfl; have e3 := (x0.cell 3).trans rfl
          clear x0
          go_wp2_with fail
          refine (win_any (f.wf, f.wt) true _ HW.out).mono ?_
          rintro e w3 ⟨rfl, hb3⟩
          have HB3 := Lib.hid (below_next HB2.out (Nat.le_refl _) hb3)
          have x0 := X0.out.ofBelow hb3
          clear hb3 e2 e3
          have e4 := (x0.cell 4).trans rfl; have e5 := (x0.cell 5).trans rfl
          clear x0
          go_wp2_with fail
          go_ret
          exact ⟨ret_int HX2.out, HB3.out⟩
        · have HX2 := Lib.hid (HBAD.out 1 (by decide) (by rw [HOH.out, h1]))
          clear h1
          go_wp2_with fail
          refine (kind_any f.k true _ HV.out).mono ?_
          rintro e w1 ⟨rfl, rfl⟩
          go_wp2_with fail
          refine (check_any f.A f.n f.c f.p 0 _ ((HOK.out.1.below HBB.out).more HBB.out.size) hzn HYC.out).mono ?_
          rintro e w2 ⟨rfl, hb2⟩
          have HB2 := Lib.hid (below_next HB1.out (Nat.le_refl _) hb2)
          have x0 := HB0.out.ofBelow hb2
          have X0 := Lib.hid x0
          clear hb2 e0 e1 e2 e3 e4 e5
          have e2 := (x0.cell 2).trans rfl; have e3 := (x0.cell 3).trans rfl
          clear x0
          go_wp2_with fail
          refine (win_any (f.wf, f.wt) true _ HW.out).mono ?_
          rintro e w3 ⟨rfl, hb3⟩
          have HB3 := Lib.hid (below_next HB2.out (Nat.le_refl _) hb3)
          have x0 := X0.out.ofBelow hb3
          clear hb3 e2 e3
          have e4 := (x0.cell 4).trans rfl; have e5 := (x0.cell 5).trans rfl
          clear x0
          go_wp2_with fail
          go_ret
          exact ⟨ret_int HX2.out, HB3.out⟩
        · have HX2 := Lib.hid (HBAD.out 1 (by decide) (by rw [HOH.out, h1]))
          clear h1
          go_wp2_with fail
          refine (kind_any f.k true _ HV.out).mono ?_
          rintro e w1 ⟨rfl, rfl⟩
          go_wp2_with fail
          refine (check_any f.A f.n f.c f.p 0 _ ((HOK.out.1.below HBB.out).more HBB.out.size) hzn HYC.out).mono ?_
          rintro e w2 ⟨rfl, hb2⟩
          have HB2 := Lib.hid (below_next HB1.out (Nat.le_refl _) hb2)
          have x0 := HB0.out.ofBelow hb2
          have X0 := Lib.hid x0
          clear hb2 e0 e1 e2 e3 e4 e5
          have e2 := (x0.cell 2).trans rfl; have e3 := (x0.cell 3).trans rfl
          clear x0
          go_wp2_with fail
          refine (win_any (f.wf, f.wt) true _ HW.out).mono ?_
          rintro e w3 ⟨rfl, hb3⟩
          have HB3 := Lib.hid (below_next HB2.out (Nat.le_refl _) hb3)
          have x0 := X0.out.ofBelow hb3
          clear hb3 e2 e3
          have e4 := (x0.cell 4).trans rfl; have e5 := (x0.cell 5).trans rfl
          clear x0
          go_wp2_with fail
          go_ret
          exact ⟨ret_int HX2.out, HB3.out⟩
        · have HF2 := Lib.hid (HGOOD.out (by rw [HOH.out, h1]))
          clear h1
          go_wp2_with fail
          refine (kind_any f.k true _ HV.out).mono ?_
          rintro e w1 ⟨rfl, rfl⟩
          go_wp2_with fail
          refine (check_any f.A f.n f.c f.p 0 _ ((HOK.out.1.below HBB.out).more HBB.out.size) hzn HYC.out).mono ?_
          rintro e w2 ⟨rfl, hb2⟩
          have HB2 := Lib.hid (below_next HB1.out (Nat.le_refl _) hb2)
          have x0 := HB0.out.ofBelow hb2
          have X0 := Lib.hid x0
          clear hb2 e0 e1 e2 e3 e4 e5
          have e2 := (x0.cell 2).trans rfl; have e3 := (x0.cell 3).trans rfl
          clear x0
          go_wp2_with fail
          refine (win_any (f.wf, f.wt) true _ HW.out).mono ?_
          rintro e w3 ⟨rfl, hb3⟩
          have HB3 := Lib.hid (below_next HB2.out (Nat.le_refl _) hb3)
          have x0 := X0.out.ofBelow hb3
          clear hb3 e2 e3
          have e4 := (x0.cell 4).trans rfl; have e5 := (x0.cell 5).trans rfl
          clear x0
          go_wp2_with fail
          go_roundw
          case rel => exact ⟨k + 1, by omega, by go_num, HF2, HB3.out⟩
          case measure => simp [intOf]; omega
      · have HX2 := Lib.hid (HBAD.out y h0 (by rw [oneFc_area HV.out (by rw [hy]; exact h0), hy]))
        have t0 := ne0_t h0
        clear hy h0
        go_wp2_with fail
        refine (kind_any f.k true _ HV.out).mono ?_
        rintro e w1 ⟨rfl, rfl⟩
        go_wp2_with fail
        refine (check_any f.A f.n f.c f.p y _ ((HOK.out.1.below HBB.out).more HBB.out.size) hzn HYC.out).mono ?_
        rintro e w2 ⟨rfl, hb2⟩
        have HB2 := Lib.hid (below_next HB1.out (Nat.le_refl _) hb2)
        clear hb2 e0 e1 e2 e3 e4 e5
        go_wp2_with fail
        go_ret
        exact ⟨ret_int HX2.out, HB2.out⟩
    · have HX2 : Hid (0 = x) := Lib.hid (by rw [← HX.out, HN.out, ← HF.out, firstFc_end (by have := HL.out; omega)])
      go_wp2_with fail
      go_ret
      exact ⟨ret_int HX2.out, HBW.out⟩
set_option maxHeartbeats 4000000 in
set_option maxRecDepth 10000 in
theorem rfcheck_any (A : Option Addr) (n c : Nat) (l : List Fc) (x : Int) (w : World) (h : FcR w A n l) (hn : n ≤ 9223372036854775807) (hx : fcheckZ l = x) : Calls Try.prog 21 #[.slice A n c] w (RetI w x) := by
  have HZ := Lib.hid h; have HX := Lib.hid hx; have HL := Lib.hid h.2.2
  clear h hx
  by_cases hf : 32 < n
  · have HX2 : Hid (8 = x) := Lib.hid (by rw [← HX.out, fcheck_full (by have := HL.out; omega)])
    go_enter Try.func21, Try.ntmps21
    go_wp2_with fail
    go_ret
    exact ⟨ret_int HX2.out, Below.refl _ _⟩
  have hn16 : n ≤ 32 := by omega
  have HN : Hid (fcheckZ l = firstFc l) := Lib.hid (fcheck_few (by have := HL.out; omega))
  clear hf
  go_enter Try.func21, Try.ntmps21
  go_wp2_with fail
  go_loopw [3] (fun s wr => ∃ k : Nat, k ≤ n ∧ s = .int .i64 k ∧ Hid (firstFc (l.drop k) = firstFc l) ∧ Below w.heap.size w wr) (fun s _ => n - (intOf s).toNat)
  case atStart => exact ⟨0, Nat.zero_le _, rfl, Lib.hid rfl, Below.refl _ _⟩
  case round =>
    obtain ⟨k, hk, rfl, HF, hbw⟩ := hrel
    have HBW := Lib.hid hbw
    have HZr := Lib.hid (HZ.out.below hbw)
    clear hbw
    by_cases hlt : k < n
    · have hkl : k < l.length := by have := HL.out; omega
      obtain ⟨b, off, rfl, hb, hc⟩ := HZr.out.cells (by omega)
      obtain ⟨d0, d1, d2, d3, d4, d5⟩ := hc k hkl
      have hk0 : (0 : Int) ≤ k := by omega
      have hk1 : (k : Int) < n := by omega
      have HST := Lib.hid (firstFc_step hkl)
      obtain ⟨f, hz⟩ : ∃ f, l[k] = f := ⟨_, rfl⟩
      rw [hz] at d0 d1 d2 d3 d4 d5 HST
      have HOK : Hid (Reads wr wr.heap.size 2 f.A f.n (cellsPt f.p) ∧ f.n ≤ 9223372036854775807) := Lib.hid (by rw [← hz]; exact HZr.out.2.1 _ (List.getElem_mem hkl))
      obtain ⟨B0, hbb⟩ := box1 wr 61 #[.int .i64 f.k, .slice f.A f.n f.c, .int .i64 f.wf, .int .i64 f.wt, .int .i64 f.hf, .int .i64 f.ht]
      have HB0 := Lib.hid B0; have HBB := Lib.hid hbb
      have HB1 := Lib.hid (below_next HBW.out (Nat.le_refl _) hbb)
      have e0 := (B0.cell 0).trans rfl; have e1 := (B0.cell 1).trans rfl; have e2 := (B0.cell 2).trans rfl; have e3 := (B0.cell 3).trans rfl; have e4 := (B0.cell 4).trans rfl; have e5 := (B0.cell 5).trans rfl
      have hzn := HOK.out.2
      have HBAD : Hid (∀ y, y ≠ 0 → oneFc f = y → y = x) := Lib.hid fun y hy h1 => by
        rw [← HX.out, HN.out, ← HF.out, HST.out, if_pos (by rw [h1]; exact hy), h1]
      have HGOOD : Hid (oneFc f = 0 → firstFc (l.drop (k + 1)) = firstFc l) := Lib.hid fun h1 => by
        rw [← HF.out, HST.out, if_neg (fun e => e h1)]
      clear hc hz B0 hbb
      rcases hv : kindB f.k with _ | _
      · have HX2 := Lib.hid (HBAD.out 14 (by decide) (oneFc_kind hv))
        have HV := Lib.hid hv
        clear hv
        go_wp2_with fail
        refine (rkind_any f.k false _ HV.out).mono ?_
        rintro e w1 ⟨rfl, rfl⟩
        go_wp2_with fail
        go_ret
        exact ⟨ret_int HX2.out, HB1.out⟩
      have HV := Lib.hid hv
      clear hv
      obtain ⟨y, hy⟩ : ∃ y, checkZ f.p = y := ⟨_, rfl⟩
      have HY := Lib.hid hy
      have HYC := Lib.hid (show rcheckZ f.p = y from by rw [← check_eq]; exact hy)
      by_cases h0 : y = 0
      · subst h0
        have HOH := Lib.hid (oneFc_hours HV.out hy)
        clear hy
        obtain ⟨b1, hb1⟩ : ∃ b1, winB (f.wf, f.wt) = b1 := ⟨_, rfl⟩
        have HW := Lib.hid hb1
        have hcs : (b1 = false ∧ hoursZ f = 1) ∨ (b1 = true ∧ f.hf < 0 ∧ hoursZ f = 1) ∨ (b1 = true ∧ 0 ≤ f.hf ∧ f.ht < f.hf ∧ hoursZ f = 1) ∨ (b1 = true ∧ 0 ≤ f.hf ∧ f.hf ≤ f.ht ∧ 86400 < f.ht ∧ hoursZ f = 1) ∨ (b1 = true ∧ 0 ≤ f.hf ∧ f.hf ≤ f.ht ∧ f.ht ≤ 86400 ∧ hoursZ f = 0) := by
          unfold hoursZ
          rw [hb1]
          rcases b1 with _ | _
          · exact .inl ⟨rfl, by simp⟩
          · by_cases g1 : f.hf < 0
            · exact .inr (.inl ⟨rfl, g1, by simp [g1]⟩)
            · by_cases g2 : f.ht < f.hf
              · exact .inr (.inr (.inl ⟨rfl, by omega, g2, by simp [g2]⟩))
              · by_cases g3 : 86400 < f.ht
                · exact .inr (.inr (.inr (.inl ⟨rfl, by omega, by omega, g3, by simp [g3]⟩)))
                · exact .inr (.inr (.inr (.inr ⟨rfl, by omega, by omega, by omega, by simp [g1, g2, g3]⟩)))
        clear hb1
        rcases hcs with ⟨rfl, h1⟩ | ⟨rfl, g1, h1⟩ | ⟨rfl, g1, g2, h1⟩ | ⟨rfl, g1, g2, g3, h1⟩ | ⟨rfl, g1, g2, g3, h1⟩
        · have HX2 := Lib.hid (HBAD.out 1 (by decide) (by rw [HOH.out, h1]))
          clear h1
          go_wp2_with fail
          refine (rkind_any f.k true _ HV.out).mono ?_
          rintro e w1 ⟨rfl, rfl⟩
          go_wp2_with fail
          refine (rcheck_any f.A f.n f.c f.p 0 _ ((HOK.out.1.below HBB.out).more HBB.out.size) hzn HYC.out).mono ?_
          rintro e w2 ⟨rfl, hb2⟩
          have HB2 := Lib.hid (below_next HB1.out (Nat.le_refl _) hb2)
          have x0 := HB0.out.ofBelow hb2
          have X0 := Lib.hid x0
          clear hb2 e0 e1 e2 e3 e4 e5
          have e2 := (x0.cell 2).trans rfl; have e3 := (x0.cell 3).trans rfl
          clear x0
          go_wp2_with fail
          refine (rwin_any (f.wf, f.wt) false _ HW.out).mono ?_
          rintro e w3 ⟨rfl, hb3⟩
          have HB3 := Lib.hid (below_next HB2.out (Nat.le_refl _) hb3)
          have x0 := X0.out.ofBelow hb3
          clear hb3 e2 e3
          have e4 := (x0.cell 4).trans rfl; have e5 := (x0.cell 5).trans rfl
          clear x0
          go_wp2_with fail
          go_ret
          exact ⟨ret_int HX2.out, HB3.out⟩
        · have HX2 := Lib.hid (HBAD.out 1 (by decide) (by rw [HOH.out, h1]))
          clear h1
          go_wp2_with fail
          refine (rkind_any f.k true _ HV.out).mono ?_
          rintro e w1 ⟨rfl, rfl⟩
          go_wp2_with fail
          refine (rcheck_any f.A f.n f.c f.p 0 _ ((HOK.out.1.below HBB.out).more HBB.out.size) hzn HYC.out).mono ?_
          rintro e w2 ⟨rfl, hb2⟩
          have HB2 := Lib.hid (below_next HB1.out (Nat.le_refl _) hb2)
          have x0 := HB0.out.ofBelow hb2
          have X0 := Lib.hid x0
          clear hb2 e0 e1 e2 e3 e4 e5
          have e2 := (x0.cell 2).trans rfl; have e3 := (x0.cell 3).trans rfl
          clear x0
          go_wp2_with fail
          refine (rwin_any (f.wf, f.wt) true _ HW.out).mono ?_
          rintro e w3 ⟨rfl, hb3⟩
          have HB3 := Lib.hid (below_next HB2.out (Nat.le_refl _) hb3)
          have x0 := X0.out.ofBelow hb3
          clear hb3 e2 e3
          have e4 := (x0.cell 4).trans rfl; have e5 := (x0.cell 5).trans rfl
          clear x0
          go_wp2_with fail
          go_ret
          exact ⟨ret_int HX2.out, HB3.out⟩
        · have HX2 := Lib.hid (HBAD.out 1 (by decide) (by rw [HOH.out, h1]))
          clear h1
          go_wp2_with fail
          refine (rkind_any f.k true _ HV.out).mono ?_
          rintro e w1 ⟨rfl, rfl⟩
          go_wp2_with fail
          refine (rcheck_any f.A f.n f.c f.p 0 _ ((HOK.out.1.below HBB.out).more HBB.out.size) hzn HYC.out).mono ?_
          rintro e w2 ⟨rfl, hb2⟩
          have HB2 := Lib.hid (below_next HB1.out (Nat.le_refl _) hb2)
          have x0 := HB0.out.ofBelow hb2
          have X0 := Lib.hid x0
          clear hb2 e0 e1 e2 e3 e4 e5
          have e2 := (x0.cell 2).trans rfl; have e3 := (x0.cell 3).trans rfl
          clear x0
          go_wp2_with fail
          refine (rwin_any (f.wf, f.wt) true _ HW.out).mono ?_
          rintro e w3 ⟨rfl, hb3⟩
          have HB3 := Lib.hid (below_next HB2.out (Nat.le_refl _) hb3)
          have x0 := X0.out.ofBelow hb3
          clear hb3 e2 e3
          have e4 := (x0.cell 4).trans rfl; have e5 := (x0.cell 5).trans rfl
          clear x0
          go_wp2_with fail
          go_ret
          exact ⟨ret_int HX2.out, HB3.out⟩
        · have HX2 := Lib.hid (HBAD.out 1 (by decide) (by rw [HOH.out, h1]))
          clear h1
          go_wp2_with fail
          refine (rkind_any f.k true _ HV.out).mono ?_
          rintro e w1 ⟨rfl, rfl⟩
          go_wp2_with fail
          refine (rcheck_any f.A f.n f.c f.p 0 _ ((HOK.out.1.below HBB.out).more HBB.out.size) hzn HYC.out).mono ?_
          rintro e w2 ⟨rfl, hb2⟩
          have HB2 := Lib.hid (below_next HB1.out (Nat.le_refl _) hb2)
          have x0 := HB0.out.ofBelow hb2
          have X0 := Lib.hid x0
          clear hb2 e0 e1 e2 e3 e4 e5
          have e2 := (x0.cell 2).trans rfl; have e3 := (x0.cell 3).trans rfl
          clear x0
          go_wp2_with fail
          refine (rwin_any (f.wf, f.wt) true _ HW.out).mono ?_
          rintro e w3 ⟨rfl, hb3⟩
          have HB3 := Lib.hid (below_next HB2.out (Nat.le_refl _) hb3)
          have x0 := X0.out.ofBelow hb3
          clear hb3 e2 e3
          have e4 := (x0.cell 4).trans rfl; have e5 := (x0.cell 5).trans rfl
          clear x0
          go_wp2_with fail
          go_ret
          exact ⟨ret_int HX2.out, HB3.out⟩
        · have HF2 := Lib.hid (HGOOD.out (by rw [HOH.out, h1]))
          clear h1
          go_wp2_with fail
          refine (rkind_any f.k true _ HV.out).mono ?_
          rintro e w1 ⟨rfl, rfl⟩
          go_wp2_with fail
          refine (rcheck_any f.A f.n f.c f.p 0 _ ((HOK.out.1.below HBB.out).more HBB.out.size) hzn HYC.out).mono ?_
          rintro e w2 ⟨rfl, hb2⟩
          have HB2 := Lib.hid (below_next HB1.out (Nat.le_refl _) hb2)
          have x0 := HB0.out.ofBelow hb2
          have X0 := Lib.hid x0
          clear hb2 e0 e1 e2 e3 e4 e5
          have e2 := (x0.cell 2).trans rfl; have e3 := (x0.cell 3).trans rfl
          clear x0
          go_wp2_with fail
          refine (rwin_any (f.wf, f.wt) true _ HW.out).mono ?_
          rintro e w3 ⟨rfl, hb3⟩
          have HB3 := Lib.hid (below_next HB2.out (Nat.le_refl _) hb3)
          have x0 := X0.out.ofBelow hb3
          clear hb3 e2 e3
          have e4 := (x0.cell 4).trans rfl; have e5 := (x0.cell 5).trans rfl
          clear x0
          go_wp2_with fail
          go_roundw
          case rel => exact ⟨k + 1, by omega, by go_num, HF2, HB3.out⟩
          case measure => simp [intOf]; omega
      · have HX2 := Lib.hid (HBAD.out y h0 (by rw [oneFc_area HV.out (by rw [hy]; exact h0), hy]))
        have t0 := ne0_t h0
        clear hy h0
        go_wp2_with fail
        refine (rkind_any f.k true _ HV.out).mono ?_
        rintro e w1 ⟨rfl, rfl⟩
        go_wp2_with fail
        refine (rcheck_any f.A f.n f.c f.p y _ ((HOK.out.1.below HBB.out).more HBB.out.size) hzn HYC.out).mono ?_
        rintro e w2 ⟨rfl, hb2⟩
        have HB2 := Lib.hid (below_next HB1.out (Nat.le_refl _) hb2)
        clear hb2 e0 e1 e2 e3 e4 e5
        go_wp2_with fail
        go_ret
        exact ⟨ret_int HX2.out, HB2.out⟩
    · have HX2 : Hid (0 = x) := Lib.hid (by rw [← HX.out, HN.out, ← HF.out, firstFc_end (by have := HL.out; omega)])
      go_wp2_with fail
      go_ret
      exact ⟨ret_int HX2.out, HBW.out⟩
end Go.Proofs.Ytdgdjlpbnaoheaa
