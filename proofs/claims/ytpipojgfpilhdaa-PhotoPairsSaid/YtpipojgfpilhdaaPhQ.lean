/- The walk of PhotoPairs. -/
import Derived.Test.YtpipojgfpilhdaaPhP
namespace Go.Proofs.Ytpipojgfpilhdaa
open Go.RowKit
set_option maxHeartbeats 8000000 in
set_option maxRecDepth 20000 in
theorem photoPairs_walk (A : Option Addr) (n c : Nat) (l : List Ph) (lim : Int) (w : World) (h : PsR w A n l) (hnc : n ≤ c) (hc : c ≤ maxLen) : Calls Try.prog 10 #[.slice A n c, .int .i64 lim] w (AwakePost w) := by
  have hn' : n ≤ 9223372036854775807 := Nat.le_trans hnc hc
  have HL := Lib.hid h.2.2
  have HPA : Hid (∀ u, Below w.heap.size w u → PsR u A n l) := Lib.hid fun u hu => h.below hu
  obtain ⟨f, hf⟩ : ∃ f, fewF l 20 = f := ⟨_, rfl⟩
  have HF := Lib.hid hf
  have kk := Below.refl w.heap.size w
  clear h hf hc hnc
  rcases f with _ | _
  · go_enter Try.func10, Try.ntmps10
    go_wp2_with fail
    refine (fewF_any A n c l 20 false _ (HPA.out _ kk) hn' HF.out).mono ?_
    rintro e w1 ⟨rfl, hb1⟩
    replace kk := below_next kk (Nat.le_refl _) hb1
    clear hb1
    go_wp2_with fail
    refine (awake_any _).mono ?_
    rintro e w2 ⟨rfl, hb2⟩
    replace kk := below_next kk (Nat.le_refl _) hb2
    clear hb2
    go_wp2_with fail
    go_ret
    exact ⟨rfl, kk⟩
  · obtain ⟨y, hy⟩ : ∃ y, repE l lim = y := ⟨_, rfl⟩
    obtain ⟨xs, hxs⟩ : ∃ xs, repP l lim = xs := ⟨_, rfl⟩
    have hn2 : n ≤ 20 := by have h1 := (fewF_inv HF.out).2; rw [HL.out] at h1; omega
    have HY := Lib.hid hy
    have HXS := Lib.hid hxs
    by_cases hy0 : y = 0
    · subst hy0
      have HE : Hid (allP (nearB l lim) n n = xs) := Lib.hid (by rw [← hxs]; unfold repP; rw [if_pos hy, HL.out])
      clear hy hxs
      go_enter Try.func10, Try.ntmps10
      go_wp2_with fail
      refine (fewF_any A n c l 20 true _ (HPA.out _ kk) hn' HF.out).mono ?_
      rintro e w3 ⟨rfl, hb3⟩
      replace kk := below_next kk (Nat.le_refl _) hb3
      clear hb3
      go_wp2_with fail
      refine (repeats_any A n c l lim 0 xs _ (HPA.out _ kk) hn' HY.out HXS.out).mono ?_
      rintro e wo ⟨A2, n2, c2, rfl, r2, hb2⟩
      have R2 := Lib.hid r2
      have HRL := Lib.hid (rep_len HXS.out r2)
      replace kk := below_next kk (Nat.le_refl _) hb2
      have HBW := Lib.hid kk
      clear r2 hb2
      obtain ⟨i0, hi0, hz0, hz1, hz2⟩ := info_parts infoQ
      have HT0 : Hid (Two wo.heap.size wo wo 47 2 (.slice none 0 0) 0 [] 3 1 (.slice none 0 0) 0 []) := Lib.hid ⟨Below.refl _ _, Nat.le_refl _, World.ownsRow_nil _ _ _ _, World.ownsRow_nil _ _ _ _, fun g h => by simp [Value.ownBlock] at h⟩
      clear kk
      go_wp2_with fail
      go_loopw [7, 8] (fun so si wr => ∃ (i m : Nat) (B : Option Addr) (cc : Nat), i ≤ n ∧ si = .int .i64 i ∧ so = .slice B m cc ∧ m ≤ 64 * i ∧ Two wo.heap.size wo wr 47 2 (.slice B m cc) m (cellsPt (allP (nearB l lim) n i)) 3 1 (.slice none 0 0) 0 []) (fun _ s _ => n - (intOf s).toNat)
      case atStart => exact ⟨0, 0, none, 0, Nat.zero_le _, rfl, rfl, by omega, HT0.out⟩
      case round =>
        obtain ⟨wi, rfl⟩ : ∃ wi : World, wi = wr := ⟨_, rfl⟩
        obtain ⟨i, m, B, cc, hi, rfl, rfl, hm, hT⟩ := hrel
        have HT := Lib.hid hT
        clear hT
        by_cases hli : i < n
        · have hi1 : (i : Int) < n := by omega
          go_wp2_with fail
          go_loopw [7, 9] (fun so sj wr => ∃ (t m : Nat) (B : Option Addr) (cc : Nat), t ≤ n - 1 - i ∧ sj = .int .i64 ((i + 1 + t : Nat) : Int) ∧ so = .slice B m cc ∧ m ≤ 64 * i + t ∧ Two wo.heap.size wo wr 47 2 (.slice B m cc) m (cellsPt (allP (nearB l lim) n i ++ rowP (nearB l lim) i t)) 3 1 (.slice none 0 0) 0 []) (fun _ s _ => n - (intOf s).toNat)
          case atStart => exact ⟨0, m, B, cc, Nat.zero_le _, by simp, rfl, by omega, by show Two _ _ _ _ _ _ _ (cellsPt (_ ++ [])) _ _ _ _ _; rw [List.append_nil]; exact HT.out⟩
          case round =>
            obtain ⟨wj, rfl⟩ : ∃ wj : World, wj = wr := ⟨_, rfl⟩
            obtain ⟨t, m, B, cc, ht, rfl, rfl, hm, hT⟩ := hrel
            have HTj := Lib.hid hT
            have HBJ := Lib.hid (below_next HBW.out (Nat.le_refl _) hT.below)
            obtain ⟨j, hj⟩ : ∃ j, i + 1 + t = j := ⟨_, rfl⟩
            rw [hj]
            by_cases hlj : j < n
            · have hj1 : (j : Int) < n := by omega
              have hj0 : (0 : Int) ≤ j := by omega
              have hi0' : (0 : Int) ≤ i := by omega
              have hil : i < l.length := by have := HL.out; omega
              have hjl : j < l.length := by have := HL.out; omega
              obtain ⟨b, off, rfl, hb, hc⟩ := (HPA.out _ HBJ.out).cells (by omega)
              obtain ⟨d0, d1, d2, d3, d4⟩ := hc i hil
              obtain ⟨x1, hx1⟩ : ∃ x, pcheckZ l[i] = x := ⟨_, rfl⟩
              obtain ⟨x2, hx2⟩ : ∃ x, pcheckZ l[j] = x := ⟨_, rfl⟩
              obtain ⟨m1, hm1⟩ : ∃ x, mk l i = x := ⟨_, rfl⟩
              obtain ⟨m2, hm2⟩ : ∃ x, mk l j = x := ⟨_, rfl⟩
              have HX1 := Lib.hid hx1; have HX2 := Lib.hid hx2
              have HMI : Hid (markN l[i] = m1) := Lib.hid (by rw [← hm1]; unfold mk; rw [phAt_get hil])
              have HMJ : Hid (markN l[j] = m2) := Lib.hid (by rw [← hm2]; unfold mk; rw [phAt_get hjl])
              obtain ⟨a, ha⟩ : ∃ a, (apartN m1 m2 : Int) = a := ⟨_, rfl⟩
              have HAP := Lib.hid ha
              have ha1 : m1 < 18446744073709551616 := by rw [← hm1]; exact mk_lt l i
              have ha2 : m2 < 18446744073709551616 := by rw [← hm2]; exact mk_lt l j
              have HNB : Hid (nearB l lim i j = decide (a ≤ lim)) := Lib.hid (by unfold nearB; rw [hm1, hm2, ha])
              have HJ := Lib.hid hj
              clear hT hj hc hx1 hx2 hm1 hm2 ha
              by_cases hle : a ≤ lim
              · have HR : Hid (cellsPt (allP (nearB l lim) n i ++ rowP (nearB l lim) i (t + 1)) = cellsPt (allP (nearB l lim) n i ++ rowP (nearB l lim) i t) ++ encPt ((i : Int), (j : Int))) := Lib.hid (by
                  rw [rowP_yes (by rw [HJ.out, HNB.out, decide_eq_true hle]), ← List.append_assoc, snocPt, HJ.out])
                go_wp2_with fail
                refine (mark_any l[i] m1 x1 _ ((HPA.out _ HBJ.out).2.1 _ (List.getElem_mem hil)) HMI.out HX1.out).mono ?_
                rintro e w2 ⟨rfl, hb2⟩
                have T := Lib.hid (HTj.out.step hb2)
                have kk := Lib.hid (below_next HBJ.out (Nat.le_refl _) hb2)
                clear d0 d1 d2 d3 d4 hb2
                obtain ⟨b', off', he, _, hc⟩ := (HPA.out _ kk.out).cells (by omega)
                injection he with he; injection he with he1 he2
                subst he1 he2
                obtain ⟨d0, d1, d2, d3, d4⟩ := hc j hjl
                clear hc
                go_wp2_with fail
                refine (mark_any l[j] m2 x2 _ ((HPA.out _ kk.out).2.1 _ (List.getElem_mem hjl)) HMJ.out HX2.out).mono ?_
                rintro e w3 ⟨rfl, hb3⟩
                replace T := Lib.hid (T.out.step hb3)
                clear d0 d1 d2 d3 d4 hb3 kk
                go_wp2_with fail
                refine (apart_b m1 m2 a _ ha1 ha2 HAP.out).mono ?_
                rintro e w4 ⟨rfl, hb4⟩
                replace T := (T.out.step hb4)
                clear hb4
                go_wp2_with (at_builtin; refine wpList_append_any _ rfl (.tmp 67) (.tmp 71) _ rfl _ 47 i0 _ 2 16 Try.underlying36 hi0 hz0 hz1 hz2 rfl (by omega) (.slice B m cc) m _ rfl (T.alloc _).ownX _ _ 1 1 (encPt ((i : Int), (j : Int))) (by rfl) (fr1Q _ ((i : Int), (j : Int))) onePt (by simp only [maxLen]; omega) (by omega) (T.alloc _).base ?_; intro v7 w7 hown7 hg7 hat7; obtain ⟨A7, c7, rfl, hr7⟩ := own_reads hown7; rw [← HR.out] at hown7; have T := (T.alloc _).left hown7 hg7 hat7; clear hown7 hg7 hat7 hr7)
                go_roundw
                case rel => exact ⟨t + 1, m + 1, A7, c7, by have := HJ.out; omega, by have := HJ.out; go_num, rfl, by omega, T⟩
                case measure => simp [intOf]; omega
              · have hle2 : lim < a := by omega
                have HR : Hid (rowP (nearB l lim) i (t + 1) = rowP (nearB l lim) i t) := Lib.hid (rowP_no (by rw [HJ.out, HNB.out, decide_eq_false hle]))
                clear hle
                go_wp2_with fail
                refine (mark_any l[i] m1 x1 _ ((HPA.out _ HBJ.out).2.1 _ (List.getElem_mem hil)) HMI.out HX1.out).mono ?_
                rintro e w2 ⟨rfl, hb2⟩
                have T := Lib.hid (HTj.out.step hb2)
                have kk := Lib.hid (below_next HBJ.out (Nat.le_refl _) hb2)
                clear d0 d1 d2 d3 d4 hb2
                obtain ⟨b', off', he, _, hc⟩ := (HPA.out _ kk.out).cells (by omega)
                injection he with he; injection he with he1 he2
                subst he1 he2
                obtain ⟨d0, d1, d2, d3, d4⟩ := hc j hjl
                clear hc
                go_wp2_with fail
                refine (mark_any l[j] m2 x2 _ ((HPA.out _ kk.out).2.1 _ (List.getElem_mem hjl)) HMJ.out HX2.out).mono ?_
                rintro e w3 ⟨rfl, hb3⟩
                replace T := Lib.hid (T.out.step hb3)
                clear d0 d1 d2 d3 d4 hb3 kk
                go_wp2_with fail
                refine (apart_b m1 m2 a _ ha1 ha2 HAP.out).mono ?_
                rintro e w4 ⟨rfl, hb4⟩
                replace T := (T.out.step hb4)
                clear hb4
                go_wp2_with fail
                go_roundw
                case rel => exact ⟨t + 1, m, B, cc, by have := HJ.out; omega, by have := HJ.out; go_num, rfl, by omega, by rw [HR.out]; exact T⟩
                case measure => simp [intOf]; omega
            · have hte : t = n - 1 - i := by omega
              have HT2 : Hid (Two wo.heap.size wo wj 47 2 (.slice B m cc) m (cellsPt (allP (nearB l lim) n (i + 1))) 3 1 (.slice none 0 0) 0 []) := Lib.hid (by
                show Two _ _ _ _ _ _ _ (cellsPt (allP _ _ _ ++ rowP _ _ (n - 1 - i))) _ _ _ _ _
                rw [← hte]; exact hT)
              have hj2 : ¬ (j : Int) < n := by omega
              clear hT hj hte
              go_wp2_with fail
              go_roundw
              case rel => exact ⟨i + 1, m, B, cc, by omega, by go_num, rfl, by omega, HT2.out⟩
              case measure => simp [intOf]; omega
        · obtain rfl : i = n := by omega
          have HR := Lib.hid (Reads.of_own HT.out.ownX)
          rw [HE.out] at HR
          have HR2 := Lib.hid ((R2.out.below HT.out.below).more HT.out.below.size)
          have kk := below_next HBW.out (Nat.le_refl _) HT.out.below
          have hrl := HRL.out
          go_wp2_with fail
          refine (pairs_any A2 B n2 c2 m cc xs _ HR2.out HR.out hrl).mono ?_
          rintro e w4 ⟨rfl, hb4⟩
          replace kk := below_next kk (Nat.le_refl _) hb4
          clear hb4
          go_wp2_with fail
          refine (awake_any _).mono ?_
          rintro e w5 ⟨rfl, hb5⟩
          replace kk := below_next kk (Nat.le_refl _) hb5
          clear hb5
          go_wp2_with fail
          go_ret
          exact ⟨rfl, kk⟩
    · have HE : Hid (xs = []) := Lib.hid (by rw [← hxs, repP_no hy hy0])
      clear hy hxs
      go_enter Try.func10, Try.ntmps10
      go_wp2_with fail
      refine (fewF_any A n c l 20 true _ (HPA.out _ kk) hn' HF.out).mono ?_
      rintro e w6 ⟨rfl, hb6⟩
      replace kk := below_next kk (Nat.le_refl _) hb6
      clear hb6
      go_wp2_with fail
      refine (repeats_any A n c l lim y xs _ (HPA.out _ kk) hn' HY.out HXS.out).mono ?_
      rintro e w2 ⟨A2, n2, c2, rfl, r2, hb2⟩
      obtain rfl : n2 = 0 := by have := recs_len r2 encPt_len (by omega); rw [HE.out] at this; simpa using this.symm
      replace kk := below_next kk (Nat.le_refl _) hb2
      clear r2 hb2
      go_wp2_with fail
      refine (awake_any _).mono ?_
      rintro e w7 ⟨rfl, hb7⟩
      replace kk := below_next kk (Nat.le_refl _) hb7
      clear hb7
      go_wp2_with fail
      go_ret
      exact ⟨rfl, kk⟩
end Go.Proofs.Ytpipojgfpilhdaa
