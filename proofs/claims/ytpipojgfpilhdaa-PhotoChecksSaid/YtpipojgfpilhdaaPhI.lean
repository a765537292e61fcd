/- The walk of the reference's Repeats. -/
import Derived.Test.YtpipojgfpilhdaaPhH
namespace Go.Proofs.Ytpipojgfpilhdaa
open Go.RowKit
set_option maxHeartbeats 8000000 in
set_option maxRecDepth 20000 in
theorem rrepeats_any (A : Option Addr) (n c : Nat) (l : List Ph) (lim : Int) (y : Int) (xs : List (Int × Int)) (w : World) (h : PsR w A n l) (hn : n ≤ 9223372036854775807) (hy : repE l lim = y) (hxs : repP l lim = xs) : Calls Try.prog 24 #[.slice A n c, .int .i64 lim] w (RetSE w 2 (cellsPt xs) y) := by
  have HL := Lib.hid h.2.2
  have HPA : Hid (∀ u, Below w.heap.size w u → PsR u A n l) := Lib.hid fun u hu => h.below hu
  have HY := Lib.hid hy; have HXS := Lib.hid hxs
  clear h hy hxs
  by_cases hbig : 64 < n
  · have hb1 : (64 : Int) < n := by omega
    have HY2 : Hid (8 = y) := Lib.hid (by rw [← HY.out, repE_full (by have := HL.out; omega)])
    have HE : Hid ([] = cellsPt xs) := Lib.hid (by rw [← HXS.out, repP_no HY.out (by rw [← HY2.out]; decide)]; rfl)
    go_enter Try.func24, Try.ntmps24
    go_wp2_with fail
    go_ret2
    exact retSE Reads.none_ HE.out HY2.out (Below.refl _ _)
  have hb1 : (n : Int) ≤ 64 := by omega
  have hn64 : n ≤ 64 := by omega
  have hmk := madeMarks n hn64
  have HA0 : Hid (Below w.heap.size w (w.alloc (.cells (arrU n fun _ => 0) 28))) := Lib.hid ((Below.refl _ _).alloc (Nat.le_refl _) _)
  have HG0 : Hid (Blk (w.alloc (.cells (arrU n fun _ => 0) 28)) w.heap.size 28 (arrU n (upTo l 0))) := Lib.hid (by
    have := Blk.new w 28 (arrU n fun _ => 0)
    rwa [show upTo l 0 = fun _ => 0 from funext fun i => if_neg (Nat.not_lt_zero i)])
  go_enter Try.func24, Try.ntmps24
  go_wp2_with fail
  clear hmk
  obtain ⟨v0, hv0⟩ : ∃ v, w.alloc (.cells (arrU n fun _ => 0) 28) = v := ⟨_, rfl⟩
  rw [hv0] at HA0 HG0 ⊢
  obtain ⟨g, hg⟩ : ∃ g, w.heap.size = g := ⟨_, rfl⟩
  have HGG := Lib.hid hg
  rw [hg]
  clear hg hv0
  go_loopw [7] (fun s wr => ∃ k : Nat, k ≤ n ∧ s = .int .i64 k ∧ Hid (∀ j (hj : j < l.length), j < k → pcheckZ l[j] = 0) ∧ Only (fun b => b = g) v0 wr ∧ Blk wr g 28 (arrU n (upTo l k))) (fun s _ => n - (intOf s).toNat)
  case atStart => exact ⟨0, Nat.zero_le _, rfl, Lib.hid (fun _ _ h => absurd h (Nat.not_lt_zero _)), Only.refl _ _, by rw [← HGG.out]; exact HG0.out⟩
  case round =>
    obtain ⟨wo, rfl⟩ : ∃ wo : World, wo = wr := ⟨_, rfl⟩
    obtain ⟨k, hk, rfl, HOK, hO, hB⟩ := hrel
    have HO := Lib.hid hO; have HB := Lib.hid hB
    have HBW := Lib.hid (HA0.out.trans (hO.below (B := w.heap.size) (fun k _ e => by rw [e]; exact Nat.le_of_eq HGG.out) HA0.out.size))
    have HPr := Lib.hid (HPA.out _ HBW.out)
    clear hO hB
    by_cases hlt : k < n
    · have hkl : k < l.length := by have := HL.out; omega
      obtain ⟨b, off, rfl, hb, hc⟩ := HPr.out.cells (by omega)
      obtain ⟨d0, d1, d2, d3, d4⟩ := hc k hkl
      have hk0 : (0 : Int) ≤ k := by omega
      have hk1 : (k : Int) < n := by omega
      obtain ⟨x, hx⟩ : ∃ x, pcheckZ l[k] = x := ⟨_, rfl⟩
      have HX := Lib.hid hx
      have HPK := Lib.hid (HPr.out.2.1 l[k] (List.getElem_mem hkl))
      have HMK : Hid (markN l[k] = mk l k) := Lib.hid (by unfold mk; rw [phAt_get hkl])
      clear hc
      by_cases h0 : x = 0
      · subst h0
        have HOK2 : Hid (∀ j (hj : j < l.length), j < k + 1 → pcheckZ l[j] = 0) := Lib.hid fun j hj hjk => by
          rcases Nat.lt_or_ge j k with h1 | h1
          · exact HOK.out j hj h1
          · have : j = k := by omega
            subst this; exact HX.out
        clear hx
        go_wp2_with fail
        refine (rmark_any l[k] (mk l k) 0 _ HPK.out HMK.out HX.out).mono ?_
        rintro e w2 ⟨rfl, hb2⟩
        have hO2 : Only (fun b => b = g) v0 w2 := HO.out.trans (Only.of_new hb2 (fun _ => False)) (fun _ _ e => e.elim)
        have hB2 : Blk w2 g 28 (arrU n (upTo l k)) := HB.out.below hb2 HB.out.lt
        have q0 : w2.cell? ⟨g, k, none⟩ = some (.int .u64 (upTo l k k : Nat)) := (hB2.cell _).trans (arrU_get _ hlt)
        have z0 := hB2.frozen k
        have HO3 : Hid (Only (fun b => b = g) v0 (w2.setCell ⟨g, k, none⟩ (.int .u64 (mk l k : Int)))) := Lib.hid (hO2.setCell (p := ⟨g, k, none⟩) (fun _ => rfl) _)
        have HB3 : Hid (Blk (w2.setCell ⟨g, k, none⟩ (.int .u64 (mk l k : Int))) g 28 (arrU n (upTo l (k + 1)))) := Lib.hid (by
          have := hB2.set_ k (.int .u64 (mk l k : Int))
          rwa [arrU_set, upTo_step] at this)
        clear hO2 hB2 hb2 d0 d1 d2 d3 d4
        go_wp2_with fail
        go_roundw
        case rel => exact ⟨k + 1, by omega, by go_num, HOK2, HO3.out, HB3.out⟩
        case measure => simp [intOf]; omega
      · have HY2 : Hid (x = y) := Lib.hid (by
          have := firstPE_bad hkl (by rw [hx]; exact h0) fun j hj hjk => HOK.out j hj hjk
          rw [← HY.out, repE_first (by have := HL.out; omega) (by rw [this, hx]; exact h0), this, hx])
        have HE : Hid ([] = cellsPt xs) := Lib.hid (by rw [← HXS.out, repP_no HY.out (by rw [← HY2.out]; exact h0)]; rfl)
        have t0 := ne0_t h0
        clear hx h0
        go_wp2_with fail
        refine (rmark_any l[k] (mk l k) x _ HPK.out HMK.out HX.out).mono ?_
        rintro e w2 ⟨rfl, hb2⟩
        have HBE : Hid (Below w.heap.size w w2) := Lib.hid (below_next HBW.out (Nat.le_refl _) hb2)
        clear hb2 d0 d1 d2 d3 d4
        go_wp2_with fail
        go_ret2
        exact retSE Reads.none_ HE.out HY2.out HBE.out
    · obtain rfl : k = n := by omega
      have HF0 : Hid (firstPE l = 0) := Lib.hid (firstPE_ok fun j hj => HOK.out j hj (by have := HL.out; omega))
      by_cases hlim : lim < 0 ∨ 64 < lim
      · have HY2 : Hid (1 = y) := Lib.hid (by rw [← HY.out, repE_lim (by have := HL.out; omega) HF0.out hlim])
        have HE : Hid ([] = cellsPt xs) := Lib.hid (by rw [← HXS.out, repP_no HY.out (by rw [← HY2.out]; decide)]; rfl)
        have hcs : lim < 0 ∨ (0 ≤ lim ∧ 64 < lim) := by omega
        clear hlim
        rcases hcs with g1 | ⟨g1, g2⟩
        all_goals
          go_wp2_with fail
          go_ret2
          exact retSE Reads.none_ HE.out HY2.out HBW.out
      · have hl1 : 0 ≤ lim := by omega
        have hl2 : lim ≤ 64 := by omega
        have HY2 : Hid (0 = y) := Lib.hid (by rw [← HY.out, repE_ok (by have := HL.out; omega) HF0.out hlim])
        have HE : Hid (allP (nearB l lim) k k = xs) := Lib.hid (by rw [← HXS.out]; unfold repP; rw [if_pos (by rw [HY.out, HY2.out]), HL.out])
        obtain ⟨i0, hi0, hz0, hz1, hz2⟩ := info_parts infoQ
        have HM : Hid (∀ j, j < k → wo.cell? ⟨g, j, none⟩ = some (.int .u64 (mk l j : Int))) := Lib.hid fun j hj => (HB.out.cell _).trans (by rw [arrU_get _ hj]; unfold upTo; rw [if_pos hj])
        have hgo : g < wo.heap.size := HB.out.lt
        have HT0 : Hid (Two wo.heap.size wo wo 47 2 (.slice none 0 0) 0 [] 3 1 (.slice none 0 0) 0 []) := Lib.hid ⟨Below.refl _ _, Nat.le_refl _, World.ownsRow_nil _ _ _ _, World.ownsRow_nil _ _ _ _, fun g h => by simp [Value.ownBlock] at h⟩
        clear hlim
        go_wp2_with fail
        go_loopw [10, 11] (fun so si wr => ∃ (i m : Nat) (B : Option Addr) (cc : Nat), i ≤ k ∧ si = .int .i64 i ∧ so = .slice B m cc ∧ m ≤ 64 * i ∧ Two wo.heap.size wo wr 47 2 (.slice B m cc) m (cellsPt (allP (nearB l lim) k i)) 3 1 (.slice none 0 0) 0 []) (fun _ s _ => k - (intOf s).toNat)
        case atStart => exact ⟨0, 0, none, 0, Nat.zero_le _, rfl, rfl, by omega, HT0.out⟩
        case round =>
          obtain ⟨wi, rfl⟩ : ∃ wi : World, wi = wr := ⟨_, rfl⟩
          obtain ⟨i, m, B, cc, hi, rfl, rfl, hm, hT⟩ := hrel
          have HT := Lib.hid hT
          clear hT
          by_cases hli : i < k
          · have hi1 : (i : Int) < k := by omega
            go_wp2_with fail
            go_loopw [10, 12] (fun so sj wr => ∃ (t m : Nat) (B : Option Addr) (cc : Nat), t ≤ k - 1 - i ∧ sj = .int .i64 ((i + 1 + t : Nat) : Int) ∧ so = .slice B m cc ∧ m ≤ 64 * i + t ∧ Two wo.heap.size wo wr 47 2 (.slice B m cc) m (cellsPt (allP (nearB l lim) k i ++ rowP (nearB l lim) i t)) 3 1 (.slice none 0 0) 0 []) (fun _ s _ => k - (intOf s).toNat)
            case atStart => exact ⟨0, m, B, cc, Nat.zero_le _, by simp, rfl, by omega, by show Two _ _ _ _ _ _ _ (cellsPt (_ ++ [])) _ _ _ _ _; rw [List.append_nil]; exact HT.out⟩
            case round =>
              obtain ⟨wj, rfl⟩ : ∃ wj : World, wj = wr := ⟨_, rfl⟩
              obtain ⟨t, m, B, cc, ht, rfl, rfl, hm, hT⟩ := hrel
              have HTj := Lib.hid hT
              have hbj := hT.below
              obtain ⟨j, hj⟩ : ∃ j, i + 1 + t = j := ⟨_, rfl⟩
              rw [hj]
              by_cases hlj : j < k
              · have hj1 : (j : Int) < k := by omega
                have hj0 : (0 : Int) ≤ j := by omega
                have hi0' : (0 : Int) ≤ i := by omega
                have e1 := (hbj.cell (p := ⟨g, i, none⟩) hgo).trans (HM.out i hli)
                have e2 := (hbj.cell (p := ⟨g, j, none⟩) hgo).trans (HM.out j hlj)
                have F1 : ∀ z : Fam wj, z.val.cell? ⟨g, i, none⟩ = some (.int .u64 (mk l i : Int)) := fun z => z.some_ e1
                have F2 : ∀ z : Fam wj, z.val.cell? ⟨g, j, none⟩ = some (.int .u64 (mk l j : Int)) := fun z => z.some_ e2
                obtain ⟨a, ha⟩ : ∃ a, (apartN (mk l i) (mk l j) : Int) = a := ⟨_, rfl⟩
                have HAP := Lib.hid ha
                have ha1 := mk_lt l i; have ha2 := mk_lt l j
                have HJ := Lib.hid hj
                clear hT hbj e1 e2 hj
                by_cases hle : a ≤ lim
                · have HR : Hid (cellsPt (allP (nearB l lim) k i ++ rowP (nearB l lim) i (t + 1)) = cellsPt (allP (nearB l lim) k i ++ rowP (nearB l lim) i t) ++ encPt ((i : Int), (j : Int))) := Lib.hid (by
                    rw [rowP_yes (by rw [HJ.out]; unfold nearB; rw [ha, decide_eq_true hle]), ← List.append_assoc, snocPt, HJ.out])
                  clear ha
                  go_wp2_with fail
                  refine wp_region_fam (by kernel_rfl) (by kernel_rfl) ?_
                  repeat (go_big_quiet_step ((go_at_call 22; exact fam_call (rapart_b (mk l i) (mk l j) a _ HAP.out))))
                  refine wpQuiet_nil ?_
                  rintro _ ⟨z1, rfl⟩
                  clear F1 F2
                  have T := (HTj.out.step z1.prop)
                  go_wp2_with (at_builtin; refine wpList_append_any _ rfl (.tmp 71) (.tmp 75) _ rfl _ 47 i0 _ 2 16 Try.underlying36 hi0 hz0 hz1 hz2 rfl (by omega) (.slice B m cc) m _ rfl (T.alloc _).ownX _ _ 1 1 (encPt ((i : Int), (j : Int))) (by rfl) (fr1Q _ ((i : Int), (j : Int))) onePt (by simp only [maxLen]; omega) (by omega) (T.alloc _).base ?_; intro v7 w7 hown7 hg7 hat7; obtain ⟨A7, c7, rfl, hr7⟩ := own_reads hown7; rw [← HR.out] at hown7; have T := (T.alloc _).left hown7 hg7 hat7; clear hown7 hg7 hat7 hr7)
                  go_roundw
                  case rel => exact ⟨t + 1, m + 1, A7, c7, by have := HJ.out; omega, by have := HJ.out; go_num, rfl, by omega, T⟩
                  case measure => simp [intOf]; omega
                · have hle2 : lim < a := by omega
                  have HR : Hid (rowP (nearB l lim) i (t + 1) = rowP (nearB l lim) i t) := Lib.hid (rowP_no (by rw [HJ.out]; unfold nearB; rw [ha, decide_eq_false hle]))
                  clear ha hle
                  go_wp2_with fail
                  refine wp_region_fam (by kernel_rfl) (by kernel_rfl) ?_
                  repeat (go_big_quiet_step ((go_at_call 22; exact fam_call (rapart_b (mk l i) (mk l j) a _ HAP.out))))
                  refine wpQuiet_nil ?_
                  rintro _ ⟨z1, rfl⟩
                  clear F1 F2
                  have T := (HTj.out.step z1.prop)
                  go_wp2_with fail
                  go_roundw
                  case rel => exact ⟨t + 1, m, B, cc, by have := HJ.out; omega, by have := HJ.out; go_num, rfl, by omega, by rw [HR.out]; exact T⟩
                  case measure => simp [intOf]; omega
              · have hte : t = k - 1 - i := by omega
                have HT2 : Hid (Two wo.heap.size wo wj 47 2 (.slice B m cc) m (cellsPt (allP (nearB l lim) k (i + 1))) 3 1 (.slice none 0 0) 0 []) := Lib.hid (by
                  show Two _ _ _ _ _ _ _ (cellsPt (allP _ _ _ ++ rowP _ _ (k - 1 - i))) _ _ _ _ _
                  rw [← hte]; exact hT)
                have hj2 : ¬ (j : Int) < k := by omega
                clear hT hbj hj hte
                go_wp2_with fail
                go_roundw
                case rel => exact ⟨i + 1, m, B, cc, by omega, by go_num, rfl, by omega, HT2.out⟩
                case measure => simp [intOf]; omega
          · obtain rfl : i = k := by omega
            have HR := Lib.hid (Reads.of_own HT.out.ownX)
            rw [HE.out] at HR
            have HBF := Lib.hid (below_next HBW.out (Nat.le_refl _) HT.out.below)
            go_wp2_with fail
            go_ret2
            exact retSE HR.out rfl HY2.out HBF.out
end Go.Proofs.Ytpipojgfpilhdaa
