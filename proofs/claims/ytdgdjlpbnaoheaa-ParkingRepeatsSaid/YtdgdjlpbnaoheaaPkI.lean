/- The verdicts about several bicycles: the reference's walks. -/
import Derived.Test.YtdgdjlpbnaoheaaPkH
namespace Go.Proofs.Ytdgdjlpbnaoheaa
open Go.RowKit
theorem fault_less {l : List Fc} {m m' : Nat} {p : Pk} (h : faultZ l m p = 0) (hm : m' ≤ m) : faultZ l m' p = 0 := by
  obtain ⟨h1, h2, h3⟩ := fault_inv h
  exact fault_ok (pkZ_0 h1) h2 (by omega)
theorem origL_len (ps : List Ph) : (origL ps).length ≤ ps.length := origT_len ps ps.length
theorem dup_at {q : List Pk} {i j : Nat} (hi : i < q.length) (hj : j < i) (h : (q[j]'(by omega)).ride = q[i].ride) : dupT q (i + 1) = true := by
  rw [dupT_step hi, Bool.or_eq_true]
  right
  rw [List.any_eq_true]
  exact ⟨q[j], List.mem_take_iff_getElem.2 ⟨j, by omega, rfl⟩, decide_eq_true h⟩
theorem dup_no {q : List Pk} {i : Nat} (hi : i < q.length) (h0 : dupT q i = false) (h : ∀ j (hj : j < q.length), j < i → q[j].ride ≠ q[i].ride) : dupT q (i + 1) = false := by
  rw [dupT_step hi, h0, Bool.false_or, List.any_eq_false]
  intro x hx
  obtain ⟨j, hj, rfl⟩ := List.mem_take_iff_getElem.1 hx
  simpa using h j (by omega) (by omega)
theorem frVd2 (u : World) (o : Obj) (v : Vd) : Reads ((u.alloc o).alloc (.cells #[.int .i64 v.1, .int .i64 v.2.1, .int .i64 v.2.2.1, .int .i64 v.2.2.2] 31)) (u.heap.size + 1 + 1) 4 (some ⟨u.heap.size + 1, 0, none⟩) 1 (encVd v) := by simpa [encVd] using Reads.fresh2 u o 31 #[.int .i64 v.1, .int .i64 v.2.1, .int .i64 v.2.2.1, .int .i64 v.2.2.2] 4 rfl
set_option maxHeartbeats 8000000 in
set_option maxRecDepth 10000 in
theorem rall_any (A : Option Addr) (n c : Nat) (l : List Fc) (A2 : Option Addr) (m c2 : Nat) (ps : List Ph) (A3 : Option Addr) (k c3 : Nat) (q : List Pk) (y : Int) (xs : List Vd) (w : World) (h : FcR w A n l) (hn : n ≤ 9223372036854775807) (h2 : PsR w A2 m ps) (hm : m ≤ 9223372036854775807) (h3 : parkedR w A3 k q) (hk : k ≤ 9223372036854775807) (hy : allE l ps.length q = y) (hxs : allV l ps q = xs) : Calls Try.prog 19 #[.slice A n c, .slice A2 m c2, .slice A3 k c3] w (RetVs w xs y) := by
  obtain ⟨i1, hi1, hy0, hy1, hy2⟩ := info_parts infoVd
  have HZA : Hid (∀ u, Below w.heap.size w u → FcR u A n l) := Lib.hid fun u hu => h.below hu
  have HZP : Hid (∀ u, Below w.heap.size w u → PsR u A2 m ps) := Lib.hid fun u hu => h2.below hu
  have HZK : Hid (∀ u, Below w.heap.size w u → parkedR u A3 k q) := Lib.hid fun u hu => h3.below hu
  have HLP : Hid (ps.length = m) := Lib.hid h2.2.2
  have HL : Hid (q.length = k) := Lib.hid h3.2
  have HY := Lib.hid hy; have HXS := Lib.hid hxs
  clear h h2 h3 hy hxs
  by_cases hbig : 256 < k
  · have hb1 : (256 : Int) < k := by omega
    have HY2 : Hid (8 = y) := Lib.hid (by rw [← HY.out, allE_full (by have := HL.out; omega)])
    have HE : Hid ([] = xs) := Lib.hid (by rw [← HXS.out, allV_no HY.out (by rw [← HY2.out]; decide)])
    go_enter Try.func19, Try.ntmps19
    go_wp2_with fail
    go_ret2
    exact retVs Reads.none_ rfl HE.out HY2.out (Below.refl _ _)
  have hb1 : (k : Int) ≤ 256 := by omega
  have HNB : Hid (¬ 256 < q.length) := Lib.hid (by have := HL.out; omega)
  have hk256 : k ≤ 256 := by omega
  clear hbig
  go_enter Try.func19, Try.ntmps19
  go_wp2_with fail
  go_loopw [8] (fun s wr => ∃ i : Nat, i ≤ k ∧ s = .int .i64 i ∧ Hid (∀ j (hj : j < q.length), j < i → faultZ l ps.length q[j] = 0) ∧ Below w.heap.size w wr) (fun s _ => k - (intOf s).toNat)
  case atStart => exact ⟨0, Nat.zero_le _, rfl, Lib.hid (fun _ _ h => absurd h (Nat.not_lt_zero _)), Below.refl _ _⟩
  case round =>
    obtain ⟨wo, rfl⟩ : ∃ wo : World, wo = wr := ⟨_, rfl⟩
    obtain ⟨i, hi, rfl, HA, hbw⟩ := hrel
    have HBW := Lib.hid hbw
    have HZr := Lib.hid (HZK.out _ hbw)
    clear hbw
    by_cases hlt : i < k
    · have hkl : i < q.length := by have := HL.out; omega
      obtain ⟨b, off, rfl, hb, hc⟩ := HZr.out.cells (by omega)
      obtain ⟨d0, d1, d2, d3, d4, d5⟩ := hc i hkl
      have hk0 : (0 : Int) ≤ i := by omega
      have hk1 : (i : Int) < k := by omega
      clear hc
      obtain ⟨p, hz⟩ : ∃ p, q[i] = p := ⟨_, rfl⟩
      rw [hz] at d0 d1 d2 d3 d4 d5
      have HPZ := Lib.hid hz
      clear hz
      obtain ⟨f, hf⟩ : ∃ f, faultZ l ps.length p = f := ⟨_, rfl⟩
      have HF := Lib.hid hf
      have HF2 : Hid (faultZ l m p = f) := Lib.hid (by rw [← HLP.out]; exact hf)
      clear hf
      by_cases h0 : f = 0
      · subst h0
        have HA2 : Hid (∀ j (hj : j < q.length), j < i + 1 → faultZ l ps.length q[j] = 0) := Lib.hid (fun j hj hjk => by
          rcases Nat.lt_or_eq_of_le (Nat.lt_succ_iff.1 hjk) with h' | rfl
          · exact HA.out j hj h'
          · rw [HPZ.out]; exact HF.out)
        go_wp2_with fail
        refine (rpkfault_any A n c l A2 m c2 p 0 _ (HZA.out _ HBW.out) hn hm HF2.out).mono ?_
        rintro e w2 ⟨rfl, hb2⟩
        have HB2 := Lib.hid (below_next HBW.out (Nat.le_refl _) hb2)
        clear hb2 d0 d1 d2 d3 d4 d5
        go_wp2_with fail
        go_roundw
        case rel => exact ⟨i + 1, by omega, by go_num, HA2, HB2.out⟩
        case measure => simp [intOf]; omega
      · have HY2 : Hid (f = y) := Lib.hid (by
          have := ff_bad hkl (by rw [HPZ.out, HF.out]; exact h0) fun j hj hjk => HA.out j hj hjk
          rw [HPZ.out, HF.out] at this
          rw [← HY.out, allE_bad HNB.out (by rw [this]; exact h0), this])
        have HE : Hid ([] = xs) := Lib.hid (by rw [← HXS.out, allV_no HY.out (by rw [← HY2.out]; exact h0)])
        have t0 := ne0_t h0
        clear h0
        go_wp2_with fail
        refine (rpkfault_any A n c l A2 m c2 p f _ (HZA.out _ HBW.out) hn hm HF2.out).mono ?_
        rintro e w2 ⟨rfl, hb2⟩
        have HB2 := Lib.hid (below_next HBW.out (Nat.le_refl _) hb2)
        clear hb2 d0 d1 d2 d3 d4 d5
        go_wp2_with fail
        go_ret2
        exact retVs Reads.none_ rfl HE.out HY2.out HB2.out
    · have hik : i = k := by omega
      have HF0 : Hid (∀ j (hj : j < q.length), faultZ l ps.length q[j] = 0) := Lib.hid fun j hj => HA.out j hj (by have := HL.out; omega)
      have HFF : Hid (firstFault l ps.length q = 0) := Lib.hid (ff_ok HF0.out)
      have hik2 : (k : Int) ≤ i := by omega
      clear HA hlt hik
      by_cases hk0 : k = 0
      · have hq : q = [] := List.eq_nil_of_length_eq_zero (by rw [HL.out, hk0])
        have HY2 : Hid (0 = y) := Lib.hid (by rw [← HY.out, allE_ok HNB.out HFF.out (by rw [hq]; rfl)])
        have HE : Hid ([] = xs) := Lib.hid (by rw [← HXS.out, allV_ok (by rw [HY.out, HY2.out]), hq]; rfl)
        have z1 : (k == 0) = true := by simp [hk0]
        have z2 : ((k : Int) == 0) = true := by simp [hk0]
        have z3 : decide (k = 0) = true := by simp [hk0]
        clear hk0 hq
        go_wp2_with fail
        go_ret2
        exact retVs Reads.none_ rfl HE.out HY2.out HBW.out
      · have z1 : (k == 0) = false := by simp [hk0]
        have z2 : ((k : Int) == 0) = false := by simp; omega
        have z3 : decide (k = 0) = false := by simp [hk0]
        have hq0 : 0 < q.length := by have := HL.out; omega
        have hm64 := (fault_inv (HF0.out 0 hq0)).2.2
        have hm64' : m ≤ 64 := by have := HLP.out; omega
        clear hm64 hk0
        go_wp2_with fail
        refine (first_any A2 m c2 ps _ (HZP.out _ HBW.out) hm64').mono ?_
        rintro e w3 ⟨A5, n5, c5, rfl, hps5, hb5⟩
        have hn5 : n5 ≤ 9223372036854775807 := by
          have := hps5.2.2
          have := origL_len ps
          have := HLP.out
          omega
        have HP5 := Lib.hid hps5
        have HB5 := Lib.hid (below_next HBW.out (Nat.le_refl _) hb5)
        have HT0 : Hid (Two w3.heap.size w3 w3 31 4 (.slice none 0 0) 0 [] 3 1 (.slice none 0 0) 0 []) := Lib.hid ⟨Below.refl _ _, Nat.le_refl _, World.ownsRow_nil _ _ _ _, World.ownsRow_nil _ _ _ _, fun g h => by simp [Value.ownBlock] at h⟩
        clear hps5 hb5 HBW HZr
        go_wp2_with fail
        go_loopw [10, 12] (fun so s wr => ∃ (j : Nat) (B : Option Addr) (cc : Nat), j ≤ k ∧ so = .slice B j cc ∧ s = .int .i64 j ∧ Hid (dupT q j = false) ∧ Two w3.heap.size w3 wr 31 4 (.slice B j cc) j (cellsVd ((q.take j).map (verdict l (origL ps)))) 3 1 (.slice none 0 0) 0 []) (fun _ s _ => k - (intOf s).toNat)
        case atStart => exact ⟨0, none, 0, Nat.zero_le _, rfl, rfl, Lib.hid rfl, HT0.out⟩
        case round =>
          obtain ⟨wv, rfl⟩ : ∃ wv : World, wv = wr := ⟨_, rfl⟩
          obtain ⟨j, B, cc, hj, rfl, rfl, HD, hT⟩ := hrel
          have HT := Lib.hid hT
          have HBV := Lib.hid (below_next HB5.out (Nat.le_refl _) hT.below)
          have HZr := Lib.hid (HZK.out _ HBV.out)
          clear hT
          by_cases hlt : j < k
          · have hkl : j < q.length := by have := HL.out; omega
            obtain ⟨b, off, rfl, hb, hc⟩ := HZr.out.cells (by omega)
            have hd := hc j hkl
            have HC := Lib.hid hc
            have hj0 : (0 : Int) ≤ j := by omega
            have hj1 : (j : Int) < k := by omega
            have HTK : Hid ((q.take (j + 1)).map (verdict l (origL ps)) = (q.take j).map (verdict l (origL ps)) ++ [verdict l (origL ps) q[j]]) := Lib.hid (by rw [List.take_succ_eq_append_getElem hkl, List.map_append]; rfl)
            clear hc
            obtain ⟨p, hz⟩ : ∃ p, q[j] = p := ⟨_, rfl⟩
            have HPF : Hid (faultZ l ps.length p = 0) := Lib.hid (by rw [← hz]; exact HF0.out j hkl)
            rw [hz] at hd HTK
            have HPZ := Lib.hid hz
            have HDJ := Lib.hid hd
            clear hz hd
            go_wp2_with fail
            go_loopw [13] (fun s wr => ∃ t : Nat, t ≤ j ∧ s = .int .i64 t ∧ Hid (∀ z (hz : z < q.length), z < t → q[z].ride ≠ p.ride) ∧ Below wv.heap.size wv wr) (fun s _ => k - (intOf s).toNat)
            case atStart => exact ⟨0, Nat.zero_le _, rfl, Lib.hid (fun _ _ h => absurd h (Nat.not_lt_zero _)), Below.refl _ _⟩
            case round =>
              obtain ⟨wi, rfl⟩ : ∃ wi : World, wi = wr := ⟨_, rfl⟩
              obtain ⟨t, ht, rfl, HN, hbi⟩ := hrel
              have HBI := Lib.hid hbi
              clear hbi
              by_cases hlt2 : t < j
              · have htl : t < q.length := by omega
                have hdt := HC.out t htl
                have ht0 : (0 : Int) ≤ t := by omega
                have ht1 : (t : Int) < j := by omega
                have ht2 : (t : Int) < k := by omega
                have e0 := (HBI.out.cell (p := ⟨b, off + t * 6, none⟩) hb).trans hdt.1
                have g0 := (HBI.out.cell (p := ⟨b, off + j * 6, none⟩) hb).trans HDJ.out.1
                have E0 : ∀ z : Fam wi, z.val.cell? ⟨b, off + t * 6, none⟩ = some (.int .i64 q[t].ride) := fun z => z.some_ e0
                have G0 : ∀ z : Fam wi, z.val.cell? ⟨b, off + j * 6, none⟩ = some (.int .i64 p.ride) := fun z => z.some_ g0
                clear hdt e0 g0
                by_cases hr : q[t].ride = p.ride
                · have hr2 : (q[t].ride == p.ride) = true := by simp [hr]
                  have HDU : Hid (dupT q (j + 1) = true) := Lib.hid (dup_at hkl hlt2 (by rw [HPZ.out]; exact hr))
                  have HY2 : Hid (6 = y) := Lib.hid (by rw [← HY.out, allE_dup HNB.out HFF.out (dupT_mono HDU.out (by omega))])
                  have HE : Hid ([] = xs) := Lib.hid (by rw [← HXS.out, allV_no HY.out (by rw [← HY2.out]; decide)])
                  clear hr
                  go_wp2_with fail
                  refine wp_region_fam (by kernel_rfl) (by kernel_rfl) ?_
                  repeat (go_big_quiet_step (fail))
                  refine wpQuiet_nil ?_
                  rintro _ ⟨z1, rfl⟩
                  have HB6 := Lib.hid (below_next HBV.out (Nat.le_refl _) (below_next HBI.out (Nat.le_refl _) z1.prop))
                  clear E0 G0
                  go_wp2_with fail
                  go_ret2
                  exact retVs Reads.none_ rfl HE.out HY2.out HB6.out
                · have hr2 : (q[t].ride == p.ride) = false := by simp [hr]
                  have HN2 : Hid (∀ z (hz : z < q.length), z < t + 1 → q[z].ride ≠ p.ride) := Lib.hid (fun z hz hzt => by
                    rcases Nat.lt_or_eq_of_le (Nat.lt_succ_iff.1 hzt) with h' | rfl
                    · exact HN.out z hz h'
                    · exact hr)
                  clear hr
                  go_wp2_with fail
                  refine wp_region_fam (by kernel_rfl) (by kernel_rfl) ?_
                  repeat (go_big_quiet_step (fail))
                  refine wpQuiet_nil ?_
                  rintro _ ⟨z1, rfl⟩
                  have HB6 := Lib.hid (below_next HBI.out (Nat.le_refl _) z1.prop)
                  clear E0 G0
                  go_wp2_with fail
                  go_roundw
                  case rel => exact ⟨t + 1, by omega, by go_num, HN2, HB6.out⟩
                  case measure => simp [intOf]; omega
              · have htj : t = j := by omega
                have HD2 : Hid (dupT q (j + 1) = false) := Lib.hid (dup_no hkl HD.out fun z hz hzj => by rw [HPZ.out]; exact HN.out z hz (by omega))
                have htj2 : (j : Int) ≤ t := by omega
                clear htj hlt2 HN
                obtain ⟨v, hv⟩ : ∃ v, judgeV l (origL ps) p = v := ⟨_, rfl⟩
                have HF5 : Hid (faultZ l (origL ps).length p = 0) := Lib.hid (fault_less HPF.out (origL_len ps))
                have HV := Lib.hid hv
                have HR : Hid (cellsVd ((q.take (j + 1)).map (verdict l (origL ps))) = cellsVd ((q.take j).map (verdict l (origL ps))) ++ encVd v) := Lib.hid (by
                  rw [HTK.out, snocVd, ← hv]; unfold judgeV; rw [if_pos HF5.out])
                have HBW2 := Lib.hid (below_next HBV.out (Nat.le_refl _) HBI.out)
                have HT1 := Lib.hid (HT.out.stepB HBI.out)
                have e0 := (HBI.out.cell (p := ⟨b, off + j * 6, none⟩) hb).trans HDJ.out.1
                have e1 := (HBI.out.cell (p := ⟨b, off + j * 6 + 1, none⟩) hb).trans HDJ.out.2.1
                have e2 := (HBI.out.cell (p := ⟨b, off + j * 6 + 2, none⟩) hb).trans HDJ.out.2.2.1
                have e3 := (HBI.out.cell (p := ⟨b, off + j * 6 + 3, none⟩) hb).trans HDJ.out.2.2.2.1
                have e4 := (HBI.out.cell (p := ⟨b, off + j * 6 + 4, none⟩) hb).trans HDJ.out.2.2.2.2.1
                have e5 := (HBI.out.cell (p := ⟨b, off + j * 6 + 5, none⟩) hb).trans HDJ.out.2.2.2.2.2
                clear hv
                go_wp2_with fail
                refine (rjudge_any A n c l A5 n5 c5 (origL ps) p v 0 _ (HZA.out _ HBW2.out) hn (HP5.out.below HT1.out.below) hn5 HF5.out HV.out).mono ?_
                rintro e w6 ⟨rfl, hb6⟩
                have T := (HT1.out.stepB hb6).alloc (.cells #[.int .i64 v.1, .int .i64 v.2.1, .int .i64 v.2.2.1, .int .i64 v.2.2.2] 31)
                clear hb6 e0 e1 e2 e3 e4 e5
                go_wp2_with (at_builtin; refine wpList_append_any _ rfl (.tmp 73) (.tmp 75) _ rfl _ 31 i1 _ 4 32 Try.underlying38 hi1 hy0 hy1 hy2 rfl (by omega) (.slice B j cc) j _ rfl (T.alloc _).ownX _ _ 1 1 (encVd v) (by rfl) (frVd2 _ _ v) oneVd (by simp only [maxLen]; omega) (by omega) (T.alloc _).base ?_; intro v7 w7 hown7 hg7 hat7; obtain ⟨A7, c7, rfl, hr7⟩ := own_reads hown7; rw [← HR.out] at hown7; have T := (T.alloc _).left hown7 hg7 hat7; clear hown7 hg7 hat7 hr7)
                go_roundw
                case rel => exact ⟨j + 1, A7, c7, by omega, rfl, by go_num, HD2, T⟩
                case measure => simp [intOf]; omega
          · have hjk : q.take j = q := List.take_of_length_le (by have := HL.out; omega)
            have hje : j = q.length := by have := HL.out; omega
            have HY2 : Hid (0 = y) := Lib.hid (by rw [← HY.out, allE_ok HNB.out HFF.out (by rw [← hje]; exact HD.out)])
            have HXX : Hid (q.map (verdict l (origL ps)) = xs) := Lib.hid (by rw [← HXS.out, allV_ok (by rw [HY.out, HY2.out])])
            have HR : Hid (Reads wv wv.heap.size 4 B j (cellsVd xs)) := Lib.hid (by
              have := Reads.of_own HT.out.ownX
              rw [hjk, HXX.out] at this; exact this)
            have HLX : Hid (xs.length = j) := Lib.hid (by rw [← HXX.out, List.length_map, HL.out]; omega)
            clear hjk hje
            go_wp2_with fail
            go_ret2
            exact retVs HR.out HLX.out rfl HY2.out HBV.out
end Go.Proofs.Ytdgdjlpbnaoheaa
