/- The verdicts about several bicycles: the program's walk. -/
import Derived.Test.YtdgdjlpbnaoheaaPkMap
namespace Go.Proofs.Ytdgdjlpbnaoheaa
open Go.RowKit Go.Maps
theorem intLaw : Keyed Try.prog 3 := int_keyed Try.underlying3
theorem mkMap_ (w : World) : (Instr.makeMap 68 none).run Try.prog w = .ok (.map (some w.heap.size)) (w.alloc (.map #[] 0)) := by simp [Instr.makeMap]
theorem zeroB (w : World) : (zeroValue 4).run Try.prog w = .ok (.bool false) w := by kernel_rfl
set_option maxHeartbeats 8000000 in
set_option maxRecDepth 10000 in
theorem all_any (A : Option Addr) (n c : Nat) (l : List Fc) (A2 : Option Addr) (m c2 : Nat) (ps : List Ph) (A3 : Option Addr) (k c3 : Nat) (q : List Pk) (y : Int) (xs : List Vd) (w : World) (h : FcR w A n l) (hn : n ≤ 9223372036854775807) (h2 : PsR w A2 m ps) (hm : m ≤ 9223372036854775807) (h3 : parkedR w A3 k q) (hk : k ≤ 9223372036854775807) (hy : allE l ps.length q = y) (hxs : allV l ps q = xs) : Calls Try.prog 14 #[.slice A n c, .slice A2 m c2, .slice A3 k c3] w (RetVs w xs y) := by
  obtain ⟨i1, hi1, hy0, hy1, hy2⟩ := info_parts infoVd
  have HZA : Hid (∀ u, Below w.heap.size w u → FcR u A n l) := Lib.hid fun u hu => h.below hu
  have HZP : Hid (∀ u, Below w.heap.size w u → PsR u A2 m ps) := Lib.hid fun u hu => h2.below hu
  have HZK : Hid (∀ u, Below w.heap.size w u → parkedR u A3 k q) := Lib.hid fun u hu => h3.below hu
  have HLP : Hid (ps.length = m) := Lib.hid h2.2.2
  have HL : Hid (q.length = k) := Lib.hid h3.2
  have HY := Lib.hid hy; have HXS := Lib.hid hxs
  clear h h2 h3 hy hxs
  by_cases hbig : 256 < k
  · have hb1 : (256 : Int) < k := by omega
    have HY2 : Hid (8 = y) := Lib.hid (by rw [← HY.out, allE_full (by have := HL.out; omega)])
    have HE : Hid ([] = xs) := Lib.hid (by rw [← HXS.out, allV_no HY.out (by rw [← HY2.out]; decide)])
    go_enter Try.func14, Try.ntmps14
    go_wp2_with fail
    go_ret2
    exact retVs Reads.none_ rfl HE.out HY2.out (Below.refl _ _)
  have hb1 : (k : Int) ≤ 256 := by omega
  have HNB : Hid (¬ 256 < q.length) := Lib.hid (by have := HL.out; omega)
  have hk256 : k ≤ 256 := by omega
  clear hbig
  go_enter Try.func14, Try.ntmps14
  go_wp2_with fail
  go_loopw [23] (fun s wr => ∃ i : Nat, i ≤ k ∧ s = .int .i64 i ∧ Hid (∀ j (hj : j < q.length), j < i → faultZ l ps.length q[j] = 0) ∧ Below w.heap.size w wr) (fun s _ => k - (intOf s).toNat)
  case atStart => exact ⟨0, Nat.zero_le _, rfl, Lib.hid (fun _ _ h => absurd h (Nat.not_lt_zero _)), Below.refl _ _⟩
  case round =>
    obtain ⟨wo, rfl⟩ : ∃ wo : World, wo = wr := ⟨_, rfl⟩
    obtain ⟨i, hi, rfl, HA, hbw⟩ := hrel
    have HBW := Lib.hid hbw
    have HZr := Lib.hid (HZK.out _ hbw)
    clear hbw
    by_cases hlt : i < k
    · have hkl : i < q.length := by have := HL.out; omega
      obtain ⟨b, off, rfl, hb, hc⟩ := HZr.out.cells (by omega)
      obtain ⟨d0, d1, d2, d3, d4, d5⟩ := hc i hkl
      have hk0 : (0 : Int) ≤ i := by omega
      have hk1 : (i : Int) < k := by omega
      clear hc
      obtain ⟨p, hz⟩ : ∃ p, q[i] = p := ⟨_, rfl⟩
      rw [hz] at d0 d1 d2 d3 d4 d5
      have HPZ := Lib.hid hz
      clear hz
      obtain ⟨f, hf⟩ : ∃ f, faultZ l ps.length p = f := ⟨_, rfl⟩
      have HF := Lib.hid hf
      have HF2 : Hid (faultZ l m p = f) := Lib.hid (by rw [← HLP.out]; exact hf)
      clear hf
      have HBX := Lib.hid (box1 wo 27 #[.int .i64 p.ride, .int .i64 p.rider, .int .i64 p.tm, .int .i64 p.x, .int .i64 p.y, .int .i64 p.r]).2
      by_cases h0 : f = 0
      · subst h0
        have HA2 : Hid (∀ j (hj : j < q.length), j < i + 1 → faultZ l ps.length q[j] = 0) := Lib.hid (fun j hj hjk => by
          rcases Nat.lt_or_eq_of_le (Nat.lt_succ_iff.1 hjk) with h' | rfl
          · exact HA.out j hj h'
          · rw [HPZ.out]; exact HF.out)
        go_wp2_with fail
        refine (pkfault_any A n c l A2 m c2 p 0 _ ((HZA.out _ HBW.out).below HBX.out) hn hm HF2.out).mono ?_
        rintro e w2 ⟨rfl, hb2⟩
        have HB2 := Lib.hid (below_next HBW.out (Nat.le_refl _) (HBX.out.trans (hb2.mono HBX.out.size)))
        clear hb2 d0 d1 d2 d3 d4 d5
        go_wp2_with fail
        go_roundw
        case rel => exact ⟨i + 1, by omega, by go_num, HA2, HB2.out⟩
        case measure => simp [intOf]; omega
      · have HY2 : Hid (f = y) := Lib.hid (by
          have := ff_bad hkl (by rw [HPZ.out, HF.out]; exact h0) fun j hj hjk => HA.out j hj hjk
          rw [HPZ.out, HF.out] at this
          rw [← HY.out, allE_bad HNB.out (by rw [this]; exact h0), this])
        have HE : Hid ([] = xs) := Lib.hid (by rw [← HXS.out, allV_no HY.out (by rw [← HY2.out]; exact h0)])
        have t0 := ne0_t h0
        clear h0
        go_wp2_with fail
        refine (pkfault_any A n c l A2 m c2 p f _ ((HZA.out _ HBW.out).below HBX.out) hn hm HF2.out).mono ?_
        rintro e w2 ⟨rfl, hb2⟩
        have HB2 := Lib.hid (below_next HBW.out (Nat.le_refl _) (HBX.out.trans (hb2.mono HBX.out.size)))
        clear hb2 d0 d1 d2 d3 d4 d5
        go_wp2_with fail
        go_ret2
        exact retVs Reads.none_ rfl HE.out HY2.out HB2.out
    · have hik : i = k := by omega
      have HF0 : Hid (∀ j (hj : j < q.length), faultZ l ps.length q[j] = 0) := Lib.hid fun j hj => HA.out j hj (by have := HL.out; omega)
      have HFF : Hid (firstFault l ps.length q = 0) := Lib.hid (ff_ok HF0.out)
      have hik2 : (k : Int) ≤ i := by omega
      have HMP0 : Hid (MapBo Try.prog 3 4 (wo.alloc (.map #[] 0)) wo.heap.size 0 (rideIn q 0)) := Lib.hid (by rw [rideIn_zero]; exact MapBo.made wo Try.prog _ _)
      have HBM : Hid (Below w.heap.size w (wo.alloc (.map #[] 0))) := Lib.hid (HBW.out.alloc HBW.out.size _)
      have hwo : w.heap.size ≤ wo.heap.size := HBW.out.size
      have hmk := mkMap_ wo
      clear HA hlt hik
      go_wp2_with fail
      clear hmk
      obtain ⟨wm, hwm⟩ : ∃ u, wo.alloc (.map #[] 0) = u := ⟨_, rfl⟩
      obtain ⟨g, hg⟩ : ∃ g, wo.heap.size = g := ⟨_, rfl⟩
      rw [hwm] at HMP0 HBM ⊢
      rw [hg] at HMP0 hwo ⊢
      clear hwm hg HBW HZr
      go_loopw [38] (fun s wr => ∃ i : Nat, i ≤ k ∧ s = .int .i64 i ∧ Hid (dupT q i = false) ∧ MapBo Try.prog 3 4 wr g i (rideIn q i) ∧ Below w.heap.size w wr) (fun s _ => k - (intOf s).toNat)
      case atStart => exact ⟨0, Nat.zero_le _, rfl, Lib.hid rfl, HMP0.out, HBM.out⟩
      case round =>
        obtain ⟨wj, rfl⟩ : ∃ wj : World, wj = wr := ⟨_, rfl⟩
        obtain ⟨i2, hi2, rfl, HD, hM, hbw⟩ := hrel
        have HM := Lib.hid hM; have HBW := Lib.hid hbw
        have HZr := Lib.hid (HZK.out _ hbw)
        clear hM hbw
        by_cases hlt : i2 < k
        · have hkl : i2 < q.length := by have := HL.out; omega
          obtain ⟨b, off, rfl, hb, hc⟩ := HZr.out.cells (by omega)
          obtain ⟨d0, d1, d2, d3, d4, d5⟩ := hc i2 hkl
          have hk0 : (0 : Int) ≤ i2 := by omega
          have hk1 : (i2 : Int) < k := by omega
          have HDS := Lib.hid (dupT_step hkl)
          have HRS := Lib.hid (rideIn_step hkl)
          clear hc
          obtain ⟨p, hz⟩ : ∃ p, q[i2] = p := ⟨_, rfl⟩
          have hride : 1 ≤ p.ride ∧ p.ride ≤ 1000000 := by
            have := HF0.out i2 hkl
            rw [hz] at this
            exact (pkB_inv (fault_inv this).1).1
          rw [hz] at d0 d1 d2 d3 d4 d5 HDS HRS
          clear hz
          have hwf : (Lit.int .i64 p.ride).wf = true := WalkArith.wf_i64 (by omega)
          have HB1 := Lib.hid (HBW.out.trans ((box1 wj 27 #[.int .i64 p.ride, .int .i64 p.rider, .int .i64 p.tm, .int .i64 p.x, .int .i64 p.y, .int .i64 p.r]).2.mono HBW.out.size))
          obtain ⟨a, ha⟩ : ∃ a, ((q.take i2).any fun z => decide (z.ride = p.ride)) = a := ⟨_, rfl⟩
          have hM1 := HM.out.alloc (.cells #[.int .i64 p.ride, .int .i64 p.rider, .int .i64 p.tm, .int .i64 p.x, .int .i64 p.y, .int .i64 p.r] 27)
          have hrun := hM1.look1 intLaw Try.underlying68 Try.underlying4 (zeroB _) (keyOf_int_mk Try.underlying3 hwf)
          rw [rideIn_at, ha] at hrun
          obtain ⟨w7, hput, hM7, hg7⟩ := hM1.put (t := 68) intLaw Try.underlying68 Try.underlying4 (show i2 < maxLen by unfold maxLen; omega) (keyOf_int_mk Try.underlying3 hwf) trivial
          rw [HRS.out] at hM7
          have HM7 := Lib.hid hM7
          have HB7 := Lib.hid (HB1.out.grown hg7 (show w.heap.size ≤ _ from HB1.out.size) (fun z hz => by injection hz with hz; omega))
          rw [ha, HD.out, Bool.false_or] at HDS
          clear hM1 hM7 hg7 ha
          rcases a with _ | _
          · go_wp2_with fail
            go_roundw
            case rel => exact ⟨i2 + 1, by omega, by go_num, HDS, HM7.out, HB7.out⟩
            case measure => simp [intOf]; omega
          · have HY2 : Hid (6 = y) := Lib.hid (by rw [← HY.out, allE_dup HNB.out HFF.out (dupT_mono HDS.out (by omega))])
            have HE : Hid ([] = xs) := Lib.hid (by rw [← HXS.out, allV_no HY.out (by rw [← HY2.out]; decide)])
            clear hput
            go_wp2_with fail
            go_ret2
            exact retVs Reads.none_ rfl HE.out HY2.out HB1.out
        · have hik : i2 = k := by omega
          have HY2 : Hid (0 = y) := Lib.hid (by rw [← HY.out, allE_ok HNB.out HFF.out (by rw [HL.out, ← hik]; exact HD.out)])
          have HXX : Hid (q.map (verdict l (origL ps)) = xs) := Lib.hid (by rw [← HXS.out, allV_ok (by rw [HY.out, HY2.out])])
          have hik2 : (k : Int) ≤ i2 := by omega
          clear hlt hik HD HM
          by_cases hk0 : k = 0
          · have HE : Hid ([] = xs) := Lib.hid (by
              have : q = [] := List.eq_nil_of_length_eq_zero (by rw [HL.out, hk0])
              rw [← HXX.out, this]; rfl)
            have z1 : (k == 0) = true := by simp [hk0]
            have z2 : ((k : Int) == 0) = true := by simp [hk0]
            have z3 : decide (k = 0) = true := by simp [hk0]
            clear hk0
            go_wp2_with fail
            go_ret2
            exact retVs Reads.none_ rfl HE.out HY2.out HBW.out
          · have z1 : (k == 0) = false := by simp [hk0]
            have z2 : ((k : Int) == 0) = false := by simp; omega
            have z3 : decide (k = 0) = false := by simp [hk0]
            have hq0 : 0 < q.length := by have := HL.out; omega
            have hfl := (fault_inv (HF0.out 0 hq0)).2.1; have hm64 := (fault_inv (HF0.out 0 hq0)).2.2
            have HFL := Lib.hid hfl
            have hm64' : m ≤ 64 := by have := HLP.out; omega
            clear hfl hm64 hk0
            go_wp2_with fail
            refine (originals_any A2 m c2 ps _ (HZP.out _ HBW.out) hm64').mono ?_
            rintro e w3 ⟨A5, n5, c5, rfl, hps5, hb5⟩
            have hn5 : n5 ≤ 9223372036854775807 := by
              have := hps5.2.2
              have := origT_len ps ps.length
              have := HLP.out
              unfold origL at *
              omega
            have HP5 := Lib.hid hps5
            have HB5 := Lib.hid (below_next HBW.out (Nat.le_refl _) hb5)
            have HT0 : Hid (Two w3.heap.size w3 w3 31 4 (.slice none 0 0) 0 [] 3 1 (.slice none 0 0) 0 []) := Lib.hid ⟨Below.refl _ _, Nat.le_refl _, World.ownsRow_nil _ _ _ _, World.ownsRow_nil _ _ _ _, fun g h => by simp [Value.ownBlock] at h⟩
            clear hps5 hb5 HBW HZr
            go_wp2_with fail
            go_loopw [15, 57] (fun so s wr => ∃ (j : Nat) (B : Option Addr) (cc : Nat), j ≤ k ∧ so = .slice B j cc ∧ s = .int .i64 j ∧ Two w3.heap.size w3 wr 31 4 (.slice B j cc) j (cellsVd ((q.take j).map (verdict l (origL ps)))) 3 1 (.slice none 0 0) 0 []) (fun _ s _ => k - (intOf s).toNat)
            case atStart => exact ⟨0, none, 0, Nat.zero_le _, rfl, rfl, HT0.out⟩
            case round =>
              obtain ⟨wv, rfl⟩ : ∃ wv : World, wv = wr := ⟨_, rfl⟩
              obtain ⟨j, B, cc, hj, rfl, rfl, hT⟩ := hrel
              have HT := Lib.hid hT
              have HBV := Lib.hid (below_next HB5.out (Nat.le_refl _) hT.below)
              have HZr := Lib.hid (HZK.out _ HBV.out)
              have HP6 := Lib.hid (HP5.out.below hT.below)
              clear hT
              by_cases hlt : j < k
              · have hkl : j < q.length := by have := HL.out; omega
                obtain ⟨b, off, rfl, hb, hc⟩ := HZr.out.cells (by omega)
                obtain ⟨d0, d1, d2, d3, d4, d5⟩ := hc j hkl
                have hj0 : (0 : Int) ≤ j := by omega
                have hj1 : (j : Int) < k := by omega
                have HTK : Hid ((q.take (j + 1)).map (verdict l (origL ps)) = (q.take j).map (verdict l (origL ps)) ++ [verdict l (origL ps) q[j]]) := Lib.hid (by rw [List.take_succ_eq_append_getElem hkl, List.map_append]; rfl)
                clear hc
                obtain ⟨p, hz⟩ : ∃ p, q[j] = p := ⟨_, rfl⟩
                have HPB : Hid (pkB p = true) := Lib.hid (by
                  have := HF0.out j hkl
                  rw [hz] at this
                  exact (fault_inv this).1)
                rw [hz] at d0 d1 d2 d3 d4 d5 HTK
                clear hz
                obtain ⟨kz, hkz⟩ : ∃ z, judgeZ l (countsB (origL ps) p) p = z := ⟨_, rfl⟩
                have HKZ := Lib.hid hkz
                have HR : Hid (cellsVd ((q.take (j + 1)).map (verdict l (origL ps))) = cellsVd ((q.take j).map (verdict l (origL ps))) ++ encVd (p.ride, p.rider, p.tm, kz)) := Lib.hid (by rw [HTK.out, snocVd, ← hkz]; rfl)
                have HBX := Lib.hid (box1 wv 27 #[.int .i64 p.ride, .int .i64 p.rider, .int .i64 p.tm, .int .i64 p.x, .int .i64 p.y, .int .i64 p.r]).2
                have HT1 := Lib.hid (HT.out.alloc (.cells #[.int .i64 p.ride, .int .i64 p.rider, .int .i64 p.tm, .int .i64 p.x, .int .i64 p.y, .int .i64 p.r] 27))
                clear hkz
                go_wp2_with fail
                refine (judge_any A n c l A5 n5 c5 (origL ps) p kz _ ((HZA.out _ HBV.out).below HBX.out) hn (HP6.out.below HBX.out) hn5 HPB.out HFL.out HKZ.out).mono ?_
                rintro e w6 ⟨rfl, hb6⟩
                have T := HT1.out.stepB hb6
                clear hb6 d0 d1 d2 d3 d4 d5
                go_wp2_with (at_builtin; refine wpList_append_any _ rfl (.tmp 61) (.tmp 66) _ rfl _ 31 i1 _ 4 32 Try.underlying38 hi1 hy0 hy1 hy2 rfl (by omega) (.slice B j cc) j _ rfl (T.alloc _).ownX _ _ 1 1 (encVd (p.ride, p.rider, p.tm, kz)) (by rfl) (frVd _ (p.ride, p.rider, p.tm, kz)) oneVd (by simp only [maxLen]; omega) (by omega) (T.alloc _).base ?_; intro v7 w7 hown7 hg7 hat7; obtain ⟨A7, c7, rfl, hr7⟩ := own_reads hown7; rw [← HR.out] at hown7; have T := (T.alloc _).left hown7 hg7 hat7; clear hown7 hg7 hat7 hr7)
                go_roundw
                case rel => exact ⟨j + 1, A7, c7, by omega, rfl, by go_num, T⟩
                case measure => simp [intOf]; omega
              · have hjk : q.take j = q := List.take_of_length_le (by have := HL.out; omega)
                have HR : Hid (Reads wv wv.heap.size 4 B j (cellsVd xs)) := Lib.hid (by
                  have := Reads.of_own HT.out.ownX
                  rw [hjk, HXX.out] at this; exact this)
                have HLX : Hid (xs.length = j) := Lib.hid (by rw [← HXX.out, List.length_map, HL.out]; omega)
                clear hjk
                go_wp2_with fail
                go_ret2
                exact retVs HR.out HLX.out rfl HY2.out HBV.out
end Go.Proofs.Ytdgdjlpbnaoheaa
