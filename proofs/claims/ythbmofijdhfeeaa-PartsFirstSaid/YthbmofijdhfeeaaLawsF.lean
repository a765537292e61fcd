/- The walk of PartsFirst. -/
import Derived.Test.YthbmofijdhfeeaaLawsB
import Derived.Test.YthbmofijdhfeeaaFirst
namespace Go.Proofs.Ythbmofijdhfeeaa
open Go.RowKit Go.Maps Go.WideMaps
theorem take_errs {l : List Lt} {k t x : Int} (h : takeE l k t = x) (hx : x ≠ 0) : (k < 0) ∨ (0 ≤ k ∧ 8 ≤ k) ∨ (0 ≤ k ∧ k < 8 ∧ t < 1) ∨ (0 ≤ k ∧ k < 8 ∧ 1 ≤ t ∧ 1000000 < t) ∨ (0 ≤ k ∧ k < 8 ∧ 1 ≤ t ∧ t ≤ 1000000 ∧ countN l k < t) := by
  rcases Int.lt_or_le k 0 with h1 | h1
  · exact .inl h1
  rcases Int.lt_or_le k 8 with h2 | h2
  · rcases Int.lt_or_le t 1 with h3 | h3
    · exact .inr (.inr (.inl ⟨h1, h2, h3⟩))
    · rcases Int.lt_or_le 1000000 t with h4 | h4
      · exact .inr (.inr (.inr (.inl ⟨h1, h2, h3, h4⟩)))
      · rcases Int.lt_or_le (countN l k) t with h5 | h5
        · exact .inr (.inr (.inr (.inr ⟨h1, h2, h3, h4, h5⟩)))
        · exact absurd (h.symm.trans (takeE_ok (decide_eq_true ⟨h1, by omega⟩) (decide_eq_true ⟨h3, h4⟩) h5)) hx
  · exact .inr (.inl ⟨h1, h2⟩)
theorem lotsL_at {l : List Lt} {i : Nat} (hi : i < l.length) : (lotsL l)[i]'(by unfold lotsL; simpa using hi) = (l[i].1.1, l[i].1.2.1, l[i].2, l[i].1.2.2.2) := by simp [lotsL]
set_option maxHeartbeats 8000000 in
set_option maxRecDepth 100000 in
theorem partsFirst_walk (A : Option Addr) (n c : Nat) (ops : List Op5) (kd t : Int) (w : World) (hr : Reads w w.heap.size 5 A n (cellsO ops)) (hnc : n ≤ c) (hc : c ≤ maxLen) (hwl : ∀ o ∈ ops, (Lit.int .i64 o.2.1).wf = true) :
    Calls Try.prog 6 #[.slice A n c, .int .i64 kd, .int .i64 t] w (AwakePost w) := by
  have hn' : n ≤ 9223372036854775807 := Nat.le_trans hnc hc
  clear hnc hc
  by_cases h100 : n ≤ 100
  · have HP := Lib.hid (played_any A n c ops w hr (by omega) hwl)
    obtain ⟨l, hl⟩ : ∃ l, playL ops = l := ⟨_, rfl⟩
    have hfd := playL_fine ops
    rw [hl] at HP hfd
    have HFI := Lib.hid hfd.1
    have HDI := Lib.hid hfd.2
    clear hr hwl hl hfd
    obtain ⟨x, hx⟩ : ∃ x, takeE l kd t = x := ⟨_, rfl⟩
    have HX := Lib.hid hx
    obtain ⟨cn, hcn⟩ : ∃ cn, countN l kd = cn := ⟨_, rfl⟩
    have HCN := Lib.hid hcn
    have hcb := countN_small HFI.out kd
    rw [hcn] at hcb
    obtain ⟨hcb1, hcb2⟩ := hcb
    clear hx hcn
    by_cases h0 : x = 0
    · subst h0
      obtain ⟨T, hT⟩ : ∃ T, takeO kd t l = T := ⟨_, rfl⟩
      obtain ⟨m, hm⟩ : ∃ m, takeX kd t l = m := ⟨_, rfl⟩
      have HT := Lib.hid hT; have HM := Lib.hid hm
      have hinv := takeE_inv HX.out
      obtain ⟨ht1, ht6⟩ : 1 ≤ t ∧ t ≤ 1000000 := of_decide_eq_true hinv.2.1
      have hall := take_all HFI.out HX.out
      rw [hT, hm, HCN.out] at hall
      have HCM : Hid (countN m kd = cn - t) := Lib.hid hall.2.1
      have HTN := Lib.hid hall.2.2
      have HFM : Hid (fine m) := Lib.hid (by have := fine_take (k := kd) (n := t) HFI.out; rwa [tookX_ok HX.out, hm] at this)
      have HTL : Hid (T.length ≤ 512) := Lib.hid (by have := takeO_len kd l t; rw [hT] at this; have := HFI.out.1; omega)
      clear hT hm hinv hall
      go_enter Try.func6, Try.ntmps6
      go_wp2_with fail
      refine HP.out.mono ?_
      rintro e w1 ⟨F, g, rfl, hs1, hF1, hb1⟩
      have HS1 := Lib.hid hs1; have HF1 := Lib.hid hF1; have HB1 := Lib.hid hb1
      clear hs1 hF1 hb1
      go_wp2_with fail
      refine (count_any F g l kd cn _ HS1.out HFI.out HCN.out).mono ?_
      rintro e w2 ⟨rfl, hb2⟩
      have HS2 := Lib.hid (HS1.out.below hb2)
      have HB2 := Lib.hid (below_next HB1.out (Nat.le_refl _) hb2)
      clear hb2 HS1
      go_wp2_with fail
      refine (take_any F g l m kd t 0 T _ HS2.out HFI.out HX.out ((tookX_ok HX.out).trans HM.out) ((tookO_ok HX.out).trans HT.out)).mono ?_
      rintro e w3 ⟨A3, n3, c3, rfl, ho3, hs3, hx3, hon3⟩
      have HL3 := Lib.hid (recs_len (Reads.of_own ho3) encT_len (by omega))
      have hn3 : n3 ≤ 512 := by have := HL3.out; have := HTL.out; omega
      have hn30 : 0 < n3 := by
        rcases Nat.eq_zero_or_pos n3 with h | h
        · exact absurd (List.eq_nil_of_length_eq_zero (by rw [HL3.out, h])) HTN.out
        · exact h
      have HRT3 : Hid (RowA w3 F w2.heap.size 58 2 (.slice A3 n3 c3) n3 (cellsT T)) := Lib.hid ⟨ho3, hx3⟩
      have HS3 := Lib.hid hs3
      have HB3 := Lib.hid (HB2.out.trans (hon3.below (fun k _ hk => HF1.out k hk) HB2.out.size))
      clear ho3 hs3 hx3 hon3 HS2
      have hn3f : ((n3 : Int) == 0) = false := by simp; omega
      go_wp2_with fail
      refine (count_any F g m kd (cn - t) _ HS3.out HFM.out HCM.out).mono ?_
      rintro e w4 ⟨rfl, hb4⟩
      have HS4 := Lib.hid (HS3.out.below hb4)
      have HRT4 := Lib.hid (HRT3.out.below hb4)
      have HB4 := Lib.hid (below_next HB3.out (Nat.le_refl _) hb4)
      clear hb4 HS3 HRT3
      have hsub : ((cn - t) != (cn - t)) = false := by simp
      go_wp2_with fail
      refine (lots_any F g m _ HS4.out HFM.out.1).mono ?_
      rintro e w5 ⟨A5, n5, c5, rfl, ho5, hb5⟩
      have HRL := Lib.hid (Reads.of_own ho5)
      have HRT := Lib.hid (HRT4.out.below hb5).reads
      have HB5 := Lib.hid (below_next HB4.out (Nat.le_refl _) hb5)
      have HL5 : Hid (l.length = n5) := Lib.hid (by
        have h1 := recs_len (Reads.of_own ho5) encL_len (by omega)
        have h2 : (lotsL m).length = m.length := by simp [lotsL]
        have h3 : m.length = l.length := by rw [← HM.out, takeX_len]
        omega)
      have hn5 : n5 ≤ 512 := by have := HL5.out; have := HFI.out.1; omega
      clear ho5 hb5 HS4 HRT4
      go_wp2_with fail
      go_loopw [12, 13] (fun kv i wr => ∃ (i' kq q : Nat), i' ≤ n5 ∧ i = .int .i64 i' ∧ kv = .int .i64 kq ∧ Hid (took kd t l i' = kq) ∧ kq ≤ n3 ∧ Hid (wr = w5.drewN q)) (fun _ i _ => n5 - (intOf i).toNat)
      case atStart => exact ⟨0, 0, 0, Nat.zero_le _, rfl, rfl, rfl, Nat.zero_le _, rfl⟩
      case round =>
        obtain ⟨i, kq, q, hi, rfl, rfl, HK, hkq, HWQ⟩ := hrel
        have tail : took kd t l i = n3 → Below w.heap.size w wr := fun _ => by rw [HWQ.out]; exact below_drewN HB5.out q
        have HTA : Hid (Below w.heap.size w wr) := Lib.hid (by rw [HWQ.out]; exact below_drewN HB5.out q)
        clear tail
        by_cases hlt : i < n5
        · by_cases hk3 : kq < n3
          · have hil : i < l.length := by have := HL5.out; omega
            have him : i < m.length := by rw [← HM.out, takeX_len]; exact hil
            have hxat := takeX_at kd t l hil
            have hml : m[i] = (l[i].1, l[i].2 - tk kd (takeR kd t (l.take i)) l[i]) := by
              have h2 := HM.out
              subst h2
              exact hxat
            have hlat := lotsL_at him
            rw [hml] at hlat
            obtain ⟨b, off, rfl, hb, hcc⟩ := HRL.out.recs encL_len (by omega) (by omega)
            obtain ⟨b', off', rfl, hb', hcc'⟩ := HRT.out.recs encT_len (by omega) (by omega)
            have hci := hcc i (by simp [lotsL]; exact him)
            rw [hlat] at hci
            have hkT : kq < T.length := by have := HL3.out; omega
            have hck := hcc' kq hkT
            have d0 : wr.cell? ⟨b, off + i * 4, none⟩ = some (.int .i64 l[i].1.1) := by rw [HWQ.out]; exact hci 0 _ rfl
            have d1 : wr.cell? ⟨b, off + i * 4 + 1, none⟩ = some (.int .i64 l[i].1.2.1) := by rw [HWQ.out]; exact hci 1 _ rfl
            have d2 : wr.cell? ⟨b, off + i * 4 + 2, none⟩ = some (.int .i64 (l[i].2 - tk kd (takeR kd t (l.take i)) l[i])) := by rw [HWQ.out]; exact hci 2 _ rfl
            have e0 : wr.cell? ⟨b', off' + kq * 2, none⟩ = some (.int .i64 T[kq].1) := by rw [HWQ.out]; exact hck 0 _ rfl
            have hi0 : (0 : Int) ≤ i := by omega
            have hi1 : (i : Int) < n5 := by omega
            have hk0 : (0 : Int) ≤ kq := by omega
            have hk1 : (kq : Int) < n3 := by omega
            clear hcc hcc' hci hck hlat hml hxat
            by_cases hki : l[i].1.2.1 = kd
            · have t1 : (l[i].1.2.1 != kd) = false := by simp [hki]
              by_cases hc : l[i].1.2.1 = kd ∧ 0 < min (takeR kd t (l.take i)) l[i].2
              · obtain ⟨y1, y2, y3⟩ := first_yes hil hc
                rw [HK.out] at y3
                have HK2 := Lib.hid y3
                have y4 : T[kq].1 = l[i].1.1 := by
                  have h2 := HT.out
                  have h3 := HK.out
                  subst h2 h3
                  exact y2
                have t2 : (l[i].1.1 == T[kq].1) = true := by rw [y4]; simp
                by_cases hk4 : kq + 1 < n3
                · have y5 := first_empty HFI.out (by omega) hil hc (by rw [HK.out, HT.out]; have := HL3.out; omega)
                  rw [y5] at d2
                  have hk5 : (kq : Int) + 1 < n3 := by omega
                  clear y2 y4 y5 hc hki y1 y3
                  go_wp2_with fail
                  go_quiet (fail)
                  go_wp2_with fail
                  go_roundw
                  case rel => exact ⟨i + 1, kq + 1, q + nq, by omega, by go_num, by go_num, HK2, by omega, by rw [HWQ.out, World.drewN_drewN]; rfl⟩
                  case measure => simp [intOf]; omega
                · have hk5 : (n3 : Int) ≤ kq + 1 := by omega
                  clear y2 y4 hc hki y1 y3
                  go_wp2_with fail
                  go_quiet (fail)
                  go_wp2_with fail
                  go_roundw
                  case rel => exact ⟨i + 1, kq + 1, q + nq, by omega, by go_num, by go_num, HK2, by omega, by rw [HWQ.out, World.drewN_drewN]; rfl⟩
                  case measure => simp [intOf]; omega
              · have y1 := first_none HDI.out HFI.out (by omega) hil hki hc (by rw [HK.out, HT.out]; exact hkT)
                have y4 : T[kq].1 ≠ l[i].1.1 := by
                  have h2 := HT.out
                  have h3 := HK.out
                  subst h2 h3
                  exact y1.1
                have t2 : (l[i].1.1 == T[kq].1) = false := beq_eq_false_iff_ne.2 fun e => y4 e.symm
                rw [tk_no hc, y1.2] at d2
                have HK2 : Hid (took kd t l (i + 1) = kq) := Lib.hid ((first_no hil hc).trans HK.out)
                simp only [Int.sub_zero] at d2
                clear y1 y4 hc hki
                go_wp2_with fail
                go_quiet (fail)
                go_wp2_with fail
                go_roundw
                case rel => exact ⟨i + 1, kq, q + nq, by omega, by go_num, rfl, HK2, by omega, by rw [HWQ.out, World.drewN_drewN]; rfl⟩
                case measure => simp [intOf]; omega
            · have t1 : (l[i].1.2.1 != kd) = true := by simpa using hki
              have HK2 : Hid (took kd t l (i + 1) = kq) := Lib.hid ((first_no hil fun e => hki e.1).trans HK.out)
              clear hki
              go_wp2_with fail
              go_roundw
              case rel => exact ⟨i + 1, kq, q, by omega, by go_num, rfl, HK2, by omega, HWQ⟩
              case measure => simp [intOf]; omega
          · obtain rfl : kq = n3 := by omega
            go_wp2_with fail
            refine (awake_any _).mono ?_
            rintro e w7 ⟨rfl, hb7⟩
            go_wp2_with fail
            go_ret
            exact ⟨rfl, HTA.out.trans (hb7.mono HTA.out.size)⟩
        · have hkn : kq = n3 := by
            have h1 := HK.out
            unfold took at h1
            rw [List.take_of_length_le (by have := HL5.out; omega), HT.out] at h1
            have := HL3.out
            omega
          subst hkn
          go_wp2_with fail
          refine (awake_any _).mono ?_
          rintro e w7 ⟨rfl, hb7⟩
          go_wp2_with fail
          go_ret
          exact ⟨rfl, HTA.out.trans (hb7.mono HTA.out.size)⟩
    · have h1 := ne0_t h0
      have HM : Hid (tookX l kd t = l) := Lib.hid (tookX_no (by rw [HX.out]; exact h0))
      have HO : Hid (tookO l kd t = []) := Lib.hid (tookO_no (by rw [HX.out]; exact h0))
      have hcs := take_errs HX.out h0
      rw [HCN.out] at hcs
      clear h0
      rcases hcs with g1 | ⟨g1, g2⟩ | ⟨g1, g2, g3⟩ | ⟨g1, g2, g3, g4⟩ | ⟨g1, g2, g3, g4, g5⟩
      all_goals
        go_enter Try.func6, Try.ntmps6
        go_wp2_with fail
        refine HP.out.mono ?_
        rintro e w1 ⟨F, g, rfl, hs1, hF1, hb1⟩
        have HS1 := Lib.hid hs1; have HF1 := Lib.hid hF1; have HB1 := Lib.hid hb1
        clear hs1 hF1 hb1
        go_wp2_with fail
        refine (count_any F g l kd cn _ HS1.out HFI.out HCN.out).mono ?_
        rintro e w2 ⟨rfl, hb2⟩
        have HS2 := Lib.hid (HS1.out.below hb2)
        have HB2 := Lib.hid (below_next HB1.out (Nat.le_refl _) hb2)
        clear hb2 HS1
        go_wp2_with fail
        refine (take_any F g l l kd t x [] _ HS2.out HFI.out HX.out HM.out HO.out).mono ?_
        rintro e w3 ⟨A3, n3, c3, rfl, ho3, hs3, _, hon3⟩
        obtain rfl : n3 = 0 := (recs_len (Reads.of_own ho3) encT_len (by omega)).symm
        have HS3 := Lib.hid hs3
        have HB3 := Lib.hid (HB2.out.trans (hon3.below (fun k _ hk => HF1.out k hk) HB2.out.size))
        clear hs3 hon3 HS2 ho3
        go_wp2_with fail
        refine (count_any F g l kd cn _ HS3.out HFI.out HCN.out).mono ?_
        rintro e w4 ⟨rfl, hb4⟩
        have HB4 := Lib.hid (below_next HB3.out (Nat.le_refl _) hb4)
        clear hb4
        go_wp2_with fail
        refine (awake_any _).mono ?_
        rintro e w7 ⟨rfl, hb7⟩
        go_wp2_with fail
        go_ret
        exact ⟨rfl, HB4.out.trans (hb7.mono HB4.out.size)⟩
  · have h41 : 100 < n := by omega
    go_enter Try.func6, Try.ntmps6
    go_wp2_with fail
    refine (awake_any _).mono ?_
    rintro e w1 ⟨rfl, hb⟩
    go_wp2_with fail
    go_ret
    exact ⟨rfl, hb⟩
end Go.Proofs.Ythbmofijdhfeeaa
