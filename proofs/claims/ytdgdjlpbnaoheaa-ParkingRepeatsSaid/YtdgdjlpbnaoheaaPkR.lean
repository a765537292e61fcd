/- The walk of ParkingRepeats. -/
import Derived.Test.YtdgdjlpbnaoheaaPkN
namespace Go.Proofs.Ytdgdjlpbnaoheaa
open Go.RowKit
theorem ff_inv {l : List Fc} {m : Nat} : ∀ {q : List Pk}, firstFault l m q = 0 → ∀ p ∈ q, faultZ l m p = 0
  | [], _, p, hp => by cases hp
  | x :: q, h, p, hp => by
    unfold firstFault at h
    by_cases h0 : faultZ l m x = 0
    · rw [if_neg (fun e => e h0)] at h
      rcases List.mem_cons.1 hp with rfl | hp
      · exact h0
      · exact ff_inv h p hp
    · rw [if_pos h0] at h; exact absurd h h0
theorem allE_inv {l : List Fc} {m : Nat} {q : List Pk} (h : allE l m q = 0) : (∀ p ∈ q, faultZ l m p = 0) ∧ dupT q q.length = false := by
  by_cases h1 : 256 < q.length
  · rw [allE_full h1] at h; exact absurd h (by decide)
  · by_cases h2 : firstFault l m q = 0
    · refine ⟨ff_inv h2, ?_⟩
      rcases h3 : dupT q q.length with _ | _
      · rfl
      · rw [allE_dup h1 h2 h3] at h; exact absurd h (by decide)
    · rw [allE_bad h1 h2] at h; exact absurd h h2
theorem dup_ne {q : List Pk} (h : dupT q q.length = false) {i j : Nat} (hi : i < q.length) (hj : j < i) : (q[j]'(by omega)).ride ≠ q[i].ride := fun e => by
  have := dupT_mono (dup_at hi hj e) (show i + 1 ≤ q.length by omega)
  rw [h] at this; cases this
theorem rep_step {l : List Ph} {x : Ph} {k : Nat} (hk : k < l.length) : repB (l.take (k + 1)) x = (repB (l.take k) x || (decide (pcheckZ x = 0) && sameB x l[k])) := by
  by_cases h : pcheckZ x = 0
  · rw [rep_same h, rep_same h, any_take _ hk, decide_eq_true h, Bool.true_and]
  · rw [rep_bad h, rep_bad h, decide_eq_false h]; rfl
theorem fam_n {w : World} (n : Nat) {p : Addr} {v : Value} (h : w.cell? p = some v) : ∀ z : Fam (w.drewN n), z.val.cell? p = some v := fun z => z.some_ h
set_option maxHeartbeats 8000000 in
set_option maxRecDepth 10000 in
theorem parkingRepeats_walk (A : Option Addr) (n c : Nat) (l : List Fc) (A2 : Option Addr) (m c2 : Nat) (ps : List Ph) (A3 : Option Addr) (k c3 : Nat) (q : List Pk) (w : World) (h : FcR w A n l) (hn : n ≤ 9223372036854775807) (h2 : PsR w A2 m ps) (hm : m ≤ 9223372036854775807) (h3 : parkedR w A3 k q) (hk : k ≤ 9223372036854775807) : Calls Try.prog 4 #[.slice A n c, .slice A2 m c2, .slice A3 k c3] w (AwakePost w) := by
  obtain ⟨i1, hi1, hy0, hy1, hy2⟩ := info_parts infoPh
  have HZA : Hid (∀ u, Below w.heap.size w u → FcR u A n l) := Lib.hid fun u hu => h.below hu
  have HZP : Hid (∀ u, Below w.heap.size w u → PsR u A2 m ps) := Lib.hid fun u hu => h2.below hu
  have HZK : Hid (∀ u, Below w.heap.size w u → parkedR u A3 k q) := Lib.hid fun u hu => h3.below hu
  have HLP : Hid (ps.length = m) := Lib.hid h2.2.2
  have HLK : Hid (q.length = k) := Lib.hid h3.2
  obtain ⟨f, hf⟩ : ∃ f, fewK l ps = f := ⟨_, rfl⟩
  have HF := Lib.hid hf
  obtain ⟨y, hy⟩ : ∃ y, allE l ps.length q = y := ⟨_, rfl⟩
  obtain ⟨xs, hv⟩ : ∃ v, allV l ps q = v := ⟨_, rfl⟩
  have HY := Lib.hid hy; have HV := Lib.hid hv
  have kk := Below.refl w.heap.size w
  clear h h2 h3 hf hy hv
  rcases f with _ | _
  · go_enter Try.func4, Try.ntmps4
    go_wp2_with fail
    refine (fewk_any A n c l A2 m c2 ps false _ (HZA.out _ kk) hn (HZP.out _ kk) hm HF.out).mono ?_
    rintro e w1 ⟨rfl, hb1⟩
    replace kk := below_next kk (Nat.le_refl _) hb1
    clear hb1
    go_wp2_with fail
    refine (awake_any _).mono ?_
    rintro e w2 ⟨rfl, hb2⟩
    replace kk := below_next kk (Nat.le_refl _) hb2
    clear hb2
    go_wp2_with fail
    go_ret
    exact ⟨rfl, kk⟩
  by_cases h20 : 20 < k
  · have hb : (20 : Int) < k := by omega
    go_enter Try.func4, Try.ntmps4
    go_wp2_with fail
    refine (fewk_any A n c l A2 m c2 ps true _ (HZA.out _ kk) hn (HZP.out _ kk) hm HF.out).mono ?_
    rintro e w3 ⟨rfl, hb3⟩
    replace kk := below_next kk (Nat.le_refl _) hb3
    clear hb3
    go_wp2_with fail
    refine (awake_any _).mono ?_
    rintro e w4 ⟨rfl, hb4⟩
    replace kk := below_next kk (Nat.le_refl _) hb4
    clear hb4
    go_wp2_with fail
    go_ret
    exact ⟨rfl, kk⟩
  have hb : (k : Int) ≤ 20 := by omega
  have hk20 : k ≤ 20 := by omega
  clear h20
  by_cases h0 : y = 0
  case neg =>
    have HX : Hid (xs = []) := Lib.hid (by rw [← HV.out, allV_no HY.out h0])
    have t0 := ne0_t h0
    clear h0
    go_enter Try.func4, Try.ntmps4
    go_wp2_with fail
    refine (fewk_any A n c l A2 m c2 ps true _ (HZA.out _ kk) hn (HZP.out _ kk) hm HF.out).mono ?_
    rintro e w5 ⟨rfl, hb5⟩
    replace kk := below_next kk (Nat.le_refl _) hb5
    clear hb5
    go_wp2_with fail
    refine (all_any A n c l A2 m c2 ps A3 k c3 q y xs _ (HZA.out _ kk) hn (HZP.out _ kk) hm (HZK.out _ kk) hk HY.out HV.out).mono ?_
    rintro e w8 ⟨B1, n1, d1, rfl, hr1, hl1, hb8⟩
    obtain rfl : n1 = 0 := by rw [← hl1, HX.out]; rfl
    replace kk := below_next kk (Nat.le_refl _) hb8
    clear hb8 hr1 hl1
    go_wp2_with fail
    refine (awake_any _).mono ?_
    rintro e w6 ⟨rfl, hb6⟩
    replace kk := below_next kk (Nat.le_refl _) hb6
    clear hb6
    go_wp2_with fail
    go_ret
    exact ⟨rfl, kk⟩
  subst h0
  obtain ⟨hfa, hdu⟩ := allE_inv HY.out
  have HFA := Lib.hid hfa; have HDU := Lib.hid hdu
  have HXM : Hid (q.map (verdict l (origL ps)) = xs) := Lib.hid (by rw [← HV.out, allV_ok HY.out])
  clear hfa hdu
  go_enter Try.func4, Try.ntmps4
  go_wp2_with fail
  refine (fewk_any A n c l A2 m c2 ps true _ (HZA.out _ kk) hn (HZP.out _ kk) hm HF.out).mono ?_
  rintro e w7 ⟨rfl, hb7⟩
  replace kk := below_next kk (Nat.le_refl _) hb7
  clear hb7
  go_wp2_with fail
  refine (all_any A n c l A2 m c2 ps A3 k c3 q 0 xs _ (HZA.out _ kk) hn (HZP.out _ kk) hm (HZK.out _ kk) hk HY.out HV.out).mono ?_
  rintro e w8 ⟨B1, n1, d1, rfl, hr1, hl1, hb8⟩
  obtain rfl : n1 = k := by rw [← hl1, ← HXM.out, List.length_map, HLK.out]
  have HRV : Hid (∀ u, Below w8.heap.size w8 u → Reads u u.heap.size 4 B1 n1 (cellsVd xs)) := Lib.hid fun u hu => (hr1.below hu).more hu.size
  replace kk := below_next kk (Nat.le_refl _) hb8
  have HK8 := Lib.hid kk
  have HZP8 : Hid (∀ u, Below w8.heap.size w8 u → PsR u A2 m ps) := Lib.hid fun u hu => HZP.out _ (below_next HK8.out (Nat.le_refl _) hu)
  clear hb8 hr1 hl1 kk
  by_cases hk0 : n1 = 0
  · subst hk0
    go_wp2_with fail
    go_loopw [9, 10] (fun s1 s2 wr => s1 = .slice none 0 0 ∧ s2 = .int .i64 0 ∧ w8 = wr) (fun _ _ _ => 0)
    case atStart => exact ⟨rfl, rfl, rfl⟩
    case round =>
      obtain ⟨rfl, rfl, rfl⟩ := hrel
      by_cases hm0 : 0 < m
      · have hm1 : (0 : Int) < m := by omega
        go_wp2_with fail
        go_loopw [19] (fun s wr => s = .int .i64 0 ∧ w8 = wr) (fun _ _ => 0)
        case atStart => exact ⟨rfl, rfl⟩
        case round =>
          obtain ⟨rfl, rfl⟩ := hrel
          go_wp2_with fail
          refine (awake_any _).mono ?_
          rintro e w10 ⟨rfl, hb10⟩
          have HBF := Lib.hid (below_next HK8.out (Nat.le_refl _) hb10)
          clear hb10
          go_wp2_with fail
          go_ret
          exact ⟨rfl, HBF.out⟩
      · have hm1 : (m : Int) ≤ 0 := by omega
        go_wp2_with fail
        go_loopw [19] (fun s wr => s = .int .i64 0 ∧ w8 = wr) (fun _ _ => 0)
        case atStart => exact ⟨rfl, rfl⟩
        case round =>
          obtain ⟨rfl, rfl⟩ := hrel
          go_wp2_with fail
          refine (awake_any _).mono ?_
          rintro e w10 ⟨rfl, hb10⟩
          have HBF := Lib.hid (below_next HK8.out (Nat.le_refl _) hb10)
          clear hb10
          go_wp2_with fail
          go_ret
          exact ⟨rfl, HBF.out⟩
  have hkp : 0 < n1 := by omega
  have hkp2 : (0 : Int) < n1 := by omega
  have hq0 : 0 < q.length := by have := HLK.out; omega
  have hm64 : m ≤ 64 := by
    have := (fault_inv (HFA.out q[0] (List.getElem_mem hq0))).2.2
    have := HLP.out
    omega
  have HT0 : Hid (Two w8.heap.size w8 w8 46 5 (.slice none 0 0) 0 [] 3 1 (.slice none 0 0) 0 []) := Lib.hid ⟨Below.refl _ _, Nat.le_refl _, World.ownsRow_nil _ _ _ _, World.ownsRow_nil _ _ _ _, fun g h => by simp [Value.ownBlock] at h⟩
  clear hk0 hq0
  go_wp2_with fail
  go_loopw [9, 10] (fun s1 s2 wr => ∃ (i j2 : Nat) (AF : Option Addr) (cf : Nat), i ≤ m ∧ s1 = .slice AF j2 cf ∧ s2 = .int .i64 i ∧ Hid (j2 = (origT ps i).length) ∧ Two w8.heap.size w8 wr 46 5 (.slice AF j2 cf) j2 (cellsF (origT ps i)) 3 1 (.slice none 0 0) 0 []) (fun _ s _ => m - (intOf s).toNat)
  case atStart => exact ⟨0, 0, none, 0, Nat.zero_le _, rfl, rfl, Lib.hid rfl, HT0.out⟩
  case round =>
    obtain ⟨wo, rfl⟩ : ∃ wo : World, wo = wr := ⟨_, rfl⟩
    obtain ⟨i, j2, AF, cf, hi, rfl, rfl, HJ2, hT⟩ := hrel
    have HT := Lib.hid hT
    have HBW := Lib.hid hT.below
    have HZr := Lib.hid (HZP8.out _ HBW.out)
    have hj2 : j2 ≤ i := by rw [HJ2.out]; exact origT_len ps i
    clear hT
    by_cases hlt : i < m
    · have hkl : i < ps.length := by have := HLP.out; omega
      obtain ⟨b, off, rfl, hb, hc⟩ := HZr.out.cells (by omega)
      have hd := hc i hkl
      have HC := Lib.hid hc
      have hi0 : (0 : Int) ≤ i := by omega
      have hi1' : (i : Int) < m := by omega
      have HSO := Lib.hid (orig_step hkl)
      obtain ⟨x, hz⟩ : ∃ x, ps[i] = x := ⟨_, rfl⟩
      rw [hz] at hd HSO
      have HD := Lib.hid hd
      obtain ⟨d0, d1, d2, d3, d4⟩ := hd
      have HPR : Hid (PR wo x) := Lib.hid (by rw [← hz]; exact HZr.out.2.1 _ (List.getElem_mem hkl))
      clear hc hz
      obtain ⟨y, hy⟩ : ∃ y, pcheckZ x = y := ⟨_, rfl⟩
      obtain ⟨mk, hmk⟩ : ∃ m, markN x = m := ⟨_, rfl⟩
      have HYX := Lib.hid hy; have HMK := Lib.hid hmk
      clear hy hmk
      have HNO : Hid (repB (ps.take i) x = false → origT ps (i + 1) = origT ps i ++ [x]) := Lib.hid fun g => by rw [HSO.out, if_neg (by rw [g]; decide)]
      have HYES : Hid (repB (ps.take i) x = true → origT ps (i + 1) = origT ps i) := Lib.hid fun g => by rw [HSO.out, if_pos g]
      go_wp2_with fail
      refine (rmark_any x mk y _ HPR.out HMK.out HYX.out).mono ?_
      rintro e w2 ⟨rfl, hb2⟩
      have HB2 := Lib.hid hb2
      have HT2 := Lib.hid (HT.out.stepB hb2)
      clear hb2 d0 d1 d2 d3 d4
      go_wp2_with fail
      go_loopw [13, 14] (fun s1 s2 wr => ∃ (t : Nat) (a : Bool), t ≤ i ∧ s1 = .bool a ∧ s2 = .int .i64 t ∧ Hid (a = repB (ps.take t) x) ∧ Below w2.heap.size w2 wr) (fun _ s _ => i - (intOf s).toNat)
      case atStart => exact ⟨0, false, Nat.zero_le _, rfl, rfl, Lib.hid (by unfold repB; simp), Below.refl _ _⟩
      case round =>
        obtain ⟨wj, rfl⟩ : ∃ wj : World, wj = wr := ⟨_, rfl⟩
        obtain ⟨t, a, ht, rfl, rfl, HA, hbj⟩ := hrel
        have HBJ := Lib.hid hbj
        have HBO := Lib.hid (below_next HB2.out (Nat.le_refl _) hbj)
        have HZj := Lib.hid (HZr.out.below HBO.out)
        clear hbj
        by_cases hlk : t < i
        · have hkk : t < ps.length := by omega
          have hd := HC.out t hkk
          have HAT := Lib.hid (rep_step (x := x) hkk)
          obtain ⟨z, hz⟩ : ∃ z, ps[t] = z := ⟨_, rfl⟩
          rw [hz] at hd HAT
          have HPZ : Hid (PR wj z) := Lib.hid (by rw [← hz]; exact HZj.out.2.1 _ (List.getElem_mem hkk))
          have HDZ := Lib.hid hd
          obtain ⟨e0, e1, e2, e3, e4⟩ := d_rep HDZ.out hb HBO.out
          have hj0 : (0 : Int) ≤ t := by omega
          have hj1 : (t : Int) < i := by omega
          have hj3 : (t : Int) < m := by omega
          clear hd hz
          obtain ⟨y2, hy⟩ : ∃ y, pcheckZ z = y := ⟨_, rfl⟩
          obtain ⟨mk2, hmk⟩ : ∃ m, markN z = m := ⟨_, rfl⟩
          have HYZ := Lib.hid hy; have HMK2 := Lib.hid hmk
          clear hy hmk
          obtain ⟨q1, hq1⟩ : ∃ q, (decide (y = 0) && sameB x z) = q := ⟨_, rfl⟩
          have HA3 : Hid ((a || q1) = repB (ps.take (t + 1)) x) := Lib.hid (by rw [HAT.out, ← HA.out, HYX.out, hq1])
          have HQ := Lib.hid hq1
          clear hq1
          go_wp2_with fail
          refine (rmark_any z mk2 y2 _ HPZ.out HMK2.out HYZ.out).mono ?_
          rintro e w3 ⟨rfl, hb3⟩
          have HB3 := Lib.hid (below_next HBJ.out (Nat.le_refl _) hb3)
          obtain ⟨p0, p1, p2, p3, p4⟩ := d_rep HDZ.out hb (below_next HBO.out (Nat.le_refl _) hb3)
          obtain ⟨r0, r1, r2, r3, r4⟩ := d_rep HD.out hb (below_next HBO.out (Nat.le_refl _) hb3)
          have HPP := Lib.hid p0; have HRR := Lib.hid r0
          clear hb3 e0 e1 e2 e3 e4 p0 p1 p2 p3 p4 r0 r1 r2 r3 r4
          go_wp2_with fail
          go_loopw [17, 18] (fun s5 s6 wr => ∃ (kb mb qb : Nat), kb ≤ 64 ∧ s6 = .int .i64 kb ∧ s5 = .int .i64 mb ∧ mb ≤ kb ∧ Hid (cnt (fun i => mk.testBit i != mk2.testBit i) kb = mb) ∧ wr = w3.drewN qb) (fun _ s _ => 64 - (intOf s).toNat)
          case atStart => exact ⟨0, 0, 0, by decide, rfl, rfl, Nat.le_refl _, Lib.hid rfl, rfl⟩
          case round =>
            obtain ⟨kb, mb, qb, hkb, rfl, rfl, hmb, HCN, rfl⟩ := hrel
            by_cases hltb : kb < 64
            · have hkb0 : (0 : Int) ≤ kb := by omega
              have hkb1 : (kb : Int) < 64 := by omega
              have hbit := bit_ne mk mk2 kb
              have f0 : ((kb : Int)).toNat = kb := by omega
              rcases hv : (mk.testBit kb != mk2.testBit kb) with _ | _
              · rw [hv] at hbit
                have HVB : Hid (cnt (fun i => mk.testBit i != mk2.testBit i) (kb + 1) = mb) := Lib.hid (by show cnt _ kb + (if (mk.testBit kb != mk2.testBit kb) = true then 1 else 0) = mb; rw [HCN.out, hv]; rfl)
                clear hv
                go_wp2_with fail
                go_quiet (fail)
                go_wp2_with fail
                go_roundw
                case rel => exact ⟨kb + 1, mb, _, by omega, by go_num, rfl, by omega, HVB, rfl⟩
                case measure => simp [intOf]; omega
              · rw [hv] at hbit
                have HVB : Hid (cnt (fun i => mk.testBit i != mk2.testBit i) (kb + 1) = mb + 1) := Lib.hid (by show cnt _ kb + (if (mk.testBit kb != mk2.testBit kb) = true then 1 else 0) = mb + 1; rw [HCN.out, hv]; rfl)
                clear hv
                go_wp2_with fail
                go_quiet (fail)
                go_wp2_with fail
                go_roundw
                case rel => exact ⟨kb + 1, mb + 1, _, by omega, by go_num, by go_num, by omega, HVB, rfl⟩
                case measure => simp [intOf]; omega
            · have HAP : Hid (apartN mk mk2 = mb) := Lib.hid (by
                have : kb = 64 := by omega
                rw [← HCN.out, this]; rfl)
              have hkb1 : (64 : Int) ≤ kb := by omega
              have P0 := fam_n (w := w3) qb HPP.out
              have R0 := fam_n (w := w3) qb HRR.out
              have HB3n := Lib.hid (below_drewN HB3.out qb)
              clear hltb
              rcases a with _ | _
              · by_cases hyx : y = 0
                case neg =>
                  obtain rfl : q1 = false := by rw [← HQ.out, decide_eq_false hyx]; rfl
                  have t0 := eq0_f hyx
                  have t1 : decide (y = 0) = false := by simp [hyx]
                  clear hyx
                  go_wp2_with fail
                  refine wp_region_fam (by kernel_rfl) (by kernel_rfl) ?_
                  repeat (go_big_quiet_step (fail))
                  refine wpQuiet_nil ?_
                  rintro _ ⟨z1, rfl⟩
                  clear P0 R0
                  have HB4 := Lib.hid (below_next HB3n.out (Nat.le_refl _) z1.prop)
                  go_wp2_with fail
                  go_roundw
                  case rel => exact ⟨t + 1, false, by omega, (by first | rfl | rw [HQ4.out]), by go_num, Lib.hid HA3.out, HB4.out⟩
                  case measure => simp [intOf]; omega
                subst hyx
                by_cases hyz : y2 = 0
                case neg =>
                  obtain rfl : q1 = false := by rw [← HQ.out]; unfold sameB; rw [decide_eq_false (show ¬ pcheckZ z = 0 by rw [HYZ.out]; exact hyz)]; simp
                  have t0 := eq0_f hyz
                  have t1 : decide (y2 = 0) = false := by simp [hyz]
                  clear hyz
                  go_wp2_with fail
                  refine wp_region_fam (by kernel_rfl) (by kernel_rfl) ?_
                  repeat (go_big_quiet_step (fail))
                  refine wpQuiet_nil ?_
                  rintro _ ⟨z1, rfl⟩
                  clear P0 R0
                  have HB4 := Lib.hid (below_next HB3n.out (Nat.le_refl _) z1.prop)
                  go_wp2_with fail
                  go_roundw
                  case rel => exact ⟨t + 1, false, by omega, (by first | rfl | rw [HQ4.out]), by go_num, Lib.hid HA3.out, HB4.out⟩
                  case measure => simp [intOf]; omega
                subst hyz
                by_cases hr : z.ride = x.ride
                · obtain rfl : q1 = false := by rw [← HQ.out]; unfold sameB; rw [decide_eq_false (fun e => e hr : ¬ z.ride ≠ x.ride)]; simp
                  have hr2 : (z.ride != x.ride) = false := by simp [hr]
                  have hr4 : (z.ride == x.ride) = true := by simp [hr]
                  have hr3 : decide (z.ride ≠ x.ride) = false := by simp [hr]
                  clear hr
                  go_wp2_with fail
                  refine wp_region_fam (by kernel_rfl) (by kernel_rfl) ?_
                  repeat (go_big_quiet_step (fail))
                  refine wpQuiet_nil ?_
                  rintro _ ⟨z1, rfl⟩
                  clear P0 R0
                  have HB4 := Lib.hid (below_next HB3n.out (Nat.le_refl _) z1.prop)
                  go_wp2_with fail
                  go_roundw
                  case rel => exact ⟨t + 1, false, by omega, (by first | rfl | rw [HQ4.out]), by go_num, Lib.hid HA3.out, HB4.out⟩
                  case measure => simp [intOf]; omega
                · have HQ4 : Hid (decide ((mb : Int) ≤ 4) = q1) := Lib.hid (by
                    rw [← HQ.out]; unfold sameB
                    rw [HMK.out, HMK2.out, decide_eq_true HYZ.out, decide_eq_true hr, Bool.true_and, HAP.out]
                    by_cases g : mb ≤ 4
                    · rw [decide_eq_true g, decide_eq_true (by omega)]; rfl
                    · rw [decide_eq_false g, decide_eq_false (by omega)]; rfl)
                  have HQ5 : Hid (decide (mb ≤ 4) = q1) := Lib.hid (by
                    rw [← HQ4.out]
                    by_cases g : mb ≤ 4
                    · rw [decide_eq_true g, decide_eq_true (by omega)]
                    · rw [decide_eq_false g, decide_eq_false (by omega)])
                  have hr2 : (z.ride != x.ride) = true := by simp [hr]
                  have hr4 : (z.ride == x.ride) = false := by simp [hr]
                  have hr3 : decide (z.ride ≠ x.ride) = true := by simp [hr]
                  clear hr
                  rcases q1 with _ | _
                  · have hm5 : (4 : Int) < mb := by have := of_decide_eq_false HQ4.out; omega
                    have hm6 := HQ5.out
                    go_wp2_with fail
                    refine wp_region_fam (by kernel_rfl) (by kernel_rfl) ?_
                    repeat (go_big_quiet_step (fail))
                    refine wpQuiet_nil ?_
                    rintro _ ⟨z1, rfl⟩
                    clear P0 R0
                    have HB4 := Lib.hid (below_next HB3n.out (Nat.le_refl _) z1.prop)
                    go_wp2_with fail
                    go_roundw
                    case rel => exact ⟨t + 1, false, by omega, (by first | rfl | rw [HQ4.out]), by go_num, Lib.hid HA3.out, HB4.out⟩
                    case measure => simp [intOf]; omega
                  · have hm5 : (mb : Int) ≤ 4 := of_decide_eq_true HQ4.out
                    have hm6 := HQ5.out
                    go_wp2_with fail
                    refine wp_region_fam (by kernel_rfl) (by kernel_rfl) ?_
                    repeat (go_big_quiet_step (fail))
                    refine wpQuiet_nil ?_
                    rintro _ ⟨z1, rfl⟩
                    clear P0 R0
                    have HB4 := Lib.hid (below_next HB3n.out (Nat.le_refl _) z1.prop)
                    go_wp2_with fail
                    go_roundw
                    case rel => exact ⟨t + 1, true, by omega, (by first | rfl | rw [HQ4.out]), by go_num, Lib.hid HA3.out, HB4.out⟩
                    case measure => simp [intOf]; omega
              · skip
                go_wp2_with fail
                refine wp_region_fam (by kernel_rfl) (by kernel_rfl) ?_
                repeat (go_big_quiet_step (fail))
                refine wpQuiet_nil ?_
                rintro _ ⟨z1, rfl⟩
                clear P0 R0
                have HB4 := Lib.hid (below_next HB3n.out (Nat.le_refl _) z1.prop)
                go_wp2_with fail
                go_roundw
                case rel => exact ⟨t + 1, true, by omega, (by first | rfl | rw [HQ4.out]), by go_num, Lib.hid HA3.out, HB4.out⟩
                case measure => simp [intOf]; omega
        · have hke : t = i := by omega
          have HRP : Hid (a = repB (ps.take i) x) := Lib.hid (by rw [HA.out, hke])
          have hk3 : (i : Int) ≤ t := by omega
          have T := HT2.out.stepB HBJ.out
          obtain ⟨e0, e1, e2, e3, e4⟩ := d_rep HD.out hb HBO.out
          clear hke
          rcases a with _ | _
          · have HO2 : Hid (origT ps (i + 1) = origT ps i ++ [x]) := Lib.hid (HNO.out HRP.out.symm)
            go_wp2_with (at_builtin; refine wpList_append_any _ rfl (.tmp 128) (.tmp 133) _ rfl _ 46 i1 _ 5 56 Try.underlying23 hi1 hy0 hy1 hy2 rfl (by omega) (.slice AF j2 cf) j2 _ rfl (T.alloc _).ownX _ _ 1 1 [.int .i64 x.ride, .int .i64 x.tm, .int .i64 x.W, .int .i64 x.H, .slice x.A x.n x.c] (by rfl) (frF _ x) oneF (by simp only [maxLen]; omega) (by omega) (T.alloc _).base ?_; intro v7 w7 hown7 hg7 hat7; obtain ⟨A7, c7, rfl, hr7⟩ := own_reads hown7; rw [← snocF] at hown7; have T := (T.alloc _).left hown7 hg7 hat7; clear hown7 hg7 hat7 hr7)
            go_roundw
            case rel => exact ⟨i + 1, j2 + 1, A7, c7, by omega, rfl, by go_num, Lib.hid (by rw [HO2.out, List.length_append, ← HJ2.out]; rfl), by rw [HO2.out]; exact T⟩
            case measure => simp [intOf]; omega
          · have HO2 : Hid (origT ps (i + 1) = origT ps i) := Lib.hid (HYES.out HRP.out.symm)
            go_wp2_with fail
            go_roundw
            case rel => exact ⟨i + 1, j2, AF, cf, by omega, rfl, by go_num, Lib.hid (by rw [HO2.out]; exact HJ2.out), by rw [HO2.out]; exact T⟩
            case measure => simp [intOf]; omega
    · have hle : i = ps.length := by have := HLP.out; omega
      have HOO : Hid (origT ps i = origL ps) := Lib.hid (by rw [hle]; rfl)
      have HFS : Hid (PsR wo AF j2 (origL ps)) := Lib.hid ⟨by rw [← HOO.out]; exact Reads.of_own HT.out.ownX, fun p hp => HZr.out.2.1 p (by rw [← HOO.out] at hp; exact origT_mem ps i (by omega) p hp), by rw [← HOO.out]; exact HJ2.out.symm⟩
      have hj64 : j2 ≤ 9223372036854775807 := by omega
      have hle2 : (m : Int) ≤ i := by omega
      clear hle
      go_wp2_with fail
      go_loopw [19] (fun s wr => ∃ j : Nat, j ≤ n1 ∧ s = .int .i64 j ∧ Below wo.heap.size wo wr) (fun s _ => n1 - (intOf s).toNat)
      case atStart => exact ⟨0, Nat.zero_le _, rfl, Below.refl _ _⟩
      case round =>
        obtain ⟨wv, rfl⟩ : ∃ wv : World, wv = wr := ⟨_, rfl⟩
        obtain ⟨j, hj, rfl, hbv⟩ := hrel
        have HBV := Lib.hid hbv
        have HB8 := Lib.hid (below_next HBW.out (Nat.le_refl _) hbv)
        have HBK := Lib.hid (below_next HK8.out (Nat.le_refl _) HB8.out)
        have HKr := Lib.hid (HZK.out _ HBK.out)
        clear hbv
        by_cases hltj : j < n1
        · have hjq : j < q.length := by have := HLK.out; omega
          have hjx : j < xs.length := by rw [← HXM.out, List.length_map]; exact hjq
          obtain ⟨b3, o3, rfl, hb3, hc3⟩ := HKr.out.cells (by omega)
          obtain ⟨d0, d1, d2, d3, d4, d5⟩ := hc3 j hjq
          have HC3 := Lib.hid hc3
          have hj0 : (0 : Int) ≤ j := by omega
          have hj1 : (j : Int) < n1 := by omega
          have HVX : Hid (verdict l (origL ps) q[j] = xs[j]) := Lib.hid (by
            have : xs = q.map (verdict l (origL ps)) := HXM.out.symm
            subst this
            simp)
          obtain ⟨b4, o4, rfl, hb4, hc4⟩ := (HRV.out _ HB8.out).recs encVd_len (by omega) (by omega)
          have HC4 := Lib.hid (fun j' => hc4 j hjx j')
          have HB4 := Lib.hid hb4
          obtain ⟨v, hv⟩ : ∃ v, xs[j] = v := ⟨_, rfl⟩
          obtain ⟨p, hp⟩ : ∃ p, q[j] = p := ⟨_, rfl⟩
          rw [hp] at d0 d1 d2 d3 d4 d5
          have HPJ := Lib.hid hp
          have HFP : Hid (faultZ l (origL ps).length p = 0) := Lib.hid (by rw [← hp]; exact fault_less (HFA.out _ (List.getElem_mem hjq)) (origL_len ps))
          have HJV : Hid (judgeV l (origL ps) p = v) := Lib.hid (by unfold judgeV; rw [if_pos HFP.out, ← hp, HVX.out, hv])
          rw [hv] at HC4
          have hq := eqVd v.1 v.2.1 v.2.2.1 v.2.2.2
          have HD3 := Lib.hid d0
          clear hc3 hc4 hb4 hv hp
          go_wp2_with fail
          refine (pjudge_any A n c l AF j2 cf (origL ps) p v 0 _ (HZA.out _ HBK.out) hn (HFS.out.below HBV.out) hj64 HFP.out HJV.out).mono ?_
          rintro e u1 ⟨rfl, hb1⟩
          have hV := Blk.new u1 31 #[.int .i64 v.1, .int .i64 v.2.1, .int .i64 v.2.2.1, .int .i64 v.2.2.2]
          have hb5 : Below wv.heap.size wv (u1.alloc (.cells #[.int .i64 v.1, .int .i64 v.2.1, .int .i64 v.2.2.1, .int .i64 v.2.2.2] 31)) := hb1.alloc hb1.size _
          have x0 := (hb5.cell (p := ⟨b4, o4 + j * 4, none⟩) HB4.out).trans (HC4.out 0 _ rfl)
          have x1 := (hb5.cell (p := ⟨b4, o4 + j * 4 + 1, none⟩) HB4.out).trans (HC4.out 1 _ rfl)
          have x2 := (hb5.cell (p := ⟨b4, o4 + j * 4 + 2, none⟩) HB4.out).trans (HC4.out 2 _ rfl)
          have x3 := (hb5.cell (p := ⟨b4, o4 + j * 4 + 3, none⟩) HB4.out).trans (HC4.out 3 _ rfl)
          have v0 := (hV.cell 0).trans rfl; have v1 := (hV.cell 1).trans rfl; have v2 := (hV.cell 2).trans rfl; have v3 := (hV.cell 3).trans rfl
          have HB5 := Lib.hid hb5
          clear hV hb1 hb5 d0 d1 d2 d3 d4 d5
          go_wp2_with fail
          obtain ⟨u2, hu2⟩ : ∃ u, u1.alloc (.cells #[.int .i64 v.1, .int .i64 v.2.1, .int .i64 v.2.2.1, .int .i64 v.2.2.2] 31) = u := ⟨_, rfl⟩
          rw [hu2] at x0 x1 x2 x3 v0 v1 v2 v3 HB5 ⊢
          clear hu2
          have X0 : ∀ z : Fam u2, z.val.cell? ⟨b4, o4 + j * 4, none⟩ = some (.int .i64 v.1) := fun z => z.some_ x0
          have X1 : ∀ z : Fam u2, z.val.cell? ⟨b4, o4 + j * 4 + 1, none⟩ = some (.int .i64 v.2.1) := fun z => z.some_ x1
          have X2 : ∀ z : Fam u2, z.val.cell? ⟨b4, o4 + j * 4 + 2, none⟩ = some (.int .i64 v.2.2.1) := fun z => z.some_ x2
          have X3 : ∀ z : Fam u2, z.val.cell? ⟨b4, o4 + j * 4 + 3, none⟩ = some (.int .i64 v.2.2.2) := fun z => z.some_ x3
          have V0 : ∀ z : Fam u2, z.val.cell? ⟨u1.heap.size, 0, none⟩ = some (.int .i64 v.1) := fun z => z.some_ v0
          have V1 : ∀ z : Fam u2, z.val.cell? ⟨u1.heap.size, 1, none⟩ = some (.int .i64 v.2.1) := fun z => z.some_ v1
          have V2 : ∀ z : Fam u2, z.val.cell? ⟨u1.heap.size, 2, none⟩ = some (.int .i64 v.2.2.1) := fun z => z.some_ v2
          have V3 : ∀ z : Fam u2, z.val.cell? ⟨u1.heap.size, 3, none⟩ = some (.int .i64 v.2.2.2) := fun z => z.some_ v3
          clear x0 x1 x2 x3 v0 v1 v2 v3
          refine wp_region_fam (by kernel_rfl) (by kernel_rfl) ?_
          repeat (go_big_quiet_step (fail))
          refine wpQuiet_nil ?_
          rintro _ ⟨z1, rfl⟩
          have HB6 := Lib.hid (below_next HB5.out (Nat.le_refl _) z1.prop)
          clear X0 X1 X2 X3 V0 V1 V2 V3 hq
          go_wp2_with fail
          go_loopw [22] (fun s wr => ∃ t : Nat, t ≤ j ∧ s = .int .i64 t ∧ Below wv.heap.size wv wr) (fun s _ => j - (intOf s).toNat)
          case atStart => exact ⟨0, Nat.zero_le _, rfl, HB6.out⟩
          case round =>
            obtain ⟨wi, rfl⟩ : ∃ wi : World, wi = wr := ⟨_, rfl⟩
            obtain ⟨t, ht, rfl, hbi⟩ := hrel
            have HBI := Lib.hid hbi
            clear hbi
            by_cases hltt : t < j
            · have htl : t < q.length := by omega
              have hdt := HC3.out t htl
              have ht0 : (0 : Int) ≤ t := by omega
              have ht1 : (t : Int) < j := by omega
              have ht2 : (t : Int) < n1 := by omega
              have e0 := (HBI.out.cell (p := ⟨b3, o3 + t * 6, none⟩) hb3).trans hdt.1
              have g0 := (HBI.out.cell (p := ⟨b3, o3 + j * 6, none⟩) hb3).trans HD3.out
              have E0 : ∀ z : Fam wi, z.val.cell? ⟨b3, o3 + t * 6, none⟩ = some (.int .i64 q[t].ride) := fun z => z.some_ e0
              have G0 : ∀ z : Fam wi, z.val.cell? ⟨b3, o3 + j * 6, none⟩ = some (.int .i64 p.ride) := fun z => z.some_ g0
              have hr : q[t].ride ≠ p.ride := by rw [← HPJ.out]; exact dup_ne HDU.out hjq hltt
              have hr2 : (q[t].ride == p.ride) = false := by simp [hr]
              clear hdt e0 g0 hr
              go_wp2_with fail
              refine wp_region_fam (by kernel_rfl) (by kernel_rfl) ?_
              repeat (go_big_quiet_step (fail))
              refine wpQuiet_nil ?_
              rintro _ ⟨z1', rfl⟩
              have HB7 := Lib.hid (below_next HBI.out (Nat.le_refl _) z1'.prop)
              clear E0 G0
              go_wp2_with fail
              go_roundw
              case rel => exact ⟨t + 1, by omega, by go_num, HB7.out⟩
              case measure => simp [intOf]; omega
            · have htj2 : (j : Int) ≤ t := by omega
              have HBN := Lib.hid (below_next HBV.out (Nat.le_refl _) HBI.out)
              go_wp2_with fail
              go_roundw
              case rel => exact ⟨j + 1, by omega, by go_num, HBN.out⟩
              case measure => simp [intOf]; omega
        · have hjk : (n1 : Int) ≤ j := by omega
          go_wp2_with fail
          refine (awake_any _).mono ?_
          rintro e w10 ⟨rfl, hb10⟩
          have HBF := Lib.hid (below_next HBK.out (Nat.le_refl _) hb10)
          clear hb10
          go_wp2_with fail
          go_ret
          exact ⟨rfl, HBF.out⟩
end Go.Proofs.Ytdgdjlpbnaoheaa
