/- The walk of LedgerBalances. -/
import Derived.Test.YtoammbjnejdgpaaLdV
namespace Go.Proofs.Ytoammbjnejdgpaa
open Go.RowKit
theorem ps_len {base : Nat} {w : World} {A : Option Addr} {k c : Nat} {ps : List Pg} {d : List Dt} (h : PsW base w A k c ps d) : ps.length = d.length := by simpa using congrArg List.length h.1
theorem ps_at {base : Nat} {w : World} {A : Option Addr} {k c : Nat} {ps : List Pg} {d : List Dt} (h : PsW base w A k c ps d) {i : Nat} (hi : i < ps.length) (hd : i < d.length) : ps[i].id = d[i].id ∧ ps[i].tm = d[i].tm ∧ ps[i].ls = d[i].ls := by
  have h1 : (ps.map Pg.of)[i]? = (d.map Dt.of)[i]? := by rw [h.1]
  rw [List.getElem?_map, List.getElem?_map, List.getElem?_eq_getElem hi, List.getElem?_eq_getElem hd] at h1
  simp only [Option.map_some, Option.some.injEq, Pg.of, Dt.of, Prod.mk.injEq] at h1
  exact h1
theorem lns_at {acc : Int} {ls : List Ln} (h : linesE acc ls = 0) {k : Nat} (hk : k < ls.length) : (0 ≤ ls[k].1 ∧ ls[k].1 < acc) ∧ ls[k].2 ≠ 0 ∧ -1000000000000 ≤ ls[k].2 ∧ ls[k].2 ≤ 1000000000000 :=
  lnErr_inv (lnsErr_inv (linesE_inv h).2.2.1 _ (List.getElem_mem hk))
theorem lnSum_small {acc : Int} {ls : List Ln} (h : linesE acc ls = 0) (k : Nat) : -16000000000000 ≤ lnSum (ls.take k) ∧ lnSum (ls.take k) ≤ 16000000000000 := by
  obtain ⟨h1, h2, h3, h4⟩ := linesE_inv h
  have h5 := lnSum_bd (acc := acc) (l := ls.take k) fun x hx => lnsErr_inv h3 x (List.mem_of_mem_take hx)
  have h6 : (ls.take k).length ≤ 16 := by rw [List.length_take]; omega
  omega
theorem keepc {w w' : World} {p : Addr} {v : Value} (hb : Below w.heap.size w w') (h : w.cell? p = some v) : w'.cell? p = some v := (hb.cell (World.block_lt_of_cell? w p h)).trans h
set_option maxHeartbeats 4000000 in
set_option maxRecDepth 10000 in
theorem ledgerBalances_walk (acc : Int) (A : Option Addr) (n c : Nat) (l : List Oc) (a t : Int) (w : World) (hr : OsR w A n l) : Calls Try.prog 6 #[.agg #[.int .i64 acc, .slice A n c], .int .i64 a, .int .i64 t] w (RetB w true) := by
  obtain ⟨B0, hbx⟩ := box1 w 40 #[.int .i64 acc, .slice A n c]
  have HLEN := Lib.hid (recs_len hr.1 encOc_len (by omega))
  obtain ⟨w1, hw1⟩ : ∃ u, w.alloc (.cells #[.int .i64 acc, .slice A n c] 40) = u := ⟨_, rfl⟩
  rw [hw1] at B0 hbx
  have HB0 := Lib.hid B0; have HBX := Lib.hid hbx; have HR := Lib.hid (hr.below hbx)
  have HW1 := Lib.hid hw1
  have c0 := (B0.cell 0).trans rfl; have c1 := (B0.cell 1).trans rfl
  clear B0 hbx hr hw1
  obtain ⟨x, hfw⟩ : ∃ x, fewB l = x := ⟨_, rfl⟩
  have HFW := Lib.hid hfw
  clear hfw
  go_enter Try.func6, Try.ntmps6
  go_upto_region 1 with fail
  rw [HW1.out]
  go_wp2_with fail
  refine (few_any acc A n c l x _ HR.out HFW.out).mono ?_
  rintro e w2 ⟨rfl, hb2⟩
  have HK := Lib.hid hb2
  clear hb2 c0 c1
  rcases x with _ | _
  case false =>
    go_wp2_with fail
    refine (awake_any _).mono ?_
    rintro e wA ⟨rfl, hbA⟩
    go_wp2_with fail
    go_ret
    exact ⟨rfl, below_next (below_next HBX.out (Nat.le_refl _) HK.out) (Nat.le_refl _) hbA⟩
  have hn60 : n ≤ 60 := by have := (few_t HFW.out).1; have := HLEN.out; omega
  have c0 := ((ofB HB0.out HK.out).cell 0).trans rfl; have c1 := ((ofB HB0.out HK.out).cell 1).trans rfl
  go_wp2_with fail
  refine (played_any acc A n c l _ (HR.out.below HK.out) (by omega)).mono ?_
  intro e w3 hh
  unfold RetPl at hh
  by_cases h0 : acc < 2 ∨ 64 < acc
  case pos =>
    rw [if_pos h0] at hh
    obtain ⟨rfl, hb3⟩ := hh
    have HK3 := Lib.hid (below_next HK.out (Nat.le_refl _) hb3)
    clear hb3 h0 c0 c1
    go_wp2_with fail
    refine (awake_any _).mono ?_
    rintro e wA ⟨rfl, hbA⟩
    go_wp2_with fail
    go_ret
    exact ⟨rfl, below_next (below_next HBX.out (Nat.le_refl _) HK3.out) (Nat.le_refl _) hbA⟩
  rw [if_neg h0] at hh
  obtain ⟨g, F, R, rfl, hL⟩ := hh
  have hacc : 2 ≤ acc ∧ acc ≤ 64 := by omega
  obtain ⟨d, hd⟩ : ∃ d, playD acc l = d := ⟨_, rfl⟩
  rw [hd] at hL
  have HL := Lib.hid (hL.from_ HK.out)
  clear hL hd h0 c0 c1
  have c0 := ((ofB HB0.out HL.out.bel).cell 0).trans rfl; have c1 := ((ofB HB0.out HL.out.bel).cell 1).trans rfl
  go_wp2_with fail
  by_cases hh : a < 0 ∨ acc ≤ a
  case pos =>
    have e := balE_none (t := t) hh
    have HX : Hid (balX acc d a t = 0) := Lib.hid (by unfold balX; rw [e]; rfl)
    have HY : Hid (balE acc a t = 7) := Lib.hid e
    clear e
    refine (balance_any F R g acc d a t 0 7 _ HL.out.ld HL.out.fine HY.out HX.out).mono ?_
    rintro e w4 ⟨rfl, hb4⟩
    have HK4 := Lib.hid (below_next HL.out.bel (Nat.le_refl _) hb4)
    clear hb4 c0 c1
    have c0 := ((ofB HB0.out HK4.out).cell 0).trans rfl
    have hcs : a < 0 ∨ (0 ≤ a ∧ acc ≤ a) := by omega
    clear hh
    rcases hcs with g0 | ⟨g0, g1⟩
    · go_wp2_with fail
      refine (awake_any _).mono ?_
      rintro e wA ⟨rfl, hbA⟩
      go_wp2_with fail
      go_ret
      exact ⟨rfl, below_next (below_next HBX.out (Nat.le_refl _) HK4.out) (Nat.le_refl _) hbA⟩
    · go_wp2_with fail
      refine (awake_any _).mono ?_
      rintro e wA ⟨rfl, hbA⟩
      go_wp2_with fail
      go_ret
      exact ⟨rfl, below_next (below_next HBX.out (Nat.le_refl _) HK4.out) (Nat.le_refl _) hbA⟩
  have ha0 : 0 ≤ a := by omega
  have ha1 : a < acc := by omega
  by_cases ht : t < 0 ∨ 4294943999 < t
  case pos =>
    have e := balE_range hh ht
    have HX : Hid (balX acc d a t = 0) := Lib.hid (by unfold balX; rw [e]; rfl)
    have HY : Hid (balE acc a t = 1) := Lib.hid e
    clear e hh
    refine (balance_any F R g acc d a t 0 1 _ HL.out.ld HL.out.fine HY.out HX.out).mono ?_
    rintro e w4 ⟨rfl, hb4⟩
    have HK4 := Lib.hid (below_next HL.out.bel (Nat.le_refl _) hb4)
    clear hb4 c0 c1
    have c0 := ((ofB HB0.out HK4.out).cell 0).trans rfl
    have hcs : t < 0 ∨ (0 ≤ t ∧ 4294943999 < t) := by omega
    clear ht
    rcases hcs with g0 | ⟨g0, g1⟩
    · go_wp2_with fail
      refine (awake_any _).mono ?_
      rintro e wA ⟨rfl, hbA⟩
      go_wp2_with fail
      go_ret
      exact ⟨rfl, below_next (below_next HBX.out (Nat.le_refl _) HK4.out) (Nat.le_refl _) hbA⟩
    · go_wp2_with fail
      refine (awake_any _).mono ?_
      rintro e wA ⟨rfl, hbA⟩
      go_wp2_with fail
      go_ret
      exact ⟨rfl, below_next (below_next HBX.out (Nat.le_refl _) HK4.out) (Nat.le_refl _) hbA⟩
  have ht0 : 0 ≤ t := by omega
  have ht1 : t ≤ 4294943999 := by omega
  have HY : Hid (balE acc a t = 0) := Lib.hid (balE_ok hh ht)
  have HX : Hid (balX acc d a t = balN d a t) := Lib.hid (by unfold balX; rw [HY.out, if_pos rfl])
  clear hh ht
  obtain ⟨X, hX⟩ : ∃ X, balN d a t = X := ⟨_, rfl⟩
  rw [hX] at HX
  have HXX := Lib.hid hX
  clear hX
  refine (balance_any F R g acc d a t X 0 _ HL.out.ld HL.out.fine HY.out HX.out).mono ?_
  rintro e w4 ⟨rfl, hb4⟩
  have HK4 := Lib.hid (below_next HL.out.bel (Nat.le_refl _) hb4)
  have HL4 := Lib.hid (HL.out.below hb4)
  clear hb4 c0 c1
  have c0 := ((ofB HB0.out HK4.out).cell 0).trans rfl
  go_wp2_with fail
  refine (postings_any F R g acc d _ HL4.out.ld HL4.out.fine).mono ?_
  rintro e w5 ⟨A5, m, k5, ps, rfl, hm, hps, hb5⟩
  have HK5 := Lib.hid (below_next HK4.out (Nat.le_refl _) hb5)
  have HM := Lib.hid hm; have HPS := Lib.hid hps
  have HF := Lib.hid HL.out.fine
  have hm512 : m ≤ 512 := by have := HF.out.len; omega
  clear hb5 hps c0 hm
  go_wp2_with fail
  go_loopw [10, 12] (fun s1 s2 wr => ∃ (i : Nat) (S : Int), i ≤ m ∧ s1 = .int .i64 S ∧ s2 = .int .i64 i ∧ Hid (balN (d.take i) a t = S) ∧ Hid (Below w5.heap.size w5 wr)) (fun _ s _ => m - (intOf s).toNat)
  case atStart => exact ⟨0, 0, Nat.zero_le _, rfl, rfl, Lib.hid rfl, Lib.hid (Below.refl _ _)⟩
  case round =>
    obtain ⟨wo, rfl⟩ : ∃ wo : World, wo = wr := ⟨_, rfl⟩
    obtain ⟨i, S, hi, rfl, rfl, HS, HBW⟩ := hrel
    by_cases hlt : i < m
    case neg =>
      have hle : d.take i = d := List.take_of_length_le (by have := HM.out; omega)
      have HXS : Hid (X = S) := Lib.hid (by rw [← HXX.out, ← HS.out, hle])
      have hz : (X == S) = true := by simp [HXS.out]
      have HKF := Lib.hid (below_next HK5.out (Nat.le_refl _) HBW.out)
      clear hle
      go_wp2_with fail
      refine (awake_any _).mono ?_
      rintro e wA ⟨rfl, hbA⟩
      go_wp2_with fail
      go_ret
      exact ⟨rfl, below_next (below_next HBX.out (Nat.le_refl _) HKF.out) (Nat.le_refl _) hbA⟩
    have hil : i < ps.length := by have := HM.out; have := ps_len HPS.out; omega
    have hid_ : i < d.length := by have := HM.out; omega
    have HPR := Lib.hid (HPS.out.psr.below HBW.out)
    obtain ⟨b, off, hA5, hb, hc⟩ := HPR.out.cells (by omega)
    obtain ⟨d0, d1, d2⟩ := hc i hil
    have HC := Lib.hid hc
    have hi0 : (0 : Int) ≤ i := by omega
    have hi1 : (i : Int) < m := by omega
    have HEQ := Lib.hid (ps_at HPS.out hil hid_)
    have HTK := Lib.hid (balN_take (a := a) (t := t) hid_)
    have HLE := Lib.hid (HF.out.lns _ (List.getElem_mem hid_))
    have HRL := Lib.hid ((HPR.out.2 ps[i] (List.getElem_mem hil)))
    rw [← HEQ.out.2.1, ← HEQ.out.2.2] at HTK
    rw [← HEQ.out.2.2] at HLE
    have HORD : Hid (∀ j (hj : j < ps.length), j < i → (ps[j].id == ps[i].id) = false ∧ ¬ ps[i].tm < ps[j].tm) := Lib.hid fun j hj hji => by
      have hjd : j < d.length := by have := ps_len HPS.out; omega
      have e1 := ps_at HPS.out hj hjd
      have e2 := HF.out.dis j i hid_ hji
      have e3 := HF.out.ord j i hid_ hji
      rw [HEQ.out.1, e1.1, HEQ.out.2.1, e1.2.1]
      exact ⟨by simpa using e2, by omega⟩
    obtain ⟨f, hz⟩ : ∃ f, ps[i] = f := ⟨_, rfl⟩
    rw [hz] at d0 d1 d2 HTK HLE HRL HORD
    replace HLE : Hid (linesE acc f.ls = 0) := Lib.hid HLE.out
    have hfn : f.n ≤ 16 := by
      have h1 := (linesE_inv HLE.out).2.1
      have h2 := recs_len HRL.out.1 encLn_len (by omega)
      omega
    have hf2 : (2 : Int) ≤ f.n := by
      have h1 := (linesE_inv HLE.out).1
      have h2 := recs_len HRL.out.1 encLn_len (by omega)
      omega
    have HLN := Lib.hid (recs_len HRL.out.1 encLn_len (by omega))
    have hS := balN_small (a := a) (t := t) HF.out i
    rw [HS.out] at hS
    rw [hA5]
    clear hc hz HEQ
    go_wp2_with fail
    go_loopw [10, 13, 14] (fun s1 s2 s3 wr => ∃ (k : Nat) (T V : Int), k ≤ f.n ∧ s1 = .int .i64 T ∧ s2 = .int .i64 V ∧ s3 = .int .i64 k ∧ Hid (S + (if f.tm ≤ t then lnAdd a (f.ls.take k) else 0) = T) ∧ Hid (lnSum (f.ls.take k) = V) ∧ Hid (Below wo.heap.size wo wr)) (fun _ _ s _ => f.n - (intOf s).toNat)
    case atStart => exact ⟨0, S, 0, Nat.zero_le _, rfl, rfl, rfl, Lib.hid (by simp [lnAdd]), Lib.hid rfl, Lib.hid (Below.refl _ _)⟩
    case round =>
      obtain ⟨wi, rfl⟩ : ∃ wi : World, wi = wr := ⟨_, rfl⟩
      obtain ⟨k, T, V, hk, rfl, rfl, rfl, HT, HV, HBI⟩ := hrel
      have q0 := keepc HBI.out d0; have q1 := keepc HBI.out d1; have q2 := keepc HBI.out d2
      have HRr : Hid (Reads wi wi.heap.size 2 f.A f.n (cellsLn f.ls)) := Lib.hid ((HRL.out.1.below HBI.out).more HBI.out.size)
      by_cases hlk : k < f.n
      case pos =>
        have hkl : k < f.ls.length := by have := HLN.out; omega
        obtain ⟨b2, off2, hA, hb2, hc2⟩ := ln_cells HRr.out (by omega)
        obtain ⟨p0, p1⟩ := hc2 k hkl
        have hk0 : (0 : Int) ≤ k := by omega
        have hk1 : (k : Int) < f.n := by omega
        have HST := Lib.hid (lnAdd_take (a := a) hkl)
        have HSU := Lib.hid (lnSum_take hkl)
        have hLA := lnAdd_small (a := a) HLE.out k
        have hLA2 := lnAdd_small (a := a) HLE.out (k + 1)
        have hLV := lnSum_small HLE.out k
        obtain ⟨_, hv0, hv1, hv2⟩ := lns_at HLE.out hkl
        rw [HST.out] at hLA2
        rw [HV.out] at hLV
        obtain ⟨v, hv⟩ : ∃ v, f.ls[k] = v := ⟨_, rfl⟩
        rw [hv] at p0 p1 HST hLA2 HSU hv0 hv1 hv2
        rw [hA] at q2
        have HAA := Lib.hid hA
        clear hc2 hv hA
        obtain ⟨B0, hbb⟩ := box1 wi 54 #[.int .i64 v.1, .int .i64 v.2]
        have e0 := (B0.cell 0).trans rfl; have e1 := (B0.cell 1).trans rfl
        have r1 := keepc hbb q1
        have HBN := Lib.hid (below_next HBI.out (Nat.le_refl _) hbb)
        clear B0 hbb
        have z0 : (v.2 == 0) = false := by simp [hv0]
        have fV : IntKind.i64.wrap (V + v.2) = V + v.2 := IntWalk.i64_in _ (by omega)
        have HVN : Hid (lnSum (f.ls.take (k + 1)) = V + v.2) := Lib.hid (by rw [HSU.out, HV.out])
        by_cases ha : v.1 = a
        · have z1 : (v.1 == a) = true := by simp [ha]
          rw [if_pos ha] at hLA2
          by_cases hft : f.tm ≤ t
          · have HTN : Hid (S + (if f.tm ≤ t then lnAdd a (f.ls.take (k + 1)) else 0) = T + v.2) := Lib.hid (by
              rw [← HT.out, HST.out, if_pos ha, if_pos hft, if_pos hft]; omega)
            have hTT := HT.out
            rw [if_pos hft] at hTT
            have fT : IntKind.i64.wrap (T + v.2) = T + v.2 := IntWalk.i64_in _ (by omega)
            clear ha hTT hv0 hLA hLA2 hLV hS
            go_wp2_with fail
            go_roundw
            case rel => exact ⟨k + 1, T + v.2, V + v.2, by omega, rfl, rfl, by go_num, HTN, HVN, HBN⟩
            case measure => simp [intOf]; omega
          · have HTN : Hid (S + (if f.tm ≤ t then lnAdd a (f.ls.take (k + 1)) else 0) = T) := Lib.hid (by
              rw [← HT.out, if_neg hft, if_neg hft])
            have hft2 : t < f.tm := by omega
            clear ha hv0 hLA hLA2 hLV hS hft
            go_wp2_with fail
            go_roundw
            case rel => exact ⟨k + 1, T, V + v.2, by omega, rfl, rfl, by go_num, HTN, HVN, HBN⟩
            case measure => simp [intOf]; omega
        · have z1 : (v.1 == a) = false := by simp [ha]
          have HTN : Hid (S + (if f.tm ≤ t then lnAdd a (f.ls.take (k + 1)) else 0) = T) := Lib.hid (by
            rw [← HT.out, HST.out, if_neg ha, Int.add_zero])
          clear ha hv0 hLA hLA2 hLV hS
          go_wp2_with fail
          go_roundw
          case rel => exact ⟨k + 1, T, V + v.2, by omega, rfl, rfl, by go_num, HTN, HVN, HBN⟩
          case measure => simp [intOf]; omega
      have hkn : k = f.n := by omega
      subst hkn
      have hle : f.ls.take f.n = f.ls := List.take_of_length_le (by have := HLN.out; omega)
      have HTN : Hid (balN (d.take (i + 1)) a t = T) := Lib.hid (by rw [HTK.out, ← HT.out, hle, HS.out])
      have hV0 : V = 0 := by rw [← HV.out, hle]; exact (linesE_inv HLE.out).2.2.2
      subst hV0
      have HCi : Hid (∀ j (hj : j < ps.length), wi.cell? ⟨b, off + j * 3, none⟩ = some (.int .i64 ps[j].id) ∧ wi.cell? ⟨b, off + j * 3 + 1, none⟩ = some (.int .i64 ps[j].tm)) := Lib.hid fun j hj => ⟨keepc HBI.out (HC.out j hj).1, keepc HBI.out (HC.out j hj).2.1⟩
      have HBIW := Lib.hid (below_next HBW.out (Nat.le_refl _) HBI.out)
      clear hle hS
      go_wp2_with fail
      go_loopw [16] (fun s wr => ∃ (j : Nat), j ≤ i ∧ s = .int .i64 j ∧ Hid (Below wi.heap.size wi wr)) (fun s _ => i - (intOf s).toNat)
      case atStart => exact ⟨0, Nat.zero_le _, rfl, Lib.hid (Below.refl _ _)⟩
      case round =>
        obtain ⟨wk, rfl⟩ : ∃ wk : World, wk = wr := ⟨_, rfl⟩
        obtain ⟨j, hj, rfl, HBK⟩ := hrel
        have u0 := keepc HBK.out q0; have u1 := keepc HBK.out q1; have u2 := keepc HBK.out q2
        by_cases hlj : j < i
        case pos =>
          have hjl : j < ps.length := by omega
          have x0 := keepc HBK.out (HCi.out j hjl).1; have x1 := keepc HBK.out (HCi.out j hjl).2
          obtain ⟨z0, z1⟩ := HORD.out j hjl hlj
          obtain ⟨p, hp⟩ : ∃ p, ps[j] = p := ⟨_, rfl⟩
          rw [hp] at x0 x1 z0 z1
          have z2 : p.tm ≤ f.tm := by omega
          have hj0 : (0 : Int) ≤ j := by omega
          have hj1 : (j : Int) < i := by omega
          have hj2 : (j : Int) < m := by omega
          clear hp z1
          go_wp2_with fail
          go_quiet (fail)
          go_wp2_with fail
          go_roundw
          case rel => exact ⟨j + 1, by omega, by go_num, Lib.hid (below_next HBK.out (Nat.le_refl _) ⟨rfl, rfl, rfl, Nat.le_refl _, fun _ _ => rfl⟩)⟩
          case measure => simp [intOf]; omega
        have HBN := Lib.hid (below_next HBIW.out (Nat.le_refl _) HBK.out)
        have hji : j = i := by omega
        subst hji
        go_wp2_with fail
        go_roundw
        case rel => exact ⟨j + 1, T, by omega, rfl, by go_num, HTN, HBN⟩
        case measure => simp [intOf]; omega
end Go.Proofs.Ytoammbjnejdgpaa
