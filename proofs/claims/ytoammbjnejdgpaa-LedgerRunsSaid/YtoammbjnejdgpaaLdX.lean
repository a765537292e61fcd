/- The walk of LedgerZero. -/
import Derived.Test.YtoammbjnejdgpaaLdW
namespace Go.Proofs.Ytoammbjnejdgpaa
open Go.RowKit
def sumN (f : Nat → Int) : Nat → Int
  | 0 => 0
  | j + 1 => sumN f j + f j
theorem sumN_add (f g : Nat → Int) : ∀ j, sumN (fun a => f a + g a) j = sumN f j + sumN g j
  | 0 => rfl
  | j + 1 => by simp only [sumN]; rw [sumN_add f g j]; omega
theorem sumN_zero : ∀ j, sumN (fun _ => 0) j = 0
  | 0 => rfl
  | j + 1 => by simp only [sumN]; rw [sumN_zero j]; rfl
theorem sumN_single (x y : Int) : ∀ j : Nat, sumN (fun a => if x = (a : Int) then y else 0) j = if 0 ≤ x ∧ x < j then y else 0
  | 0 => by rw [if_neg (by omega)]; rfl
  | j + 1 => by
    simp only [sumN]
    rw [sumN_single x y j]
    by_cases h : x = (j : Int)
    · rw [if_pos h, if_neg (by omega), if_pos (by omega)]; omega
    · rw [if_neg h, Int.add_zero]
      by_cases h2 : 0 ≤ x ∧ x < j
      · rw [if_pos h2, if_pos (by omega)]
      · rw [if_neg h2, if_neg (by omega)]
theorem sumN_lns (j : Nat) : ∀ ls : List Ln, (∀ x ∈ ls, 0 ≤ x.1 ∧ x.1 < j) → sumN (fun a => lnAdd (a : Int) ls) j = lnSum ls
  | [], _ => by simp only [lnAdd, lnSum]; exact sumN_zero j
  | x :: ls, h => by
    simp only [lnAdd, lnSum]
    rw [sumN_add, sumN_single, sumN_lns j ls fun y hy => h y (List.mem_cons_of_mem _ hy), if_pos (h x (List.mem_cons_self ..))]
theorem sumN_bal {acc : Int} (an : Nat) (t : Int) (han : (an : Int) = acc) : ∀ d : List Dt, (∀ x ∈ d, linesE acc x.ls = 0) → sumN (fun a => balN d (a : Int) t) an = 0
  | [], _ => by simp only [balN]; exact sumN_zero an
  | x :: d, h => by
    simp only [balN]
    rw [sumN_add, sumN_bal an t han d fun y hy => h y (List.mem_cons_of_mem _ hy), Int.add_zero]
    have hx := linesE_inv (h x (List.mem_cons_self ..))
    by_cases ht : x.tm ≤ t
    · simp only [if_pos ht]
      rw [sumN_lns an x.ls fun y hy => by rw [han]; exact (lnErr_inv (lnsErr_inv hx.2.2.1 y hy)).1, hx.2.2.2]
    · simp only [if_neg ht]
      exact sumN_zero an
theorem sumN_bd (f : Nat → Int) (B : Int) (hB : 0 ≤ B) : ∀ j : Nat, (∀ a, a < j → -B ≤ f a ∧ f a ≤ B) → -(B * j) ≤ sumN f j ∧ sumN f j ≤ B * j
  | 0, _ => by simp [sumN]
  | j + 1, h => by
    have h1 := sumN_bd f B hB j fun a ha => h a (by omega)
    have h2 := h j (by omega)
    simp only [sumN]
    have e : B * ((j + 1 : Nat) : Int) = B * j + B := by rw [Int.natCast_add, Int.mul_add]; simp
    omega
theorem bal_all {acc : Int} {d : List Dt} (h : Fine acc d) (a t : Int) : -8192000000000000 ≤ balN d a t ∧ balN d a t ≤ 8192000000000000 := by
  have := balN_small (a := a) (t := t) h d.length
  rwa [List.take_length] at this
theorem zsum_bd {acc : Int} {d : List Dt} (h : Fine acc d) (t : Int) (j : Nat) (hj : j ≤ 64) : -600000000000000000 ≤ sumN (fun a => balN d (a : Int) t) j ∧ sumN (fun a => balN d (a : Int) t) j ≤ 600000000000000000 := by
  have h1 := sumN_bd (fun a => balN d (a : Int) t) 8192000000000000 (by decide) j fun a _ => bal_all h a t
  omega
set_option maxHeartbeats 4000000 in
set_option maxRecDepth 10000 in
theorem ledgerZero_walk (acc : Int) (A : Option Addr) (n c : Nat) (l : List Oc) (t : Int) (w : World) (hr : OsR w A n l) : Calls Try.prog 5 #[.agg #[.int .i64 acc, .slice A n c], .int .i64 t] w (RetB w true) := by
  obtain ⟨B0, hbx⟩ := box1 w 40 #[.int .i64 acc, .slice A n c]
  have HLEN := Lib.hid (recs_len hr.1 encOc_len (by omega))
  obtain ⟨w1, hw1⟩ : ∃ u, w.alloc (.cells #[.int .i64 acc, .slice A n c] 40) = u := ⟨_, rfl⟩
  rw [hw1] at B0 hbx
  have HB0 := Lib.hid B0; have HBX := Lib.hid hbx; have HR := Lib.hid (hr.below hbx)
  have HW1 := Lib.hid hw1
  have c0 := (B0.cell 0).trans rfl; have c1 := (B0.cell 1).trans rfl
  clear B0 hbx hr hw1
  obtain ⟨x, hfw⟩ : ∃ x, fewB l = x := ⟨_, rfl⟩
  have HFW := Lib.hid hfw
  clear hfw
  go_enter Try.func5, Try.ntmps5
  go_upto_region 1 with fail
  rw [HW1.out]
  go_wp2_with fail
  refine (few_any acc A n c l x _ HR.out HFW.out).mono ?_
  rintro e w2 ⟨rfl, hb2⟩
  have HK := Lib.hid hb2
  clear hb2 c0 c1
  rcases x with _ | _
  case false =>
    go_wp2_with fail
    refine (awake_any _).mono ?_
    rintro e wA ⟨rfl, hbA⟩
    go_wp2_with fail
    go_ret
    exact ⟨rfl, below_next (below_next HBX.out (Nat.le_refl _) HK.out) (Nat.le_refl _) hbA⟩
  have hn60 : n ≤ 60 := by have := (few_t HFW.out).1; have := HLEN.out; omega
  have c0 := ((ofB HB0.out HK.out).cell 0).trans rfl; have c1 := ((ofB HB0.out HK.out).cell 1).trans rfl
  go_wp2_with fail
  refine (played_any acc A n c l _ (HR.out.below HK.out) (by omega)).mono ?_
  intro e w3 hh
  unfold RetPl at hh
  by_cases h0 : acc < 2 ∨ 64 < acc
  case pos =>
    rw [if_pos h0] at hh
    obtain ⟨rfl, hb3⟩ := hh
    have HK3 := Lib.hid (below_next HK.out (Nat.le_refl _) hb3)
    clear hb3 h0 c0 c1
    go_wp2_with fail
    refine (awake_any _).mono ?_
    rintro e wA ⟨rfl, hbA⟩
    go_wp2_with fail
    go_ret
    exact ⟨rfl, below_next (below_next HBX.out (Nat.le_refl _) HK3.out) (Nat.le_refl _) hbA⟩
  rw [if_neg h0] at hh
  obtain ⟨g, F, R, rfl, hL⟩ := hh
  have hacc : 2 ≤ acc ∧ acc ≤ 64 := by omega
  obtain ⟨d, hd⟩ : ∃ d, playD acc l = d := ⟨_, rfl⟩
  rw [hd] at hL
  have HL := Lib.hid (hL.from_ HK.out)
  clear hL hd h0 c0 c1
  have c0 := ((ofB HB0.out HL.out.bel).cell 0).trans rfl; have c1 := ((ofB HB0.out HL.out.bel).cell 1).trans rfl
  have hacc1 := hacc.2
  by_cases ht : t < 0 ∨ 4294943999 < t
  case pos =>
    have HY : Hid (balE acc 0 t = 1) := Lib.hid (balE_range (by omega) ht)
    have HX : Hid (balX acc d 0 t = 0) := Lib.hid (by unfold balX; rw [HY.out]; rfl)
    have HBL := fun w hl => balance_any F R g acc d 0 t 0 1 w hl HL.out.fine HY.out HX.out
    have hcs : t < 0 ∨ (0 ≤ t ∧ 4294943999 < t) := by omega
    clear ht
    rcases hcs with g0 | ⟨g0, g1⟩
    · go_wp2_with fail
      refine (HBL _ HL.out.ld).mono ?_
      rintro e w4 ⟨rfl, hb4⟩
      have HK4 := Lib.hid (below_next HL.out.bel (Nat.le_refl _) hb4)
      clear hb4 c0 c1 HBL
      go_wp2_with fail
      refine (awake_any _).mono ?_
      rintro e wA ⟨rfl, hbA⟩
      go_wp2_with fail
      go_ret
      exact ⟨rfl, below_next (below_next HBX.out (Nat.le_refl _) HK4.out) (Nat.le_refl _) hbA⟩
    · go_wp2_with fail
      refine (HBL _ HL.out.ld).mono ?_
      rintro e w4 ⟨rfl, hb4⟩
      have HK4 := Lib.hid (below_next HL.out.bel (Nat.le_refl _) hb4)
      clear hb4 c0 c1 HBL
      go_wp2_with fail
      refine (awake_any _).mono ?_
      rintro e wA ⟨rfl, hbA⟩
      go_wp2_with fail
      go_ret
      exact ⟨rfl, below_next (below_next HBX.out (Nat.le_refl _) HK4.out) (Nat.le_refl _) hbA⟩
  have ht0 : 0 ≤ t := by omega
  have ht1 : t ≤ 4294943999 := by omega
  clear ht
  go_wp2_with fail
  refine (postings_any F R g acc d _ HL.out.ld HL.out.fine).mono ?_
  rintro e w5 ⟨A5, m, k5, ps, rfl, hm, hps, hb5⟩
  have HK5 := Lib.hid (below_next HL.out.bel (Nat.le_refl _) hb5)
  have HM := Lib.hid hm; have HPS := Lib.hid hps
  have HF := Lib.hid HL.out.fine
  have HL5 := Lib.hid (HL.out.ld.below hb5)
  have hm512 : m ≤ 512 := by have := HF.out.len; omega
  obtain ⟨an, han⟩ : ∃ an : Nat, (an : Int) = acc := ⟨acc.toNat, by omega⟩
  have HAN := Lib.hid han
  have han64 : an ≤ 64 := by omega
  clear hb5 hps c0 c1 hm han
  go_wp2_with fail
  go_loopw [9] (fun s wr => ∃ (k : Nat), k ≤ m + 1 ∧ s = .int .i64 ((k : Int) - 1) ∧ Hid (Below w5.heap.size w5 wr)) (fun s _ => m + 1 - (intOf s + 1).toNat)
  case atStart => exact ⟨0, by omega, by go_num, Lib.hid (Below.refl _ _)⟩
  case round =>
    obtain ⟨wo, rfl⟩ : ∃ wo : World, wo = wr := ⟨_, rfl⟩
    obtain ⟨k, hk, rfl, HBW⟩ := hrel
    by_cases hlt : k < m + 1
    case neg =>
      have hk1 : (m : Int) ≤ (k : Int) - 1 := by omega
      have HKF := Lib.hid (below_next HK5.out (Nat.le_refl _) HBW.out)
      go_wp2_with fail
      refine (awake_any _).mono ?_
      rintro e wA ⟨rfl, hbA⟩
      go_wp2_with fail
      go_ret
      exact ⟨rfl, below_next (below_next HBX.out (Nat.le_refl _) HKF.out) (Nat.le_refl _) hbA⟩
    rcases k with _ | k
    · obtain ⟨i, hi⟩ : ∃ i : Int, ((0 : Nat) : Int) - 1 = i := ⟨_, rfl⟩
      rw [hi]
      have HI : Hid (i = -1) := Lib.hid (by omega)
      have hi0 : i < 0 := by omega
      have hi1 : i < m := by omega
      have hiw : IntKind.i64.wrap (i + 1) = 0 := by rw [HI.out]; decide
      clear hi
      go_wp2_with fail
      go_loopw [11, 12] (fun s1 s2 wr => ∃ (j : Nat), j ≤ an ∧ s1 = .int .i64 (sumN (fun a => balN d (a : Int) t) j) ∧ s2 = .int .i64 j ∧ Hid (Below wo.heap.size wo wr)) (fun _ s _ => an - (intOf s).toNat)
      case atStart => exact ⟨0, Nat.zero_le _, rfl, rfl, Lib.hid (Below.refl _ _)⟩
      case round =>
        obtain ⟨wi, rfl⟩ : ∃ wi : World, wi = wr := ⟨_, rfl⟩
        obtain ⟨j, hj, rfl, rfl, HBI⟩ := hrel
        have HWW := Lib.hid (below_next HBW.out (Nat.le_refl _) HBI.out)
        have c0 := ((ofB HB0.out (below_next HK5.out (Nat.le_refl _) HWW.out)).cell 0).trans rfl
        obtain ⟨S, hS⟩ : ∃ S, sumN (fun a => balN d (a : Int) t) j = S := ⟨_, rfl⟩
        rw [hS]
        have HS := Lib.hid hS
        clear hS
        by_cases hlj : j < an
        · have hj1 : (j : Int) < acc := by have := HAN.out; omega
          have hj0 : (0 : Int) ≤ j := by omega
          have HY : Hid (balE acc (j : Int) t = 0) := Lib.hid (balE_ok (by omega) (by omega))
          obtain ⟨X, hX⟩ : ∃ X, balN d (j : Int) t = X := ⟨_, rfl⟩
          have HX : Hid (balX acc d (j : Int) t = X) := Lib.hid (by unfold balX; rw [HY.out, if_pos rfl, hX])
          have HN : Hid (sumN (fun a => balN d (a : Int) t) (j + 1) = S + X) := Lib.hid (by simp only [sumN]; rw [HS.out, hX])
          have hb1 := zsum_bd HF.out t (j + 1) (by omega)
          rw [HN.out] at hb1
          have f1 : IntKind.i64.wrap (S + X) = S + X := IntWalk.i64_in _ (by omega)
          have HLI := Lib.hid (HL5.out.below HWW.out)
          clear hX hb1
          go_wp2_with fail
          refine (balance_any F R g acc d (j : Int) t X 0 _ HLI.out HF.out HY.out HX.out).mono ?_
          rintro e w6 ⟨rfl, hb6⟩
          have HBN := Lib.hid (below_next HBI.out (Nat.le_refl _) hb6)
          clear hb6 c0
          go_wp2_with fail
          go_roundw
          case rel => exact ⟨j + 1, by omega, by rw [HN.out], by go_num, HBN⟩
          case measure => simp [intOf]; omega
        · have hS0 : S = 0 := by rw [← HS.out, show j = an by omega]; exact sumN_bal an t HAN.out d HF.out.lns
          subst hS0
          have hj2 : acc ≤ j := by have := HAN.out; omega
          have HBN := Lib.hid (below_next HBW.out (Nat.le_refl _) HBI.out)
          go_wp2_with fail
          go_roundw
          case rel => exact ⟨0 + 1, by omega, by go_num, HBN⟩
          case measure => simp [intOf]; omega
    · have e : ((k + 1 : Nat) : Int) - 1 = (k : Int) := by omega
      rw [e]
      have hil : k < ps.length := by have := HM.out; have := ps_len HPS.out; omega
      have hid_ : k < d.length := by have := HM.out; omega
      have HPR := Lib.hid (HPS.out.psr.below HBW.out)
      obtain ⟨b, off, hA5, hb, hc⟩ := HPR.out.cells (by omega)
      obtain ⟨d0, d1, d2⟩ := hc k hil
      have hi0 : (0 : Int) ≤ k := by omega
      have hi1 : (k : Int) < m := by omega
      have hEQ := (ps_at HPS.out hil hid_).2.1
      have hrg := range_t (HF.out.rng _ (List.getElem_mem hid_))
      rw [← hEQ] at hrg
      obtain ⟨f, hz⟩ : ∃ f, ps[k].tm = f := ⟨_, rfl⟩
      rw [hz] at d1 hrg
      rw [hA5]
      have ht0 : 0 ≤ f := by omega
      have ht1 : f ≤ 4294943999 := by omega
      clear hc hz hEQ e d0 d2 hrg
      go_wp2_with fail
      clear d1
      go_loopw [11, 12] (fun s1 s2 wr => ∃ (j : Nat), j ≤ an ∧ s1 = .int .i64 (sumN (fun a => balN d (a : Int) f) j) ∧ s2 = .int .i64 j ∧ Hid (Below wo.heap.size wo wr)) (fun _ s _ => an - (intOf s).toNat)
      case atStart => exact ⟨0, Nat.zero_le _, rfl, rfl, Lib.hid (Below.refl _ _)⟩
      case round =>
        obtain ⟨wi, rfl⟩ : ∃ wi : World, wi = wr := ⟨_, rfl⟩
        obtain ⟨j, hj, rfl, rfl, HBI⟩ := hrel
        have HWW := Lib.hid (below_next HBW.out (Nat.le_refl _) HBI.out)
        have c0 := ((ofB HB0.out (below_next HK5.out (Nat.le_refl _) HWW.out)).cell 0).trans rfl
        obtain ⟨S, hS⟩ : ∃ S, sumN (fun a => balN d (a : Int) f) j = S := ⟨_, rfl⟩
        rw [hS]
        have HS := Lib.hid hS
        clear hS
        by_cases hlj : j < an
        · have hj1 : (j : Int) < acc := by have := HAN.out; omega
          have hj0 : (0 : Int) ≤ j := by omega
          have HY : Hid (balE acc (j : Int) f = 0) := Lib.hid (balE_ok (by omega) (by omega))
          obtain ⟨X, hX⟩ : ∃ X, balN d (j : Int) f = X := ⟨_, rfl⟩
          have HX : Hid (balX acc d (j : Int) f = X) := Lib.hid (by unfold balX; rw [HY.out, if_pos rfl, hX])
          have HN : Hid (sumN (fun a => balN d (a : Int) f) (j + 1) = S + X) := Lib.hid (by simp only [sumN]; rw [HS.out, hX])
          have hb1 := zsum_bd HF.out f (j + 1) (by omega)
          rw [HN.out] at hb1
          have f1 : IntKind.i64.wrap (S + X) = S + X := IntWalk.i64_in _ (by omega)
          have HLI := Lib.hid (HL5.out.below HWW.out)
          clear hX hb1
          go_wp2_with fail
          refine (balance_any F R g acc d (j : Int) f X 0 _ HLI.out HF.out HY.out HX.out).mono ?_
          rintro e w6 ⟨rfl, hb6⟩
          have HBN := Lib.hid (below_next HBI.out (Nat.le_refl _) hb6)
          clear hb6 c0
          go_wp2_with fail
          go_roundw
          case rel => exact ⟨j + 1, by omega, by rw [HN.out], by go_num, HBN⟩
          case measure => simp [intOf]; omega
        · have hS0 : S = 0 := by rw [← HS.out, show j = an by omega]; exact sumN_bal an f HAN.out d HF.out.lns
          subst hS0
          have hj2 : acc ≤ j := by have := HAN.out; omega
          have HBN := Lib.hid (below_next HBW.out (Nat.le_refl _) HBI.out)
          go_wp2_with fail
          go_roundw
          case rel => exact ⟨(k + 1) + 1, by omega, by go_num, HBN⟩
          case measure => simp [intOf]; omega
end Go.Proofs.Ytoammbjnejdgpaa
