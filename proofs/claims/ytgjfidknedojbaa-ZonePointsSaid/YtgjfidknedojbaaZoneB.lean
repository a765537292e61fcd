/- The walks of both Checks of zones. -/
import Derived.Test.YtgjfidknedojbaaZoneA
namespace Go.Proofs.Ytgjfidknedojbaa
open Go.RowKit
theorem zcheck_full {l : List Zn} (h : 16 < l.length) : zcheckZ l = 8 := if_pos h
theorem zcheck_one {l : List Zn} (h : ¬ 16 < l.length) (h1 : firstE l ≠ 0) : zcheckZ l = firstE l := by unfold zcheckZ; rw [if_neg h, if_pos h1]
theorem zcheck_twice {l : List Zn} (h : ¬ 16 < l.length) (h1 : firstE l = 0) (h2 : twins l = true) : zcheckZ l = 6 := by unfold zcheckZ; rw [if_neg h, if_neg (fun e => e h1), if_pos h2]
theorem zcheck_ok {l : List Zn} (h : ¬ 16 < l.length) (h1 : firstE l = 0) (h2 : twins l = false) : zcheckZ l = 0 := by unfold zcheckZ; rw [if_neg h, if_neg (fun e => e h1), if_neg (by rw [h2]; decide)]
theorem pos_twin {l : List Zn} {z : Zn} {i : Nat} : decide (0 ≤ posZ l z i) = true ↔ ∃ k, k < i ∧ twinB (zAt l k) z = true := by
  rw [decide_eq_true_eq]
  unfold posZ
  rcases h : (List.range i).find? (fun k => twinB (zAt l k) z) with _ | k
  · rw [List.find?_range_eq_none] at h
    constructor
    · intro h0; exact absurd h0 (by decide)
    · rintro ⟨k, hk, h1⟩
      have := h k hk
      rw [h1] at this; exact absurd this (by decide)
  · rw [List.find?_range_eq_some] at h
    exact ⟨fun _ => ⟨k, by simpa using h.2.1, h.1⟩, fun _ => by simp⟩
set_option maxHeartbeats 4000000 in
set_option maxRecDepth 10000 in
theorem zcheck_any (A : Option Addr) (n c : Nat) (l : List Zn) (x : Int) (w : World) (h : ZR w A n l) (hn : n ≤ 9223372036854775807) (hnc : n ≤ c) (hx : zcheckZ l = x) : Calls Try.prog 12 #[.slice A n c] w (RetI w x) := by
  have HZ := Lib.hid h; have HX := Lib.hid hx; have HL := Lib.hid h.2.2
  have hmf : ∀ (fn : Fn) (first cap : Array Value) (w : World), (Instr.makeFunc fn first cap).run Try.prog w = .ok (.func fn first cap) w := fun _ _ _ _ => rfl
  clear h hx
  by_cases hf : 16 < n
  · have HX2 : Hid (8 = x) := Lib.hid (by rw [← HX.out, zcheck_full (by have := HL.out; omega)])
    go_enter Try.func12, Try.ntmps12
    go_wp2_with fail
    go_ret
    exact ⟨ret_int HX2.out, Below.refl _ _⟩
  have hn16 : n ≤ 16 := by omega
  have HN : Hid (¬ 16 < l.length) := Lib.hid (by have := HL.out; omega)
  clear hf
  go_enter Try.func12, Try.ntmps12
  go_wp2_with fail
  go_loopw [13] (fun s wr => ∃ k : Nat, k ≤ n ∧ s = .int .i64 k ∧ Hid (firstE (l.drop k) = firstE l) ∧ Below w.heap.size w wr) (fun s _ => n - (intOf s).toNat)
  case atStart => exact ⟨0, Nat.zero_le _, rfl, Lib.hid rfl, Below.refl _ _⟩
  case round =>
    obtain ⟨k, hk, rfl, HF, hbw⟩ := hrel
    have HBW := Lib.hid hbw
    have HZr := Lib.hid (HZ.out.below hbw)
    clear hbw
    by_cases hlt : k < n
    · have hkl : k < l.length := by have := HL.out; omega
      obtain ⟨b, off, rfl, hb, hc⟩ := HZr.out.cells (by omega)
      obtain ⟨d0, d1, d2⟩ := hc k hkl
      have hk0 : (0 : Int) ≤ k := by omega
      have hk1 : (k : Int) < n := by omega
      have HST := Lib.hid (firstE_step hkl)
      obtain ⟨z, hz⟩ : ∃ z, l[k] = z := ⟨_, rfl⟩
      rw [hz] at d0 d1 d2 HST
      have HOK : Hid (Reads wr wr.heap.size 2 z.A z.n (cellsPt z.p) ∧ z.n ≤ 9223372036854775807 ∧ z.s.size ≤ maxLen) := Lib.hid (by rw [← hz]; exact HZr.out.2.1 _ (List.getElem_mem hkl))
      obtain ⟨B0, hbb⟩ := box1 wr 45 #[.string z.s, .slice z.A z.n z.c, .int .i64 z.r]
      have HB0 := Lib.hid B0; have HBB := Lib.hid hbb
      have HB1 := Lib.hid (below_next HBW.out (Nat.le_refl _) hbb)
      have e0 := (B0.cell 0).trans rfl; have e1 := (B0.cell 1).trans rfl; have e2 := (B0.cell 2).trans rfl
      have hzn := HOK.out.2.1
      clear hc hz B0 hbb
      rcases hv : validS z.s with _ | _
      · have HX2 : Hid (5 = x) := Lib.hid (by
          have h1 : oneZ z = 5 := by unfold oneZ; rw [if_pos hv]
          have h2 : firstE l = 5 := by rw [← HF.out, HST.out, h1, if_pos (by decide)]
          rw [← HX.out, zcheck_one HN.out (by rw [h2]; decide), h2])
        have HV : Hid (∀ u, Calls Try.prog 26 #[.string z.s] u fun e w' => e = .returned (.bool false) ∧ u = w') := Lib.hid fun u => by have := idvalid_any z.s HOK.out.2.2 u; rw [hv] at this; exact this
        clear hv
        go_wp2_with fail
        refine (HV.out _).mono ?_
        rintro e w1 ⟨rfl, rfl⟩
        go_wp2_with fail
        go_ret
        exact ⟨ret_int HX2.out, HB1.out⟩
      have HV : Hid (∀ u, Calls Try.prog 26 #[.string z.s] u fun e w' => e = .returned (.bool true) ∧ u = w') := Lib.hid fun u => by have := idvalid_any z.s HOK.out.2.2 u; rw [hv] at this; exact this
      have HV1 := Lib.hid hv
      clear hv
      obtain ⟨y, hy⟩ : ∃ y, checkZ z.p = y := ⟨_, rfl⟩
      have HY := Lib.hid hy
      by_cases h0 : y = 0
      · subst h0
        have hone := oneZ_rank HV1.out hy
        have hcs : (z.r < 0 ∧ oneZ z = 1) ∨ (0 ≤ z.r ∧ 1000000 < z.r ∧ oneZ z = 1) ∨ (0 ≤ z.r ∧ z.r ≤ 1000000 ∧ oneZ z = 0) := by
          by_cases g : z.r < 0 ∨ 1000000 < z.r
          · rw [if_pos g] at hone; omega
          · rw [if_neg g] at hone; omega
        clear hy hone
        have hbad : oneZ z = 1 → 1 = x := fun h1 => by
          have h2 : firstE l = 1 := by rw [← HF.out, HST.out, h1, if_pos (by decide)]
          rw [← HX.out, zcheck_one HN.out (by rw [h2]; decide), h2]
        have HBAD := Lib.hid hbad
        clear hbad
        rcases hcs with ⟨g1, h1⟩ | ⟨g1, g2, h1⟩ | ⟨g1, g2, h1⟩
        · have HX2 := Lib.hid (HBAD.out h1)
          clear h1
          go_wp2_with fail
          refine (HV.out _).mono ?_
          rintro e w1 ⟨rfl, rfl⟩
          go_wp2_with fail
          refine (check_any z.A z.n z.c z.p 0 _ ((HOK.out.1.below HBB.out).more HBB.out.size) hzn HY.out).mono ?_
          rintro e w2 ⟨rfl, hb2⟩
          have HB2 := Lib.hid (below_next HB1.out (Nat.le_refl _) hb2)
          have x0 := HB0.out.ofBelow hb2
          clear hb2 e0 e1 e2
          have e2 := (x0.cell 2).trans rfl
          clear x0
          go_wp2_with fail
          go_ret
          exact ⟨ret_int HX2.out, HB2.out⟩
        · have HX2 := Lib.hid (HBAD.out h1)
          clear h1
          go_wp2_with fail
          refine (HV.out _).mono ?_
          rintro e w1 ⟨rfl, rfl⟩
          go_wp2_with fail
          refine (check_any z.A z.n z.c z.p 0 _ ((HOK.out.1.below HBB.out).more HBB.out.size) hzn HY.out).mono ?_
          rintro e w2 ⟨rfl, hb2⟩
          have HB2 := Lib.hid (below_next HB1.out (Nat.le_refl _) hb2)
          have x0 := HB0.out.ofBelow hb2
          clear hb2 e0 e1 e2
          have e2 := (x0.cell 2).trans rfl
          clear x0
          go_wp2_with fail
          go_ret
          exact ⟨ret_int HX2.out, HB2.out⟩
        · have HF2 : Hid (firstE (l.drop (k + 1)) = firstE l) := Lib.hid (by rw [← HF.out, HST.out, if_neg (fun e => e h1)])
          clear h1
          go_wp2_with fail
          refine (HV.out _).mono ?_
          rintro e w1 ⟨rfl, rfl⟩
          go_wp2_with fail
          refine (check_any z.A z.n z.c z.p 0 _ ((HOK.out.1.below HBB.out).more HBB.out.size) hzn HY.out).mono ?_
          rintro e w2 ⟨rfl, hb2⟩
          have HB2 := Lib.hid (below_next HB1.out (Nat.le_refl _) hb2)
          have x0 := HB0.out.ofBelow hb2
          clear hb2 e0 e1 e2
          have e2 := (x0.cell 2).trans rfl
          clear x0
          go_wp2_with fail
          go_roundw
          case rel => exact ⟨k + 1, by omega, by go_num, HF2, HB2.out⟩
          case measure => simp [intOf]; omega
      · have HX2 : Hid (y = x) := Lib.hid (by
          have h1 : oneZ z = y := by unfold oneZ; rw [if_neg (by rw [HV1.out]; decide), if_pos (by rw [hy]; exact h0), hy]
          have h2 : firstE l = y := by rw [← HF.out, HST.out, h1, if_pos h0]
          rw [← HX.out, zcheck_one HN.out (by rw [h2]; exact h0), h2])
        have t0 := ne0_t h0
        clear hy h0
        go_wp2_with fail
        refine (HV.out _).mono ?_
        rintro e w1 ⟨rfl, rfl⟩
        go_wp2_with fail
        refine (check_any z.A z.n z.c z.p y _ ((HOK.out.1.below HBB.out).more HBB.out.size) hzn HY.out).mono ?_
        rintro e w2 ⟨rfl, hb2⟩
        have HB2 := Lib.hid (below_next HB1.out (Nat.le_refl _) hb2)
        clear hb2 e0 e1 e2
        go_wp2_with fail
        go_ret
        exact ⟨ret_int HX2.out, HB2.out⟩
    · have HFE : Hid (firstE l = 0) := Lib.hid (by rw [← HF.out, firstE_end (by have := HL.out; omega)])
      obtain ⟨wa, rfl⟩ : ∃ wa : World, wa = wr := ⟨_, rfl⟩
      go_wp2_with fail
      go_loopw [38] (fun s wr => ∃ i : Nat, i ≤ n ∧ s = .int .i64 i ∧ Hid (∀ j k, j < i → k < j → twinB (zAt l k) (zAt l j) = false) ∧ Below wa.heap.size wa wr) (fun s _ => n - (intOf s).toNat)
      case atStart => exact ⟨0, Nat.zero_le _, rfl, Lib.hid (fun _ _ h _ => absurd h (Nat.not_lt_zero _)), Below.refl _ _⟩
      case round =>
        obtain ⟨i, hi, rfl, HA, hbw⟩ := hrel
        have HBO := Lib.hid (below_next HBW.out (Nat.le_refl _) hbw)
        have HBZ := Lib.hid hbw
        have HZo := Lib.hid (HZr.out.below hbw)
        clear hbw
        by_cases hlt : i < n
        · have hil : i < l.length := by have := HL.out; omega
          obtain ⟨b, off, hAe, hb, hc⟩ := HZo.out.cells (by omega)
          subst hAe
          obtain ⟨d0, d1, d2⟩ := hc i hil
          have hi0 : (0 : Int) ≤ i := by omega
          have hi1 : (i : Int) < n := by omega
          have hic : (i : Int) ≤ c := by omega
          have HAT := Lib.hid (zAt_get hil)
          obtain ⟨B0, hbb⟩ := box1 wr 45 #[.string l[i].s, .slice l[i].A l[i].n l[i].c, .int .i64 l[i].r]
          have HB0 := Lib.hid B0; have HBB := Lib.hid hbb
          have HZ2 := Lib.hid (HZo.out.below hbb)
          clear hc B0 hbb
          obtain ⟨y, hy⟩ : ∃ y, decide (0 ≤ posZ l l[i] i) = y := ⟨_, rfl⟩
          have HY := Lib.hid hy
          rcases y with _ | _
          · have HA2 : Hid (∀ j k, j < i + 1 → k < j → twinB (zAt l k) (zAt l j) = false) := Lib.hid fun j k hj hk => by
              rcases Nat.lt_or_ge j i with h1 | h1
              · exact HA.out j k h1 hk
              · obtain rfl : j = i := by omega
                rcases ht : twinB (zAt l k) (zAt l j) with _ | _
                · rfl
                · rw [HAT.out] at ht
                  rw [pos_twin.2 ⟨k, hk, ht⟩] at hy
                  exact absurd hy (by decide)
            clear hy
            go_wp2_with fail
            refine (zcontains_any _ n c i l l[i] wr.heap.size false _ HZ2.out (by omega) (by omega) HB0.out HY.out).mono ?_
            rintro e w2 ⟨rfl, hb2⟩
            have HB2 := Lib.hid (below_next HBZ.out (Nat.le_refl _) (below_next HBB.out (Nat.le_refl _) hb2))
            clear hb2
            go_wp2_with fail
            go_roundw
            case rel => exact ⟨i + 1, by omega, by go_num, HA2, HB2.out⟩
            case measure => simp [intOf]; omega
          · have HX2 : Hid (6 = x) := Lib.hid (by
              obtain ⟨k, hk, ht⟩ := pos_twin.1 hy
              rw [← HX.out, zcheck_twice HN.out HFE.out (twins_yes hil hk (by rw [HAT.out]; exact ht))])
            clear hy
            go_wp2_with fail
            refine (zcontains_any _ n c i l l[i] wr.heap.size true _ HZ2.out (by omega) (by omega) HB0.out HY.out).mono ?_
            rintro e w2 ⟨rfl, hb2⟩
            have HB2 := Lib.hid (below_next HBO.out (Nat.le_refl _) (below_next HBB.out (Nat.le_refl _) hb2))
            clear hb2
            go_wp2_with fail
            go_ret
            exact ⟨ret_int HX2.out, HB2.out⟩
        · have HX2 : Hid (0 = x) := Lib.hid (by rw [← HX.out, zcheck_ok HN.out HFE.out (twins_no fun j k hj hk => HA.out j k (by have := HL.out; omega) hk)])
          go_wp2_with fail
          go_ret
          exact ⟨ret_int HX2.out, HBO.out⟩
end Go.Proofs.Ytgjfidknedojbaa
