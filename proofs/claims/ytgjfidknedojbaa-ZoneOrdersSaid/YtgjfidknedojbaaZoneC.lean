/- The walk of the reference's Check of zones. -/
import Derived.Test.YtgjfidknedojbaaZoneB
namespace Go.Proofs.Ytgjfidknedojbaa
open Go.RowKit
set_option maxHeartbeats 4000000 in
set_option maxRecDepth 10000 in
theorem rzcheck_any (A : Option Addr) (n c : Nat) (l : List Zn) (x : Int) (w : World) (h : ZR w A n l) (hn : n ≤ 9223372036854775807) (hx : zcheckZ l = x) : Calls Try.prog 13 #[.slice A n c] w (RetI w x) := by
  have HZ := Lib.hid h; have HX := Lib.hid hx; have HL := Lib.hid h.2.2
  clear h hx
  by_cases hf : 16 < n
  · have HX2 : Hid (8 = x) := Lib.hid (by rw [← HX.out, zcheck_full (by have := HL.out; omega)])
    go_enter Try.func13, Try.ntmps13
    go_wp2_with fail
    go_ret
    exact ⟨ret_int HX2.out, Below.refl _ _⟩
  have hn16 : n ≤ 16 := by omega
  have HN : Hid (¬ 16 < l.length) := Lib.hid (by have := HL.out; omega)
  clear hf
  go_enter Try.func13, Try.ntmps13
  go_wp2_with fail
  go_loopw [3] (fun s wr => ∃ k : Nat, k ≤ n ∧ s = .int .i64 k ∧ Hid (firstE (l.drop k) = firstE l) ∧ Below w.heap.size w wr) (fun s _ => n - (intOf s).toNat)
  case atStart => exact ⟨0, Nat.zero_le _, rfl, Lib.hid rfl, Below.refl _ _⟩
  case round =>
    obtain ⟨k, hk, rfl, HF, hbw⟩ := hrel
    have HBW := Lib.hid hbw
    have HZr := Lib.hid (HZ.out.below hbw)
    clear hbw
    by_cases hlt : k < n
    · have hkl : k < l.length := by have := HL.out; omega
      obtain ⟨b, off, rfl, hb, hc⟩ := HZr.out.cells (by omega)
      obtain ⟨d0, d1, d2⟩ := hc k hkl
      have hk0 : (0 : Int) ≤ k := by omega
      have hk1 : (k : Int) < n := by omega
      have HST := Lib.hid (firstE_step hkl)
      have HOK := Lib.hid (HZr.out.2.1 _ (List.getElem_mem hkl))
      obtain ⟨y, hy⟩ : ∃ y, oneZ l[k] = y := ⟨_, rfl⟩
      have HY := Lib.hid hy
      clear hc
      by_cases h0 : y = 0
      · subst h0
        have HF2 : Hid (firstE (l.drop (k + 1)) = firstE l) := Lib.hid (by rw [← HF.out, HST.out, if_neg (fun e => e hy)])
        clear hy
        go_wp2_with fail
        refine (one_any l[k] 0 _ HOK.out.1 HOK.out.2.1 HOK.out.2.2 HY.out).mono ?_
        rintro e w1 ⟨rfl, hb1⟩
        have HB1 := Lib.hid (below_next HBW.out (Nat.le_refl _) hb1)
        clear hb1
        go_wp2_with fail
        go_roundw
        case rel => exact ⟨k + 1, by omega, by go_num, HF2, HB1.out⟩
        case measure => simp [intOf]; omega
      · have HX2 : Hid (y = x) := Lib.hid (by
          have h2 : firstE l = y := by rw [← HF.out, HST.out, hy, if_pos h0]
          rw [← HX.out, zcheck_one HN.out (by rw [h2]; exact h0), h2])
        have t0 := ne0_t h0
        clear hy h0
        go_wp2_with fail
        refine (one_any l[k] y _ HOK.out.1 HOK.out.2.1 HOK.out.2.2 HY.out).mono ?_
        rintro e w1 ⟨rfl, hb1⟩
        have HB1 := Lib.hid (below_next HBW.out (Nat.le_refl _) hb1)
        clear hb1
        go_wp2_with fail
        go_ret
        exact ⟨ret_int HX2.out, HB1.out⟩
    · have HFE : Hid (firstE l = 0) := Lib.hid (by rw [← HF.out, firstE_end (by have := HL.out; omega)])
      obtain ⟨wa, rfl⟩ : ∃ wa : World, wa = wr := ⟨_, rfl⟩
      go_wp2_with fail
      go_loopw [5] (fun s wr => ∃ i : Nat, i ≤ n ∧ s = .int .i64 i ∧ Hid (∀ j k, j < i → k < j → twinB (zAt l k) (zAt l j) = false) ∧ Below wa.heap.size wa wr) (fun s _ => n - (intOf s).toNat)
      case atStart => exact ⟨0, Nat.zero_le _, rfl, Lib.hid (fun _ _ h _ => absurd h (Nat.not_lt_zero _)), Below.refl _ _⟩
      case round =>
        obtain ⟨wo, rfl⟩ : ∃ wo : World, wo = wr := ⟨_, rfl⟩
        obtain ⟨i, hi, rfl, HA, hbw⟩ := hrel
        have HBO := Lib.hid hbw
        clear hbw
        by_cases hlt : i < n
        · have hil : i < l.length := by have := HL.out; omega
          go_wp2_with fail
          go_loopw [6] (fun s wz => ∃ j : Nat, j ≤ i ∧ s = .int .i64 j ∧ Hid (∀ k, k < j → twinB (zAt l k) (zAt l i) = false) ∧ Below wa.heap.size wa wz) (fun s _ => i - (intOf s).toNat)
          case atStart => exact ⟨0, Nat.zero_le _, rfl, Lib.hid (fun _ h => absurd h (Nat.not_lt_zero _)), HBO.out⟩
          case round =>
            obtain ⟨wz, rfl⟩ : ∃ wz : World, wz = wr := ⟨_, rfl⟩
            obtain ⟨j, hj, rfl, HQ, hbz⟩ := hrel
            have HBZ := Lib.hid hbz
            have HZz := Lib.hid (HZr.out.below hbz)
            clear hbz
            by_cases hjl : j < i
            · have hjl2 : j < l.length := by omega
              obtain ⟨b, off, rfl, hb, hc⟩ := HZz.out.cells (by omega)
              obtain ⟨d0, _, d2⟩ := hc i hil
              obtain ⟨e0, _, e2⟩ := hc j hjl2
              have hj0 : (0 : Int) ≤ j := by omega
              have hj1 : (j : Int) < n := by omega
              have hi0 : (0 : Int) ≤ i := by omega
              have hi1 : (i : Int) < n := by omega
              have hij : (j : Int) < i := by omega
              have HAI := Lib.hid (zAt_get hil); have HAJ := Lib.hid (zAt_get hjl2)
              clear hc
              obtain ⟨y, hy⟩ : ∃ y, twinB l[j] l[i] = y := ⟨_, rfl⟩
              have HY := Lib.hid hy
              rw [twin_eq] at hy
              have hcs : ((l[j].s.toList == l[i].s.toList) = true ∧ y = true) ∨ ((l[j].s.toList == l[i].s.toList) = false ∧ (l[j].r == l[i].r) = true ∧ y = true) ∨ ((l[j].s.toList == l[i].s.toList) = false ∧ (l[j].r == l[i].r) = false ∧ y = false) := by
                rcases h1 : (l[j].s.toList == l[i].s.toList) with _ | _
                · rw [h1] at hy
                  by_cases h2 : l[j].r = l[i].r
                  · exact .inr (.inl ⟨rfl, by simp [h2], by rw [← hy]; simp [h2]⟩)
                  · exact .inr (.inr ⟨rfl, by simp [h2], by rw [← hy]; simp [h2]⟩)
                · rw [h1] at hy
                  exact .inl ⟨rfl, hy.symm⟩
              clear hy
              have hbad : y = true → 6 = x := fun h1 => by
                rw [← HX.out, zcheck_twice HN.out HFE.out (twins_yes hil hjl (by rw [HAI.out, HAJ.out, HY.out, h1]))]
              have HBAD := Lib.hid hbad
              clear hbad
              rcases hcs with ⟨t1, rfl⟩ | ⟨t1, t2, rfl⟩ | ⟨t1, t2, rfl⟩
              · have HX2 := Lib.hid (HBAD.out rfl)
                go_wp2_with fail
                go_quiet (fail)
                go_wp2_with fail
                go_ret
                exact ⟨ret_int HX2.out, below_drewN (below_next HBW.out (Nat.le_refl _) HBZ.out) _⟩
              · have HX2 := Lib.hid (HBAD.out rfl)
                go_wp2_with fail
                go_quiet (fail)
                go_wp2_with fail
                go_ret
                exact ⟨ret_int HX2.out, below_drewN (below_next HBW.out (Nat.le_refl _) HBZ.out) _⟩
              · go_wp2_with fail
                go_quiet (fail)
                go_wp2_with fail
                go_roundw
                case rel => exact ⟨j + 1, by omega, by go_num, Lib.hid (fun q hq => by
                  rcases Nat.lt_or_ge q j with h1 | h1
                  · exact HQ.out q h1
                  · have : q = j := by omega
                    subst this; rw [HAI.out, HAJ.out]; exact HY.out), below_drewN HBZ.out _⟩
                case measure => simp [intOf]; omega
            · have HA2 : Hid (∀ j k, j < i + 1 → k < j → twinB (zAt l k) (zAt l j) = false) := Lib.hid fun q k hq hk => by
                rcases Nat.lt_or_ge q i with h1 | h1
                · exact HA.out q k h1 hk
                · obtain rfl : q = i := by omega
                  exact HQ.out k (by omega)
              go_wp2_with fail
              go_roundw
              case rel => exact ⟨i + 1, by omega, by go_num, HA2, HBZ.out⟩
              case measure => simp [intOf]; omega
        · have HX2 : Hid (0 = x) := Lib.hid (by rw [← HX.out, zcheck_ok HN.out HFE.out (twins_no fun j k hj hk => HA.out j k (by have := HL.out; omega) hk)])
          go_wp2_with fail
          go_ret
          exact ⟨ret_int HX2.out, below_next HBW.out (Nat.le_refl _) HBO.out⟩
end Go.Proofs.Ytgjfidknedojbaa
