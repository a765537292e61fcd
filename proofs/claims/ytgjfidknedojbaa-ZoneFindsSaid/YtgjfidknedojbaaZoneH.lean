/- The walks of Sure and Find. -/
import Derived.Test.YtgjfidknedojbaaZoneG
import Derived.WalkMore
namespace Go.Proofs.Ytgjfidknedojbaa
open Go.RowKit
set_option maxHeartbeats 4000000 in
set_option maxRecDepth 10000 in
theorem sure_any (A : Option Addr) (n c : Nat) (l : List Zn) (p : Pt) (r : Int) (x : Option Nat) (w : World) (h : ZR w A n l) (hn : n ≤ 9223372036854775807) (hnc : n ≤ c) (hx : sureZ l p r = x) : Calls Try.prog 16 #[.slice A n c, aggP p, .int .i64 r] w (RetIO w x) := by
  obtain ⟨kk, hK⟩ := box1K w 28 #[.int .i64 p.1, .int .i64 p.2]
  have HK := Lib.hid hK
  clear hK
  obtain ⟨B0, hbb⟩ := HK.out _ kk
  have c00 := B0.cell 0
  have c01 := B0.cell 1
  have HB := Lib.hid hbb
  clear B0 hbb
  have HL := Lib.hid h.2.2; have HX := Lib.hid hx
  have HZA : Hid (∀ u, Below w.heap.size w u → ZR u A n l) := Lib.hid fun u hu => h.below hu
  clear h hx
  go_enter Try.func16, Try.ntmps16
  (go_wp2_with fail; repeat (go_step3; go_wp2_with fail))
  refine (relation_any A n c l p r _ (HZA.out _ HB.out) hn hnc).mono ?_
  rintro e w1 ⟨hb1, h1⟩
  replace kk := below_next kk (Nat.le_refl _) hb1
  have HBB := Lib.hid (HK.out _ kk).2
  clear c00 c01 HB hb1 kk
  rcases h1 with ⟨ho, A1, n1, c1, A2, c2, rfl, ht, hcv, hn1⟩ | ⟨ho, rfl⟩
  · obtain rfl : n1 = n := by have := HL.out; omega
    have hn16 : n1 ≤ 16 := by have := okD_few ho; omega
    clear hn1
    obtain ⟨t, het⟩ : ∃ t, touchL l p r = t := ⟨_, rfl⟩
    obtain ⟨cv, hec⟩ : ∃ t, coverL l p r = t := ⟨_, rfl⟩
    rw [het] at ht; rw [hec] at hcv
    have HX2 : Hid (firstG l t cv = x) := Lib.hid (by rw [← het, ← hec, ← HX.out]; unfold sureZ; rw [if_pos ho])
    have HZ := Lib.hid (HZA.out _ HBB.out)
    have HT := Lib.hid ht; have HC := Lib.hid hcv
    clear het hec ho ht hcv
    (go_wp2_with fail; repeat (go_step3; go_wp2_with fail))
    go_loopw [11, 12, 28] (fun s1 s2 s wr => ∃ k : Nat, k ≤ n1 ∧ s1 = .bool false ∧ s2 = .int .i64 0 ∧ s = .int .i64 k ∧ Hid (∀ j, j < k → goodB l t cv j = false) ∧ Below w1.heap.size w1 wr) (fun _ _ s _ => n1 - (intOf s).toNat)
    case atStart => exact ⟨0, Nat.zero_le _, rfl, rfl, rfl, Lib.hid (fun _ h => absurd h (Nat.not_lt_zero _)), Below.refl _ _⟩
    case round =>
      obtain ⟨i, hi, rfl, rfl, rfl, HA, hbw⟩ := hrel
      obtain ⟨wo, rfl⟩ : ∃ wo : World, wo = wr := ⟨_, rfl⟩
      have HBO := Lib.hid hbw
      have HZo := Lib.hid (HZ.out.below hbw); have HTo := Lib.hid ((HT.out.below hbw).more hbw.size); have HCo := Lib.hid ((HC.out.below hbw).more hbw.size)
      clear hbw
      by_cases hlti : i < n1
      · have hil : i < l.length := by have := HL.out; omega
        obtain ⟨bm, om, rfl, hbm, hcm⟩ := marks_cells HCo.out (by omega)
        have e0 := hcm i hlti
        have hi0 : (0 : Int) ≤ i := by omega
        have hi1 : (i : Int) < n1 := by omega
        clear hcm
        obtain ⟨m, hm⟩ : ∃ m, mAt cv i = m := ⟨_, rfl⟩
        rw [hm] at e0
        have HM := Lib.hid hm
        clear hm
        rcases m with _ | _
        · have HA2 := Lib.hid (good_no HA.out (good_c HM.out))
          (go_wp2_with fail; repeat (go_step3; go_wp2_with fail))
          go_roundw
          case rel => exact ⟨i + 1, by omega, rfl, rfl, by go_num, HA2, HBO.out⟩
          case measure => simp [intOf]; omega
        · (go_wp2_with fail; repeat (go_step3; go_wp2_with fail))
          clear e0
          go_loopw [38] (fun s wr => ∃ k : Nat, k ≤ n1 ∧ s = .int .i64 k ∧ Hid (∀ j, j < k → mAt t j = true → (zAt l j).r ≤ (zAt l i).r) ∧ Below wo.heap.size wo wr) (fun s _ => n1 - (intOf s).toNat)
          case atStart => exact ⟨0, Nat.zero_le _, rfl, Lib.hid (fun _ h => absurd h (Nat.not_lt_zero _)), Below.refl _ _⟩
          case round =>
            obtain ⟨k, hk, rfl, HI, hbw⟩ := hrel
            have HBW := Lib.hid hbw
            have HZr := Lib.hid (HZo.out.below hbw); have HTr := Lib.hid ((HTo.out.below hbw).more hbw.size)
            clear hbw
            by_cases hlt : k < n1
            · have hkl : k < l.length := by have := HL.out; omega
              obtain ⟨b, off, rfl, hb, hc⟩ := HZr.out.cells (by omega)
              obtain ⟨bt, ot, rfl, hbt, hct⟩ := marks_cells HTr.out (by omega)
              obtain ⟨d0, d1, d2⟩ := hc k hkl
              obtain ⟨_, _, q2⟩ := hc i hil
              have e0 := hct k hlt
              have hk0 : (0 : Int) ≤ k := by omega
              have hk1 : (k : Int) < n1 := by omega
              have HAK := Lib.hid (zAt_get hkl); have HAI := Lib.hid (zAt_get hil)
              have HBJ := Lib.hid (HBW.out.alloc HBW.out.size (.cells #[.string l[k].s, .slice l[k].A l[k].n l[k].c, .int .i64 l[k].r] 45))
              obtain ⟨B1, _⟩ := box1 wr 45 #[.string l[k].s, .slice l[k].A l[k].n l[k].c, .int .i64 l[k].r]
              have f2 := (B1.cell 2).trans rfl
              have q2' : (wr.alloc (.cells #[.string l[k].s, .slice l[k].A l[k].n l[k].c, .int .i64 l[k].r] 45)).cell? ⟨b, off + i * 3 + 2, none⟩ = some (.int .i64 l[i].r) := (World.cell?_alloc_lt wr _ _ hb).trans q2
              have e0' : (wr.alloc (.cells #[.string l[k].s, .slice l[k].A l[k].n l[k].c, .int .i64 l[k].r] 45)).cell? ⟨bt, ot + k, none⟩ = some (.bool (mAt t k)) := (World.cell?_alloc_lt wr _ _ hbt).trans e0
              clear hc hct B1
              obtain ⟨u, hu⟩ : ∃ u, mAt t k = u := ⟨_, rfl⟩
              rw [hu] at e0 e0'
              have HT1 := Lib.hid hu
              clear hu
              by_cases hg : u = true ∧ l[i].r < l[k].r
              · obtain ⟨rfl, hgt⟩ := hg
                have HA2 := Lib.hid (good_no HA.out (good_a (c := cv) (above_yes hkl HT1.out (by rw [HAK.out, HAI.out]; exact hgt))))
                have HBZ := Lib.hid (below_next HBO.out (Nat.le_refl _) HBJ.out)
                have hd := decide_eq_true hgt
                (go_wp2_with fail; repeat (go_step3; go_wp2_with fail))
                go_quiet (fail)
                (go_wp2_with fail; repeat (go_step3; go_wp2_with fail))
                go_roundw
                case rel => exact ⟨i + 1, by omega, rfl, rfl, by go_num, HA2, below_drewN HBZ.out _⟩
                case measure => simp [intOf]; omega
              · have HI2 : Hid (∀ j, j < k + 1 → mAt t j = true → (zAt l j).r ≤ (zAt l i).r) := Lib.hid fun j hj h1 => by
                  rcases Nat.lt_or_ge j k with h2 | h2
                  · exact HI.out j h2 h1
                  · obtain rfl : j = k := by omega
                    rw [HAK.out, HAI.out]
                    exact Int.not_lt.mp fun h3 => hg ⟨by rw [← HT1.out]; exact h1, h3⟩
                rcases u with _ | _
                · clear hg
                  (go_wp2_with fail; repeat (go_step3; go_wp2_with fail))
                  go_quiet (fail)
                  (go_wp2_with fail; repeat (go_step3; go_wp2_with fail))
                  go_roundw
                  case rel => exact ⟨k + 1, by omega, by go_num, HI2, below_drewN HBJ.out _⟩
                  case measure => simp [intOf]; omega
                · have hle : ¬ l[i].r < l[k].r := fun e => hg ⟨rfl, e⟩
                  have hd := decide_eq_false hle
                  have hle2 : l[k].r ≤ l[i].r := by omega
                  clear hg hle
                  (go_wp2_with fail; repeat (go_step3; go_wp2_with fail))
                  go_quiet (fail)
                  (go_wp2_with fail; repeat (go_step3; go_wp2_with fail))
                  go_roundw
                  case rel => exact ⟨k + 1, by omega, by go_num, HI2, below_drewN HBJ.out _⟩
                  case measure => simp [intOf]; omega
            · have HX3 : Hid (some i = x) := Lib.hid (by rw [← HX2.out, firstG_some hil (good_yes HM.out (above_no fun j hj => HI.out j (by have := HL.out; omega))) HA.out])
              have HBZ := Lib.hid (below_next HBB.out (Nat.le_refl _) (below_next HBO.out (Nat.le_refl _) HBW.out))
              (go_wp2_with fail; repeat (go_step3; go_wp2_with fail))
              go_ret2
              exact retIO (x := some i) HX3.out HBZ.out
      · have hnone : none = x := by rw [← HX2.out, firstG_none fun j hj => HA.out j (by have := HL.out; omega)]
        have HNO := Lib.hid hnone
        have HBZ := Lib.hid (below_next HBB.out (Nat.le_refl _) HBO.out)
        clear hnone
        (go_wp2_with fail; repeat (go_step3; go_wp2_with fail))
        go_ret2
        exact retIO (x := none) HNO.out HBZ.out
  · have hnone : none = x := by rw [← HX.out]; unfold sureZ; rw [if_neg (by rw [ho]; decide)]
    have HNO := Lib.hid hnone
    clear hnone ho
    (go_wp2_with fail; repeat (go_step3; go_wp2_with fail))
    go_ret2
    exact retIO (x := none) HNO.out HBB.out
set_option maxHeartbeats 4000000 in
theorem find_any (A : Option Addr) (n c : Nat) (l : List Zn) (p : Pt) (x : Option Nat) (w : World) (h : ZR w A n l) (hn : n ≤ 9223372036854775807) (hnc : n ≤ c) (hx : sureZ l p 0 = x) : Calls Try.prog 14 #[.slice A n c, aggP p] w (RetIO w x) := by
  obtain ⟨kk, hK⟩ := box1K w 28 #[.int .i64 p.1, .int .i64 p.2]
  have HK := Lib.hid hK
  clear hK
  obtain ⟨B0, hbb⟩ := HK.out _ kk
  have c00 := B0.cell 0
  have c01 := B0.cell 1
  have HB := Lib.hid hbb
  clear B0 hbb
  have HX := Lib.hid hx
  have HZA : Hid (∀ u, Below w.heap.size w u → ZR u A n l) := Lib.hid fun u hu => h.below hu
  clear h hx
  go_enter Try.func14, Try.ntmps14
  go_wp2_with fail
  refine (sure_any A n c l p 0 x _ (HZA.out _ HB.out) hn hnc HX.out).mono ?_
  rintro e w1 ⟨rfl, hb1⟩
  have HBB := Lib.hid (HK.out _ (below_next kk (Nat.le_refl _) hb1)).2
  clear hb1
  go_wp2_with fail
  go_ret2
  exact retIO rfl HBB.out
end Go.Proofs.Ytgjfidknedojbaa
