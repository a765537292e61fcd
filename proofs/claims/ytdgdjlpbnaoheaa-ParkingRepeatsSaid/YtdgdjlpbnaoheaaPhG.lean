/- Marks: the program's walk. -/
import Derived.Test.YtdgdjlpbnaoheaaPhF
import Derived.Deep.RegionHeld3
import Derived.Deep.CutRange
namespace Go.Proofs.Ytdgdjlpbnaoheaa
open Go.RowKit
theorem storeCellsI (f : Nat → Int) (v : World) : (storeCells ⟨v.heap.size, 0, none⟩ (arrI f).toList).run Try.prog (v.alloc (.cells (arrI fun _ => 0) 108)) = .ok () ((v.alloc (.cells (arrI fun _ => 0) 108)).setCells v.heap.size 0 (arrI f).toList) := by
  have hB := Blk.new v 108 (arrI fun _ => 0)
  refine run_storeCells_cells (P := Try.prog) v.heap.size 0 (arrI f).toList 0 _ (fun j hj => ?_) (fun j hj => ?_) (fun u hu => ?_)
  · rw [Array.length_toList, arrI_size] at hj
    simp only [Nat.zero_add]
    rw [hB.cell, arrI_get _ hj]; rfl
  · simp only [Nat.zero_add]
    exact hB.frozen j
  · exact (Array.all_eq_true_iff_forall_mem.1 (arrI_one f)) u (by simpa using hu)
theorem setCellsI (f : Nat → Int) (v : World) : ∀ k, k < 144 → ((v.alloc (.cells (arrI fun _ => 0) 108)).setCells v.heap.size 0 (arrI f).toList).cell? ⟨v.heap.size, k, none⟩ = some (.int .i64 (f k)) := fun k hk => by
  have hB := Blk.new v 108 (arrI fun _ => 0)
  have hth := arrI_there hB
  have := World.rangeAt_setCells_same _ _ _ (arrI f).toList (by rw [Array.length_toList, arrI_size]; rw [arrI_size] at hth; exact hth) k (.int .i64 (f k)) (by rw [Array.getElem?_toList]; exact arrI_get f hk)
  rwa [Nat.zero_add] at this
theorem setCellsB (f : Nat → Int) (v : World) {B : Nat} {u : World} (h : Below B u v) (hB : B ≤ v.heap.size) (hB2 : B ≤ u.heap.size) : Below B u ((v.alloc (.cells (arrI fun _ => 0) 108)).setCells v.heap.size 0 (arrI f).toList) :=
  below_setCells (below_alloc h hB2 _) hB _ _
theorem gridF_S (px : List Int) (W H : Nat) {r c : Nat} (hr : r < 8) (hc : c < 9) : gridF px W H 72 (r * 18 + c * 2) = cellS px W H c r := by
  unfold gridF
  rw [if_pos (by omega), if_pos (by omega), show (r * 18 + c * 2) / 2 % 9 = c by omega, show (r * 18 + c * 2) / 2 / 9 = r by omega]
theorem gridF_N (px : List Int) (W H : Nat) {r c : Nat} (hr : r < 8) (hc : c < 9) : gridF px W H 72 (r * 18 + c * 2 + 1) = (cellN W H c r : Int) := by
  unfold gridF
  rw [if_pos (by omega), if_neg (by omega), show (r * 18 + c * 2 + 1) / 2 % 9 = c by omega, show (r * 18 + c * 2 + 1) / 2 / 9 = r by omega]
set_option maxHeartbeats 4000000 in
set_option maxRecDepth 10000 in
theorem mark_any (p : Ph) (m : Nat) (x : Int) (w : World) (h : PR w p) (hm : markN p = m) (hx : pcheckZ p = x) : Calls Try.prog 50 #[aggF p] w (RetUE w m x) := by
  obtain ⟨kk, hK⟩ := box1K w 46 #[.int .i64 p.ride, .int .i64 p.tm, .int .i64 p.W, .int .i64 p.H, .slice p.A p.n p.c]
  have HK := Lib.hid hK
  clear hK
  obtain ⟨B0, hbb⟩ := HK.out _ kk
  have c00 := B0.cell 0
  have c01 := B0.cell 1
  have c02 := B0.cell 2
  have c03 := B0.cell 3
  have c04 := B0.cell 4
  have HB := Lib.hid hbb
  clear B0 hbb
  have HPA : Hid (∀ u, Below w.heap.size w u → PR u p) := Lib.hid fun u hu => h.below hu
  have HBY := Lib.hid h.2.1
  have HX := Lib.hid hx
  by_cases h0 : x = 0
  · subst h0
    obtain ⟨W, H, hW, hH, hW1, hW2, hH1, hH2, hn⟩ := ph_dims hx
    have HM : Hid (markTo (bitM p.px W H) 64 = m) := Lib.hid (by rw [← hm]; unfold markN; rw [if_pos hx, hW, hH]; rfl)
    have HW := Lib.hid hW; have HH := Lib.hid hH; have HN := Lib.hid hn
    obtain ⟨f, hf⟩ : ∃ f, gridF p.px W H 72 = f := ⟨_, rfl⟩
    have HF := Lib.hid hf
    have hz := zeroCells
    have hi : (Try.prog.info? 108).map (·.size) = some 144 := by kernel_rfl
    have HI := Lib.hid hi
    clear h hm hx hW hH hn hf hi
    go_enter Try.func50, Try.ntmps50
    go_wp2_with fail
    refine (pcheck_any p 0 _ HX.out).mono ?_
    rintro e w1 ⟨rfl, hb1⟩
    replace kk := below_next kk (Nat.le_refl _) hb1
    clear c00 c01 c02 c03 c04 HB hb1
    obtain ⟨B0, hbb⟩ := HK.out _ kk
    have c00 := B0.cell 0
    have c01 := B0.cell 1
    have c02 := B0.cell 2
    have c03 := B0.cell 3
    have c04 := B0.cell 4
    have HB := Lib.hid hbb
    clear B0 hbb
    go_wp2_with fail
    refine (cells_any p W H f _ (HPA.out _ HB.out) HW.out HH.out hW1 hW2 hH1 hH2 HN.out HF.out).mono ?_
    rintro e w2 ⟨rfl, hb2⟩
    replace kk := below_next kk (Nat.le_refl _) hb2
    clear c00 c01 c02 c03 c04 HB hb2
    obtain ⟨B0, hbb⟩ := HK.out _ kk
    have c00 := B0.cell 0
    have c01 := B0.cell 1
    have c02 := B0.cell 2
    have c03 := B0.cell 3
    have c04 := B0.cell 4
    have HB := Lib.hid hbb
    clear B0 hbb
    have hst := storeCellsI f
    obtain ⟨wS, hwS⟩ : ∃ wS, (w2.alloc (.cells (arrI fun _ => 0) 108)).setCells w2.heap.size 0 (arrI f).toList = wS := ⟨_, rfl⟩
    have HCELL : Hid (∀ k, k < 144 → wS.cell? ⟨w2.heap.size, k, none⟩ = some (.int .i64 (f k))) := Lib.hid (by rw [← hwS]; exact setCellsI f w2)
    have HBS : Hid (Below w.heap.size w wS) := Lib.hid (by rw [← hwS]; exact setCellsB f w2 HB.out HB.out.size (Nat.le_refl _))
    have hlt2 : w2.heap.size < wS.heap.size := World.block_lt_of_cell? wS ⟨w2.heap.size, 0, none⟩ (HCELL.out 0 (by decide))
    have HWS := Lib.hid hwS
    clear hwS kk HB
    go_wp2_with fail
    rw [HWS.out]
    clear hz hst c00 c01 c02 c03 c04
    obtain ⟨g, hg⟩ : ∃ g, w2.heap.size = g := ⟨_, rfl⟩
    rw [hg] at HCELL hlt2
    rw [hg]
    clear hg HWS
    go_loopw [6, 18] (fun s6 s18 wr => ∃ (r t : Nat), r ≤ 8 ∧ s18 = .int .i64 r ∧ s6 = .int .u64 (t : Int) ∧ Hid (markTo (bitM p.px W H) (8 * r) = t) ∧ Below wS.heap.size wS wr) (fun _ s _ => 8 - (intOf s).toNat)
    case atStart => exact ⟨0, 0, by decide, rfl, rfl, Lib.hid rfl, Below.refl _ _⟩
    case round =>
      obtain ⟨wo, rfl⟩ : ∃ wo : World, wo = wr := ⟨_, rfl⟩
      obtain ⟨r, t, hr, rfl, rfl, HT, hbw⟩ := hrel
      have HBO := Lib.hid hbw
      clear hbw
      by_cases hlt : r < 8
      · have hr8 : (r : Int) < 8 := by omega
        go_wp2_with fail
        go_loopw [6, 21] (fun s6 s21 wr => ∃ (c t : Nat), c ≤ 8 ∧ s21 = .int .i64 c ∧ s6 = .int .u64 (t : Int) ∧ Hid (markTo (bitM p.px W H) (8 * r + c) = t) ∧ Below wS.heap.size wS wr) (fun _ s _ => 8 - (intOf s).toNat)
        case atStart => exact ⟨0, t, by decide, rfl, rfl, Lib.hid HT.out, HBO.out⟩
        case round =>
          obtain ⟨wz, rfl⟩ : ∃ wz : World, wz = wr := ⟨_, rfl⟩
          obtain ⟨c, u, hc, rfl, rfl, HU, hbz⟩ := hrel
          have HBZ := Lib.hid hbz
          by_cases hlc : c < 8
          · have hc8 : (c : Int) < 8 := by omega
            have hr0 : (0 : Int) ≤ r := by omega
            have hc0 : (0 : Int) ≤ c := by omega
            have hc9 : (c : Int) + 1 < 9 := by omega
            have hc90 : (c : Int) < 9 := by omega
            have hc91 : (0 : Int) ≤ (c : Int) + 1 := by omega
            have hc92 := wr_ (n := (c : Int) + 1) (by omega)
            have hc93 : ((c : Int) + 1).toNat = c + 1 := by omega
            have h1 := cellS_bd (px := p.px) HBY.out (W := W) (H := H) (c := c) (r := r) (by omega) (by omega) hW2 hH2
            have h2 := cellS_bd (px := p.px) HBY.out (W := W) (H := H) (c := c + 1) (r := r) (by omega) (by omega) hW2 hH2
            have h3 := cellN_bd (W := W) (H := H) (c := c) (r := r) (by omega) (by omega) hW2 hH2
            have h4 := cellN_bd (W := W) (H := H) (c := c + 1) (r := r) (by omega) (by omega) hW2 hH2
            have e1 := (hbz.cell (p := ⟨g, r * 18 + c * 2, none⟩) hlt2).trans (HCELL.out (r * 18 + c * 2) (by omega))
            have e2 := (hbz.cell (p := ⟨g, r * 18 + c * 2 + 1, none⟩) hlt2).trans (HCELL.out (r * 18 + c * 2 + 1) (by omega))
            have e3 := (hbz.cell (p := ⟨g, r * 18 + (c + 1) * 2, none⟩) hlt2).trans (HCELL.out (r * 18 + (c + 1) * 2) (by omega))
            have e4 := (hbz.cell (p := ⟨g, r * 18 + (c + 1) * 2 + 1, none⟩) hlt2).trans (HCELL.out (r * 18 + (c + 1) * 2 + 1) (by omega))
            rw [← HF.out, gridF_S _ _ _ hlt (by omega)] at e1
            rw [← HF.out, gridF_N _ _ _ hlt (by omega)] at e2
            rw [← HF.out, gridF_S _ _ _ hlt (by omega)] at e3
            rw [← HF.out, gridF_N _ _ _ hlt (by omega)] at e4
            have hul : u < 18446744073709551616 := by
              have := markTo_lt (bitM p.px W H) (8 * r + c)
              rw [HU.out] at this
              exact Nat.lt_of_lt_of_le this (Nat.pow_le_pow_right (by decide) (by omega) : 2 ^ (8 * r + c) ≤ 2 ^ 64)
            obtain ⟨sa, hsa⟩ : ∃ s, cellS p.px W H c r = s := ⟨_, rfl⟩
            obtain ⟨sb, hsb⟩ : ∃ s, cellS p.px W H (c + 1) r = s := ⟨_, rfl⟩
            obtain ⟨na, hna⟩ : ∃ s, (cellN W H c r : Int) = s := ⟨_, rfl⟩
            obtain ⟨nb, hnb⟩ : ∃ s, (cellN W H (c + 1) r : Int) = s := ⟨_, rfl⟩
            rw [hsa] at h1 e1; rw [hsb] at h2 e3; rw [hna] at e2; rw [hnb] at e4
            have h3' : 0 ≤ na ∧ na ≤ 4096 := by omega
            have h4' : 0 ≤ nb ∧ nb ≤ 4096 := by omega
            have m1 := mul_bd (A := 1044480) (B := 4096) (x := sa) (y := nb) (by omega) (by omega) (by omega) (by omega)
            have m2 := mul_bd (A := 1044480) (B := 4096) (x := sb) (y := na) (by omega) (by omega) (by omega) (by omega)
            have f1 := wr_ (n := sa * nb) (by omega)
            have f2 := wr_ (n := sb * na) (by omega)
            have HBIT : Hid (bitM p.px W H (8 * r + c) = decide (sa * nb < sb * na)) := Lib.hid (by
              unfold bitM
              rw [show (8 * r + c) % 8 = c by omega, show (8 * r + c) / 8 = r by omega, hsa, hsb, hna, hnb])
            have HOR := Lib.hid (or_bit hul (show 8 * r + c < 64 by omega))
            have hgz : g < wz.heap.size := Nat.lt_of_lt_of_le hlt2 hbz.size
            have hgz1 : g ≠ wz.heap.size := by omega
            have hgz2 : g ≠ wz.heap.size + 1 := by omega
            clear hsa hsb hna hnb h1 h2 h3 h4 m1 m2 hul hbz
            go_upto_region 12 with fail
            go_region_held3 (fun w' => w'.cell? ⟨g, r * 18 + c * 2, none⟩ = some (.int .i64 sa) ∧ w'.cell? ⟨g, r * 18 + c * 2 + 1, none⟩ = some (.int .i64 na) ∧ w'.cell? ⟨g, r * 18 + (c + 1) * 2, none⟩ = some (.int .i64 sb) ∧ w'.cell? ⟨g, r * 18 + (c + 1) * 2 + 1, none⟩ = some (.int .i64 nb)) (go_keep) (fail)
            all_goals
              by_cases hbt : sa * nb < sb * na
              · have HU2 : Hid (markTo (bitM p.px W H) (8 * r + (c + 1)) = u ||| 2 ^ (8 * r + c)) := Lib.hid (by
                  show (if bitM p.px W H (8 * r + c) = true then markTo (bitM p.px W H) (8 * r + c) ||| 2 ^ (8 * r + c) else markTo (bitM p.px W H) (8 * r + c)) = _
                  rw [HBIT.out, if_pos (decide_eq_true hbt), HU.out])
                go_wp2_with fail
                go_roundw
                case rel => exact ⟨c + 1, u ||| 2 ^ (8 * r + c), by omega, by go_num, by rw [HOR.out], HU2, below_drew_ (below_alloc (below_alloc HBZ.out (Nat.le_refl _) _) (Nat.le_refl _) _)⟩
                case measure => simp [intOf]; omega
              · have HU2 : Hid (markTo (bitM p.px W H) (8 * r + (c + 1)) = u) := Lib.hid (by
                  show (if bitM p.px W H (8 * r + c) = true then markTo (bitM p.px W H) (8 * r + c) ||| 2 ^ (8 * r + c) else markTo (bitM p.px W H) (8 * r + c)) = _
                  rw [HBIT.out, if_neg (by rw [decide_eq_false hbt]; decide), HU.out])
                go_wp2_with fail
                go_roundw
                case rel => exact ⟨c + 1, u, by omega, by go_num, rfl, HU2, below_drew_ (below_alloc (below_alloc HBZ.out (Nat.le_refl _) _) (Nat.le_refl _) _)⟩
                case measure => simp [intOf]; omega
          · obtain rfl : c = 8 := by omega
            have HT2 : Hid (markTo (bitM p.px W H) (8 * (r + 1)) = u) := Lib.hid (by rw [Nat.mul_add]; exact HU.out)
            clear hbz
            go_wp2_with fail
            go_roundw
            case rel => exact ⟨r + 1, u, by omega, by go_num, rfl, HT2, HBZ.out⟩
            case measure => simp [intOf]; omega
      · obtain rfl : r = 8 := by omega
        have HE : Hid (t = m) := Lib.hid (by rw [← HM.out]; exact HT.out.symm)
        have HBF := Lib.hid (below_next HBS.out (Nat.le_refl _) HBO.out)
        go_wp2_with fail
        go_ret2
        exact ⟨ret_ue HE.out rfl, HBF.out⟩
  · have HM : Hid (0 = m) := Lib.hid (by rw [← hm]; unfold markN; rw [if_neg (by rw [hx]; exact h0)])
    have t0 := ne0_t h0
    clear h hm hx h0
    go_enter Try.func50, Try.ntmps50
    go_wp2_with fail
    refine (pcheck_any p x _ HX.out).mono ?_
    rintro e w3 ⟨rfl, hb3⟩
    replace kk := below_next kk (Nat.le_refl _) hb3
    clear c00 c01 c02 c03 c04 HB hb3
    obtain ⟨B0, hbb⟩ := HK.out _ kk
    have c00 := B0.cell 0
    have c01 := B0.cell 1
    have c02 := B0.cell 2
    have c03 := B0.cell 3
    have c04 := B0.cell 4
    have HB := Lib.hid hbb
    clear B0 hbb
    go_wp2_with fail
    go_ret2
    exact ⟨ret_ue HM.out rfl, HB.out⟩
end Go.Proofs.Ytdgdjlpbnaoheaa
