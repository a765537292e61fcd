/- Marks: what they are, and the reference's walk. -/
import Derived.Test.YtdgdjlpbnaoheaaPhD
import Derived.Test.YtdgdjlpbnaoheaaPhPop
namespace Go.Proofs.Ytdgdjlpbnaoheaa
open Go.RowKit
def markTo (f : Nat → Bool) : Nat → Nat
  | 0 => 0
  | k + 1 => if f k = true then markTo f k ||| 2 ^ k else markTo f k
theorem markTo_lt (f : Nat → Bool) : ∀ k, markTo f k < 2 ^ k
  | 0 => Nat.lt_succ_self 0
  | k + 1 => by
    have h := markTo_lt f k
    have h2 : 2 ^ k < 2 ^ (k + 1) := Nat.pow_lt_pow_right (by decide) (by omega)
    unfold markTo
    split
    · exact Nat.or_lt_two_pow (by omega) h2
    · omega
theorem markTo_bit (f : Nat → Bool) (i : Nat) : ∀ k, (markTo f k).testBit i = (decide (i < k) && f i)
  | 0 => by simp [markTo]
  | k + 1 => by
    have ih := markTo_bit f i k
    unfold markTo
    rcases hf : f k with _ | _
    · rw [if_neg (by decide), ih]
      by_cases h : i < k
      · rw [decide_eq_true h, decide_eq_true (show i < k + 1 by omega)]
      · rw [decide_eq_false h]
        by_cases h2 : i = k
        · subst h2; rw [hf]; simp
        · rw [decide_eq_false (show ¬ i < k + 1 by omega)]
    · rw [if_pos rfl, Nat.testBit_or, ih, Nat.testBit_two_pow]
      by_cases h : i < k
      · rw [decide_eq_true h, decide_eq_true (show i < k + 1 by omega), decide_eq_false (show ¬ k = i by omega), Bool.or_false]
      · rw [decide_eq_false h]
        by_cases h2 : i = k
        · subst h2; rw [hf]; simp
        · rw [decide_eq_false (show ¬ i < k + 1 by omega), decide_eq_false (show ¬ k = i by omega)]; rfl
theorem markTo_congr {f g : Nat → Bool} : ∀ {k : Nat}, (∀ i, i < k → f i = g i) → markTo f k = markTo g k
  | 0, _ => rfl
  | k + 1, h => by
    unfold markTo
    rw [markTo_congr fun i hi => h i (by omega), h k (by omega)]
def bitM (px : List Int) (W H k : Nat) : Bool := decide (cellS px W H (k % 8) (k / 8) * (cellN W H (k % 8 + 1) (k / 8) : Int) < cellS px W H (k % 8 + 1) (k / 8) * (cellN W H (k % 8) (k / 8) : Int))
def markN (p : Ph) : Nat := if pcheckZ p = 0 then markTo (bitM p.px p.W.toNat p.H.toNat) 64 else 0
theorem markN_lt (p : Ph) : markN p < 18446744073709551616 := by
  unfold markN
  split
  · exact markTo_lt _ 64
  · decide
theorem or_bit {m k : Nat} (hm : m < 18446744073709551616) (hk : k < 64) : bits .or .u64 (m : Int) (IntKind.u64.wrap ((2 : Int) ^ k)) = ((m ||| 2 ^ k : Nat) : Int) := by
  have h1 : (2 : Nat) ^ k < 18446744073709551616 := Nat.pow_lt_pow_right (a := 2) (by decide) hk
  have h2 : ((2 : Int) ^ k) = ((2 ^ k : Nat) : Int) := by rw [Int.natCast_pow]; rfl
  rw [h2, wrapN h1, bits_or_u64_nat _ _ hm h1]
def RetUE (w : World) (m : Nat) (x : Int) (e : Ending) (w' : World) : Prop := e = .returned (.tuple #[.int .u64 (m : Int), .int .i64 x]) ∧ Below w.heap.size w w'
theorem ret_ue {m m' : Nat} {x y : Int} (h : m = m') (h' : x = y) : Ending.returned (.tuple #[.int .u64 (m : Int), .int .i64 x]) = .returned (.tuple #[.int .u64 (m' : Int), .int .i64 y]) := by rw [h, h']
set_option maxHeartbeats 4000000 in
set_option maxRecDepth 10000 in
theorem rmark_any (p : Ph) (m : Nat) (x : Int) (w : World) (h : PR w p) (hm : markN p = m) (hx : pcheckZ p = x) : Calls Try.prog 15 #[aggF p] w (RetUE w m x) := by
  obtain ⟨kk, hK⟩ := box1K w 46 #[.int .i64 p.ride, .int .i64 p.tm, .int .i64 p.W, .int .i64 p.H, .slice p.A p.n p.c]
  have HK := Lib.hid hK
  clear hK
  obtain ⟨B0, hbb⟩ := HK.out _ kk
  have c00 := B0.cell 0
  have c01 := B0.cell 1
  have c02 := B0.cell 2
  have c03 := B0.cell 3
  have c04 := B0.cell 4
  have HB := Lib.hid hbb
  clear B0 hbb
  have HPA : Hid (∀ u, Below w.heap.size w u → PR u p) := Lib.hid fun u hu => h.below hu
  have HBY := Lib.hid h.2.1
  have HX := Lib.hid hx
  by_cases h0 : x = 0
  · subst h0
    obtain ⟨W, H, hW, hH, hW1, hW2, hH1, hH2, hn⟩ := ph_dims hx
    have HM : Hid (markTo (bitM p.px W H) 64 = m) := Lib.hid (by rw [← hm]; unfold markN; rw [if_pos hx, hW, hH]; rfl)
    have HW := Lib.hid hW; have HH := Lib.hid hH; have HN := Lib.hid hn
    clear h hm hx hW hH hn
    go_enter Try.func15, Try.ntmps15
    go_wp2_with fail
    refine (rpcheck_any p 0 _ HX.out).mono ?_
    rintro e w1 ⟨rfl, hb1⟩
    replace kk := below_next kk (Nat.le_refl _) hb1
    clear c00 c01 c02 c03 c04 HB hb1
    obtain ⟨B0, hbb⟩ := HK.out _ kk
    have c00 := B0.cell 0
    have c01 := B0.cell 1
    have c02 := B0.cell 2
    have c03 := B0.cell 3
    have c04 := B0.cell 4
    have HB := Lib.hid hbb
    clear B0 hbb
    clear c00 c01 c02 c03 c04 HB
    have HKK := Lib.hid kk
    clear kk
    go_wp2_with fail
    go_loopw [5, 6] (fun s5 s6 wr => ∃ (r t : Nat), r ≤ 8 ∧ s6 = .int .i64 r ∧ s5 = .int .u64 (t : Int) ∧ Hid (markTo (bitM p.px W H) (8 * r) = t) ∧ Below w1.heap.size w1 wr) (fun _ s _ => 8 - (intOf s).toNat)
    case atStart => exact ⟨0, 0, by decide, rfl, rfl, Lib.hid rfl, Below.refl _ _⟩
    case round =>
      obtain ⟨wo, rfl⟩ : ∃ wo : World, wo = wr := ⟨_, rfl⟩
      obtain ⟨r, t, hr, rfl, rfl, HT, hbw⟩ := hrel
      have HBO := Lib.hid hbw
      clear hbw
      by_cases hlt : r < 8
      · have hr8 : (r : Int) < 8 := by omega
        go_wp2_with fail
        go_loopw [5, 7] (fun s5 s7 wr => ∃ (c t : Nat), c ≤ 8 ∧ s7 = .int .i64 c ∧ s5 = .int .u64 (t : Int) ∧ Hid (markTo (bitM p.px W H) (8 * r + c) = t) ∧ Below w1.heap.size w1 wr) (fun _ s _ => 8 - (intOf s).toNat)
        case atStart => exact ⟨0, t, by decide, rfl, rfl, Lib.hid HT.out, HBO.out⟩
        case round =>
          obtain ⟨wz, rfl⟩ : ∃ wz : World, wz = wr := ⟨_, rfl⟩
          obtain ⟨c, u, hc, rfl, rfl, HU, hbz⟩ := hrel
          have kk := below_next HKK.out (Nat.le_refl _) hbz
          have HBZ := Lib.hid hbz
          clear hbz
          by_cases hlc : c < 8
          · have hc8 : (c : Int) < 8 := by omega
            have h1 := cellS_bd (px := p.px) HBY.out (W := W) (H := H) (c := c) (r := r) (by omega) (by omega) hW2 hH2
            have h2 := cellS_bd (px := p.px) HBY.out (W := W) (H := H) (c := c + 1) (r := r) (by omega) (by omega) hW2 hH2
            have h3 := cellN_bd (W := W) (H := H) (c := c) (r := r) (by omega) (by omega) hW2 hH2
            have h4 := cellN_bd (W := W) (H := H) (c := c + 1) (r := r) (by omega) (by omega) hW2 hH2
            have hul : u < 18446744073709551616 := by
              have := markTo_lt (bitM p.px W H) (8 * r + c)
              rw [HU.out] at this
              exact Nat.lt_of_lt_of_le this (Nat.pow_le_pow_right (by decide) (by omega) : 2 ^ (8 * r + c) ≤ 2 ^ 64)
            obtain ⟨sa, hsa⟩ : ∃ s, cellS p.px W H c r = s := ⟨_, rfl⟩
            obtain ⟨sb, hsb⟩ : ∃ s, cellS p.px W H (c + 1) r = s := ⟨_, rfl⟩
            obtain ⟨na, hna⟩ : ∃ s, (cellN W H c r : Int) = s := ⟨_, rfl⟩
            obtain ⟨nb, hnb⟩ : ∃ s, (cellN W H (c + 1) r : Int) = s := ⟨_, rfl⟩
            rw [hsa] at h1; rw [hsb] at h2
            have h3' : 0 ≤ na ∧ na ≤ 4096 := by omega
            have h4' : 0 ≤ nb ∧ nb ≤ 4096 := by omega
            have m1 := mul_bd (A := 1044480) (B := 4096) (x := sa) (y := nb) (by omega) (by omega) (by omega) (by omega)
            have m2 := mul_bd (A := 1044480) (B := 4096) (x := sb) (y := na) (by omega) (by omega) (by omega) (by omega)
            have f1 := wr_ (n := sa * nb) (by omega)
            have f2 := wr_ (n := sb * na) (by omega)
            have HBIT : Hid (bitM p.px W H (8 * r + c) = decide (sa * nb < sb * na)) := Lib.hid (by
              unfold bitM
              rw [show (8 * r + c) % 8 = c by omega, show (8 * r + c) / 8 = r by omega, hsa, hsb, hna, hnb])
            have HSA := Lib.hid hsa; have HSB := Lib.hid hsb; have HNA := Lib.hid hna; have HNB := Lib.hid hnb
            have HOR := Lib.hid (or_bit hul (show 8 * r + c < 64 by omega))
            clear hsa hsb hna hnb h1 h2 h3 h4 m1 m2 hul
            obtain ⟨B0, hbb⟩ := HK.out _ kk
            have c00 := B0.cell 0
            have c01 := B0.cell 1
            have c02 := B0.cell 2
            have c03 := B0.cell 3
            have c04 := B0.cell 4
            have HB := Lib.hid hbb
            clear B0 hbb
            go_wp2_with fail
            refine (rcell_any p W H c r sa na _ (HPA.out _ HB.out) HW.out HH.out hW1 hW2 hH1 hH2 HN.out (by omega) (by omega) HSA.out HNA.out).mono ?_
            rintro e v1 ⟨rfl, hc1⟩
            have HC1 := Lib.hid hc1
            replace kk := below_next kk (Nat.le_refl _) hc1
            clear c00 c01 c02 c03 c04 HB hc1
            obtain ⟨B0, hbb⟩ := HK.out _ kk
            have c00 := B0.cell 0
            have c01 := B0.cell 1
            have c02 := B0.cell 2
            have c03 := B0.cell 3
            have c04 := B0.cell 4
            have HB := Lib.hid hbb
            clear B0 hbb
            go_wp2_with fail
            refine (rcell_any p W H (c + 1) r sb nb _ (HPA.out _ HB.out) HW.out HH.out hW1 hW2 hH1 hH2 HN.out (by omega) (by omega) HSB.out HNB.out).mono ?_
            rintro e v2 ⟨rfl, hc2⟩
            have HC2 := Lib.hid hc2
            clear c00 c01 c02 c03 c04 HB hc2 kk
            by_cases hbt : sa * nb < sb * na
            · have HU2 : Hid (markTo (bitM p.px W H) (8 * r + (c + 1)) = u ||| 2 ^ (8 * r + c)) := Lib.hid (by
                show (if bitM p.px W H (8 * r + c) = true then markTo (bitM p.px W H) (8 * r + c) ||| 2 ^ (8 * r + c) else markTo (bitM p.px W H) (8 * r + c)) = _
                rw [HBIT.out, if_pos (decide_eq_true hbt), HU.out])
              go_wp2_with fail
              go_roundw
              case rel => exact ⟨c + 1, u ||| 2 ^ (8 * r + c), by omega, by go_num, by rw [HOR.out], HU2, below_next (below_next HBZ.out (Nat.le_refl _) HC1.out) (Nat.le_refl _) HC2.out⟩
              case measure => simp [intOf]; omega
            · have HU2 : Hid (markTo (bitM p.px W H) (8 * r + (c + 1)) = u) := Lib.hid (by
                show (if bitM p.px W H (8 * r + c) = true then markTo (bitM p.px W H) (8 * r + c) ||| 2 ^ (8 * r + c) else markTo (bitM p.px W H) (8 * r + c)) = _
                rw [HBIT.out, if_neg (by rw [decide_eq_false hbt]; decide), HU.out])
              go_wp2_with fail
              go_roundw
              case rel => exact ⟨c + 1, u, by omega, by go_num, rfl, HU2, below_next (below_next HBZ.out (Nat.le_refl _) HC1.out) (Nat.le_refl _) HC2.out⟩
              case measure => simp [intOf]; omega
          · obtain rfl : c = 8 := by omega
            have HT2 : Hid (markTo (bitM p.px W H) (8 * (r + 1)) = u) := Lib.hid (by rw [Nat.mul_add]; exact HU.out)
            clear kk
            go_wp2_with fail
            go_roundw
            case rel => exact ⟨r + 1, u, by omega, by go_num, rfl, HT2, HBZ.out⟩
            case measure => simp [intOf]; omega
      · obtain rfl : r = 8 := by omega
        have HE : Hid (t = m) := Lib.hid (by rw [← HM.out]; exact HT.out.symm)
        have HBF := Lib.hid (HK.out _ (below_next HKK.out (Nat.le_refl _) HBO.out)).2
        go_wp2_with fail
        go_ret2
        exact ⟨ret_ue HE.out rfl, HBF.out⟩
  · have HM : Hid (0 = m) := Lib.hid (by rw [← hm]; unfold markN; rw [if_neg (by rw [hx]; exact h0)])
    have t0 := ne0_t h0
    clear h hm hx h0
    go_enter Try.func15, Try.ntmps15
    go_wp2_with fail
    refine (rpcheck_any p x _ HX.out).mono ?_
    rintro e w2 ⟨rfl, hb2⟩
    replace kk := below_next kk (Nat.le_refl _) hb2
    clear c00 c01 c02 c03 c04 HB hb2
    obtain ⟨B0, hbb⟩ := HK.out _ kk
    have c00 := B0.cell 0
    have c01 := B0.cell 1
    have c02 := B0.cell 2
    have c03 := B0.cell 3
    have c04 := B0.cell 4
    have HB := Lib.hid hbb
    clear B0 hbb
    go_wp2_with fail
    go_ret2
    exact ⟨ret_ue HM.out rfl, HB.out⟩
end Go.Proofs.Ytdgdjlpbnaoheaa
