/- The walk of ParkingCertain. -/
import Derived.Test.YtdgdjlpbnaoheaaPkLaw
namespace Go.Proofs.Ytdgdjlpbnaoheaa
open Go.RowKit
set_option maxHeartbeats 8000000 in
set_option maxRecDepth 20000 in
theorem parkingCertain_walk (A : Option Addr) (n c : Nat) (l : List Fc) (A2 : Option Addr) (m c2 : Nat) (ps : List Ph) (p : Pk) (w : World) (h : FcR w A n l) (hn : n ≤ 9223372036854775807) (h2 : PsR w A2 m ps) (hm : m ≤ 9223372036854775807) : Calls Try.prog 9 #[.slice A n c, .slice A2 m c2, aggK p] w (AwakePost w) := by
  obtain ⟨kk, hK⟩ := box1K w 27 #[.int .i64 p.ride, .int .i64 p.rider, .int .i64 p.tm, .int .i64 p.x, .int .i64 p.y, .int .i64 p.r]
  have HK := Lib.hid hK
  clear hK
  obtain ⟨B0, hbb⟩ := HK.out _ kk
  have c00 := B0.cell 0
  have c01 := B0.cell 1
  have c02 := B0.cell 2
  have c03 := B0.cell 3
  have c04 := B0.cell 4
  have c05 := B0.cell 5
  have HB := Lib.hid hbb
  clear B0 hbb
  have HZA : Hid (∀ u, Below w.heap.size w u → FcR u A n l) := Lib.hid fun u hu => h.below hu
  have HZP : Hid (∀ u, Below w.heap.size w u → PsR u A2 m ps) := Lib.hid fun u hu => h2.below hu
  obtain ⟨f, hf⟩ : ∃ f, fewK l ps = f := ⟨_, rfl⟩
  have HF := Lib.hid hf
  clear h h2 hf
  rcases f with _ | _
  · skip
    go_enter Try.func9, Try.ntmps9
    go_wp2_with fail
    refine (fewk_any A n c l A2 m c2 ps false _ (HZA.out _ HB.out) hn (HZP.out _ HB.out) hm HF.out).mono ?_
    rintro e w1 ⟨rfl, hb1⟩
    replace kk := below_next kk (Nat.le_refl _) hb1
    clear c00 c01 c02 c03 c04 c05 HB hb1
    obtain ⟨B0, hbb⟩ := HK.out _ kk
    have c00 := B0.cell 0
    have c01 := B0.cell 1
    have c02 := B0.cell 2
    have c03 := B0.cell 3
    have c04 := B0.cell 4
    have c05 := B0.cell 5
    have HB := Lib.hid hbb
    clear B0 hbb
    go_wp2_with fail
    refine (awake_any _).mono ?_
    rintro e w2 ⟨rfl, hb2⟩
    replace kk := below_next kk (Nat.le_refl _) hb2
    clear c00 c01 c02 c03 c04 c05 HB hb2
    obtain ⟨B0, hbb⟩ := HK.out _ kk
    have c00 := B0.cell 0
    have c01 := B0.cell 1
    have c02 := B0.cell 2
    have c03 := B0.cell 3
    have c04 := B0.cell 4
    have c05 := B0.cell 5
    have HB := Lib.hid hbb
    clear B0 hbb
    go_wp2_with fail
    go_ret
    exact ⟨rfl, HB.out⟩
  by_cases h8 : 8 < p.r
  · skip
    go_enter Try.func9, Try.ntmps9
    go_wp2_with fail
    refine (fewk_any A n c l A2 m c2 ps true _ (HZA.out _ HB.out) hn (HZP.out _ HB.out) hm HF.out).mono ?_
    rintro e w3 ⟨rfl, hb3⟩
    replace kk := below_next kk (Nat.le_refl _) hb3
    clear c00 c01 c02 c03 c04 c05 HB hb3
    obtain ⟨B0, hbb⟩ := HK.out _ kk
    have c00 := B0.cell 0
    have c01 := B0.cell 1
    have c02 := B0.cell 2
    have c03 := B0.cell 3
    have c04 := B0.cell 4
    have c05 := B0.cell 5
    have HB := Lib.hid hbb
    clear B0 hbb
    go_wp2_with fail
    refine (awake_any _).mono ?_
    rintro e w4 ⟨rfl, hb4⟩
    replace kk := below_next kk (Nat.le_refl _) hb4
    clear c00 c01 c02 c03 c04 c05 HB hb4
    obtain ⟨B0, hbb⟩ := HK.out _ kk
    have c00 := B0.cell 0
    have c01 := B0.cell 1
    have c02 := B0.cell 2
    have c03 := B0.cell 3
    have c04 := B0.cell 4
    have c05 := B0.cell 5
    have HB := Lib.hid hbb
    clear B0 hbb
    go_wp2_with fail
    go_ret
    exact ⟨rfl, HB.out⟩
  have h8' : p.r ≤ 8 := by omega
  obtain ⟨y, hy⟩ : ∃ y, faultZ l ps.length p = y := ⟨_, rfl⟩
  have HY := Lib.hid hy
  clear h8
  by_cases h0 : y = 0
  case neg =>
    have HV : Hid (judgeV l ps p = (0, 0, 0, 0)) := Lib.hid (by unfold judgeV; rw [if_neg (by rw [hy]; exact h0)])
    have hq := eqVd 0 0 0 0
    have t0 := ne0_t h0
    clear hy h0
    go_enter Try.func9, Try.ntmps9
    go_wp2_with fail
    refine (fewk_any A n c l A2 m c2 ps true _ (HZA.out _ HB.out) hn (HZP.out _ HB.out) hm HF.out).mono ?_
    rintro e w5 ⟨rfl, hb5⟩
    replace kk := below_next kk (Nat.le_refl _) hb5
    clear c00 c01 c02 c03 c04 c05 HB hb5
    obtain ⟨B0, hbb⟩ := HK.out _ kk
    have c00 := B0.cell 0
    have c01 := B0.cell 1
    have c02 := B0.cell 2
    have c03 := B0.cell 3
    have c04 := B0.cell 4
    have c05 := B0.cell 5
    have HB := Lib.hid hbb
    clear B0 hbb
    go_wp2_with fail
    refine (pjudge_any A n c l A2 m c2 ps p (0, 0, 0, 0) y _ (HZA.out _ HB.out) hn (HZP.out _ HB.out) hm HY.out HV.out).mono ?_
    rintro e u1 ⟨rfl, hb1⟩
    have V1 := Lib.hid (Blk.new u1 31 #[.int .i64 0, .int .i64 0, .int .i64 0, .int .i64 0])
    replace kk := (below_next kk (Nat.le_refl _) hb1).alloc (below_next kk (Nat.le_refl _) hb1).size (.cells #[.int .i64 0, .int .i64 0, .int .i64 0, .int .i64 0] 31)
    clear HB hb1 c00 c01 c02 c03 c04 c05
    obtain ⟨B0, hbb⟩ := HK.out _ kk
    have c00 := B0.cell 0
    have c01 := B0.cell 1
    have c02 := B0.cell 2
    have c03 := B0.cell 3
    have c04 := B0.cell 4
    have c05 := B0.cell 5
    have HB := Lib.hid hbb
    clear B0 hbb
    have xv1_0 := (V1.out.cell 0).trans rfl
    have xv1_1 := (V1.out.cell 1).trans rfl
    have xv1_2 := (V1.out.cell 2).trans rfl
    have xv1_3 := (V1.out.cell 3).trans rfl
    go_wp2_with fail
    refine (awake_any _).mono ?_
    rintro e w6 ⟨rfl, hb6⟩
    replace kk := below_next kk (Nat.le_refl _) hb6
    clear c00 c01 c02 c03 c04 c05 HB hb6
    obtain ⟨B0, hbb⟩ := HK.out _ kk
    have c00 := B0.cell 0
    have c01 := B0.cell 1
    have c02 := B0.cell 2
    have c03 := B0.cell 3
    have c04 := B0.cell 4
    have c05 := B0.cell 5
    have HB := Lib.hid hbb
    clear B0 hbb
    go_wp2_with fail
    go_ret
    exact ⟨rfl, HB.out⟩
  subst h0
  obtain ⟨hp, hl, hm64⟩ := fault_inv hy
  have HP := Lib.hid hp; have HLZ := Lib.hid hl
  have HPZ := Lib.hid (pkZ_0 hp)
  obtain ⟨_, _, htm, hxx, hyy, hrr⟩ := pkB_inv hp
  obtain ⟨cc, hcc⟩ : ∃ k, countsB ps p = k := ⟨_, rfl⟩
  have HCC := Lib.hid hcc
  obtain ⟨k, hk⟩ : ∃ k, judgeZ l cc p = k := ⟨_, rfl⟩
  have hrng : k = 1 ∨ k = 2 ∨ k = 3 := by
    rcases judge_rng (sureA l 1 p) (possA l 1 p) (sureA l 2 p) (possA l 2 p) (someB l 2 p.tm) cc with h1 | h1 | h1
    · exact .inl (by rw [← hk]; exact h1)
    · exact .inr (.inl (by rw [← hk]; exact h1))
    · exact .inr (.inr (by rw [← hk]; exact h1.1))
  have hz : p.r = 0 → k ≠ 3 := fun e => by rw [← hk]; exact zero_law hp hl e cc
  have HV : Hid (judgeV l ps p = (p.ride, p.rider, p.tm, k)) := Lib.hid (by unfold judgeV; rw [if_pos hy]; unfold verdict; rw [hcc, hk])
  have HL2 : Hid (∀ q, okP q = true → sqZ (p.x, p.y) q ≤ p.r * p.r → k = 2 → permB l q p.tm = false) := Lib.hid (fun q h1 h2 h3 => by
    rcases hg : permB l q p.tm with _ | _
    · rfl
    · exact absurd (by rw [hk]; exact h3) (fair_law hp hl h1 h2 hg cc))
  have HL1 : Hid (∀ q, okP q = true → sqZ (p.x, p.y) q ≤ p.r * p.r → k = 1 → cc = false → permB l q p.tm = true) := Lib.hid (fun q h1 h2 h3 h4 => sure_law hp hl h1 h2 (by rw [← h4, hk]; exact h3))
  have f0 := wr_ (n := -p.r) (by omega)
  clear hy hp hl hm64 hk hcc
  rcases hrng with rfl | rfl | rfl
  · clear hz
    rcases cc with _ | _
    · have HLAW : Hid (∀ q, okP q = true → sqZ (p.x, p.y) q ≤ p.r * p.r → permB l q p.tm = true) := Lib.hid fun q h1 h2 => HL1.out q h1 h2 rfl rfl
      clear HL1 HL2
      by_cases hr0 : p.r = 0
      · have hr1 : (p.r == 0) = true := by simp [hr0]
        have hr2 : decide (p.r = 0) = true := by simp [hr0]
        have hr3 : 0 ≤ p.r := by omega
        clear hr0
        go_enter Try.func9, Try.ntmps9
        go_wp2_with fail
        refine (fewk_any A n c l A2 m c2 ps true _ (HZA.out _ HB.out) hn (HZP.out _ HB.out) hm HF.out).mono ?_
        rintro e w7 ⟨rfl, hb7⟩
        replace kk := below_next kk (Nat.le_refl _) hb7
        clear c00 c01 c02 c03 c04 c05 HB hb7
        obtain ⟨B0, hbb⟩ := HK.out _ kk
        have c00 := B0.cell 0
        have c01 := B0.cell 1
        have c02 := B0.cell 2
        have c03 := B0.cell 3
        have c04 := B0.cell 4
        have c05 := B0.cell 5
        have HB := Lib.hid hbb
        clear B0 hbb
        go_wp2_with fail
        refine (pjudge_any A n c l A2 m c2 ps p (p.ride, p.rider, p.tm, 1) 0 _ (HZA.out _ HB.out) hn (HZP.out _ HB.out) hm HY.out HV.out).mono ?_
        rintro e u1 ⟨rfl, hb1⟩
        have V1 := Lib.hid (Blk.new u1 31 #[.int .i64 p.ride, .int .i64 p.rider, .int .i64 p.tm, .int .i64 1])
        replace kk := (below_next kk (Nat.le_refl _) hb1).alloc (below_next kk (Nat.le_refl _) hb1).size (.cells #[.int .i64 p.ride, .int .i64 p.rider, .int .i64 p.tm, .int .i64 1] 31)
        clear HB hb1 c00 c01 c02 c03 c04 c05
        obtain ⟨B0, hbb⟩ := HK.out _ kk
        have c00 := B0.cell 0
        have c01 := B0.cell 1
        have c02 := B0.cell 2
        have c03 := B0.cell 3
        have c04 := B0.cell 4
        have c05 := B0.cell 5
        have HB := Lib.hid hbb
        clear B0 hbb
        go_wp2_with fail
        refine (rpkcheck_any p 0 _ HPZ.out).mono ?_
        rintro e u2 ⟨rfl, hb2⟩
        replace V1 := Lib.hid (V1.out.ofBelow hb2)
        replace kk := below_next kk (Nat.le_refl _) hb2
        clear HB hb2 c00 c01 c02 c03 c04 c05
        obtain ⟨B0, hbb⟩ := HK.out _ kk
        have c00 := B0.cell 0
        have c01 := B0.cell 1
        have c02 := B0.cell 2
        have c03 := B0.cell 3
        have c04 := B0.cell 4
        have c05 := B0.cell 5
        have HB := Lib.hid hbb
        clear B0 hbb
        have v3 := (V1.out.cell 3).trans rfl
        go_wp2_with fail
        refine (lcounts_any A2 m c2 ps p false _ (HZP.out _ HB.out) hm htm HCC.out).mono ?_
        rintro e u3 ⟨rfl, hb3⟩
        replace V1 := Lib.hid (V1.out.ofBelow hb3)
        replace kk := below_next kk (Nat.le_refl _) hb3
        clear v3 HB hb3 c00 c01 c02 c03 c04 c05
        obtain ⟨B0, hbb⟩ := HK.out _ kk
        have c00 := B0.cell 0
        have c01 := B0.cell 1
        have c02 := B0.cell 2
        have c03 := B0.cell 3
        have c04 := B0.cell 4
        have c05 := B0.cell 5
        have HB := Lib.hid hbb
        clear B0 hbb
        go_wp2_with fail
        obtain ⟨w7, rfl⟩ : ∃ w7 : World, w7 = u3 := ⟨_, rfl⟩
        have HVR : Hid (∀ u, Below w7.heap.size w7 u → Blk u u1.heap.size 31 #[.int .i64 p.ride, .int .i64 p.rider, .int .i64 p.tm, .int .i64 1]) := Lib.hid fun u hu => V1.out.ofBelow hu
        have HPB : Hid (∀ u, Below w7.heap.size w7 u → Blk u w.heap.size 27 #[.int .i64 p.ride, .int .i64 p.rider, .int .i64 p.tm, .int .i64 p.x, .int .i64 p.y, .int .i64 p.r] ∧ Below w.heap.size w u) := Lib.hid fun u hu => HK.out _ (below_next kk (Nat.le_refl _) hu)
        clear kk HB V1 c00 c01 c02 c03 c04 c05
        go_loopw [10] (fun s wr => ∃ k : Int, -p.r ≤ k ∧ k ≤ p.r + 1 ∧ s = .int .i64 k ∧ Below w7.heap.size w7 wr) (fun s _ => (p.r + 1 - intOf s).toNat)
        case atStart => exact ⟨-p.r, by omega, by omega, rfl, Below.refl _ _⟩
        case round =>
          obtain ⟨wo, rfl⟩ : ∃ wo : World, wo = wr := ⟨_, rfl⟩
          obtain ⟨x1, hx1, hx2, rfl, hbw⟩ := hrel
          have HBO := Lib.hid hbw
          obtain ⟨B0, hbb⟩ := HPB.out _ hbw
          have HBB := Lib.hid hbb
          have c05 := (B0.cell 5).trans rfl
          clear hbw hbb B0
          by_cases hlt : x1 ≤ p.r
          · go_wp2_with fail
            clear c05
            go_loopw [11] (fun s wr => ∃ k : Int, -p.r ≤ k ∧ k ≤ p.r + 1 ∧ s = .int .i64 k ∧ Below w7.heap.size w7 wr) (fun s _ => (p.r + 1 - intOf s).toNat)
            case atStart => exact ⟨-p.r, by omega, by omega, rfl, HBO.out⟩
            case round =>
              obtain ⟨wz, rfl⟩ : ∃ wz : World, wz = wr := ⟨_, rfl⟩
              obtain ⟨z, hz1, hz2, rfl, hbz⟩ := hrel
              have HBZ := Lib.hid hbz
              obtain ⟨B0, hbb⟩ := HPB.out _ hbz
              have HBB2 := Lib.hid hbb
              have c02 := (B0.cell 2).trans rfl; have c03 := (B0.cell 3).trans rfl; have c04 := (B0.cell 4).trans rfl; have c05 := (B0.cell 5).trans rfl
              clear hbz hbb
              by_cases hlz : z ≤ p.r
              · have m1 := mul_bd (A := 12) (B := 12) (x := x1) (y := x1) (by omega) (by omega) (by omega) (by omega)
                have m2 := mul_bd (A := 12) (B := 12) (x := z) (y := z) (by omega) (by omega) (by omega) (by omega)
                have m3 := mul_bd (A := 12) (B := 12) (x := p.r) (y := p.r) (by omega) (by omega) (by omega) (by omega)
                have f1 := wr_ (n := x1 * x1) (by omega)
                have f2 := wr_ (n := z * z) (by omega)
                have f3 := wr_ (n := x1 * x1 + z * z) (by omega)
                have f4 := wr_ (n := p.r * p.r) (by omega)
                have f5 := wr_ (n := p.x + x1) (by omega)
                have f6 := wr_ (n := p.y + z) (by omega)
                have HSQ : Hid (sqZ (p.x, p.y) (p.x + x1, p.y + z) = x1 * x1 + z * z) := Lib.hid (by unfold sqZ; grind)
                have HP0 := Lib.hid (B0.alloc (.cells #[.int .i64 (p.x + x1), .int .i64 (p.y + z)] 25))
                obtain ⟨g0, hg⟩ := box1 wz 25 #[.int .i64 (p.x + x1), .int .i64 (p.y + z)]
                have e5 := (HP0.out.cell 5).trans rfl
                have c0 := (g0.cell 0).trans rfl; have c1 := (g0.cell 1).trans rfl
                have HG0 := Lib.hid g0
                have HB6 := Lib.hid (below_next HBZ.out (Nat.le_refl _) hg)
                clear m1 m2 m3 g0 hg B0
                by_cases hs : p.r * p.r < x1 * x1 + z * z
                · go_wp2_with fail
                  go_roundw
                  case rel => exact ⟨z + 1, by omega, by omega, by go_num, HB6.out⟩
                  case measure => simp [intOf]; omega
                · have hs2 : x1 * x1 + z * z ≤ p.r * p.r := by omega
                  clear hs
                  rcases hq : okP (p.x + x1, p.y + z) with _ | _
                  · have HQ := Lib.hid hq
                    clear hq
                    go_wp2_with fail
                    refine (rvalid_any (p.x + x1, p.y + z) false _ HQ.out).mono ?_
                    rintro e w8 ⟨rfl, hb7⟩
                    have HB7 := Lib.hid (below_next HB6.out (Nat.le_refl _) hb7)
                    clear hb7
                    go_wp2_with fail
                    go_roundw
                    case rel => exact ⟨z + 1, by omega, by omega, by go_num, HB7.out⟩
                    case measure => simp [intOf]; omega
                  · have HQ := Lib.hid hq
                    obtain ⟨g, hg⟩ : ∃ g, permB l (p.x + x1, p.y + z) p.tm = g := ⟨_, rfl⟩
                    have HGG := Lib.hid hg
                    obtain rfl : g = true := by rw [← hg]; exact HLAW.out _ hq (by rw [HSQ.out]; exact hs2)
                    clear hq hg
                    go_wp2_with fail
                    refine (rvalid_any (p.x + x1, p.y + z) true _ HQ.out).mono ?_
                    rintro e w8 ⟨rfl, hb7⟩
                    have HB7 := Lib.hid (below_next HB6.out (Nat.le_refl _) hb7)
                    have HP7 := HP0.out.ofBelow hb7
                    have HG7 := HG0.out.ofBelow hb7
                    have p2 := (HP7.cell 2).trans rfl
                    have g0 := (HG7.cell 0).trans rfl; have g1 := (HG7.cell 1).trans rfl
                    have HW7 := Lib.hid (HPB.out _ HB7.out).2
                    clear hb7 HP7 HG7 c0 c1 c02 c03 c04 c05 e5
                    go_wp2_with fail
                    refine (permitted_any A n c l (p.x + x1, p.y + z) p.tm _ _ (HZA.out _ HW7.out) hn HGG.out).mono ?_
                    rintro e w9 ⟨rfl, hb9⟩
                    have HB9 := Lib.hid (below_next HB7.out (Nat.le_refl _) hb9)
                    have v3 := ((HVR.out _ HB9.out).cell 3).trans rfl
                    clear hb9 p2 g0 g1
                    go_wp2_with fail
                    go_roundw
                    case rel => exact ⟨z + 1, by omega, by omega, by go_num, HB9.out⟩
                    case measure => simp [intOf]; omega
              · have hz3 : z = p.r + 1 := by omega
                clear c02 c03 c04
                go_wp2_with fail
                go_roundw
                case rel => exact ⟨x1 + 1, by omega, by omega, by go_num, HBZ.out⟩
                case measure => simp [intOf]; omega
          · have hx3 : x1 = p.r + 1 := by omega
            go_wp2_with fail
            refine (awake_any _).mono ?_
            rintro e w10 ⟨rfl, hb10⟩
            have HBF := Lib.hid (below_next HBB.out (Nat.le_refl _) hb10)
            clear hb10
            go_wp2_with fail
            go_ret
            exact ⟨rfl, HBF.out⟩
      · have hr1 : (p.r == 0) = false := by simp [hr0]
        have hr2 : decide (p.r = 0) = false := by simp [hr0]
        clear hr0
        go_enter Try.func9, Try.ntmps9
        go_wp2_with fail
        refine (fewk_any A n c l A2 m c2 ps true _ (HZA.out _ HB.out) hn (HZP.out _ HB.out) hm HF.out).mono ?_
        rintro e w8 ⟨rfl, hb8⟩
        replace kk := below_next kk (Nat.le_refl _) hb8
        clear c00 c01 c02 c03 c04 c05 HB hb8
        obtain ⟨B0, hbb⟩ := HK.out _ kk
        have c00 := B0.cell 0
        have c01 := B0.cell 1
        have c02 := B0.cell 2
        have c03 := B0.cell 3
        have c04 := B0.cell 4
        have c05 := B0.cell 5
        have HB := Lib.hid hbb
        clear B0 hbb
        go_wp2_with fail
        refine (pjudge_any A n c l A2 m c2 ps p (p.ride, p.rider, p.tm, 1) 0 _ (HZA.out _ HB.out) hn (HZP.out _ HB.out) hm HY.out HV.out).mono ?_
        rintro e u1 ⟨rfl, hb1⟩
        have V1 := Lib.hid (Blk.new u1 31 #[.int .i64 p.ride, .int .i64 p.rider, .int .i64 p.tm, .int .i64 1])
        replace kk := (below_next kk (Nat.le_refl _) hb1).alloc (below_next kk (Nat.le_refl _) hb1).size (.cells #[.int .i64 p.ride, .int .i64 p.rider, .int .i64 p.tm, .int .i64 1] 31)
        clear HB hb1 c00 c01 c02 c03 c04 c05
        obtain ⟨B0, hbb⟩ := HK.out _ kk
        have c00 := B0.cell 0
        have c01 := B0.cell 1
        have c02 := B0.cell 2
        have c03 := B0.cell 3
        have c04 := B0.cell 4
        have c05 := B0.cell 5
        have HB := Lib.hid hbb
        clear B0 hbb
        go_wp2_with fail
        refine (rpkcheck_any p 0 _ HPZ.out).mono ?_
        rintro e u2 ⟨rfl, hb2⟩
        replace V1 := Lib.hid (V1.out.ofBelow hb2)
        replace kk := below_next kk (Nat.le_refl _) hb2
        clear HB hb2 c00 c01 c02 c03 c04 c05
        obtain ⟨B0, hbb⟩ := HK.out _ kk
        have c00 := B0.cell 0
        have c01 := B0.cell 1
        have c02 := B0.cell 2
        have c03 := B0.cell 3
        have c04 := B0.cell 4
        have c05 := B0.cell 5
        have HB := Lib.hid hbb
        clear B0 hbb
        have v3 := (V1.out.cell 3).trans rfl
        go_wp2_with fail
        refine (lcounts_any A2 m c2 ps p false _ (HZP.out _ HB.out) hm htm HCC.out).mono ?_
        rintro e u3 ⟨rfl, hb3⟩
        replace V1 := Lib.hid (V1.out.ofBelow hb3)
        replace kk := below_next kk (Nat.le_refl _) hb3
        clear v3 HB hb3 c00 c01 c02 c03 c04 c05
        obtain ⟨B0, hbb⟩ := HK.out _ kk
        have c00 := B0.cell 0
        have c01 := B0.cell 1
        have c02 := B0.cell 2
        have c03 := B0.cell 3
        have c04 := B0.cell 4
        have c05 := B0.cell 5
        have HB := Lib.hid hbb
        clear B0 hbb
        go_wp2_with fail
        obtain ⟨w7, rfl⟩ : ∃ w7 : World, w7 = u3 := ⟨_, rfl⟩
        have HVR : Hid (∀ u, Below w7.heap.size w7 u → Blk u u1.heap.size 31 #[.int .i64 p.ride, .int .i64 p.rider, .int .i64 p.tm, .int .i64 1]) := Lib.hid fun u hu => V1.out.ofBelow hu
        have HPB : Hid (∀ u, Below w7.heap.size w7 u → Blk u w.heap.size 27 #[.int .i64 p.ride, .int .i64 p.rider, .int .i64 p.tm, .int .i64 p.x, .int .i64 p.y, .int .i64 p.r] ∧ Below w.heap.size w u) := Lib.hid fun u hu => HK.out _ (below_next kk (Nat.le_refl _) hu)
        clear kk HB V1 c00 c01 c02 c03 c04 c05
        go_loopw [10] (fun s wr => ∃ k : Int, -p.r ≤ k ∧ k ≤ p.r + 1 ∧ s = .int .i64 k ∧ Below w7.heap.size w7 wr) (fun s _ => (p.r + 1 - intOf s).toNat)
        case atStart => exact ⟨-p.r, by omega, by omega, rfl, Below.refl _ _⟩
        case round =>
          obtain ⟨wo, rfl⟩ : ∃ wo : World, wo = wr := ⟨_, rfl⟩
          obtain ⟨x1, hx1, hx2, rfl, hbw⟩ := hrel
          have HBO := Lib.hid hbw
          obtain ⟨B0, hbb⟩ := HPB.out _ hbw
          have HBB := Lib.hid hbb
          have c05 := (B0.cell 5).trans rfl
          clear hbw hbb B0
          by_cases hlt : x1 ≤ p.r
          · go_wp2_with fail
            clear c05
            go_loopw [11] (fun s wr => ∃ k : Int, -p.r ≤ k ∧ k ≤ p.r + 1 ∧ s = .int .i64 k ∧ Below w7.heap.size w7 wr) (fun s _ => (p.r + 1 - intOf s).toNat)
            case atStart => exact ⟨-p.r, by omega, by omega, rfl, HBO.out⟩
            case round =>
              obtain ⟨wz, rfl⟩ : ∃ wz : World, wz = wr := ⟨_, rfl⟩
              obtain ⟨z, hz1, hz2, rfl, hbz⟩ := hrel
              have HBZ := Lib.hid hbz
              obtain ⟨B0, hbb⟩ := HPB.out _ hbz
              have HBB2 := Lib.hid hbb
              have c02 := (B0.cell 2).trans rfl; have c03 := (B0.cell 3).trans rfl; have c04 := (B0.cell 4).trans rfl; have c05 := (B0.cell 5).trans rfl
              clear hbz hbb
              by_cases hlz : z ≤ p.r
              · have m1 := mul_bd (A := 12) (B := 12) (x := x1) (y := x1) (by omega) (by omega) (by omega) (by omega)
                have m2 := mul_bd (A := 12) (B := 12) (x := z) (y := z) (by omega) (by omega) (by omega) (by omega)
                have m3 := mul_bd (A := 12) (B := 12) (x := p.r) (y := p.r) (by omega) (by omega) (by omega) (by omega)
                have f1 := wr_ (n := x1 * x1) (by omega)
                have f2 := wr_ (n := z * z) (by omega)
                have f3 := wr_ (n := x1 * x1 + z * z) (by omega)
                have f4 := wr_ (n := p.r * p.r) (by omega)
                have f5 := wr_ (n := p.x + x1) (by omega)
                have f6 := wr_ (n := p.y + z) (by omega)
                have HSQ : Hid (sqZ (p.x, p.y) (p.x + x1, p.y + z) = x1 * x1 + z * z) := Lib.hid (by unfold sqZ; grind)
                have HP0 := Lib.hid (B0.alloc (.cells #[.int .i64 (p.x + x1), .int .i64 (p.y + z)] 25))
                obtain ⟨g0, hg⟩ := box1 wz 25 #[.int .i64 (p.x + x1), .int .i64 (p.y + z)]
                have e5 := (HP0.out.cell 5).trans rfl
                have c0 := (g0.cell 0).trans rfl; have c1 := (g0.cell 1).trans rfl
                have HG0 := Lib.hid g0
                have HB6 := Lib.hid (below_next HBZ.out (Nat.le_refl _) hg)
                clear m1 m2 m3 g0 hg B0
                by_cases hs : p.r * p.r < x1 * x1 + z * z
                · go_wp2_with fail
                  go_roundw
                  case rel => exact ⟨z + 1, by omega, by omega, by go_num, HB6.out⟩
                  case measure => simp [intOf]; omega
                · have hs2 : x1 * x1 + z * z ≤ p.r * p.r := by omega
                  clear hs
                  rcases hq : okP (p.x + x1, p.y + z) with _ | _
                  · have HQ := Lib.hid hq
                    clear hq
                    go_wp2_with fail
                    refine (rvalid_any (p.x + x1, p.y + z) false _ HQ.out).mono ?_
                    rintro e w8 ⟨rfl, hb7⟩
                    have HB7 := Lib.hid (below_next HB6.out (Nat.le_refl _) hb7)
                    clear hb7
                    go_wp2_with fail
                    go_roundw
                    case rel => exact ⟨z + 1, by omega, by omega, by go_num, HB7.out⟩
                    case measure => simp [intOf]; omega
                  · have HQ := Lib.hid hq
                    obtain ⟨g, hg⟩ : ∃ g, permB l (p.x + x1, p.y + z) p.tm = g := ⟨_, rfl⟩
                    have HGG := Lib.hid hg
                    obtain rfl : g = true := by rw [← hg]; exact HLAW.out _ hq (by rw [HSQ.out]; exact hs2)
                    clear hq hg
                    go_wp2_with fail
                    refine (rvalid_any (p.x + x1, p.y + z) true _ HQ.out).mono ?_
                    rintro e w8 ⟨rfl, hb7⟩
                    have HB7 := Lib.hid (below_next HB6.out (Nat.le_refl _) hb7)
                    have HP7 := HP0.out.ofBelow hb7
                    have HG7 := HG0.out.ofBelow hb7
                    have p2 := (HP7.cell 2).trans rfl
                    have g0 := (HG7.cell 0).trans rfl; have g1 := (HG7.cell 1).trans rfl
                    have HW7 := Lib.hid (HPB.out _ HB7.out).2
                    clear hb7 HP7 HG7 c0 c1 c02 c03 c04 c05 e5
                    go_wp2_with fail
                    refine (permitted_any A n c l (p.x + x1, p.y + z) p.tm _ _ (HZA.out _ HW7.out) hn HGG.out).mono ?_
                    rintro e w9 ⟨rfl, hb9⟩
                    have HB9 := Lib.hid (below_next HB7.out (Nat.le_refl _) hb9)
                    have v3 := ((HVR.out _ HB9.out).cell 3).trans rfl
                    clear hb9 p2 g0 g1
                    go_wp2_with fail
                    go_roundw
                    case rel => exact ⟨z + 1, by omega, by omega, by go_num, HB9.out⟩
                    case measure => simp [intOf]; omega
              · have hz3 : z = p.r + 1 := by omega
                clear c02 c03 c04
                go_wp2_with fail
                go_roundw
                case rel => exact ⟨x1 + 1, by omega, by omega, by go_num, HBZ.out⟩
                case measure => simp [intOf]; omega
          · have hx3 : x1 = p.r + 1 := by omega
            go_wp2_with fail
            refine (awake_any _).mono ?_
            rintro e w10 ⟨rfl, hb10⟩
            have HBF := Lib.hid (below_next HBB.out (Nat.le_refl _) hb10)
            clear hb10
            go_wp2_with fail
            go_ret
            exact ⟨rfl, HBF.out⟩
    · clear HL1 HL2
      by_cases hr0 : p.r = 0
      · have hr1 : (p.r == 0) = true := by simp [hr0]
        have hr2 : decide (p.r = 0) = true := by simp [hr0]
        have hr3 : 0 ≤ p.r := by omega
        clear hr0
        go_enter Try.func9, Try.ntmps9
        go_wp2_with fail
        refine (fewk_any A n c l A2 m c2 ps true _ (HZA.out _ HB.out) hn (HZP.out _ HB.out) hm HF.out).mono ?_
        rintro e w9 ⟨rfl, hb9⟩
        replace kk := below_next kk (Nat.le_refl _) hb9
        clear c00 c01 c02 c03 c04 c05 HB hb9
        obtain ⟨B0, hbb⟩ := HK.out _ kk
        have c00 := B0.cell 0
        have c01 := B0.cell 1
        have c02 := B0.cell 2
        have c03 := B0.cell 3
        have c04 := B0.cell 4
        have c05 := B0.cell 5
        have HB := Lib.hid hbb
        clear B0 hbb
        go_wp2_with fail
        refine (pjudge_any A n c l A2 m c2 ps p (p.ride, p.rider, p.tm, 1) 0 _ (HZA.out _ HB.out) hn (HZP.out _ HB.out) hm HY.out HV.out).mono ?_
        rintro e u1 ⟨rfl, hb1⟩
        have V1 := Lib.hid (Blk.new u1 31 #[.int .i64 p.ride, .int .i64 p.rider, .int .i64 p.tm, .int .i64 1])
        replace kk := (below_next kk (Nat.le_refl _) hb1).alloc (below_next kk (Nat.le_refl _) hb1).size (.cells #[.int .i64 p.ride, .int .i64 p.rider, .int .i64 p.tm, .int .i64 1] 31)
        clear HB hb1 c00 c01 c02 c03 c04 c05
        obtain ⟨B0, hbb⟩ := HK.out _ kk
        have c00 := B0.cell 0
        have c01 := B0.cell 1
        have c02 := B0.cell 2
        have c03 := B0.cell 3
        have c04 := B0.cell 4
        have c05 := B0.cell 5
        have HB := Lib.hid hbb
        clear B0 hbb
        go_wp2_with fail
        refine (rpkcheck_any p 0 _ HPZ.out).mono ?_
        rintro e u2 ⟨rfl, hb2⟩
        replace V1 := Lib.hid (V1.out.ofBelow hb2)
        replace kk := below_next kk (Nat.le_refl _) hb2
        clear HB hb2 c00 c01 c02 c03 c04 c05
        obtain ⟨B0, hbb⟩ := HK.out _ kk
        have c00 := B0.cell 0
        have c01 := B0.cell 1
        have c02 := B0.cell 2
        have c03 := B0.cell 3
        have c04 := B0.cell 4
        have c05 := B0.cell 5
        have HB := Lib.hid hbb
        clear B0 hbb
        have v3 := (V1.out.cell 3).trans rfl
        go_wp2_with fail
        refine (lcounts_any A2 m c2 ps p true _ (HZP.out _ HB.out) hm htm HCC.out).mono ?_
        rintro e u3 ⟨rfl, hb3⟩
        replace V1 := Lib.hid (V1.out.ofBelow hb3)
        replace kk := below_next kk (Nat.le_refl _) hb3
        clear v3 HB hb3 c00 c01 c02 c03 c04 c05
        obtain ⟨B0, hbb⟩ := HK.out _ kk
        have c00 := B0.cell 0
        have c01 := B0.cell 1
        have c02 := B0.cell 2
        have c03 := B0.cell 3
        have c04 := B0.cell 4
        have c05 := B0.cell 5
        have HB := Lib.hid hbb
        clear B0 hbb
        go_wp2_with fail
        obtain ⟨w7, rfl⟩ : ∃ w7 : World, w7 = u3 := ⟨_, rfl⟩
        have HVR : Hid (∀ u, Below w7.heap.size w7 u → Blk u u1.heap.size 31 #[.int .i64 p.ride, .int .i64 p.rider, .int .i64 p.tm, .int .i64 1]) := Lib.hid fun u hu => V1.out.ofBelow hu
        have HPB : Hid (∀ u, Below w7.heap.size w7 u → Blk u w.heap.size 27 #[.int .i64 p.ride, .int .i64 p.rider, .int .i64 p.tm, .int .i64 p.x, .int .i64 p.y, .int .i64 p.r] ∧ Below w.heap.size w u) := Lib.hid fun u hu => HK.out _ (below_next kk (Nat.le_refl _) hu)
        clear kk HB V1 c00 c01 c02 c03 c04 c05
        go_loopw [10] (fun s wr => ∃ k : Int, -p.r ≤ k ∧ k ≤ p.r + 1 ∧ s = .int .i64 k ∧ Below w7.heap.size w7 wr) (fun s _ => (p.r + 1 - intOf s).toNat)
        case atStart => exact ⟨-p.r, by omega, by omega, rfl, Below.refl _ _⟩
        case round =>
          obtain ⟨wo, rfl⟩ : ∃ wo : World, wo = wr := ⟨_, rfl⟩
          obtain ⟨x1, hx1, hx2, rfl, hbw⟩ := hrel
          have HBO := Lib.hid hbw
          obtain ⟨B0, hbb⟩ := HPB.out _ hbw
          have HBB := Lib.hid hbb
          have c05 := (B0.cell 5).trans rfl
          clear hbw hbb B0
          by_cases hlt : x1 ≤ p.r
          · go_wp2_with fail
            clear c05
            go_loopw [11] (fun s wr => ∃ k : Int, -p.r ≤ k ∧ k ≤ p.r + 1 ∧ s = .int .i64 k ∧ Below w7.heap.size w7 wr) (fun s _ => (p.r + 1 - intOf s).toNat)
            case atStart => exact ⟨-p.r, by omega, by omega, rfl, HBO.out⟩
            case round =>
              obtain ⟨wz, rfl⟩ : ∃ wz : World, wz = wr := ⟨_, rfl⟩
              obtain ⟨z, hz1, hz2, rfl, hbz⟩ := hrel
              have HBZ := Lib.hid hbz
              obtain ⟨B0, hbb⟩ := HPB.out _ hbz
              have HBB2 := Lib.hid hbb
              have c02 := (B0.cell 2).trans rfl; have c03 := (B0.cell 3).trans rfl; have c04 := (B0.cell 4).trans rfl; have c05 := (B0.cell 5).trans rfl
              clear hbz hbb
              by_cases hlz : z ≤ p.r
              · have m1 := mul_bd (A := 12) (B := 12) (x := x1) (y := x1) (by omega) (by omega) (by omega) (by omega)
                have m2 := mul_bd (A := 12) (B := 12) (x := z) (y := z) (by omega) (by omega) (by omega) (by omega)
                have m3 := mul_bd (A := 12) (B := 12) (x := p.r) (y := p.r) (by omega) (by omega) (by omega) (by omega)
                have f1 := wr_ (n := x1 * x1) (by omega)
                have f2 := wr_ (n := z * z) (by omega)
                have f3 := wr_ (n := x1 * x1 + z * z) (by omega)
                have f4 := wr_ (n := p.r * p.r) (by omega)
                have f5 := wr_ (n := p.x + x1) (by omega)
                have f6 := wr_ (n := p.y + z) (by omega)
                have HSQ : Hid (sqZ (p.x, p.y) (p.x + x1, p.y + z) = x1 * x1 + z * z) := Lib.hid (by unfold sqZ; grind)
                have HP0 := Lib.hid (B0.alloc (.cells #[.int .i64 (p.x + x1), .int .i64 (p.y + z)] 25))
                obtain ⟨g0, hg⟩ := box1 wz 25 #[.int .i64 (p.x + x1), .int .i64 (p.y + z)]
                have e5 := (HP0.out.cell 5).trans rfl
                have c0 := (g0.cell 0).trans rfl; have c1 := (g0.cell 1).trans rfl
                have HG0 := Lib.hid g0
                have HB6 := Lib.hid (below_next HBZ.out (Nat.le_refl _) hg)
                clear m1 m2 m3 g0 hg B0
                by_cases hs : p.r * p.r < x1 * x1 + z * z
                · go_wp2_with fail
                  go_roundw
                  case rel => exact ⟨z + 1, by omega, by omega, by go_num, HB6.out⟩
                  case measure => simp [intOf]; omega
                · have hs2 : x1 * x1 + z * z ≤ p.r * p.r := by omega
                  clear hs
                  rcases hq : okP (p.x + x1, p.y + z) with _ | _
                  · have HQ := Lib.hid hq
                    clear hq
                    go_wp2_with fail
                    refine (rvalid_any (p.x + x1, p.y + z) false _ HQ.out).mono ?_
                    rintro e w8 ⟨rfl, hb7⟩
                    have HB7 := Lib.hid (below_next HB6.out (Nat.le_refl _) hb7)
                    clear hb7
                    go_wp2_with fail
                    go_roundw
                    case rel => exact ⟨z + 1, by omega, by omega, by go_num, HB7.out⟩
                    case measure => simp [intOf]; omega
                  · have HQ := Lib.hid hq
                    obtain ⟨g, hg⟩ : ∃ g, permB l (p.x + x1, p.y + z) p.tm = g := ⟨_, rfl⟩
                    have HGG := Lib.hid hg
                    clear hq hg
                    go_wp2_with fail
                    refine (rvalid_any (p.x + x1, p.y + z) true _ HQ.out).mono ?_
                    rintro e w8 ⟨rfl, hb7⟩
                    have HB7 := Lib.hid (below_next HB6.out (Nat.le_refl _) hb7)
                    have HP7 := HP0.out.ofBelow hb7
                    have HG7 := HG0.out.ofBelow hb7
                    have p2 := (HP7.cell 2).trans rfl
                    have g0 := (HG7.cell 0).trans rfl; have g1 := (HG7.cell 1).trans rfl
                    have HW7 := Lib.hid (HPB.out _ HB7.out).2
                    clear hb7 HP7 HG7 c0 c1 c02 c03 c04 c05 e5
                    go_wp2_with fail
                    refine (permitted_any A n c l (p.x + x1, p.y + z) p.tm _ _ (HZA.out _ HW7.out) hn HGG.out).mono ?_
                    rintro e w9 ⟨rfl, hb9⟩
                    have HB9 := Lib.hid (below_next HB7.out (Nat.le_refl _) hb9)
                    have v3 := ((HVR.out _ HB9.out).cell 3).trans rfl
                    clear hb9 p2 g0 g1
                    rcases g with _ | _
                    · skip
                      go_wp2_with fail
                      go_roundw
                      case rel => exact ⟨z + 1, by omega, by omega, by go_num, HB9.out⟩
                      case measure => simp [intOf]; omega
                    · skip
                      go_wp2_with fail
                      go_roundw
                      case rel => exact ⟨z + 1, by omega, by omega, by go_num, HB9.out⟩
                      case measure => simp [intOf]; omega
              · have hz3 : z = p.r + 1 := by omega
                clear c02 c03 c04
                go_wp2_with fail
                go_roundw
                case rel => exact ⟨x1 + 1, by omega, by omega, by go_num, HBZ.out⟩
                case measure => simp [intOf]; omega
          · have hx3 : x1 = p.r + 1 := by omega
            go_wp2_with fail
            refine (awake_any _).mono ?_
            rintro e w10 ⟨rfl, hb10⟩
            have HBF := Lib.hid (below_next HBB.out (Nat.le_refl _) hb10)
            clear hb10
            go_wp2_with fail
            go_ret
            exact ⟨rfl, HBF.out⟩
      · have hr1 : (p.r == 0) = false := by simp [hr0]
        have hr2 : decide (p.r = 0) = false := by simp [hr0]
        clear hr0
        go_enter Try.func9, Try.ntmps9
        go_wp2_with fail
        refine (fewk_any A n c l A2 m c2 ps true _ (HZA.out _ HB.out) hn (HZP.out _ HB.out) hm HF.out).mono ?_
        rintro e w10 ⟨rfl, hb10⟩
        replace kk := below_next kk (Nat.le_refl _) hb10
        clear c00 c01 c02 c03 c04 c05 HB hb10
        obtain ⟨B0, hbb⟩ := HK.out _ kk
        have c00 := B0.cell 0
        have c01 := B0.cell 1
        have c02 := B0.cell 2
        have c03 := B0.cell 3
        have c04 := B0.cell 4
        have c05 := B0.cell 5
        have HB := Lib.hid hbb
        clear B0 hbb
        go_wp2_with fail
        refine (pjudge_any A n c l A2 m c2 ps p (p.ride, p.rider, p.tm, 1) 0 _ (HZA.out _ HB.out) hn (HZP.out _ HB.out) hm HY.out HV.out).mono ?_
        rintro e u1 ⟨rfl, hb1⟩
        have V1 := Lib.hid (Blk.new u1 31 #[.int .i64 p.ride, .int .i64 p.rider, .int .i64 p.tm, .int .i64 1])
        replace kk := (below_next kk (Nat.le_refl _) hb1).alloc (below_next kk (Nat.le_refl _) hb1).size (.cells #[.int .i64 p.ride, .int .i64 p.rider, .int .i64 p.tm, .int .i64 1] 31)
        clear HB hb1 c00 c01 c02 c03 c04 c05
        obtain ⟨B0, hbb⟩ := HK.out _ kk
        have c00 := B0.cell 0
        have c01 := B0.cell 1
        have c02 := B0.cell 2
        have c03 := B0.cell 3
        have c04 := B0.cell 4
        have c05 := B0.cell 5
        have HB := Lib.hid hbb
        clear B0 hbb
        go_wp2_with fail
        refine (rpkcheck_any p 0 _ HPZ.out).mono ?_
        rintro e u2 ⟨rfl, hb2⟩
        replace V1 := Lib.hid (V1.out.ofBelow hb2)
        replace kk := below_next kk (Nat.le_refl _) hb2
        clear HB hb2 c00 c01 c02 c03 c04 c05
        obtain ⟨B0, hbb⟩ := HK.out _ kk
        have c00 := B0.cell 0
        have c01 := B0.cell 1
        have c02 := B0.cell 2
        have c03 := B0.cell 3
        have c04 := B0.cell 4
        have c05 := B0.cell 5
        have HB := Lib.hid hbb
        clear B0 hbb
        have v3 := (V1.out.cell 3).trans rfl
        go_wp2_with fail
        refine (lcounts_any A2 m c2 ps p true _ (HZP.out _ HB.out) hm htm HCC.out).mono ?_
        rintro e u3 ⟨rfl, hb3⟩
        replace V1 := Lib.hid (V1.out.ofBelow hb3)
        replace kk := below_next kk (Nat.le_refl _) hb3
        clear v3 HB hb3 c00 c01 c02 c03 c04 c05
        obtain ⟨B0, hbb⟩ := HK.out _ kk
        have c00 := B0.cell 0
        have c01 := B0.cell 1
        have c02 := B0.cell 2
        have c03 := B0.cell 3
        have c04 := B0.cell 4
        have c05 := B0.cell 5
        have HB := Lib.hid hbb
        clear B0 hbb
        go_wp2_with fail
        obtain ⟨w7, rfl⟩ : ∃ w7 : World, w7 = u3 := ⟨_, rfl⟩
        have HVR : Hid (∀ u, Below w7.heap.size w7 u → Blk u u1.heap.size 31 #[.int .i64 p.ride, .int .i64 p.rider, .int .i64 p.tm, .int .i64 1]) := Lib.hid fun u hu => V1.out.ofBelow hu
        have HPB : Hid (∀ u, Below w7.heap.size w7 u → Blk u w.heap.size 27 #[.int .i64 p.ride, .int .i64 p.rider, .int .i64 p.tm, .int .i64 p.x, .int .i64 p.y, .int .i64 p.r] ∧ Below w.heap.size w u) := Lib.hid fun u hu => HK.out _ (below_next kk (Nat.le_refl _) hu)
        clear kk HB V1 c00 c01 c02 c03 c04 c05
        go_loopw [10] (fun s wr => ∃ k : Int, -p.r ≤ k ∧ k ≤ p.r + 1 ∧ s = .int .i64 k ∧ Below w7.heap.size w7 wr) (fun s _ => (p.r + 1 - intOf s).toNat)
        case atStart => exact ⟨-p.r, by omega, by omega, rfl, Below.refl _ _⟩
        case round =>
          obtain ⟨wo, rfl⟩ : ∃ wo : World, wo = wr := ⟨_, rfl⟩
          obtain ⟨x1, hx1, hx2, rfl, hbw⟩ := hrel
          have HBO := Lib.hid hbw
          obtain ⟨B0, hbb⟩ := HPB.out _ hbw
          have HBB := Lib.hid hbb
          have c05 := (B0.cell 5).trans rfl
          clear hbw hbb B0
          by_cases hlt : x1 ≤ p.r
          · go_wp2_with fail
            clear c05
            go_loopw [11] (fun s wr => ∃ k : Int, -p.r ≤ k ∧ k ≤ p.r + 1 ∧ s = .int .i64 k ∧ Below w7.heap.size w7 wr) (fun s _ => (p.r + 1 - intOf s).toNat)
            case atStart => exact ⟨-p.r, by omega, by omega, rfl, HBO.out⟩
            case round =>
              obtain ⟨wz, rfl⟩ : ∃ wz : World, wz = wr := ⟨_, rfl⟩
              obtain ⟨z, hz1, hz2, rfl, hbz⟩ := hrel
              have HBZ := Lib.hid hbz
              obtain ⟨B0, hbb⟩ := HPB.out _ hbz
              have HBB2 := Lib.hid hbb
              have c02 := (B0.cell 2).trans rfl; have c03 := (B0.cell 3).trans rfl; have c04 := (B0.cell 4).trans rfl; have c05 := (B0.cell 5).trans rfl
              clear hbz hbb
              by_cases hlz : z ≤ p.r
              · have m1 := mul_bd (A := 12) (B := 12) (x := x1) (y := x1) (by omega) (by omega) (by omega) (by omega)
                have m2 := mul_bd (A := 12) (B := 12) (x := z) (y := z) (by omega) (by omega) (by omega) (by omega)
                have m3 := mul_bd (A := 12) (B := 12) (x := p.r) (y := p.r) (by omega) (by omega) (by omega) (by omega)
                have f1 := wr_ (n := x1 * x1) (by omega)
                have f2 := wr_ (n := z * z) (by omega)
                have f3 := wr_ (n := x1 * x1 + z * z) (by omega)
                have f4 := wr_ (n := p.r * p.r) (by omega)
                have f5 := wr_ (n := p.x + x1) (by omega)
                have f6 := wr_ (n := p.y + z) (by omega)
                have HSQ : Hid (sqZ (p.x, p.y) (p.x + x1, p.y + z) = x1 * x1 + z * z) := Lib.hid (by unfold sqZ; grind)
                have HP0 := Lib.hid (B0.alloc (.cells #[.int .i64 (p.x + x1), .int .i64 (p.y + z)] 25))
                obtain ⟨g0, hg⟩ := box1 wz 25 #[.int .i64 (p.x + x1), .int .i64 (p.y + z)]
                have e5 := (HP0.out.cell 5).trans rfl
                have c0 := (g0.cell 0).trans rfl; have c1 := (g0.cell 1).trans rfl
                have HG0 := Lib.hid g0
                have HB6 := Lib.hid (below_next HBZ.out (Nat.le_refl _) hg)
                clear m1 m2 m3 g0 hg B0
                by_cases hs : p.r * p.r < x1 * x1 + z * z
                · go_wp2_with fail
                  go_roundw
                  case rel => exact ⟨z + 1, by omega, by omega, by go_num, HB6.out⟩
                  case measure => simp [intOf]; omega
                · have hs2 : x1 * x1 + z * z ≤ p.r * p.r := by omega
                  clear hs
                  rcases hq : okP (p.x + x1, p.y + z) with _ | _
                  · have HQ := Lib.hid hq
                    clear hq
                    go_wp2_with fail
                    refine (rvalid_any (p.x + x1, p.y + z) false _ HQ.out).mono ?_
                    rintro e w8 ⟨rfl, hb7⟩
                    have HB7 := Lib.hid (below_next HB6.out (Nat.le_refl _) hb7)
                    clear hb7
                    go_wp2_with fail
                    go_roundw
                    case rel => exact ⟨z + 1, by omega, by omega, by go_num, HB7.out⟩
                    case measure => simp [intOf]; omega
                  · have HQ := Lib.hid hq
                    obtain ⟨g, hg⟩ : ∃ g, permB l (p.x + x1, p.y + z) p.tm = g := ⟨_, rfl⟩
                    have HGG := Lib.hid hg
                    clear hq hg
                    go_wp2_with fail
                    refine (rvalid_any (p.x + x1, p.y + z) true _ HQ.out).mono ?_
                    rintro e w8 ⟨rfl, hb7⟩
                    have HB7 := Lib.hid (below_next HB6.out (Nat.le_refl _) hb7)
                    have HP7 := HP0.out.ofBelow hb7
                    have HG7 := HG0.out.ofBelow hb7
                    have p2 := (HP7.cell 2).trans rfl
                    have g0 := (HG7.cell 0).trans rfl; have g1 := (HG7.cell 1).trans rfl
                    have HW7 := Lib.hid (HPB.out _ HB7.out).2
                    clear hb7 HP7 HG7 c0 c1 c02 c03 c04 c05 e5
                    go_wp2_with fail
                    refine (permitted_any A n c l (p.x + x1, p.y + z) p.tm _ _ (HZA.out _ HW7.out) hn HGG.out).mono ?_
                    rintro e w9 ⟨rfl, hb9⟩
                    have HB9 := Lib.hid (below_next HB7.out (Nat.le_refl _) hb9)
                    have v3 := ((HVR.out _ HB9.out).cell 3).trans rfl
                    clear hb9 p2 g0 g1
                    rcases g with _ | _
                    · skip
                      go_wp2_with fail
                      go_roundw
                      case rel => exact ⟨z + 1, by omega, by omega, by go_num, HB9.out⟩
                      case measure => simp [intOf]; omega
                    · skip
                      go_wp2_with fail
                      go_roundw
                      case rel => exact ⟨z + 1, by omega, by omega, by go_num, HB9.out⟩
                      case measure => simp [intOf]; omega
              · have hz3 : z = p.r + 1 := by omega
                clear c02 c03 c04
                go_wp2_with fail
                go_roundw
                case rel => exact ⟨x1 + 1, by omega, by omega, by go_num, HBZ.out⟩
                case measure => simp [intOf]; omega
          · have hx3 : x1 = p.r + 1 := by omega
            go_wp2_with fail
            refine (awake_any _).mono ?_
            rintro e w10 ⟨rfl, hb10⟩
            have HBF := Lib.hid (below_next HBB.out (Nat.le_refl _) hb10)
            clear hb10
            go_wp2_with fail
            go_ret
            exact ⟨rfl, HBF.out⟩
  · have HLAW : Hid (∀ q, okP q = true → sqZ (p.x, p.y) q ≤ p.r * p.r → permB l q p.tm = false) := Lib.hid fun q h1 h2 => HL2.out q h1 h2 rfl
    clear HL1 HL2 hz
    by_cases hr0 : p.r = 0
    · have hr1 : (p.r == 0) = true := by simp [hr0]
      have hr2 : decide (p.r = 0) = true := by simp [hr0]
      have hr3 : 0 ≤ p.r := by omega
      clear hr0
      go_enter Try.func9, Try.ntmps9
      go_wp2_with fail
      refine (fewk_any A n c l A2 m c2 ps true _ (HZA.out _ HB.out) hn (HZP.out _ HB.out) hm HF.out).mono ?_
      rintro e w11 ⟨rfl, hb11⟩
      replace kk := below_next kk (Nat.le_refl _) hb11
      clear c00 c01 c02 c03 c04 c05 HB hb11
      obtain ⟨B0, hbb⟩ := HK.out _ kk
      have c00 := B0.cell 0
      have c01 := B0.cell 1
      have c02 := B0.cell 2
      have c03 := B0.cell 3
      have c04 := B0.cell 4
      have c05 := B0.cell 5
      have HB := Lib.hid hbb
      clear B0 hbb
      go_wp2_with fail
      refine (pjudge_any A n c l A2 m c2 ps p (p.ride, p.rider, p.tm, 2) 0 _ (HZA.out _ HB.out) hn (HZP.out _ HB.out) hm HY.out HV.out).mono ?_
      rintro e u1 ⟨rfl, hb1⟩
      have V1 := Lib.hid (Blk.new u1 31 #[.int .i64 p.ride, .int .i64 p.rider, .int .i64 p.tm, .int .i64 2])
      replace kk := (below_next kk (Nat.le_refl _) hb1).alloc (below_next kk (Nat.le_refl _) hb1).size (.cells #[.int .i64 p.ride, .int .i64 p.rider, .int .i64 p.tm, .int .i64 2] 31)
      clear HB hb1 c00 c01 c02 c03 c04 c05
      obtain ⟨B0, hbb⟩ := HK.out _ kk
      have c00 := B0.cell 0
      have c01 := B0.cell 1
      have c02 := B0.cell 2
      have c03 := B0.cell 3
      have c04 := B0.cell 4
      have c05 := B0.cell 5
      have HB := Lib.hid hbb
      clear B0 hbb
      go_wp2_with fail
      refine (rpkcheck_any p 0 _ HPZ.out).mono ?_
      rintro e u2 ⟨rfl, hb2⟩
      replace V1 := Lib.hid (V1.out.ofBelow hb2)
      replace kk := below_next kk (Nat.le_refl _) hb2
      clear HB hb2 c00 c01 c02 c03 c04 c05
      obtain ⟨B0, hbb⟩ := HK.out _ kk
      have c00 := B0.cell 0
      have c01 := B0.cell 1
      have c02 := B0.cell 2
      have c03 := B0.cell 3
      have c04 := B0.cell 4
      have c05 := B0.cell 5
      have HB := Lib.hid hbb
      clear B0 hbb
      have v3 := (V1.out.cell 3).trans rfl
      go_wp2_with fail
      obtain ⟨w7, rfl⟩ : ∃ w7 : World, w7 = u2 := ⟨_, rfl⟩
      have HVR : Hid (∀ u, Below w7.heap.size w7 u → Blk u u1.heap.size 31 #[.int .i64 p.ride, .int .i64 p.rider, .int .i64 p.tm, .int .i64 2]) := Lib.hid fun u hu => V1.out.ofBelow hu
      have HPB : Hid (∀ u, Below w7.heap.size w7 u → Blk u w.heap.size 27 #[.int .i64 p.ride, .int .i64 p.rider, .int .i64 p.tm, .int .i64 p.x, .int .i64 p.y, .int .i64 p.r] ∧ Below w.heap.size w u) := Lib.hid fun u hu => HK.out _ (below_next kk (Nat.le_refl _) hu)
      clear kk HB V1 c00 c01 c02 c03 c04 c05 v3
      go_loopw [10] (fun s wr => ∃ k : Int, -p.r ≤ k ∧ k ≤ p.r + 1 ∧ s = .int .i64 k ∧ Below w7.heap.size w7 wr) (fun s _ => (p.r + 1 - intOf s).toNat)
      case atStart => exact ⟨-p.r, by omega, by omega, rfl, Below.refl _ _⟩
      case round =>
        obtain ⟨wo, rfl⟩ : ∃ wo : World, wo = wr := ⟨_, rfl⟩
        obtain ⟨x1, hx1, hx2, rfl, hbw⟩ := hrel
        have HBO := Lib.hid hbw
        obtain ⟨B0, hbb⟩ := HPB.out _ hbw
        have HBB := Lib.hid hbb
        have c05 := (B0.cell 5).trans rfl
        clear hbw hbb B0
        by_cases hlt : x1 ≤ p.r
        · go_wp2_with fail
          clear c05
          go_loopw [11] (fun s wr => ∃ k : Int, -p.r ≤ k ∧ k ≤ p.r + 1 ∧ s = .int .i64 k ∧ Below w7.heap.size w7 wr) (fun s _ => (p.r + 1 - intOf s).toNat)
          case atStart => exact ⟨-p.r, by omega, by omega, rfl, HBO.out⟩
          case round =>
            obtain ⟨wz, rfl⟩ : ∃ wz : World, wz = wr := ⟨_, rfl⟩
            obtain ⟨z, hz1, hz2, rfl, hbz⟩ := hrel
            have HBZ := Lib.hid hbz
            obtain ⟨B0, hbb⟩ := HPB.out _ hbz
            have HBB2 := Lib.hid hbb
            have c02 := (B0.cell 2).trans rfl; have c03 := (B0.cell 3).trans rfl; have c04 := (B0.cell 4).trans rfl; have c05 := (B0.cell 5).trans rfl
            clear hbz hbb
            by_cases hlz : z ≤ p.r
            · have m1 := mul_bd (A := 12) (B := 12) (x := x1) (y := x1) (by omega) (by omega) (by omega) (by omega)
              have m2 := mul_bd (A := 12) (B := 12) (x := z) (y := z) (by omega) (by omega) (by omega) (by omega)
              have m3 := mul_bd (A := 12) (B := 12) (x := p.r) (y := p.r) (by omega) (by omega) (by omega) (by omega)
              have f1 := wr_ (n := x1 * x1) (by omega)
              have f2 := wr_ (n := z * z) (by omega)
              have f3 := wr_ (n := x1 * x1 + z * z) (by omega)
              have f4 := wr_ (n := p.r * p.r) (by omega)
              have f5 := wr_ (n := p.x + x1) (by omega)
              have f6 := wr_ (n := p.y + z) (by omega)
              have HSQ : Hid (sqZ (p.x, p.y) (p.x + x1, p.y + z) = x1 * x1 + z * z) := Lib.hid (by unfold sqZ; grind)
              have HP0 := Lib.hid (B0.alloc (.cells #[.int .i64 (p.x + x1), .int .i64 (p.y + z)] 25))
              obtain ⟨g0, hg⟩ := box1 wz 25 #[.int .i64 (p.x + x1), .int .i64 (p.y + z)]
              have e5 := (HP0.out.cell 5).trans rfl
              have c0 := (g0.cell 0).trans rfl; have c1 := (g0.cell 1).trans rfl
              have HG0 := Lib.hid g0
              have HB6 := Lib.hid (below_next HBZ.out (Nat.le_refl _) hg)
              clear m1 m2 m3 g0 hg B0
              by_cases hs : p.r * p.r < x1 * x1 + z * z
              · go_wp2_with fail
                go_roundw
                case rel => exact ⟨z + 1, by omega, by omega, by go_num, HB6.out⟩
                case measure => simp [intOf]; omega
              · have hs2 : x1 * x1 + z * z ≤ p.r * p.r := by omega
                clear hs
                rcases hq : okP (p.x + x1, p.y + z) with _ | _
                · have HQ := Lib.hid hq
                  clear hq
                  go_wp2_with fail
                  refine (rvalid_any (p.x + x1, p.y + z) false _ HQ.out).mono ?_
                  rintro e w8 ⟨rfl, hb7⟩
                  have HB7 := Lib.hid (below_next HB6.out (Nat.le_refl _) hb7)
                  clear hb7
                  go_wp2_with fail
                  go_roundw
                  case rel => exact ⟨z + 1, by omega, by omega, by go_num, HB7.out⟩
                  case measure => simp [intOf]; omega
                · have HQ := Lib.hid hq
                  obtain ⟨g, hg⟩ : ∃ g, permB l (p.x + x1, p.y + z) p.tm = g := ⟨_, rfl⟩
                  have HGG := Lib.hid hg
                  obtain rfl : g = false := by rw [← hg]; exact HLAW.out _ hq (by rw [HSQ.out]; exact hs2)
                  clear hq hg
                  go_wp2_with fail
                  refine (rvalid_any (p.x + x1, p.y + z) true _ HQ.out).mono ?_
                  rintro e w8 ⟨rfl, hb7⟩
                  have HB7 := Lib.hid (below_next HB6.out (Nat.le_refl _) hb7)
                  have HP7 := HP0.out.ofBelow hb7
                  have HG7 := HG0.out.ofBelow hb7
                  have p2 := (HP7.cell 2).trans rfl
                  have g0 := (HG7.cell 0).trans rfl; have g1 := (HG7.cell 1).trans rfl
                  have HW7 := Lib.hid (HPB.out _ HB7.out).2
                  clear hb7 HP7 HG7 c0 c1 c02 c03 c04 c05 e5
                  go_wp2_with fail
                  refine (permitted_any A n c l (p.x + x1, p.y + z) p.tm _ _ (HZA.out _ HW7.out) hn HGG.out).mono ?_
                  rintro e w9 ⟨rfl, hb9⟩
                  have HB9 := Lib.hid (below_next HB7.out (Nat.le_refl _) hb9)
                  have v3 := ((HVR.out _ HB9.out).cell 3).trans rfl
                  clear hb9 p2 g0 g1
                  go_wp2_with fail
                  go_roundw
                  case rel => exact ⟨z + 1, by omega, by omega, by go_num, HB9.out⟩
                  case measure => simp [intOf]; omega
            · have hz3 : z = p.r + 1 := by omega
              clear c02 c03 c04
              go_wp2_with fail
              go_roundw
              case rel => exact ⟨x1 + 1, by omega, by omega, by go_num, HBZ.out⟩
              case measure => simp [intOf]; omega
        · have hx3 : x1 = p.r + 1 := by omega
          go_wp2_with fail
          refine (awake_any _).mono ?_
          rintro e w10 ⟨rfl, hb10⟩
          have HBF := Lib.hid (below_next HBB.out (Nat.le_refl _) hb10)
          clear hb10
          go_wp2_with fail
          go_ret
          exact ⟨rfl, HBF.out⟩
    · have hr1 : (p.r == 0) = false := by simp [hr0]
      have hr2 : decide (p.r = 0) = false := by simp [hr0]
      clear hr0
      go_enter Try.func9, Try.ntmps9
      go_wp2_with fail
      refine (fewk_any A n c l A2 m c2 ps true _ (HZA.out _ HB.out) hn (HZP.out _ HB.out) hm HF.out).mono ?_
      rintro e w12 ⟨rfl, hb12⟩
      replace kk := below_next kk (Nat.le_refl _) hb12
      clear c00 c01 c02 c03 c04 c05 HB hb12
      obtain ⟨B0, hbb⟩ := HK.out _ kk
      have c00 := B0.cell 0
      have c01 := B0.cell 1
      have c02 := B0.cell 2
      have c03 := B0.cell 3
      have c04 := B0.cell 4
      have c05 := B0.cell 5
      have HB := Lib.hid hbb
      clear B0 hbb
      go_wp2_with fail
      refine (pjudge_any A n c l A2 m c2 ps p (p.ride, p.rider, p.tm, 2) 0 _ (HZA.out _ HB.out) hn (HZP.out _ HB.out) hm HY.out HV.out).mono ?_
      rintro e u1 ⟨rfl, hb1⟩
      have V1 := Lib.hid (Blk.new u1 31 #[.int .i64 p.ride, .int .i64 p.rider, .int .i64 p.tm, .int .i64 2])
      replace kk := (below_next kk (Nat.le_refl _) hb1).alloc (below_next kk (Nat.le_refl _) hb1).size (.cells #[.int .i64 p.ride, .int .i64 p.rider, .int .i64 p.tm, .int .i64 2] 31)
      clear HB hb1 c00 c01 c02 c03 c04 c05
      obtain ⟨B0, hbb⟩ := HK.out _ kk
      have c00 := B0.cell 0
      have c01 := B0.cell 1
      have c02 := B0.cell 2
      have c03 := B0.cell 3
      have c04 := B0.cell 4
      have c05 := B0.cell 5
      have HB := Lib.hid hbb
      clear B0 hbb
      go_wp2_with fail
      refine (rpkcheck_any p 0 _ HPZ.out).mono ?_
      rintro e u2 ⟨rfl, hb2⟩
      replace V1 := Lib.hid (V1.out.ofBelow hb2)
      replace kk := below_next kk (Nat.le_refl _) hb2
      clear HB hb2 c00 c01 c02 c03 c04 c05
      obtain ⟨B0, hbb⟩ := HK.out _ kk
      have c00 := B0.cell 0
      have c01 := B0.cell 1
      have c02 := B0.cell 2
      have c03 := B0.cell 3
      have c04 := B0.cell 4
      have c05 := B0.cell 5
      have HB := Lib.hid hbb
      clear B0 hbb
      have v3 := (V1.out.cell 3).trans rfl
      go_wp2_with fail
      obtain ⟨w7, rfl⟩ : ∃ w7 : World, w7 = u2 := ⟨_, rfl⟩
      have HVR : Hid (∀ u, Below w7.heap.size w7 u → Blk u u1.heap.size 31 #[.int .i64 p.ride, .int .i64 p.rider, .int .i64 p.tm, .int .i64 2]) := Lib.hid fun u hu => V1.out.ofBelow hu
      have HPB : Hid (∀ u, Below w7.heap.size w7 u → Blk u w.heap.size 27 #[.int .i64 p.ride, .int .i64 p.rider, .int .i64 p.tm, .int .i64 p.x, .int .i64 p.y, .int .i64 p.r] ∧ Below w.heap.size w u) := Lib.hid fun u hu => HK.out _ (below_next kk (Nat.le_refl _) hu)
      clear kk HB V1 c00 c01 c02 c03 c04 c05 v3
      go_loopw [10] (fun s wr => ∃ k : Int, -p.r ≤ k ∧ k ≤ p.r + 1 ∧ s = .int .i64 k ∧ Below w7.heap.size w7 wr) (fun s _ => (p.r + 1 - intOf s).toNat)
      case atStart => exact ⟨-p.r, by omega, by omega, rfl, Below.refl _ _⟩
      case round =>
        obtain ⟨wo, rfl⟩ : ∃ wo : World, wo = wr := ⟨_, rfl⟩
        obtain ⟨x1, hx1, hx2, rfl, hbw⟩ := hrel
        have HBO := Lib.hid hbw
        obtain ⟨B0, hbb⟩ := HPB.out _ hbw
        have HBB := Lib.hid hbb
        have c05 := (B0.cell 5).trans rfl
        clear hbw hbb B0
        by_cases hlt : x1 ≤ p.r
        · go_wp2_with fail
          clear c05
          go_loopw [11] (fun s wr => ∃ k : Int, -p.r ≤ k ∧ k ≤ p.r + 1 ∧ s = .int .i64 k ∧ Below w7.heap.size w7 wr) (fun s _ => (p.r + 1 - intOf s).toNat)
          case atStart => exact ⟨-p.r, by omega, by omega, rfl, HBO.out⟩
          case round =>
            obtain ⟨wz, rfl⟩ : ∃ wz : World, wz = wr := ⟨_, rfl⟩
            obtain ⟨z, hz1, hz2, rfl, hbz⟩ := hrel
            have HBZ := Lib.hid hbz
            obtain ⟨B0, hbb⟩ := HPB.out _ hbz
            have HBB2 := Lib.hid hbb
            have c02 := (B0.cell 2).trans rfl; have c03 := (B0.cell 3).trans rfl; have c04 := (B0.cell 4).trans rfl; have c05 := (B0.cell 5).trans rfl
            clear hbz hbb
            by_cases hlz : z ≤ p.r
            · have m1 := mul_bd (A := 12) (B := 12) (x := x1) (y := x1) (by omega) (by omega) (by omega) (by omega)
              have m2 := mul_bd (A := 12) (B := 12) (x := z) (y := z) (by omega) (by omega) (by omega) (by omega)
              have m3 := mul_bd (A := 12) (B := 12) (x := p.r) (y := p.r) (by omega) (by omega) (by omega) (by omega)
              have f1 := wr_ (n := x1 * x1) (by omega)
              have f2 := wr_ (n := z * z) (by omega)
              have f3 := wr_ (n := x1 * x1 + z * z) (by omega)
              have f4 := wr_ (n := p.r * p.r) (by omega)
              have f5 := wr_ (n := p.x + x1) (by omega)
              have f6 := wr_ (n := p.y + z) (by omega)
              have HSQ : Hid (sqZ (p.x, p.y) (p.x + x1, p.y + z) = x1 * x1 + z * z) := Lib.hid (by unfold sqZ; grind)
              have HP0 := Lib.hid (B0.alloc (.cells #[.int .i64 (p.x + x1), .int .i64 (p.y + z)] 25))
              obtain ⟨g0, hg⟩ := box1 wz 25 #[.int .i64 (p.x + x1), .int .i64 (p.y + z)]
              have e5 := (HP0.out.cell 5).trans rfl
              have c0 := (g0.cell 0).trans rfl; have c1 := (g0.cell 1).trans rfl
              have HG0 := Lib.hid g0
              have HB6 := Lib.hid (below_next HBZ.out (Nat.le_refl _) hg)
              clear m1 m2 m3 g0 hg B0
              by_cases hs : p.r * p.r < x1 * x1 + z * z
              · go_wp2_with fail
                go_roundw
                case rel => exact ⟨z + 1, by omega, by omega, by go_num, HB6.out⟩
                case measure => simp [intOf]; omega
              · have hs2 : x1 * x1 + z * z ≤ p.r * p.r := by omega
                clear hs
                rcases hq : okP (p.x + x1, p.y + z) with _ | _
                · have HQ := Lib.hid hq
                  clear hq
                  go_wp2_with fail
                  refine (rvalid_any (p.x + x1, p.y + z) false _ HQ.out).mono ?_
                  rintro e w8 ⟨rfl, hb7⟩
                  have HB7 := Lib.hid (below_next HB6.out (Nat.le_refl _) hb7)
                  clear hb7
                  go_wp2_with fail
                  go_roundw
                  case rel => exact ⟨z + 1, by omega, by omega, by go_num, HB7.out⟩
                  case measure => simp [intOf]; omega
                · have HQ := Lib.hid hq
                  obtain ⟨g, hg⟩ : ∃ g, permB l (p.x + x1, p.y + z) p.tm = g := ⟨_, rfl⟩
                  have HGG := Lib.hid hg
                  obtain rfl : g = false := by rw [← hg]; exact HLAW.out _ hq (by rw [HSQ.out]; exact hs2)
                  clear hq hg
                  go_wp2_with fail
                  refine (rvalid_any (p.x + x1, p.y + z) true _ HQ.out).mono ?_
                  rintro e w8 ⟨rfl, hb7⟩
                  have HB7 := Lib.hid (below_next HB6.out (Nat.le_refl _) hb7)
                  have HP7 := HP0.out.ofBelow hb7
                  have HG7 := HG0.out.ofBelow hb7
                  have p2 := (HP7.cell 2).trans rfl
                  have g0 := (HG7.cell 0).trans rfl; have g1 := (HG7.cell 1).trans rfl
                  have HW7 := Lib.hid (HPB.out _ HB7.out).2
                  clear hb7 HP7 HG7 c0 c1 c02 c03 c04 c05 e5
                  go_wp2_with fail
                  refine (permitted_any A n c l (p.x + x1, p.y + z) p.tm _ _ (HZA.out _ HW7.out) hn HGG.out).mono ?_
                  rintro e w9 ⟨rfl, hb9⟩
                  have HB9 := Lib.hid (below_next HB7.out (Nat.le_refl _) hb9)
                  have v3 := ((HVR.out _ HB9.out).cell 3).trans rfl
                  clear hb9 p2 g0 g1
                  go_wp2_with fail
                  go_roundw
                  case rel => exact ⟨z + 1, by omega, by omega, by go_num, HB9.out⟩
                  case measure => simp [intOf]; omega
            · have hz3 : z = p.r + 1 := by omega
              clear c02 c03 c04
              go_wp2_with fail
              go_roundw
              case rel => exact ⟨x1 + 1, by omega, by omega, by go_num, HBZ.out⟩
              case measure => simp [intOf]; omega
        · have hx3 : x1 = p.r + 1 := by omega
          go_wp2_with fail
          refine (awake_any _).mono ?_
          rintro e w10 ⟨rfl, hb10⟩
          have HBF := Lib.hid (below_next HBB.out (Nat.le_refl _) hb10)
          clear hb10
          go_wp2_with fail
          go_ret
          exact ⟨rfl, HBF.out⟩
  · have hr0 : p.r ≠ 0 := fun e => hz e rfl
    have hr1 : (p.r == 0) = false := by simp [hr0]
    have hr2 : decide (p.r = 0) = false := by simp [hr0]
    clear HL1 HL2 hz
    go_enter Try.func9, Try.ntmps9
    go_wp2_with fail
    refine (fewk_any A n c l A2 m c2 ps true _ (HZA.out _ HB.out) hn (HZP.out _ HB.out) hm HF.out).mono ?_
    rintro e w13 ⟨rfl, hb13⟩
    replace kk := below_next kk (Nat.le_refl _) hb13
    clear c00 c01 c02 c03 c04 c05 HB hb13
    obtain ⟨B0, hbb⟩ := HK.out _ kk
    have c00 := B0.cell 0
    have c01 := B0.cell 1
    have c02 := B0.cell 2
    have c03 := B0.cell 3
    have c04 := B0.cell 4
    have c05 := B0.cell 5
    have HB := Lib.hid hbb
    clear B0 hbb
    go_wp2_with fail
    refine (pjudge_any A n c l A2 m c2 ps p (p.ride, p.rider, p.tm, 3) 0 _ (HZA.out _ HB.out) hn (HZP.out _ HB.out) hm HY.out HV.out).mono ?_
    rintro e u1 ⟨rfl, hb1⟩
    have V1 := Lib.hid (Blk.new u1 31 #[.int .i64 p.ride, .int .i64 p.rider, .int .i64 p.tm, .int .i64 3])
    replace kk := (below_next kk (Nat.le_refl _) hb1).alloc (below_next kk (Nat.le_refl _) hb1).size (.cells #[.int .i64 p.ride, .int .i64 p.rider, .int .i64 p.tm, .int .i64 3] 31)
    clear HB hb1 c00 c01 c02 c03 c04 c05
    obtain ⟨B0, hbb⟩ := HK.out _ kk
    have c00 := B0.cell 0
    have c01 := B0.cell 1
    have c02 := B0.cell 2
    have c03 := B0.cell 3
    have c04 := B0.cell 4
    have c05 := B0.cell 5
    have HB := Lib.hid hbb
    clear B0 hbb
    go_wp2_with fail
    refine (rpkcheck_any p 0 _ HPZ.out).mono ?_
    rintro e u2 ⟨rfl, hb2⟩
    replace V1 := Lib.hid (V1.out.ofBelow hb2)
    replace kk := below_next kk (Nat.le_refl _) hb2
    clear HB hb2 c00 c01 c02 c03 c04 c05
    obtain ⟨B0, hbb⟩ := HK.out _ kk
    have c00 := B0.cell 0
    have c01 := B0.cell 1
    have c02 := B0.cell 2
    have c03 := B0.cell 3
    have c04 := B0.cell 4
    have c05 := B0.cell 5
    have HB := Lib.hid hbb
    clear B0 hbb
    have v3 := (V1.out.cell 3).trans rfl
    go_wp2_with fail
    obtain ⟨w7, rfl⟩ : ∃ w7 : World, w7 = u2 := ⟨_, rfl⟩
    have HVR : Hid (∀ u, Below w7.heap.size w7 u → Blk u u1.heap.size 31 #[.int .i64 p.ride, .int .i64 p.rider, .int .i64 p.tm, .int .i64 3]) := Lib.hid fun u hu => V1.out.ofBelow hu
    have HPB : Hid (∀ u, Below w7.heap.size w7 u → Blk u w.heap.size 27 #[.int .i64 p.ride, .int .i64 p.rider, .int .i64 p.tm, .int .i64 p.x, .int .i64 p.y, .int .i64 p.r] ∧ Below w.heap.size w u) := Lib.hid fun u hu => HK.out _ (below_next kk (Nat.le_refl _) hu)
    clear kk HB V1 c00 c01 c02 c03 c04 c05 v3
    go_loopw [10] (fun s wr => ∃ k : Int, -p.r ≤ k ∧ k ≤ p.r + 1 ∧ s = .int .i64 k ∧ Below w7.heap.size w7 wr) (fun s _ => (p.r + 1 - intOf s).toNat)
    case atStart => exact ⟨-p.r, by omega, by omega, rfl, Below.refl _ _⟩
    case round =>
      obtain ⟨wo, rfl⟩ : ∃ wo : World, wo = wr := ⟨_, rfl⟩
      obtain ⟨x1, hx1, hx2, rfl, hbw⟩ := hrel
      have HBO := Lib.hid hbw
      obtain ⟨B0, hbb⟩ := HPB.out _ hbw
      have HBB := Lib.hid hbb
      have c05 := (B0.cell 5).trans rfl
      clear hbw hbb B0
      by_cases hlt : x1 ≤ p.r
      · go_wp2_with fail
        clear c05
        go_loopw [11] (fun s wr => ∃ k : Int, -p.r ≤ k ∧ k ≤ p.r + 1 ∧ s = .int .i64 k ∧ Below w7.heap.size w7 wr) (fun s _ => (p.r + 1 - intOf s).toNat)
        case atStart => exact ⟨-p.r, by omega, by omega, rfl, HBO.out⟩
        case round =>
          obtain ⟨wz, rfl⟩ : ∃ wz : World, wz = wr := ⟨_, rfl⟩
          obtain ⟨z, hz1, hz2, rfl, hbz⟩ := hrel
          have HBZ := Lib.hid hbz
          obtain ⟨B0, hbb⟩ := HPB.out _ hbz
          have HBB2 := Lib.hid hbb
          have c02 := (B0.cell 2).trans rfl; have c03 := (B0.cell 3).trans rfl; have c04 := (B0.cell 4).trans rfl; have c05 := (B0.cell 5).trans rfl
          clear hbz hbb
          by_cases hlz : z ≤ p.r
          · have m1 := mul_bd (A := 12) (B := 12) (x := x1) (y := x1) (by omega) (by omega) (by omega) (by omega)
            have m2 := mul_bd (A := 12) (B := 12) (x := z) (y := z) (by omega) (by omega) (by omega) (by omega)
            have m3 := mul_bd (A := 12) (B := 12) (x := p.r) (y := p.r) (by omega) (by omega) (by omega) (by omega)
            have f1 := wr_ (n := x1 * x1) (by omega)
            have f2 := wr_ (n := z * z) (by omega)
            have f3 := wr_ (n := x1 * x1 + z * z) (by omega)
            have f4 := wr_ (n := p.r * p.r) (by omega)
            have f5 := wr_ (n := p.x + x1) (by omega)
            have f6 := wr_ (n := p.y + z) (by omega)
            have HSQ : Hid (sqZ (p.x, p.y) (p.x + x1, p.y + z) = x1 * x1 + z * z) := Lib.hid (by unfold sqZ; grind)
            have HP0 := Lib.hid (B0.alloc (.cells #[.int .i64 (p.x + x1), .int .i64 (p.y + z)] 25))
            obtain ⟨g0, hg⟩ := box1 wz 25 #[.int .i64 (p.x + x1), .int .i64 (p.y + z)]
            have e5 := (HP0.out.cell 5).trans rfl
            have c0 := (g0.cell 0).trans rfl; have c1 := (g0.cell 1).trans rfl
            have HG0 := Lib.hid g0
            have HB6 := Lib.hid (below_next HBZ.out (Nat.le_refl _) hg)
            clear m1 m2 m3 g0 hg B0
            by_cases hs : p.r * p.r < x1 * x1 + z * z
            · go_wp2_with fail
              go_roundw
              case rel => exact ⟨z + 1, by omega, by omega, by go_num, HB6.out⟩
              case measure => simp [intOf]; omega
            · have hs2 : x1 * x1 + z * z ≤ p.r * p.r := by omega
              clear hs
              rcases hq : okP (p.x + x1, p.y + z) with _ | _
              · have HQ := Lib.hid hq
                clear hq
                go_wp2_with fail
                refine (rvalid_any (p.x + x1, p.y + z) false _ HQ.out).mono ?_
                rintro e w8 ⟨rfl, hb7⟩
                have HB7 := Lib.hid (below_next HB6.out (Nat.le_refl _) hb7)
                clear hb7
                go_wp2_with fail
                go_roundw
                case rel => exact ⟨z + 1, by omega, by omega, by go_num, HB7.out⟩
                case measure => simp [intOf]; omega
              · have HQ := Lib.hid hq
                obtain ⟨g, hg⟩ : ∃ g, permB l (p.x + x1, p.y + z) p.tm = g := ⟨_, rfl⟩
                have HGG := Lib.hid hg
                clear hq hg
                go_wp2_with fail
                refine (rvalid_any (p.x + x1, p.y + z) true _ HQ.out).mono ?_
                rintro e w8 ⟨rfl, hb7⟩
                have HB7 := Lib.hid (below_next HB6.out (Nat.le_refl _) hb7)
                have HP7 := HP0.out.ofBelow hb7
                have HG7 := HG0.out.ofBelow hb7
                have p2 := (HP7.cell 2).trans rfl
                have g0 := (HG7.cell 0).trans rfl; have g1 := (HG7.cell 1).trans rfl
                have HW7 := Lib.hid (HPB.out _ HB7.out).2
                clear hb7 HP7 HG7 c0 c1 c02 c03 c04 c05 e5
                go_wp2_with fail
                refine (permitted_any A n c l (p.x + x1, p.y + z) p.tm _ _ (HZA.out _ HW7.out) hn HGG.out).mono ?_
                rintro e w9 ⟨rfl, hb9⟩
                have HB9 := Lib.hid (below_next HB7.out (Nat.le_refl _) hb9)
                have v3 := ((HVR.out _ HB9.out).cell 3).trans rfl
                clear hb9 p2 g0 g1
                rcases g with _ | _
                · skip
                  go_wp2_with fail
                  go_roundw
                  case rel => exact ⟨z + 1, by omega, by omega, by go_num, HB9.out⟩
                  case measure => simp [intOf]; omega
                · skip
                  go_wp2_with fail
                  go_roundw
                  case rel => exact ⟨z + 1, by omega, by omega, by go_num, HB9.out⟩
                  case measure => simp [intOf]; omega
          · have hz3 : z = p.r + 1 := by omega
            clear c02 c03 c04
            go_wp2_with fail
            go_roundw
            case rel => exact ⟨x1 + 1, by omega, by omega, by go_num, HBZ.out⟩
            case measure => simp [intOf]; omega
      · have hx3 : x1 = p.r + 1 := by omega
        go_wp2_with fail
        refine (awake_any _).mono ?_
        rintro e w10 ⟨rfl, hb10⟩
        have HBF := Lib.hid (below_next HBB.out (Nat.le_refl _) hb10)
        clear hb10
        go_wp2_with fail
        go_ret
        exact ⟨rfl, HBF.out⟩
end Go.Proofs.Ytdgdjlpbnaoheaa
