/- The walk of the statement ZoneSure. -/
import Derived.Test.YtgjfidknedojbaaZoneM
namespace Go.Proofs.Ytgjfidknedojbaa
open Go.RowKit
theorem ints_mem {x : List Nat} {k : Nat} (h : k ∈ x) : ((k : Nat) : Int) ∈ ints x := List.mem_map.2 ⟨k, h, rfl⟩
set_option maxHeartbeats 8000000 in
set_option maxRecDepth 20000 in
theorem zoneSure_f (A : Option Addr) (n c : Nat) (l : List Zn) (p : Pt) (r : Int) (x : List Nat) (w : World) (hn' : n ≤ 9223372036854775807) (hnc : n ≤ c) (hr0 : 0 ≤ r) (hr1 : r ≤ 8) (HZA : Hid (∀ u, Below w.heap.size w u → ZR u A n l)) (HA : Hid (okP p = true)) (HF : Hid (fewB l = true)) (HY : Hid (zcheckZ l = 0)) (H1 : Hid (numO (sureZ l p r) = (0 : Int))) (H2 : Hid ((sureZ l p r).isSome = false)) (HX : Hid (possZ l p r = x))
    (HLAW : Hid (∀ q, okP q = true → sqZ p q ≤ r * r → ∀ k, sureZ l q 0 = some k → k ∈ x)) : Calls Try.prog 6 #[.slice A n c, aggP p, .int .i64 r] w (AwakePost w) := by
  obtain ⟨kk, hK⟩ := box1K w 28 #[.int .i64 p.1, .int .i64 p.2]
  have HK := Lib.hid hK
  clear hK
  obtain ⟨B0, hbb⟩ := HK.out _ kk
  have c00 := B0.cell 0
  have c01 := B0.cell 1
  have HB := Lib.hid hbb
  clear B0 hbb
  go_enter Try.func6, Try.ntmps6
  go_wp2_with fail
  refine (few_any A n c l true _ (HZA.out _ HB.out) hn' HF.out).mono ?_
  rintro e w1 ⟨rfl, hb1⟩
  replace kk := below_next kk (Nat.le_refl _) hb1
  clear c00 c01 HB hb1
  obtain ⟨B0, hbb⟩ := HK.out _ kk
  have c00 := B0.cell 0
  have c01 := B0.cell 1
  have HB := Lib.hid hbb
  clear B0 hbb
  go_wp2_with fail
  refine (rvalid_any p true _ HA.out).mono ?_
  rintro e w2 ⟨rfl, hb2⟩
  replace kk := below_next kk (Nat.le_refl _) hb2
  clear c00 c01 HB hb2
  obtain ⟨B0, hbb⟩ := HK.out _ kk
  have c00 := B0.cell 0
  have c01 := B0.cell 1
  have HB := Lib.hid hbb
  clear B0 hbb
  go_wp2_with fail
  refine (sure_nb A n c l p r 0 false _ (HZA.out _ HB.out) hn' hnc H1.out H2.out).mono ?_
  rintro e w3 ⟨rfl, hb3⟩
  replace kk := below_next kk (Nat.le_refl _) hb3
  clear c00 c01 HB hb3
  obtain ⟨B0, hbb⟩ := HK.out _ kk
  have c00 := B0.cell 0
  have c01 := B0.cell 1
  have HB := Lib.hid hbb
  clear B0 hbb
  go_wp2_with fail
  refine (poss_any A n c l p r x _ (HZA.out _ HB.out) hn' hnc HX.out).mono ?_
  rintro e w5 ⟨hb5, P1, n1, c1, rfl, p1, hl1, hm1⟩
  replace kk := below_next kk (Nat.le_refl _) hb5
  clear c00 c01 HB hb5 hl1
  obtain ⟨B0, hbb⟩ := HK.out _ kk
  have c00 := B0.cell 0
  have c01 := B0.cell 1
  have HB := Lib.hid hbb
  clear B0 hbb
  go_wp2_with fail
  refine (zcheck_any A n c l 0 _ (HZA.out _ HB.out) hn' hnc HY.out).mono ?_
  rintro e w6 ⟨rfl, hb6⟩
  replace kk := below_next kk (Nat.le_refl _) hb6
  have HP := Lib.hid ((p1.below hb6).more hb6.size)
  clear c00 c01 HB hb6 p1
  obtain ⟨B0, hbb⟩ := HK.out _ kk
  have c00 := B0.cell 0
  have c01 := B0.cell 1
  have HB := Lib.hid hbb
  clear B0 hbb
  obtain ⟨w7, rfl⟩ : ∃ w7 : World, w7 = w6 := ⟨_, rfl⟩
  have HPM := Lib.hid HP.out
  clear c00 c01 HB HP
  have HKK := Lib.hid kk
  clear kk
  go_wp2_with fail
  go_loopw [10] (fun s wr => ∃ k : Int, -r ≤ k ∧ k ≤ r + 1 ∧ s = .int .i64 k ∧ Below w7.heap.size w7 wr) (fun s _ => (r + 1 - intOf s).toNat)
  case atStart => exact ⟨-r, by omega, by omega, rfl, Below.refl _ _⟩
  case round =>
    obtain ⟨wo, rfl⟩ : ∃ wo : World, wo = wr := ⟨_, rfl⟩
    obtain ⟨x1, hx1, hx2, rfl, hbw⟩ := hrel
    have HBO := Lib.hid hbw
    clear hbw
    by_cases hlt : x1 ≤ r
    · go_wp2_with fail
      go_loopw [11] (fun s wr => ∃ k : Int, -r ≤ k ∧ k ≤ r + 1 ∧ s = .int .i64 k ∧ Below w7.heap.size w7 wr) (fun s _ => (r + 1 - intOf s).toNat)
      case atStart => exact ⟨-r, by omega, by omega, rfl, HBO.out⟩
      case round =>
        obtain ⟨wz, rfl⟩ : ∃ wz : World, wz = wr := ⟨_, rfl⟩
        obtain ⟨z, hz1, hz2, rfl, hbz⟩ := hrel
        have HBZ := Lib.hid hbz
        have hkr := below_next HKK.out (Nat.le_refl _) hbz
        obtain ⟨B0, hbb⟩ := HK.out _ hkr
        have HB0 := Lib.hid B0
        have c00 := (B0.cell 0).trans rfl; have c01 := (B0.cell 1).trans rfl
        clear hbz hkr B0 hbb
        by_cases hlz : z ≤ r
        · obtain ⟨p1, p2, p3, p4⟩ := okP_t HA.out
          have m1 := mul_bd (A := 12) (B := 12) (x := x1) (y := x1) (by omega) (by omega) (by omega) (by omega)
          have m2 := mul_bd (A := 12) (B := 12) (x := z) (y := z) (by omega) (by omega) (by omega) (by omega)
          have m3 := mul_bd (A := 12) (B := 12) (x := r) (y := r) (by omega) (by omega) (by omega) (by omega)
          have f1 := wr_ (n := x1 * x1) (by omega)
          have f2 := wr_ (n := z * z) (by omega)
          have f3 := wr_ (n := x1 * x1 + z * z) (by omega)
          have f4 := wr_ (n := r * r) (by omega)
          have f5 := wr_ (n := p.1 + x1) (by omega)
          have f6 := wr_ (n := p.2 + z) (by omega)
          have HSQ : Hid (sqZ p (p.1 + x1, p.2 + z) = x1 * x1 + z * z) := Lib.hid (by unfold sqZ; grind)
          clear p1 p2 p3 p4 m1 m2 m3
          go_wp2_with fail
          refine (at_any (p.1 + x1) (p.2 + z) _).mono ?_
          rintro e w5 ⟨rfl, hb5⟩
          have HB5 := Lib.hid (below_next HBZ.out (Nat.le_refl _) hb5)
          clear hb5 c00 c01
          obtain ⟨g0, hg⟩ := box1 w5 28 #[.int .i64 (p.1 + x1), .int .i64 (p.2 + z)]
          have c0 := (g0.cell 0).trans rfl; have c1 := (g0.cell 1).trans rfl
          have HG0 := Lib.hid g0
          have HB6 := Lib.hid (below_next HB5.out (Nat.le_refl _) hg)
          clear g0 hg
          by_cases hs : r * r < x1 * x1 + z * z
          · go_wp2_with fail
            go_roundw
            case rel => exact ⟨z + 1, by omega, by omega, by go_num, HB6.out⟩
            case measure => simp [intOf]; omega
          · have hs2 : x1 * x1 + z * z ≤ r * r := by omega
            clear hs
            rcases hq : okP (p.1 + x1, p.2 + z) with _ | _
            · have HQ := Lib.hid hq
              clear hq
              go_wp2_with fail
              refine (rvalid_any (p.1 + x1, p.2 + z) false _ HQ.out).mono ?_
              rintro e w8 ⟨rfl, hb7⟩
              have HB7 := Lib.hid (below_next HB6.out (Nat.le_refl _) hb7)
              clear hb7
              go_wp2_with fail
              go_roundw
              case rel => exact ⟨z + 1, by omega, by omega, by go_num, HB7.out⟩
              case measure => simp [intOf]; omega
            · have HQ := Lib.hid hq
              have hl := HLAW.out _ hq (by rw [HSQ.out]; exact hs2)
              clear hq
              rcases ho : sureZ l (p.1 + x1, p.2 + z) 0 with _ | k
              · have G1 : Hid (numO (sureZ l (p.1 + x1, p.2 + z) 0) = 0) := Lib.hid (by rw [ho]; rfl)
                have G2 : Hid ((sureZ l (p.1 + x1, p.2 + z) 0).isSome = false) := Lib.hid (by rw [ho]; rfl)
                clear hl ho
                go_wp2_with fail
                refine (rvalid_any (p.1 + x1, p.2 + z) true _ HQ.out).mono ?_
                rintro e w8 ⟨rfl, hb7⟩
                have HB7 := Lib.hid (below_next HB6.out (Nat.le_refl _) hb7)
                have g1 := HG0.out.below hb7 HG0.out.lt
                have c2 := (g1.cell 0).trans rfl; have c3 := (g1.cell 1).trans rfl
                have HR7 := Lib.hid (HZA.out _ (HK.out _ (below_next HKK.out (Nat.le_refl _) HB7.out)).2)
                clear hb7 c0 c1 g1
                go_wp2_with fail
                refine (find_nb A n c l (p.1 + x1, p.2 + z) 0 false _ HR7.out hn' hnc G1.out G2.out).mono ?_
                rintro e w9 ⟨rfl, hb8⟩
                have HB8 := Lib.hid (below_next HB7.out (Nat.le_refl _) hb8)
                clear hb8 c2 c3
                go_wp2_with fail
                go_roundw
                case rel => exact ⟨z + 1, by omega, by omega, by go_num, HB8.out⟩
                case measure => simp [intOf]; omega
              · have HM := Lib.hid (hl k ho)
                have G1 : Hid (numO (sureZ l (p.1 + x1, p.2 + z) 0) = (k : Int)) := Lib.hid (by rw [ho]; rfl)
                have G2 : Hid ((sureZ l (p.1 + x1, p.2 + z) 0).isSome = true) := Lib.hid (by rw [ho]; rfl)
                clear hl ho
                go_wp2_with fail
                refine (rvalid_any (p.1 + x1, p.2 + z) true _ HQ.out).mono ?_
                rintro e w8 ⟨rfl, hb7⟩
                have HB7 := Lib.hid (below_next HB6.out (Nat.le_refl _) hb7)
                have g1 := HG0.out.below hb7 HG0.out.lt
                have c2 := (g1.cell 0).trans rfl; have c3 := (g1.cell 1).trans rfl
                have HR7 := Lib.hid (HZA.out _ (HK.out _ (below_next HKK.out (Nat.le_refl _) HB7.out)).2)
                clear hb7 c0 c1 g1
                go_wp2_with fail
                refine (find_nb A n c l (p.1 + x1, p.2 + z) k true _ HR7.out hn' hnc G1.out G2.out).mono ?_
                rintro e w9 ⟨rfl, hb8⟩
                have HB8 := Lib.hid (below_next HB7.out (Nat.le_refl _) hb8)
                clear hb8 c2 c3
                go_wp2_with fail
                refine (zhas_any P1 n1 c1 (ints x) k true _ ((HPM.out.below HB8.out).more HB8.out.size) hm1 (decide_eq_true (ints_mem HM.out))).mono ?_
                rintro e w10 ⟨rfl, hb9⟩
                have HB9 := Lib.hid (below_next HB8.out (Nat.le_refl _) hb9)
                clear hb9
                go_wp2_with fail
                go_roundw
                case rel => exact ⟨z + 1, by omega, by omega, by go_num, HB9.out⟩
                case measure => simp [intOf]; omega
        · go_wp2_with fail
          go_roundw
          case rel => exact ⟨x1 + 1, by omega, by omega, by go_num, HBZ.out⟩
          case measure => simp [intOf]; omega
    · have hbk := (HK.out _ (below_next HKK.out (Nat.le_refl _) HBO.out)).2
      have HB := Lib.hid hbk
      clear hbk
      go_wp2_with fail
      refine (awake_any _).mono ?_
      rintro e w9 ⟨rfl, hb9⟩
      go_wp2_with fail
      go_ret
      exact ⟨rfl, below_next HB.out (Nat.le_refl _) hb9⟩
set_option maxHeartbeats 8000000 in
set_option maxRecDepth 20000 in
theorem zoneSure_t (A : Option Addr) (n c : Nat) (l : List Zn) (p : Pt) (r : Int) (i0 : Nat) (w : World) (hn' : n ≤ 9223372036854775807) (hnc : n ≤ c) (hr0 : 0 ≤ r) (hr1 : r ≤ 8) (HZA : Hid (∀ u, Below w.heap.size w u → ZR u A n l)) (HA : Hid (okP p = true)) (HF : Hid (fewB l = true)) (HY : Hid (zcheckZ l = 0)) (H1 : Hid (numO (sureZ l p r) = (i0 : Int))) (H2 : Hid ((sureZ l p r).isSome = true)) (HX : Hid (possZ l p r = [i0]))
    (HLAW : Hid (∀ q, okP q = true → sqZ p q ≤ r * r → sureZ l q 0 = some i0)) : Calls Try.prog 6 #[.slice A n c, aggP p, .int .i64 r] w (AwakePost w) := by
  obtain ⟨kk, hK⟩ := box1K w 28 #[.int .i64 p.1, .int .i64 p.2]
  have HK := Lib.hid hK
  clear hK
  obtain ⟨B0, hbb⟩ := HK.out _ kk
  have c00 := B0.cell 0
  have c01 := B0.cell 1
  have HB := Lib.hid hbb
  clear B0 hbb
  go_enter Try.func6, Try.ntmps6
  go_wp2_with fail
  refine (few_any A n c l true _ (HZA.out _ HB.out) hn' HF.out).mono ?_
  rintro e w1 ⟨rfl, hb1⟩
  replace kk := below_next kk (Nat.le_refl _) hb1
  clear c00 c01 HB hb1
  obtain ⟨B0, hbb⟩ := HK.out _ kk
  have c00 := B0.cell 0
  have c01 := B0.cell 1
  have HB := Lib.hid hbb
  clear B0 hbb
  go_wp2_with fail
  refine (rvalid_any p true _ HA.out).mono ?_
  rintro e w2 ⟨rfl, hb2⟩
  replace kk := below_next kk (Nat.le_refl _) hb2
  clear c00 c01 HB hb2
  obtain ⟨B0, hbb⟩ := HK.out _ kk
  have c00 := B0.cell 0
  have c01 := B0.cell 1
  have HB := Lib.hid hbb
  clear B0 hbb
  go_wp2_with fail
  refine (sure_nb A n c l p r i0 true _ (HZA.out _ HB.out) hn' hnc H1.out H2.out).mono ?_
  rintro e w3 ⟨rfl, hb3⟩
  replace kk := below_next kk (Nat.le_refl _) hb3
  clear c00 c01 HB hb3
  obtain ⟨B0, hbb⟩ := HK.out _ kk
  have c00 := B0.cell 0
  have c01 := B0.cell 1
  have HB := Lib.hid hbb
  clear B0 hbb
  go_wp2_with fail
  refine (poss_any A n c l p r [i0] _ (HZA.out _ HB.out) hn' hnc HX.out).mono ?_
  rintro e w5 ⟨hb5, P1, n1, c1, rfl, p1, hl1, hm1⟩
  replace kk := below_next kk (Nat.le_refl _) hb5
  clear c00 c01 HB hb5 hl1
  obtain ⟨B0, hbb⟩ := HK.out _ kk
  have c00 := B0.cell 0
  have c01 := B0.cell 1
  have HB := Lib.hid hbb
  clear B0 hbb
  go_wp2_with fail
  refine (zcheck_any A n c l 0 _ (HZA.out _ HB.out) hn' hnc HY.out).mono ?_
  rintro e w6 ⟨rfl, hb6⟩
  replace kk := below_next kk (Nat.le_refl _) hb6
  have HP := Lib.hid ((p1.below hb6).more hb6.size)
  clear c00 c01 HB hb6 p1
  obtain ⟨B0, hbb⟩ := HK.out _ kk
  have c00 := B0.cell 0
  have c01 := B0.cell 1
  have HB := Lib.hid hbb
  clear B0 hbb
  go_wp2_with fail
  have HF6 := Lib.hid (Reads.fresh w6 3 #[.int .i64 (i0 : Int)] 1 1 rfl)
  replace kk := kk.alloc kk.size (.cells #[.int .i64 (i0 : Int)] 3)
  have HP6 := Lib.hid ((HP.out.alloc (Nat.le_refl _) (.cells #[.int .i64 (i0 : Int)] 3)).more (show w6.heap.size ≤ (w6.alloc (.cells #[.int .i64 (i0 : Int)] 3)).heap.size by simp))
  replace HF6 := Lib.hid (HF6.out.more (show w6.heap.size + 1 ≤ (w6.alloc (.cells #[.int .i64 (i0 : Int)] 3)).heap.size by simp))
  refine (same_any P1 (some ⟨w6.heap.size, 0, none⟩) n1 c1 1 1 (ints [i0]) [(i0 : Int)] true _ HP6.out HF6.out hm1 (decide_eq_true rfl)).mono ?_
  rintro e w7 ⟨rfl, hb7⟩
  replace kk := below_next kk (Nat.le_refl _) hb7
  have HPM := Lib.hid ((HP6.out.below hb7).more hb7.size)
  clear c00 c01 HB hb7 HF6 HP6 HP
  have HKK := Lib.hid kk
  clear kk
  go_wp2_with fail
  go_loopw [10] (fun s wr => ∃ k : Int, -r ≤ k ∧ k ≤ r + 1 ∧ s = .int .i64 k ∧ Below w7.heap.size w7 wr) (fun s _ => (r + 1 - intOf s).toNat)
  case atStart => exact ⟨-r, by omega, by omega, rfl, Below.refl _ _⟩
  case round =>
    obtain ⟨wo, rfl⟩ : ∃ wo : World, wo = wr := ⟨_, rfl⟩
    obtain ⟨x1, hx1, hx2, rfl, hbw⟩ := hrel
    have HBO := Lib.hid hbw
    clear hbw
    by_cases hlt : x1 ≤ r
    · go_wp2_with fail
      go_loopw [11] (fun s wr => ∃ k : Int, -r ≤ k ∧ k ≤ r + 1 ∧ s = .int .i64 k ∧ Below w7.heap.size w7 wr) (fun s _ => (r + 1 - intOf s).toNat)
      case atStart => exact ⟨-r, by omega, by omega, rfl, HBO.out⟩
      case round =>
        obtain ⟨wz, rfl⟩ : ∃ wz : World, wz = wr := ⟨_, rfl⟩
        obtain ⟨z, hz1, hz2, rfl, hbz⟩ := hrel
        have HBZ := Lib.hid hbz
        have hkr := below_next HKK.out (Nat.le_refl _) hbz
        obtain ⟨B0, hbb⟩ := HK.out _ hkr
        have HB0 := Lib.hid B0
        have c00 := (B0.cell 0).trans rfl; have c01 := (B0.cell 1).trans rfl
        clear hbz hkr B0 hbb
        by_cases hlz : z ≤ r
        · obtain ⟨p1, p2, p3, p4⟩ := okP_t HA.out
          have m1 := mul_bd (A := 12) (B := 12) (x := x1) (y := x1) (by omega) (by omega) (by omega) (by omega)
          have m2 := mul_bd (A := 12) (B := 12) (x := z) (y := z) (by omega) (by omega) (by omega) (by omega)
          have m3 := mul_bd (A := 12) (B := 12) (x := r) (y := r) (by omega) (by omega) (by omega) (by omega)
          have f1 := wr_ (n := x1 * x1) (by omega)
          have f2 := wr_ (n := z * z) (by omega)
          have f3 := wr_ (n := x1 * x1 + z * z) (by omega)
          have f4 := wr_ (n := r * r) (by omega)
          have f5 := wr_ (n := p.1 + x1) (by omega)
          have f6 := wr_ (n := p.2 + z) (by omega)
          have HSQ : Hid (sqZ p (p.1 + x1, p.2 + z) = x1 * x1 + z * z) := Lib.hid (by unfold sqZ; grind)
          clear p1 p2 p3 p4 m1 m2 m3
          go_wp2_with fail
          refine (at_any (p.1 + x1) (p.2 + z) _).mono ?_
          rintro e w5 ⟨rfl, hb5⟩
          have HB5 := Lib.hid (below_next HBZ.out (Nat.le_refl _) hb5)
          clear hb5 c00 c01
          obtain ⟨g0, hg⟩ := box1 w5 28 #[.int .i64 (p.1 + x1), .int .i64 (p.2 + z)]
          have c0 := (g0.cell 0).trans rfl; have c1 := (g0.cell 1).trans rfl
          have HG0 := Lib.hid g0
          have HB6 := Lib.hid (below_next HB5.out (Nat.le_refl _) hg)
          clear g0 hg
          by_cases hs : r * r < x1 * x1 + z * z
          · go_wp2_with fail
            go_roundw
            case rel => exact ⟨z + 1, by omega, by omega, by go_num, HB6.out⟩
            case measure => simp [intOf]; omega
          · have hs2 : x1 * x1 + z * z ≤ r * r := by omega
            clear hs
            rcases hq : okP (p.1 + x1, p.2 + z) with _ | _
            · have HQ := Lib.hid hq
              clear hq
              go_wp2_with fail
              refine (rvalid_any (p.1 + x1, p.2 + z) false _ HQ.out).mono ?_
              rintro e w8 ⟨rfl, hb7⟩
              have HB7 := Lib.hid (below_next HB6.out (Nat.le_refl _) hb7)
              clear hb7
              go_wp2_with fail
              go_roundw
              case rel => exact ⟨z + 1, by omega, by omega, by go_num, HB7.out⟩
              case measure => simp [intOf]; omega
            · have HQ := Lib.hid hq
              have hl := HLAW.out _ hq (by rw [HSQ.out]; exact hs2)
              clear hq
              have G1 : Hid (numO (sureZ l (p.1 + x1, p.2 + z) 0) = (i0 : Int)) := Lib.hid (by rw [hl]; rfl)
              have G2 : Hid ((sureZ l (p.1 + x1, p.2 + z) 0).isSome = true) := Lib.hid (by rw [hl]; rfl)
              have HM : Hid (i0 ∈ [i0]) := Lib.hid (List.mem_singleton.2 rfl)
              clear hl
              go_wp2_with fail
              refine (rvalid_any (p.1 + x1, p.2 + z) true _ HQ.out).mono ?_
              rintro e w8 ⟨rfl, hb7⟩
              have HB7 := Lib.hid (below_next HB6.out (Nat.le_refl _) hb7)
              have g1 := HG0.out.below hb7 HG0.out.lt
              have c2 := (g1.cell 0).trans rfl; have c3 := (g1.cell 1).trans rfl
              have HR7 := Lib.hid (HZA.out _ (HK.out _ (below_next HKK.out (Nat.le_refl _) HB7.out)).2)
              clear hb7 c0 c1 g1
              go_wp2_with fail
              refine (find_nb A n c l (p.1 + x1, p.2 + z) i0 true _ HR7.out hn' hnc G1.out G2.out).mono ?_
              rintro e w9 ⟨rfl, hb8⟩
              have HB8 := Lib.hid (below_next HB7.out (Nat.le_refl _) hb8)
              clear hb8 c2 c3
              go_wp2_with fail
              refine (zhas_any P1 n1 c1 (ints [i0]) i0 true _ ((HPM.out.below HB8.out).more HB8.out.size) hm1 (decide_eq_true (ints_mem HM.out))).mono ?_
              rintro e w10 ⟨rfl, hb9⟩
              have HB9 := Lib.hid (below_next HB8.out (Nat.le_refl _) hb9)
              clear hb9
              go_wp2_with fail
              go_roundw
              case rel => exact ⟨z + 1, by omega, by omega, by go_num, HB9.out⟩
              case measure => simp [intOf]; omega
        · go_wp2_with fail
          go_roundw
          case rel => exact ⟨x1 + 1, by omega, by omega, by go_num, HBZ.out⟩
          case measure => simp [intOf]; omega
    · have hbk := (HK.out _ (below_next HKK.out (Nat.le_refl _) HBO.out)).2
      have HB := Lib.hid hbk
      clear hbk
      go_wp2_with fail
      refine (awake_any _).mono ?_
      rintro e w9 ⟨rfl, hb9⟩
      go_wp2_with fail
      go_ret
      exact ⟨rfl, below_next HB.out (Nat.le_refl _) hb9⟩
set_option maxHeartbeats 4000000 in
theorem zoneSure_walk (A : Option Addr) (n c : Nat) (l : List Zn) (p : Pt) (r : Int) (w : World) (h : ZR w A n l) (hnc : n ≤ c) (hc : c ≤ maxLen) : Calls Try.prog 6 #[.slice A n c, aggP p, .int .i64 r] w (AwakePost w) := by
  have hn' : n ≤ 9223372036854775807 := Nat.le_trans hnc hc
  have HZA : Hid (∀ u, Below w.heap.size w u → ZR u A n l) := Lib.hid fun u hu => h.below hu
  obtain ⟨f, hf⟩ : ∃ f, fewB l = f := ⟨_, rfl⟩
  have HF := Lib.hid hf
  clear h hf hc
  rcases f with _ | _
  · skip
    obtain ⟨kk, hK⟩ := box1K w 28 #[.int .i64 p.1, .int .i64 p.2]
    have HK := Lib.hid hK
    clear hK
    obtain ⟨B0, hbb⟩ := HK.out _ kk
    have c00 := B0.cell 0
    have c01 := B0.cell 1
    have HB := Lib.hid hbb
    clear B0 hbb
    go_enter Try.func6, Try.ntmps6
    go_wp2_with fail
    refine (few_any A n c l false _ (HZA.out _ HB.out) hn' HF.out).mono ?_
    rintro e w1 ⟨rfl, hb1⟩
    replace kk := below_next kk (Nat.le_refl _) hb1
    clear c00 c01 HB hb1
    obtain ⟨B0, hbb⟩ := HK.out _ kk
    have c00 := B0.cell 0
    have c01 := B0.cell 1
    have HB := Lib.hid hbb
    clear B0 hbb
    go_wp2_with fail
    refine (awake_any _).mono ?_
    rintro e w2 ⟨rfl, hb2⟩
    replace kk := below_next kk (Nat.le_refl _) hb2
    clear c00 c01 HB hb2
    obtain ⟨B0, hbb⟩ := HK.out _ kk
    have c00 := B0.cell 0
    have c01 := B0.cell 1
    have HB := Lib.hid hbb
    clear B0 hbb
    go_wp2_with fail
    go_ret
    exact ⟨rfl, HB.out⟩
  rcases Int.lt_or_le r 0 with hr | hr0
  · skip
    obtain ⟨kk, hK⟩ := box1K w 28 #[.int .i64 p.1, .int .i64 p.2]
    have HK := Lib.hid hK
    clear hK
    obtain ⟨B0, hbb⟩ := HK.out _ kk
    have c00 := B0.cell 0
    have c01 := B0.cell 1
    have HB := Lib.hid hbb
    clear B0 hbb
    go_enter Try.func6, Try.ntmps6
    go_wp2_with fail
    refine (few_any A n c l true _ (HZA.out _ HB.out) hn' HF.out).mono ?_
    rintro e w1 ⟨rfl, hb1⟩
    replace kk := below_next kk (Nat.le_refl _) hb1
    clear c00 c01 HB hb1
    obtain ⟨B0, hbb⟩ := HK.out _ kk
    have c00 := B0.cell 0
    have c01 := B0.cell 1
    have HB := Lib.hid hbb
    clear B0 hbb
    go_wp2_with fail
    refine (awake_any _).mono ?_
    rintro e w2 ⟨rfl, hb2⟩
    replace kk := below_next kk (Nat.le_refl _) hb2
    clear c00 c01 HB hb2
    obtain ⟨B0, hbb⟩ := HK.out _ kk
    have c00 := B0.cell 0
    have c01 := B0.cell 1
    have HB := Lib.hid hbb
    clear B0 hbb
    go_wp2_with fail
    go_ret
    exact ⟨rfl, HB.out⟩
  rcases Int.lt_or_le 8 r with hr | hr1
  · skip
    obtain ⟨kk, hK⟩ := box1K w 28 #[.int .i64 p.1, .int .i64 p.2]
    have HK := Lib.hid hK
    clear hK
    obtain ⟨B0, hbb⟩ := HK.out _ kk
    have c00 := B0.cell 0
    have c01 := B0.cell 1
    have HB := Lib.hid hbb
    clear B0 hbb
    go_enter Try.func6, Try.ntmps6
    go_wp2_with fail
    refine (few_any A n c l true _ (HZA.out _ HB.out) hn' HF.out).mono ?_
    rintro e w1 ⟨rfl, hb1⟩
    replace kk := below_next kk (Nat.le_refl _) hb1
    clear c00 c01 HB hb1
    obtain ⟨B0, hbb⟩ := HK.out _ kk
    have c00 := B0.cell 0
    have c01 := B0.cell 1
    have HB := Lib.hid hbb
    clear B0 hbb
    go_wp2_with fail
    refine (awake_any _).mono ?_
    rintro e w2 ⟨rfl, hb2⟩
    replace kk := below_next kk (Nat.le_refl _) hb2
    clear c00 c01 HB hb2
    obtain ⟨B0, hbb⟩ := HK.out _ kk
    have c00 := B0.cell 0
    have c01 := B0.cell 1
    have HB := Lib.hid hbb
    clear B0 hbb
    go_wp2_with fail
    go_ret
    exact ⟨rfl, HB.out⟩
  rcases ha : okP p with _ | _
  · have HA := Lib.hid ha
    clear ha
    obtain ⟨kk, hK⟩ := box1K w 28 #[.int .i64 p.1, .int .i64 p.2]
    have HK := Lib.hid hK
    clear hK
    obtain ⟨B0, hbb⟩ := HK.out _ kk
    have c00 := B0.cell 0
    have c01 := B0.cell 1
    have HB := Lib.hid hbb
    clear B0 hbb
    go_enter Try.func6, Try.ntmps6
    go_wp2_with fail
    refine (few_any A n c l true _ (HZA.out _ HB.out) hn' HF.out).mono ?_
    rintro e w1 ⟨rfl, hb1⟩
    replace kk := below_next kk (Nat.le_refl _) hb1
    clear c00 c01 HB hb1
    obtain ⟨B0, hbb⟩ := HK.out _ kk
    have c00 := B0.cell 0
    have c01 := B0.cell 1
    have HB := Lib.hid hbb
    clear B0 hbb
    go_wp2_with fail
    refine (rvalid_any p false _ HA.out).mono ?_
    rintro e w2 ⟨rfl, hb2⟩
    replace kk := below_next kk (Nat.le_refl _) hb2
    clear c00 c01 HB hb2
    obtain ⟨B0, hbb⟩ := HK.out _ kk
    have c00 := B0.cell 0
    have c01 := B0.cell 1
    have HB := Lib.hid hbb
    clear B0 hbb
    go_wp2_with fail
    refine (awake_any _).mono ?_
    rintro e w3 ⟨rfl, hb3⟩
    replace kk := below_next kk (Nat.le_refl _) hb3
    clear c00 c01 HB hb3
    obtain ⟨B0, hbb⟩ := HK.out _ kk
    have c00 := B0.cell 0
    have c01 := B0.cell 1
    have HB := Lib.hid hbb
    clear B0 hbb
    go_wp2_with fail
    go_ret
    exact ⟨rfl, HB.out⟩
  obtain ⟨y, hy⟩ : ∃ y, zcheckZ l = y := ⟨_, rfl⟩
  by_cases h0 : y = 0
  · subst h0
    have ho := okD_of hy ha hr0 (show r ≤ 16384 by omega)
    rcases hs : sureZ l p r with _ | i0
    · exact zoneSure_f A n c l p r (possZ l p r) w hn' hnc hr0 hr1 HZA (Lib.hid ha) HF (Lib.hid hy) (Lib.hid (by rw [hs]; rfl)) (Lib.hid (by rw [hs]; rfl)) (Lib.hid rfl) (Lib.hid fun q _ hd k hk => disc_poss ho hd hk)
    · exact zoneSure_t A n c l p r i0 w hn' hnc hr0 hr1 HZA (Lib.hid ha) HF (Lib.hid hy) (Lib.hid (by rw [hs]; rfl)) (Lib.hid (by rw [hs]; rfl)) (Lib.hid (sure_poss hs)) (Lib.hid fun q hq hd => disc_sure hq hd hs)
  · have ho : okD l p r = false := okD_no (by rw [hy]; exact h0)
    have HA := Lib.hid ha; have HY := Lib.hid hy
    have H1 : Hid (numO (sureZ l p r) = 0) := Lib.hid (by unfold sureZ; rw [if_neg (by rw [ho]; decide)]; rfl)
    have H2 : Hid ((sureZ l p r).isSome = false) := Lib.hid (by unfold sureZ; rw [if_neg (by rw [ho]; decide)]; rfl)
    have HX : Hid (possZ l p r = []) := Lib.hid (by unfold possZ; rw [if_neg (by rw [ho]; decide)])
    have t0 := ne0_t h0
    clear ha hy ho h0
    obtain ⟨kk, hK⟩ := box1K w 28 #[.int .i64 p.1, .int .i64 p.2]
    have HK := Lib.hid hK
    clear hK
    obtain ⟨B0, hbb⟩ := HK.out _ kk
    have c00 := B0.cell 0
    have c01 := B0.cell 1
    have HB := Lib.hid hbb
    clear B0 hbb
    go_enter Try.func6, Try.ntmps6
    go_wp2_with fail
    refine (few_any A n c l true _ (HZA.out _ HB.out) hn' HF.out).mono ?_
    rintro e w1 ⟨rfl, hb1⟩
    replace kk := below_next kk (Nat.le_refl _) hb1
    clear c00 c01 HB hb1
    obtain ⟨B0, hbb⟩ := HK.out _ kk
    have c00 := B0.cell 0
    have c01 := B0.cell 1
    have HB := Lib.hid hbb
    clear B0 hbb
    go_wp2_with fail
    refine (rvalid_any p true _ HA.out).mono ?_
    rintro e w2 ⟨rfl, hb2⟩
    replace kk := below_next kk (Nat.le_refl _) hb2
    clear c00 c01 HB hb2
    obtain ⟨B0, hbb⟩ := HK.out _ kk
    have c00 := B0.cell 0
    have c01 := B0.cell 1
    have HB := Lib.hid hbb
    clear B0 hbb
    go_wp2_with fail
    refine (sure_nb A n c l p r 0 false _ (HZA.out _ HB.out) hn' hnc H1.out H2.out).mono ?_
    rintro e w3 ⟨rfl, hb3⟩
    replace kk := below_next kk (Nat.le_refl _) hb3
    clear c00 c01 HB hb3
    obtain ⟨B0, hbb⟩ := HK.out _ kk
    have c00 := B0.cell 0
    have c01 := B0.cell 1
    have HB := Lib.hid hbb
    clear B0 hbb
    go_wp2_with fail
    refine (poss_any A n c l p r [] _ (HZA.out _ HB.out) hn' hnc HX.out).mono ?_
    rintro e w5 ⟨hb5, P1, n1, c1, rfl, p1, hl1, hm1⟩
    replace kk := below_next kk (Nat.le_refl _) hb5
    obtain rfl : n1 = 0 := hl1
    clear c00 c01 HB hb5 p1
    obtain ⟨B0, hbb⟩ := HK.out _ kk
    have c00 := B0.cell 0
    have c01 := B0.cell 1
    have HB := Lib.hid hbb
    clear B0 hbb
    go_wp2_with fail
    refine (zcheck_any A n c l y _ (HZA.out _ HB.out) hn' hnc HY.out).mono ?_
    rintro e w4 ⟨rfl, hb4⟩
    replace kk := below_next kk (Nat.le_refl _) hb4
    clear c00 c01 HB hb4
    obtain ⟨B0, hbb⟩ := HK.out _ kk
    have c00 := B0.cell 0
    have c01 := B0.cell 1
    have HB := Lib.hid hbb
    clear B0 hbb
    go_wp2_with fail
    refine (awake_any _).mono ?_
    rintro e w5 ⟨rfl, hb5⟩
    replace kk := below_next kk (Nat.le_refl _) hb5
    clear c00 c01 HB hb5
    obtain ⟨B0, hbb⟩ := HK.out _ kk
    have c00 := B0.cell 0
    have c01 := B0.cell 1
    have HB := Lib.hid hbb
    clear B0 hbb
    go_wp2_with fail
    go_ret
    exact ⟨rfl, HB.out⟩
end Go.Proofs.Ytgjfidknedojbaa
