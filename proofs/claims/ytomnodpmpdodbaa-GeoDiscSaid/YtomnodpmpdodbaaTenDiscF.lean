/- The walk of the statement GeoDisc. -/
import Derived.Test.YtomnodpmpdodbaaTenLaws
import Derived.Test.YtomnodpmpdodbaaGeoDsc
namespace Go.Proofs.Ytomnodpmpdodbaa
open Go.RowKit
theorem cover_touch {p : List Pt} {a : Pt} {r : Int} (h : coverB p a r = true) : touchB p a r = true := by
  unfold coverB touchB at *
  simp only [Bool.and_eq_true, decide_eq_true_eq, Bool.or_eq_true] at *
  exact ⟨h.1.1, .inl h.1.2⟩
theorem disc_same {p : List Pt} {a : Pt} {r : Int} (ha : okP a = true) (h0 : 0 ≤ r) (h1 : r ≤ 16384) : discE p a r = checkZ p := by
  unfold discE insE
  by_cases h : checkZ p = 0
  · rw [if_pos h, if_pos ha, if_pos rfl, if_pos ⟨h0, h1⟩, h]
  · rw [if_neg h, if_neg h]
set_option maxHeartbeats 8000000 in
set_option maxRecDepth 20000 in
theorem geoDisc_f (A : Option Addr) (n cc : Nat) (p : List Pt) (a : Pt) (r : Int) (b : Bool) (w : World) (hn' : n ≤ 9223372036854775807) (h61 : n ≤ 60) (hr0 : 0 ≤ r) (hr1 : r ≤ 12) (HRA : Hid (∀ u, Below w.heap.size w u → Reads u u.heap.size 2 A n (cellsPt p))) (HA : Hid (okP a = true)) (HY : Hid (checkZ p = 0)) (HE : Hid (discE p a r = 0)) (HBB : Hid (touchB p a r = b)) (HDD : Hid (coverB p a r = false))
    (HLAW : Hid (∀ q, okP q = true → sqZ a q ≤ r * r → insE p q = 0 ∧ (false = true → 0 ≤ insZ p q) ∧ (0 ≤ insZ p q → b = true) ∧ (r = 0 → (0 ≤ insZ p q ↔ false = true)))) : Calls Try.prog 9 #[.slice A n cc, aggP a, .int .i64 r] w (AwakePost w) := by
  obtain ⟨kk, hK⟩ := box1K w 23 #[.int .i64 a.1, .int .i64 a.2]
  have HK := Lib.hid hK
  clear hK
  obtain ⟨B0, hbb⟩ := HK.out _ kk
  have c00 := B0.cell 0
  have c01 := B0.cell 1
  have HB := Lib.hid hbb
  clear B0 hbb
  go_enter Try.func9, Try.ntmps9
  go_wp2_with fail
  refine (rvalid_any a true _ HA.out).mono ?_
  rintro e w1 ⟨rfl, hb1⟩
  replace kk := below_next kk (Nat.le_refl _) hb1
  clear c00 c01 HB hb1
  obtain ⟨B0, hbb⟩ := HK.out _ kk
  have c00 := B0.cell 0
  have c01 := B0.cell 1
  have HB := Lib.hid hbb
  clear B0 hbb
  go_wp2_with fail
  refine (touches_any A n cc p a r b 0 _ (HRA.out _ HB.out) hn' HBB.out HE.out).mono ?_
  rintro e w2 ⟨rfl, hb2⟩
  replace kk := below_next kk (Nat.le_refl _) hb2
  clear c00 c01 HB hb2
  obtain ⟨B0, hbb⟩ := HK.out _ kk
  have c00 := B0.cell 0
  have c01 := B0.cell 1
  have HB := Lib.hid hbb
  clear B0 hbb
  go_wp2_with fail
  refine (covers_any A n cc p a r false 0 _ (HRA.out _ HB.out) hn' HDD.out HE.out).mono ?_
  rintro e w3 ⟨rfl, hb3⟩
  replace kk := below_next kk (Nat.le_refl _) hb3
  clear c00 c01 HB hb3
  obtain ⟨B0, hbb⟩ := HK.out _ kk
  have c00 := B0.cell 0
  have c01 := B0.cell 1
  have HB := Lib.hid hbb
  clear B0 hbb
  go_wp2_with fail
  refine (check_any A n cc p 0 _ (HRA.out _ HB.out) hn' HY.out).mono ?_
  rintro e w4 ⟨rfl, hb4⟩
  replace kk := below_next kk (Nat.le_refl _) hb4
  clear c00 c01 HB hb4
  obtain ⟨B0, hbb⟩ := HK.out _ kk
  have c00 := B0.cell 0
  have c01 := B0.cell 1
  have HB := Lib.hid hbb
  clear B0 hbb
  clear HB c00 c01
  have HKK := Lib.hid kk
  clear kk
  go_wp2_with fail
  go_loopw [12] (fun s wr => ∃ k : Int, -r ≤ k ∧ k ≤ r + 1 ∧ s = .int .i64 k ∧ Below w4.heap.size w4 wr) (fun s _ => (r + 1 - intOf s).toNat)
  case atStart => exact ⟨-r, by omega, by omega, rfl, Below.refl _ _⟩
  case round =>
    obtain ⟨wo, rfl⟩ : ∃ wo : World, wo = wr := ⟨_, rfl⟩
    obtain ⟨x, hx1, hx2, rfl, hbw⟩ := hrel
    have HBO := Lib.hid hbw
    clear hbw
    by_cases hlt : x ≤ r
    · go_wp2_with fail
      go_loopw [13] (fun s wr => ∃ k : Int, -r ≤ k ∧ k ≤ r + 1 ∧ s = .int .i64 k ∧ Below w4.heap.size w4 wr) (fun s _ => (r + 1 - intOf s).toNat)
      case atStart => exact ⟨-r, by omega, by omega, rfl, HBO.out⟩
      case round =>
        obtain ⟨wz, rfl⟩ : ∃ wz : World, wz = wr := ⟨_, rfl⟩
        obtain ⟨z, hz1, hz2, rfl, hbz⟩ := hrel
        have HBZ := Lib.hid hbz
        have hkr := below_next HKK.out (Nat.le_refl _) hbz
        obtain ⟨B0, hbb⟩ := HK.out _ hkr
        have HB0 := Lib.hid B0
        have HBBz := Lib.hid hbb
        have c00 := (B0.cell 0).trans rfl; have c01 := (B0.cell 1).trans rfl
        clear hbz hkr B0 hbb
        by_cases hlz : z ≤ r
        · obtain ⟨p1, p2, p3, p4⟩ := okP_t HA.out
          have m1 := mul_bd (A := 12) (B := 12) (x := x) (y := x) (by omega) (by omega) (by omega) (by omega)
          have m2 := mul_bd (A := 12) (B := 12) (x := z) (y := z) (by omega) (by omega) (by omega) (by omega)
          have m3 := mul_bd (A := 12) (B := 12) (x := r) (y := r) (by omega) (by omega) (by omega) (by omega)
          have f1 := wr_ (n := x * x) (by omega)
          have f2 := wr_ (n := z * z) (by omega)
          have f3 := wr_ (n := x * x + z * z) (by omega)
          have f4 := wr_ (n := r * r) (by omega)
          have f5 := wr_ (n := a.1 + x) (by omega)
          have f6 := wr_ (n := a.2 + z) (by omega)
          have HSQ : Hid (sqZ a (a.1 + x, a.2 + z) = x * x + z * z) := Lib.hid (by unfold sqZ; grind)
          clear p1 p2 p3 p4 m1 m2 m3
          go_wp2_with fail
          refine (at_any (a.1 + x) (a.2 + z) _).mono ?_
          rintro e w5 ⟨rfl, hb5⟩
          have HB5 := Lib.hid (below_next HBZ.out (Nat.le_refl _) hb5)
          clear hb5 c00 c01
          obtain ⟨g0, hg⟩ := box1 w5 23 #[.int .i64 (a.1 + x), .int .i64 (a.2 + z)]
          have c0 := (g0.cell 0).trans rfl; have c1 := (g0.cell 1).trans rfl
          have HG0 := Lib.hid g0
          have HB6 := Lib.hid (below_next HB5.out (Nat.le_refl _) hg)
          clear g0 hg
          by_cases hs : r * r < x * x + z * z
          · go_wp2_with fail
            go_roundw
            case rel => exact ⟨z + 1, by omega, by omega, by go_num, HB6.out⟩
            case measure => simp [intOf]; omega
          · have hs2 : x * x + z * z ≤ r * r := by omega
            clear hs
            rcases hq : okP (a.1 + x, a.2 + z) with _ | _
            · have HQ := Lib.hid hq
              clear hq
              go_wp2_with fail
              refine (rvalid_any (a.1 + x, a.2 + z) false _ HQ.out).mono ?_
              rintro e w7 ⟨rfl, hb7⟩
              have HB7 := Lib.hid (below_next HB6.out (Nat.le_refl _) hb7)
              clear hb7
              go_wp2_with fail
              go_roundw
              case rel => exact ⟨z + 1, by omega, by omega, by go_num, HB7.out⟩
              case measure => simp [intOf]; omega
            · have HQ := Lib.hid hq
              have hl := HLAW.out _ hq (by rw [HSQ.out]; exact hs2)
              clear hq
              obtain ⟨i, hi⟩ : ∃ i, insZ p (a.1 + x, a.2 + z) = i := ⟨_, rfl⟩
              rw [hi] at hl
              have HI := Lib.hid hi
              obtain ⟨l0, l1, l2, l3⟩ := hl
              have HL0 := Lib.hid l0
              have hcs : (0 ≤ i ∧ decide (i < 0) = false) ∨ (i < 0 ∧ decide (0 ≤ i) = false) := by
                rcases Int.lt_or_le i 0 with g | g
                · exact .inr ⟨g, decide_eq_false (by omega)⟩
                · exact .inl ⟨g, decide_eq_false (by omega)⟩
              have hcr : (Hid (r = 0) ∧ (r == 0) = true) ∨ (r == 0) = false := by
                rcases Classical.em (r = 0) with g | g
                · exact .inl ⟨Lib.hid g, by rw [g]; rfl⟩
                · exact .inr (eq0_f g)
              have HL1 := Lib.hid l1; have HL2 := Lib.hid l2; have HL3 := Lib.hid l3
              clear hi l0 l1 l2 l3
              have HCR := Lib.hid hcr
              clear hcr
              go_wp2_with fail
              refine (rvalid_any (a.1 + x, a.2 + z) true _ HQ.out).mono ?_
              rintro e w7 ⟨rfl, hb7⟩
              have HB7 := Lib.hid (below_next HB6.out (Nat.le_refl _) hb7)
              have g1 := HG0.out.below hb7 HG0.out.lt
              have c2 := (g1.cell 0).trans rfl; have c3 := (g1.cell 1).trans rfl
              have HR7 := Lib.hid (HRA.out _ (HK.out _ (below_next HKK.out (Nat.le_refl _) HB7.out)).2)
              clear hb7 c0 c1 g1
              go_wp2_with fail
              refine (inside_any A n cc p (a.1 + x, a.2 + z) i 0 _ HR7.out hn' HI.out HL0.out).mono ?_
              rintro e w8 ⟨rfl, hb8⟩
              have HB8 := Lib.hid (below_next HB7.out (Nat.le_refl _) hb8)
              clear hb8 c2 c3
              rcases hcs with ⟨g1, g2⟩ | ⟨g1, g2⟩
              · have hnb : (!b) = false := by rw [HL2.out g1]; rfl
                rcases HCR.out with ⟨g4, _⟩ | g3
                · exact absurd ((HL3.out g4.out).1 g1) Bool.false_ne_true
                · skip
                  go_wp2_with fail
                  go_roundw
                  case rel => exact ⟨z + 1, by omega, by omega, by go_num, HB8.out⟩
                  case measure => simp [intOf]; omega
              · rcases HCR.out with ⟨_, g3⟩ | g3
                all_goals
                  go_wp2_with fail
                  go_roundw
                  case rel => exact ⟨z + 1, by omega, by omega, by go_num, HB8.out⟩
                  case measure => simp [intOf]; omega
        · go_wp2_with fail
          go_roundw
          case rel => exact ⟨x + 1, by omega, by omega, by go_num, HBZ.out⟩
          case measure => simp [intOf]; omega
    · have hbk := (HK.out _ (below_next HKK.out (Nat.le_refl _) HBO.out)).2
      have HB := Lib.hid hbk
      clear hbk
      go_wp2_with fail
      refine (awake_any _).mono ?_
      rintro e w9 ⟨rfl, hb9⟩
      go_wp2_with fail
      go_ret
      exact ⟨rfl, below_next HB.out (Nat.le_refl _) hb9⟩
end Go.Proofs.Ytomnodpmpdodbaa
