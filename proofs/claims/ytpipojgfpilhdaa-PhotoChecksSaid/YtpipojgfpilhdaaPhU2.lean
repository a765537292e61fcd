/- The reference's code: word, Sum. -/
import Derived.Test.YtpipojgfpilhdaaPhU
namespace Go.Proofs.Ytpipojgfpilhdaa
open Go.RowKit
set_option maxHeartbeats 2000000 in
set_option maxRecDepth 20000 in
theorem rword_any (A : Option Addr) (n c : Nat) (xs : List Int) (g : Nat) (x : Int) (w : World) (h : Reads w w.heap.size 1 A n (cellsU xs)) (hby : Bytes xs) (hn : n ≤ 20000) (hg : g ≤ 3000) (hx : rwordF xs g 8 = x) : Calls Try.prog 42 #[.slice A n c, .int .i64 g] w fun e w' => e = .returned (.int .u64 x) ∧ w' = w := by
  have HR := Lib.hid h; have HX := Lib.hid hx; have HBY := Lib.hid hby
  have HL := Lib.hid (reads_len h)
  clear h hx hby
  go_enter Try.func42, Try.ntmps42
  go_wp2_with fail
  go_loop [5, 6, 7] (fun s5 s6 s7 => ∃ (i : Nat) (m : Int), i ≤ 8 ∧ s6 = .int .i64 i ∧ s5 = .int .u64 m ∧ Hid (rwordF xs g i = m)) (fun _ s _ => 8 - (intOf s).toNat)
  case atStart => exact ⟨0, 0, Nat.zero_le _, rfl, rfl, Lib.hid rfl⟩
  case round =>
    obtain ⟨i, m, hi, rfl, rfl, HM⟩ := hrel
    by_cases hlt : i < 8
    · have hi0 : (0 : Int) ≤ i := by omega
      have hi8 : (i : Int) < 8 := by omega
      by_cases hin : 8 * g + i < n
      · obtain ⟨b, off, e', hb, hc⟩ := u_cells HR.out (by omega)
        have HE := Lib.hid e'
        have e1 := hc (8 * g + i) hin
        obtain ⟨at_, hat⟩ : ∃ a, 8 * g + i = a := ⟨_, rfl⟩
        have f0 : (g : Int) * 8 + (i : Int) = (at_ : Int) := by omega
        have hub := HBY.out.at_ (8 * g + i)
        obtain ⟨u, hu⟩ : ∃ u, uAt xs (8 * g + i) = u := ⟨_, rfl⟩
        rw [hu, hat] at e1
        rw [hu] at hub
        have f1 : IntKind.u64.wrap u = u := by rw [IntKind.wrap_u64]; omega
        have ha0 : (0 : Int) ≤ at_ := by omega
        have ha1 : (at_ : Int) < n := by omega
        have HS : Hid (rwordF xs g (i + 1) = bits .or .u64 m (IntKind.u64.wrap (u * 2 ^ (8 * i)))) := Lib.hid (by
          rw [rword_in (by rw [HL.out]; exact hin), HM.out, hu]; rfl)
        subst e'
        clear hc hu hat hin HE
        go_wp2_with fail
        go_round
        case rel => exact ⟨i + 1, _, by omega, by go_num, rfl, HS⟩
        case measure => simp [intOf]; omega
      · have ha1 : ¬ (g : Int) * 8 + (i : Int) < n := by omega
        have ha2 : (n : Int) ≤ (g : Int) * 8 + (i : Int) := by omega
        by_cases h7 : i = 7
        · subst h7
          obtain ⟨r, hr⟩ : ∃ r, n % 256 = r := ⟨_, rfl⟩
          have f1 : (n : Int).tmod 256 = (r : Int) := by rw [Int.tmod_eq_emod_of_nonneg (by omega)]; omega
          have f2 : (r : Int) < 256 := by omega
          have f3 : IntKind.u64.wrap (r : Int) = r := by rw [IntKind.wrap_u64]; omega
          have HS : Hid (rwordF xs g 8 = bits .or .u64 m ((r : Int) * 72057594037927936)) := Lib.hid (by
            have e : IntKind.u64.wrap ((r : Int) * 72057594037927936) = (r : Int) * 72057594037927936 := by rw [IntKind.wrap_u64]; omega
            rw [rword_end (by rw [HL.out]; omega), HM.out, HL.out, hr, e])
          clear hin hr
          go_wp2_with fail
          go_round
          case rel => exact ⟨8, _, by omega, by go_num, rfl, HS⟩
          case measure => simp [intOf]
        · have h7i : (i : Int) < 7 := by omega
          have HS : Hid (rwordF xs g (i + 1) = m) := Lib.hid (by
            rw [rword_out (by rw [HL.out]; exact hin) h7, HM.out])
          have f0 : ((i : Int) == 7) = false := beq_eq_false_iff_ne.2 (by omega)
          clear hin h7
          go_wp2_with fail
          go_round
          case rel => exact ⟨i + 1, _, by omega, by go_num, rfl, HS⟩
          case measure => simp [intOf]; omega
    · obtain rfl : i = 8 := by omega
      have HE : Hid (m = x) := Lib.hid (by rw [← HM.out, HX.out])
      go_wp2_with fail
      go_ret
      exact ⟨ret_int HE.out, rfl⟩
/-- The whole array is stored. -/
theorem store_four {w : World} {g : Nat} {v : V4} (h : Blk w g 61 (arrV v)) (u : V4) :
    Blk ((((w.setCell ⟨g, 0, none⟩ (.int .u64 u.a)).setCell ⟨g, 1, none⟩ (.int .u64 u.b)).setCell ⟨g, 2, none⟩ (.int .u64 u.c)).setCell ⟨g, 3, none⟩ (.int .u64 u.d)) g 61 (arrV u) :=
  (((h.set_ 0 _).set_ 1 _).set_ 2 _).set_ 3 _
theorem below_four {B : Nat} {a w : World} {g : Nat} (h : Below B a w) (hg : B ≤ g) (u : V4) :
    Below B a ((((w.setCell ⟨g, 0, none⟩ (.int .u64 u.a)).setCell ⟨g, 1, none⟩ (.int .u64 u.b)).setCell ⟨g, 2, none⟩ (.int .u64 u.c)).setCell ⟨g, 3, none⟩ (.int .u64 u.d)) :=
  (((h.setCell (p := ⟨g, 0, none⟩) hg _).setCell (p := ⟨g, 1, none⟩) hg _).setCell (p := ⟨g, 2, none⟩) hg _).setCell (p := ⟨g, 3, none⟩) hg _
set_option maxHeartbeats 4000000 in
set_option maxRecDepth 20000 in
theorem rsum_any (A : Option Addr) (n c : Nat) (xs : List Int) (ka kb x : Int) (w : World) (h : Reads w w.heap.size 1 A n (cellsU xs)) (hby : Bytes xs) (hn : n ≤ 20000) (hx : sumV ka kb xs = x) : Calls Try.prog 31 #[.agg #[.int .u64 ka, .int .u64 kb], .slice A n c] w (fun e w' => e = .returned (.int .u64 x) ∧ Below w.heap.size w w') := by
  have HRA : Hid (∀ u, Below w.heap.size w u → Reads u u.heap.size 1 A n (cellsU xs)) := Lib.hid fun u hu => (h.below hu).more hu.size
  have HBY := Lib.hid hby
  have HL := Lib.hid (reads_len h)
  have HX := Lib.hid hx
  clear h hby hx
  go_enter Try.func31, Try.ntmps31
  go_wp2_with fail
  obtain ⟨v0, hv0⟩ : ∃ v, (w.alloc (.cells #[.int .u64 ka, .int .u64 kb] 46)).alloc (.cells (arrV (initV ka kb)) 61) = v := ⟨_, rfl⟩
  have hv0' : ((w.alloc (.cells #[.int .u64 ka, .int .u64 kb] 46)).alloc (.cells #[.int .u64 (bits .xor .u64 ka 8317987319222330741), .int .u64 (bits .xor .u64 kb 7237128888997146477), .int .u64 (bits .xor .u64 ka 7816392313619706465), .int .u64 (bits .xor .u64 kb 8387220255154660723)] 61)) = v0 := hv0
  rw [hv0']
  have HB0 : Hid (Blk v0 (w.heap.size + 1) 61 (arrV (initV ka kb))) := Lib.hid (by
    rw [← hv0]
    have := Blk.new (w.alloc (.cells #[.int .u64 ka, .int .u64 kb] 46)) 61 (arrV (initV ka kb))
    simpa using this)
  have HBW : Hid (Below w.heap.size w v0) := Lib.hid (by rw [← hv0]; exact (((Below.refl w.heap.size w).alloc (Nat.le_refl _) _).alloc (by simp) _))
  obtain ⟨vi, hvi⟩ : ∃ v, initV ka kb = v := ⟨_, rfl⟩
  have HVI := Lib.hid hvi
  rw [hvi] at HB0
  clear hv0 hv0' hvi
  obtain ⟨G, hG⟩ : ∃ G, w.heap.size + 1 = G := ⟨_, rfl⟩
  have HGG : Hid (w.heap.size ≤ G) := Lib.hid (by omega)
  rw [hG] at HB0 ⊢
  clear hG
  obtain ⟨q, hq⟩ : ∃ q, n / 8 = q := ⟨_, rfl⟩
  have f0 : (n : Int).tdiv 8 = (q : Int) := by rw [Int.tdiv_eq_ediv_of_nonneg (by omega)]; omega
  have hq2 : q ≤ 2500 := by omega
  have HQ := Lib.hid hq
  clear hq
  go_loopw [6, 7] (fun s6 s7 wr => ∃ k : Nat, k ≤ q + 1 ∧ s6 = .int .i64 k ∧ Hid (Blk wr G 61 (arrV (rabs xs vi k))) ∧ Hid (Below w.heap.size w wr)) (fun s _ _ => q + 1 - (intOf s).toNat)
  case atStart => exact ⟨0, Nat.zero_le _, rfl, HB0, HBW⟩
  case round =>
    obtain ⟨wo, rfl⟩ : ∃ wo : World, wo = wr := ⟨_, rfl⟩
    obtain ⟨k, hk, rfl, HB, HO⟩ := hrel
    obtain ⟨V, hV⟩ : ∃ V, rabs xs vi k = V := ⟨_, rfl⟩
    rw [hV] at HB
    have HV := Lib.hid hV
    clear hV
    by_cases hlt : k ≤ q
    · have hk0 : (0 : Int) ≤ k := by omega
      have hk1 : (k : Int) ≤ q := by omega
      obtain ⟨m, hm⟩ : ∃ m, rwordF xs k 8 = m := ⟨_, rfl⟩
      have HM := Lib.hid hm
      clear hm
      go_wp2_with fail
      refine (rword_any A n c xs k m _ (HRA.out _ HO.out) HBY.out hn (by omega) HM.out).mono ?_
      rintro e wo ⟨rfl, rfl⟩
      have e0 := (HB.out.cell 0).trans rfl; have e1 := (HB.out.cell 1).trans rfl; have e2 := (HB.out.cell 2).trans rfl; have e3 := (HB.out.cell 3).trans rfl; have z0 := HB.out.frozen 0; have z1 := HB.out.frozen 1; have z2 := HB.out.frozen 2; have z3 := HB.out.frozen 3
      obtain ⟨y, hy⟩ : ∃ y, bits .xor .u64 V.d m = y := ⟨_, rfl⟩
      have HY : Hid (xorZ V.d m = y) := Lib.hid hy
      go_upto_region 7 with fail
      clear hy
      obtain ⟨w1, hw⟩ : ∃ u, wo.setCell ⟨G, 3, none⟩ (.int .u64 y) = u := ⟨_, rfl⟩
      have HB1 : Hid (Blk w1 G 61 (arrV ⟨V.a, V.b, V.c, y⟩)) := Lib.hid (by rw [← hw]; exact HB.out.set_ 3 _)
      have HO1 : Hid (Below w.heap.size w w1) := Lib.hid (by rw [← hw]; exact HO.out.setCell (p := ⟨G, 3, none⟩) HGG.out _)
      rw [hw]
      clear hw
      clear e0 e1 e2 e3 z0 z1 z2 z3
      have e0 := (HB1.out.cell 0).trans rfl; have e1 := (HB1.out.cell 1).trans rfl; have e2 := (HB1.out.cell 2).trans rfl; have e3 := (HB1.out.cell 3).trans rfl; have z0 := HB1.out.frozen 0; have z1 := HB1.out.frozen 1; have z2 := HB1.out.frozen 2; have z3 := HB1.out.frozen 3
      go_wp2_with fail
      refine (rround_any ⟨V.a, V.b, V.c, y⟩ _).mono ?_
      rintro e w2 ⟨rfl, hb2⟩
      have HB2 := Lib.hid (HB1.out.below hb2 HB1.out.lt)
      have HO2 := Lib.hid (below_next HO1.out (Nat.le_refl _) hb2)
      obtain ⟨U, hU⟩ : ∃ U, rnd ⟨V.a, V.b, V.c, y⟩ = U := ⟨_, rfl⟩
      have HU := Lib.hid hU
      rw [hU]
      clear e0 e1 e2 e3 z0 z1 z2 z3 hb2 hU
      have e0 := (HB2.out.cell 0).trans rfl; have e1 := (HB2.out.cell 1).trans rfl; have e2 := (HB2.out.cell 2).trans rfl; have e3 := (HB2.out.cell 3).trans rfl; have z0 := HB2.out.frozen 0; have z1 := HB2.out.frozen 1; have z2 := HB2.out.frozen 2; have z3 := HB2.out.frozen 3
      go_wp2_with fail
      refine (rround_any U _).mono ?_
      rintro e w3 ⟨rfl, hb3⟩
      have HB3 := Lib.hid (HB2.out.below hb3 HB2.out.lt)
      have HO3 := Lib.hid (below_next HO2.out (Nat.le_refl _) hb3)
      obtain ⟨T, hT⟩ : ∃ T, rnd U = T := ⟨_, rfl⟩
      have HT := Lib.hid hT
      rw [hT]
      clear e0 e1 e2 e3 z0 z1 z2 z3 hb3 hT
      have e0 := (HB3.out.cell 0).trans rfl; have e1 := (HB3.out.cell 1).trans rfl; have e2 := (HB3.out.cell 2).trans rfl; have e3 := (HB3.out.cell 3).trans rfl; have z0 := HB3.out.frozen 0; have z1 := HB3.out.frozen 1; have z2 := HB3.out.frozen 2; have z3 := HB3.out.frozen 3
      go_upto_region 8 with fail
      obtain ⟨w4, hw⟩ : ∃ u, ((((w3.setCell ⟨G, 0, none⟩ (.int .u64 T.a)).setCell ⟨G, 1, none⟩ (.int .u64 T.b)).setCell ⟨G, 2, none⟩ (.int .u64 T.c)).setCell ⟨G, 3, none⟩ (.int .u64 T.d)) = u := ⟨_, rfl⟩
      have HB4 : Hid (Blk w4 G 61 (arrV T)) := Lib.hid (by rw [← hw]; exact store_four HB3.out T)
      have HO4 : Hid (Below w.heap.size w w4) := Lib.hid (by rw [← hw]; exact below_four HO3.out HGG.out T)
      rw [hw]
      clear hw
      clear e0 e1 e2 e3 z0 z1 z2 z3
      have e0 := (HB4.out.cell 0).trans rfl; have e1 := (HB4.out.cell 1).trans rfl; have e2 := (HB4.out.cell 2).trans rfl; have e3 := (HB4.out.cell 3).trans rfl; have z0 := HB4.out.frozen 0; have z1 := HB4.out.frozen 1; have z2 := HB4.out.frozen 2; have z3 := HB4.out.frozen 3
      obtain ⟨w5, hw⟩ : ∃ u, w4.setCell ⟨G, 0, none⟩ (.int .u64 (bits .xor .u64 T.a m)) = u := ⟨_, rfl⟩
      have HB5 : Hid (Blk w5 G 61 (arrV (rabs xs vi (k + 1)))) := Lib.hid (by
        rw [← hw]
        have e : rabs xs vi (k + 1) = ⟨xorZ T.a m, T.b, T.c, T.d⟩ := by
          show takeV (rabs xs vi k) (rwordF xs k 8) = _
          rw [HV.out, HM.out]
          unfold takeV
          rw [HY.out, HU.out, HT.out]
        rw [e]
        exact HB4.out.set_ 0 _)
      have HO5 : Hid (Below w.heap.size w w5) := Lib.hid (by rw [← hw]; exact HO4.out.setCell (p := ⟨G, 0, none⟩) HGG.out _)
      have HW5 := Lib.hid hw
      clear hw
      go_wp2_with fail
      rw [HW5.out]
      go_roundw
      case rel => exact ⟨k + 1, by omega, by go_num, HB5, HO5⟩
      case measure => simp [intOf]; omega
    · obtain rfl : k = q + 1 := by omega
      have hk1 : ¬ (((q + 1 : Nat) : Int) ≤ q) := by omega
      have e0 := (HB.out.cell 0).trans rfl; have e1 := (HB.out.cell 1).trans rfl; have e2 := (HB.out.cell 2).trans rfl; have e3 := (HB.out.cell 3).trans rfl; have z0 := HB.out.frozen 0; have z1 := HB.out.frozen 1; have z2 := HB.out.frozen 2; have z3 := HB.out.frozen 3
      obtain ⟨y, hy⟩ : ∃ y, bits .xor .u64 V.c 255 = y := ⟨_, rfl⟩
      have HY : Hid (xorZ V.c 255 = y) := Lib.hid hy
      go_upto_region 10 with fail
      clear hy
      obtain ⟨w1, hw⟩ : ∃ u, wo.setCell ⟨G, 2, none⟩ (.int .u64 y) = u := ⟨_, rfl⟩
      have HB1 : Hid (Blk w1 G 61 (arrV ⟨V.a, V.b, y, V.d⟩)) := Lib.hid (by rw [← hw]; exact HB.out.set_ 2 _)
      have HO1 : Hid (Below w.heap.size w w1) := Lib.hid (by rw [← hw]; exact HO.out.setCell (p := ⟨G, 2, none⟩) HGG.out _)
      rw [hw]
      clear hw
      clear e0 e1 e2 e3 z0 z1 z2 z3
      have e0 := (HB1.out.cell 0).trans rfl; have e1 := (HB1.out.cell 1).trans rfl; have e2 := (HB1.out.cell 2).trans rfl; have e3 := (HB1.out.cell 3).trans rfl; have z0 := HB1.out.frozen 0; have z1 := HB1.out.frozen 1; have z2 := HB1.out.frozen 2; have z3 := HB1.out.frozen 3
      go_wp2_with fail
      refine (rround_any ⟨V.a, V.b, y, V.d⟩ _).mono ?_
      rintro e w2 ⟨rfl, hb⟩
      have HB2 := Lib.hid (HB1.out.below hb HB1.out.lt)
      have HO2 := Lib.hid (below_next HO1.out (Nat.le_refl _) hb)
      obtain ⟨U0, hU⟩ : ∃ U, rnd ⟨V.a, V.b, y, V.d⟩ = U := ⟨_, rfl⟩
      have HU0 := Lib.hid hU
      rw [hU]
      clear e0 e1 e2 e3 z0 z1 z2 z3 hb hU
      have e0 := (HB2.out.cell 0).trans rfl; have e1 := (HB2.out.cell 1).trans rfl; have e2 := (HB2.out.cell 2).trans rfl; have e3 := (HB2.out.cell 3).trans rfl; have z0 := HB2.out.frozen 0; have z1 := HB2.out.frozen 1; have z2 := HB2.out.frozen 2; have z3 := HB2.out.frozen 3
      go_wp2_with fail
      refine (rround_any U0 _).mono ?_
      rintro e w3 ⟨rfl, hb⟩
      have HB3 := Lib.hid (HB2.out.below hb HB2.out.lt)
      have HO3 := Lib.hid (below_next HO2.out (Nat.le_refl _) hb)
      obtain ⟨U1, hU⟩ : ∃ U, rnd U0 = U := ⟨_, rfl⟩
      have HU1 := Lib.hid hU
      rw [hU]
      clear e0 e1 e2 e3 z0 z1 z2 z3 hb hU
      have e0 := (HB3.out.cell 0).trans rfl; have e1 := (HB3.out.cell 1).trans rfl; have e2 := (HB3.out.cell 2).trans rfl; have e3 := (HB3.out.cell 3).trans rfl; have z0 := HB3.out.frozen 0; have z1 := HB3.out.frozen 1; have z2 := HB3.out.frozen 2; have z3 := HB3.out.frozen 3
      go_wp2_with fail
      refine (rround_any U1 _).mono ?_
      rintro e w4 ⟨rfl, hb⟩
      have HB4 := Lib.hid (HB3.out.below hb HB3.out.lt)
      have HO4 := Lib.hid (below_next HO3.out (Nat.le_refl _) hb)
      obtain ⟨U2, hU⟩ : ∃ U, rnd U1 = U := ⟨_, rfl⟩
      have HU2 := Lib.hid hU
      rw [hU]
      clear e0 e1 e2 e3 z0 z1 z2 z3 hb hU
      have e0 := (HB4.out.cell 0).trans rfl; have e1 := (HB4.out.cell 1).trans rfl; have e2 := (HB4.out.cell 2).trans rfl; have e3 := (HB4.out.cell 3).trans rfl; have z0 := HB4.out.frozen 0; have z1 := HB4.out.frozen 1; have z2 := HB4.out.frozen 2; have z3 := HB4.out.frozen 3
      go_wp2_with fail
      refine (rround_any U2 _).mono ?_
      rintro e w5 ⟨rfl, hb⟩
      have HB5 := Lib.hid (HB4.out.below hb HB4.out.lt)
      have HO5 := Lib.hid (below_next HO4.out (Nat.le_refl _) hb)
      obtain ⟨U3, hU⟩ : ∃ U, rnd U2 = U := ⟨_, rfl⟩
      have HU3 := Lib.hid hU
      rw [hU]
      clear e0 e1 e2 e3 z0 z1 z2 z3 hb hU
      have e0 := (HB5.out.cell 0).trans rfl; have e1 := (HB5.out.cell 1).trans rfl; have e2 := (HB5.out.cell 2).trans rfl; have e3 := (HB5.out.cell 3).trans rfl; have z0 := HB5.out.frozen 0; have z1 := HB5.out.frozen 1; have z2 := HB5.out.frozen 2; have z3 := HB5.out.frozen 3
      obtain ⟨w6, hw⟩ : ∃ u, ((((w5.setCell ⟨G, 0, none⟩ (.int .u64 U3.a)).setCell ⟨G, 1, none⟩ (.int .u64 U3.b)).setCell ⟨G, 2, none⟩ (.int .u64 U3.c)).setCell ⟨G, 3, none⟩ (.int .u64 U3.d)) = u := ⟨_, rfl⟩
      have HB6 : Hid (Blk w6 G 61 (arrV U3)) := Lib.hid (by rw [← hw]; exact store_four HB5.out U3)
      have HO6 : Hid (Below w.heap.size w w6) := Lib.hid (by rw [← hw]; exact below_four HO5.out HGG.out U3)
      have HW6 := Lib.hid hw
      clear hw
      have HE : Hid (bits .xor .u64 (bits .xor .u64 (bits .xor .u64 U3.a U3.b) U3.c) U3.d = x) := Lib.hid (by
        rw [← HX.out, rabs_sum, HVI.out, HL.out, HQ.out, HV.out]
        unfold endV
        show _ = xorZ (xorZ (xorZ (rnd (rnd (rnd (rnd ⟨V.a, V.b, xorZ V.c 255, V.d⟩)))).a (rnd (rnd (rnd (rnd ⟨V.a, V.b, xorZ V.c 255, V.d⟩)))).b) (rnd (rnd (rnd (rnd ⟨V.a, V.b, xorZ V.c 255, V.d⟩)))).c) (rnd (rnd (rnd (rnd ⟨V.a, V.b, xorZ V.c 255, V.d⟩)))).d
        rw [HY.out, HU0.out, HU1.out, HU2.out, HU3.out]; rfl)
      go_upto_region 11 with fail
      rw [HW6.out]
      clear e0 e1 e2 e3 z0 z1 z2 z3
      have e0 := (HB6.out.cell 0).trans rfl; have e1 := (HB6.out.cell 1).trans rfl; have e2 := (HB6.out.cell 2).trans rfl; have e3 := (HB6.out.cell 3).trans rfl; have z0 := HB6.out.frozen 0; have z1 := HB6.out.frozen 1; have z2 := HB6.out.frozen 2; have z3 := HB6.out.frozen 3
      go_wp2_with fail
      go_ret
      exact ⟨ret_int HE.out, HO6.out⟩
end Go.Proofs.Ytpipojgfpilhdaa
