/- The walk of the reference's Add. -/
import Derived.Test.YthbmofijdhfeeaaRefC
import Derived.Test.YthbmofijdhfeeaaTwo
namespace Go.Proofs.Ythbmofijdhfeeaa
open Go.RowKit Go.Maps Go.WideMaps
theorem from_own {w : World} {base B : Nat} {e : TypeId} {size n c : Nat} {A A2 : Option Addr} {xs : List Value} (h : w.ownsRow base e size (.slice A2 n c) n xs) (hB : B ≤ base) : From B A A2 := From.new fun q hq => by
  subst hq
  rcases h.2 with ⟨e1, _⟩ | ⟨g, cap, cur, e1, hg, _⟩
  · cases e1
  · injection e1 with e1
    injection e1 with e1
    rw [e1]; exact Nat.le_trans hB hg
theorem oneI {x : Int} : ∀ u ∈ [Value.int .i64 x], u.oneCell' = true := by simp [Value.oneCell']
theorem fr1X (u : World) (a b c d : Int) : Reads (u.alloc (.cells #[.int .i64 a, .int .i64 b, .int .i64 c, .int .i64 d] 47)) (u.heap.size + 1) 4 (some ⟨u.heap.size, 0, none⟩) 1 (encL (a, b, c, d)) := by simpa [encL] using Reads.fresh1 u 47 #[.int .i64 a, .int .i64 b, .int .i64 c, .int .i64 d] 4 rfl
theorem fr2X (u : World) (o : Obj) (a b c d : Int) : Reads ((u.alloc o).alloc (.cells #[.int .i64 a, .int .i64 b, .int .i64 c, .int .i64 d] 47)) (u.heap.size + 1 + 1) 4 (some ⟨u.heap.size + 1, 0, none⟩) 1 (encL (a, b, c, d)) := by simpa [encL] using Reads.fresh2 u o 47 #[.int .i64 a, .int .i64 b, .int .i64 c, .int .i64 d] 4 rfl
theorem fr1Y (u : World) (c : Int) : Reads (u.alloc (.cells #[.int .i64 c] 3)) (u.heap.size + 1) 1 (some ⟨u.heap.size, 0, none⟩) 1 [.int .i64 c] := by simpa using Reads.fresh1 u 3 #[.int .i64 c] 1 rfl
theorem fr2Y (u : World) (o : Obj) (c : Int) : Reads ((u.alloc o).alloc (.cells #[.int .i64 c] 3)) (u.heap.size + 1 + 1) 1 (some ⟨u.heap.size + 1, 0, none⟩) 1 [.int .i64 c] := by simpa using Reads.fresh2 u o 3 #[.int .i64 c] 1 rfl
set_option maxHeartbeats 4000000 in
set_option maxRecDepth 10000 in
theorem radd_any (A A' : Option Addr) (n k k' : Nat) (l m' : List Lt) (a b c d x : Int) (w : World) (h : RefS w A n A' l) (hn : n ≤ 512) (hx : addE l (a, b, c, d) = x) (hm : addL l (a, b, c, d) = m') :
    Calls Try.prog 29 #[.agg #[.slice A n k, .slice A' n k'], .agg #[.int .i64 a, .int .i64 b, .int .i64 c, .int .i64 d]] w (RetRefE w A A' m' x) := by
  have hb0 : Below w.heap.size w (((w.alloc (.cells #[.slice A n k, .slice A' n k'] 30)).alloc (.cells #[.int .i64 a, .int .i64 b, .int .i64 c, .int .i64 d] 47)).alloc (.cells #[.slice none 0 0, .slice none 0 0] 30)) := (((Below.refl _ _).alloc (Nat.le_refl _) _).alloc (by simp) _).alloc (by simp; omega) _
  have hB0 : Blk (((w.alloc (.cells #[.slice A n k, .slice A' n k'] 30)).alloc (.cells #[.int .i64 a, .int .i64 b, .int .i64 c, .int .i64 d] 47)).alloc (.cells #[.slice none 0 0, .slice none 0 0] 30)) w.heap.size 30 #[.slice A n k, .slice A' n k'] := ((Blk.new w 30 #[.slice A n k, .slice A' n k']).alloc _).alloc _
  have hB1 : Blk (((w.alloc (.cells #[.slice A n k, .slice A' n k'] 30)).alloc (.cells #[.int .i64 a, .int .i64 b, .int .i64 c, .int .i64 d] 47)).alloc (.cells #[.slice none 0 0, .slice none 0 0] 30)) (w.heap.size + 1) 47 #[.int .i64 a, .int .i64 b, .int .i64 c, .int .i64 d] := by simpa using (Blk.new (w.alloc (.cells #[.slice A n k, .slice A' n k'] 30)) 47 #[.int .i64 a, .int .i64 b, .int .i64 c, .int .i64 d]).alloc (.cells #[.slice none 0 0, .slice none 0 0] 30)
  have hB2 : Blk (((w.alloc (.cells #[.slice A n k, .slice A' n k'] 30)).alloc (.cells #[.int .i64 a, .int .i64 b, .int .i64 c, .int .i64 d] 47)).alloc (.cells #[.slice none 0 0, .slice none 0 0] 30)) (w.heap.size + 1 + 1) 30 #[.slice none 0 0, .slice none 0 0] := by simpa using Blk.new ((w.alloc (.cells #[.slice A n k, .slice A' n k'] 30)).alloc (.cells #[.int .i64 a, .int .i64 b, .int .i64 c, .int .i64 d] 47)) 30 #[.slice none 0 0, .slice none 0 0]
  have hN : Blk (((w.alloc (.cells #[.slice A n k, .slice A' n k'] 30)).alloc (.cells #[.int .i64 a, .int .i64 b, .int .i64 c, .int .i64 d] 47)).alloc (.cells #[.slice A n k, .slice A' n k'] 30)) (w.heap.size + 1 + 1) 30 #[.slice A n k, .slice A' n k'] := by simpa using Blk.new ((w.alloc (.cells #[.slice A n k, .slice A' n k'] 30)).alloc (.cells #[.int .i64 a, .int .i64 b, .int .i64 c, .int .i64 d] 47)) 30 #[.slice A n k, .slice A' n k']
  have HNB : Hid (Below w.heap.size w (((w.alloc (.cells #[.slice A n k, .slice A' n k'] 30)).alloc (.cells #[.int .i64 a, .int .i64 b, .int .i64 c, .int .i64 d] 47)).alloc (.cells #[.slice A n k, .slice A' n k'] 30))) := Lib.hid ((((Below.refl _ _).alloc (Nat.le_refl _) _).alloc (by simp) _).alloc (by simp; omega) _)
  have HH := Lib.hid h
  have HR := Lib.hid (h.below hb0)
  have HB0 := Lib.hid hB0; have HB1 := Lib.hid hB1; have HB2 := Lib.hid hB2; have HBW := Lib.hid hb0
  have HL := Lib.hid h.2.2
  have a0 := hB0.cell 0; have a1 := hB0.cell 1; have b0 := hB1.cell 0; have b1 := hB1.cell 1; have b2 := hB1.cell 2; have b3 := hB1.cell 3
  have N0 := Lib.hid (hN.cell 0); have N1 := Lib.hid (hN.cell 1)
  have HX := Lib.hid hx; have HM := Lib.hid hm
  clear hx hm hb0 hB0 hB1 hB2 h hN
  by_cases hfull : 512 ≤ n
  · obtain rfl : x = 8 := HX.out.symm.trans (addE_full (by have := HL.out; omega))
    have HML := Lib.hid (show m' = l from HM.out.symm.trans (addL_no (by rw [HX.out]; decide)))
    go_enter Try.func29, Try.ntmps29
    go_wp2_with fail
    exact bodyPost_ret (v := .tuple #[.agg #[.slice A n k, .slice A' n k'], .int .i64 8]) (by simp [results, Try.results29, go_sem, N0.out, N1.out]) rfl (refE_no HH.out HNB.out HML.out rfl)
  · have HL5 : Hid (l.length < 512) := Lib.hid (by have := HL.out; omega)
    rcases hok : okL (a, b, c, d) with _ | _
    · obtain rfl : x = 1 := HX.out.symm.trans (addE_range HL5.out hok)
      have HML := Lib.hid (show m' = l from HM.out.symm.trans (addL_no (by rw [HX.out]; decide)))
      have hcs : a < 1 ∨ (1 ≤ a ∧ 1000000 < a) ∨ (1 ≤ a ∧ a ≤ 1000000 ∧ c < 1) ∨ (1 ≤ a ∧ a ≤ 1000000 ∧ 1 ≤ c ∧ 1000000 < c) ∨ (1 ≤ a ∧ a ≤ 1000000 ∧ 1 ≤ c ∧ c ≤ 1000000 ∧ d < 0) ∨ (1 ≤ a ∧ a ≤ 1000000 ∧ 1 ≤ c ∧ c ≤ 1000000 ∧ 0 ≤ d ∧ 4294943999 < d) := by
        have : ¬ (1 ≤ a ∧ a ≤ 1000000 ∧ 1 ≤ c ∧ c ≤ 1000000 ∧ 0 ≤ d ∧ d ≤ 4294943999) := of_decide_eq_false hok
        omega
      clear hok
      rcases hcs with g1 | ⟨g1, g2⟩ | ⟨g1, g2, g3⟩ | ⟨g1, g2, g3, g4⟩ | ⟨g1, g2, g3, g4, g5⟩ | ⟨g1, g2, g3, g4, g5, g6⟩
      all_goals
        go_enter Try.func29, Try.ntmps29
        go_wp2_with fail
        exact bodyPost_ret (v := .tuple #[.agg #[.slice A n k, .slice A' n k'], .int .i64 1]) (by simp [results, Try.results29, go_sem, N0.out, N1.out]) rfl (refE_no HH.out HNB.out HML.out rfl)
    · obtain ⟨e1, e2, e3, e4, e5, e6⟩ : 1 ≤ a ∧ a ≤ 1000000 ∧ 1 ≤ c ∧ c ≤ 1000000 ∧ 0 ≤ d ∧ d ≤ 4294943999 := of_decide_eq_true hok
      rcases hk : kindB b with _ | _
      · obtain rfl : x = 14 := HX.out.symm.trans (addE_kind HL5.out hok hk)
        have HML := Lib.hid (show m' = l from HM.out.symm.trans (addL_no (by rw [HX.out]; decide)))
        have hcs : b < 0 ∨ (0 ≤ b ∧ 8 ≤ b) := by
          have : ¬ (0 ≤ b ∧ b ≤ 7) := of_decide_eq_false hk
          omega
        clear hok hk
        rcases hcs with g1 | ⟨g1, g2⟩
        all_goals
          go_enter Try.func29, Try.ntmps29
          go_wp2_with fail
          exact bodyPost_ret (v := .tuple #[.agg #[.slice A n k, .slice A' n k'], .int .i64 14]) (by simp [results, Try.results29, go_sem, N0.out, N1.out]) rfl (refE_no HH.out HNB.out HML.out rfl)
      · obtain ⟨k1, k2⟩ : 0 ≤ b ∧ b ≤ 7 := of_decide_eq_true hk
        have HOK := Lib.hid hok; have HK := Lib.hid hk
        clear hok hk
        rcases Option.eq_none_or_eq_some (idx l a) with hi | ⟨i, hi⟩
        · have HP := Lib.hid (posI_none hi)
          have HI := Lib.hid hi
          have hcs : (n = 0) ∨ ∃ (j : Nat) (hj : j < l.length), n = j + 1 ∧ lastAt l = l[j].1.2.2.2 := by
            rcases Nat.eq_zero_or_pos n with h0 | h0
            · exact .inl h0
            · have hl1 : n - 1 < l.length := by have := HL.out; omega
              refine .inr ⟨n - 1, hl1, by omega, ?_⟩
              have e := lastAt_at (l := l) (by omega)
              have h2 := HL.out
              subst h2
              exact e
          obtain ⟨iX, hiX, hz0X, hz1X, hz2X⟩ := info_parts Try.info47
          obtain ⟨iY, hiY, hz0Y, hz1Y, hz2Y⟩ := info_parts Try.info3
          clear hi
          by_cases hord : l ≠ [] ∧ d < lastAt l
          · obtain rfl : x = 9 := HX.out.symm.trans (addE_order HL5.out HOK.out HK.out HI.out hord.1 hord.2)
            have HML := Lib.hid (show m' = l from HM.out.symm.trans (addL_no (by rw [HX.out]; decide)))
            rcases hcs with h0 | ⟨j, hj, hnj, hla⟩
            · exact absurd (List.eq_nil_of_length_eq_zero (by have := HL.out; omega)) hord.1
            · have _tok : True := trivial
              have hpos : decide ((0 : Int) < (n : Int)) = true := decide_eq_true (by omega)
              have hpos2 : decide (0 < n) = true := decide_eq_true (by omega)
              have hdl : decide (d < l[j].1.2.2.2) = true := decide_eq_true (by rw [← hla]; exact hord.2)
              have hwr : IntKind.i64.wrap ((n : Int) - 1) = j := by rw [show ((n : Int) - 1) = j from by omega]; exact IntWalk.i64_in _ (by omega)
              have hwr2 : (n : Int) - 1 = j := by omega
              have hj0 : (0 : Int) ≤ j := by omega
              have hj1 : (j : Int) < (n : Int) := by omega
              have hn0 : 0 < n := by omega
              clear hord hnj
              go_enter Try.func29, Try.ntmps29
              go_wp2_with fail
              refine (rfind_any _ A' n k k' l a (-1) _ HR.out (by omega) HP.out).mono ?_
              rintro e w1 ⟨rfl, hb1⟩
              have HW1 := Lib.hid (HBW.out.trans (hb1.mono HBW.out.size))
              have d0 := HB0.out.below hb1 HB0.out.lt; have d1 := HB1.out.below hb1 HB1.out.lt; have d2 := HB2.out.below hb1 HB2.out.lt
              have HRR := Lib.hid (HR.out.below hb1)
              obtain ⟨bb, off, hAe, hbl, hcc⟩ := HRR.out.lot hn0
              subst hAe
              have d3 := (hcc j hj).2.2.2
              clear hcc
              clear a0 a1 b0 b1 b2 b3 hb1
              have a0 := d0.cell 0; have a1 := d0.cell 1; have b0 := d1.cell 0; have b1 := d1.cell 1; have b2 := d1.cell 2; have b3 := d1.cell 3
              have D0 := Lib.hid d0; have D1 := Lib.hid d1; have D2 := Lib.hid d2
              clear d0 d1 d2
              go_wp2_with fail
              go_quiet (fail)

              obtain ⟨r0, r1⟩ := set2_facts (D2.out.drewN nq) (.slice (some ⟨bb, off, none⟩) n k) (.slice A' n k')
              have f0 := (D2.out.drewN nq).frozen 0; have f1 := (D2.out.drewN nq).frozen 1; have z0 := (D2.out.drewN nq).cell 0; have z1 := (D2.out.drewN nq).cell 1; have hsz := D2.out.lt
              have R0 := Lib.hid r0; have R1 := Lib.hid r1
              clear r0 r1
              go_wp2_with fail
              exact bodyPost_ret (v := .tuple #[.agg #[.slice (some ⟨bb, off, none⟩) n k, .slice A' n k'], .int .i64 9]) (by simp [results, Try.results29, go_sem, R0.out, R1.out]) rfl (refE_no HH.out (set2_below _ _ (below_drewN HW1.out nq) (by omega)) HML.out rfl)
          · obtain rfl : x = 0 := HX.out.symm.trans (addE_ok HL5.out HOK.out HK.out HI.out (by
              rcases Classical.em (l = []) with h0 | h0
              · exact .inl h0
              · exact .inr (Int.not_lt.1 fun e => hord ⟨h0, e⟩)))
            have HML := Lib.hid (show m' = l ++ [((a, b, c, d), c)] from HM.out.symm.trans (addL_ok HX.out))
            have hn5 : n < 512 := by omega
            rcases hcs with h0 | ⟨j, hj, hnj, hla⟩
            · have _tok : True := trivial
              have hpos : decide ((0 : Int) < (n : Int)) = false := decide_eq_false (by omega)
              have hpos2 : decide (0 < n) = false := decide_eq_false (by omega)
              clear hord h0
              go_enter Try.func29, Try.ntmps29
              go_wp2_with fail
              refine (rfind_any A A' n k k' l a (-1) _ HR.out (by omega) HP.out).mono ?_
              rintro e w1 ⟨rfl, hb1⟩
              have HW1 := Lib.hid (HBW.out.trans (hb1.mono HBW.out.size))
              have d0 := HB0.out.below hb1 HB0.out.lt; have d1 := HB1.out.below hb1 HB1.out.lt; have d2 := HB2.out.below hb1 HB2.out.lt
              have HRR := Lib.hid (HR.out.below hb1)
              clear a0 a1 b0 b1 b2 b3 hb1
              have a0 := d0.cell 0; have a1 := d0.cell 1; have b0 := d1.cell 0; have b1 := d1.cell 1; have b2 := d1.cell 2; have b3 := d1.cell 3
              have D0 := Lib.hid d0; have D1 := Lib.hid d1; have D2 := Lib.hid d2
              clear d0 d1 d2
              go_wp2_with fail
              go_quiet (fail)
              go_wp2_with fail
              have e0 := D0.out.drewN nq; have e1' := D1.out.drewN nq; have e2' := D2.out.drewN nq
              have eR : RefS (w1.drewN nq) A n A' l := HRR.out
              have eW : Below w.heap.size w (w1.drewN nq) := below_drewN HW1.out nq
              have hs0 := D2.out.lt
              have hsv : w.heap.size + 1 + 1 < (w1.drewN nq).heap.size := hs0
              clear a0 a1 b0 b1 b2 b3 D0 D1 D2 HRR HW1 hs0
              generalize w1.drewN nq = v at *
              have HB0 := Lib.hid e0; have HB1 := Lib.hid e1'; have HB2 := Lib.hid e2'; have HRV := Lib.hid eR; have HWV := Lib.hid eW
              clear e0 e1' e2' eR eW
              have KR : ∀ {u : World}, Below v.heap.size v u → Reads u v.heap.size 4 A n (cellsL (lots l)) ∧ Reads u v.heap.size 1 A' n (cellsI (lefts l)) := fun h => ⟨HRV.out.1.below h, HRV.out.2.1.below h⟩
              have KS : ∀ {u : World}, Below v.heap.size v u → u.cell? ⟨w.heap.size, 0, none⟩ = some (.slice A n k) ∧ u.cell? ⟨w.heap.size, 1, none⟩ = some (.slice A' n k') := fun h =>
                ⟨(HB0.out.below h (by omega)).cell 0, (HB0.out.below h (by omega)).cell 1⟩
              have KT : ∀ {u : World}, Below (w.heap.size + 1 + 1) v u → u.cell? ⟨w.heap.size + 1, 0, none⟩ = some (.int .i64 a) ∧ u.cell? ⟨w.heap.size + 1, 1, none⟩ = some (.int .i64 b) ∧ u.cell? ⟨w.heap.size + 1, 2, none⟩ = some (.int .i64 c) ∧ u.cell? ⟨w.heap.size + 1, 3, none⟩ = some (.int .i64 d) := fun h =>
                ⟨(HB1.out.below h (by omega)).cell 0, (HB1.out.below h (by omega)).cell 1, (HB1.out.below h (by omega)).cell 2, (HB1.out.below h (by omega)).cell 3⟩
              have T : Two v.heap.size v v.drew 47 4 (.slice none 0 0) 0 [] 3 1 (.slice none 0 0) 0 [] := Two.drew ⟨Below.refl _ _, Nat.le_refl _, World.ownsRow_nil _ _ _ _, World.ownsRow_nil _ _ _ _, fun g h => by simp [Value.ownBlock] at h⟩
              go_region_held3 (fun u => u.cell? ⟨w.heap.size, 0, none⟩ = some (.slice A n k) ∧ u.cell? ⟨w.heap.size, 1, none⟩ = some (.slice A' n k'))
                (first | exact KS T.below)
                (first | (refine step_append_any _ rfl (.tmp 74) (.tmp 76) _ (by rfl) _ 47 iX _ 4 32 Try.underlying22 hiX hz0X hz1X hz2X rfl (by omega) _ 0 _ (by rfl) T.ownX _ A n k _ (by rfl) (KR T.below).1 (one_cellsL _) (by simp only [maxLen]; omega) (by omega) T.base ?_; intro v5 w5 hown5 hg5 hat5; simp only [Nat.zero_add, List.nil_append] at hown5; obtain ⟨A5, c5, rfl, hr5⟩ := own_reads hown5; have T := T.left hown5 hg5 hat5) | (refine step_append_any _ rfl (.tmp 78) (.tmp 80) _ (by rfl) _ 3 iY _ 1 8 Try.underlying28 hiY hz0Y hz1Y hz2Y rfl (by omega) _ 0 _ (by rfl) T.ownY _ A' n k' _ (by rfl) (KR T.below).2 (one_cellsI _) (by simp only [maxLen]; omega) (by omega) T.base ?_; intro v6 w5 hown5 hg5 hat5; simp only [Nat.zero_add, List.nil_append] at hown5; obtain ⟨A6, c6, rfl, hr5⟩ := own_reads hown5; have T := T.right hown5 hg5 hat5))
              all_goals
                go_wp2_with fail
                have hle := Nat.le_of_lt hsv
                have T4 := KT (T.below.mono hle)
                obtain ⟨b0, b1, b2, b3⟩ := T4
                go_region_held3 (fun u => u.cell? ⟨w.heap.size + 1, 0, none⟩ = some (.int .i64 a) ∧ u.cell? ⟨w.heap.size + 1, 1, none⟩ = some (.int .i64 b) ∧ u.cell? ⟨w.heap.size + 1, 2, none⟩ = some (.int .i64 c) ∧ u.cell? ⟨w.heap.size + 1, 3, none⟩ = some (.int .i64 d))
                  (first | exact KT (T.below.mono hle) | exact KT (T.drew.below.mono hle) | exact KT ((T.alloc _).below.mono hle) | exact KT ((T.alloc _).drew.below.mono hle) | exact KT (((T.alloc _).alloc _).drew.below.mono hle) | exact KT (set2_below _ _ (T.below.mono hle) (Nat.le_refl _)))
                  (first | (refine step_append_any _ rfl (.tmp 82) (.tmp 84) _ (by rfl) _ 47 iX _ 4 32 Try.underlying22 hiX hz0X hz1X hz2X rfl (by omega) _ n _ (by rfl) (T.alloc _).drew.ownX _ _ 1 1 _ (by rfl) (Reads.drew (fr1X _ _ _ _ _)) (one_encL (a, b, c, d)) (by simp only [maxLen]; omega) (by omega) (T.alloc _).drew.base ?_; intro v5 w5 hown5 hg5 hat5; obtain ⟨A5, c5, rfl, hr5⟩ := own_reads hown5; have T := (T.alloc _).drew.left hown5 hg5 hat5; have d2 := (HB2.out.below T.below hsv); have z0 := d2.cell 0; have z1 := d2.cell 1; have f0 := d2.frozen 0; have f1 := d2.frozen 1; have hsz := d2.lt) | (refine step_append_any _ rfl (.tmp 82) (.tmp 84) _ (by rfl) _ 47 iX _ 4 32 Try.underlying22 hiX hz0X hz1X hz2X rfl (by omega) _ n _ (by rfl) ((T.alloc _).alloc _).drew.ownX _ _ 1 1 _ (by rfl) (Reads.drew ((fr1X _ _ _ _ _).alloc1 _)) (one_encL (a, b, c, d)) (by simp only [maxLen]; omega) (by omega) ((T.alloc _).alloc _).drew.base ?_; intro v5 w5 hown5 hg5 hat5; obtain ⟨A5, c5, rfl, hr5⟩ := own_reads hown5; have frnY := Reads.grownD2 (fr2Y _ _ _) hg5 T.ltX; have T := ((T.alloc _).alloc _).drew.left hown5 hg5 hat5; have d2 := (HB2.out.below T.below hsv); have z0 := d2.cell 0; have z1 := d2.cell 1; have f0 := d2.frozen 0; have f1 := d2.frozen 1; have hsz := d2.lt) | (refine step_append_any _ rfl (.tmp 82) (.tmp 84) _ (by rfl) _ 47 iX _ 4 32 Try.underlying22 hiX hz0X hz1X hz2X rfl (by omega) _ n _ (by rfl) ((T.alloc _).alloc _).drew.ownX _ _ 1 1 _ (by rfl) (Reads.drew (fr2X _ _ _ _ _ _)) (one_encL (a, b, c, d)) (by simp only [maxLen]; omega) (by omega) ((T.alloc _).alloc _).drew.base ?_; intro v5 w5 hown5 hg5 hat5; obtain ⟨A5, c5, rfl, hr5⟩ := own_reads hown5; have frnY := Reads.grownD1 ((fr1Y _ _).alloc1 _) hg5 T.ltX; have T := ((T.alloc _).alloc _).drew.left hown5 hg5 hat5; have d2 := (HB2.out.below T.below hsv); have z0 := d2.cell 0; have z1 := d2.cell 1; have f0 := d2.frozen 0; have f1 := d2.frozen 1; have hsz := d2.lt) | (refine step_append_any _ rfl (.tmp 82) (.tmp 84) _ (by rfl) _ 47 iX _ 4 32 Try.underlying22 hiX hz0X hz1X hz2X rfl (by omega) _ n _ (by rfl) (T.alloc _).ownX _ _ 1 1 _ (by rfl) (fr1X _ _ _ _ _) (one_encL (a, b, c, d)) (by simp only [maxLen]; omega) (by omega) (T.alloc _).base ?_; intro v5 w5 hown5 hg5 hat5; obtain ⟨A5, c5, rfl, hr5⟩ := own_reads hown5; have T := (T.alloc _).left hown5 hg5 hat5; have d2 := (HB2.out.below T.below hsv); have z0 := d2.cell 0; have z1 := d2.cell 1; have f0 := d2.frozen 0; have f1 := d2.frozen 1; have hsz := d2.lt) | (refine step_append_any _ rfl (.tmp 82) (.tmp 84) _ (by rfl) _ 47 iX _ 4 32 Try.underlying22 hiX hz0X hz1X hz2X rfl (by omega) _ n _ (by rfl) T.ownX _ _ 1 1 _ (by rfl) frnX (one_encL (a, b, c, d)) (by simp only [maxLen]; omega) (by omega) T.base ?_; intro v5 w5 hown5 hg5 hat5; obtain ⟨A5, c5, rfl, hr5⟩ := own_reads hown5; have T := T.left hown5 hg5 hat5; have d2 := (HB2.out.below T.below hsv); have z0 := d2.cell 0; have z1 := d2.cell 1; have f0 := d2.frozen 0; have f1 := d2.frozen 1; have hsz := d2.lt) | (refine step_append_any _ rfl (.tmp 86) (.tmp 89) _ (by rfl) _ 3 iY _ 1 8 Try.underlying28 hiY hz0Y hz1Y hz2Y rfl (by omega) _ n _ (by rfl) (T.alloc _).drew.ownY _ _ 1 1 _ (by rfl) (Reads.drew (fr1Y _ _)) oneI (by simp only [maxLen]; omega) (by omega) (T.alloc _).drew.base ?_; intro v6 w5 hown5 hg5 hat5; obtain ⟨A6, c6, rfl, hr5⟩ := own_reads hown5; have T := (T.alloc _).drew.right hown5 hg5 hat5; have d2 := (HB2.out.below T.below hsv); have z0 := d2.cell 0; have z1 := d2.cell 1; have f0 := d2.frozen 0; have f1 := d2.frozen 1; have hsz := d2.lt) | (refine step_append_any _ rfl (.tmp 86) (.tmp 89) _ (by rfl) _ 3 iY _ 1 8 Try.underlying28 hiY hz0Y hz1Y hz2Y rfl (by omega) _ n _ (by rfl) ((T.alloc _).alloc _).drew.ownY _ _ 1 1 _ (by rfl) (Reads.drew ((fr1Y _ _).alloc1 _)) oneI (by simp only [maxLen]; omega) (by omega) ((T.alloc _).alloc _).drew.base ?_; intro v6 w5 hown5 hg5 hat5; obtain ⟨A6, c6, rfl, hr5⟩ := own_reads hown5; have frnX := Reads.grownD2 (fr2X _ _ _ _ _ _) hg5 T.ltY; have T := ((T.alloc _).alloc _).drew.right hown5 hg5 hat5; have d2 := (HB2.out.below T.below hsv); have z0 := d2.cell 0; have z1 := d2.cell 1; have f0 := d2.frozen 0; have f1 := d2.frozen 1; have hsz := d2.lt) | (refine step_append_any _ rfl (.tmp 86) (.tmp 89) _ (by rfl) _ 3 iY _ 1 8 Try.underlying28 hiY hz0Y hz1Y hz2Y rfl (by omega) _ n _ (by rfl) ((T.alloc _).alloc _).drew.ownY _ _ 1 1 _ (by rfl) (Reads.drew (fr2Y _ _ _)) oneI (by simp only [maxLen]; omega) (by omega) ((T.alloc _).alloc _).drew.base ?_; intro v6 w5 hown5 hg5 hat5; obtain ⟨A6, c6, rfl, hr5⟩ := own_reads hown5; have frnX := Reads.grownD1 ((fr1X _ _ _ _ _).alloc1 _) hg5 T.ltY; have T := ((T.alloc _).alloc _).drew.right hown5 hg5 hat5; have d2 := (HB2.out.below T.below hsv); have z0 := d2.cell 0; have z1 := d2.cell 1; have f0 := d2.frozen 0; have f1 := d2.frozen 1; have hsz := d2.lt) | (refine step_append_any _ rfl (.tmp 86) (.tmp 89) _ (by rfl) _ 3 iY _ 1 8 Try.underlying28 hiY hz0Y hz1Y hz2Y rfl (by omega) _ n _ (by rfl) (T.alloc _).ownY _ _ 1 1 _ (by rfl) (fr1Y _ _) oneI (by simp only [maxLen]; omega) (by omega) (T.alloc _).base ?_; intro v6 w5 hown5 hg5 hat5; obtain ⟨A6, c6, rfl, hr5⟩ := own_reads hown5; have T := (T.alloc _).right hown5 hg5 hat5; have d2 := (HB2.out.below T.below hsv); have z0 := d2.cell 0; have z1 := d2.cell 1; have f0 := d2.frozen 0; have f1 := d2.frozen 1; have hsz := d2.lt) | (refine step_append_any _ rfl (.tmp 86) (.tmp 89) _ (by rfl) _ 3 iY _ 1 8 Try.underlying28 hiY hz0Y hz1Y hz2Y rfl (by omega) _ n _ (by rfl) T.ownY _ _ 1 1 _ (by rfl) frnY oneI (by simp only [maxLen]; omega) (by omega) T.base ?_; intro v6 w5 hown5 hg5 hat5; obtain ⟨A6, c6, rfl, hr5⟩ := own_reads hown5; have T := T.right hown5 hg5 hat5; have d2 := (HB2.out.below T.below hsv); have z0 := d2.cell 0; have z1 := d2.cell 1; have f0 := d2.frozen 0; have f1 := d2.frozen 1; have hsz := d2.lt))
              all_goals
                obtain ⟨r0, r1⟩ := set2_facts d2 (.slice A5 (n + 1) c5) (.slice A6 (n + 1) c6)
                have R0 := Lib.hid r0; have R1 := Lib.hid r1
                clear r0 r1
                go_wp2_with fail
                have hz : ∀ {V : Value}, (∀ g, V.ownBlock = some g → v.heap.size ≤ g ∧ g < w5.heap.size) → V.ownBlock ≠ some (w.heap.size + 1 + 1) := fun h e => by
                  have h1 := (h _ e).1
                  omega
                have o5 := ownsRow_setCell_other (ownsRow_setCell_other T.ownX (a := ⟨w.heap.size + 1 + 1, 0, none⟩) (hz T.ownX.lt) (.slice A5 (n + 1) c5)) (a := ⟨w.heap.size + 1 + 1, 1, none⟩) (hz T.ownX.lt) (.slice A6 (n + 1) c6)
                have o6 := ownsRow_setCell_other (ownsRow_setCell_other T.ownY (a := ⟨w.heap.size + 1 + 1, 0, none⟩) (hz T.ownY.lt) (.slice A5 (n + 1) c5)) (a := ⟨w.heap.size + 1 + 1, 1, none⟩) (hz T.ownY.lt) (.slice A6 (n + 1) c6)
                rw [show cellsL (lots l) ++ encL (a, b, c, d) = cellsL (lots m') from by rw [HML.out]; simp [lots, cellsL]] at o5
                rw [show cellsI (lefts l) ++ [Value.int .i64 c] = cellsI (lefts m') from by rw [HML.out]; simp [lefts, cellsI]] at o6
                exact bodyPost_ret (v := .tuple #[.agg #[.slice A5 (n + 1) c5, .slice A6 (n + 1) c6], .int .i64 0]) (by simp [results, Try.results29, go_sem, R0.out, R1.out]) rfl ⟨A5, n + 1, c5, A6, c6, rfl, RefS.mk (Reads.of_own o5) (Reads.of_own o6), from_own T.ownX (by omega), from_own T.ownY (by omega), set2_below _ _ (HWV.out.trans (T.below.mono (by omega))) (by omega), .inl (Nat.succ_pos _)⟩
            · have _tok : True := trivial
              have hpos : decide ((0 : Int) < (n : Int)) = true := decide_eq_true (by omega)
              have hpos2 : decide (0 < n) = true := decide_eq_true (by omega)
              have hdl : decide (d < l[j].1.2.2.2) = false := decide_eq_false fun e => hord ⟨fun e0 => by subst e0; exact absurd hj (Nat.not_lt_zero _), by rw [hla]; exact e⟩
              have hwr : IntKind.i64.wrap ((n : Int) - 1) = j := by rw [show ((n : Int) - 1) = j from by omega]; exact IntWalk.i64_in _ (by omega)
              have hwr2 : (n : Int) - 1 = j := by omega
              have hj0 : (0 : Int) ≤ j := by omega
              have hj1 : (j : Int) < (n : Int) := by omega
              have hn0 : 0 < n := by omega
              clear hord hnj
              go_enter Try.func29, Try.ntmps29
              go_wp2_with fail
              refine (rfind_any _ A' n k k' l a (-1) _ HR.out (by omega) HP.out).mono ?_
              rintro e w1 ⟨rfl, hb1⟩
              have HW1 := Lib.hid (HBW.out.trans (hb1.mono HBW.out.size))
              have d0 := HB0.out.below hb1 HB0.out.lt; have d1 := HB1.out.below hb1 HB1.out.lt; have d2 := HB2.out.below hb1 HB2.out.lt
              have HRR := Lib.hid (HR.out.below hb1)
              obtain ⟨bb, off, hAe, hbl, hcc⟩ := HRR.out.lot hn0
              subst hAe
              have d3 := (hcc j hj).2.2.2
              clear hcc
              clear a0 a1 b0 b1 b2 b3 hb1
              have a0 := d0.cell 0; have a1 := d0.cell 1; have b0 := d1.cell 0; have b1 := d1.cell 1; have b2 := d1.cell 2; have b3 := d1.cell 3
              have D0 := Lib.hid d0; have D1 := Lib.hid d1; have D2 := Lib.hid d2
              clear d0 d1 d2
              go_wp2_with fail
              go_quiet (fail)
              go_wp2_with fail
              have e0 := D0.out.drewN nq; have e1' := D1.out.drewN nq; have e2' := D2.out.drewN nq
              have eR : RefS (w1.drewN nq) (some ⟨bb, off, none⟩) n A' l := HRR.out
              have eW : Below w.heap.size w (w1.drewN nq) := below_drewN HW1.out nq
              have hs0 := D2.out.lt
              have hsv : w.heap.size + 1 + 1 < (w1.drewN nq).heap.size := hs0
              clear a0 a1 b0 b1 b2 b3 D0 D1 D2 HRR HW1 hs0
              clear d3 hwr hwr2 hdl hpos hpos2
              generalize w1.drewN nq = v at *
              have HB0 := Lib.hid e0; have HB1 := Lib.hid e1'; have HB2 := Lib.hid e2'; have HRV := Lib.hid eR; have HWV := Lib.hid eW
              clear e0 e1' e2' eR eW
              have KR : ∀ {u : World}, Below v.heap.size v u → Reads u v.heap.size 4 (some ⟨bb, off, none⟩) n (cellsL (lots l)) ∧ Reads u v.heap.size 1 A' n (cellsI (lefts l)) := fun h => ⟨HRV.out.1.below h, HRV.out.2.1.below h⟩
              have KS : ∀ {u : World}, Below v.heap.size v u → u.cell? ⟨w.heap.size, 0, none⟩ = some (.slice (some ⟨bb, off, none⟩) n k) ∧ u.cell? ⟨w.heap.size, 1, none⟩ = some (.slice A' n k') := fun h =>
                ⟨(HB0.out.below h (by omega)).cell 0, (HB0.out.below h (by omega)).cell 1⟩
              have KT : ∀ {u : World}, Below (w.heap.size + 1 + 1) v u → u.cell? ⟨w.heap.size + 1, 0, none⟩ = some (.int .i64 a) ∧ u.cell? ⟨w.heap.size + 1, 1, none⟩ = some (.int .i64 b) ∧ u.cell? ⟨w.heap.size + 1, 2, none⟩ = some (.int .i64 c) ∧ u.cell? ⟨w.heap.size + 1, 3, none⟩ = some (.int .i64 d) := fun h =>
                ⟨(HB1.out.below h (by omega)).cell 0, (HB1.out.below h (by omega)).cell 1, (HB1.out.below h (by omega)).cell 2, (HB1.out.below h (by omega)).cell 3⟩
              have T : Two v.heap.size v v.drew 47 4 (.slice none 0 0) 0 [] 3 1 (.slice none 0 0) 0 [] := Two.drew ⟨Below.refl _ _, Nat.le_refl _, World.ownsRow_nil _ _ _ _, World.ownsRow_nil _ _ _ _, fun g h => by simp [Value.ownBlock] at h⟩
              go_region_held3 (fun u => u.cell? ⟨w.heap.size, 0, none⟩ = some (.slice (some ⟨bb, off, none⟩) n k) ∧ u.cell? ⟨w.heap.size, 1, none⟩ = some (.slice A' n k'))
                (first | exact KS T.below)
                (first | (refine step_append_any _ rfl (.tmp 74) (.tmp 76) _ (by rfl) _ 47 iX _ 4 32 Try.underlying22 hiX hz0X hz1X hz2X rfl (by omega) _ 0 _ (by rfl) T.ownX _ (some ⟨bb, off, none⟩) n k _ (by rfl) (KR T.below).1 (one_cellsL _) (by simp only [maxLen]; omega) (by omega) T.base ?_; intro v5 w5 hown5 hg5 hat5; simp only [Nat.zero_add, List.nil_append] at hown5; obtain ⟨A5, c5, rfl, hr5⟩ := own_reads hown5; have T := T.left hown5 hg5 hat5) | (refine step_append_any _ rfl (.tmp 78) (.tmp 80) _ (by rfl) _ 3 iY _ 1 8 Try.underlying28 hiY hz0Y hz1Y hz2Y rfl (by omega) _ 0 _ (by rfl) T.ownY _ A' n k' _ (by rfl) (KR T.below).2 (one_cellsI _) (by simp only [maxLen]; omega) (by omega) T.base ?_; intro v6 w5 hown5 hg5 hat5; simp only [Nat.zero_add, List.nil_append] at hown5; obtain ⟨A6, c6, rfl, hr5⟩ := own_reads hown5; have T := T.right hown5 hg5 hat5))
              all_goals
                go_wp2_with fail
                have hle := Nat.le_of_lt hsv
                have T4 := KT (T.below.mono hle)
                obtain ⟨b0, b1, b2, b3⟩ := T4
                go_region_held3 (fun u => u.cell? ⟨w.heap.size + 1, 0, none⟩ = some (.int .i64 a) ∧ u.cell? ⟨w.heap.size + 1, 1, none⟩ = some (.int .i64 b) ∧ u.cell? ⟨w.heap.size + 1, 2, none⟩ = some (.int .i64 c) ∧ u.cell? ⟨w.heap.size + 1, 3, none⟩ = some (.int .i64 d))
                  (first | exact KT (T.below.mono hle) | exact KT (T.drew.below.mono hle) | exact KT ((T.alloc _).below.mono hle) | exact KT ((T.alloc _).drew.below.mono hle) | exact KT (((T.alloc _).alloc _).drew.below.mono hle) | exact KT (set2_below _ _ (T.below.mono hle) (Nat.le_refl _)))
                  (first | (refine step_append_any _ rfl (.tmp 82) (.tmp 84) _ (by rfl) _ 47 iX _ 4 32 Try.underlying22 hiX hz0X hz1X hz2X rfl (by omega) _ n _ (by rfl) (T.alloc _).drew.ownX _ _ 1 1 _ (by rfl) (Reads.drew (fr1X _ _ _ _ _)) (one_encL (a, b, c, d)) (by simp only [maxLen]; omega) (by omega) (T.alloc _).drew.base ?_; intro v5 w5 hown5 hg5 hat5; obtain ⟨A5, c5, rfl, hr5⟩ := own_reads hown5; have T := (T.alloc _).drew.left hown5 hg5 hat5; have d2 := (HB2.out.below T.below hsv); have z0 := d2.cell 0; have z1 := d2.cell 1; have f0 := d2.frozen 0; have f1 := d2.frozen 1; have hsz := d2.lt) | (refine step_append_any _ rfl (.tmp 82) (.tmp 84) _ (by rfl) _ 47 iX _ 4 32 Try.underlying22 hiX hz0X hz1X hz2X rfl (by omega) _ n _ (by rfl) ((T.alloc _).alloc _).drew.ownX _ _ 1 1 _ (by rfl) (Reads.drew ((fr1X _ _ _ _ _).alloc1 _)) (one_encL (a, b, c, d)) (by simp only [maxLen]; omega) (by omega) ((T.alloc _).alloc _).drew.base ?_; intro v5 w5 hown5 hg5 hat5; obtain ⟨A5, c5, rfl, hr5⟩ := own_reads hown5; have frnY := Reads.grownD2 (fr2Y _ _ _) hg5 T.ltX; have T := ((T.alloc _).alloc _).drew.left hown5 hg5 hat5; have d2 := (HB2.out.below T.below hsv); have z0 := d2.cell 0; have z1 := d2.cell 1; have f0 := d2.frozen 0; have f1 := d2.frozen 1; have hsz := d2.lt) | (refine step_append_any _ rfl (.tmp 82) (.tmp 84) _ (by rfl) _ 47 iX _ 4 32 Try.underlying22 hiX hz0X hz1X hz2X rfl (by omega) _ n _ (by rfl) ((T.alloc _).alloc _).drew.ownX _ _ 1 1 _ (by rfl) (Reads.drew (fr2X _ _ _ _ _ _)) (one_encL (a, b, c, d)) (by simp only [maxLen]; omega) (by omega) ((T.alloc _).alloc _).drew.base ?_; intro v5 w5 hown5 hg5 hat5; obtain ⟨A5, c5, rfl, hr5⟩ := own_reads hown5; have frnY := Reads.grownD1 ((fr1Y _ _).alloc1 _) hg5 T.ltX; have T := ((T.alloc _).alloc _).drew.left hown5 hg5 hat5; have d2 := (HB2.out.below T.below hsv); have z0 := d2.cell 0; have z1 := d2.cell 1; have f0 := d2.frozen 0; have f1 := d2.frozen 1; have hsz := d2.lt) | (refine step_append_any _ rfl (.tmp 82) (.tmp 84) _ (by rfl) _ 47 iX _ 4 32 Try.underlying22 hiX hz0X hz1X hz2X rfl (by omega) _ n _ (by rfl) (T.alloc _).ownX _ _ 1 1 _ (by rfl) (fr1X _ _ _ _ _) (one_encL (a, b, c, d)) (by simp only [maxLen]; omega) (by omega) (T.alloc _).base ?_; intro v5 w5 hown5 hg5 hat5; obtain ⟨A5, c5, rfl, hr5⟩ := own_reads hown5; have T := (T.alloc _).left hown5 hg5 hat5; have d2 := (HB2.out.below T.below hsv); have z0 := d2.cell 0; have z1 := d2.cell 1; have f0 := d2.frozen 0; have f1 := d2.frozen 1; have hsz := d2.lt) | (refine step_append_any _ rfl (.tmp 82) (.tmp 84) _ (by rfl) _ 47 iX _ 4 32 Try.underlying22 hiX hz0X hz1X hz2X rfl (by omega) _ n _ (by rfl) T.ownX _ _ 1 1 _ (by rfl) frnX (one_encL (a, b, c, d)) (by simp only [maxLen]; omega) (by omega) T.base ?_; intro v5 w5 hown5 hg5 hat5; obtain ⟨A5, c5, rfl, hr5⟩ := own_reads hown5; have T := T.left hown5 hg5 hat5; have d2 := (HB2.out.below T.below hsv); have z0 := d2.cell 0; have z1 := d2.cell 1; have f0 := d2.frozen 0; have f1 := d2.frozen 1; have hsz := d2.lt) | (refine step_append_any _ rfl (.tmp 86) (.tmp 89) _ (by rfl) _ 3 iY _ 1 8 Try.underlying28 hiY hz0Y hz1Y hz2Y rfl (by omega) _ n _ (by rfl) (T.alloc _).drew.ownY _ _ 1 1 _ (by rfl) (Reads.drew (fr1Y _ _)) oneI (by simp only [maxLen]; omega) (by omega) (T.alloc _).drew.base ?_; intro v6 w5 hown5 hg5 hat5; obtain ⟨A6, c6, rfl, hr5⟩ := own_reads hown5; have T := (T.alloc _).drew.right hown5 hg5 hat5; have d2 := (HB2.out.below T.below hsv); have z0 := d2.cell 0; have z1 := d2.cell 1; have f0 := d2.frozen 0; have f1 := d2.frozen 1; have hsz := d2.lt) | (refine step_append_any _ rfl (.tmp 86) (.tmp 89) _ (by rfl) _ 3 iY _ 1 8 Try.underlying28 hiY hz0Y hz1Y hz2Y rfl (by omega) _ n _ (by rfl) ((T.alloc _).alloc _).drew.ownY _ _ 1 1 _ (by rfl) (Reads.drew ((fr1Y _ _).alloc1 _)) oneI (by simp only [maxLen]; omega) (by omega) ((T.alloc _).alloc _).drew.base ?_; intro v6 w5 hown5 hg5 hat5; obtain ⟨A6, c6, rfl, hr5⟩ := own_reads hown5; have frnX := Reads.grownD2 (fr2X _ _ _ _ _ _) hg5 T.ltY; have T := ((T.alloc _).alloc _).drew.right hown5 hg5 hat5; have d2 := (HB2.out.below T.below hsv); have z0 := d2.cell 0; have z1 := d2.cell 1; have f0 := d2.frozen 0; have f1 := d2.frozen 1; have hsz := d2.lt) | (refine step_append_any _ rfl (.tmp 86) (.tmp 89) _ (by rfl) _ 3 iY _ 1 8 Try.underlying28 hiY hz0Y hz1Y hz2Y rfl (by omega) _ n _ (by rfl) ((T.alloc _).alloc _).drew.ownY _ _ 1 1 _ (by rfl) (Reads.drew (fr2Y _ _ _)) oneI (by simp only [maxLen]; omega) (by omega) ((T.alloc _).alloc _).drew.base ?_; intro v6 w5 hown5 hg5 hat5; obtain ⟨A6, c6, rfl, hr5⟩ := own_reads hown5; have frnX := Reads.grownD1 ((fr1X _ _ _ _ _).alloc1 _) hg5 T.ltY; have T := ((T.alloc _).alloc _).drew.right hown5 hg5 hat5; have d2 := (HB2.out.below T.below hsv); have z0 := d2.cell 0; have z1 := d2.cell 1; have f0 := d2.frozen 0; have f1 := d2.frozen 1; have hsz := d2.lt) | (refine step_append_any _ rfl (.tmp 86) (.tmp 89) _ (by rfl) _ 3 iY _ 1 8 Try.underlying28 hiY hz0Y hz1Y hz2Y rfl (by omega) _ n _ (by rfl) (T.alloc _).ownY _ _ 1 1 _ (by rfl) (fr1Y _ _) oneI (by simp only [maxLen]; omega) (by omega) (T.alloc _).base ?_; intro v6 w5 hown5 hg5 hat5; obtain ⟨A6, c6, rfl, hr5⟩ := own_reads hown5; have T := (T.alloc _).right hown5 hg5 hat5; have d2 := (HB2.out.below T.below hsv); have z0 := d2.cell 0; have z1 := d2.cell 1; have f0 := d2.frozen 0; have f1 := d2.frozen 1; have hsz := d2.lt) | (refine step_append_any _ rfl (.tmp 86) (.tmp 89) _ (by rfl) _ 3 iY _ 1 8 Try.underlying28 hiY hz0Y hz1Y hz2Y rfl (by omega) _ n _ (by rfl) T.ownY _ _ 1 1 _ (by rfl) frnY oneI (by simp only [maxLen]; omega) (by omega) T.base ?_; intro v6 w5 hown5 hg5 hat5; obtain ⟨A6, c6, rfl, hr5⟩ := own_reads hown5; have T := T.right hown5 hg5 hat5; have d2 := (HB2.out.below T.below hsv); have z0 := d2.cell 0; have z1 := d2.cell 1; have f0 := d2.frozen 0; have f1 := d2.frozen 1; have hsz := d2.lt))
              all_goals
                obtain ⟨r0, r1⟩ := set2_facts d2 (.slice A5 (n + 1) c5) (.slice A6 (n + 1) c6)
                have R0 := Lib.hid r0; have R1 := Lib.hid r1
                clear r0 r1
                go_wp2_with fail
                have hz : ∀ {V : Value}, (∀ g, V.ownBlock = some g → v.heap.size ≤ g ∧ g < w5.heap.size) → V.ownBlock ≠ some (w.heap.size + 1 + 1) := fun h e => by
                  have h1 := (h _ e).1
                  omega
                have o5 := ownsRow_setCell_other (ownsRow_setCell_other T.ownX (a := ⟨w.heap.size + 1 + 1, 0, none⟩) (hz T.ownX.lt) (.slice A5 (n + 1) c5)) (a := ⟨w.heap.size + 1 + 1, 1, none⟩) (hz T.ownX.lt) (.slice A6 (n + 1) c6)
                have o6 := ownsRow_setCell_other (ownsRow_setCell_other T.ownY (a := ⟨w.heap.size + 1 + 1, 0, none⟩) (hz T.ownY.lt) (.slice A5 (n + 1) c5)) (a := ⟨w.heap.size + 1 + 1, 1, none⟩) (hz T.ownY.lt) (.slice A6 (n + 1) c6)
                rw [show cellsL (lots l) ++ encL (a, b, c, d) = cellsL (lots m') from by rw [HML.out]; simp [lots, cellsL]] at o5
                rw [show cellsI (lefts l) ++ [Value.int .i64 c] = cellsI (lefts m') from by rw [HML.out]; simp [lefts, cellsI]] at o6
                exact bodyPost_ret (v := .tuple #[.agg #[.slice A5 (n + 1) c5, .slice A6 (n + 1) c6], .int .i64 0]) (by simp [results, Try.results29, go_sem, R0.out, R1.out]) rfl ⟨A5, n + 1, c5, A6, c6, rfl, RefS.mk (Reads.of_own o5) (Reads.of_own o6), from_own T.ownX (by omega), from_own T.ownY (by omega), set2_below _ _ (HWV.out.trans (T.below.mono (by omega))) (by omega), .inl (Nat.succ_pos _)⟩
        · obtain rfl : x = 6 := HX.out.symm.trans (addE_twice HL5.out HOK.out HK.out hi)
          have HML := Lib.hid (show m' = l from HM.out.symm.trans (addL_no (by rw [HX.out]; decide)))
          have HP := Lib.hid (posI_some hi)
          have hi0 : (0 : Int) ≤ i := by omega
          clear hi
          go_enter Try.func29, Try.ntmps29
          go_wp2_with fail
          refine (rfind_any A A' n k k' l a i _ HR.out (by omega) HP.out).mono ?_
          rintro e w1 ⟨rfl, hb1⟩
          have HW1 := Lib.hid (HBW.out.trans (hb1.mono HBW.out.size))
          have d0 := HB0.out.below hb1 HB0.out.lt; have d2 := HB2.out.below hb1 HB2.out.lt
          clear a0 a1 b0 b1 b2 b3 hb1
          have a0 := d0.cell 0; have a1 := d0.cell 1; have z0 := d2.cell 0; have z1 := d2.cell 1; have f0 := d2.frozen 0; have f1 := d2.frozen 1
          have hsz := d2.lt
          obtain ⟨r0, r1⟩ := set2_facts d2 (.slice A n k) (.slice A' n k')
          have R0 := Lib.hid r0; have R1 := Lib.hid r1
          clear r0 r1
          go_wp2_with fail
          exact bodyPost_ret (v := .tuple #[.agg #[.slice A n k, .slice A' n k'], .int .i64 6]) (by simp [results, Try.results29, go_sem, R0.out, R1.out]) rfl (refE_no HH.out (set2_below _ _ HW1.out (by omega)) HML.out rfl)
end Go.Proofs.Ythbmofijdhfeeaa
