/- The walk of ChargeKeeps. -/
import Derived.Test.YtakjdffebpcmnaaLawsB
import Derived.Deep.QuietTactic
import Derived.BigQuiet
namespace Go.Proofs.Ytakjdffebpcmnaa
open Go.RowKit Go.Maps
theorem reads_pre {w : World} {B size n1 n : Nat} {A : Option Addr} {xs ys : List Value} (h : Reads w B size A n1 (xs ++ ys)) (hx : xs.length = n * size) (hn : n ≤ n1) : Reads w B size A n xs :=
  ⟨hx, fun h0 => by
    obtain ⟨ad, e, hb, hc⟩ := h.2 (by omega)
    exact ⟨ad, e, hb, fun j u hu => hc j u (by rw [List.getElem?_append_left (List.getElem?_eq_some_iff.1 hu).1]; exact hu)⟩⟩
theorem cellsP_app (l m : List P3) : cellsP (l ++ m) = cellsP l ++ cellsP m := by simp [cellsP]
set_option maxHeartbeats 8000000 in
set_option maxRecDepth 10000 in
theorem chargeKeeps_walk (A : Option Addr) (n c : Nat) (l : List P3) (pa pb pc : Int) (w : World) (hr : Reads w w.heap.size 3 A n (cellsP l)) (hnc : n ≤ c) (hc : c ≤ maxLen) :
    Calls Try.prog 8 #[.agg #[.slice A n c], .agg #[.int .i64 pa, .int .i64 pb, .int .i64 pc]] w (AwakePost w) := by
  have hn' : n ≤ 9223372036854775807 := Nat.le_trans hnc hc
  clear hnc hc
  have hb0 := (Blk.new w 51 #[.slice A n c]).alloc (.cells #[.int .i64 pa, .int .i64 pb, .int .i64 pc] 23)
  have hb1 : Blk ((w.alloc (.cells #[.slice A n c] 51)).alloc (.cells #[.int .i64 pa, .int .i64 pb, .int .i64 pc] 23)) (w.heap.size + 1) 23 #[.int .i64 pa, .int .i64 pb, .int .i64 pc] := by simpa using Blk.new (w.alloc (.cells #[.slice A n c] 51)) 23 #[.int .i64 pa, .int .i64 pb, .int .i64 pc]
  have hal : Below w.heap.size w ((w.alloc (.cells #[.slice A n c] 51)).alloc (.cells #[.int .i64 pa, .int .i64 pb, .int .i64 pc] 23)) := ((Below.refl _ _).alloc (Nat.le_refl _) _).alloc (by simp) _
  have hr0 := (hr.below hal).more hal.size
  have HAL := Lib.hid hal
  by_cases h40 : n ≤ 40
  · have hn1 : n ≤ 100000 := by omega
    have HLEN : Hid (l.length = n) := Lib.hid (recs_len hr encP_len (by omega))
    obtain ⟨x, hx⟩ : ∃ x, payE l (pa, pb, pc) = x := ⟨_, rfl⟩
    obtain ⟨m, hm⟩ : ∃ m, payL l (pa, pb, pc) = m := ⟨_, rfl⟩
    obtain ⟨⟨qa, qb, qc⟩, hq⟩ : ∃ q, paidP l pa = q := ⟨_, rfl⟩
    obtain ⟨y, hy⟩ : ∃ y, paidB l pa = y := ⟨_, rfl⟩
    have HX := Lib.hid hx; have HM := Lib.hid hm; have HQ := Lib.hid hq; have HY := Lib.hid hy
    have HR0 := Lib.hid hr0
    by_cases h0 : x = 0
    · subst h0
      have E := eq23_refl pa pb pc
      have HM2 : Hid (payE m (pa, pb, pc) = 0 ∧ payL m (pa, pb, pc) = m ∧ paidP m pa = (pa, pb, pc) ∧ paidB m pa = true) := Lib.hid (by
        rw [← hm]
        have h1 := payL_has hx
        have h2 := paid_had h1.1 h1.2
        exact ⟨payE_again hx, payL_again hx, h2.1, h2.2⟩)
      have hcs : (y = true ∧ m = l ∧ (qa, qb, qc) = (pa, pb, pc)) ∨ (y = false ∧ m = l ++ [(pa, pb, pc)]) := by
        by_cases hp : (pa, pb, pc) ∈ l
        · have h2 := paid_had (payE_ok hx).2.1 hp
          exact .inl ⟨hy.symm.trans h2.2, hm.symm.trans (payL_had hx hp), hq.symm.trans h2.1⟩
        · have h2 := paid_not (payE_ok hx).2.1 hp
          exact .inr ⟨hy.symm.trans h2.2, hm.symm.trans (payL_new hx hp)⟩
      clear hx hm hq hy hr0 hal hr
      rcases hcs with ⟨rfl, rfl, hqq⟩ | ⟨rfl, rfl⟩
      · injection hqq with e1 e2; injection e2 with e2 e3; subst e1 e2 e3
        go_enter Try.func8, Try.ntmps8
        go_wp2_with fail
        refine (pay_at A n c _ _ qa qb qc 0 _ HR0.out hn1 HX.out HM.out).mono ?_
        rintro e w2 ⟨A2, n2, c2, rfl, hr2, hc2, hq2⟩
        obtain rfl : n2 = n := by have := recs_len hr2 encP_len (by omega); have := HLEN.out; omega
        have hsl := Lib.hid hr2
        have B0 := (hb0.below hq2 hb0.lt).alloc (.cells #[.slice A2 n2 c2] 51)
        have B1 := (hb1.below hq2 hb1.lt).alloc (.cells #[.slice A2 n2 c2] 51)
        have B5 := Blk.new w2 51 #[.slice A2 n2 c2]
        have b2 := hq2.alloc hq2.size (.cells #[.slice A2 n2 c2] 51)
        have r2 := (HR0.out.below b2).more b2.size
        have s2 := (hr2.alloc (Nat.le_refl _) (.cells #[.slice A2 n2 c2] 51)).more (B' := (w2.alloc (.cells #[.slice A2 n2 c2] 51)).heap.size) (by simp)
        have bw2 := HAL.out.trans (b2.mono HAL.out.size)
        have a0 := B0.cell 0; have a1 := B1.cell 0; have a2 := B1.cell 1; have a3 := B1.cell 2
        clear hb0 hb1 hr2 b2
        go_wp2_with fail
        refine (paid28_at A n2 c _ qa qa qb qc true _ r2 hn1 HQ.out HY.out).mono ?_
        rintro e w3 ⟨rfl, hq3⟩
        have b3 := hq3.alloc hq3.size (.cells #[.int .i64 qa, .int .i64 qb, .int .i64 qc] 23)
        have B0' := B0.below b3 B0.lt; have B1' := B1.below b3 B1.lt; have B5' := B5.below b3 B5.lt
        have B7 := Blk.new w3 23 #[.int .i64 qa, .int .i64 qb, .int .i64 qc]
        have r3 := (r2.below b3).more b3.size
        have s3 := (s2.below b3).more b3.size
        have bw3 := bw2.trans (b3.mono bw2.size)
        clear a0 a1 a2 a3
        have a0 := B0'.cell 0; have a1 := B1'.cell 0; have a2 := B1'.cell 1; have a3 := B1'.cell 2; have a5 := B5'.cell 0
        have a7 := B7.cell 0; have a8 := B7.cell 1; have a9 := B7.cell 2
        clear B0 B1 B5 r2 s2 b3 bw2
        have hcc : (n2 : Int) ≤ c2 := by omega
        have hn0 : (0 : Int) ≤ n2 := by omega
        have hnn : ((n2 : Int) != n2) = false := by simp
        go_wp2_with fail
        go_quiet ((go_at_call 30; exact Calls.quiet_of (same_at_ _ _ n2 _ n2 _ _ _ true _ _ _ s3 r3 hn1 (sameP_refl _))))
        go_wp2_with fail
        refine (pay_at A2 n2 c2 _ _ qa qb qc 0 _ (s3.drewN nq) (by omega) HM2.out.1 HM2.out.2.1).mono ?_
        rintro e w5 ⟨A5, n5, c5, rfl, hr5, _, hq5⟩
        have b5 := hq5.alloc hq5.size (.cells #[.slice A5 n5 c5] 51)
        have B1 := (B1'.drewN nq).below b5 B1'.lt; have B5 := (B5'.drewN nq).below b5 B5'.lt
        have B10 := Blk.new w5 51 #[.slice A5 n5 c5]
        have s5 := ((s3.drewN nq).below b5).more b5.size
        have t5 := (hr5.alloc (Nat.le_refl _) (.cells #[.slice A5 n5 c5] 51)).more (B' := (w5.alloc (.cells #[.slice A5 n5 c5] 51)).heap.size) (by simp)
        have bw5 := (below_drewN bw3 nq).trans (b5.mono (below_drewN bw3 nq).size)
        have hn5 : n5 ≤ 100000 := by have h1 := recs_len hr5 encP_len (by omega); have h2 := recs_len s3 encP_len (by omega); omega
        clear a0 a1 a2 a3 a5 a7 a8 a9 B0' B1' B5' r3 s3 hr5 b5 bw3
        have a1 := B1.cell 0; have a2 := B1.cell 1; have a3 := B1.cell 2; have a5 := B5.cell 0
        go_wp2_with fail
        refine (paid28_at A2 n2 c2 _ qa qa qb qc true _ s5 (by omega) HM2.out.2.2.1 HM2.out.2.2.2).mono ?_
        rintro e w6 ⟨rfl, hq6⟩
        have b6 := hq6.alloc hq6.size (.cells #[.int .i64 qa, .int .i64 qb, .int .i64 qc] 23)
        have B1' := B1.below b6 B1.lt; have B5' := B5.below b6 B5.lt; have B10' := B10.below b6 B10.lt
        have B12 := Blk.new w6 23 #[.int .i64 qa, .int .i64 qb, .int .i64 qc]
        have s6 := (s5.below b6).more b6.size
        have t6 := (t5.below b6).more b6.size
        have bw6 := bw5.trans (b6.mono bw5.size)
        clear a1 a2 a3 a5 s5 t5 b6 bw5
        have a5 := B5'.cell 0; have a10 := B10'.cell 0
        go_wp2_with fail
        refine (same_at_ A5 A2 n5 c5 n2 c2 _ _ true _ _ _ t6 s6 hn5 (sameP_refl _)).mono ?_
        rintro e w7 ⟨rfl, q, rfl⟩
        have B1q := B1'.drewN q; have B12q := B12.drewN q
        have d1 := B1q.cell 0; have d2 := B1q.cell 1; have d3 := B1q.cell 2; have d4 := B12q.cell 0; have d5 := B12q.cell 1; have d6 := B12q.cell 2
        go_wp2_with fail
        refine (awake_any _).mono ?_
        rintro e w8 ⟨rfl, hq8⟩
        go_wp2_with fail
        go_ret
        exact ⟨rfl, (below_drewN bw6 q).trans (hq8.mono (below_drewN bw6 q).size)⟩
      · go_enter Try.func8, Try.ntmps8
        go_wp2_with fail
        refine (pay_at A n c _ _ pa pb pc 0 _ HR0.out hn1 HX.out HM.out).mono ?_
        rintro e w2 ⟨A2, n2, c2, rfl, hr2, hc2, hq2⟩
        obtain rfl : n2 = n + 1 := by have h1 := recs_len hr2 encP_len (by omega); rw [List.length_append, HLEN.out] at h1; exact h1.symm
        have hsl := Lib.hid hr2
        have B0 := (hb0.below hq2 hb0.lt).alloc (.cells #[.slice A2 (n + 1) c2] 51)
        have B1 := (hb1.below hq2 hb1.lt).alloc (.cells #[.slice A2 (n + 1) c2] 51)
        have B5 := Blk.new w2 51 #[.slice A2 (n + 1) c2]
        have b2 := hq2.alloc hq2.size (.cells #[.slice A2 (n + 1) c2] 51)
        have r2 := (HR0.out.below b2).more b2.size
        have s2 := (hr2.alloc (Nat.le_refl _) (.cells #[.slice A2 (n + 1) c2] 51)).more (B' := (w2.alloc (.cells #[.slice A2 (n + 1) c2] 51)).heap.size) (by simp)
        have bw2 := HAL.out.trans (b2.mono HAL.out.size)
        have a0 := B0.cell 0; have a1 := B1.cell 0; have a2 := B1.cell 1; have a3 := B1.cell 2
        clear hb0 hb1 hr2 b2
        go_wp2_with fail
        refine (paid28_at A n c _ pa qa qb qc false _ r2 hn1 HQ.out HY.out).mono ?_
        rintro e w3 ⟨rfl, hq3⟩
        have b3 := hq3.alloc hq3.size (.cells #[.int .i64 qa, .int .i64 qb, .int .i64 qc] 23)
        have B0' := B0.below b3 B0.lt; have B1' := B1.below b3 B1.lt; have B5' := B5.below b3 B5.lt
        have B7 := Blk.new w3 23 #[.int .i64 qa, .int .i64 qb, .int .i64 qc]
        have r3 := (r2.below b3).more b3.size
        have s3 := (s2.below b3).more b3.size
        have bw3 := bw2.trans (b3.mono bw2.size)
        clear a0 a1 a2 a3
        have a0 := B0'.cell 0; have a1 := B1'.cell 0; have a2 := B1'.cell 1; have a3 := B1'.cell 2; have a5 := B5'.cell 0
        have a7 := B7.cell 0; have a8 := B7.cell 1; have a9 := B7.cell 2
        clear B0 B1 B5 r2 s2 b3 bw2
        have hcc : (n : Int) ≤ c2 := by omega
        have hn0 : (0 : Int) ≤ n := by omega
        have hnn : (((n + 1 : Nat) : Int) != (n : Int) + 1) = false := by simp
        have hnn2 : ((n : Int) + 1 != (n : Int) + 1) = false := by simp
        have s3' := reads_pre (ys := cellsP [(pa, pb, pc)]) (n := n) (xs := cellsP l) (by rw [← cellsP_app]; exact s3) r3.1 (by omega)
        go_wp2_with fail
        go_quiet ((go_at_call 30; exact Calls.quiet_of (same_at_ _ _ n _ n _ _ _ true _ _ _ s3' r3 hn1 (sameP_refl _))))
        go_wp2_with fail
        refine (pay_at A2 (n + 1) c2 _ _ pa pb pc 0 _ (s3.drewN nq) (by omega) HM2.out.1 HM2.out.2.1).mono ?_
        rintro e w5 ⟨A5, n5, c5, rfl, hr5, _, hq5⟩
        have b5 := hq5.alloc hq5.size (.cells #[.slice A5 n5 c5] 51)
        have B1 := (B1'.drewN nq).below b5 B1'.lt; have B5 := (B5'.drewN nq).below b5 B5'.lt
        have B10 := Blk.new w5 51 #[.slice A5 n5 c5]
        have s5 := ((s3.drewN nq).below b5).more b5.size
        have t5 := (hr5.alloc (Nat.le_refl _) (.cells #[.slice A5 n5 c5] 51)).more (B' := (w5.alloc (.cells #[.slice A5 n5 c5] 51)).heap.size) (by simp)
        have bw5 := (below_drewN bw3 nq).trans (b5.mono (below_drewN bw3 nq).size)
        have hn5 : n5 ≤ 100000 := by have h1 := recs_len hr5 encP_len (by omega); have h2 := recs_len s3 encP_len (by omega); omega
        clear a0 a1 a2 a3 a5 a7 a8 a9 B0' B1' B5' r3 s3 hr5 b5 bw3
        have a1 := B1.cell 0; have a2 := B1.cell 1; have a3 := B1.cell 2; have a5 := B5.cell 0
        go_wp2_with fail
        refine (paid28_at A2 (n + 1) c2 _ pa pa pb pc true _ s5 (by omega) HM2.out.2.2.1 HM2.out.2.2.2).mono ?_
        rintro e w6 ⟨rfl, hq6⟩
        have b6 := hq6.alloc hq6.size (.cells #[.int .i64 pa, .int .i64 pb, .int .i64 pc] 23)
        have B1' := B1.below b6 B1.lt; have B5' := B5.below b6 B5.lt; have B10' := B10.below b6 B10.lt
        have B12 := Blk.new w6 23 #[.int .i64 pa, .int .i64 pb, .int .i64 pc]
        have s6 := (s5.below b6).more b6.size
        have t6 := (t5.below b6).more b6.size
        have bw6 := bw5.trans (b6.mono bw5.size)
        clear a1 a2 a3 a5 s5 t5 b6 bw5
        have a5 := B5'.cell 0; have a10 := B10'.cell 0
        go_wp2_with fail
        refine (same_at_ A5 A2 n5 c5 (n + 1) c2 _ _ true _ _ _ t6 s6 hn5 (sameP_refl _)).mono ?_
        rintro e w7 ⟨rfl, q, rfl⟩
        have B1q := B1'.drewN q; have B12q := B12.drewN q
        have d1 := B1q.cell 0; have d2 := B1q.cell 1; have d3 := B1q.cell 2; have d4 := B12q.cell 0; have d5 := B12q.cell 1; have d6 := B12q.cell 2
        go_wp2_with fail
        refine (awake_any _).mono ?_
        rintro e w8 ⟨rfl, hq8⟩
        go_wp2_with fail
        go_ret
        exact ⟨rfl, (below_drewN bw6 q).trans (hq8.mono (below_drewN bw6 q).size)⟩
    · have HMN : Hid (m = []) := Lib.hid (by rw [← hm]; exact payL_no (by rw [hx]; exact h0))
      obtain rfl := HMN.out
      have hcs : x = 1 ∨ (x = 21 ∧ y = true) := by
        rcases payE_no (by rw [hx]; exact h0) with h | h | h
        · exact .inl (hx.symm.trans h.1)
        · obtain ⟨z, hz, h1, _⟩ := clash_mem h.2
          exact .inr ⟨hx.symm.trans h.1, hy.symm.trans (paid_ride hz h1).1⟩
        · have := HLEN.out; omega
      clear hx hm hq hy hr0 hal hr h0
      rcases hcs with rfl | ⟨rfl, rfl⟩
      · go_enter Try.func8, Try.ntmps8
        go_wp2_with fail
        refine (pay_at A n c _ _ pa pb pc 1 _ HR0.out hn1 HX.out HM.out).mono ?_
        rintro e w2 ⟨A2, n2, c2, rfl, hr2, hc2, hq2⟩
        obtain rfl : n2 = 0 := by have := recs_len hr2 encP_len (by omega); simpa using this.symm
        have B0 := (hb0.below hq2 hb0.lt).alloc (.cells #[.slice A2 0 c2] 51)
        have B1 := (hb1.below hq2 hb1.lt).alloc (.cells #[.slice A2 0 c2] 51)
        have B5 := Blk.new w2 51 #[.slice A2 0 c2]
        have b2 := hq2.alloc hq2.size (.cells #[.slice A2 0 c2] 51)
        have r2 := (HR0.out.below b2).more b2.size
        have bw2 := HAL.out.trans (b2.mono HAL.out.size)
        have a0 := B0.cell 0; have a1 := B1.cell 0; have a2 := B1.cell 1; have a3 := B1.cell 2
        clear hb0 hb1 hr2 b2
        go_wp2_with fail
        refine (paid28_at A n c _ pa qa qb qc y _ r2 hn1 HQ.out HY.out).mono ?_
        rintro e w3 ⟨rfl, hq3⟩
        have b3 := hq3.alloc hq3.size (.cells #[.int .i64 qa, .int .i64 qb, .int .i64 qc] 23)
        have B5' := B5.below b3 B5.lt
        have bw3 := bw2.trans (b3.mono bw2.size)
        clear a0 a1 a2 a3
        have a5 := B5'.cell 0
        go_wp2_with fail
        refine (awake_any _).mono ?_
        rintro e w8 ⟨rfl, hq8⟩
        go_wp2_with fail
        go_ret
        exact ⟨rfl, bw3.trans (hq8.mono bw3.size)⟩
      · go_enter Try.func8, Try.ntmps8
        go_wp2_with fail
        refine (pay_at A n c _ _ pa pb pc 21 _ HR0.out hn1 HX.out HM.out).mono ?_
        rintro e w2 ⟨A2, n2, c2, rfl, hr2, hc2, hq2⟩
        obtain rfl : n2 = 0 := by have := recs_len hr2 encP_len (by omega); simpa using this.symm
        have B0 := (hb0.below hq2 hb0.lt).alloc (.cells #[.slice A2 0 c2] 51)
        have B1 := (hb1.below hq2 hb1.lt).alloc (.cells #[.slice A2 0 c2] 51)
        have B5 := Blk.new w2 51 #[.slice A2 0 c2]
        have b2 := hq2.alloc hq2.size (.cells #[.slice A2 0 c2] 51)
        have r2 := (HR0.out.below b2).more b2.size
        have bw2 := HAL.out.trans (b2.mono HAL.out.size)
        have a0 := B0.cell 0; have a1 := B1.cell 0; have a2 := B1.cell 1; have a3 := B1.cell 2
        clear hb0 hb1 hr2 b2
        go_wp2_with fail
        refine (paid28_at A n c _ pa qa qb qc true _ r2 hn1 HQ.out HY.out).mono ?_
        rintro e w3 ⟨rfl, hq3⟩
        have b3 := hq3.alloc hq3.size (.cells #[.int .i64 qa, .int .i64 qb, .int .i64 qc] 23)
        have B5' := B5.below b3 B5.lt
        have bw3 := bw2.trans (b3.mono bw2.size)
        clear a0 a1 a2 a3
        have a5 := B5'.cell 0
        go_wp2_with fail
        refine (awake_any _).mono ?_
        rintro e w8 ⟨rfl, hq8⟩
        go_wp2_with fail
        go_ret
        exact ⟨rfl, bw3.trans (hq8.mono bw3.size)⟩
  · clear hr0 hr hal
    have hgt : 40 < n := by omega
    have c0 := hb0.cell 0
    go_enter Try.func8, Try.ntmps8
    go_wp2_with fail
    refine (awake_any _).mono ?_
    rintro e w8 ⟨rfl, hq8⟩
    go_wp2_with fail
    go_ret
    exact ⟨rfl, HAL.out.trans (hq8.mono HAL.out.size)⟩
end Go.Proofs.Ytakjdffebpcmnaa
