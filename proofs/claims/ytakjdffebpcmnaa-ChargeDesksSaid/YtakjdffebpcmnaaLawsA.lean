/- The walks of few and do, and of the statements ChargePays, ChargeNone. -/
import Derived.Test.YtakjdffebpcmnaaAwake
import Derived.Test.YtakjdffebpcmnaaRefPay
import Derived.Test.YtakjdffebpcmnaaPlain
namespace Go.Proofs.Ytakjdffebpcmnaa
open Go.RowKit Go.Maps
set_option maxHeartbeats 1000000 in
theorem few_at (A : Option Addr) (n c : Nat) (x : Bool) (w : World) (hn : n ≤ maxLen) (h : decide (n ≤ 40 ∨ (256 ≤ n ∧ n ≤ 260)) = x) : Calls Try.prog 25 #[.agg #[.slice A n c]] w (RetB w x) := by
  have hn' : n ≤ 9223372036854775807 := hn
  clear hn
  have hcs : (n ≤ 40 ∧ x = true) ∨ (40 < n ∧ n < 256 ∧ x = false) ∨ (40 < n ∧ 256 ≤ n ∧ n ≤ 260 ∧ x = true) ∨ (40 < n ∧ 256 ≤ n ∧ 260 < n ∧ x = false) := by
    rcases x with _ | _
    · have := of_decide_eq_false h
      rcases Nat.lt_or_ge n 256 with h1 | h1
      · exact .inr (.inl ⟨by omega, h1, rfl⟩)
      · exact .inr (.inr (.inr ⟨by omega, h1, by omega, rfl⟩))
    · rcases of_decide_eq_true h with h1 | ⟨h1, h2⟩
      · exact .inl ⟨h1, rfl⟩
      · exact .inr (.inr (.inl ⟨by omega, h1, h2, rfl⟩))
  clear h
  rcases hcs with ⟨h1, rfl⟩ | ⟨h1, h2, rfl⟩ | ⟨h1, h2, h3, rfl⟩ | ⟨h1, h2, h3, rfl⟩
  all_goals
    go_enter Try.func25, Try.ntmps25
    go_wp2_with fail
    go_ret
    exact ⟨ret_bool (by first | rfl | (simp; omega)), (Below.refl _ _).alloc (Nat.le_refl _) _⟩
theorem pay27_at (A : Option Addr) (n c : Nat) (l m : List P3) (pa pb pc x : Int) (w : World) (hr : Reads w w.heap.size 3 A n (cellsP l)) (hn : n ≤ 100000) (h1 : payE l (pa, pb, pc) = x) (h2 : payL l (pa, pb, pc) = m) :
    Calls Try.prog 27 #[.agg #[.slice A n c], .agg #[.int .i64 pa, .int .i64 pb, .int .i64 pc]] w (RetBank w m x) := by
  rw [← h1, ← h2]; exact pay27 A n c l pa pb pc w hr hn
theorem paid28_at (A : Option Addr) (n c : Nat) (l : List P3) (r a b d : Int) (x : Bool) (w : World) (hr : Reads w w.heap.size 3 A n (cellsP l)) (hn : n ≤ 100000) (h1 : paidP l r = (a, b, d)) (h2 : paidB l r = x) :
    Calls Try.prog 28 #[.agg #[.slice A n c], .int .i64 r] w fun e w' => e = .returned (.tuple #[.agg #[.int .i64 a, .int .i64 b, .int .i64 d], .bool x]) ∧ Below w.heap.size w w' := by
  have := paid28 A n c l r w hr hn
  unfold RetPB at this
  rw [h1, h2] at this; exact this
theorem paid29_at (A : Option Addr) (n c : Nat) (l : List P3) (r a b d : Int) (x : Bool) (w : World) (hr : Reads w w.heap.size 3 A n (cellsP l)) (hn : n ≤ 100000) (h1 : paidP l r = (a, b, d)) (h2 : paidB l r = x) :
    Calls Try.prog 29 #[.agg #[.slice A n c], .int .i64 r] w fun e w' => e = .returned (.tuple #[.agg #[.int .i64 a, .int .i64 b, .int .i64 d], .bool x]) ∧ Below w.heap.size w w' := by
  have := paid29 A n c l r w hr hn
  unfold RetPB at this
  rw [h1, h2] at this; exact this
theorem sameP_refl (l : List P3) : sameB l l = true := decide_eq_true rfl
theorem eq23_refl (a b c : Int) (w : World) : (Op.equalIn 10000 23 (.agg #[.int .i64 a, .int .i64 b, .int .i64 c]) (.agg #[.int .i64 a, .int .i64 b, .int .i64 c])).run Try.prog w = .ok true w := by rw [eq23, decide_eq_true rfl]

set_option maxHeartbeats 4000000 in
set_option maxRecDepth 10000 in
theorem chargePays_walk (A : Option Addr) (n c : Nat) (l : List P3) (pa pb pc ride : Int) (w : World) (hr : Reads w w.heap.size 3 A n (cellsP l)) (hnc : n ≤ c) (hc : c ≤ maxLen) :
    Calls Try.prog 7 #[.agg #[.slice A n c], .agg #[.int .i64 pa, .int .i64 pb, .int .i64 pc], .int .i64 ride] w (AwakePost w) := by
  have hn := Nat.le_trans hnc hc
  have HN := Lib.hid hn
  clear hn hnc hc
  have hb0 := (Blk.new w 51 #[.slice A n c]).alloc (.cells #[.int .i64 pa, .int .i64 pb, .int .i64 pc] 23)
  have hb1 : Blk ((w.alloc (.cells #[.slice A n c] 51)).alloc (.cells #[.int .i64 pa, .int .i64 pb, .int .i64 pc] 23)) (w.heap.size + 1) 23 #[.int .i64 pa, .int .i64 pb, .int .i64 pc] := by simpa using Blk.new (w.alloc (.cells #[.slice A n c] 51)) 23 #[.int .i64 pa, .int .i64 pb, .int .i64 pc]
  have hal : Below w.heap.size w ((w.alloc (.cells #[.slice A n c] 51)).alloc (.cells #[.int .i64 pa, .int .i64 pb, .int .i64 pc] 23)) := ((Below.refl _ _).alloc (Nat.le_refl _) _).alloc (by simp) _
  have hr0 := (hr.below hal).more hal.size
  by_cases hf : n ≤ 40 ∨ (256 ≤ n ∧ n ≤ 260)
  · have hn1 : n ≤ 100000 := by omega
    have HF := Lib.hid (decide_eq_true hf)
    obtain ⟨x, hx⟩ : ∃ x, payE l (pa, pb, pc) = x := ⟨_, rfl⟩
    obtain ⟨m, hm⟩ : ∃ m, payL l (pa, pb, pc) = m := ⟨_, rfl⟩
    obtain ⟨⟨qa, qb, qc⟩, hq⟩ : ∃ q, paidP l ride = q := ⟨_, rfl⟩
    obtain ⟨y, hy⟩ : ∃ y, paidB l ride = y := ⟨_, rfl⟩
    have HX := Lib.hid hx; have HM := Lib.hid hm; have HQ := Lib.hid hq; have HY := Lib.hid hy
    have hlen : m.length ≤ l.length + 1 := by
      rw [← hm]
      by_cases h0 : payE l (pa, pb, pc) = 0
      · exact (payL_len h0).2
      · rw [payL_no h0]; simp
    have HLEN : Hid (m.length ≤ 100000) := Lib.hid (by have := recs_len hr encP_len (by omega); omega)
    have E := eq23_refl qa qb qc
    clear hx hm hq hy hf hlen
    have HR0 := Lib.hid hr0
    have HAL := Lib.hid hal
    clear hr0 hal hr
    go_enter Try.func7, Try.ntmps7
    go_wp2_with fail
    refine (few_at A n c true _ HN.out HF.out).mono ?_
    rintro e w1 ⟨rfl, hq1⟩
    have B0 := hb0.below hq1 hb0.lt
    have B1 := hb1.below hq1 hb1.lt
    have r1 := (HR0.out.below hq1).more hq1.size
    have bw1 := HAL.out.trans (hq1.mono HAL.out.size)
    have a0 := B0.cell 0; have a1 := B1.cell 0; have a2 := B1.cell 1; have a3 := B1.cell 2
    clear hb0 hb1
    go_wp2_with fail
    refine (pay_at A n c l m pa pb pc x _ r1 hn1 HX.out HM.out).mono ?_
    rintro e w2 ⟨A2, n2, c2, rfl, hr2, _, hq2⟩
    have B0' := (B0.below hq2 B0.lt).alloc (.cells #[.slice A2 n2 c2] 51)
    have B1' := (B1.below hq2 B1.lt).alloc (.cells #[.slice A2 n2 c2] 51)
    have B7 := Blk.new w2 51 #[.slice A2 n2 c2]
    have b2 := hq2.alloc hq2.size (.cells #[.slice A2 n2 c2] 51)
    have r2 := (r1.below b2).more b2.size
    have s2 := (hr2.alloc (Nat.le_refl _) (.cells #[.slice A2 n2 c2] 51)).more (B' := (w2.alloc (.cells #[.slice A2 n2 c2] 51)).heap.size) (by simp)
    have bw2 := bw1.trans (b2.mono bw1.size)
    clear a0 a1 a2 a3
    have a0 := B0'.cell 0; have a1 := B1'.cell 0; have a2 := B1'.cell 1; have a3 := B1'.cell 2
    clear B0 B1 r1 hr2 b2 bw1
    go_wp2_with fail
    refine (pay27_at A n c l m pa pb pc x _ r2 hn1 HX.out HM.out).mono ?_
    rintro e w3 ⟨A3, n3, c3, rfl, hr3, _, hq3⟩
    have B0 := (B0'.below hq3 B0'.lt).alloc (.cells #[.slice A3 n3 c3] 51)
    have B7' := (B7.below hq3 B7.lt).alloc (.cells #[.slice A3 n3 c3] 51)
    have B9 := Blk.new w3 51 #[.slice A3 n3 c3]
    have b3 := hq3.alloc hq3.size (.cells #[.slice A3 n3 c3] 51)
    have r3 := (r2.below b3).more b3.size
    have s3 := (s2.below b3).more b3.size
    have t3 := (hr3.alloc (Nat.le_refl _) (.cells #[.slice A3 n3 c3] 51)).more (B' := (w3.alloc (.cells #[.slice A3 n3 c3] 51)).heap.size) (by simp)
    have bw3 := bw2.trans (b3.mono bw2.size)
    clear a0 a1 a2 a3
    have a0 := B0.cell 0
    clear B0' B1' r2 s2 hr3 b3 bw2 B7
    go_wp2_with fail
    refine (paid28_at A n c l ride qa qb qc y _ r3 hn1 HQ.out HY.out).mono ?_
    rintro e w4 ⟨rfl, hq4⟩
    have b4 := hq4.alloc hq4.size (.cells #[.int .i64 qa, .int .i64 qb, .int .i64 qc] 23)
    have B0' := B0.below b4 B0.lt
    have B7 := B7'.below b4 B7'.lt
    have B9' := B9.below b4 B9.lt
    have B11 := Blk.new w4 23 #[.int .i64 qa, .int .i64 qb, .int .i64 qc]
    have r4 := (r3.below b4).more b4.size
    have s4 := (s3.below b4).more b4.size
    have t4 := (t3.below b4).more b4.size
    have bw4 := bw3.trans (b4.mono bw3.size)
    clear a0
    have a0 := B0'.cell 0
    clear B0 B7' B9 r3 s3 t3 b4 bw3
    go_wp2_with fail
    refine (paid29_at A n c l ride qa qb qc y _ r4 hn1 HQ.out HY.out).mono ?_
    rintro e w5 ⟨rfl, hq5⟩
    have b5 := hq5.alloc hq5.size (.cells #[.int .i64 qa, .int .i64 qb, .int .i64 qc] 23)
    have B7' := B7.below b5 B7.lt
    have B9 := B9'.below b5 B9'.lt
    have B11' := B11.below b5 B11.lt
    have B13 := Blk.new w5 23 #[.int .i64 qa, .int .i64 qb, .int .i64 qc]
    have s5 := (s4.below b5).more b5.size
    have t5 := (t4.below b5).more b5.size
    have bw5 := bw4.trans (b5.mono bw4.size)
    clear a0
    have a7 := B7'.cell 0
    have a9 := B9.cell 0
    clear B0' B7 B9' r4 s4 t4 b5 bw4
    have hn2 : n2 ≤ 100000 := by have := recs_len s5 encP_len (by omega); have := HLEN.out; omega
    go_wp2_with fail
    refine (same_at_ A2 A3 n2 c2 n3 c3 m m true _ _ _ s5 t5 hn2 (sameP_refl m)).mono ?_
    rintro e w6 ⟨rfl, q, rfl⟩
    have b11 := B11'.drewN q
    have b13 := B13.drewN q
    have e1 := b11.cell 0; have e2 := b11.cell 1; have e3 := b11.cell 2
    have f1 := b13.cell 0; have f2 := b13.cell 1; have f3 := b13.cell 2
    go_wp2_with fail
    refine (awake_any _).mono ?_
    rintro e w7 ⟨rfl, hq7⟩
    go_wp2_with fail
    go_ret
    exact ⟨rfl, (below_drewN bw5 q).trans (hq7.mono (below_drewN bw5 q).size)⟩
  · have HF := Lib.hid (decide_eq_false hf)
    clear hf hr0 hr
    have HAL := Lib.hid hal
    clear hal
    go_enter Try.func7, Try.ntmps7
    go_wp2_with fail
    refine (few_at A n c false _ HN.out HF.out).mono ?_
    rintro e w1 ⟨rfl, hq1⟩
    go_wp2_with fail
    refine (awake_any _).mono ?_
    rintro e w2 ⟨rfl, hq2⟩
    go_wp2_with fail
    go_ret
    have b1 := HAL.out.trans (hq1.mono HAL.out.size)
    exact ⟨rfl, b1.trans (hq2.mono b1.size)⟩
end Go.Proofs.Ytakjdffebpcmnaa
