/- The walks of BudgetHolds and BudgetParts. -/
import Derived.Test.YtdfmngnhmiemgaaAwake
import Derived.Test.YtdfmngnhmiemgaaParts
namespace Go.Proofs.Ytdfmngnhmiemgaa
open Go.RowKit Go.Maps
theorem touch_at (a b day : Int) (x : Bool) (w : World) (h0 : 0 ≤ day) (h1 : day ≤ 49709) (h : touchB a b day = x) :
    Calls Try.prog 19 #[.agg #[.int .i64 a, .int .i64 b], .int .i64 day] w (RetB w x) := by
  rw [← h]; exact touches_any a b day w h0 h1
theorem sameB_refl' (l : List Sp) : sameB l l = true := decide_eq_true rfl
theorem spendL_len' {l : List Sp} {lim a b units : Int} (_hl : l.length ≤ 60) : (spendL l lim a b units).length ≤ 600 := by
  by_cases h : spendE l lim a b units = 0
  · have := (check_iff.1 (spend_out h)).2.2.1; omega
  · rw [spendL_bad h]; simp

set_option maxHeartbeats 2000000 in
set_option maxRecDepth 10000 in
theorem budgetParts_walk (A : Option Addr) (n c : Nat) (l : List Sp) (lim a b units day : Int) (w : World) (hr : Reads w w.heap.size 2 A n (cellsS l)) (hnc : n ≤ c) (hc : c ≤ maxLen) :
    Calls Try.prog 7 #[.slice A n c, .int .i64 lim, .agg #[.int .i64 a, .int .i64 b], .int .i64 units, .int .i64 day] w (AwakePost w) := by
  have hn := Nat.le_trans hnc hc
  have HN := Lib.hid hn
  have hn' : n ≤ 9223372036854775807 := hn
  clear hnc hc hn
  by_cases hbad : 60 < n ∨ day < 0 ∨ 49709 < day ∨ day * 86400 < a ∨ b < day * 86400
  · have hcs : 60 < n ∨ (n ≤ 60 ∧ day < 0) ∨ (n ≤ 60 ∧ 0 ≤ day ∧ 49709 < day) ∨ (n ≤ 60 ∧ 0 ≤ day ∧ day ≤ 49709 ∧ day * 86400 < a) ∨ (n ≤ 60 ∧ 0 ≤ day ∧ day ≤ 49709 ∧ a ≤ day * 86400 ∧ b < day * 86400) := by omega
    clear hbad
    rcases hcs with g1 | ⟨g1, g2⟩ | ⟨g1, g2, g3⟩ | ⟨g1, g2, g3, g4⟩ | ⟨g1, g2, g3, g4, g5⟩
    all_goals
      go_enter Try.func7, Try.ntmps7
      go_wp2_with (go_at_call 9; refine (awake_any _).mono ?_; rintro e w1 ⟨rfl, hb⟩)
      go_ret
      exact ⟨rfl, (below_alloc (Below.refl _ _) (Nat.le_refl _) _).trans (hb.mono (by simp))⟩
  have g1 : n ≤ 60 := by omega
  have g2 : 0 ≤ day := by omega
  have g3 : day ≤ 49709 := by omega
  have g4 : a ≤ day * 86400 := by omega
  have g5 : day * 86400 ≤ b := by omega
  clear hbad
  have HL : Hid (l.length ≤ 60) := Lib.hid (by have := recs_len hr encS_len (by omega); omega)
  have HIF := Lib.hid (parts_iff (l := l) (lim := lim) (u := units) g2 g4 g5)
  have HEQ : Hid (spendE l lim a b units = 0 → _) := Lib.hid (parts_eq (l := l) (lim := lim) (u := units) g2 g4 g5)
  have hB0 := Blk.new w 30 #[.int .i64 a, .int .i64 b]
  have hr0 : Reads (w.alloc (.cells #[.int .i64 a, .int .i64 b] 30)) (w.alloc (.cells #[.int .i64 a, .int .i64 b] 30)).heap.size 2 A n (cellsS l) := (hr.alloc (Nat.le_refl _) _).more (by simp)
  have HR0 := Lib.hid hr0
  have HB0 := Lib.hid hB0
  clear hr0 hB0
  obtain ⟨l1, hl1⟩ : ∃ l1, spendL l lim a (day * 86400) units = l1 := ⟨_, rfl⟩
  obtain ⟨x, hx⟩ : ∃ x, spendE l lim a b units = x := ⟨_, rfl⟩
  obtain ⟨y, hy⟩ : ∃ x, spendE l lim a (day * 86400) units = x := ⟨_, rfl⟩
  obtain ⟨z, hz⟩ : ∃ x, spendE l1 lim (day * 86400) b units = x := ⟨_, rfl⟩
  have HX := Lib.hid hx
  have HY := Lib.hid hy
  have HZ := Lib.hid hz
  have HL1 := Lib.hid hl1
  have hif : x = 0 ↔ y = 0 ∧ z = 0 := by rw [← hx, ← hy, ← hz, ← hl1]; exact HIF.out
  have HIF2 := Lib.hid hif
  clear hx hy hz hl1 hif
  by_cases h0 : x = 0
  · obtain ⟨hy0, hz0⟩ := HIF2.out.1 h0
    have HP : Hid (spendL l lim a b units = spendL l1 lim (day * 86400) b units) := Lib.hid (by rw [← HL1.out]; exact HEQ.out (HX.out.trans h0))
    subst h0 hy0 hz0
    go_enter Try.func7, Try.ntmps7
    go_wp2_with fail
    refine (spend_at A n c l _ lim a b units 0 _ HR0.out HN.out HX.out rfl).mono ?_
    rintro e w1 ⟨A1, n1, c1, rfl, hq1, _, hb1⟩
    have hB1 := HB0.out.below hb1 (by simp)
    have hr1 := (HR0.out.below hb1).more hb1.size
    have c10 := hB1.cell 0
    have c11 := hB1.cell 1
    go_wp2_with fail
    refine (spend_at A n c l l1 lim a (day * 86400) units 0 w1 hr1 HN.out HY.out HL1.out).mono ?_
    rintro e w2 ⟨A2, n2, c2, rfl, hq2, _, hb2⟩
    have hB2 := hB1.below hb2 hB1.lt
    have c20 := hB2.cell 0
    have c21 := hB2.cell 1
    go_wp2_with fail
    refine (spend_at A2 n2 c2 l1 _ lim (day * 86400) b units 0 w2 hq2 ?_ HZ.out rfl).mono ?_
    · have h1 := recs_len hq2 encS_len (by omega); have h2 := spendL_len' (lim := lim) (a := a) (b := day * 86400) (units := units) HL.out; rw [HL1.out] at h2; unfold maxLen; omega
    rintro e w3 ⟨A3, n3, c3, rfl, hq3, _, hb3⟩
    have hb13 := hb2.trans (hb3.mono hb2.size)
    have hq1' := (hq1.below hb13).more hb13.size
    rw [HP.out] at hq1'
    go_wp2_with fail
    refine (same_at_ A1 A3 n1 c1 n3 c3 _ _ true _ _ w3 hq1' hq3 ?_ (sameB_refl' _)).mono ?_
    · have h1 := recs_len hq1 encS_len (by omega); have h2 := spendL_len' (lim := lim) (a := a) (b := b) (units := units) HL.out; omega
    rintro e w4 ⟨rfl, q, rfl⟩
    go_wp2_with fail
    refine (awake_any _).mono ?_
    rintro e w5 ⟨rfl, hb5⟩
    go_wp2_with fail
    go_ret
    have b1 : Below w.heap.size w w1 := (below_alloc (Below.refl _ _) (Nat.le_refl _) _).trans (hb1.mono (by simp))
    have b3 : Below w.heap.size w w3 := b1.trans (hb13.mono b1.size)
    exact ⟨rfl, (below_drewN b3 q).trans (hb5.mono b3.size)⟩
  · have hx1 := ne0_t h0
    have HE : Hid (spendL l lim a b units = []) := Lib.hid (spendL_bad (by rw [HX.out]; exact h0))
    by_cases hy0 : y = 0
    · have hz0 : z ≠ 0 := fun e => h0 (HIF2.out.2 ⟨hy0, e⟩)
      have hz1 := ne0_t hz0
      subst hy0
      clear h0 hz0
      go_enter Try.func7, Try.ntmps7
      go_wp2_with fail
      refine (spend_at A n c l [] lim a b units x _ HR0.out HN.out HX.out HE.out).mono ?_
      rintro e w1 ⟨A1, n1, c1, rfl, hq1, _, hb1⟩
      obtain rfl : n1 = 0 := (recs_len hq1 encS_len (by omega)).symm
      have hB1 := HB0.out.below hb1 (by simp)
      have hr1 := (HR0.out.below hb1).more hb1.size
      have c10 := hB1.cell 0
      have c11 := hB1.cell 1
      go_wp2_with fail
      refine (spend_at A n c l l1 lim a (day * 86400) units 0 w1 hr1 HN.out HY.out HL1.out).mono ?_
      rintro e w2 ⟨A2, n2, c2, rfl, hq2, _, hb2⟩
      have hB2 := hB1.below hb2 hB1.lt
      have c20 := hB2.cell 0
      have c21 := hB2.cell 1
      go_wp2_with fail
      refine (spend_at A2 n2 c2 l1 _ lim (day * 86400) b units z w2 hq2 ?_ HZ.out rfl).mono ?_
      · have h1 := recs_len hq2 encS_len (by omega); have h2 := spendL_len' (lim := lim) (a := a) (b := day * 86400) (units := units) HL.out; rw [HL1.out] at h2; unfold maxLen; omega
      rintro e w3 ⟨A3, n3, c3, rfl, hq3, _, hb3⟩
      have hb13 := hb2.trans (hb3.mono hb2.size)
      go_wp2_with fail
      refine (awake_any _).mono ?_
      rintro e w5 ⟨rfl, hb5⟩
      go_wp2_with fail
      go_ret
      have b1 : Below w.heap.size w w1 := (below_alloc (Below.refl _ _) (Nat.le_refl _) _).trans (hb1.mono (by simp))
      have b3 : Below w.heap.size w w3 := b1.trans (hb13.mono b1.size)
      exact ⟨rfl, b3.trans (hb5.mono b3.size)⟩
    · have hy1 := ne0_t hy0
      have HL2 : Hid (l1 = []) := Lib.hid (by rw [← HL1.out]; exact spendL_bad (by rw [HY.out]; exact hy0))
      clear h0 hy0
      go_enter Try.func7, Try.ntmps7
      go_wp2_with fail
      refine (spend_at A n c l [] lim a b units x _ HR0.out HN.out HX.out HE.out).mono ?_
      rintro e w1 ⟨A1, n1, c1, rfl, hq1, _, hb1⟩
      obtain rfl : n1 = 0 := (recs_len hq1 encS_len (by omega)).symm
      have hB1 := HB0.out.below hb1 (by simp)
      have hr1 := (HR0.out.below hb1).more hb1.size
      have c10 := hB1.cell 0
      have c11 := hB1.cell 1
      go_wp2_with fail
      refine (spend_at A n c l l1 lim a (day * 86400) units y w1 hr1 HN.out HY.out HL1.out).mono ?_
      rintro e w2 ⟨A2, n2, c2, rfl, hq2, _, hb2⟩
      have hB2 := hB1.below hb2 hB1.lt
      have c20 := hB2.cell 0
      have c21 := hB2.cell 1
      go_wp2_with fail
      refine (spend_at A2 n2 c2 l1 _ lim (day * 86400) b units z w2 hq2 ?_ HZ.out rfl).mono ?_
      · have h1 := recs_len hq2 encS_len (by omega); rw [HL2.out] at h1; simp at h1; unfold maxLen; omega
      rintro e w3 ⟨A3, n3, c3, rfl, hq3, _, hb3⟩
      have hb13 := hb2.trans (hb3.mono hb2.size)
      go_wp2_with fail
      refine (awake_any _).mono ?_
      rintro e w5 ⟨rfl, hb5⟩
      go_wp2_with fail
      go_ret
      have b1 : Below w.heap.size w w1 := (below_alloc (Below.refl _ _) (Nat.le_refl _) _).trans (hb1.mono (by simp))
      have b3 : Below w.heap.size w w3 := b1.trans (hb13.mono b1.size)
      exact ⟨rfl, b3.trans (hb5.mono b3.size)⟩

theorem reads_pre {w : World} {B size n1 n : Nat} {A : Option Addr} {xs ys : List Value} (h : Reads w B size A n1 (xs ++ ys)) (hx : xs.length = n * size) (hn : n ≤ n1) : Reads w B size A n xs :=
  ⟨hx, fun h0 => by
    obtain ⟨ad, e, hb, hc⟩ := h.2 (by omega)
    exact ⟨ad, e, hb, fun j u hu => hc j u (by rw [List.getElem?_append_left (List.getElem?_eq_some_iff.1 hu).1]; exact hu)⟩⟩
set_option maxHeartbeats 4000000 in
set_option maxRecDepth 10000 in
theorem budgetHolds_walk (A : Option Addr) (n c : Nat) (l : List Sp) (lim a b units day : Int) (w : World) (hr : Reads w w.heap.size 2 A n (cellsS l)) (hnc : n ≤ c) (hc : c ≤ maxLen) :
    Calls Try.prog 6 #[.slice A n c, .int .i64 lim, .agg #[.int .i64 a, .int .i64 b], .int .i64 units, .int .i64 day] w (AwakePost w) := by
  have hn := Nat.le_trans hnc hc
  have HN := Lib.hid hn
  have hn' : n ≤ 9223372036854775807 := hn
  clear hnc hc hn
  by_cases hbad : 60 < n ∨ day < 0 ∨ 49709 < day
  · have hcs : 60 < n ∨ (n ≤ 60 ∧ day < 0) ∨ (n ≤ 60 ∧ 0 ≤ day ∧ 49709 < day) := by omega
    clear hbad
    rcases hcs with g1 | ⟨g1, g2⟩ | ⟨g1, g2, g3⟩
    all_goals
      go_enter Try.func6, Try.ntmps6
      go_wp2_with (go_at_call 9; refine (awake_any _).mono ?_; rintro e w1 ⟨rfl, hb⟩)
      go_ret
      exact ⟨rfl, (below_alloc (Below.refl _ _) (Nat.le_refl _) _).trans (hb.mono (by simp))⟩
  have g1 : n ≤ 60 := by omega
  have g2 : 0 ≤ day := by omega
  have g3 : day ≤ 49709 := by omega
  clear hbad
  have HL : Hid (l.length = n) := Lib.hid (recs_len hr encS_len (by omega))
  have hB0 := Blk.new w 30 #[.int .i64 a, .int .i64 b]
  have hr0 : Reads (w.alloc (.cells #[.int .i64 a, .int .i64 b] 30)) (w.alloc (.cells #[.int .i64 a, .int .i64 b] 30)).heap.size 2 A n (cellsS l) := (hr.alloc (Nat.le_refl _) _).more (by simp)
  have HR0 := Lib.hid hr0
  have HB0 := Lib.hid hB0
  clear hr0 hB0
  obtain ⟨x, hx⟩ : ∃ x, spendE l lim a b units = x := ⟨_, rfl⟩
  have HX := Lib.hid hx
  clear hx
  by_cases h0 : x = 0
  · subst h0
    obtain ⟨L2, hL2⟩ : ∃ L2, spendL l lim a b units = L2 := ⟨_, rfl⟩
    have HL2 := Lib.hid hL2
    have HCO : Hid (checkE L2 lim = 0) := Lib.hid (by rw [← hL2]; exact spend_out HX.out)
    have HC : Hid (checkE l lim = 0) := Lib.hid (spend_inv HX.out).1
    have HSU : Hid (∀ d, sumTo L2 d = sumTo l d + if touchP a b d then units else 0) := Lib.hid (by rw [← hL2]; exact spend_sum HX.out)
    have HPR : Hid (∃ m, L2 = l ++ m) := Lib.hid (by obtain ⟨m, hm, _⟩ := spend_pre HX.out; exact ⟨m, hL2.symm.trans hm⟩)
    have HU : Hid (1 ≤ units ∧ units ≤ 1000000) := Lib.hid ⟨(spend_inv HX.out).2.2.2.2.1, (spend_inv HX.out).2.2.2.2.2.1⟩
    clear hL2
    go_enter Try.func6, Try.ntmps6
    go_wp2_with fail
    refine (spend_at A n c l L2 lim a b units 0 _ HR0.out HN.out HX.out HL2.out).mono ?_
    rintro e w1 ⟨A1, n1, c1, rfl, hq1, hcap, hb1⟩
    have HN1 : Hid (L2.length = n1) := Lib.hid (recs_len hq1 encS_len (by omega))
    have hn1 : n1 ≤ 512 := by have := (check_iff.1 HCO.out).2.2.1; have := HN1.out; omega
    have hnn : n ≤ n1 := by
      obtain ⟨m, hm⟩ := HPR.out
      have h1 := HN1.out
      rw [hm, List.length_append, HL.out] at h1
      omega
    have hnn' : (n : Int) ≤ n1 := by omega
    have hd1 : decide (n1 < n) = false := decide_eq_false (by omega)
    have hd2 : decide ((n1 : Int) < (n : Int)) = false := decide_eq_false (by omega)
    have hnc1 : n ≤ c1 := by omega
    have hB1 := HB0.out.below hb1 (by simp)
    have hr1 := (HR0.out.below hb1).more hb1.size
    have hn1m : n1 ≤ maxLen := by unfold maxLen; omega
    have HN1M := Lib.hid hn1m
    clear hn1m
    go_wp2_with fail
    refine (check_at A1 n1 c1 L2 lim 0 w1 hq1 HN1M.out HCO.out).mono ?_
    rintro e w2 ⟨rfl, hb2⟩
    have hB2 := hB1.below hb2 hB1.lt
    have hr2 := (hr1.below hb2).more hb2.size
    have hq2 := (hq1.below hb2).more hb2.size
    have b1 : Below w.heap.size w w1 := (below_alloc (Below.refl _ _) (Nat.le_refl _) _).trans (hb1.mono (by simp))
    have b2 : Below w.heap.size w w2 := b1.trans (hb2.mono b1.size)
    have HR2 := Lib.hid hr2
    have HQ2 := Lib.hid hq2
    have HBB2 := Lib.hid hB2
    have HB := Lib.hid b2
    clear hr2 hq2 hB2 b1 b2 hr1 hq1 hB1 hb1 hb2
    go_wp2_with fail
    go_loopw [13] (fun i wr => ∃ k : Nat, k ≤ n1 + 1 ∧ i = .int .i64 ((k : Int) - 1) ∧ Below w2.heap.size w2 wr) (fun i _ => (n1 - intOf i).toNat)
    case atStart => exact ⟨0, by omega, by simp, Below.refl _ _⟩
    case round =>
      obtain ⟨k, hk, rfl, hbw⟩ := hrel
      have hr3 := (HR2.out.below hbw).more hbw.size
      have hq3 := (HQ2.out.below hbw).more hbw.size
      have HR3 := Lib.hid hr3
      have hB3 := HBB2.out.below hbw HBB2.out.lt
      have HB3 := Lib.hid hB3
      by_cases hlt : k < n1 + 1
      · have key : ∀ (d : Int), 0 ≤ d → d ≤ 49709 → (leftN l lim d = lim - sumTo l d ∧ leftE l lim d = 0) ∧ (leftN L2 lim d = lim - sumTo L2 d ∧ leftE L2 lim d = 0) ∧ sumTo L2 d ≤ lim ∧ 0 ≤ sumTo l d ∧ sumTo l d ≤ 1000000000 ∧ lim ≤ 1000000 ∧ 0 ≤ sumTo L2 d := fun d d1 d2 => by
          obtain ⟨c1, c2, c3, c4, c5⟩ := check_iff.1 HCO.out
          obtain ⟨_, _, e3, e4, _⟩ := check_iff.1 HC.out
          have h1 := left_ok HC.out d1 d2
          have h2 := left_ok HCO.out d1 d2
          have h3 := fits_day c5 c1 d
          have h4 := sum_bd e4 d
          have h5 := sum_bd c4 d
          exact ⟨⟨h1.2, h1.1⟩, ⟨h2.2, h2.1⟩, h3, h4.1, by omega, c2, h5.1⟩
        have KEY := Lib.hid key
        clear key
        have prep : ∃ d, 0 ≤ d ∧ d ≤ 49709 ∧ ((k = 0 ∧ day = d) ∨ (0 < k ∧ ∃ h : k - 1 < L2.length, L2[k - 1].1 = d)) := by
          rcases Nat.eq_zero_or_pos k with hk0 | hk0
          · exact ⟨day, g2, g3, .inl ⟨hk0, rfl⟩⟩
          · have hl : k - 1 < L2.length := by have := HN1.out; omega
            have := (check_iff.1 HCO.out).2.2.2.1 _ (List.getElem_mem hl)
            exact ⟨_, this.1, this.2.1, .inr ⟨hk0, hl, rfl⟩⟩
        obtain ⟨d, d1, d2, hcase⟩ := prep
        have HK := Lib.hid (KEY.out d d1 d2)
        obtain ⟨s1, hs1⟩ : ∃ s, sumTo l d = s := ⟨_, rfl⟩
        obtain ⟨s2, hs2⟩ : ∃ s, sumTo L2 d = s := ⟨_, rfl⟩
        have b3 := HK.out.2.2.1
        have b4 := HK.out.2.2.2.1
        have b5 := HK.out.2.2.2.2.1
        have b6 := HK.out.2.2.2.2.2.1
        have b7 := HK.out.2.2.2.2.2.2
        have hsu := HSU.out d
        rw [hs2] at b3 b7 hsu
        rw [hs1] at b4 b5 hsu
        have HS1 : Hid (leftN l lim d = lim - s1) := Lib.hid (by rw [← hs1]; exact HK.out.1.1)
        have HS2 : Hid (leftN L2 lim d = lim - s2) := Lib.hid (by rw [← hs2]; exact HK.out.2.1.1)
        have hu1 := HU.out.1
        have hu2 := HU.out.2
        obtain ⟨tb, htb⟩ : ∃ tb, touchB a b d = tb := ⟨_, rfl⟩
        have HTB := Lib.hid htb
        have hsx : (tb = true ∧ s2 = s1 + units) ∨ (tb = false ∧ s2 = s1) := by
          by_cases ht : touchP a b d
          · rw [if_pos ht] at hsu
            exact .inl ⟨by rw [← htb]; exact decide_eq_true ht, hsu⟩
          · rw [if_neg ht] at hsu
            exact .inr ⟨by rw [← htb]; exact decide_eq_false ht, by omega⟩
        have HSX := Lib.hid hsx
        have HC3 := Lib.hid hcase
        clear hs1 hs2 hsu htb hsx hcase
        have hwr := hbw.size
        have c30 := hB3.cell 0
        have c31 := hB3.cell 1
        have hB30 : w.heap.size < wr.heap.size := hB3.lt
        have C10a : Hid (∀ w', Below wr.heap.size wr w' → Calls Try.prog 10 #[.slice A n c, .int .i64 lim, .int .i64 d] w' (RetII w' (lim - s1) 0)) := Lib.hid fun w' hb => left_at A n c l lim d _ _ w' ((HR3.out.below hb).more hb.size) HN.out HS1.out HK.out.1.2
        have C10b : Hid (∀ w', Below wr.heap.size wr w' → Calls Try.prog 10 #[.slice A1 n1 c1, .int .i64 lim, .int .i64 d] w' (RetII w' (lim - s2) 0)) := Lib.hid fun w' hb => left_at A1 n1 c1 L2 lim d _ _ w' ((hq3.below hb).more hb.size) HN1M.out HS2.out HK.out.2.1.2
        have C19 : Hid (∀ w', Calls Try.prog 19 #[.agg #[.int .i64 a, .int .i64 b], .int .i64 d] w' (RetB w' tb)) := Lib.hid fun w' => touch_at a b d tb w' d1 d2 HTB.out
        have HQ3 := Lib.hid hq3
        clear hr3 hq3 hB3
        rcases HSX.out with ⟨rfl, hss⟩ | ⟨rfl, hss⟩
        all_goals
          have hss2 := hss
          subst hss2
          rcases HC3.out with ⟨hk0, hdd⟩ | ⟨hk0, hkl, hdd⟩
          · subst hk0
            subst hdd
            rw [show (((0 : Nat) : Int) - 1) = -1 from rfl]
            go_wp2_with fail
            refine (C10a.out _ (Below.refl _ _)).mono ?_
            rintro e w3 ⟨rfl, hb3⟩
            go_wp2_with fail
            refine (C10b.out _ hb3).mono ?_
            rintro e w4 ⟨rfl, hb4⟩
            have hbw4 := hb3.trans (hb4.mono hb3.size)
            have hB4 := HB3.out.below hbw4 HB3.out.lt
            have c40 := hB4.cell 0
            have c41 := hB4.cell 1
            go_wp2_with fail
            refine (C19.out _).mono ?_
            rintro e w5 ⟨rfl, hb5⟩
            go_wp2_with fail
            go_roundw
            case rel => exact ⟨0 + 1, by omega, by first | go_num | (congr 1; omega), hbw.trans ((hbw4.trans (hb5.mono hbw4.size)).mono hwr)⟩
            case measure => simp [intOf] <;> omega
          · obtain ⟨m, rfl⟩ : ∃ m, k = m + 1 := ⟨k - 1, by omega⟩
            have hm : (((m + 1 : Nat) : Int) - 1) = m := by omega
            have hmn : m < n1 := by omega
            have hmn' : (m : Int) < n1 := by omega
            obtain ⟨bq, off, rfl, _, hcc⟩ := HQ3.out.recs encS_len (by omega) (by omega)
            have cq : wr.cell? ⟨bq, off + m * 2, none⟩ = some (.int .i64 d) := by rw [← hdd]; exact hcc m hkl 0 _ rfl
            rw [hm]
            clear hm hcc hdd
            go_wp2_with fail
            refine (C10a.out _ (Below.refl _ _)).mono ?_
            rintro e w3 ⟨rfl, hb3⟩
            go_wp2_with fail
            refine (C10b.out _ hb3).mono ?_
            rintro e w4 ⟨rfl, hb4⟩
            have hbw4 := hb3.trans (hb4.mono hb3.size)
            have hB4 := HB3.out.below hbw4 HB3.out.lt
            have c40 := hB4.cell 0
            have c41 := hB4.cell 1
            go_wp2_with fail
            refine (C19.out _).mono ?_
            rintro e w5 ⟨rfl, hb5⟩
            go_wp2_with fail
            go_roundw
            case rel => exact ⟨m + 1 + 1, by omega, by first | go_num | (congr 1; omega), hbw.trans ((hbw4.trans (hb5.mono hbw4.size)).mono hwr)⟩
            case measure => simp [intOf] <;> omega
      · have hke : k = n1 + 1 := by omega
        subst hke
        have hpre : Reads wr wr.heap.size 2 A1 n (cellsS l) := by
          obtain ⟨m, hm⟩ := HPR.out
          rw [hm, cellsS, List.flatMap_append] at hq3
          exact reads_pre hq3 hr3.1 hnn
        have HPF := Lib.hid hpre
        have hm : (((n1 + 1 : Nat) : Int) - 1) = n1 := by omega
        rw [hm]
        clear hm hpre hq3 hr3
        go_wp2_with fail
        refine (same_at_ A1 A n _ n c l l true _ _ wr HPF.out HR3.out (by omega) (sameB_refl' _)).mono ?_
        rintro e w4 ⟨rfl, q, rfl⟩
        go_wp2_with fail
        refine (awake_any _).mono ?_
        rintro e w5 ⟨rfl, hb5⟩
        go_wp2_with fail
        go_ret
        have b4 : Below w.heap.size w wr := HB.out.trans (hbw.mono HB.out.size)
        exact ⟨rfl, (below_drewN b4 q).trans (hb5.mono b4.size)⟩
  · have hx1 := ne0_t h0
    have HE : Hid (spendL l lim a b units = []) := Lib.hid (spendL_bad (by rw [HX.out]; exact h0))
    clear h0
    go_enter Try.func6, Try.ntmps6
    go_wp2_with fail
    refine (spend_at A n c l [] lim a b units x _ HR0.out HN.out HX.out HE.out).mono ?_
    rintro e w1 ⟨A1, n1, c1, rfl, hq1, _, hb1⟩
    obtain rfl : n1 = 0 := (recs_len hq1 encS_len (by omega)).symm
    go_wp2_with fail
    refine (awake_any _).mono ?_
    rintro e w5 ⟨rfl, hb5⟩
    go_wp2_with fail
    go_ret
    have b1 : Below w.heap.size w w1 := (below_alloc (Below.refl _ _) (Nat.le_refl _) _).trans (hb1.mono (by simp))
    exact ⟨rfl, b1.trans (hb5.mono b1.size)⟩
end Go.Proofs.Ytdfmngnhmiemgaa
