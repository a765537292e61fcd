/- The walks of BudgetChecks, BudgetSpends and BudgetPowers. -/
import Derived.Test.YtdfmngnhmiemgaaAwake
namespace Go.Proofs.Ytdfmngnhmiemgaa
open Go.RowKit Go.Maps
set_option maxHeartbeats 1000000 in
set_option maxRecDepth 10000 in
theorem budgetChecks_walk (A : Option Addr) (n c : Nat) (l : List Sp) (lim day : Int) (w : World) (hr : Reads w w.heap.size 2 A n (cellsS l)) (hnc : n ≤ c) (hc : c ≤ maxLen) :
    Calls Try.prog 3 #[.slice A n c, .int .i64 lim, .int .i64 day] w (AwakePost w) := by
  have hn := Nat.le_trans hnc hc
  have HN := Lib.hid hn
  have hn' : n ≤ 9223372036854775807 := hn
  clear hnc hc hn
  by_cases h6 : 600 < n
  · go_enter Try.func3, Try.ntmps3
    go_wp2_with (go_at_call 9; refine (awake_any _).mono ?_; rintro e w1 ⟨rfl, hb⟩)
    go_ret
    exact ⟨rfl, hb⟩
  · go_enter Try.func3, Try.ntmps3
    go_wp2_with fail
    refine (left_any A n c l lim day w hr HN.out).mono ?_
    rintro e w1 ⟨rfl, hb1⟩
    have hr1 := (hr.below hb1).more hb1.size
    go_wp2_with fail
    refine (rleft_any A n c l lim day _ w1 hr1 HN.out).mono ?_
    rintro e w' ⟨rfl, rfl⟩
    go_wp2_with fail
    refine (check_any A n c l lim w1 hr1 HN.out).mono ?_
    rintro e w2 ⟨rfl, hb2⟩
    have hr2 := (hr1.below hb2).more hb2.size
    go_wp2_with fail
    refine (rcheck_any A n c l lim _ w2 hr2 HN.out).mono ?_
    rintro e w' ⟨rfl, rfl⟩
    go_wp2_with fail
    refine (awake_any _).mono ?_
    rintro e w3 ⟨rfl, hb3⟩
    go_wp2_with fail
    go_ret
    exact ⟨rfl, (hb1.trans (hb2.mono hb1.size)).trans (hb3.mono (Nat.le_trans hb1.size hb2.size))⟩

theorem sameB_refl (l : List Sp) : sameB l l = true := decide_eq_true rfl
theorem spendL_len {l : List Sp} {lim a b units : Int} (hl : l.length ≤ 600) : (spendL l lim a b units).length ≤ 1000 := by
  by_cases h : spendE l lim a b units = 0
  · by_cases hab : a = b
    · rw [spendL_same h hab]; omega
    · rw [spendL_ok h hab, List.length_append, days_len]
      by_cases h0 : checkE l lim = 0
      · by_cases h1 : a < 0 ∨ b < a ∨ 4294944000 < b ∨ units < 1 ∨ 1000000 < units
        · rw [spend_range h0 h1] at h; cases h
        · by_cases h2 : 512 - (l.length : Int) < (b - 1) / 86400 - a / 86400 + 1
          · rw [spend_full h0 h1 hab h2] at h; cases h
          · unfold nDays; omega
      · rw [spend_check h0] at h; exact absurd h h0
  · rw [spendL_bad h]; simp
set_option maxHeartbeats 1000000 in
set_option maxRecDepth 10000 in
theorem budgetSpends_walk (A : Option Addr) (n c : Nat) (l : List Sp) (lim a b units : Int) (w : World) (hr : Reads w w.heap.size 2 A n (cellsS l)) (hnc : n ≤ c) (hc : c ≤ maxLen) :
    Calls Try.prog 4 #[.slice A n c, .int .i64 lim, .agg #[.int .i64 a, .int .i64 b], .int .i64 units] w (AwakePost w) := by
  have hn := Nat.le_trans hnc hc
  have HN := Lib.hid hn
  have hn' : n ≤ 9223372036854775807 := hn
  clear hnc hc hn
  by_cases h6 : 600 < n
  · go_enter Try.func4, Try.ntmps4
    go_wp2_with (go_at_call 9; refine (awake_any _).mono ?_; rintro e w1 ⟨rfl, hb⟩)
    go_ret
    exact ⟨rfl, (below_alloc (Below.refl _ _) (Nat.le_refl _) _).trans (hb.mono (by simp))⟩
  · have HLn : Hid ((spendL l lim a b units).length ≤ 1000) := Lib.hid (spendL_len (by have := recs_len hr encS_len (by omega); omega))
    have hB0 := Blk.new w 30 #[.int .i64 a, .int .i64 b]
    have hr0 : Reads (w.alloc (.cells #[.int .i64 a, .int .i64 b] 30)) (w.alloc (.cells #[.int .i64 a, .int .i64 b] 30)).heap.size 2 A n (cellsS l) := (hr.alloc (Nat.le_refl _) _).more (by simp)
    have HR0 := Lib.hid hr0
    have HB0 := Lib.hid hB0
    clear hr0 hB0
    go_enter Try.func4, Try.ntmps4
    go_wp2_with fail
    refine (spend_any A n c l lim a b units _ HR0.out HN.out).mono ?_
    rintro e w1 ⟨A1, n1, c1, rfl, hq1, _, hb1⟩
    have hB1 := HB0.out.below hb1 (by simp)
    have hr1 := (HR0.out.below hb1).more hb1.size
    have c0 := hB1.cell 0
    have c1' := hB1.cell 1
    go_wp2_with fail
    refine (rspend_any A n c l lim a b units w1 hr1 HN.out).mono ?_
    rintro e w2 ⟨A2, n2, c2, rfl, hq2, _, hb2⟩
    have hq1' := (hq1.below hb2).more hb2.size
    go_wp2_with fail
    refine (same_at_ A1 A2 n1 c1 n2 c2 _ _ true _ _ w2 hq1' hq2 (by have := recs_len hq1 encS_len (by omega); have := HLn.out; omega) (sameB_refl _)).mono ?_
    rintro e w3 ⟨rfl, q, rfl⟩
    go_wp2_with fail
    refine (awake_any _).mono ?_
    rintro e w4 ⟨rfl, hb4⟩
    go_wp2_with fail
    go_ret
    have b1 : Below w.heap.size w w1 := (below_alloc (Below.refl _ _) (Nat.le_refl _) _).trans (hb1.mono (by simp))
    have b2 : Below w.heap.size w w2 := b1.trans (hb2.mono b1.size)
    exact ⟨rfl, (below_drewN b2 q).trans (hb4.mono b2.size)⟩
end Go.Proofs.Ytdfmngnhmiemgaa
