/- The walks of BudgetPowers and BudgetSorts. -/
import Derived.Test.YtdfmngnhmiemgaaAwake
namespace Go.Proofs.Ytdfmngnhmiemgaa
open Go.RowKit Go.Maps
theorem pow_good {num den k : Int} (h : powE num den k = 0) : ¬ badP num den k ∧ num ^ k.toNat ≤ M := by
  by_cases hb : badP num den k
  · rw [(pow_bad hb).1] at h; cases h
  · by_cases h2 : M < num ^ k.toNat
    · rw [(pow_over hb h2).1] at h; cases h
    · exact ⟨hb, by omega⟩
theorem pow_mul {num den a b : Int} (h : powE num den (a + b) = 0) (ha : 0 ≤ a) (hb : 0 ≤ b) :
    powE num den a = 0 ∧ powE num den b = 0 ∧ powN num den (a + b) = powN num den a * powN num den b ∧ powD num den (a + b) = powD num den a * powD num den b ∧ powD num den (a + b) ≤ powN num den (a + b) ∧
      0 ≤ powD num den a * powD num den b ∧ powN num den a * powN num den b ≤ M := by
  obtain ⟨hg, hM⟩ := pow_good h
  have hab : (a + b).toNat = a.toNat + b.toNat := by omega
  unfold badP at hg
  have h1 : 1 ≤ den := by omega
  have h2 : den ≤ num := by omega
  have ga : ¬ badP num den a := by unfold badP; omega
  have gb : ¬ badP num den b := by unfold badP; omega
  have ma := pow_mono (show 1 ≤ num by omega) (show a.toNat ≤ (a + b).toNat by omega)
  have mb := pow_mono (show 1 ≤ num by omega) (show b.toNat ≤ (a + b).toNat by omega)
  have oa := pow_ok ga (by omega)
  have ob := pow_ok gb (by omega)
  have oab := pow_ok (num := num) (den := den) (k := a + b) (by unfold badP; omega) hM
  rw [oa.2.1, oa.2.2, ob.2.1, ob.2.2, oab.2.1, oab.2.2, hab, ← Int.pow_add, ← Int.pow_add]
  have hp := ppos h1 (a.toNat + b.toNat)
  exact ⟨oa.1, ob.1, rfl, rfl, pow_le_pow h1 h2 _, by omega, by rw [← hab]; exact hM⟩

set_option maxHeartbeats 2000000 in
set_option maxRecDepth 10000 in
theorem budgetPowers_walk (num den a b : Int) (w : World) :
    Calls Try.prog 5 #[.agg #[.int .i64 num, .int .i64 den], .int .i64 a, .int .i64 b] w (AwakePost w) := by
  have hB0 := Blk.new w 36 #[.int .i64 num, .int .i64 den]
  have HB0 := Lib.hid hB0
  clear hB0
  have hm : powE num den (a + b) = 0 → 0 ≤ a → 0 ≤ b → _ := pow_mul
  have HM := Lib.hid hm
  obtain ⟨X, hX⟩ : ∃ X, powN num den a = X := ⟨_, rfl⟩
  obtain ⟨Y, hY⟩ : ∃ Y, powD num den a = Y := ⟨_, rfl⟩
  obtain ⟨Z, hZ⟩ : ∃ Z, powE num den a = Z := ⟨_, rfl⟩
  have C17a := Lib.hid (fun w => power_at num den a X Y Z w hX hY hZ)
  have C18a : Hid (∀ w, Calls Try.prog 18 #[.agg #[.int .i64 num, .int .i64 den], .int .i64 a] w (RetP w X Y Z)) := Lib.hid fun w => by rw [← hX, ← hY, ← hZ]; exact rpower_any num den a w
  have HX := Lib.hid (And.intro hX (And.intro hY hZ))
  clear hm hX hY hZ
  have start : ∀ (Q : Prop), Q → Q := fun _ h => h
  clear start
  by_cases hbad : a < 0 ∨ b < 0 ∨ 512 < a ∨ 512 < b
  · have hcs : a < 0 ∨ (0 ≤ a ∧ b < 0) ∨ (0 ≤ a ∧ 0 ≤ b ∧ 512 < a) ∨ (0 ≤ a ∧ 0 ≤ b ∧ a ≤ 512 ∧ 512 < b) := by omega
    clear hbad
    rcases hcs with g1 | ⟨g1, g2⟩ | ⟨g1, g2, g3⟩ | ⟨g1, g2, g3, g4⟩
    all_goals
      go_enter Try.func5, Try.ntmps5
      go_wp2_with fail
      refine (C17a.out _).mono ?_
      rintro e w1 ⟨rfl, hb1⟩
      have hB1 := HB0.out.below hb1 (by simp)
      have c10 := hB1.cell 0
      have c11 := hB1.cell 1
      have hz1 : w.heap.size + 1 ≤ w1.heap.size := by have := hb1.size; simpa using this
      have hz1' : w.heap.size < w1.heap.size := by omega
      go_wp2_with fail
      refine (C18a.out _).mono ?_
      rintro e w2 ⟨rfl, hb2⟩
      have hB71 := (Blk.new w1 36 #[.int .i64 X, .int .i64 Y]).below hb2 (by simp)
      have c70 := hB71.cell 0
      have c71 := hB71.cell 1
      have hz2 : w1.heap.size + 1 ≤ w2.heap.size := by have := hb2.size; simpa using this
      have hz2' : w1.heap.size < w2.heap.size := by omega
      go_wp2_with fail
      refine (awake_any _).mono ?_
      rintro e w3 ⟨rfl, hb3⟩
      go_wp2_with fail
      go_ret
      have b1 : Below w.heap.size w w1 := (below_alloc (Below.refl _ _) (Nat.le_refl _) _).trans (hb1.mono (by simp))
      have b2 : Below w.heap.size w w2 := (below_alloc b1 (Nat.le_refl _) (.cells #[.int .i64 X, .int .i64 Y] 36)).trans (hb2.mono (by simp; omega))
      exact ⟨rfl, (below_alloc b2 (Nat.le_refl _) (.cells #[.int .i64 X, .int .i64 Y] 36)).trans (hb3.mono (by simp; omega))⟩
  · have g1 : 0 ≤ a := by omega
    have g2 : 0 ≤ b := by omega
    have g3 : a ≤ 512 := by omega
    have g4 : b ≤ 512 := by omega
    clear hbad
    obtain ⟨Xb, hXb⟩ : ∃ X, powN num den b = X := ⟨_, rfl⟩
    obtain ⟨Yb, hYb⟩ : ∃ Y, powD num den b = Y := ⟨_, rfl⟩
    obtain ⟨Zb, hZb⟩ : ∃ Z, powE num den b = Z := ⟨_, rfl⟩
    have C17b := Lib.hid (fun w => power_at num den b Xb Yb Zb w hXb hYb hZb)
    have HXb := Lib.hid (And.intro hXb (And.intro hYb hZb))
    clear hXb hYb hZb
    obtain ⟨Xc, hXc⟩ : ∃ X, powN num den (a + b) = X := ⟨_, rfl⟩
    obtain ⟨Yc, hYc⟩ : ∃ Y, powD num den (a + b) = Y := ⟨_, rfl⟩
    obtain ⟨Zc, hZc⟩ : ∃ Z, powE num den (a + b) = Z := ⟨_, rfl⟩
    have C17c := Lib.hid (fun w => power_at num den (a + b) Xc Yc Zc w hXc hYc hZc)
    have HXc := Lib.hid (And.intro hXc (And.intro hYc hZc))
    clear hXc hYc hZc
    by_cases hz0 : Zc = 0
    · have hm := HM.out (HXc.out.2.2.trans hz0) g1 g2
      rw [HX.out.1, HX.out.2.1, HX.out.2.2, HXb.out.1, HXb.out.2.1, HXb.out.2.2, HXc.out.1, HXc.out.2.1] at hm
      obtain ⟨rfl, rfl, hm1, hm2, hm3, hm4, hm5⟩ := hm
      subst hz0
      have hM : X * Xb ≤ 1125899906842624 := hm5
      have hc0 : 0 ≤ X * Xb := by omega
      have hc1 : Y * Yb ≤ 1125899906842624 := by omega
      have e1 : (Xc == X * Xb) = true := beq_iff_eq.2 hm1
      have e2 : (Yc == Y * Yb) = true := beq_iff_eq.2 hm2
      clear hm1 hm2 hm5
      go_enter Try.func5, Try.ntmps5
      go_wp2_with fail
      refine (C17a.out _).mono ?_
      rintro e w1 ⟨rfl, hb1⟩
      have hB1 := HB0.out.below hb1 (by simp)
      have c10 := hB1.cell 0
      have c11 := hB1.cell 1
      have hz1 : w.heap.size + 1 ≤ w1.heap.size := by have := hb1.size; simpa using this
      have hz1' : w.heap.size < w1.heap.size := by omega
      go_wp2_with fail
      refine (C18a.out _).mono ?_
      rintro e w2 ⟨rfl, hb2⟩
      have hB71 := (Blk.new w1 36 #[.int .i64 X, .int .i64 Y]).below hb2 (by simp)
      have hB2 := (hB1.alloc (.cells #[.int .i64 X, .int .i64 Y] 36)).below hb2 (by simp; omega)
      have c20 := hB2.cell 0
      have c21 := hB2.cell 1
      have c70 := hB71.cell 0
      have c71 := hB71.cell 1
      have hz2 : w1.heap.size + 1 ≤ w2.heap.size := by have := hb2.size; simpa using this
      have hz2' : w1.heap.size < w2.heap.size := by omega
      have hz2'' : w.heap.size < w2.heap.size := by omega
      go_wp2_with fail
      refine (C17b.out _).mono ?_
      rintro e w3 ⟨rfl, hb3⟩
      have hB73 := (hB71.alloc (.cells #[.int .i64 X, .int .i64 Y] 36)).below hb3 (by simp; omega)
      have hB3 := (hB2.alloc (.cells #[.int .i64 X, .int .i64 Y] 36)).below hb3 (by simp; omega)
      have c30 := hB3.cell 0
      have c31 := hB3.cell 1
      have hz3 : w2.heap.size + 1 ≤ w3.heap.size := by have := hb3.size; simpa using this
      have hz3' : w.heap.size < w3.heap.size := by omega
      go_wp2_with fail
      refine (C17c.out _).mono ?_
      rintro e w4 ⟨rfl, hb4⟩
      have hB74 := (hB73.alloc (.cells #[.int .i64 Xb, .int .i64 Yb] 36)).below hb4 (by simp; omega)
      have hB11 := (Blk.new w3 36 #[.int .i64 Xb, .int .i64 Yb]).below hb4 (by simp)
      have c40 := hB74.cell 0
      have c41 := hB74.cell 1
      have c50 := hB11.cell 0
      have c51 := hB11.cell 1
      have hz4 : w3.heap.size + 1 ≤ w4.heap.size := by have := hb4.size; simpa using this
      have hz4' : w3.heap.size < w4.heap.size := by omega
      have hz4'' : w1.heap.size < w4.heap.size := by omega
      go_wp2_with fail
      refine (awake_any _).mono ?_
      rintro e w5 ⟨rfl, hb5⟩
      go_wp2_with fail
      go_ret
      have b1 : Below w.heap.size w w1 := (below_alloc (Below.refl _ _) (Nat.le_refl _) _).trans (hb1.mono (by simp))
      have b2 : Below w.heap.size w w2 := (below_alloc b1 (Nat.le_refl _) (.cells #[.int .i64 X, .int .i64 Y] 36)).trans (hb2.mono (by simp; omega))
      have b3 : Below w.heap.size w w3 := (below_alloc b2 (Nat.le_refl _) (.cells #[.int .i64 X, .int .i64 Y] 36)).trans (hb3.mono (by simp; omega))
      have b4 : Below w.heap.size w w4 := (below_alloc b3 (Nat.le_refl _) (.cells #[.int .i64 Xb, .int .i64 Yb] 36)).trans (hb4.mono (by simp; omega))
      exact ⟨rfl, (below_alloc b4 (Nat.le_refl _) (.cells #[.int .i64 Xc, .int .i64 Yc] 36)).trans (hb5.mono (by simp; omega))⟩
    · have hz0' := ne0_t hz0
      clear hz0
      go_enter Try.func5, Try.ntmps5
      go_wp2_with fail
      refine (C17a.out _).mono ?_
      rintro e w1 ⟨rfl, hb1⟩
      have hB1 := HB0.out.below hb1 (by simp)
      have c10 := hB1.cell 0
      have c11 := hB1.cell 1
      have hz1 : w.heap.size + 1 ≤ w1.heap.size := by have := hb1.size; simpa using this
      have hz1' : w.heap.size < w1.heap.size := by omega
      go_wp2_with fail
      refine (C18a.out _).mono ?_
      rintro e w2 ⟨rfl, hb2⟩
      have hB71 := (Blk.new w1 36 #[.int .i64 X, .int .i64 Y]).below hb2 (by simp)
      have hB2 := (hB1.alloc (.cells #[.int .i64 X, .int .i64 Y] 36)).below hb2 (by simp; omega)
      have c20 := hB2.cell 0
      have c21 := hB2.cell 1
      have c70 := hB71.cell 0
      have c71 := hB71.cell 1
      have hz2 : w1.heap.size + 1 ≤ w2.heap.size := by have := hb2.size; simpa using this
      have hz2' : w1.heap.size < w2.heap.size := by omega
      have hz2'' : w.heap.size < w2.heap.size := by omega
      go_wp2_with fail
      refine (C17b.out _).mono ?_
      rintro e w3 ⟨rfl, hb3⟩
      have hB3 := (hB2.alloc (.cells #[.int .i64 X, .int .i64 Y] 36)).below hb3 (by simp; omega)
      have c30 := hB3.cell 0
      have c31 := hB3.cell 1
      have hz3 : w2.heap.size + 1 ≤ w3.heap.size := by have := hb3.size; simpa using this
      have hz3' : w.heap.size < w3.heap.size := by omega
      go_wp2_with fail
      refine (C17c.out _).mono ?_
      rintro e w4 ⟨rfl, hb4⟩
      have hz4 : w3.heap.size + 1 ≤ w4.heap.size := by have := hb4.size; simpa using this
      go_wp2_with fail
      refine (awake_any _).mono ?_
      rintro e w5 ⟨rfl, hb5⟩
      go_wp2_with fail
      go_ret
      have b1 : Below w.heap.size w w1 := (below_alloc (Below.refl _ _) (Nat.le_refl _) _).trans (hb1.mono (by simp))
      have b2 : Below w.heap.size w w2 := (below_alloc b1 (Nat.le_refl _) (.cells #[.int .i64 X, .int .i64 Y] 36)).trans (hb2.mono (by simp; omega))
      have b3 : Below w.heap.size w w3 := (below_alloc b2 (Nat.le_refl _) (.cells #[.int .i64 X, .int .i64 Y] 36)).trans (hb3.mono (by simp; omega))
      have b4 : Below w.heap.size w w4 := (below_alloc b3 (Nat.le_refl _) (.cells #[.int .i64 Xb, .int .i64 Yb] 36)).trans (hb4.mono (by simp; omega))
      exact ⟨rfl, (below_alloc b4 (Nat.le_refl _) (.cells #[.int .i64 Xc, .int .i64 Yc] 36)).trans (hb5.mono (by simp; omega))⟩

/-! The order of the list. -/
theorem allR_reverse {l : List Sp} : allR l.reverse ↔ allR l := by unfold allR; simp
theorem fitsIn_reverse {l : List Sp} {lim : Int} : fitsIn l.reverse lim ↔ fitsIn l lim := by unfold fitsIn; simp [sumTo_reverse]
theorem check_reverse (l : List Sp) (lim : Int) : checkE l.reverse lim = checkE l lim := by
  unfold checkE
  simp only [allR_reverse, fitsIn_reverse, List.length_reverse]
theorem left_reverse (l : List Sp) (lim day : Int) : leftN l.reverse lim day = leftN l lim day := by
  unfold leftN leftE
  rw [check_reverse, sumTo_reverse]
set_option maxHeartbeats 2000000 in
set_option maxRecDepth 10000 in
theorem budgetSorts_walk (A : Option Addr) (n c : Nat) (l : List Sp) (lim day : Int) (w : World) (hr : Reads w w.heap.size 2 A n (cellsS l)) (hnc : n ≤ c) (hc : c ≤ maxLen) :
    Calls Try.prog 8 #[.slice A n c, .int .i64 lim, .int .i64 day] w (AwakePost w) := by
  obtain ⟨i0, hi0, hz0, hz1, hz2⟩ := info_parts Try.info41
  have HL := Lib.hid (recs_len hr encS_len (by omega))
  have hn := Nat.le_trans hnc hc
  have HN := Lib.hid hn
  have hn' : n ≤ 9223372036854775807 := hn
  clear hnc hc hn
  by_cases h6 : 60 < n
  · go_enter Try.func8, Try.ntmps8
    go_wp2_with (go_at_call 9; refine (awake_any _).mono ?_; rintro e w1 ⟨rfl, hb⟩)
    go_ret
    exact ⟨rfl, hb⟩
  · go_enter Try.func8, Try.ntmps8
    go_wp2_with fail
    go_loopw [7, 8] (fun o i wr => ∃ (k : Nat) (A' : Option Addr) (n' c' : Nat), k ≤ n ∧ i = .int .i64 ((n : Int) - 1 - k) ∧ o = .slice A' n' c' ∧ wr.ownsRow w.heap.size 41 2 (.slice A' n' c') n' (cellsS ((l.drop (n - k)).reverse)) ∧ Below w.heap.size w wr) (fun _ i _ => (intOf i + 1).toNat)
    case atStart => exact ⟨0, none, 0, 0, Nat.zero_le _, by simp, rfl, by rw [Nat.sub_zero, List.drop_of_length_le (by rw [HL.out]; exact Nat.le_refl _)]; exact World.ownsRow_nil _ _ _ _, Below.refl _ _⟩
    case round =>
      obtain ⟨k, A', n', c', hk, rfl, rfl, hown, hbw⟩ := hrel
      have HO := Lib.hid hown
      have HN2 : Hid (n' = k) := Lib.hid (by have h1 := recs_len (Reads.of_own hown) encS_len (by omega); rw [List.length_reverse, List.length_drop, HL.out] at h1; omega)
      have hn2 : n' ≤ 60 := by have := HN2.out; omega
      clear hown
      by_cases hlt : k < n
      · obtain ⟨b, off, rfl, hb, hcc⟩ := (hr.below hbw).recs encS_len (by omega) (by omega)
        obtain ⟨i, hi⟩ : ∃ i : Nat, i = n - 1 - k := ⟨_, rfl⟩
        have hie : (n : Int) - 1 - k = i := by omega
        have hil : i < l.length := by have := HL.out; omega
        have c0 : wr.cell? ⟨b, off + i * 2, none⟩ = some (.int .i64 l[i].1) := hcc i hil 0 _ rfl
        have c1 : wr.cell? ⟨b, off + i * 2 + 1, none⟩ = some (.int .i64 l[i].2) := hcc i hil 1 _ rfl
        have hin : i < n := by omega
        have HI := Lib.hid hi
        have HIE := Lib.hid hie
        have HD : Hid ((l.drop (n - (k + 1))).reverse = (l.drop (n - k)).reverse ++ [l[i]]) := Lib.hid (by
          have e1 : n - (k + 1) = i := by omega
          have e2 : n - k = i + 1 := by omega
          rw [e1, e2, List.drop_eq_getElem_cons hil, List.reverse_cons])
        rw [hie]
        clear hcc hi hie
        go_wp2_with (at_builtin; refine wpList_append_any _ rfl (.tmp 24) (.tmp 29) _ rfl w.heap.size 41 i0 _ 2 16 Try.underlying22 hi0 hz0 hz1 hz2 rfl (by omega) (.slice A' n' c') n' (cellsS ((l.drop (n - k)).reverse)) rfl (HO.out.alloc _) (wr.heap.size + 1) (some ⟨wr.heap.size, 0, none⟩) 1 1 (cellsS [l[i]]) rfl (Reads.fresh wr 41 #[.int .i64 l[i].1, .int .i64 l[i].2] 1 2 rfl) (one_cells _) (by simp only [maxLen]; omega) (by omega) (by have := hbw.size; simp; omega) ?_; intro v4 w4 hown4 hg4 hat4; obtain ⟨A4, c4, rfl, _⟩ := own_reads hown4)
        go_roundw
        case rel => exact ⟨k + 1, A4, n' + 1, c4, by omega, by have := HIE.out; congr 1; omega, rfl, by rw [HD.out, cellsS, List.flatMap_append]; exact hown4, below_own (below_alloc hbw (Nat.le_refl _) _) (HO.out.alloc _) hg4 (by have := hbw.size; simp; omega) (Nat.le_refl _)⟩
        case measure => simp [intOf] <;> omega
      · have hke : k = n := by omega
        have HRV : Hid ((l.drop (n - k)).reverse = l.reverse) := Lib.hid (by rw [hke, Nat.sub_self, List.drop_zero])
        have hq := HO.out
        rw [HRV.out] at hq
        have hq2 := Reads.of_own hq
        have hr2 := (hr.below hbw).more hbw.size
        have HQ := Lib.hid hq2
        clear hke hq hq2
        go_wp2_with fail
        refine (left_any A n c l lim day wr hr2 HN.out).mono ?_
        rintro e w1 ⟨rfl, hb1⟩
        go_wp2_with fail
        refine (left_at A' n' c' l.reverse lim day (leftN l lim day) (leftE l.reverse lim day) w1 ((HQ.out.below hb1).more hb1.size) (by unfold maxLen; omega) (left_reverse l lim day) rfl).mono ?_
        rintro e w2 ⟨rfl, hb2⟩
        have hb12 := hb1.trans (hb2.mono hb1.size)
        obtain ⟨x, hx⟩ : ∃ x, checkE l lim = x := ⟨_, rfl⟩
        have HX := Lib.hid hx
        clear hx
        go_wp2_with fail
        refine (check_at A n c l lim x w2 ((hr2.below hb12).more hb12.size) HN.out HX.out).mono ?_
        rintro e w3 ⟨rfl, hb3⟩
        have hb13 := hb12.trans (hb3.mono hb12.size)
        go_wp2_with fail
        refine (check_at A' n' c' l.reverse lim x w3 ((HQ.out.below hb13).more hb13.size) (by unfold maxLen; omega) (by rw [check_reverse]; exact HX.out)).mono ?_
        rintro e w4 ⟨rfl, hb4⟩
        go_wp2_with fail
        refine (awake_any _).mono ?_
        rintro e w5 ⟨rfl, hb5⟩
        go_wp2_with fail
        go_ret
        have hb14 := hb13.trans (hb4.mono hb13.size)
        have hb15 := hb14.trans (hb5.mono hb14.size)
        exact ⟨rfl, hbw.trans (hb15.mono hbw.size)⟩
end Go.Proofs.Ytdfmngnhmiemgaa
