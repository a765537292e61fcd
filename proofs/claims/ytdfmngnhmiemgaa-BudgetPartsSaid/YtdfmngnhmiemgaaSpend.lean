/- The walks of slices.Clone and of both Spend. -/
import Derived.Test.YtdfmngnhmiemgaaChecks
namespace Go.Proofs.Ytdfmngnhmiemgaa
open Go.RowKit Go.Maps
theorem Try.info41 : (Try.prog.info? 41).map (fun i => (i.zero, i.size, i.bytes)) = some (some (.agg #[.int .i64 0, .int .i64 0]), 2, 16) := by kernel_rfl
theorem one_cells (l : List Sp) : ∀ u ∈ cellsS l, u.oneCell' = true := by
  intro u hu
  obtain ⟨p, _, hp⟩ := List.mem_flatMap.1 hu
  simp only [encS, List.mem_cons, List.not_mem_nil, or_false] at hp
  rcases hp with rfl | rfl <;> rfl

set_option maxHeartbeats 400000 in
set_option maxRecDepth 10000 in
theorem clone_any (A : Option Addr) (n c : Nat) (l : List Sp) (w : World) (hr : Reads w w.heap.size 2 A n (cellsS l)) (hn : n ≤ 100000) :
    Calls Try.prog 23 #[.slice A n c] w (RetOwn w 41 2 (cellsS l)) := by
  obtain ⟨i0, hi0, hz0, hz1, hz2⟩ := info_parts Try.info41
  have HL := Lib.hid (recs_len hr encS_len (by omega))
  rcases A with _ | ad
  · have h0 : n = 0 := by
      rcases Nat.eq_zero_or_pos n with h | h
      · exact h
      · obtain ⟨ad, e, _⟩ := hr.2 h; cases e
    subst h0
    have hl : l = [] := List.eq_nil_of_length_eq_zero HL.out
    subst hl
    have hq := fun (w : World) (a : Option Addr) (n c : Nat) => Lib.run_eql_slice_nil (P := Try.prog) w 22 41 a n c 0 0 Try.underlying22
    go_enter Try.func23, Try.ntmps23
    go_wp2_with fail
    go_ret
    exact ⟨none, 0, 0, rfl, World.ownsRow_nil _ _ _ _, Below.refl _ _⟩
  · have hq := fun (w : World) (a : Option Addr) (n c : Nat) => Lib.run_eql_slice_nil (P := Try.prog) w 22 41 a n c 0 0 Try.underlying22
    go_enter Try.func23, Try.ntmps23
    go_wp2_with (at_builtin; refine wpList_append_any _ rfl (.tmp 5) (.tmp 6) _ rfl w.heap.size 41 i0 _ 2 16 Try.underlying22 hi0 hz0 hz1 hz2 rfl (by omega) (.slice (some ⟨w.heap.size, 0, none⟩) 0 0) 0 [] rfl (World.ownsRow_made (size := 2) w #[] 0 (Nat.le_refl _) (Nat.zero_le _) rfl) w.heap.size (some ad) n c (cellsS l) rfl (hr.alloc (Nat.le_refl _) _) (one_cells l) (by simp only [maxLen]; omega) (by omega) (by simp) ?_; intro v1 w1 hown1 hg1 hat1; simp only [Nat.zero_add, List.nil_append] at hown1; obtain ⟨A1, c1, rfl, _⟩ := own_reads hown1)
    go_ret
    exact ⟨A1, n, c1, rfl, hown1, below_own ((Below.refl _ _).alloc (Nat.le_refl _) _) (World.ownsRow_made (size := 2) w #[] 0 (Nat.le_refl _) (Nat.zero_le _) rfl) hg1 (by simp) (Nat.le_refl _)⟩
/-! Both Spend. -/
set_option maxHeartbeats 2000000 in
set_option maxRecDepth 10000 in
theorem spend_any (A : Option Addr) (n c : Nat) (l : List Sp) (lim a b units : Int) (w : World) (hr : Reads w w.heap.size 2 A n (cellsS l)) (hn : n ≤ maxLen) :
    Calls Try.prog 14 #[.slice A n c, .int .i64 lim, .agg #[.int .i64 a, .int .i64 b], .int .i64 units] w (RetSC w 2 (cellsS (spendL l lim a b units)) (spendE l lim a b units)) := by
  obtain ⟨i0, hi0, hz0, hz1, hz2⟩ := info_parts Try.info41
  have HL := Lib.hid (recs_len hr encS_len (by omega))
  have hr0 : Reads (w.alloc (.cells #[.int .i64 a, .int .i64 b] 30)) (w.alloc (.cells #[.int .i64 a, .int .i64 b] 30)).heap.size 2 A n (cellsS l) := (hr.alloc (Nat.le_refl _) _).more (by simp)
  have C := Lib.hid (check_any A n c l lim _ hr0 hn)
  clear hn
  have hB0 := Blk.new w 30 #[.int .i64 a, .int .i64 b]
  have hal : Below w.heap.size w (w.alloc (.cells #[.int .i64 a, .int .i64 b] 30)) := (Below.refl _ _).alloc (Nat.le_refl _) _
  have HB0 := Lib.hid hB0
  have HAL := Lib.hid hal
  clear hB0 hal hr0
  by_cases h0 : checkE l lim = 0
  · have HI := Lib.hid (check_iff.1 h0)
    have H0 := Lib.hid h0
    rw [h0] at C
    clear h0
    by_cases hbad : a < 0 ∨ b < a ∨ 4294944000 < b ∨ units < 1 ∨ 1000000 < units
    · have HE := Lib.hid (spend_range H0.out hbad)
      have HEL : Hid (spendL l lim a b units = []) := Lib.hid (spendL_bad (by rw [HE.out]; decide))
      have hcs : a < 0 ∨ (0 ≤ a ∧ b < a) ∨ (0 ≤ a ∧ a ≤ b ∧ 4294944000 < b) ∨ (0 ≤ a ∧ a ≤ b ∧ b ≤ 4294944000 ∧ units < 1) ∨ (0 ≤ a ∧ a ≤ b ∧ b ≤ 4294944000 ∧ 1000000 < units) := by omega
      clear hbad
      rcases hcs with g1 | ⟨g1, g2⟩ | ⟨g1, g2, g3⟩ | ⟨g1, g2, g3, g4⟩ | ⟨g1, g2, g3, g4⟩
      · go_enter Try.func14, Try.ntmps14
        go_wp2_with fail
        refine C.out.mono ?_
        rintro e w1 ⟨rfl, hb1'⟩
        have hb1 : Below (w.heap.size + 1) (w.alloc (.cells #[.int .i64 a, .int .i64 b] 30)) w1 := hb1'.mono (by simp)
        clear hb1'
        have hbw1 : Below w.heap.size w w1 := HAL.out.trans (hb1.mono (by omega))
        have c0 := (HB0.out.below hb1 (Nat.lt_succ_self _)).cell 0
        have c1 := (HB0.out.below hb1 (Nat.lt_succ_self _)).cell 1
        go_wp2_with fail
        go_ret2
        exact ⟨none, 0, 0, ret_se HE.out.symm, by rw [HEL.out]; exact Reads.none_, Nat.le_refl _, hbw1⟩
      · go_enter Try.func14, Try.ntmps14
        go_wp2_with fail
        refine C.out.mono ?_
        rintro e w1 ⟨rfl, hb1'⟩
        have hb1 : Below (w.heap.size + 1) (w.alloc (.cells #[.int .i64 a, .int .i64 b] 30)) w1 := hb1'.mono (by simp)
        clear hb1'
        have hbw1 : Below w.heap.size w w1 := HAL.out.trans (hb1.mono (by omega))
        have c0 := (HB0.out.below hb1 (Nat.lt_succ_self _)).cell 0
        have c1 := (HB0.out.below hb1 (Nat.lt_succ_self _)).cell 1
        go_wp2_with fail
        go_ret2
        exact ⟨none, 0, 0, ret_se HE.out.symm, by rw [HEL.out]; exact Reads.none_, Nat.le_refl _, hbw1⟩
      · go_enter Try.func14, Try.ntmps14
        go_wp2_with fail
        refine C.out.mono ?_
        rintro e w1 ⟨rfl, hb1'⟩
        have hb1 : Below (w.heap.size + 1) (w.alloc (.cells #[.int .i64 a, .int .i64 b] 30)) w1 := hb1'.mono (by simp)
        clear hb1'
        have hbw1 : Below w.heap.size w w1 := HAL.out.trans (hb1.mono (by omega))
        have c0 := (HB0.out.below hb1 (Nat.lt_succ_self _)).cell 0
        have c1 := (HB0.out.below hb1 (Nat.lt_succ_self _)).cell 1
        go_wp2_with fail
        go_ret2
        exact ⟨none, 0, 0, ret_se HE.out.symm, by rw [HEL.out]; exact Reads.none_, Nat.le_refl _, hbw1⟩
      · go_enter Try.func14, Try.ntmps14
        go_wp2_with fail
        refine C.out.mono ?_
        rintro e w1 ⟨rfl, hb1'⟩
        have hb1 : Below (w.heap.size + 1) (w.alloc (.cells #[.int .i64 a, .int .i64 b] 30)) w1 := hb1'.mono (by simp)
        clear hb1'
        have hbw1 : Below w.heap.size w w1 := HAL.out.trans (hb1.mono (by omega))
        have c0 := (HB0.out.below hb1 (Nat.lt_succ_self _)).cell 0
        have c1 := (HB0.out.below hb1 (Nat.lt_succ_self _)).cell 1
        go_wp2_with fail
        refine (within_no _ _ _ _ (by omega)).mono ?_
        rintro e w' ⟨rfl, rfl⟩
        go_wp2_with fail
        go_ret2
        exact ⟨none, 0, 0, ret_se HE.out.symm, by rw [HEL.out]; exact Reads.none_, Nat.le_refl _, hbw1⟩
      · go_enter Try.func14, Try.ntmps14
        go_wp2_with fail
        refine C.out.mono ?_
        rintro e w1 ⟨rfl, hb1'⟩
        have hb1 : Below (w.heap.size + 1) (w.alloc (.cells #[.int .i64 a, .int .i64 b] 30)) w1 := hb1'.mono (by simp)
        clear hb1'
        have hbw1 : Below w.heap.size w w1 := HAL.out.trans (hb1.mono (by omega))
        have c0 := (HB0.out.below hb1 (Nat.lt_succ_self _)).cell 0
        have c1 := (HB0.out.below hb1 (Nat.lt_succ_self _)).cell 1
        go_wp2_with fail
        refine (within_no _ _ _ _ (by omega)).mono ?_
        rintro e w' ⟨rfl, rfl⟩
        go_wp2_with fail
        go_ret2
        exact ⟨none, 0, 0, ret_se HE.out.symm, by rw [HEL.out]; exact Reads.none_, Nat.le_refl _, hbw1⟩
    have g1 : 0 ≤ a := by omega
    have g2 : a ≤ b := by omega
    have g3 : b ≤ 4294944000 := by omega
    have g4 : 1 ≤ units := by omega
    have g5 : units ≤ 1000000 := by omega
    have HOK := Lib.hid hbad
    clear hbad
    have hn5 : n ≤ 512 := by have := HL.out; have := HI.out.2.2.1; omega
    by_cases hab : a = b
    · have HE := Lib.hid (spend_none H0.out HOK.out hab)
      have HEL := Lib.hid (spendL_same HE.out hab)
      have hab' : (a == b) = true := beq_iff_eq.2 hab
      clear hab
      go_enter Try.func14, Try.ntmps14
      go_wp2_with fail
      refine C.out.mono ?_
      rintro e w1 ⟨rfl, hb1'⟩
      have hb1 : Below (w.heap.size + 1) (w.alloc (.cells #[.int .i64 a, .int .i64 b] 30)) w1 := hb1'.mono (by simp)
      clear hb1'
      have hbw1 : Below w.heap.size w w1 := HAL.out.trans (hb1.mono (by omega))
      have hB1 := HB0.out.below hb1 (Nat.lt_succ_self _)
      have c0 := hB1.cell 0
      have c1 := hB1.cell 1
      have hr1 : Reads w1 w1.heap.size 2 A n (cellsS l) := (hr.below hbw1).more hbw1.size
      go_wp2_with fail
      refine (within_yes _ _ _ _ ⟨g4, g5⟩).mono ?_
      rintro e w' ⟨rfl, rfl⟩
      go_wp2_with fail
      refine (clone_any A n c l w1 hr1 (by omega)).mono ?_
      rintro e w2 ⟨A2, n2, c2, rfl, hown2', hb2⟩
      have hown2 := own_mono hown2' hbw1.size
      have hbw2 : Below w.heap.size w w2 := hbw1.trans (hb2.mono hbw1.size)
      have c2' := (hB1.below hb2 hB1.lt).cell 0
      have c3' := (hB1.below hb2 hB1.lt).cell 1
      clear hown2'
      go_wp2_with fail
      go_ret2
      exact ⟨A2, _, c2, ret_se HE.out.symm, by rw [HEL.out]; exact Reads.of_own hown2, own_cap hown2, hbw2⟩
    have hab' : (a == b) = false := beq_eq_false_iff_ne.2 hab
    have g6 : a < b := by omega
    have q1 : IntKind.i64.wrap (a.tdiv 86400) = a / 86400 := IntWalk.i64_quo _ _ (by omega)
    have q2 : IntKind.i64.wrap (b - 1) = b - 1 := IntWalk.i64_in _ (by omega)
    have q3 : IntKind.i64.wrap ((b - 1).tdiv 86400) = (b - 1) / 86400 := IntWalk.i64_quo _ _ (by omega)
    have HAB := Lib.hid hab
    clear hab
    have HD : Hid (((nDays a b : Nat) : Int) = (b - 1) / 86400 - a / 86400 + 1) := Lib.hid (by unfold nDays; omega)
    obtain ⟨f, hf⟩ : ∃ f, f = a / 86400 := ⟨_, rfl⟩
    obtain ⟨t, ht⟩ : ∃ t, t = (b - 1) / 86400 := ⟨_, rfl⟩
    have hf1 : 0 ≤ f ∧ f ≤ 49710 := by omega
    have ht1 : f ≤ t ∧ t ≤ 49710 := by omega
    rw [← hf] at q1
    rw [← ht] at q3
    have HD2 : Hid (((nDays a b : Nat) : Int) = t - f + 1) := Lib.hid (by rw [HD.out, hf, ht])
    have HFe := Lib.hid hf
    have HTe := Lib.hid ht
    obtain ⟨hf1, hf2⟩ := hf1
    obtain ⟨ht1, ht2⟩ := ht1
    clear hf ht
    by_cases hfull : 512 - (n : Int) < t - f + 1
    · have HE := Lib.hid (spend_full H0.out HOK.out HAB.out (by rw [← HFe.out, ← HTe.out, HL.out]; exact hfull))
      have HEL : Hid (spendL l lim a b units = []) := Lib.hid (spendL_bad (by rw [HE.out]; decide))
      go_enter Try.func14, Try.ntmps14
      go_wp2_with fail
      refine C.out.mono ?_
      rintro e w1 ⟨rfl, hb1'⟩
      have hb1 : Below (w.heap.size + 1) (w.alloc (.cells #[.int .i64 a, .int .i64 b] 30)) w1 := hb1'.mono (by simp)
      clear hb1'
      have hbw1 : Below w.heap.size w w1 := HAL.out.trans (hb1.mono (by omega))
      have hB1 := HB0.out.below hb1 (Nat.lt_succ_self _)
      have c0 := hB1.cell 0
      have c1 := hB1.cell 1
      have hr1 : Reads w1 w1.heap.size 2 A n (cellsS l) := (hr.below hbw1).more hbw1.size
      go_wp2_with fail
      refine (within_yes _ _ _ _ ⟨g4, g5⟩).mono ?_
      rintro e w' ⟨rfl, rfl⟩
      go_wp2_with fail
      refine (clone_any A n c l w1 hr1 (by omega)).mono ?_
      rintro e w2 ⟨A2, n2, c2, rfl, hown2', hb2⟩
      have hown2 := own_mono hown2' hbw1.size
      have hbw2 : Below w.heap.size w w2 := hbw1.trans (hb2.mono hbw1.size)
      have c2' := (hB1.below hb2 hB1.lt).cell 0
      have c3' := (hB1.below hb2 hB1.lt).cell 1
      clear hown2'
      go_wp2_with fail
      go_quiet (fail)
      clear q1 q2 q3
      go_wp2_with fail
      go_ret2
      exact ⟨none, 0, 0, ret_se HE.out.symm, by rw [HEL.out]; exact Reads.none_, Nat.le_refl _, below_drewN hbw2 nq⟩
    have HNF : Hid (¬ 512 - (l.length : Int) < (b - 1) / 86400 - a / 86400 + 1) := Lib.hid (by rw [← HFe.out, ← HTe.out, HL.out]; exact hfull)
    go_enter Try.func14, Try.ntmps14
    go_wp2_with fail
    refine C.out.mono ?_
    rintro e w1 ⟨rfl, hb1'⟩
    have hb1 : Below (w.heap.size + 1) (w.alloc (.cells #[.int .i64 a, .int .i64 b] 30)) w1 := hb1'.mono (by simp)
    clear hb1'
    have hbw1 : Below w.heap.size w w1 := HAL.out.trans (hb1.mono (by omega))
    have hB1 := HB0.out.below hb1 (Nat.lt_succ_self _)
    have c0 := hB1.cell 0
    have c1 := hB1.cell 1
    have hr1 : Reads w1 w1.heap.size 2 A n (cellsS l) := (hr.below hbw1).more hbw1.size
    go_wp2_with fail
    refine (within_yes _ _ _ _ ⟨g4, g5⟩).mono ?_
    rintro e w' ⟨rfl, rfl⟩
    go_wp2_with fail
    refine (clone_any A n c l w1 hr1 (by omega)).mono ?_
    rintro e w2 ⟨A2, n2, c2, rfl, hown2', hb2⟩
    have hown2 := own_mono hown2' hbw1.size
    have hbw2 : Below w.heap.size w w2 := hbw1.trans (hb2.mono hbw1.size)
    have c2' := (hB1.below hb2 hB1.lt).cell 0
    have c3' := (hB1.below hb2 hB1.lt).cell 1
    clear hown2'
    go_wp2_with fail
    go_quiet (fail)
    clear q1 q2 q3 c2' c3' c0 c1
    go_wp2_with fail
    have hownd := hown2
    obtain ⟨wz, hwz⟩ : ∃ wz, wz = w2.drewN nq := ⟨_, rfl⟩
    have hownz : wz.ownsRow w.heap.size 41 2 (.slice A2 n2 c2) n2 (cellsS l) := by rw [hwz]; exact hown2
    have hbz : Below w.heap.size w wz := by rw [hwz]; exact below_drewN hbw2 nq
    rw [← hwz]
    clear hownd hwz hown2 hr1 hB1 hbw2 hbw1 hb2
    have HO := Lib.hid hownz
    have HR : Hid (allR l) := Lib.hid HI.out.2.2.2.1
    have HLIM : Hid (0 ≤ lim ∧ lim ≤ 1000000) := Lib.hid ⟨HI.out.1, HI.out.2.1⟩
    clear hownz
    go_loopw [11, 14] (fun o d wr => ∃ (k : Nat) (A' : Option Addr) (n' c' : Nat), (k : Int) ≤ t - f + 1 ∧ d = .int .i64 (f + k) ∧ o = .slice A' n' c' ∧ wr.ownsRow w.heap.size 41 2 (.slice A' n' c') n' (cellsS (l ++ days f units k)) ∧ room l lim f units k ∧ Below w.heap.size w wr) (fun _ d _ => (t + 1 - intOf d).toNat)
    case atStart => exact ⟨0, A2, n2, c2, by omega, by simp, rfl, by simpa [days] using HO.out, room_zero _ _ _ _, hbz⟩
    case round =>
      obtain ⟨k, A', n', c', hk, rfl, rfl, hown, hroom, hbw⟩ := hrel
      have HRO := Lib.hid hroom
      have HOW := Lib.hid hown
      have HN : Hid (n' = n + k) := Lib.hid (by have h1 := recs_len (Reads.of_own hown) encS_len (by omega); rw [List.length_append, days_len, HL.out] at h1; omega)
      have hn' : n' ≤ 60000 := by have := HN.out; omega
      clear hroom hown
      have hrd := (hr.below hbw).more hbw.size
      have hbd := sum_bd HR.out (f + k)
      have hlen := HI.out.2.2.1
      have hlm1 := HLIM.out.1
      have hlm2 := HLIM.out.2
      obtain ⟨b1, b2⟩ := hbd
      have b3 : sumTo l (f + k) ≤ 1000000000 := by omega
      clear b2 hlen
      by_cases hlt : f + (k : Int) ≤ t
      · by_cases hov : units ≤ lim - sumTo l (f + k)
        · have HS := Lib.hid (room_succ HRO.out hov)
          go_wp2_with fail
          refine (sum_any A n c l (f + k) _ hrd (by omega) HR.out).mono ?_
          rintro e w3 ⟨rfl, hb3⟩
          have hown3 := own_below HOW.out hb3
          have hbw3 := hbw.trans (hb3.mono hbw.size)
          go_wp2_with (at_builtin; refine wpList_append_any _ rfl (.tmp 77) (.tmp 81) _ rfl w.heap.size 41 i0 _ 2 16 Try.underlying22 hi0 hz0 hz1 hz2 rfl (by omega) (.slice A' n' c') n' (cellsS (l ++ days f units k)) rfl (hown3.alloc _) (w3.heap.size + 1) (some ⟨w3.heap.size, 0, none⟩) 1 1 (cellsS [(f + (k : Int), units)]) rfl (Reads.fresh w3 41 #[.int .i64 (f + k), .int .i64 units] 1 2 rfl) (one_cells _) (by simp only [maxLen]; omega) (by omega) (by have := hbw3.size; simp; omega) ?_; intro v4 w4 hown4 hg4 hat4; obtain ⟨A4, c4, rfl, _⟩ := own_reads hown4)
          go_roundw
          case rel => exact ⟨k + 1, A4, n' + 1, c4, by omega, by go_num, rfl, by simpa [days, cellsS] using hown4, HS.out, below_own (below_alloc hbw3 (Nat.le_refl _) _) (hown3.alloc _) hg4 (by have := hbw3.size; simp; omega) (Nat.le_refl _)⟩
          case measure => simp [intOf]; omega
        · have HE := Lib.hid (spend_over H0.out HOK.out HAB.out (by have := HNF.out; omega) (by rw [← HFe.out]; intro h; have := h k (by have := HD2.out; omega); omega))
          have HEL : Hid (spendL l lim a b units = []) := Lib.hid (spendL_bad (by rw [HE.out]; decide))
          go_wp2_with fail
          refine (sum_any A n c l (f + k) _ hrd (by omega) HR.out).mono ?_
          rintro e w3 ⟨rfl, hb3⟩
          go_wp2_with fail
          go_ret2
          exact ⟨none, 0, 0, ret_se HE.out.symm, by rw [HEL.out]; exact Reads.none_, Nat.le_refl _, hbw.trans (hb3.mono hbw.size)⟩
      · have hke : nDays a b = k := by have := HD2.out; omega
        have HE := Lib.hid (spend_ok H0.out HOK.out HAB.out (by have := HNF.out; omega) (by rw [hke, ← HFe.out]; exact HRO.out))
        have HEL : Hid (spendL l lim a b units = l ++ days f units k) := Lib.hid (by rw [spendL_ok HE.out HAB.out, hke, ← HFe.out])
        clear hke
        go_wp2_with fail
        go_ret2
        exact ⟨A', n', c', ret_se HE.out.symm, by rw [HEL.out]; exact Reads.of_own HOW.out, own_cap HOW.out, hbw⟩
  · obtain ⟨x, hx⟩ : ∃ x, checkE l lim = x := ⟨_, rfl⟩
    have HE : Hid (spendE l lim a b units = x) := Lib.hid (by rw [spend_check h0, hx])
    have HEL : Hid (spendL l lim a b units = []) := Lib.hid (spendL_bad (by rw [spend_check h0]; exact h0))
    have hx1 : (x != 0) = true := ne0_t (fun e => h0 (hx.trans e))
    rw [hx] at C
    clear h0 hx
    go_enter Try.func14, Try.ntmps14
    go_wp2_with fail
    refine C.out.mono ?_
    rintro e w1 ⟨rfl, hb1'⟩
    have hb1 : Below (w.heap.size + 1) (w.alloc (.cells #[.int .i64 a, .int .i64 b] 30)) w1 := hb1'.mono (by simp)
    clear hb1'
    have hbw1 : Below w.heap.size w w1 := HAL.out.trans (hb1.mono (by omega))
    go_wp2_with fail
    go_ret2
    exact ⟨none, 0, 0, ret_se HE.out.symm, by rw [HEL.out]; exact Reads.none_, Nat.le_refl _, hbw1⟩

set_option maxHeartbeats 2000000 in
set_option maxRecDepth 10000 in
theorem rspend_any (A : Option Addr) (n c : Nat) (l : List Sp) (lim a b units : Int) (w : World) (hr : Reads w w.heap.size 2 A n (cellsS l)) (hn : n ≤ maxLen) :
    Calls Try.prog 15 #[.slice A n c, .int .i64 lim, .agg #[.int .i64 a, .int .i64 b], .int .i64 units] w (RetSC w 2 (cellsS (spendL l lim a b units)) (spendE l lim a b units)) := by
  obtain ⟨i0, hi0, hz0, hz1, hz2⟩ := info_parts Try.info41
  have HL := Lib.hid (recs_len hr encS_len (by omega))
  have hr0 : Reads (w.alloc (.cells #[.int .i64 a, .int .i64 b] 30)) (w.alloc (.cells #[.int .i64 a, .int .i64 b] 30)).heap.size 2 A n (cellsS l) := (hr.alloc (Nat.le_refl _) _).more (by simp)
  have C := Lib.hid (rcheck_any A n c l lim _ _ hr0 hn)
  clear hn
  have hB0 := Blk.new w 30 #[.int .i64 a, .int .i64 b]
  have hal : Below w.heap.size w (w.alloc (.cells #[.int .i64 a, .int .i64 b] 30)) := (Below.refl _ _).alloc (Nat.le_refl _) _
  have HB0 := Lib.hid hB0
  have HAL := Lib.hid hal
  clear hB0 hal hr0
  by_cases h0 : checkE l lim = 0
  · have HI := Lib.hid (check_iff.1 h0)
    have H0 := Lib.hid h0
    rw [h0] at C
    clear h0
    by_cases hbad : a < 0 ∨ b < a ∨ 4294944000 < b ∨ units < 1 ∨ 1000000 < units
    · have HE := Lib.hid (spend_range H0.out hbad)
      have HEL : Hid (spendL l lim a b units = []) := Lib.hid (spendL_bad (by rw [HE.out]; decide))
      have hcs : a < 0 ∨ (0 ≤ a ∧ b < a) ∨ (0 ≤ a ∧ a ≤ b ∧ 4294944000 < b) ∨ (0 ≤ a ∧ a ≤ b ∧ b ≤ 4294944000 ∧ units < 1) ∨ (0 ≤ a ∧ a ≤ b ∧ b ≤ 4294944000 ∧ 1000000 < units) := by omega
      clear hbad
      rcases hcs with g1 | ⟨g1, g2⟩ | ⟨g1, g2, g3⟩ | ⟨g1, g2, g3, g4⟩ | ⟨g1, g2, g3, g4⟩
      all_goals
        go_enter Try.func15, Try.ntmps15
        go_wp2_with fail
        refine C.out.mono ?_
        rintro e w1 ⟨rfl, hw1⟩
        have hb1 : Below (w.heap.size + 1) (w.alloc (.cells #[.int .i64 a, .int .i64 b] 30)) w1 := by rw [← hw1]; exact Below.refl _ _
        clear hw1
        have hbw1 : Below w.heap.size w w1 := HAL.out.trans (hb1.mono (by omega))
        have c0 := (HB0.out.below hb1 (Nat.lt_succ_self _)).cell 0
        have c1 := (HB0.out.below hb1 (Nat.lt_succ_self _)).cell 1
        go_wp2_with fail
        go_ret2
        exact ⟨none, 0, 0, ret_se HE.out.symm, by rw [HEL.out]; exact Reads.none_, Nat.le_refl _, hbw1⟩
    have g1 : 0 ≤ a := by omega
    have g2 : a ≤ b := by omega
    have g3 : b ≤ 4294944000 := by omega
    have g4 : 1 ≤ units := by omega
    have g5 : units ≤ 1000000 := by omega
    have HOK := Lib.hid hbad
    clear hbad
    have hn5 : n ≤ 512 := by have := HL.out; have := HI.out.2.2.1; omega
    by_cases hab : a = b
    · have HE := Lib.hid (spend_none H0.out HOK.out hab)
      have HEL := Lib.hid (spendL_same HE.out hab)
      have hab' : (a == b) = true := beq_iff_eq.2 hab
      clear hab
      go_enter Try.func15, Try.ntmps15
      go_wp2_with fail
      refine C.out.mono ?_
      rintro e w1 ⟨rfl, hw1⟩
      have hb1 : Below (w.heap.size + 1) (w.alloc (.cells #[.int .i64 a, .int .i64 b] 30)) w1 := by rw [← hw1]; exact Below.refl _ _
      clear hw1
      have hbw1 : Below w.heap.size w w1 := HAL.out.trans (hb1.mono (by omega))
      have hB1 := HB0.out.below hb1 (Nat.lt_succ_self _)
      have c0 := hB1.cell 0
      have c1 := hB1.cell 1
      have hr1 : Reads w1 w1.heap.size 2 A n (cellsS l) := (hr.below hbw1).more hbw1.size
      go_wp2_with (at_builtin; refine wpList_append_any _ rfl (.tmp 44) (.tmp 45) _ rfl w.heap.size 41 i0 _ 2 16 Try.underlying22 hi0 hz0 hz1 hz2 rfl (by omega) (.slice (some ⟨w1.heap.size, 0, none⟩) 0 0) 0 [] rfl (World.ownsRow_made (size := 2) w1 #[] 0 hbw1.size (Nat.zero_le _) rfl) w1.heap.size A n c (cellsS l) rfl (hr1.alloc (Nat.le_refl _) _) (one_cells l) (by simp only [maxLen]; omega) (by omega) (by have := hbw1.size; simp; omega) ?_; intro v2 w2 hown2 hg2 hat2; simp only [Nat.zero_add, List.nil_append] at hown2; obtain ⟨A2, c2, rfl, _⟩ := own_reads hown2; have c2' := (Blk.grown (hB1.alloc (.cells #[] 41)) hg2 (by have := hB1.lt; simp [Value.ownBlock]; omega)).cell 0; have c3' := (Blk.grown (hB1.alloc (.cells #[] 41)) hg2 (by have := hB1.lt; simp [Value.ownBlock]; omega)).cell 1; have hbw2 : Below w.heap.size w w2 := below_own (hbw1.alloc hbw1.size _) (World.ownsRow_made (size := 2) w1 #[] 0 hbw1.size (Nat.zero_le _) rfl) hg2 (by have := hbw1.size; simp; omega) (Nat.le_refl _))
      go_ret2
      exact ⟨A2, _, c2, ret_se HE.out.symm, by rw [HEL.out]; exact Reads.of_own hown2, own_cap hown2, hbw2⟩
    have hab' : (a == b) = false := beq_eq_false_iff_ne.2 hab
    have g6 : a < b := by omega
    have q1 : IntKind.i64.wrap (a.tdiv 86400) = a / 86400 := IntWalk.i64_quo _ _ (by omega)
    have q2 : IntKind.i64.wrap (b - 1) = b - 1 := IntWalk.i64_in _ (by omega)
    have q3 : IntKind.i64.wrap ((b - 1).tdiv 86400) = (b - 1) / 86400 := IntWalk.i64_quo _ _ (by omega)
    have HAB := Lib.hid hab
    clear hab
    have HD : Hid (((nDays a b : Nat) : Int) = (b - 1) / 86400 - a / 86400 + 1) := Lib.hid (by unfold nDays; omega)
    obtain ⟨f, hf⟩ : ∃ f, f = a / 86400 := ⟨_, rfl⟩
    obtain ⟨t, ht⟩ : ∃ t, t = (b - 1) / 86400 := ⟨_, rfl⟩
    have hf1 : 0 ≤ f ∧ f ≤ 49710 := by omega
    have ht1 : f ≤ t ∧ t ≤ 49710 := by omega
    rw [← hf] at q1
    rw [← ht] at q3
    have HD2 : Hid (((nDays a b : Nat) : Int) = t - f + 1) := Lib.hid (by rw [HD.out, hf, ht])
    have HFe := Lib.hid hf
    have HTe := Lib.hid ht
    obtain ⟨hf1, hf2⟩ := hf1
    obtain ⟨ht1, ht2⟩ := ht1
    clear hf ht
    by_cases hfull : 512 - (n : Int) < t - f + 1
    · have HE := Lib.hid (spend_full H0.out HOK.out HAB.out (by rw [← HFe.out, ← HTe.out, HL.out]; exact hfull))
      have HEL : Hid (spendL l lim a b units = []) := Lib.hid (spendL_bad (by rw [HE.out]; decide))
      go_enter Try.func15, Try.ntmps15
      go_wp2_with fail
      refine C.out.mono ?_
      rintro e w1 ⟨rfl, hw1⟩
      have hb1 : Below (w.heap.size + 1) (w.alloc (.cells #[.int .i64 a, .int .i64 b] 30)) w1 := by rw [← hw1]; exact Below.refl _ _
      clear hw1
      have hbw1 : Below w.heap.size w w1 := HAL.out.trans (hb1.mono (by omega))
      have hB1 := HB0.out.below hb1 (Nat.lt_succ_self _)
      have c0 := hB1.cell 0
      have c1 := hB1.cell 1
      have hr1 : Reads w1 w1.heap.size 2 A n (cellsS l) := (hr.below hbw1).more hbw1.size
      go_wp2_with (at_builtin; refine wpList_append_any _ rfl (.tmp 44) (.tmp 45) _ rfl w.heap.size 41 i0 _ 2 16 Try.underlying22 hi0 hz0 hz1 hz2 rfl (by omega) (.slice (some ⟨w1.heap.size, 0, none⟩) 0 0) 0 [] rfl (World.ownsRow_made (size := 2) w1 #[] 0 hbw1.size (Nat.zero_le _) rfl) w1.heap.size A n c (cellsS l) rfl (hr1.alloc (Nat.le_refl _) _) (one_cells l) (by simp only [maxLen]; omega) (by omega) (by have := hbw1.size; simp; omega) ?_; intro v2 w2 hown2 hg2 hat2; simp only [Nat.zero_add, List.nil_append] at hown2; obtain ⟨A2, c2, rfl, _⟩ := own_reads hown2; have c2' := (Blk.grown (hB1.alloc (.cells #[] 41)) hg2 (by have := hB1.lt; simp [Value.ownBlock]; omega)).cell 0; have c3' := (Blk.grown (hB1.alloc (.cells #[] 41)) hg2 (by have := hB1.lt; simp [Value.ownBlock]; omega)).cell 1; have hbw2 : Below w.heap.size w w2 := below_own (hbw1.alloc hbw1.size _) (World.ownsRow_made (size := 2) w1 #[] 0 hbw1.size (Nat.zero_le _) rfl) hg2 (by have := hbw1.size; simp; omega) (Nat.le_refl _))
      go_quiet (fail)
      clear q1 q2 q3
      go_wp2_with fail
      go_ret2
      exact ⟨none, 0, 0, ret_se HE.out.symm, by rw [HEL.out]; exact Reads.none_, Nat.le_refl _, below_drewN hbw2 nq⟩
    have HNF : Hid (¬ 512 - (l.length : Int) < (b - 1) / 86400 - a / 86400 + 1) := Lib.hid (by rw [← HFe.out, ← HTe.out, HL.out]; exact hfull)
    go_enter Try.func15, Try.ntmps15
    go_wp2_with fail
    refine C.out.mono ?_
    rintro e w1 ⟨rfl, hw1⟩
    have hb1 : Below (w.heap.size + 1) (w.alloc (.cells #[.int .i64 a, .int .i64 b] 30)) w1 := by rw [← hw1]; exact Below.refl _ _
    clear hw1
    have hbw1 : Below w.heap.size w w1 := HAL.out.trans (hb1.mono (by omega))
    have hB1 := HB0.out.below hb1 (Nat.lt_succ_self _)
    have c0 := hB1.cell 0
    have c1 := hB1.cell 1
    have hr1 : Reads w1 w1.heap.size 2 A n (cellsS l) := (hr.below hbw1).more hbw1.size
    go_wp2_with (at_builtin; refine wpList_append_any _ rfl (.tmp 44) (.tmp 45) _ rfl w.heap.size 41 i0 _ 2 16 Try.underlying22 hi0 hz0 hz1 hz2 rfl (by omega) (.slice (some ⟨w1.heap.size, 0, none⟩) 0 0) 0 [] rfl (World.ownsRow_made (size := 2) w1 #[] 0 hbw1.size (Nat.zero_le _) rfl) w1.heap.size A n c (cellsS l) rfl (hr1.alloc (Nat.le_refl _) _) (one_cells l) (by simp only [maxLen]; omega) (by omega) (by have := hbw1.size; simp; omega) ?_; intro v2 w2 hown2 hg2 hat2; simp only [Nat.zero_add, List.nil_append] at hown2; obtain ⟨A2, c2, rfl, _⟩ := own_reads hown2; have c2' := (Blk.grown (hB1.alloc (.cells #[] 41)) hg2 (by have := hB1.lt; simp [Value.ownBlock]; omega)).cell 0; have c3' := (Blk.grown (hB1.alloc (.cells #[] 41)) hg2 (by have := hB1.lt; simp [Value.ownBlock]; omega)).cell 1; have hbw2 : Below w.heap.size w w2 := below_own (hbw1.alloc hbw1.size _) (World.ownsRow_made (size := 2) w1 #[] 0 hbw1.size (Nat.zero_le _) rfl) hg2 (by have := hbw1.size; simp; omega) (Nat.le_refl _))
    go_quiet (fail)
    clear q1 q2 q3 c2' c3' c0 c1
    go_wp2_with fail
    have hownd := hown2
    obtain ⟨wz, hwz⟩ : ∃ wz, wz = w2.drewN nq := ⟨_, rfl⟩
    have hownz : wz.ownsRow w.heap.size 41 2 (.slice A2 n c2) n (cellsS l) := by rw [hwz]; exact hown2
    have hbz : Below w.heap.size w wz := by rw [hwz]; exact below_drewN hbw2 nq
    rw [← hwz]
    clear hownd hwz hown2 hr1 hB1 hbw2 hbw1
    have HO := Lib.hid hownz
    have HR : Hid (allR l) := Lib.hid HI.out.2.2.2.1
    have HLIM : Hid (0 ≤ lim ∧ lim ≤ 1000000) := Lib.hid ⟨HI.out.1, HI.out.2.1⟩
    clear hownz
    go_loopw [11, 14] (fun o d wr => ∃ (k : Nat) (A' : Option Addr) (n' c' : Nat), (k : Int) ≤ t - f + 1 ∧ d = .int .i64 (f + k) ∧ o = .slice A' n' c' ∧ wr.ownsRow w.heap.size 41 2 (.slice A' n' c') n' (cellsS (l ++ days f units k)) ∧ room l lim f units k ∧ Below w.heap.size w wr) (fun _ d _ => (t + 1 - intOf d).toNat)
    case atStart => exact ⟨0, A2, n, c2, by omega, by simp, rfl, by simpa [days] using HO.out, room_zero _ _ _ _, hbz⟩
    case round =>
      obtain ⟨k, A', n', c', hk, rfl, rfl, hown, hroom, hbw⟩ := hrel
      have HRO := Lib.hid hroom
      have HOW := Lib.hid hown
      have HN : Hid (n' = n + k) := Lib.hid (by have h1 := recs_len (Reads.of_own hown) encS_len (by omega); rw [List.length_append, days_len, HL.out] at h1; omega)
      have hn' : n' ≤ 60000 := by have := HN.out; omega
      clear hroom hown
      have hrd := (hr.below hbw).more hbw.size
      have hbd := sum_bd HR.out (f + k)
      have hlen := HI.out.2.2.1
      have hlm1 := HLIM.out.1
      have hlm2 := HLIM.out.2
      obtain ⟨b1, b2⟩ := hbd
      have b3 : sumTo l (f + k) ≤ 1000000000 := by omega
      clear b2 hlen
      by_cases hlt : f + (k : Int) ≤ t
      · by_cases hov : units ≤ lim - sumTo l (f + k)
        · have HS := Lib.hid (room_succ HRO.out hov)
          go_wp2_with fail
          refine (spent_any A n c l (f + k) _ _ hrd (by omega) HR.out).mono ?_
          rintro e w3 ⟨rfl, hw3⟩
          have hb3 : Below wr.heap.size wr w3 := by rw [← hw3]; exact Below.refl _ _
          clear hw3
          have hown3 := own_below HOW.out hb3
          have hbw3 := hbw.trans (hb3.mono hbw.size)
          go_wp2_with (at_builtin; refine wpList_append_any _ rfl (.tmp 81) (.tmp 85) _ rfl w.heap.size 41 i0 _ 2 16 Try.underlying22 hi0 hz0 hz1 hz2 rfl (by omega) (.slice A' n' c') n' (cellsS (l ++ days f units k)) rfl (hown3.alloc _) (w3.heap.size + 1) (some ⟨w3.heap.size, 0, none⟩) 1 1 (cellsS [(f + (k : Int), units)]) rfl (Reads.fresh w3 41 #[.int .i64 (f + k), .int .i64 units] 1 2 rfl) (one_cells _) (by simp only [maxLen]; omega) (by omega) (by have := hbw3.size; simp; omega) ?_; intro v4 w4 hown4 hg4 hat4; obtain ⟨A4, c4, rfl, _⟩ := own_reads hown4)
          go_roundw
          case rel => exact ⟨k + 1, A4, n' + 1, c4, by omega, by go_num, rfl, by simpa [days, cellsS] using hown4, HS.out, below_own (below_alloc hbw3 (Nat.le_refl _) _) (hown3.alloc _) hg4 (by have := hbw3.size; simp; omega) (Nat.le_refl _)⟩
          case measure => simp [intOf]; omega
        · have HE := Lib.hid (spend_over H0.out HOK.out HAB.out (by have := HNF.out; omega) (by rw [← HFe.out]; intro h; have := h k (by have := HD2.out; omega); omega))
          have HEL : Hid (spendL l lim a b units = []) := Lib.hid (spendL_bad (by rw [HE.out]; decide))
          go_wp2_with fail
          refine (spent_any A n c l (f + k) _ _ hrd (by omega) HR.out).mono ?_
          rintro e w3 ⟨rfl, hw3⟩
          have hb3 : Below wr.heap.size wr w3 := by rw [← hw3]; exact Below.refl _ _
          clear hw3
          go_wp2_with fail
          go_ret2
          exact ⟨none, 0, 0, ret_se HE.out.symm, by rw [HEL.out]; exact Reads.none_, Nat.le_refl _, hbw.trans (hb3.mono hbw.size)⟩
      · have hke : nDays a b = k := by have := HD2.out; omega
        have HE := Lib.hid (spend_ok H0.out HOK.out HAB.out (by have := HNF.out; omega) (by rw [hke, ← HFe.out]; exact HRO.out))
        have HEL : Hid (spendL l lim a b units = l ++ days f units k) := Lib.hid (by rw [spendL_ok HE.out HAB.out, hke, ← HFe.out])
        clear hke
        go_wp2_with fail
        go_ret2
        exact ⟨A', n', c', ret_se HE.out.symm, by rw [HEL.out]; exact Reads.of_own HOW.out, own_cap HOW.out, hbw⟩
  · obtain ⟨x, hx⟩ : ∃ x, checkE l lim = x := ⟨_, rfl⟩
    have HE : Hid (spendE l lim a b units = x) := Lib.hid (by rw [spend_check h0, hx])
    have HEL : Hid (spendL l lim a b units = []) := Lib.hid (spendL_bad (by rw [spend_check h0]; exact h0))
    have hx1 : (x != 0) = true := ne0_t (fun e => h0 (hx.trans e))
    rw [hx] at C
    clear h0 hx
    go_enter Try.func15, Try.ntmps15
    go_wp2_with fail
    refine C.out.mono ?_
    rintro e w1 ⟨rfl, hw1⟩
    have hb1 : Below (w.heap.size + 1) (w.alloc (.cells #[.int .i64 a, .int .i64 b] 30)) w1 := by rw [← hw1]; exact Below.refl _ _
    clear hw1
    have hbw1 : Below w.heap.size w w1 := HAL.out.trans (hb1.mono (by omega))
    go_wp2_with fail
    go_ret2
    exact ⟨none, 0, 0, ret_se HE.out.symm, by rw [HEL.out]; exact Reads.none_, Nat.le_refl _, hbw1⟩
end Go.Proofs.Ytdfmngnhmiemgaa
