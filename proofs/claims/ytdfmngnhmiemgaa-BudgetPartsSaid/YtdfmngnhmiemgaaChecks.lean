/- The walks of both Check and both Left. -/
import Derived.Test.YtdfmngnhmiemgaaCheck
namespace Go.Proofs.Ytdfmngnhmiemgaa
open Go.RowKit Go.Maps
theorem intLaw : Keyed Try.prog 3 := int_keyed Try.underlying3
theorem zero3 (w : World) : (zeroValue 3).run Try.prog w = .ok (.int .i64 0) w := by kernel_rfl

theorem notR_cases {p : Sp} (h : ¬ inR p) : (p.1 < 0 ∨ 49709 < p.1) ∨ (0 ≤ p.1 ∧ p.1 ≤ 49709) ∧ (p.2 < 1 ∨ 1000000 < p.2) := by
  unfold inR at h; omega

set_option maxHeartbeats 1000000 in
set_option maxRecDepth 10000 in
theorem check_any (A : Option Addr) (n c : Nat) (l : List Sp) (lim : Int) (w : World) (hr : Reads w w.heap.size 2 A n (cellsS l)) (hn : n ≤ maxLen) :
    Calls Try.prog 12 #[.slice A n c, .int .i64 lim] w (RetI w (checkE l lim)) := by
  unfold maxLen at hn
  have HL := Lib.hid (recs_len hr encS_len (by omega))
  by_cases g1 : lim < 0 ∨ 1000000 < lim
  · have HE := Lib.hid (check_lim (l := l) g1)
    have HG := Lib.hid g1
    clear g1
    go_enter Try.func12, Try.ntmps12
    go_wp2_with fail
    refine (within_no _ _ _ _ HG.out).mono ?_
    rintro e w' ⟨rfl, rfl⟩
    go_wp2_with fail
    go_ret
    exact ⟨ret_int HE.out.symm, Below.refl _ _⟩
  have g2 : 0 ≤ lim := by omega
  have g3 : lim ≤ 1000000 := by omega
  clear g1
  by_cases g4 : 512 < n
  · have HE := Lib.hid (check_full g2 g3 (by rw [HL.out]; exact g4))
    go_enter Try.func12, Try.ntmps12
    go_wp2_with fail
    refine (within_yes _ _ _ _ ⟨g2, g3⟩).mono ?_
    rintro e w' ⟨rfl, rfl⟩
    go_wp2_with fail
    go_ret
    exact ⟨ret_int HE.out.symm, Below.refl _ _⟩
  have hl5 : l.length ≤ 512 := by have := HL.out; omega
  have HR : Hid (¬ allR l → checkE l lim = 1) := Lib.hid fun h => check_range g2 g3 hl5 h
  have HO : Hid (allR l → ¬ fitsIn l lim → checkE l lim = 31) := Lib.hid fun h h' => check_over g2 g3 hl5 h h'
  have HF : Hid (allR l → fitsIn l lim → checkE l lim = 0) := Lib.hid fun h h' => check_ok g2 g3 hl5 h h'
  have hmm := @run_makeMap Try.prog
  clear hl5
  go_enter Try.func12, Try.ntmps12
  go_wp2_with fail
  refine (within_yes _ _ _ _ ⟨g2, g3⟩).mono ?_
  rintro e w' ⟨rfl, rfl⟩
  go_wp2_with fail
  go_loopw [18] (fun i wr => ∃ k : Nat, k ≤ n ∧ i = .int .i64 k ∧ (∀ j (hj : j < l.length), j < k → inR l[j]) ∧ Below w.heap.size w wr) (fun i _ => n - (intOf i).toNat)
  case atStart => exact ⟨0, Nat.zero_le _, rfl, fun _ _ h => absurd h (Nat.not_lt_zero _), Below.refl _ _⟩
  case round =>
    obtain ⟨k, hk, rfl, hin, hbw⟩ := hrel
    have HI := Lib.hid hin
    clear hin
    by_cases hlt : k < n
    · obtain ⟨b, off, rfl, hb, hc⟩ := (hr.below hbw).recs encS_len (by omega) (by omega)
      have hkl : k < l.length := by have := HL.out; omega
      have c0 : wr.cell? ⟨b, off + k * 2, none⟩ = some (.int .i64 l[k].1) := hc k hkl 0 _ rfl
      have c1 : wr.cell? ⟨b, off + k * 2 + 1, none⟩ = some (.int .i64 l[k].2) := hc k hkl 1 _ rfl
      clear hc
      by_cases hR : inR l[k]
      · have HRk := Lib.hid hR
        obtain ⟨i1, i2, i3, i4⟩ := hR
        go_wp2_with fail
        refine (within_yes _ _ _ _ ⟨i1, i2⟩).mono ?_
        rintro e w' ⟨rfl, rfl⟩
        go_wp2_with fail
        refine (within_yes _ _ _ _ ⟨i3, i4⟩).mono ?_
        rintro e w' ⟨rfl, rfl⟩
        go_wp2_with fail
        go_roundw
        case rel =>
          refine ⟨k + 1, by omega, by go_num, fun j hj hjk => ?_, below_alloc hbw (Nat.le_refl _) _⟩
          rcases Nat.lt_or_eq_of_le (Nat.lt_succ_iff.1 hjk) with h' | rfl
          · exact HI.out j hj h'
          · exact HRk.out
        case measure => simp [intOf]; omega
      · have HE := Lib.hid (HR.out fun h => hR (h _ (List.getElem_mem hkl)))
        rcases notR_cases hR with h | ⟨⟨h1, h2⟩, h⟩
        · have HH := Lib.hid h
          clear h hR
          go_wp2_with fail
          refine (within_no _ _ _ _ HH.out).mono ?_
          rintro e w' ⟨rfl, rfl⟩
          go_wp2_with fail
          go_ret
          exact ⟨ret_int HE.out.symm, below_alloc hbw (Nat.le_refl _) _⟩
        · have HH := Lib.hid h
          clear h hR
          go_wp2_with fail
          refine (within_yes _ _ _ _ ⟨h1, h2⟩).mono ?_
          rintro e w' ⟨rfl, rfl⟩
          go_wp2_with fail
          refine (within_no _ _ _ _ HH.out).mono ?_
          rintro e w' ⟨rfl, rfl⟩
          go_wp2_with fail
          go_ret
          exact ⟨ret_int HE.out.symm, below_alloc hbw (Nat.le_refl _) _⟩
    · have HA : Hid (allR l) := Lib.hid fun p hp => by
        obtain ⟨j, hj, rfl⟩ := List.getElem_of_mem hp
        exact HI.out j hj (by have := HL.out; omega)
      obtain ⟨w0, rfl⟩ : ∃ w0 : World, w0 = wr := ⟨_, rfl⟩
      have hsz := hbw.size
      go_wp2_with fail
      go_loopw [36] (fun i wr => ∃ (k : Nat) (f : Lit → Option Int), k ≤ n ∧ i = .int .i64 k ∧ fitsTo l lim k ∧ MapI Try.prog 3 3 wr w0.heap.size k f ∧ (∀ d, (f (.int .i64 d)).getD 0 = sumTo (l.take k) d) ∧ Below w.heap.size w wr) (fun i _ => n - (intOf i).toNat)
      case atStart => exact ⟨0, _, Nat.zero_le _, rfl, fun _ _ h => absurd h (Nat.not_lt_zero _), MapI.made w0 _ _ _, fun d => by simp [sumTo], hbw.alloc hbw.size _⟩
      case round =>
        obtain ⟨m, f, hm, rfl, hfit, hmap, hf, hbw2⟩ := hrel
        have HFT := Lib.hid hfit
        have HF2 := Lib.hid hf
        clear hfit hf
        by_cases hmt : m < n
        · obtain ⟨b, off, rfl, hb, hc⟩ := (hr.below hbw2).recs encS_len (by omega) (by omega)
          have hml : m < l.length := by have := HL.out; omega
          have c0 : wr.cell? ⟨b, off + m * 2, none⟩ = some (.int .i64 l[m].1) := hc m hml 0 _ rfl
          have c1 : wr.cell? ⟨b, off + m * 2 + 1, none⟩ = some (.int .i64 l[m].2) := hc m hml 1 _ rfl
          clear hc
          obtain ⟨i1, i2, i3, i4⟩ := HA.out _ (List.getElem_mem hml)
          have hbd := sum_bd (allR_take HA.out m) l[m].1
          have hlen : (l.take m).length ≤ 1000 := by rw [List.length_take]; omega
          obtain ⟨b1, b2⟩ := hbd
          have b3 : sumTo (l.take m) l[m].1 ≤ 1000000000 := by omega
          have HS : Hid (sumTo (l.take (m + 1)) l[m].1 = sumTo (l.take m) l[m].1 + l[m].2) := Lib.hid (by rw [sumTo_succ hml, if_pos rfl])
          have hkey : keyOf Try.prog 3 (.int .i64 l[m].1) = some (.int .i64 l[m].1) := keyOf_int_mk Try.underlying3 (WalkArith.wf_i64 (by omega))
          have HK := Lib.hid hkey
          have hmap2 := hmap.alloc (.cells #[.int .i64 l[m].1, .int .i64 l[m].2] 41)
          have hrun := hmap2.look1 intLaw Try.underlying46 Try.underlying3 (zero3 _) HK.out
          rw [HF2.out] at hrun
          have HF3 : Hid (∀ d, (updL f (.int .i64 l[m].1) (sumTo (l.take m) l[m].1 + l[m].2) (.int .i64 d)).getD 0 = sumTo (l.take (m + 1)) d) := Lib.hid fun d => by
            by_cases hd : l[m].1 = d
            · subst hd; rw [updL_same, HS.out]; rfl
            · rw [updL_other f (fun e => hd (by injection e with _ e; exact e.symm)), HF2.out, sumTo_succ hml, if_neg hd]; omega
          clear b2 hlen hkey
          have hmx : (m : Int) < 1000 := by omega
          by_cases hov : sumTo (l.take m) l[m].1 + l[m].2 ≤ lim
          all_goals
            go_wp2_with (at_mapUpdate; refine wpList_putI _ rfl _ _ _ 46 rfl 3 3 intLaw Try.underlying46 Try.underlying3 w0.heap.size m f rfl hmap2 (by unfold maxLen; omega) _ _ (sumTo (l.take m) l[m].1 + l[m].2) rfl rfl HK.out trivial (WalkArith.wf_i64 (by omega)) ?_; intro w2 hM2 hg2; have hrun2 := hM2.look1 intLaw Try.underlying46 Try.underlying3 (zero3 _) HK.out; rw [HF3.out, HS.out] at hrun2; have c2 := (hg2.cell (a := ⟨wr.heap.size, 0, none⟩) (v := .int .i64 l[m].1) ((Blk.new wr 41 _).cell 0) (by have := hmap.lt; simp; omega)); have c3 := (hg2.cell (a := ⟨wr.heap.size, 1, none⟩) (v := .int .i64 l[m].2) ((Blk.new wr 41 _).cell 1) (by have := hmap.lt; simp; omega)))
          · go_roundw
            case rel => exact ⟨m + 1, _, by omega, by go_num, fitsTo_succ HFT.out hml (by rw [HS.out]; exact hov), hM2, HF3.out, (below_alloc hbw2 (Nat.le_refl _) _).grown hg2 (by have := hbw2.size; simp; omega) (fun k hk => by cases hk; exact hsz)⟩
            case measure => simp [intOf]; omega
          · go_ret
            exact ⟨ret_int (HO.out HA.out (fitsTo_no HA.out hml (by rw [HS.out]; omega))).symm, (below_alloc hbw2 (Nat.le_refl _) _).grown hg2 (by have := hbw2.size; simp; omega) (fun k hk => by cases hk; exact hsz)⟩
        · have e : m = l.length := by have := HL.out; omega
          have HE := Lib.hid (HF.out HA.out (fitsTo_all g2 (e ▸ HFT.out)))
          clear e
          go_wp2_with fail
          go_ret
          exact ⟨ret_int HE.out.symm, hbw2⟩

set_option maxHeartbeats 1000000 in
set_option maxRecDepth 10000 in
theorem rcheck_any (A : Option Addr) (n c : Nat) (l : List Sp) (lim : Int) (B : Nat) (w : World) (hr : Reads w B 2 A n (cellsS l)) (hn : n ≤ maxLen) :
    Calls Try.prog 13 #[.slice A n c, .int .i64 lim] w fun e w' => e = .returned (.int .i64 (checkE l lim)) ∧ w = w' := by
  unfold maxLen at hn
  have HL := Lib.hid (recs_len hr encS_len (by omega))
  by_cases g1 : lim < 0 ∨ 1000000 < lim
  · have HE := Lib.hid (check_lim (l := l) g1)
    rcases g1 with g1 | g1
    all_goals
      go_enter Try.func13, Try.ntmps13
      go_wp2_with fail
      go_ret
      exact ⟨ret_int HE.out.symm, rfl⟩
  have g2 : 0 ≤ lim := by omega
  have g3 : lim ≤ 1000000 := by omega
  clear g1
  by_cases g4 : 512 < n
  · have HE := Lib.hid (check_full g2 g3 (by rw [HL.out]; exact g4))
    go_enter Try.func13, Try.ntmps13
    go_wp2_with fail
    go_ret
    exact ⟨ret_int HE.out.symm, rfl⟩
  have hl5 : l.length ≤ 512 := by have := HL.out; omega
  have HR : Hid (¬ allR l → checkE l lim = 1) := Lib.hid fun h => check_range g2 g3 hl5 h
  have HO : Hid (allR l → ¬ fitsIn l lim → checkE l lim = 31) := Lib.hid fun h h' => check_over g2 g3 hl5 h h'
  have HF : Hid (allR l → fitsIn l lim → checkE l lim = 0) := Lib.hid fun h h' => check_ok g2 g3 hl5 h h'
  clear hl5
  go_enter Try.func13, Try.ntmps13
  go_wp2_with fail
  go_loop [5] (fun i => ∃ k : Nat, k ≤ n ∧ i = .int .i64 k ∧ (∀ j (hj : j < l.length), j < k → inR l[j])) (fun i => n - (intOf i).toNat)
  case atStart => exact ⟨0, Nat.zero_le _, rfl, fun _ _ h => absurd h (Nat.not_lt_zero _)⟩
  case round =>
    obtain ⟨k, hk, rfl, hin⟩ := hrel
    have HI := Lib.hid hin
    clear hin
    by_cases hlt : k < n
    · obtain ⟨b, off, rfl, hb, hc⟩ := hr.recs encS_len (by omega) (by omega)
      have hkl : k < l.length := by have := HL.out; omega
      have c0 : w.cell? ⟨b, off + k * 2, none⟩ = some (.int .i64 l[k].1) := hc k hkl 0 _ rfl
      have c1 : w.cell? ⟨b, off + k * 2 + 1, none⟩ = some (.int .i64 l[k].2) := hc k hkl 1 _ rfl
      clear hc
      by_cases hR : inR l[k]
      · have HRk := Lib.hid hR
        obtain ⟨i1, i2, i3, i4⟩ := hR
        go_wp2_with fail
        go_round
        case rel =>
          refine ⟨k + 1, by omega, by go_num, fun j hj hjk => ?_⟩
          rcases Nat.lt_or_eq_of_le (Nat.lt_succ_iff.1 hjk) with h' | rfl
          · exact HI.out j hj h'
          · exact HRk.out
        case measure => simp [intOf]; omega
      · have HE := Lib.hid (HR.out fun h => hR (h _ (List.getElem_mem hkl)))
        rcases notR_cases hR with (h | h) | ⟨⟨h1, h2⟩, h | h⟩
        all_goals
          clear hR
          go_wp2_with fail
          go_ret
          exact ⟨ret_int HE.out.symm, rfl⟩
    · have HA : Hid (allR l) := Lib.hid fun p hp => by
        obtain ⟨j, hj, rfl⟩ := List.getElem_of_mem hp
        exact HI.out j hj (by have := HL.out; omega)
      go_wp2_with fail
      go_loop [6] (fun i => ∃ k : Nat, k ≤ n ∧ i = .int .i64 k ∧ (∀ j (hj : j < l.length), j < k → sumTo l l[j].1 ≤ lim)) (fun i => n - (intOf i).toNat)
      case atStart => exact ⟨0, Nat.zero_le _, rfl, fun _ _ h => absurd h (Nat.not_lt_zero _)⟩
      case round =>
        obtain ⟨m, hm, rfl, hfit⟩ := hrel
        have HFT := Lib.hid hfit
        clear hfit
        by_cases hmt : m < n
        · obtain ⟨b, off, rfl, hb, hc⟩ := hr.recs encS_len (by omega) (by omega)
          have hml : m < l.length := by have := HL.out; omega
          have c0 : w.cell? ⟨b, off + m * 2, none⟩ = some (.int .i64 l[m].1) := hc m hml 0 _ rfl
          clear hc
          have C22 := Lib.hid (spent_any (some ⟨b, off, none⟩) n c l l[m].1 B w hr (by omega) HA.out)
          by_cases hov : sumTo l l[m].1 ≤ lim
          · go_wp2_with (go_at_call 22; refine C22.out.mono ?_; rintro e w' ⟨rfl, rfl⟩)
            go_round
            case rel =>
              refine ⟨m + 1, by omega, by go_num, fun j hj hjk => ?_⟩
              rcases Nat.lt_or_eq_of_le (Nat.lt_succ_iff.1 hjk) with h' | rfl
              · exact HFT.out j hj h'
              · exact hov
            case measure => simp [intOf]; omega
          · have HE := Lib.hid (HO.out HA.out fun h => hov (h _ (List.getElem_mem hml)))
            go_wp2_with (go_at_call 22; refine C22.out.mono ?_; rintro e w' ⟨rfl, rfl⟩)
            go_ret
            exact ⟨ret_int HE.out.symm, rfl⟩
        · have HE := Lib.hid (HF.out HA.out fun p hp => by
            obtain ⟨j, hj, rfl⟩ := List.getElem_of_mem hp
            exact HFT.out j hj (by have := HL.out; omega))
          go_wp2_with fail
          go_ret
          exact ⟨ret_int HE.out.symm, rfl⟩

/-! Left. -/
set_option maxHeartbeats 1000000 in
set_option maxRecDepth 10000 in
theorem left_any (A : Option Addr) (n c : Nat) (l : List Sp) (lim day : Int) (w : World) (hr : Reads w w.heap.size 2 A n (cellsS l)) (hn : n ≤ maxLen) :
    Calls Try.prog 10 #[.slice A n c, .int .i64 lim, .int .i64 day] w (RetII w (leftN l lim day) (leftE l lim day)) := by
  have HL := Lib.hid (recs_len hr encS_len (by omega))
  have C12 := Lib.hid (check_any A n c l lim w hr hn)
  clear hn
  by_cases h0 : checkE l lim = 0
  · have HI := Lib.hid (check_iff.1 h0)
    have H0 := Lib.hid h0
    rw [h0] at C12
    by_cases hd : day < 0 ∨ 49709 < day
    · have HD := Lib.hid hd
      have HE := Lib.hid (left_day h0 hd)
      clear h0 hd
      go_enter Try.func10, Try.ntmps10
      go_wp2_with fail
      refine C12.out.mono ?_
      rintro e w1 ⟨rfl, hb⟩
      go_wp2_with fail
      refine (within_no _ _ _ _ HD.out).mono ?_
      rintro e w' ⟨rfl, rfl⟩
      go_wp2_with fail
      go_ret2
      exact ⟨ret_ii HE.out.2.symm HE.out.1.symm, hb⟩
    · have d1 : 0 ≤ day := by omega
      have d2 : day ≤ 49709 := by omega
      have HE := Lib.hid (left_ok h0 d1 d2)
      have hbd := sum_bd HI.out.2.2.2.1 day
      have hlim := HI.out.1
      have hlim2 := HI.out.2.1
      have hlen := HI.out.2.2.1
      obtain ⟨b1, b2⟩ := hbd
      have b3 : sumTo l day ≤ 1000000000 := by omega
      have hn5 : n ≤ 1000 := by have := HL.out; omega
      clear h0 hd b2 hlen
      go_enter Try.func10, Try.ntmps10
      go_wp2_with fail
      refine C12.out.mono ?_
      rintro e w1 ⟨rfl, hb⟩
      go_wp2_with fail
      refine (within_yes _ _ _ _ ⟨d1, d2⟩).mono ?_
      rintro e w' ⟨rfl, rfl⟩
      go_wp2_with fail
      refine (sum_any A n c l day w1 ((hr.below hb).more hb.size) hn5 HI.out.2.2.2.1).mono ?_
      rintro e w2 ⟨rfl, hb2⟩
      go_wp2_with fail
      go_ret2
      exact ⟨ret_ii HE.out.2.symm HE.out.1.symm, hb.trans (hb2.mono hb.size)⟩
  · have HE := Lib.hid (left_bad (day := day) h0)
    obtain ⟨x, hx⟩ : ∃ x, checkE l lim = x := ⟨_, rfl⟩
    rw [hx] at C12
    have hx1 : (x != 0) = true := ne0_t (fun e => h0 (hx.trans e))
    have HX := Lib.hid hx
    clear h0 hx
    go_enter Try.func10, Try.ntmps10
    go_wp2_with fail
    refine C12.out.mono ?_
    rintro e w1 ⟨rfl, hb⟩
    go_wp2_with fail
    go_ret2
    exact ⟨ret_ii HE.out.2.symm (by rw [HE.out.1, HX.out]), hb⟩
set_option maxHeartbeats 1000000 in
set_option maxRecDepth 10000 in
theorem rleft_any (A : Option Addr) (n c : Nat) (l : List Sp) (lim day : Int) (B : Nat) (w : World) (hr : Reads w B 2 A n (cellsS l)) (hn : n ≤ maxLen) :
    Calls Try.prog 11 #[.slice A n c, .int .i64 lim, .int .i64 day] w fun e w' => e = .returned (.tuple #[.int .i64 (leftN l lim day), .int .i64 (leftE l lim day)]) ∧ w = w' := by
  have HL := Lib.hid (recs_len hr encS_len (by omega))
  have C13 := Lib.hid (rcheck_any A n c l lim B w hr hn)
  clear hn
  by_cases h0 : checkE l lim = 0
  · have HI := Lib.hid (check_iff.1 h0)
    rw [h0] at C13
    by_cases hd : day < 0 ∨ 49709 < day
    · have HE := Lib.hid (left_day h0 hd)
      clear h0
      rcases hd with hd | hd
      all_goals
        go_enter Try.func11, Try.ntmps11
        go_wp2_with fail
        refine C13.out.mono ?_
        rintro e w1 ⟨rfl, rfl⟩
        go_wp2_with fail
        go_ret2
        exact ⟨ret_ii HE.out.2.symm HE.out.1.symm, rfl⟩
    · have d1 : 0 ≤ day := by omega
      have d2 : day ≤ 49709 := by omega
      have HE := Lib.hid (left_ok h0 d1 d2)
      have hbd := sum_bd HI.out.2.2.2.1 day
      have hlim := HI.out.1
      have hlim2 := HI.out.2.1
      have hlen := HI.out.2.2.1
      obtain ⟨b1, b2⟩ := hbd
      have b3 : sumTo l day ≤ 1000000000 := by omega
      have hn5 : n ≤ 1000 := by have := HL.out; omega
      clear h0 hd b2 hlen
      go_enter Try.func11, Try.ntmps11
      go_wp2_with fail
      refine C13.out.mono ?_
      rintro e w1 ⟨rfl, rfl⟩
      go_wp2_with fail
      refine (spent_any A n c l day B w hr hn5 HI.out.2.2.2.1).mono ?_
      rintro e w2 ⟨rfl, rfl⟩
      go_wp2_with fail
      go_ret2
      exact ⟨ret_ii HE.out.2.symm HE.out.1.symm, rfl⟩
  · have HE := Lib.hid (left_bad (day := day) h0)
    obtain ⟨x, hx⟩ : ∃ x, checkE l lim = x := ⟨_, rfl⟩
    rw [hx] at C13
    have hx1 : (x != 0) = true := ne0_t (fun e => h0 (hx.trans e))
    have HX := Lib.hid hx
    clear h0 hx
    go_enter Try.func11, Try.ntmps11
    go_wp2_with fail
    refine C13.out.mono ?_
    rintro e w1 ⟨rfl, rfl⟩
    go_wp2_with fail
    go_ret2
    exact ⟨ret_ii HE.out.2.symm (by rw [HE.out.1, HX.out]), rfl⟩
end Go.Proofs.Ytdfmngnhmiemgaa
