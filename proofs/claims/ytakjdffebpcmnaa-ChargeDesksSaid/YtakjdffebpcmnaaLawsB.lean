/- The walks of do, and of the statements ChargeNone and ChargeFull. -/
import Derived.Test.YtakjdffebpcmnaaLawsA
import Derived.Deep.RegionHeld3
import Derived.IntWalk
namespace Go.Proofs.Ytakjdffebpcmnaa
open Go.RowKit Go.Maps
theorem next_nil (w : World) : Calls Try.prog 19 #[.pointer none] w fun e w' => e = .returned (.tuple #[.agg #[.int .i64 0, .int .i64 0, .int .i64 0], .bool false]) ∧ Below w.heap.size w w' := by
  have HAL := Lib.hid (below_alloc (Below.refl w.heap.size w) (Nat.le_refl _) (.cells #[.int .i64 0, .int .i64 0, .int .i64 0] 23))
  have hB := Lib.hid (Blk.new w 23 #[.int .i64 0, .int .i64 0, .int .i64 0])
  go_enter Try.func19, Try.ntmps19
  go_wp2_with fail
  go_loopw [4, 5] (fun bs i wr => i = .int .i64 0 ∧ bs = .int .i64 (-1) ∧ Hid (wr = w.alloc (.cells #[.int .i64 0, .int .i64 0, .int .i64 0] 23))) (fun _ _ _ => 0)
  case atStart => exact ⟨rfl, rfl, rfl⟩
  case round =>
    obtain ⟨rfl, rfl, HW⟩ := hrel
    have hB2 : Blk wr w.heap.size 23 #[.int .i64 0, .int .i64 0, .int .i64 0] := by rw [HW.out]; exact hB.out
    have hbw : Below w.heap.size w wr := by rw [HW.out]; exact HAL.out
    have q0 := hB2.cell 0
    have q1 := hB2.cell 1
    have q2 := hB2.cell 2
    have fq := hB2.frozen 0
    have fq1 := hB2.frozen 1
    have fq2 := hB2.frozen 2
    go_wp2_with fail
    exact bodyPost_ret (v := .tuple #[.agg #[.int .i64 0, .int .i64 0, .int .i64 0], .bool false]) (by simp [results, Try.results19, go_sem, q0, q1, q2]) rfl ⟨rfl, by repeat (first | exact hbw | refine Below.setCell ?_ (show w.heap.size ≤ w.heap.size from Nat.le_refl _) _)⟩
theorem do_nil (k a b c e : Int) (w : World) : Calls Try.prog 16 #[.pointer none, .agg #[.int .i64 k, .int .i64 a, .int .i64 b, .int .i64 c, .int .i64 e]] w (RetI w 11) := by
  by_cases h0 : k = 0
  · subst h0
    go_enter Try.func16, Try.ntmps16
    go_wp2_with fail
    refine (ask_nil _ _ _ _).mono ?_
    rintro e w1 ⟨rfl, hb⟩
    go_wp2_with fail
    go_ret
    exact ⟨rfl, (below_alloc (Below.refl _ _) (Nat.le_refl _) _).trans (hb.mono (by simp))⟩
  · have h1 := eq0_f h0
    clear h0
    go_enter Try.func16, Try.ntmps16
    go_wp2_with fail
    refine (answer_nil _ _ _).mono ?_
    rintro e w1 ⟨rfl, rfl⟩
    go_wp2_with fail
    go_ret
    exact ⟨rfl, below_alloc (Below.refl _ _) (Nat.le_refl _) _⟩
def doE (l : List En) (k : Int) (p : P3) : Int := if k = 0 then askE l p else ansE l p.1
def doL (l : List En) (k : Int) (p : P3) (e : Int) : List En := if k = 0 then askL l p else ansL l p.1 e
theorem deskPost_new {w w0 w' : World} {F : Nat → Prop} {g : Nat} {l : List En} {x : Int} {e : Ending} (h : DeskPost w0 F g x l e w') (hb : Below w.heap.size w w0) : DeskPost w F g x l e w' := by
  obtain ⟨h1, h2, h3⟩ := h
  refine ⟨h1, h2.more (fun k hk => ?_) (fun k hk => ?_), (Only.of_new hb F).trans h3 fun k _ e => e⟩
  · rcases hk with hk | hk
    · exact .inl hk
    · exact .inr ⟨Nat.le_trans hb.size hk.1, hk.2⟩
  · rcases hk with hk | hk
    · exact h2.2.1 k (.inl hk)
    · exact hk.2
theorem do_any (F : Nat → Prop) (g : Nat) (l m : List En) (k a b c er x : Int) (w : World) (h : DeskF w F g l) (hw : (Lit.int .i64 a).wf = true) (hn : l.length ≤ 100000) (ht : ∀ x ∈ l, 0 ≤ x.2.2 ∧ x.2.2 ≤ 1000000) (hx : doE l k (a, b, c) = x) (hm : doL l k (a, b, c) er = m) :
    Calls Try.prog 16 #[.pointer (some ⟨g, 0, none⟩), .agg #[.int .i64 k, .int .i64 a, .int .i64 b, .int .i64 c, .int .i64 er]] w (DeskPost w F g x m) := by
  have hal := below_alloc (Below.refl w.heap.size w) (Nat.le_refl _) (.cells #[.int .i64 k, .int .i64 a, .int .i64 b, .int .i64 c, .int .i64 er] 37)
  have h' := Lib.hid (h.below hal)
  have HAL := Lib.hid hal
  have HX := Lib.hid hx
  have HM := Lib.hid hm
  clear hal h hx hm
  by_cases h0 : k = 0
  · subst h0
    go_enter Try.func16, Try.ntmps16
    go_wp2_with fail
    refine (ask_at F g l m a b c x _ h'.out hn (by rw [← HX.out]; rfl) (by rw [← HM.out]; rfl)).mono ?_
    rintro e w1 ⟨rfl, hd1, ho1⟩
    go_wp2_with fail
    go_ret
    exact deskPost_new ⟨rfl, hd1, ho1⟩ HAL.out
  · have h1 := eq0_f h0
    have E1 : ansE l a = x := by rw [← HX.out]; unfold doE; rw [if_neg h0]
    have E2 : ansL l a er = m := by rw [← HM.out]; unfold doL; rw [if_neg h0]
    have G1 := Lib.hid E1
    have G2 := Lib.hid E2
    clear h0 E1 E2
    go_enter Try.func16, Try.ntmps16
    go_wp2_with fail
    refine (answer_at F g l m a er x _ h'.out hw hn ht G1.out G2.out).mono ?_
    rintro e w1 ⟨rfl, hd1, ho1⟩
    go_wp2_with fail
    go_ret
    exact deskPost_new ⟨rfl, hd1, ho1⟩ HAL.out

set_option maxHeartbeats 2000000 in
set_option maxRecDepth 10000 in
theorem chargeNone_walk (k a b c er : Int) (w : World) : Calls Try.prog 6 #[.agg #[.int .i64 k, .int .i64 a, .int .i64 b, .int .i64 c, .int .i64 er]] w (AwakePost w) := by
  have HAL := Lib.hid (below_alloc (Below.refl w.heap.size w) (Nat.le_refl _) (.cells #[.int .i64 k, .int .i64 a, .int .i64 b, .int .i64 c, .int .i64 er] 37))
  have hb0 := Blk.new w 37 #[.int .i64 k, .int .i64 a, .int .i64 b, .int .i64 c, .int .i64 er]
  have E := eq23_refl 0 0 0
  go_enter Try.func6, Try.ntmps6
  go_wp2_with fail
  refine (next_nil _).mono ?_
  rintro e w1 ⟨rfl, hq1⟩
  have b1 := HAL.out.trans (hq1.mono HAL.out.size)
  have B0 := (hb0.below hq1 hb0.lt).alloc (.cells #[.int .i64 0, .int .i64 0, .int .i64 0] 23)
  have B4 := Blk.new w1 23 #[.int .i64 0, .int .i64 0, .int .i64 0]
  have b2 := below_alloc b1 (Nat.le_refl _) (.cells #[.int .i64 0, .int .i64 0, .int .i64 0] 23)
  have a0 := B0.cell 0; have a1 := B0.cell 1; have a2 := B0.cell 2; have a3 := B0.cell 3; have a4 := B0.cell 4
  clear hb0
  go_wp2_with fail
  refine (do_nil _ _ _ _ _ _).mono ?_
  rintro e w2 ⟨rfl, hq2⟩
  have b3 := b2.trans (hq2.mono b2.size)
  have B4' := B4.below hq2 B4.lt
  have c0 := B4'.cell 0; have c1 := B4'.cell 1; have c2 := B4'.cell 2
  go_wp2_with fail
  refine (open_nil _).mono ?_
  rintro e w3 ⟨rfl, rfl⟩
  go_wp2_with fail
  refine (settled_nil _).mono ?_
  rintro e w3 ⟨rfl, rfl⟩
  go_wp2_with fail
  refine (refused_nil _).mono ?_
  rintro e w3 ⟨rfl, rfl⟩
  go_wp2_with fail
  refine (copy_nil _).mono ?_
  rintro e w3 ⟨rfl, rfl⟩
  go_wp2_with fail
  refine (awake_any _).mono ?_
  rintro e w7 ⟨rfl, hq7⟩
  go_wp2_with fail
  go_ret
  exact ⟨rfl, b3.trans (hq7.mono b3.size)⟩

/-! A full desk. -/
theorem right13_at (a b c : Int) (x : Bool) (w : World) (h : rightB (a, b, c) = x) : Calls Try.prog 13 #[.agg #[.int .i64 a, .int .i64 b, .int .i64 c]] w (RetB w x) := by rw [← h]; exact right13 a b c w
theorem open_at (F : Nat → Prop) (g : Nat) (l : List En) (m : List P3) (w : World) (h : DeskF w F g l) (hn : l.length ≤ 100000) (h1 : ofS l 0 = m) :
    Calls Try.prog 14 #[.pointer (some ⟨g, 0, none⟩)] w (RetOwn w 23 3 (cellsP m)) := by
  rw [← h1]; exact open_any F g l w h hn
set_option maxHeartbeats 4000000 in
set_option maxRecDepth 10000 in
theorem chargeFull_walk (a b c : Int) (w : World) : Calls Try.prog 3 #[.agg #[.int .i64 a, .int .i64 b, .int .i64 c]] w (AwakePost w) := by
  have HAL := Lib.hid (below_alloc (Below.refl w.heap.size w) (Nat.le_refl _) (.cells #[.int .i64 a, .int .i64 b, .int .i64 c] 23))
  have hb0 := Blk.new w 23 #[.int .i64 a, .int .i64 b, .int .i64 c]
  go_enter Try.func3, Try.ntmps3
  go_wp2_with fail
  refine (new_any _).mono ?_
  rintro e w1 ⟨F1, g, rfl, hd1, hF1, hb1⟩
  have B0 := Lib.hid (hb0.below hb1 hb0.lt)
  have BW := Lib.hid (HAL.out.trans (hb1.mono HAL.out.size))
  have HD1 := Lib.hid hd1
  have HF1 := Lib.hid hF1
  clear hb0 hd1 hF1
  go_wp2_with fail
  go_loopw [4] (fun i wr => ∃ (k : Nat) (F : Nat → Prop), k ≤ 256 ∧ i = .int .i64 ((k : Int) + 1) ∧ DeskF wr F g (asks k) ∧ (∀ j, F j → w.heap.size < j) ∧ Blk wr w.heap.size 23 #[.int .i64 a, .int .i64 b, .int .i64 c] ∧ Below w.heap.size w wr) (fun i _ => (300 - intOf i).toNat)
  case atStart => exact ⟨0, F1, by omega, by simp, HD1.out, fun j hj => by have := HF1.out j hj; simp at this; omega, B0.out, BW.out⟩
  case round =>
    obtain ⟨k, F, hk, rfl, hd, hF, hB, hbw⟩ := hrel
    by_cases hlt : k < 256
    · have HD := Lib.hid hd
      have HFF := Lib.hid hF
      have HB := Lib.hid hB
      have HBW := Lib.hid hbw
      clear hd hF hB hbw
      go_wp2_with fail
      refine (pay_any _ _ _).mono ?_
      rintro e w2 ⟨rfl, hb2⟩
      have hd2 := HD.out.below hb2
      go_wp2_with fail
      refine (ask_at F g (asks k) (asks (k + 1)) _ 1 _ 0 _ hd2 (by rw [asks_len]; omega) (asks_step hlt).1 (asks_step hlt).2).mono ?_
      rintro e w3 ⟨rfl, hd3, ho3⟩
      have hwF : ∀ j, With F w2 w3 j → w.heap.size < j := fun j hj => hj.elim (HFF.out j) fun e => by have := HB.out.lt; have := hb2.size; omega
      have hB2 := HB.out.below hb2 HB.out.lt
      have hB3 := ho3.blk hB2 fun e => by have := HFF.out _ e; omega
      have hbw2 := HBW.out.trans (hb2.mono HBW.out.size)
      have hbw3 := hbw2.trans (ho3.below (fun j _ hj => Nat.le_of_lt (HFF.out j hj)) hbw2.size)
      go_wp2_with fail
      go_roundw
      case rel => exact ⟨k + 1, With F w2 w3, by omega, by go_num, hd3, hwF, hB3, hbw3⟩
      case measure => simp [intOf]; omega
    · obtain rfl : k = 256 := by omega
      have c0 := hB.cell 0; have c1 := hB.cell 1; have c2 := hB.cell 2
      have HD := Lib.hid hd
      have HB := Lib.hid hB
      have HFF := Lib.hid hF
      have HBW := Lib.hid hbw
      clear hd hF hB hbw
      have hE := asks_want (a, b, c)
      have HE := Lib.hid hE
      clear hE
      have fin : ∀ (w2 : World), Below wr.heap.size wr w2 → ∀ x, wantE (a, b, c) = x → Calls Try.prog 11 #[.pointer (some ⟨g, 0, none⟩), .agg #[.int .i64 a, .int .i64 b, .int .i64 c]] w2 (DeskPost w2 F g x (asks 256)) := fun w2 h2 x hx =>
        ask_at F g (asks 256) (asks 256) a b c x w2 (HD.out.below h2) (by rw [asks_len]; omega) (HE.out.1.trans hx) HE.out.2
      have FIN := Lib.hid fin
      clear fin
      have fin2 : ∀ (w2 w3 : World), Below wr.heap.size wr w2 → DeskF w3 (With F w2 w3) g (asks 256) → Only F w2 w3 → Below w.heap.size w w3 ∧ Calls Try.prog 14 #[.pointer (some ⟨g, 0, none⟩)] w3 (RetOwn w3 23 3 (cellsP (ofS (asks 256) 0))) := fun w2 w3 h2 hd3 ho3 => by
        have hbw2 := HBW.out.trans (h2.mono HBW.out.size)
        exact ⟨hbw2.trans (ho3.below (fun j _ hj => Nat.le_of_lt (HFF.out j hj)) hbw2.size), open_at _ g _ _ w3 hd3 (by rw [asks_len]; omega) rfl⟩
      have FIN2 := Lib.hid fin2
      clear fin2
      rw [show ((256 : Nat) : Int) + 1 = 257 from rfl]
      rcases hr : rightB (a, b, c) with _ | _
      · have HR := Lib.hid hr
        have HW : Hid (wantE (a, b, c) = 1) := Lib.hid (by unfold wantE; rw [if_pos hr])
        clear hr
        go_wp2_with fail
        refine (right13_at a b c false _ HR.out).mono ?_
        rintro e w2 ⟨rfl, hb2⟩
        have hB2 := HB.out.below hb2 HB.out.lt
        have d0 := hB2.cell 0; have d1 := hB2.cell 1; have d2 := hB2.cell 2
        go_wp2_with fail
        refine (FIN.out _ hb2 1 HW.out).mono ?_
        rintro e w3 ⟨rfl, hd3, ho3⟩
        obtain ⟨hbw3, hop⟩ := FIN2.out _ _ hb2 hd3 ho3
        have HO := Lib.hid hop
        clear hop hd3 ho3
        go_wp2_with fail
        refine HO.out.mono ?_
        rintro e w4 ⟨A4, n4, c4, rfl, ho4, hb4⟩
        obtain rfl : n4 = 256 := by have := recs_len (Reads.of_own ho4) encP_len (by omega); rw [asks_open] at this; exact this.symm
        clear ho4
        go_wp2_with fail
        refine (awake_any _).mono ?_
        rintro e w5 ⟨rfl, hb5⟩
        go_wp2_with fail
        go_ret
        have hbw4 := hbw3.trans (hb4.mono hbw3.size)
        exact ⟨rfl, hbw4.trans (hb5.mono hbw4.size)⟩
      · have HR := Lib.hid hr
        obtain ⟨r1, r2, r3, r4, r5, r6⟩ : 1 ≤ a ∧ a ≤ 1000000 ∧ 0 ≤ b ∧ b < 128 ∧ 0 ≤ c ∧ c ≤ 1000000000000 := of_decide_eq_true hr
        by_cases hle : a ≤ 256
        · by_cases heq : ((a, b, c) : P3) = (a, 1, 100 * a)
          · have HW : Hid (wantE (a, b, c) = 0) := Lib.hid (by unfold wantE; rw [if_neg (by rw [hr]; decide), if_pos hle, if_pos heq])
            have Q : ∀ w, (Op.equalIn 10000 23 (.agg #[.int .i64 a, .int .i64 b, .int .i64 c]) (.agg #[.int .i64 a, .int .i64 1, .int .i64 (100 * a)])).run Try.prog w = .ok true w := fun w => by rw [eq23, decide_eq_true heq]
            clear hr heq
            go_wp2_with fail
            refine (right13_at a b c true _ HR.out).mono ?_
            rintro e w2 ⟨rfl, hb2⟩
            have hB2 := HB.out.below hb2 HB.out.lt
            have d0 := hB2.cell 0; have d1 := hB2.cell 1; have d2 := hB2.cell 2
            go_wp2_with fail
            have hwr : IntKind.i64.wrap (100 * a) = 100 * a := IntWalk.i64_in _ (by omega)
            go_region_held3 (fun w' => w'.cell? ⟨w.heap.size, 0, none⟩ = some (.int .i64 a) ∧ w'.cell? ⟨w.heap.size, 1, none⟩ = some (.int .i64 b) ∧ w'.cell? ⟨w.heap.size, 2, none⟩ = some (.int .i64 c)) (first | go_keep | exact ⟨d0', d1', d2'⟩)
              ((go_at_call 12; refine (pay_any _ _ _).mono ?_; rintro e w3 ⟨rfl, hb3⟩; have hb23 := below_next (below_drew_ hb2) (Nat.le_refl _) hb3; have hB3 := HB.out.below hb23 HB.out.lt; have d0' := hB3.cell 0; have d1' := hB3.cell 1; have d2' := hB3.cell 2))
            clear hwr
            go_wp2_with fail
            refine (FIN.out _ hb23 0 HW.out).mono ?_
            rintro e w4 ⟨rfl, hd4, ho4⟩
            obtain ⟨hbw4, hop⟩ := FIN2.out _ _ hb23 hd4 ho4
            have HO := Lib.hid hop
            clear hop hd4 ho4
            go_wp2_with fail
            refine HO.out.mono ?_
            rintro e w5 ⟨A4, n4, c4, rfl, ho5, hb5⟩
            obtain rfl : n4 = 256 := by have := recs_len (Reads.of_own ho5) encP_len (by omega); rw [asks_open] at this; exact this.symm
            clear ho5
            go_wp2_with fail
            refine (awake_any _).mono ?_
            rintro e w6 ⟨rfl, hb6⟩
            go_wp2_with fail
            go_ret
            have hbw5 := hbw4.trans (hb5.mono hbw4.size)
            exact ⟨rfl, hbw5.trans (hb6.mono hbw5.size)⟩
          · have HW : Hid (wantE (a, b, c) = 21) := Lib.hid (by unfold wantE; rw [if_neg (by rw [hr]; decide), if_pos hle, if_neg heq])
            have Q : ∀ w, (Op.equalIn 10000 23 (.agg #[.int .i64 a, .int .i64 b, .int .i64 c]) (.agg #[.int .i64 a, .int .i64 1, .int .i64 (100 * a)])).run Try.prog w = .ok false w := fun w => by rw [eq23, decide_eq_false heq]
            clear hr heq
            go_wp2_with fail
            refine (right13_at a b c true _ HR.out).mono ?_
            rintro e w2 ⟨rfl, hb2⟩
            have hB2 := HB.out.below hb2 HB.out.lt
            have d0 := hB2.cell 0; have d1 := hB2.cell 1; have d2 := hB2.cell 2
            go_wp2_with fail
            have hwr : IntKind.i64.wrap (100 * a) = 100 * a := IntWalk.i64_in _ (by omega)
            go_region_held3 (fun w' => w'.cell? ⟨w.heap.size, 0, none⟩ = some (.int .i64 a) ∧ w'.cell? ⟨w.heap.size, 1, none⟩ = some (.int .i64 b) ∧ w'.cell? ⟨w.heap.size, 2, none⟩ = some (.int .i64 c)) (first | go_keep | exact ⟨d0', d1', d2'⟩)
              ((go_at_call 12; refine (pay_any _ _ _).mono ?_; rintro e w3 ⟨rfl, hb3⟩; have hb23 := below_next (below_drew_ hb2) (Nat.le_refl _) hb3; have hB3 := HB.out.below hb23 HB.out.lt; have d0' := hB3.cell 0; have d1' := hB3.cell 1; have d2' := hB3.cell 2))
            clear hwr
            go_wp2_with fail
            refine (FIN.out _ hb23 21 HW.out).mono ?_
            rintro e w4 ⟨rfl, hd4, ho4⟩
            obtain ⟨hbw4, hop⟩ := FIN2.out _ _ hb23 hd4 ho4
            have HO := Lib.hid hop
            clear hop hd4 ho4
            go_wp2_with fail
            refine HO.out.mono ?_
            rintro e w5 ⟨A4, n4, c4, rfl, ho5, hb5⟩
            obtain rfl : n4 = 256 := by have := recs_len (Reads.of_own ho5) encP_len (by omega); rw [asks_open] at this; exact this.symm
            clear ho5
            go_wp2_with fail
            refine (awake_any _).mono ?_
            rintro e w6 ⟨rfl, hb6⟩
            go_wp2_with fail
            go_ret
            have hbw5 := hbw4.trans (hb5.mono hbw4.size)
            exact ⟨rfl, hbw5.trans (hb6.mono hbw5.size)⟩
        · have HW : Hid (wantE (a, b, c) = 8) := Lib.hid (by unfold wantE; rw [if_neg (by rw [hr]; decide), if_neg hle])
          have hgt : 256 < a := by omega
          clear hr hle
          go_wp2_with fail
          refine (right13_at a b c true _ HR.out).mono ?_
          rintro e w2 ⟨rfl, hb2⟩
          have hB2 := HB.out.below hb2 HB.out.lt
          have d0 := hB2.cell 0; have d1 := hB2.cell 1; have d2 := hB2.cell 2
          go_wp2_with fail
          refine (FIN.out _ hb2 8 HW.out).mono ?_
          rintro e w3 ⟨rfl, hd3, ho3⟩
          obtain ⟨hbw3, hop⟩ := FIN2.out _ _ hb2 hd3 ho3
          have HO := Lib.hid hop
          clear hop hd3 ho3
          go_wp2_with fail
          refine HO.out.mono ?_
          rintro e w4 ⟨A4, n4, c4, rfl, ho4, hb4⟩
          obtain rfl : n4 = 256 := by have := recs_len (Reads.of_own ho4) encP_len (by omega); rw [asks_open] at this; exact this.symm
          clear ho4
          go_wp2_with fail
          refine (awake_any _).mono ?_
          rintro e w5 ⟨rfl, hb5⟩
          go_wp2_with fail
          go_ret
          have hbw4 := hbw3.trans (hb4.mono hbw3.size)
          exact ⟨rfl, hbw4.trans (hb5.mono hbw4.size)⟩
end Go.Proofs.Ytakjdffebpcmnaa
