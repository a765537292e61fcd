/- The walk of the law's book. -/
import Derived.Test.YthbmofijdhfeeaaAcc
import Derived.Test.YthbmofijdhfeeaaMix
import Derived.Deep.CutRange
namespace Go.Proofs.Ythbmofijdhfeeaa
open Go.RowKit Go.Maps Go.WideMaps
theorem Reads.only_ {w w' : World} {F : Nat → Prop} {size n : Nat} {A : Option Addr} {xs : List Value} (h : Reads w w.heap.size size A n xs) (ho : Only F w w') (hA : ∀ q, A = some q → ¬ F q.block) : Reads w' w'.heap.size size A n xs :=
  ⟨h.1, fun hn => by
    obtain ⟨ad, e, hb, hc⟩ := h.2 hn
    exact ⟨ad, e, Nat.lt_of_lt_of_le hb ho.size, fun j u hu => (World.cell?_of_block (by rw [block_of_add]; exact ho.block _ hb (hA ad e))).trans (hc j u hu)⟩⟩
/-- The next accounts come back, with true. -/
def RetBook (w : World) (base : Nat) (V : Value) (M : List Lt) (e : Ending) (w' : World) : Prop :=
  ∃ A n c, e = .returned (.tuple #[.slice A n c, .bool true]) ∧ w'.ownsRow base 60 5 (.slice A n c) n (cellsX M) ∧ Only (fun k => V.ownBlock = some k) w w' ∧ ∀ j, (Value.slice A n c).ownBlock = some j → V.ownBlock = some j ∨ w.heap.size ≤ j
theorem info60 : (Try.prog.info? 60).map (fun i => (i.zero, i.size, i.bytes)) = some (some (.agg #[.int .i64 0, .int .i64 0, .int .i64 0, .int .i64 0, .int .i64 0]), 5, 40) := by kernel_rfl
set_option maxHeartbeats 2000000 in
set_option maxRecDepth 10000 in
theorem book_add (A At : Option Addr) (n c nt ct base : Nat) (M : List Lt) (a b cc d : Int) (w : World) (h : w.ownsRow base 60 5 (.slice A n c) n (cellsX M)) (hn : n ≤ 1000) (hb : base ≤ w.heap.size) :
    Calls Try.prog 23 #[.slice A n c, .agg #[.int .u8 0, .int .i64 a, .int .i64 b, .int .i64 cc, .int .i64 d], .slice At nt ct] w (RetBook w base (.slice A n c) (M ++ [((a, b, cc, d), 0)])) := by
  obtain ⟨i0, hi0, hz0, hz1, hz2⟩ := info_parts info60
  have HO := Lib.hid h
  clear h
  go_enter Try.func23, Try.ntmps23
  go_wp2_with (at_builtin; go_loud (refine wpList_append_any _ rfl (.tmp 14) (.tmp 18) _ rfl base 60 i0 _ 5 40 Try.underlying54 hi0 hz0 hz1 hz2 rfl (by omega) (.slice A n c) n (cellsX M) rfl ((HO.out.alloc _).alloc _) (w.heap.size + 1 + 1) (some ⟨w.heap.size + 1, 0, none⟩) 1 1 (encX ((a, b, cc, d), 0)) rfl (by simpa [encX] using Reads.fresh (w.alloc (.cells #[.int .u8 0, .int .i64 a, .int .i64 b, .int .i64 cc, .int .i64 d] 49)) 60 #[.int .i64 a, .int .i64 b, .int .i64 cc, .int .i64 d, .int .i64 0] 1 5 rfl) (one_encX _) (by simp only [maxLen]; omega) (by omega) (by simp; omega) ?_; intro v3 w3 hown3 hg3 hat3))
  obtain ⟨A3, c3, rfl, hr3⟩ := own_reads hown3
  have HO3 : Hid (w3.ownsRow base 60 5 (.slice A3 (n + 1) c3) (n + 1) (cellsX (M ++ [((a, b, cc, d), 0)]))) := Lib.hid (by
    have e : cellsX (M ++ [((a, b, cc, d), 0)]) = cellsX M ++ encX ((a, b, cc, d), 0) := by simp [cellsX]
    rw [e]; exact hown3)
  have HN : Hid (Only (fun k => (Value.slice A n c).ownBlock = some k) w w3) := Lib.hid (((((Only.refl (fun k => (Value.slice A n c).ownBlock = some k) w).alloc _).alloc _).grown hg3 fun k hk _ => hk))
  have HAT3 : Hid (∀ j, (Value.slice A3 (n + 1) c3).ownBlock = some j → (Value.slice A n c).ownBlock = some j ∨ w.heap.size ≤ j) := Lib.hid fun j hj => by
    rcases hat3 with e | e
    · left; rw [← e]; exact hj
    · right; rw [hj] at e; injection e with e; simp at e; omega
  clear hown3 hg3 hat3 hr3
  go_wp2_with fail
  go_ret2
  exact ⟨A3, n + 1, c3, rfl, HO3.out, HN.out, HAT3.out⟩
set_option maxHeartbeats 8000000 in
set_option maxRecDepth 20000 in
theorem book_take (A At : Option Addr) (n c nt ct base : Nat) (M : List Lt) (ts : List T2) (a b cc d : Int) (w : World) (h : w.ownsRow base 60 5 (.slice A n c) n (cellsX M)) (hn : n ≤ 1000) (hrt : Reads w w.heap.size 2 At nt (cellsT ts)) (hat : ∀ q, At = some q → (Value.slice A n c).ownBlock ≠ some q.block) (hnt : nt ≤ 1000) (hM : ∀ x ∈ M, x.1.2.2.1 ≤ 1000000) (hok : bookOk M ts true b) :
    Calls Try.prog 23 #[.slice A n c, .agg #[.int .u8 1, .int .i64 a, .int .i64 b, .int .i64 cc, .int .i64 d], .slice At nt ct] w (RetBook w base (.slice A n c) (addT M ts)) := by
  have HO := Lib.hid h; have HM := Lib.hid hM; have HOK := Lib.hid hok
  have HL := Lib.hid (recs_len (Reads.of_own h) encX_len (by omega))
  have HLT : Hid (∀ j, (Value.slice A n c).ownBlock = some j → j < w.heap.size) := Lib.hid fun j hj => (h.lt j hj).2
  clear h hM hok
  obtain ⟨v1, hv1⟩ : ∃ v, w.alloc (.cells #[.int .u8 1, .int .i64 a, .int .i64 b, .int .i64 cc, .int .i64 d] 49) = v := ⟨_, rfl⟩
  have HPB : Hid (Blk v1 w.heap.size 49 #[.int .u8 1, .int .i64 a, .int .i64 b, .int .i64 cc, .int .i64 d]) := Lib.hid (by rw [← hv1]; exact Blk.new _ _ _)
  have HW1 : Hid (Below w.heap.size w v1) := Lib.hid (by rw [← hv1]; exact (Below.refl _ _).alloc (Nat.le_refl _) _)
  have HRT := Lib.hid ((hrt.below HW1.out).more HW1.out.size)
  have HAT := Lib.hid hat
  have HLT2 := Lib.hid (recs_len hrt encT_len (by omega))
  clear hrt hat
  have p0 := (HPB.out.cell 0).trans rfl; have p1 := (HPB.out.cell 1).trans rfl; have p2 := (HPB.out.cell 2).trans rfl; have p3 := (HPB.out.cell 3).trans rfl; have p4 := (HPB.out.cell 4).trans rfl
  go_enter Try.func23, Try.ntmps23
  go_wp2_with fail
  clear hv1 p0 p1 p2 p3 p4
  have HMW : Hid (Only (fun j => (Value.slice A n c).ownBlock = some j) w v1) := Lib.hid (Only.of_new HW1.out _)
  have HO1 : Hid (v1.ownsRow base 60 5 (.slice A n c) n (cellsX (addT M (ts.take 0)))) := Lib.hid (by rw [List.take_zero, addT_nil]; exact own_below HO.out HW1.out)
  go_loopw [8] (fun s8 wr => ∃ j : Nat, j ≤ nt ∧ s8 = .int .i64 j ∧ Hid (wr.ownsRow base 60 5 (.slice A n c) n (cellsX (addT M (ts.take j)))) ∧ Hid (Only (fun j => (Value.slice A n c).ownBlock = some j) v1 wr)) (fun s _ => nt - (intOf s).toNat)
  case atStart => exact ⟨0, Nat.zero_le _, rfl, HO1, Lib.hid (Only.refl _ _)⟩
  case round =>
    obtain ⟨wo, rfl⟩ : ∃ wo : World, wo = wr := ⟨_, rfl⟩
    obtain ⟨j, hj, rfl, HOJ, HNJ⟩ := hrel
    have HOW : Hid (Only (fun j => (Value.slice A n c).ownBlock = some j) w wo) := Lib.hid (HMW.out.trans HNJ.out fun _ _ e => e)
    by_cases hjl : j < nt
    · have hjt : j < (ts).length := by have := HLT2.out; omega
      have hj0 : (0 : Int) ≤ j := by omega
      have hj1 : (j : Int) < nt := by omega
      obtain ⟨M1, hM1⟩ : ∃ x, addT M (ts.take j) = x := ⟨_, rfl⟩
      have HM1 := Lib.hid hM1
      have HL1 : Hid (M1.length = n) := Lib.hid (by rw [← hM1, addT_len]; exact HL.out)
      obtain ⟨t, ht⟩ : ∃ x, (ts)[j] = x := ⟨_, rfl⟩
      have HTT := Lib.hid ht
      have HST : Hid (addT M (ts.take (j + 1)) = M1.map (upd t)) := Lib.hid (by rw [addT_step M hjt, hM1, ht])
      have HKJ := Lib.hid (HOK.out j hjt)
      rw [hM1] at HOJ
      clear hM1 ht
      go_wp2_with fail
      go_loopw [9, 10] (fun s9 s10 wr => ∃ (q : Nat) (f : Bool), q ≤ n ∧ s10 = .int .i64 q ∧ s9 = .bool f ∧ Hid (f = decide (∃ i, ∃ hi : i < M.length, i < q ∧ M[i].1.1 = t.1)) ∧ Hid (wr.ownsRow base 60 5 (.slice A n c) n (cellsX (midA M1 t q))) ∧ Hid (Only (fun j => (Value.slice A n c).ownBlock = some j) v1 wr)) (fun _ s _ => n - (intOf s).toNat)
      case atStart => exact ⟨0, false, Nat.zero_le _, rfl, rfl, Lib.hid (decide_eq_false (fun ⟨i, _, h, _⟩ => by omega)).symm, by rw [midA_zero]; exact HOJ, HNJ⟩
      case round =>
        obtain ⟨wp, rfl⟩ : ∃ wp : World, wp = wr := ⟨_, rfl⟩
        obtain ⟨q, f, hq, rfl, rfl, HFQ, HOQ, HNQ⟩ := hrel
        by_cases hqn : q < n
        · have hqM : q < M.length := by have := HL.out; omega
          have hq1 : q < M1.length := by have := HL1.out; omega
          have hqi0 : (0 : Int) ≤ q := by omega
          have hqi1 : (q : Int) < n := by omega
          obtain ⟨gA, cap, hv, _, hgl⟩ := HOQ.out.form (show 0 < n by omega)
          injection hv with hA _ hcap
          subst hA hcap
          have hrq := Reads.of_own HOQ.out
          obtain ⟨bA, oA, eA, _, hcc⟩ := hrq.recs encX_len (by omega) (by omega)
          injection eA with eA
          injection eA with eA1 eA2
          subst eA1 eA2
          have hqm : q < (midA M1 t q).length := by rw [midA_len]; exact hq1
          obtain ⟨g0, hg0⟩ : ∃ x, M1[q].2 = x := ⟨_, rfl⟩
          have hel : (midA M1 t q)[q] = (M[q].1, g0) := by
            rw [midA_at M1 t hq1, ← hg0]
            have : M1[q].1 = M[q].1 := by
              have e := HM1.out
              subst e
              rw [addT_at _ _ hqM]
            rw [← this]
          have d0 : wp.cell? ⟨gA, q * 5, none⟩ = some (.int .i64 M[q].1.1) := by have := hcc q hqm 0 _ rfl; rw [hel] at this; simpa using this
          have d1 : wp.cell? ⟨gA, q * 5 + 1, none⟩ = some (.int .i64 M[q].1.2.1) := by have := hcc q hqm 1 _ rfl; rw [hel] at this; simpa using this
          have d2 : wp.cell? ⟨gA, q * 5 + 2, none⟩ = some (.int .i64 M[q].1.2.2.1) := by have := hcc q hqm 2 _ rfl; rw [hel] at this; simpa using this
          have d4 : wp.cell? ⟨gA, q * 5 + 4, none⟩ = some (.int .i64 g0) := by have := hcc q hqm 4 _ rfl; rw [hel] at this; simpa using this
          have zA := (own_blk HOQ.out).2.2
          obtain ⟨cur, hcB, hcs, _⟩ := zA
          have z4 := hcB.frozen (q * 5 + 4)
          have HRQ := Lib.hid (HRT.out.only_ HNQ.out fun q e => HAT.out q e)
          obtain ⟨bt, ot, et, hbt, hct⟩ := HRQ.out.recs encT_len (by omega) (by omega)
          have e0 : wp.cell? ⟨bt, ot + j * 2, none⟩ = some (.int .i64 t.1) := by have := hct j hjt 0 _ rfl; rw [HTT.out] at this; simpa using this
          have e1 : wp.cell? ⟨bt, ot + j * 2 + 1, none⟩ = some (.int .i64 t.2) := by have := hct j hjt 1 _ rfl; rw [HTT.out] at this; simpa using this
          have hne : bt ≠ gA := fun e => HAT.out _ et (by subst e; simp [Value.ownBlock])
          have HPQ := Lib.hid (HNQ.out.blk HPB.out fun e => by have := HLT.out _ e; omega)
          have F0 : ∀ z : DFam (DB wp), z.val.cell? ⟨gA, q * 5, none⟩ = some (.int .i64 M[q].1.1) := fun z => DB.some_ z d0
          have F1 : ∀ z : DFam (DB wp), z.val.cell? ⟨bt, ot + j * 2, none⟩ = some (.int .i64 t.1) := fun z => DB.some_ z e0
          have HET := Lib.hid et
          subst et
          clear hcc hct hrq hcB hcs
          by_cases heq : M[q].1.1 = t.1
          · have te : (M[q].1.1 == t.1) = true := beq_iff_eq.2 heq
            go_wp2_with fail
            refine wp_region_pb 0 [0, 1, 2, 3, 4, 5, 6, 7, 8, 9, 10, 11] [] (by kernel_rfl) (by kernel_rfl) ?_
            simp only [wpT, List.map_cons, List.map_nil, List.getD_cons_succ, List.getD_cons_zero]
            repeat (go_big_quiet_step (fail))
            refine wpQuiet_nil ?_
            clear F0 F1
            go_wp2_with fail
            obtain ⟨k1, k2, k3⟩ := HKJ.out.2 q hqM (by rw [HTT.out]; exact heq)
            have hgv : g0 = M[q].2 + sumT (ts.take j) M[q].1.1 := by
              rw [← hg0]
              have e := HM1.out
              subst e
              rw [addT_at _ _ hqM]
            rw [← hgv, HTT.out] at k1 k2
            rw [HTT.out] at k3
            have k4 := HM.out _ (List.getElem_mem hqM)
            obtain ⟨g1, hg1⟩ : ∃ x, g0 + t.2 = x := ⟨_, rfl⟩
            rw [hg1] at k1 k2
            have hwr : IntKind.i64.wrap g1 = g1 := by rw [IntKind.wrap_i64]; omega
            have c1 : decide (g1 < 0) = false := decide_eq_false (by omega)
            have c2 : decide (M[q].1.2.2.1 < g1) = false := decide_eq_false (by omega)
            obtain ⟨k5, k6⟩ := k3 trivial
            have c3 : (M[q].1.2.1 == b) = true := beq_iff_eq.2 k5
            have c4 : decide (t.2 < 1) = false := decide_eq_false (by omega)
            have c5 : (M[q].1.2.1 != b) = false := by rw [bne, c3]; rfl
            clear c3
            have HG1 := Lib.hid hg1
            have HOQ2 : Hid ((wp.setCell ⟨gA, q * 5 + 4, none⟩ (.int .i64 g1)).ownsRow base 60 5 (.slice (some ⟨gA, 0, none⟩) n c) n (cellsX (midA M1 t (q + 1)))) := Lib.hid (by
              have h1 := own_set HOQ.out (q * 5 + 4) (.int .i64 g1)
              rw [cellsX_set _ q hqm g1] at h1
              rw [midA_yes M1 t hq1 (by
                have : M1[q].1 = M[q].1 := by
                  have e := HM1.out
                  subst e
                  rw [addT_at _ _ hqM]
                rw [this]; exact heq), hg0, HG1.out]
              exact h1)
            have HNQ2 : Hid (Only (fun j => (Value.slice (some ⟨gA, 0, none⟩) n c).ownBlock = some j) v1 (wp.setCell ⟨gA, q * 5 + 4, none⟩ (.int .i64 g1))) := Lib.hid (HNQ.out.setCell (p := ⟨gA, q * 5 + 4, none⟩) (fun _ => by simp [Value.ownBlock]) _)
            clear hgv k1 k2 k3
            have G0 : ∀ z : DFam (DB wp.drew), z.val.cell? ⟨gA, q * 5 + 4, none⟩ = some (.int .i64 g0) := fun z => DB.some_ z d4
            have G1 : ∀ z : DFam (DB wp.drew), z.val.cell? ⟨bt, ot + j * 2 + 1, none⟩ = some (.int .i64 t.2) := fun z => DB.some_ z e1
            refine wp_region_pb 0 [0, 1, 2, 3, 4, 5, 6, 7, 8, 9, 10, 11, 12] [13, 14, 15] (by kernel_rfl) (by kernel_rfl) ?_
            simp only [wpT, List.map_cons, List.map_nil, List.getD_cons_succ, List.getD_cons_zero]
            repeat (go_big_quiet_step (fail))
            refine wpQuiet_nil ?_
            clear G0 G1
            go_upto_region 15 with fail
            obtain ⟨u, hu⟩ : ∃ u, wp.setCell ⟨gA, q * 5 + 4, none⟩ (.int .i64 g1) = u := ⟨_, rfl⟩
            have hel2 : (midA M1 t (q + 1))[q]'(by rw [midA_len]; exact hq1) = (M[q].1, g1) := by
              have : M1[q].1 = M[q].1 := by
                have e := HM1.out
                subst e
                rw [addT_at _ _ hqM]
              have e2 := midA_yes M1 t hq1 (by rw [this]; exact heq)
              have e3 : (midA M1 t (q + 1))[q]? = some (M[q].1, g1) := by
                rw [e2, List.getElem?_set_self (by rw [midA_len]; exact hq1), hg0, HG1.out, hel]
              exact (List.getElem?_eq_some_iff.1 e3).2
            obtain ⟨b2, o2, eA2, _, hcc2⟩ := (Reads.of_own HOQ2.out).recs encX_len (by omega) (by omega)
            injection eA2 with eA2
            injection eA2 with eb eo
            subst eb eo
            have hqm2 : q < (midA M1 t (q + 1)).length := by rw [midA_len]; exact hq1
            have x0 : u.cell? ⟨gA, q * 5, none⟩ = some (.int .i64 M[q].1.1) := by have := hcc2 q hqm2 0 _ rfl; rw [hel2, hu] at this; simpa using this
            have x1 : u.cell? ⟨gA, q * 5 + 1, none⟩ = some (.int .i64 M[q].1.2.1) := by have := hcc2 q hqm2 1 _ rfl; rw [hel2, hu] at this; simpa using this
            have x2 : u.cell? ⟨gA, q * 5 + 2, none⟩ = some (.int .i64 M[q].1.2.2.1) := by have := hcc2 q hqm2 2 _ rfl; rw [hel2, hu] at this; simpa using this
            have x4 : u.cell? ⟨gA, q * 5 + 4, none⟩ = some (.int .i64 g1) := by have := hcc2 q hqm2 4 _ rfl; rw [hel2, hu] at this; simpa using this
            have x5 : u.cell? ⟨bt, ot + j * 2 + 1, none⟩ = some (.int .i64 t.2) := by
              rw [← hu, World.cell?_setCell_other wp ⟨gA, q * 5 + 4, none⟩ ⟨bt, ot + j * 2 + 1, none⟩ _ (fun e => hne (by injection e with e _; exact e.symm))]
              exact e1
            have HPU := Lib.hid (HNQ2.out.blk HPB.out fun e => by have := HLT.out _ e; omega)
            rw [hu] at HPU HOQ2 HNQ2 ⊢
            have K0 : ∀ z : DFam (DB u.drew.drew), z.val.cell? ⟨gA, q * 5, none⟩ = some (.int .i64 M[q].1.1) := fun z => DB.some_ z x0
            have K1 : ∀ z : DFam (DB u.drew.drew), z.val.cell? ⟨gA, q * 5 + 1, none⟩ = some (.int .i64 M[q].1.2.1) := fun z => DB.some_ z x1
            have K2 : ∀ z : DFam (DB u.drew.drew), z.val.cell? ⟨gA, q * 5 + 2, none⟩ = some (.int .i64 M[q].1.2.2.1) := fun z => DB.some_ z x2
            have K4 : ∀ z : DFam (DB u.drew.drew), z.val.cell? ⟨gA, q * 5 + 4, none⟩ = some (.int .i64 g1) := fun z => DB.some_ z x4
            have K5 : ∀ z : DFam (DB u.drew.drew), z.val.cell? ⟨bt, ot + j * 2 + 1, none⟩ = some (.int .i64 t.2) := fun z => DB.some_ z x5
            have K6 : ∀ z : DFam (DB u.drew.drew), z.val.cell? ⟨w.heap.size, 0, none⟩ = some (.int .u8 1) := fun z => DB.some_ z ((HPU.out.cell 0).trans rfl)
            have K7 : ∀ z : DFam (DB u.drew.drew), z.val.cell? ⟨w.heap.size, 2, none⟩ = some (.int .i64 b) := fun z => DB.some_ z ((HPU.out.cell 2).trans rfl)
            have HF2 : Hid (true = decide (∃ i, ∃ hi : i < M.length, i < q + 1 ∧ M[i].1.1 = t.1)) := Lib.hid (decide_eq_true ⟨q, hqM, Nat.lt_succ_self q, heq⟩).symm
            clear hu hel2 hcc2 x0 x1 x2 x4 x5 d0 d1 d2 d4 e0 e1 z4 hel
            refine wp_region_pb 0 [0, 1, 2, 3, 4, 5, 6, 7, 8, 9, 10, 11, 12, 13, 14, 15, 16, 17, 18, 19, 20, 21, 22, 23, 24, 25, 26, 27, 28, 29, 30, 31, 32, 33, 34, 35, 36, 37, 38, 39, 40, 41, 42, 43, 44] [] (by kernel_rfl) (by kernel_rfl) ?_
            simp only [wpT, List.map_cons, List.map_nil, List.getD_cons_succ, List.getD_cons_zero]
            repeat (go_big_quiet_step (fail))
            refine wpQuiet_nil ?_
            clear K0 K1 K2 K4 K5 K6 K7
            go_wp2_with fail
            go_roundw
            case rel => exact ⟨q + 1, true, by omega, by go_num, rfl, HF2, Lib.hid HOQ2.out, Lib.hid ⟨HNQ2.out.os, HNQ2.out.tape, HNQ2.out.output, HNQ2.out.size, HNQ2.out.block⟩⟩
            case measure => simp [intOf]; omega
          · have tn : (M[q].1.1 == t.1) = false := beq_eq_false_iff_ne.2 heq
            have HOQ2 : Hid (wp.ownsRow base 60 5 (.slice (some ⟨gA, 0, none⟩) n c) n (cellsX (midA M1 t (q + 1)))) := Lib.hid (by
              rw [midA_no M1 t hq1 (by
                have : M1[q].1 = M[q].1 := by
                  have e := HM1.out
                  subst e
                  rw [addT_at _ _ hqM]
                rw [this]; exact heq)]
              exact HOQ.out)
            have HF2 : Hid (f = decide (∃ i, ∃ hi : i < M.length, i < q + 1 ∧ M[i].1.1 = t.1)) := Lib.hid (HFQ.out.trans (decide_eq_decide.2 ⟨fun ⟨i, h1, h2, h3⟩ => ⟨i, h1, by omega, h3⟩, fun ⟨i, h1, h2, h3⟩ => ⟨i, h1, by
              rcases Nat.lt_succ_iff_lt_or_eq.1 h2 with h4 | rfl
              · exact h4
              · exact absurd h3 heq, h3⟩⟩))
            clear d0 d1 d2 d4 e0 e1 z4 hel
            go_wp2_with fail
            refine wp_region_pb 0 [0, 1, 2, 3, 4, 5, 6, 7, 8, 9, 10, 11] [] (by kernel_rfl) (by kernel_rfl) ?_
            simp only [wpT, List.map_cons, List.map_nil, List.getD_cons_succ, List.getD_cons_zero]
            repeat (go_big_quiet_step (fail))
            refine wpQuiet_nil ?_
            clear F0 F1
            go_wp2_with fail
            go_roundw
            case rel => exact ⟨q + 1, f, by omega, by go_num, rfl, HF2, Lib.hid HOQ2.out, Lib.hid ⟨HNQ.out.os, HNQ.out.tape, HNQ.out.output, HNQ.out.size, HNQ.out.block⟩⟩
            case measure => simp [intOf]; omega
        · obtain rfl : q = n := by omega
          have hft : f = true := by
            rw [HFQ.out]
            obtain ⟨⟨i, hi, he⟩, _⟩ := HKJ.out
            exact decide_eq_true ⟨i, hi, by have := HL.out; omega, by rw [he, HTT.out]⟩
          subst hft
          have HOJ2 : Hid (wp.ownsRow base 60 5 (.slice A q c) q (cellsX (addT M (ts.take (j + 1))))) := Lib.hid (by
            rw [HST.out, ← midA_end (q := q) M1 t (by have := HL1.out; omega)]
            exact HOQ.out)
          go_wp2_with fail
          go_roundw
          case rel => exact ⟨j + 1, by omega, by go_num, HOJ2, HNQ⟩
          case measure => simp [intOf]; omega
    · obtain rfl : j = nt := by omega
      have HE : Hid (addT M (ts.take j) = addT M ts) := Lib.hid (by rw [List.take_of_length_le (by have := HLT2.out; omega)])
      have HOE : Hid (wo.ownsRow base 60 5 (.slice A n c) n (cellsX (addT M ts))) := Lib.hid (by rw [← HE.out]; exact HOJ.out)
      go_wp2_with fail
      go_ret2
      exact ⟨A, n, c, rfl, HOE.out, HOW.out, fun _ h => .inl h⟩
set_option maxHeartbeats 8000000 in
set_option maxRecDepth 20000 in
theorem book_back (A At : Option Addr) (n c nt ct base : Nat) (M : List Lt) (k a b cc d : Int) (w : World) (h : w.ownsRow base 60 5 (.slice A n c) n (cellsX M)) (hn : n ≤ 1000) (hk1 : 1 < k) (hc0 : 0 ≤ cc) (hc1 : cc ≤ 1000000) (hM : ∀ x ∈ M, x.1.2.2.1 ≤ 1000000) (hok : bookOk M [(a, -cc)] false b) :
    Calls Try.prog 23 #[.slice A n c, .agg #[.int .u8 k, .int .i64 a, .int .i64 b, .int .i64 cc, .int .i64 d], .slice At nt ct] w (RetBook w base (.slice A n c) (addT M [(a, -cc)])) := by
  have HO := Lib.hid h; have HM := Lib.hid hM; have HOK := Lib.hid hok
  have HL := Lib.hid (recs_len (Reads.of_own h) encX_len (by omega))
  have HLT : Hid (∀ j, (Value.slice A n c).ownBlock = some j → j < w.heap.size) := Lib.hid fun j hj => (h.lt j hj).2
  clear h hM hok
  have t0 : (k == 0) = false := beq_eq_false_iff_ne.2 (by omega)
  have t1 : (k == 1) = false := beq_eq_false_iff_ne.2 (by omega)
  obtain ⟨v1, hv1⟩ : ∃ v, (w.alloc (.cells #[.int .u8 k, .int .i64 a, .int .i64 b, .int .i64 cc, .int .i64 d] 49)).alloc (.cells #[.int .i64 a, .int .i64 (-cc)] 58) = v := ⟨_, rfl⟩
  have HPB : Hid (Blk v1 w.heap.size 49 #[.int .u8 k, .int .i64 a, .int .i64 b, .int .i64 cc, .int .i64 d]) := Lib.hid (by rw [← hv1]; exact (Blk.new _ _ _).alloc _)
  have HW1 : Hid (Below w.heap.size w v1) := Lib.hid (by rw [← hv1]; exact ((Below.refl _ _).alloc (Nat.le_refl _) _).alloc (by simp) _)
  have HRT : Hid (Reads v1 v1.heap.size 2 (some ⟨w.heap.size + 1, 0, none⟩) 1 (cellsT [(a, -cc)])) := Lib.hid (by
    rw [← hv1]
    have := Reads.fresh (w.alloc (.cells #[.int .u8 k, .int .i64 a, .int .i64 b, .int .i64 cc, .int .i64 d] 49)) 58 #[.int .i64 a, .int .i64 (-cc)] 1 2 rfl
    simpa [cellsT, encT] using this)
  have HAT : Hid (∀ q, (some ⟨w.heap.size + 1, 0, none⟩ : Option Addr) = some q → (Value.slice A n c).ownBlock ≠ some q.block) := Lib.hid fun q e e2 => by
    injection e with e
    subst e
    have h3 : w.heap.size + 1 < w.heap.size := HLT.out _ e2
    omega
  have HLT2 : Hid ([((a : Int), -cc)].length = 1) := Lib.hid rfl
  go_enter Try.func23, Try.ntmps23
  go_wp2_with fail
  clear hv1
  have HMW : Hid (Only (fun j => (Value.slice A n c).ownBlock = some j) w v1) := Lib.hid (Only.of_new HW1.out _)
  have HO1 : Hid (v1.ownsRow base 60 5 (.slice A n c) n (cellsX (addT M ([(a, -cc)].take 0)))) := Lib.hid (by rw [List.take_zero, addT_nil]; exact own_below HO.out HW1.out)
  go_loopw [8] (fun s8 wr => ∃ j : Nat, j ≤ 1 ∧ s8 = .int .i64 j ∧ Hid (wr.ownsRow base 60 5 (.slice A n c) n (cellsX (addT M ([(a, -cc)].take j)))) ∧ Hid (Only (fun j => (Value.slice A n c).ownBlock = some j) v1 wr)) (fun s _ => 1 - (intOf s).toNat)
  case atStart => exact ⟨0, Nat.zero_le _, rfl, HO1, Lib.hid (Only.refl _ _)⟩
  case round =>
    obtain ⟨wo, rfl⟩ : ∃ wo : World, wo = wr := ⟨_, rfl⟩
    obtain ⟨j, hj, rfl, HOJ, HNJ⟩ := hrel
    have HOW : Hid (Only (fun j => (Value.slice A n c).ownBlock = some j) w wo) := Lib.hid (HMW.out.trans HNJ.out fun _ _ e => e)
    by_cases hjl : j < 1
    · have hjt : j < ([(a, -cc)]).length := by have := HLT2.out; omega
      have hj0 : (0 : Int) ≤ j := by omega
      have hj1 : (j : Int) < 1 := by omega
      obtain ⟨M1, hM1⟩ : ∃ x, addT M ([(a, -cc)].take j) = x := ⟨_, rfl⟩
      have HM1 := Lib.hid hM1
      have HL1 : Hid (M1.length = n) := Lib.hid (by rw [← hM1, addT_len]; exact HL.out)
      obtain ⟨t, ht⟩ : ∃ x, ([(a, -cc)])[j] = x := ⟨_, rfl⟩
      have HTT := Lib.hid ht
      have HST : Hid (addT M ([(a, -cc)].take (j + 1)) = M1.map (upd t)) := Lib.hid (by rw [addT_step M hjt, hM1, ht])
      have HKJ := Lib.hid (HOK.out j hjt)
      rw [hM1] at HOJ
      clear hM1 ht
      go_wp2_with fail
      go_loopw [9, 10] (fun s9 s10 wr => ∃ (q : Nat) (f : Bool), q ≤ n ∧ s10 = .int .i64 q ∧ s9 = .bool f ∧ Hid (f = decide (∃ i, ∃ hi : i < M.length, i < q ∧ M[i].1.1 = t.1)) ∧ Hid (wr.ownsRow base 60 5 (.slice A n c) n (cellsX (midA M1 t q))) ∧ Hid (Only (fun j => (Value.slice A n c).ownBlock = some j) v1 wr)) (fun _ s _ => n - (intOf s).toNat)
      case atStart => exact ⟨0, false, Nat.zero_le _, rfl, rfl, Lib.hid (decide_eq_false (fun ⟨i, _, h, _⟩ => by omega)).symm, by rw [midA_zero]; exact HOJ, HNJ⟩
      case round =>
        obtain ⟨wp, rfl⟩ : ∃ wp : World, wp = wr := ⟨_, rfl⟩
        obtain ⟨q, f, hq, rfl, rfl, HFQ, HOQ, HNQ⟩ := hrel
        by_cases hqn : q < n
        · have hqM : q < M.length := by have := HL.out; omega
          have hq1 : q < M1.length := by have := HL1.out; omega
          have hqi0 : (0 : Int) ≤ q := by omega
          have hqi1 : (q : Int) < n := by omega
          obtain ⟨gA, cap, hv, _, hgl⟩ := HOQ.out.form (show 0 < n by omega)
          injection hv with hA _ hcap
          subst hA hcap
          have hrq := Reads.of_own HOQ.out
          obtain ⟨bA, oA, eA, _, hcc⟩ := hrq.recs encX_len (by omega) (by omega)
          injection eA with eA
          injection eA with eA1 eA2
          subst eA1 eA2
          have hqm : q < (midA M1 t q).length := by rw [midA_len]; exact hq1
          obtain ⟨g0, hg0⟩ : ∃ x, M1[q].2 = x := ⟨_, rfl⟩
          have hel : (midA M1 t q)[q] = (M[q].1, g0) := by
            rw [midA_at M1 t hq1, ← hg0]
            have : M1[q].1 = M[q].1 := by
              have e := HM1.out
              subst e
              rw [addT_at _ _ hqM]
            rw [← this]
          have d0 : wp.cell? ⟨gA, q * 5, none⟩ = some (.int .i64 M[q].1.1) := by have := hcc q hqm 0 _ rfl; rw [hel] at this; simpa using this
          have d1 : wp.cell? ⟨gA, q * 5 + 1, none⟩ = some (.int .i64 M[q].1.2.1) := by have := hcc q hqm 1 _ rfl; rw [hel] at this; simpa using this
          have d2 : wp.cell? ⟨gA, q * 5 + 2, none⟩ = some (.int .i64 M[q].1.2.2.1) := by have := hcc q hqm 2 _ rfl; rw [hel] at this; simpa using this
          have d4 : wp.cell? ⟨gA, q * 5 + 4, none⟩ = some (.int .i64 g0) := by have := hcc q hqm 4 _ rfl; rw [hel] at this; simpa using this
          have zA := (own_blk HOQ.out).2.2
          obtain ⟨cur, hcB, hcs, _⟩ := zA
          have z4 := hcB.frozen (q * 5 + 4)
          have HRQ := Lib.hid (HRT.out.only_ HNQ.out fun q e => HAT.out q e)
          obtain ⟨bt, ot, et, hbt, hct⟩ := HRQ.out.recs encT_len (by omega) (by omega)
          have e0 : wp.cell? ⟨bt, ot + j * 2, none⟩ = some (.int .i64 t.1) := by have := hct j hjt 0 _ rfl; rw [HTT.out] at this; simpa using this
          have e1 : wp.cell? ⟨bt, ot + j * 2 + 1, none⟩ = some (.int .i64 t.2) := by have := hct j hjt 1 _ rfl; rw [HTT.out] at this; simpa using this
          have hne : bt ≠ gA := fun e => HAT.out _ et (by subst e; simp [Value.ownBlock])
          have HPQ := Lib.hid (HNQ.out.blk HPB.out fun e => by have := HLT.out _ e; omega)
          have F0 : ∀ z : DFam (DB wp), z.val.cell? ⟨gA, q * 5, none⟩ = some (.int .i64 M[q].1.1) := fun z => DB.some_ z d0
          have HET := Lib.hid et
          injection et with et
          injection et with eb2 eo2
          subst eb2 eo2
          rw [Nat.zero_add] at e0 e1
          have F1 : ∀ z : DFam (DB wp), z.val.cell? ⟨w.heap.size + 1, j * 2, none⟩ = some (.int .i64 t.1) := fun z => DB.some_ z e0
          clear hcc hct hrq hcB hcs
          by_cases heq : M[q].1.1 = t.1
          · have te : (M[q].1.1 == t.1) = true := beq_iff_eq.2 heq
            go_wp2_with fail
            refine wp_region_pb 0 [0, 1, 2, 3, 4, 5, 6, 7, 8, 9, 10, 11] [] (by kernel_rfl) (by kernel_rfl) ?_
            simp only [wpT, List.map_cons, List.map_nil, List.getD_cons_succ, List.getD_cons_zero]
            repeat (go_big_quiet_step (fail))
            refine wpQuiet_nil ?_
            clear F0 F1
            go_wp2_with fail
            obtain ⟨k1, k2, k3⟩ := HKJ.out.2 q hqM (by rw [HTT.out]; exact heq)
            have hgv : g0 = M[q].2 + sumT ([(a, -cc)].take j) M[q].1.1 := by
              rw [← hg0]
              have e := HM1.out
              subst e
              rw [addT_at _ _ hqM]
            rw [← hgv, HTT.out] at k1 k2
            rw [HTT.out] at k3
            have k4 := HM.out _ (List.getElem_mem hqM)
            obtain ⟨g1, hg1⟩ : ∃ x, g0 + t.2 = x := ⟨_, rfl⟩
            rw [hg1] at k1 k2
            have hwr : IntKind.i64.wrap g1 = g1 := by rw [IntKind.wrap_i64]; omega
            have c1 : decide (g1 < 0) = false := decide_eq_false (by omega)
            have c2 : decide (M[q].1.2.2.1 < g1) = false := decide_eq_false (by omega)
            skip
            have HG1 := Lib.hid hg1
            have HOQ2 : Hid ((wp.setCell ⟨gA, q * 5 + 4, none⟩ (.int .i64 g1)).ownsRow base 60 5 (.slice (some ⟨gA, 0, none⟩) n c) n (cellsX (midA M1 t (q + 1)))) := Lib.hid (by
              have h1 := own_set HOQ.out (q * 5 + 4) (.int .i64 g1)
              rw [cellsX_set _ q hqm g1] at h1
              rw [midA_yes M1 t hq1 (by
                have : M1[q].1 = M[q].1 := by
                  have e := HM1.out
                  subst e
                  rw [addT_at _ _ hqM]
                rw [this]; exact heq), hg0, HG1.out]
              exact h1)
            have HNQ2 : Hid (Only (fun j => (Value.slice (some ⟨gA, 0, none⟩) n c).ownBlock = some j) v1 (wp.setCell ⟨gA, q * 5 + 4, none⟩ (.int .i64 g1))) := Lib.hid (HNQ.out.setCell (p := ⟨gA, q * 5 + 4, none⟩) (fun _ => by simp [Value.ownBlock]) _)
            clear hgv k1 k2 k3
            have G0 : ∀ z : DFam (DB wp.drew), z.val.cell? ⟨gA, q * 5 + 4, none⟩ = some (.int .i64 g0) := fun z => DB.some_ z d4
            have G1 : ∀ z : DFam (DB wp.drew), z.val.cell? ⟨w.heap.size + 1, j * 2 + 1, none⟩ = some (.int .i64 t.2) := fun z => DB.some_ z e1
            refine wp_region_pb 0 [0, 1, 2, 3, 4, 5, 6, 7, 8, 9, 10, 11, 12] [13, 14, 15] (by kernel_rfl) (by kernel_rfl) ?_
            simp only [wpT, List.map_cons, List.map_nil, List.getD_cons_succ, List.getD_cons_zero]
            repeat (go_big_quiet_step (fail))
            refine wpQuiet_nil ?_
            clear G0 G1
            go_upto_region 15 with fail
            obtain ⟨u, hu⟩ : ∃ u, wp.setCell ⟨gA, q * 5 + 4, none⟩ (.int .i64 g1) = u := ⟨_, rfl⟩
            have hel2 : (midA M1 t (q + 1))[q]'(by rw [midA_len]; exact hq1) = (M[q].1, g1) := by
              have : M1[q].1 = M[q].1 := by
                have e := HM1.out
                subst e
                rw [addT_at _ _ hqM]
              have e2 := midA_yes M1 t hq1 (by rw [this]; exact heq)
              have e3 : (midA M1 t (q + 1))[q]? = some (M[q].1, g1) := by
                rw [e2, List.getElem?_set_self (by rw [midA_len]; exact hq1), hg0, HG1.out, hel]
              exact (List.getElem?_eq_some_iff.1 e3).2
            obtain ⟨b2, o2, eA2, _, hcc2⟩ := (Reads.of_own HOQ2.out).recs encX_len (by omega) (by omega)
            injection eA2 with eA2
            injection eA2 with eb eo
            subst eb eo
            have hqm2 : q < (midA M1 t (q + 1)).length := by rw [midA_len]; exact hq1
            have x0 : u.cell? ⟨gA, q * 5, none⟩ = some (.int .i64 M[q].1.1) := by have := hcc2 q hqm2 0 _ rfl; rw [hel2, hu] at this; simpa using this
            have x1 : u.cell? ⟨gA, q * 5 + 1, none⟩ = some (.int .i64 M[q].1.2.1) := by have := hcc2 q hqm2 1 _ rfl; rw [hel2, hu] at this; simpa using this
            have x2 : u.cell? ⟨gA, q * 5 + 2, none⟩ = some (.int .i64 M[q].1.2.2.1) := by have := hcc2 q hqm2 2 _ rfl; rw [hel2, hu] at this; simpa using this
            have x4 : u.cell? ⟨gA, q * 5 + 4, none⟩ = some (.int .i64 g1) := by have := hcc2 q hqm2 4 _ rfl; rw [hel2, hu] at this; simpa using this
            have x5 : u.cell? ⟨w.heap.size + 1, j * 2 + 1, none⟩ = some (.int .i64 t.2) := by
              rw [← hu, World.cell?_setCell_other wp ⟨gA, q * 5 + 4, none⟩ ⟨w.heap.size + 1, j * 2 + 1, none⟩ _ (fun e => hne (by injection e with e _; exact e.symm))]
              exact e1
            have HPU := Lib.hid (HNQ2.out.blk HPB.out fun e => by have := HLT.out _ e; omega)
            rw [hu] at HPU HOQ2 HNQ2 ⊢
            have K0 : ∀ z : DFam (DB u.drew.drew), z.val.cell? ⟨gA, q * 5, none⟩ = some (.int .i64 M[q].1.1) := fun z => DB.some_ z x0
            have K1 : ∀ z : DFam (DB u.drew.drew), z.val.cell? ⟨gA, q * 5 + 1, none⟩ = some (.int .i64 M[q].1.2.1) := fun z => DB.some_ z x1
            have K2 : ∀ z : DFam (DB u.drew.drew), z.val.cell? ⟨gA, q * 5 + 2, none⟩ = some (.int .i64 M[q].1.2.2.1) := fun z => DB.some_ z x2
            have K4 : ∀ z : DFam (DB u.drew.drew), z.val.cell? ⟨gA, q * 5 + 4, none⟩ = some (.int .i64 g1) := fun z => DB.some_ z x4
            have K5 : ∀ z : DFam (DB u.drew.drew), z.val.cell? ⟨w.heap.size + 1, j * 2 + 1, none⟩ = some (.int .i64 t.2) := fun z => DB.some_ z x5
            have K6 : ∀ z : DFam (DB u.drew.drew), z.val.cell? ⟨w.heap.size, 0, none⟩ = some (.int .u8 k) := fun z => DB.some_ z ((HPU.out.cell 0).trans rfl)
            have K7 : ∀ z : DFam (DB u.drew.drew), z.val.cell? ⟨w.heap.size, 2, none⟩ = some (.int .i64 b) := fun z => DB.some_ z ((HPU.out.cell 2).trans rfl)
            have HF2 : Hid (true = decide (∃ i, ∃ hi : i < M.length, i < q + 1 ∧ M[i].1.1 = t.1)) := Lib.hid (decide_eq_true ⟨q, hqM, Nat.lt_succ_self q, heq⟩).symm
            clear hu hel2 hcc2 x0 x1 x2 x4 x5 d0 d1 d2 d4 e0 e1 z4 hel
            refine wp_region_pb 0 [0, 1, 2, 3, 4, 5, 6, 7, 8, 9, 10, 11, 12, 13, 14, 15, 16, 17, 18, 19, 20, 21, 22, 23, 24, 25, 26, 27, 28, 29, 30, 31, 32, 33, 34, 35, 36, 37, 38, 39, 40, 41, 42, 43, 44] [] (by kernel_rfl) (by kernel_rfl) ?_
            simp only [wpT, List.map_cons, List.map_nil, List.getD_cons_succ, List.getD_cons_zero]
            repeat (go_big_quiet_step (fail))
            refine wpQuiet_nil ?_
            clear K0 K1 K2 K4 K5 K6 K7
            go_wp2_with fail
            go_roundw
            case rel => exact ⟨q + 1, true, by omega, by go_num, rfl, HF2, Lib.hid HOQ2.out, Lib.hid ⟨HNQ2.out.os, HNQ2.out.tape, HNQ2.out.output, HNQ2.out.size, HNQ2.out.block⟩⟩
            case measure => simp [intOf]; omega
          · have tn : (M[q].1.1 == t.1) = false := beq_eq_false_iff_ne.2 heq
            have HOQ2 : Hid (wp.ownsRow base 60 5 (.slice (some ⟨gA, 0, none⟩) n c) n (cellsX (midA M1 t (q + 1)))) := Lib.hid (by
              rw [midA_no M1 t hq1 (by
                have : M1[q].1 = M[q].1 := by
                  have e := HM1.out
                  subst e
                  rw [addT_at _ _ hqM]
                rw [this]; exact heq)]
              exact HOQ.out)
            have HF2 : Hid (f = decide (∃ i, ∃ hi : i < M.length, i < q + 1 ∧ M[i].1.1 = t.1)) := Lib.hid (HFQ.out.trans (decide_eq_decide.2 ⟨fun ⟨i, h1, h2, h3⟩ => ⟨i, h1, by omega, h3⟩, fun ⟨i, h1, h2, h3⟩ => ⟨i, h1, by
              rcases Nat.lt_succ_iff_lt_or_eq.1 h2 with h4 | rfl
              · exact h4
              · exact absurd h3 heq, h3⟩⟩))
            clear d0 d1 d2 d4 e0 e1 z4 hel
            go_wp2_with fail
            refine wp_region_pb 0 [0, 1, 2, 3, 4, 5, 6, 7, 8, 9, 10, 11] [] (by kernel_rfl) (by kernel_rfl) ?_
            simp only [wpT, List.map_cons, List.map_nil, List.getD_cons_succ, List.getD_cons_zero]
            repeat (go_big_quiet_step (fail))
            refine wpQuiet_nil ?_
            clear F0 F1
            go_wp2_with fail
            go_roundw
            case rel => exact ⟨q + 1, f, by omega, by go_num, rfl, HF2, Lib.hid HOQ2.out, Lib.hid ⟨HNQ.out.os, HNQ.out.tape, HNQ.out.output, HNQ.out.size, HNQ.out.block⟩⟩
            case measure => simp [intOf]; omega
        · obtain rfl : q = n := by omega
          have hft : f = true := by
            rw [HFQ.out]
            obtain ⟨⟨i, hi, he⟩, _⟩ := HKJ.out
            exact decide_eq_true ⟨i, hi, by have := HL.out; omega, by rw [he, HTT.out]⟩
          subst hft
          have HOJ2 : Hid (wp.ownsRow base 60 5 (.slice A q c) q (cellsX (addT M ([(a, -cc)].take (j + 1))))) := Lib.hid (by
            rw [HST.out, ← midA_end (q := q) M1 t (by have := HL1.out; omega)]
            exact HOQ.out)
          go_wp2_with fail
          go_roundw
          case rel => exact ⟨j + 1, by omega, by go_num, HOJ2, HNQ⟩
          case measure => simp [intOf]; omega
    · obtain rfl : j = 1 := by omega
      have HE : Hid (addT M ([(a, -cc)].take 1) = addT M [(a, -cc)]) := Lib.hid rfl
      have HOE : Hid (wo.ownsRow base 60 5 (.slice A n c) n (cellsX (addT M [(a, -cc)]))) := Lib.hid (by rw [← HE.out]; exact HOJ.out)
      go_wp2_with fail
      go_ret2
      exact ⟨A, n, c, rfl, HOE.out, HOW.out, fun _ h => .inl h⟩
end Go.Proofs.Ythbmofijdhfeeaa
