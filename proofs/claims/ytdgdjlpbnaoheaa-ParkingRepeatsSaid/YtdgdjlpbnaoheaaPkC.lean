/- The walks of the program's judgements: relation, judge, Judge. -/
import Derived.Test.YtdgdjlpbnaoheaaPkB
namespace Go.Proofs.Ytdgdjlpbnaoheaa
open Go.RowKit
/-- Three truths come back. -/
def RetBBB (w : World) (x y z : Bool) (e : Ending) (w' : World) : Prop := e = .returned (.tuple #[.bool x, .bool y, .bool z]) ∧ Below w.heap.size w w'
theorem ret_bbb {x y z x' y' z' : Bool} (h1 : x = x') (h2 : y = y') (h3 : z = z') : Ending.returned (.tuple #[.bool x, .bool y, .bool z]) = .returned (.tuple #[.bool x', .bool y', .bool z']) := by rw [h1, h2, h3]
set_option maxHeartbeats 4000000 in
theorem relation_any (A : Option Addr) (n c : Nat) (l : List Fc) (k : Int) (p : Pk) (a b d : Bool) (w : World) (h : FcR w A n l) (hn : n ≤ 9223372036854775807) (hp : pkB p = true) (hl : fcheckZ l = 0) (hk : kindB k = true) (ha : someB l k p.tm = a) (hb : possA l k p = b) (hd : sureA l k p = d) : Calls Try.prog 47 #[.slice A n c, .int .i64 k, aggK p] w (RetBBB w a b d) := by
  obtain ⟨kk, hK⟩ := box2K w 3 27 #[.int .i64 k] #[.int .i64 p.ride, .int .i64 p.rider, .int .i64 p.tm, .int .i64 p.x, .int .i64 p.y, .int .i64 p.r]
  have HK := Lib.hid hK
  clear hK
  obtain ⟨B0, B1, hbb⟩ := HK.out _ kk
  have c00 := B0.cell 0
  have c10 := B1.cell 0
  have c11 := B1.cell 1
  have c12 := B1.cell 2
  have c13 := B1.cell 3
  have c14 := B1.cell 4
  have c15 := B1.cell 5
  have HB := Lib.hid hbb
  clear B0 B1 hbb
  have HZA : Hid (∀ u, Below w.heap.size w u → FcR u A n l) := Lib.hid fun u hu => h.below hu
  obtain ⟨m1, hm1⟩ : ∃ m, possN l k (p.x, p.y) p.r p.tm = m := ⟨_, rfl⟩
  obtain ⟨m2, hm2⟩ : ∃ m, sureN l k (p.x, p.y) p.r p.tm = m := ⟨_, rfl⟩
  have HQ := Lib.hid (quest_of hp hl hk)
  have HM1 := Lib.hid hm1; have HM2 := Lib.hid hm2
  have HB1 : Hid (decide (0 < m1) = b) := Lib.hid (by rw [← hm1, possN_pos hp hl hk, hb])
  have HD1 : Hid (decide (0 < m2) = d) := Lib.hid (by rw [← hm2, sureN_pos hp hl hk, hd])
  have HA := Lib.hid ha
  have hmf := mf_
  clear h ha hb hd hm1 hm2 hp hl hk
  go_enter Try.func47, Try.ntmps47
  go_wp2_with fail
  refine (containsFc_any A n c l w.heap.size (w.heap.size + 1) (fun f => decide (f.k = k) && activeB f p.tm) a _ (HZA.out _ HB.out) hn (fun f _ u hu => relclos_any f k p _ _ _ u ((HK.out _ (below_next kk (Nat.le_refl _) hu)).1) ((HK.out _ (below_next kk (Nat.le_refl _) hu)).2.1) rfl) HA.out).mono ?_
  rintro e w1 ⟨rfl, hb1⟩
  replace kk := below_next kk (Nat.le_refl _) hb1
  clear c00 c10 c11 c12 c13 c14 c15 HB hb1
  obtain ⟨B0, B1, hbb⟩ := HK.out _ kk
  have c00 := B0.cell 0
  have c10 := B1.cell 0
  have c11 := B1.cell 1
  have c12 := B1.cell 2
  have c13 := B1.cell 3
  have c14 := B1.cell 4
  have c15 := B1.cell 5
  have HB := Lib.hid hbb
  clear B0 B1 hbb
  go_wp2_with fail
  refine (possfc_any A n c l k (p.x, p.y) p.r p.tm m1 0 _ (HZA.out _ HB.out) hn HQ.out HM1.out).mono ?_
  rintro e w2 ⟨A2, cc2, rfl, hb2⟩
  replace kk := below_next kk (Nat.le_refl _) hb2
  clear c00 c10 c11 c12 c13 c14 c15 HB hb2
  obtain ⟨B0, B1, hbb⟩ := HK.out _ kk
  have c00 := B0.cell 0
  have c10 := B1.cell 0
  have c11 := B1.cell 1
  have c12 := B1.cell 2
  have c13 := B1.cell 3
  have c14 := B1.cell 4
  have c15 := B1.cell 5
  have HB := Lib.hid hbb
  clear B0 B1 hbb
  go_wp2_with fail
  refine (surefc_any A n c l k (p.x, p.y) p.r p.tm m2 0 _ (HZA.out _ HB.out) hn HQ.out HM2.out).mono ?_
  rintro e w3 ⟨A3, cc3, rfl, hb3⟩
  replace kk := below_next kk (Nat.le_refl _) hb3
  clear c00 c10 c11 c12 c13 c14 c15 HB hb3
  obtain ⟨B0, B1, hbb⟩ := HK.out _ kk
  have c00 := B0.cell 0
  have c10 := B1.cell 0
  have c11 := B1.cell 1
  have c12 := B1.cell 2
  have c13 := B1.cell 3
  have c14 := B1.cell 4
  have c15 := B1.cell 5
  have HB := Lib.hid hbb
  clear B0 B1 hbb
  go_wp2_with fail
  go_ret3
  exact ⟨ret_bbb rfl HB1.out HD1.out, HB.out⟩
abbrev aggV (p : Pk) (k : Int) : Value := .agg #[.int .i64 p.ride, .int .i64 p.rider, .int .i64 p.tm, .int .i64 k]
/-- A verdict comes back. -/
def RetV (w : World) (p : Pk) (k : Int) (e : Ending) (w' : World) : Prop := e = .returned (aggV p k) ∧ Below w.heap.size w w'
set_option maxHeartbeats 4000000 in
theorem judge_any (A : Option Addr) (n c : Nat) (l : List Fc) (A2 : Option Addr) (m c2 : Nat) (ps : List Ph) (p : Pk) (k : Int) (w : World) (h : FcR w A n l) (hn : n ≤ 9223372036854775807) (h2 : PsR w A2 m ps) (hm : m ≤ 9223372036854775807) (hp : pkB p = true) (hl : fcheckZ l = 0) (hk : judgeZ l (countsB ps p) p = k) : Calls Try.prog 29 #[.slice A n c, .slice A2 m c2, aggK p] w (RetV w p k) := by
  obtain ⟨kk, hK⟩ := box2K w 27 31 #[.int .i64 p.ride, .int .i64 p.rider, .int .i64 p.tm, .int .i64 p.x, .int .i64 p.y, .int .i64 p.r] #[.int .i64 0, .int .i64 0, .int .i64 0, .int .i64 0]
  have HK := Lib.hid hK
  clear hK
  obtain ⟨B0, B1, hbb⟩ := HK.out _ kk
  have c00 := B0.cell 0
  have c01 := B0.cell 1
  have c02 := B0.cell 2
  have c03 := B0.cell 3
  have c04 := B0.cell 4
  have c05 := B0.cell 5
  have c10 := B1.cell 0
  have c11 := B1.cell 1
  have c12 := B1.cell 2
  have c13 := B1.cell 3
  have HB := Lib.hid hbb
  clear B0 B1 hbb
  have HZA : Hid (∀ u, Below w.heap.size w u → FcR u A n l) := Lib.hid fun u hu => h.below hu
  have HZP : Hid (∀ u, Below w.heap.size w u → PsR u A2 m ps) := Lib.hid fun u hu => h2.below hu
  have htm := (pkB_inv hp).2.2.1
  have HTM := Lib.hid htm
  have HP := Lib.hid hp; have HL := Lib.hid hl
  obtain ⟨a1, ha1⟩ : ∃ a, someB l 1 p.tm = a := ⟨_, rfl⟩
  obtain ⟨b1, hb1⟩ : ∃ a, possA l 1 p = a := ⟨_, rfl⟩
  obtain ⟨d1, hd1⟩ : ∃ a, sureA l 1 p = a := ⟨_, rfl⟩
  obtain ⟨a2, ha2⟩ : ∃ a, someB l 2 p.tm = a := ⟨_, rfl⟩
  obtain ⟨b2, hb2⟩ : ∃ a, possA l 2 p = a := ⟨_, rfl⟩
  obtain ⟨d2, hd2⟩ : ∃ a, sureA l 2 p = a := ⟨_, rfl⟩
  obtain ⟨cc, hcc⟩ : ∃ a, countsB ps p = a := ⟨_, rfl⟩
  have HK2 : Hid (judgeB d1 b1 d2 b2 a2 cc = k) := Lib.hid (by rw [← hk]; unfold judgeZ; rw [hd1, hb1, hd2, hb2, ha2, hcc])
  have HA1 := Lib.hid ha1; have HB1 := Lib.hid hb1; have HD1 := Lib.hid hd1; have HA2 := Lib.hid ha2; have HB2 := Lib.hid hb2; have HD2 := Lib.hid hd2; have HCC := Lib.hid hcc
  have hmf := mf_
  clear h h2 hp hl hk ha1 hb1 hd1 ha2 hb2 hd2 hcc htm
  rcases d1 with _ | _
  · skip
    rcases a2 with _ | _
    · skip
      rcases b1 with _ | _
      · skip
        have HX : Hid (1 = k) := Lib.hid (by rw [← HK2.out]; simp [judgeB])
        go_enter Try.func29, Try.ntmps29
        go_wp2_with fail
        refine (relation_any A n c l 1 p a1 false false _ (HZA.out _ HB.out) hn HP.out HL.out rfl HA1.out HB1.out HD1.out).mono ?_
        rintro e w1 ⟨rfl, hb1⟩
        replace kk := below_next kk (Nat.le_refl _) hb1
        clear c00 c01 c02 c03 c04 c05 c10 c11 c12 c13 HB hb1
        obtain ⟨B0, B1, hbb⟩ := HK.out _ kk
        have c00 := B0.cell 0
        have c01 := B0.cell 1
        have c02 := B0.cell 2
        have c03 := B0.cell 3
        have c04 := B0.cell 4
        have c05 := B0.cell 5
        have c10 := B1.cell 0
        have c11 := B1.cell 1
        have c12 := B1.cell 2
        have c13 := B1.cell 3
        have HB := Lib.hid hbb
        clear B0 B1 hbb
        go_wp2_with fail
        refine (relation_any A n c l 2 p false b2 d2 _ (HZA.out _ HB.out) hn HP.out HL.out rfl HA2.out HB2.out HD2.out).mono ?_
        rintro e w2 ⟨rfl, hb2⟩
        replace kk := below_next kk (Nat.le_refl _) hb2
        clear c00 c01 c02 c03 c04 c05 c10 c11 c12 c13 HB hb2
        obtain ⟨B0, B1, hbb⟩ := HK.out _ kk
        have c00 := B0.cell 0
        have c01 := B0.cell 1
        have c02 := B0.cell 2
        have c03 := B0.cell 3
        have c04 := B0.cell 4
        have c05 := B0.cell 5
        have c10 := B1.cell 0
        have c11 := B1.cell 1
        have c12 := B1.cell 2
        have c13 := B1.cell 3
        have HB := Lib.hid hbb
        clear B0 B1 hbb
        have BV := (HK.out _ kk).2.1
        have q0 : ∀ o, (w2.alloc o).cell? ⟨w.heap.size + 1, 0, none⟩ = some (.int .i64 0) := fun o => (BV.alloc o).cell 0
        have fq0 : ∀ o, (w2.alloc o).frozen? ⟨w.heap.size + 1, 0, none⟩ = false := fun o => (BV.alloc o).frozen 0
        have q1 : ∀ o, (w2.alloc o).cell? ⟨w.heap.size + 1, 1, none⟩ = some (.int .i64 0) := fun o => (BV.alloc o).cell 1
        have fq1 : ∀ o, (w2.alloc o).frozen? ⟨w.heap.size + 1, 1, none⟩ = false := fun o => (BV.alloc o).frozen 1
        have q2 : ∀ o, (w2.alloc o).cell? ⟨w.heap.size + 1, 2, none⟩ = some (.int .i64 0) := fun o => (BV.alloc o).cell 2
        have fq2 : ∀ o, (w2.alloc o).frozen? ⟨w.heap.size + 1, 2, none⟩ = false := fun o => (BV.alloc o).frozen 2
        have q3 : ∀ o, (w2.alloc o).cell? ⟨w.heap.size + 1, 3, none⟩ = some (.int .i64 0) := fun o => (BV.alloc o).cell 3
        have fq3 : ∀ o, (w2.alloc o).frozen? ⟨w.heap.size + 1, 3, none⟩ = false := fun o => (BV.alloc o).frozen 3
        clear BV
        go_wp2_with fail
        all_goals exact bodyPost_ret (v := aggV p 1) (by simp [results, Try.results29, go_sem, q0, q1, q2, q3]) rfl ⟨by rw [HX.out], by repeat (first | exact HB.out.alloc HB.out.size _ | refine Below.setCell ?_ (show w.heap.size ≤ w.heap.size + 1 by omega) _)⟩
      · skip
        rcases cc with _ | _
        · have HX : Hid (3 = k) := Lib.hid (by rw [← HK2.out]; simp [judgeB])
          go_enter Try.func29, Try.ntmps29
          go_wp2_with fail
          refine (relation_any A n c l 1 p a1 true false _ (HZA.out _ HB.out) hn HP.out HL.out rfl HA1.out HB1.out HD1.out).mono ?_
          rintro e w3 ⟨rfl, hb3⟩
          replace kk := below_next kk (Nat.le_refl _) hb3
          clear c00 c01 c02 c03 c04 c05 c10 c11 c12 c13 HB hb3
          obtain ⟨B0, B1, hbb⟩ := HK.out _ kk
          have c00 := B0.cell 0
          have c01 := B0.cell 1
          have c02 := B0.cell 2
          have c03 := B0.cell 3
          have c04 := B0.cell 4
          have c05 := B0.cell 5
          have c10 := B1.cell 0
          have c11 := B1.cell 1
          have c12 := B1.cell 2
          have c13 := B1.cell 3
          have HB := Lib.hid hbb
          clear B0 B1 hbb
          go_wp2_with fail
          refine (relation_any A n c l 2 p false b2 d2 _ (HZA.out _ HB.out) hn HP.out HL.out rfl HA2.out HB2.out HD2.out).mono ?_
          rintro e w4 ⟨rfl, hb4⟩
          replace kk := below_next kk (Nat.le_refl _) hb4
          clear c00 c01 c02 c03 c04 c05 c10 c11 c12 c13 HB hb4
          obtain ⟨B0, B1, hbb⟩ := HK.out _ kk
          have c00 := B0.cell 0
          have c01 := B0.cell 1
          have c02 := B0.cell 2
          have c03 := B0.cell 3
          have c04 := B0.cell 4
          have c05 := B0.cell 5
          have c10 := B1.cell 0
          have c11 := B1.cell 1
          have c12 := B1.cell 2
          have c13 := B1.cell 3
          have HB := Lib.hid hbb
          clear B0 B1 hbb
          have BV := (HK.out _ kk).2.1
          have q0 : ∀ o, (w4.alloc o).cell? ⟨w.heap.size + 1, 0, none⟩ = some (.int .i64 0) := fun o => (BV.alloc o).cell 0
          have fq0 : ∀ o, (w4.alloc o).frozen? ⟨w.heap.size + 1, 0, none⟩ = false := fun o => (BV.alloc o).frozen 0
          have q1 : ∀ o, (w4.alloc o).cell? ⟨w.heap.size + 1, 1, none⟩ = some (.int .i64 0) := fun o => (BV.alloc o).cell 1
          have fq1 : ∀ o, (w4.alloc o).frozen? ⟨w.heap.size + 1, 1, none⟩ = false := fun o => (BV.alloc o).frozen 1
          have q2 : ∀ o, (w4.alloc o).cell? ⟨w.heap.size + 1, 2, none⟩ = some (.int .i64 0) := fun o => (BV.alloc o).cell 2
          have fq2 : ∀ o, (w4.alloc o).frozen? ⟨w.heap.size + 1, 2, none⟩ = false := fun o => (BV.alloc o).frozen 2
          have q3 : ∀ o, (w4.alloc o).cell? ⟨w.heap.size + 1, 3, none⟩ = some (.int .i64 0) := fun o => (BV.alloc o).cell 3
          have fq3 : ∀ o, (w4.alloc o).frozen? ⟨w.heap.size + 1, 3, none⟩ = false := fun o => (BV.alloc o).frozen 3
          clear BV
          go_wp2_with fail
          have hv4 := Blk.new w4 31 #[.int .i64 p.ride, .int .i64 p.rider, .int .i64 p.tm, .int .i64 3]
          have HV4 := Lib.hid hv4
          have kk4 := kk.alloc kk.size (.cells #[.int .i64 p.ride, .int .i64 p.rider, .int .i64 p.tm, .int .i64 3] 31)
          have HB4 := Lib.hid (HB.out.alloc HB.out.size (.cells #[.int .i64 p.ride, .int .i64 p.rider, .int .i64 p.tm, .int .i64 3] 31))
          clear hv4 c00 c01 c02 c03 c04 c05 c10 c11 c12 c13 q0 q1 q2 q3 fq0 fq1 fq2 fq3
          refine (containsPh_any A2 m c2 ps w.heap.size (fun x => countB x p) false _ (HZP.out _ HB4.out) hm (fun f hf u hu => countclos_any f p _ _ u ((HZP.out _ (below_next HB4.out (Nat.le_refl _) hu)).2.1 f hf) ((HK.out _ (below_next kk4 (Nat.le_refl _) hu)).1) HTM.out rfl) HCC.out).mono ?_
          rintro e w5 ⟨rfl, hb5⟩
          have BV := (HK.out _ (below_next kk4 (Nat.le_refl _) hb5)).2.1
          have V4 := HV4.out.ofBelow hb5
          have q0 := (BV.cell 0).trans rfl; have fq0 := BV.frozen 0; have v0 := (V4.cell 0).trans rfl; have fv0 := V4.frozen 0
          have q1 := (BV.cell 1).trans rfl; have fq1 := BV.frozen 1; have v1 := (V4.cell 1).trans rfl; have fv1 := V4.frozen 1
          have q2 := (BV.cell 2).trans rfl; have fq2 := BV.frozen 2; have v2 := (V4.cell 2).trans rfl; have fv2 := V4.frozen 2
          have q3 := (BV.cell 3).trans rfl; have fq3 := BV.frozen 3; have v3 := (V4.cell 3).trans rfl; have fv3 := V4.frozen 3
          have HB5 := Lib.hid (below_next HB4.out (Nat.le_refl _) hb5)
          have hw2 : w.heap.size ≤ w4.heap.size := HB.out.size
          have hne : w4.heap.size ≠ w.heap.size + 1 := by have := kk.size; simp at this; omega
          clear BV V4 hb5 HB HB4 kk4
          go_wp2_with fail
          all_goals exact bodyPost_ret (v := aggV p 3) (by simp [results, Try.results29, go_sem, q0, q1, q2, q3]) rfl ⟨by rw [HX.out], by repeat (first | exact HB5.out | refine Below.setCell ?_ (show w.heap.size ≤ w.heap.size + 1 by omega) _ | refine Below.setCell ?_ hw2 _)⟩
        · have HX : Hid (1 = k) := Lib.hid (by rw [← HK2.out]; simp [judgeB])
          go_enter Try.func29, Try.ntmps29
          go_wp2_with fail
          refine (relation_any A n c l 1 p a1 true false _ (HZA.out _ HB.out) hn HP.out HL.out rfl HA1.out HB1.out HD1.out).mono ?_
          rintro e w5 ⟨rfl, hb5⟩
          replace kk := below_next kk (Nat.le_refl _) hb5
          clear c00 c01 c02 c03 c04 c05 c10 c11 c12 c13 HB hb5
          obtain ⟨B0, B1, hbb⟩ := HK.out _ kk
          have c00 := B0.cell 0
          have c01 := B0.cell 1
          have c02 := B0.cell 2
          have c03 := B0.cell 3
          have c04 := B0.cell 4
          have c05 := B0.cell 5
          have c10 := B1.cell 0
          have c11 := B1.cell 1
          have c12 := B1.cell 2
          have c13 := B1.cell 3
          have HB := Lib.hid hbb
          clear B0 B1 hbb
          go_wp2_with fail
          refine (relation_any A n c l 2 p false b2 d2 _ (HZA.out _ HB.out) hn HP.out HL.out rfl HA2.out HB2.out HD2.out).mono ?_
          rintro e w6 ⟨rfl, hb6⟩
          replace kk := below_next kk (Nat.le_refl _) hb6
          clear c00 c01 c02 c03 c04 c05 c10 c11 c12 c13 HB hb6
          obtain ⟨B0, B1, hbb⟩ := HK.out _ kk
          have c00 := B0.cell 0
          have c01 := B0.cell 1
          have c02 := B0.cell 2
          have c03 := B0.cell 3
          have c04 := B0.cell 4
          have c05 := B0.cell 5
          have c10 := B1.cell 0
          have c11 := B1.cell 1
          have c12 := B1.cell 2
          have c13 := B1.cell 3
          have HB := Lib.hid hbb
          clear B0 B1 hbb
          have BV := (HK.out _ kk).2.1
          have q0 : ∀ o, (w6.alloc o).cell? ⟨w.heap.size + 1, 0, none⟩ = some (.int .i64 0) := fun o => (BV.alloc o).cell 0
          have fq0 : ∀ o, (w6.alloc o).frozen? ⟨w.heap.size + 1, 0, none⟩ = false := fun o => (BV.alloc o).frozen 0
          have q1 : ∀ o, (w6.alloc o).cell? ⟨w.heap.size + 1, 1, none⟩ = some (.int .i64 0) := fun o => (BV.alloc o).cell 1
          have fq1 : ∀ o, (w6.alloc o).frozen? ⟨w.heap.size + 1, 1, none⟩ = false := fun o => (BV.alloc o).frozen 1
          have q2 : ∀ o, (w6.alloc o).cell? ⟨w.heap.size + 1, 2, none⟩ = some (.int .i64 0) := fun o => (BV.alloc o).cell 2
          have fq2 : ∀ o, (w6.alloc o).frozen? ⟨w.heap.size + 1, 2, none⟩ = false := fun o => (BV.alloc o).frozen 2
          have q3 : ∀ o, (w6.alloc o).cell? ⟨w.heap.size + 1, 3, none⟩ = some (.int .i64 0) := fun o => (BV.alloc o).cell 3
          have fq3 : ∀ o, (w6.alloc o).frozen? ⟨w.heap.size + 1, 3, none⟩ = false := fun o => (BV.alloc o).frozen 3
          clear BV
          go_wp2_with fail
          have hv4 := Blk.new w6 31 #[.int .i64 p.ride, .int .i64 p.rider, .int .i64 p.tm, .int .i64 3]
          have HV4 := Lib.hid hv4
          have kk4 := kk.alloc kk.size (.cells #[.int .i64 p.ride, .int .i64 p.rider, .int .i64 p.tm, .int .i64 3] 31)
          have HB4 := Lib.hid (HB.out.alloc HB.out.size (.cells #[.int .i64 p.ride, .int .i64 p.rider, .int .i64 p.tm, .int .i64 3] 31))
          clear hv4 c00 c01 c02 c03 c04 c05 c10 c11 c12 c13 q0 q1 q2 q3 fq0 fq1 fq2 fq3
          refine (containsPh_any A2 m c2 ps w.heap.size (fun x => countB x p) true _ (HZP.out _ HB4.out) hm (fun f hf u hu => countclos_any f p _ _ u ((HZP.out _ (below_next HB4.out (Nat.le_refl _) hu)).2.1 f hf) ((HK.out _ (below_next kk4 (Nat.le_refl _) hu)).1) HTM.out rfl) HCC.out).mono ?_
          rintro e w5 ⟨rfl, hb5⟩
          have BV := (HK.out _ (below_next kk4 (Nat.le_refl _) hb5)).2.1
          have V4 := HV4.out.ofBelow hb5
          have q0 := (BV.cell 0).trans rfl; have fq0 := BV.frozen 0; have v0 := (V4.cell 0).trans rfl; have fv0 := V4.frozen 0
          have q1 := (BV.cell 1).trans rfl; have fq1 := BV.frozen 1; have v1 := (V4.cell 1).trans rfl; have fv1 := V4.frozen 1
          have q2 := (BV.cell 2).trans rfl; have fq2 := BV.frozen 2; have v2 := (V4.cell 2).trans rfl; have fv2 := V4.frozen 2
          have q3 := (BV.cell 3).trans rfl; have fq3 := BV.frozen 3; have v3 := (V4.cell 3).trans rfl; have fv3 := V4.frozen 3
          have HB5 := Lib.hid (below_next HB4.out (Nat.le_refl _) hb5)
          have hw2 : w.heap.size ≤ w6.heap.size := HB.out.size
          have hne : w6.heap.size ≠ w.heap.size + 1 := by have := kk.size; simp at this; omega
          clear BV V4 hb5 HB HB4 kk4
          go_wp2_with fail
          all_goals exact bodyPost_ret (v := aggV p 1) (by simp [results, Try.results29, go_sem, q0, q1, q2, q3]) rfl ⟨by rw [HX.out], by repeat (first | exact HB5.out | refine Below.setCell ?_ (show w.heap.size ≤ w.heap.size + 1 by omega) _ | refine Below.setCell ?_ hw2 _)⟩
    · skip
      rcases b2 with _ | _
      · skip
        have HX : Hid (2 = k) := Lib.hid (by rw [← HK2.out]; simp [judgeB])
        go_enter Try.func29, Try.ntmps29
        go_wp2_with fail
        refine (relation_any A n c l 1 p a1 b1 false _ (HZA.out _ HB.out) hn HP.out HL.out rfl HA1.out HB1.out HD1.out).mono ?_
        rintro e w7 ⟨rfl, hb7⟩
        replace kk := below_next kk (Nat.le_refl _) hb7
        clear c00 c01 c02 c03 c04 c05 c10 c11 c12 c13 HB hb7
        obtain ⟨B0, B1, hbb⟩ := HK.out _ kk
        have c00 := B0.cell 0
        have c01 := B0.cell 1
        have c02 := B0.cell 2
        have c03 := B0.cell 3
        have c04 := B0.cell 4
        have c05 := B0.cell 5
        have c10 := B1.cell 0
        have c11 := B1.cell 1
        have c12 := B1.cell 2
        have c13 := B1.cell 3
        have HB := Lib.hid hbb
        clear B0 B1 hbb
        go_wp2_with fail
        refine (relation_any A n c l 2 p true false d2 _ (HZA.out _ HB.out) hn HP.out HL.out rfl HA2.out HB2.out HD2.out).mono ?_
        rintro e w8 ⟨rfl, hb8⟩
        replace kk := below_next kk (Nat.le_refl _) hb8
        clear c00 c01 c02 c03 c04 c05 c10 c11 c12 c13 HB hb8
        obtain ⟨B0, B1, hbb⟩ := HK.out _ kk
        have c00 := B0.cell 0
        have c01 := B0.cell 1
        have c02 := B0.cell 2
        have c03 := B0.cell 3
        have c04 := B0.cell 4
        have c05 := B0.cell 5
        have c10 := B1.cell 0
        have c11 := B1.cell 1
        have c12 := B1.cell 2
        have c13 := B1.cell 3
        have HB := Lib.hid hbb
        clear B0 B1 hbb
        have BV := (HK.out _ kk).2.1
        have q0 : ∀ o, (w8.alloc o).cell? ⟨w.heap.size + 1, 0, none⟩ = some (.int .i64 0) := fun o => (BV.alloc o).cell 0
        have fq0 : ∀ o, (w8.alloc o).frozen? ⟨w.heap.size + 1, 0, none⟩ = false := fun o => (BV.alloc o).frozen 0
        have q1 : ∀ o, (w8.alloc o).cell? ⟨w.heap.size + 1, 1, none⟩ = some (.int .i64 0) := fun o => (BV.alloc o).cell 1
        have fq1 : ∀ o, (w8.alloc o).frozen? ⟨w.heap.size + 1, 1, none⟩ = false := fun o => (BV.alloc o).frozen 1
        have q2 : ∀ o, (w8.alloc o).cell? ⟨w.heap.size + 1, 2, none⟩ = some (.int .i64 0) := fun o => (BV.alloc o).cell 2
        have fq2 : ∀ o, (w8.alloc o).frozen? ⟨w.heap.size + 1, 2, none⟩ = false := fun o => (BV.alloc o).frozen 2
        have q3 : ∀ o, (w8.alloc o).cell? ⟨w.heap.size + 1, 3, none⟩ = some (.int .i64 0) := fun o => (BV.alloc o).cell 3
        have fq3 : ∀ o, (w8.alloc o).frozen? ⟨w.heap.size + 1, 3, none⟩ = false := fun o => (BV.alloc o).frozen 3
        clear BV
        go_wp2_with fail
        all_goals exact bodyPost_ret (v := aggV p 2) (by simp [results, Try.results29, go_sem, q0, q1, q2, q3]) rfl ⟨by rw [HX.out], by repeat (first | exact HB.out.alloc HB.out.size _ | refine Below.setCell ?_ (show w.heap.size ≤ w.heap.size + 1 by omega) _)⟩
      · skip
        rcases b1 with _ | _
        · skip
          rcases d2 with _ | _
          · skip
            rcases cc with _ | _
            · have HX : Hid (3 = k) := Lib.hid (by rw [← HK2.out]; simp [judgeB])
              go_enter Try.func29, Try.ntmps29
              go_wp2_with fail
              refine (relation_any A n c l 1 p a1 false false _ (HZA.out _ HB.out) hn HP.out HL.out rfl HA1.out HB1.out HD1.out).mono ?_
              rintro e w9 ⟨rfl, hb9⟩
              replace kk := below_next kk (Nat.le_refl _) hb9
              clear c00 c01 c02 c03 c04 c05 c10 c11 c12 c13 HB hb9
              obtain ⟨B0, B1, hbb⟩ := HK.out _ kk
              have c00 := B0.cell 0
              have c01 := B0.cell 1
              have c02 := B0.cell 2
              have c03 := B0.cell 3
              have c04 := B0.cell 4
              have c05 := B0.cell 5
              have c10 := B1.cell 0
              have c11 := B1.cell 1
              have c12 := B1.cell 2
              have c13 := B1.cell 3
              have HB := Lib.hid hbb
              clear B0 B1 hbb
              go_wp2_with fail
              refine (relation_any A n c l 2 p true true false _ (HZA.out _ HB.out) hn HP.out HL.out rfl HA2.out HB2.out HD2.out).mono ?_
              rintro e w10 ⟨rfl, hb10⟩
              replace kk := below_next kk (Nat.le_refl _) hb10
              clear c00 c01 c02 c03 c04 c05 c10 c11 c12 c13 HB hb10
              obtain ⟨B0, B1, hbb⟩ := HK.out _ kk
              have c00 := B0.cell 0
              have c01 := B0.cell 1
              have c02 := B0.cell 2
              have c03 := B0.cell 3
              have c04 := B0.cell 4
              have c05 := B0.cell 5
              have c10 := B1.cell 0
              have c11 := B1.cell 1
              have c12 := B1.cell 2
              have c13 := B1.cell 3
              have HB := Lib.hid hbb
              clear B0 B1 hbb
              have BV := (HK.out _ kk).2.1
              have q0 : ∀ o, (w10.alloc o).cell? ⟨w.heap.size + 1, 0, none⟩ = some (.int .i64 0) := fun o => (BV.alloc o).cell 0
              have fq0 : ∀ o, (w10.alloc o).frozen? ⟨w.heap.size + 1, 0, none⟩ = false := fun o => (BV.alloc o).frozen 0
              have q1 : ∀ o, (w10.alloc o).cell? ⟨w.heap.size + 1, 1, none⟩ = some (.int .i64 0) := fun o => (BV.alloc o).cell 1
              have fq1 : ∀ o, (w10.alloc o).frozen? ⟨w.heap.size + 1, 1, none⟩ = false := fun o => (BV.alloc o).frozen 1
              have q2 : ∀ o, (w10.alloc o).cell? ⟨w.heap.size + 1, 2, none⟩ = some (.int .i64 0) := fun o => (BV.alloc o).cell 2
              have fq2 : ∀ o, (w10.alloc o).frozen? ⟨w.heap.size + 1, 2, none⟩ = false := fun o => (BV.alloc o).frozen 2
              have q3 : ∀ o, (w10.alloc o).cell? ⟨w.heap.size + 1, 3, none⟩ = some (.int .i64 0) := fun o => (BV.alloc o).cell 3
              have fq3 : ∀ o, (w10.alloc o).frozen? ⟨w.heap.size + 1, 3, none⟩ = false := fun o => (BV.alloc o).frozen 3
              clear BV
              go_wp2_with fail
              have hv4 := Blk.new w10 31 #[.int .i64 p.ride, .int .i64 p.rider, .int .i64 p.tm, .int .i64 3]
              have HV4 := Lib.hid hv4
              have kk4 := kk.alloc kk.size (.cells #[.int .i64 p.ride, .int .i64 p.rider, .int .i64 p.tm, .int .i64 3] 31)
              have HB4 := Lib.hid (HB.out.alloc HB.out.size (.cells #[.int .i64 p.ride, .int .i64 p.rider, .int .i64 p.tm, .int .i64 3] 31))
              clear hv4 c00 c01 c02 c03 c04 c05 c10 c11 c12 c13 q0 q1 q2 q3 fq0 fq1 fq2 fq3
              refine (containsPh_any A2 m c2 ps w.heap.size (fun x => countB x p) false _ (HZP.out _ HB4.out) hm (fun f hf u hu => countclos_any f p _ _ u ((HZP.out _ (below_next HB4.out (Nat.le_refl _) hu)).2.1 f hf) ((HK.out _ (below_next kk4 (Nat.le_refl _) hu)).1) HTM.out rfl) HCC.out).mono ?_
              rintro e w5 ⟨rfl, hb5⟩
              have BV := (HK.out _ (below_next kk4 (Nat.le_refl _) hb5)).2.1
              have V4 := HV4.out.ofBelow hb5
              have q0 := (BV.cell 0).trans rfl; have fq0 := BV.frozen 0; have v0 := (V4.cell 0).trans rfl; have fv0 := V4.frozen 0
              have q1 := (BV.cell 1).trans rfl; have fq1 := BV.frozen 1; have v1 := (V4.cell 1).trans rfl; have fv1 := V4.frozen 1
              have q2 := (BV.cell 2).trans rfl; have fq2 := BV.frozen 2; have v2 := (V4.cell 2).trans rfl; have fv2 := V4.frozen 2
              have q3 := (BV.cell 3).trans rfl; have fq3 := BV.frozen 3; have v3 := (V4.cell 3).trans rfl; have fv3 := V4.frozen 3
              have HB5 := Lib.hid (below_next HB4.out (Nat.le_refl _) hb5)
              have hw2 : w.heap.size ≤ w10.heap.size := HB.out.size
              have hne : w10.heap.size ≠ w.heap.size + 1 := by have := kk.size; simp at this; omega
              clear BV V4 hb5 HB HB4 kk4
              go_wp2_with fail
              all_goals exact bodyPost_ret (v := aggV p 3) (by simp [results, Try.results29, go_sem, q0, q1, q2, q3]) rfl ⟨by rw [HX.out], by repeat (first | exact HB5.out | refine Below.setCell ?_ (show w.heap.size ≤ w.heap.size + 1 by omega) _ | refine Below.setCell ?_ hw2 _)⟩
            · have HX : Hid (1 = k) := Lib.hid (by rw [← HK2.out]; simp [judgeB])
              go_enter Try.func29, Try.ntmps29
              go_wp2_with fail
              refine (relation_any A n c l 1 p a1 false false _ (HZA.out _ HB.out) hn HP.out HL.out rfl HA1.out HB1.out HD1.out).mono ?_
              rintro e w11 ⟨rfl, hb11⟩
              replace kk := below_next kk (Nat.le_refl _) hb11
              clear c00 c01 c02 c03 c04 c05 c10 c11 c12 c13 HB hb11
              obtain ⟨B0, B1, hbb⟩ := HK.out _ kk
              have c00 := B0.cell 0
              have c01 := B0.cell 1
              have c02 := B0.cell 2
              have c03 := B0.cell 3
              have c04 := B0.cell 4
              have c05 := B0.cell 5
              have c10 := B1.cell 0
              have c11 := B1.cell 1
              have c12 := B1.cell 2
              have c13 := B1.cell 3
              have HB := Lib.hid hbb
              clear B0 B1 hbb
              go_wp2_with fail
              refine (relation_any A n c l 2 p true true false _ (HZA.out _ HB.out) hn HP.out HL.out rfl HA2.out HB2.out HD2.out).mono ?_
              rintro e w12 ⟨rfl, hb12⟩
              replace kk := below_next kk (Nat.le_refl _) hb12
              clear c00 c01 c02 c03 c04 c05 c10 c11 c12 c13 HB hb12
              obtain ⟨B0, B1, hbb⟩ := HK.out _ kk
              have c00 := B0.cell 0
              have c01 := B0.cell 1
              have c02 := B0.cell 2
              have c03 := B0.cell 3
              have c04 := B0.cell 4
              have c05 := B0.cell 5
              have c10 := B1.cell 0
              have c11 := B1.cell 1
              have c12 := B1.cell 2
              have c13 := B1.cell 3
              have HB := Lib.hid hbb
              clear B0 B1 hbb
              have BV := (HK.out _ kk).2.1
              have q0 : ∀ o, (w12.alloc o).cell? ⟨w.heap.size + 1, 0, none⟩ = some (.int .i64 0) := fun o => (BV.alloc o).cell 0
              have fq0 : ∀ o, (w12.alloc o).frozen? ⟨w.heap.size + 1, 0, none⟩ = false := fun o => (BV.alloc o).frozen 0
              have q1 : ∀ o, (w12.alloc o).cell? ⟨w.heap.size + 1, 1, none⟩ = some (.int .i64 0) := fun o => (BV.alloc o).cell 1
              have fq1 : ∀ o, (w12.alloc o).frozen? ⟨w.heap.size + 1, 1, none⟩ = false := fun o => (BV.alloc o).frozen 1
              have q2 : ∀ o, (w12.alloc o).cell? ⟨w.heap.size + 1, 2, none⟩ = some (.int .i64 0) := fun o => (BV.alloc o).cell 2
              have fq2 : ∀ o, (w12.alloc o).frozen? ⟨w.heap.size + 1, 2, none⟩ = false := fun o => (BV.alloc o).frozen 2
              have q3 : ∀ o, (w12.alloc o).cell? ⟨w.heap.size + 1, 3, none⟩ = some (.int .i64 0) := fun o => (BV.alloc o).cell 3
              have fq3 : ∀ o, (w12.alloc o).frozen? ⟨w.heap.size + 1, 3, none⟩ = false := fun o => (BV.alloc o).frozen 3
              clear BV
              go_wp2_with fail
              have hv4 := Blk.new w12 31 #[.int .i64 p.ride, .int .i64 p.rider, .int .i64 p.tm, .int .i64 3]
              have HV4 := Lib.hid hv4
              have kk4 := kk.alloc kk.size (.cells #[.int .i64 p.ride, .int .i64 p.rider, .int .i64 p.tm, .int .i64 3] 31)
              have HB4 := Lib.hid (HB.out.alloc HB.out.size (.cells #[.int .i64 p.ride, .int .i64 p.rider, .int .i64 p.tm, .int .i64 3] 31))
              clear hv4 c00 c01 c02 c03 c04 c05 c10 c11 c12 c13 q0 q1 q2 q3 fq0 fq1 fq2 fq3
              refine (containsPh_any A2 m c2 ps w.heap.size (fun x => countB x p) true _ (HZP.out _ HB4.out) hm (fun f hf u hu => countclos_any f p _ _ u ((HZP.out _ (below_next HB4.out (Nat.le_refl _) hu)).2.1 f hf) ((HK.out _ (below_next kk4 (Nat.le_refl _) hu)).1) HTM.out rfl) HCC.out).mono ?_
              rintro e w5 ⟨rfl, hb5⟩
              have BV := (HK.out _ (below_next kk4 (Nat.le_refl _) hb5)).2.1
              have V4 := HV4.out.ofBelow hb5
              have q0 := (BV.cell 0).trans rfl; have fq0 := BV.frozen 0; have v0 := (V4.cell 0).trans rfl; have fv0 := V4.frozen 0
              have q1 := (BV.cell 1).trans rfl; have fq1 := BV.frozen 1; have v1 := (V4.cell 1).trans rfl; have fv1 := V4.frozen 1
              have q2 := (BV.cell 2).trans rfl; have fq2 := BV.frozen 2; have v2 := (V4.cell 2).trans rfl; have fv2 := V4.frozen 2
              have q3 := (BV.cell 3).trans rfl; have fq3 := BV.frozen 3; have v3 := (V4.cell 3).trans rfl; have fv3 := V4.frozen 3
              have HB5 := Lib.hid (below_next HB4.out (Nat.le_refl _) hb5)
              have hw2 : w.heap.size ≤ w12.heap.size := HB.out.size
              have hne : w12.heap.size ≠ w.heap.size + 1 := by have := kk.size; simp at this; omega
              clear BV V4 hb5 HB HB4 kk4
              go_wp2_with fail
              all_goals exact bodyPost_ret (v := aggV p 1) (by simp [results, Try.results29, go_sem, q0, q1, q2, q3]) rfl ⟨by rw [HX.out], by repeat (first | exact HB5.out | refine Below.setCell ?_ (show w.heap.size ≤ w.heap.size + 1 by omega) _ | refine Below.setCell ?_ hw2 _)⟩
          · skip
            have HX : Hid (1 = k) := Lib.hid (by rw [← HK2.out]; simp [judgeB])
            go_enter Try.func29, Try.ntmps29
            go_wp2_with fail
            refine (relation_any A n c l 1 p a1 false false _ (HZA.out _ HB.out) hn HP.out HL.out rfl HA1.out HB1.out HD1.out).mono ?_
            rintro e w13 ⟨rfl, hb13⟩
            replace kk := below_next kk (Nat.le_refl _) hb13
            clear c00 c01 c02 c03 c04 c05 c10 c11 c12 c13 HB hb13
            obtain ⟨B0, B1, hbb⟩ := HK.out _ kk
            have c00 := B0.cell 0
            have c01 := B0.cell 1
            have c02 := B0.cell 2
            have c03 := B0.cell 3
            have c04 := B0.cell 4
            have c05 := B0.cell 5
            have c10 := B1.cell 0
            have c11 := B1.cell 1
            have c12 := B1.cell 2
            have c13 := B1.cell 3
            have HB := Lib.hid hbb
            clear B0 B1 hbb
            go_wp2_with fail
            refine (relation_any A n c l 2 p true true true _ (HZA.out _ HB.out) hn HP.out HL.out rfl HA2.out HB2.out HD2.out).mono ?_
            rintro e w14 ⟨rfl, hb14⟩
            replace kk := below_next kk (Nat.le_refl _) hb14
            clear c00 c01 c02 c03 c04 c05 c10 c11 c12 c13 HB hb14
            obtain ⟨B0, B1, hbb⟩ := HK.out _ kk
            have c00 := B0.cell 0
            have c01 := B0.cell 1
            have c02 := B0.cell 2
            have c03 := B0.cell 3
            have c04 := B0.cell 4
            have c05 := B0.cell 5
            have c10 := B1.cell 0
            have c11 := B1.cell 1
            have c12 := B1.cell 2
            have c13 := B1.cell 3
            have HB := Lib.hid hbb
            clear B0 B1 hbb
            have BV := (HK.out _ kk).2.1
            have q0 : ∀ o, (w14.alloc o).cell? ⟨w.heap.size + 1, 0, none⟩ = some (.int .i64 0) := fun o => (BV.alloc o).cell 0
            have fq0 : ∀ o, (w14.alloc o).frozen? ⟨w.heap.size + 1, 0, none⟩ = false := fun o => (BV.alloc o).frozen 0
            have q1 : ∀ o, (w14.alloc o).cell? ⟨w.heap.size + 1, 1, none⟩ = some (.int .i64 0) := fun o => (BV.alloc o).cell 1
            have fq1 : ∀ o, (w14.alloc o).frozen? ⟨w.heap.size + 1, 1, none⟩ = false := fun o => (BV.alloc o).frozen 1
            have q2 : ∀ o, (w14.alloc o).cell? ⟨w.heap.size + 1, 2, none⟩ = some (.int .i64 0) := fun o => (BV.alloc o).cell 2
            have fq2 : ∀ o, (w14.alloc o).frozen? ⟨w.heap.size + 1, 2, none⟩ = false := fun o => (BV.alloc o).frozen 2
            have q3 : ∀ o, (w14.alloc o).cell? ⟨w.heap.size + 1, 3, none⟩ = some (.int .i64 0) := fun o => (BV.alloc o).cell 3
            have fq3 : ∀ o, (w14.alloc o).frozen? ⟨w.heap.size + 1, 3, none⟩ = false := fun o => (BV.alloc o).frozen 3
            clear BV
            go_wp2_with fail
            all_goals exact bodyPost_ret (v := aggV p 1) (by simp [results, Try.results29, go_sem, q0, q1, q2, q3]) rfl ⟨by rw [HX.out], by repeat (first | exact HB.out.alloc HB.out.size _ | refine Below.setCell ?_ (show w.heap.size ≤ w.heap.size + 1 by omega) _)⟩
        · skip
          rcases cc with _ | _
          · have HX : Hid (3 = k) := Lib.hid (by rw [← HK2.out]; simp [judgeB])
            go_enter Try.func29, Try.ntmps29
            go_wp2_with fail
            refine (relation_any A n c l 1 p a1 true false _ (HZA.out _ HB.out) hn HP.out HL.out rfl HA1.out HB1.out HD1.out).mono ?_
            rintro e w15 ⟨rfl, hb15⟩
            replace kk := below_next kk (Nat.le_refl _) hb15
            clear c00 c01 c02 c03 c04 c05 c10 c11 c12 c13 HB hb15
            obtain ⟨B0, B1, hbb⟩ := HK.out _ kk
            have c00 := B0.cell 0
            have c01 := B0.cell 1
            have c02 := B0.cell 2
            have c03 := B0.cell 3
            have c04 := B0.cell 4
            have c05 := B0.cell 5
            have c10 := B1.cell 0
            have c11 := B1.cell 1
            have c12 := B1.cell 2
            have c13 := B1.cell 3
            have HB := Lib.hid hbb
            clear B0 B1 hbb
            go_wp2_with fail
            refine (relation_any A n c l 2 p true true d2 _ (HZA.out _ HB.out) hn HP.out HL.out rfl HA2.out HB2.out HD2.out).mono ?_
            rintro e w16 ⟨rfl, hb16⟩
            replace kk := below_next kk (Nat.le_refl _) hb16
            clear c00 c01 c02 c03 c04 c05 c10 c11 c12 c13 HB hb16
            obtain ⟨B0, B1, hbb⟩ := HK.out _ kk
            have c00 := B0.cell 0
            have c01 := B0.cell 1
            have c02 := B0.cell 2
            have c03 := B0.cell 3
            have c04 := B0.cell 4
            have c05 := B0.cell 5
            have c10 := B1.cell 0
            have c11 := B1.cell 1
            have c12 := B1.cell 2
            have c13 := B1.cell 3
            have HB := Lib.hid hbb
            clear B0 B1 hbb
            have BV := (HK.out _ kk).2.1
            have q0 : ∀ o, (w16.alloc o).cell? ⟨w.heap.size + 1, 0, none⟩ = some (.int .i64 0) := fun o => (BV.alloc o).cell 0
            have fq0 : ∀ o, (w16.alloc o).frozen? ⟨w.heap.size + 1, 0, none⟩ = false := fun o => (BV.alloc o).frozen 0
            have q1 : ∀ o, (w16.alloc o).cell? ⟨w.heap.size + 1, 1, none⟩ = some (.int .i64 0) := fun o => (BV.alloc o).cell 1
            have fq1 : ∀ o, (w16.alloc o).frozen? ⟨w.heap.size + 1, 1, none⟩ = false := fun o => (BV.alloc o).frozen 1
            have q2 : ∀ o, (w16.alloc o).cell? ⟨w.heap.size + 1, 2, none⟩ = some (.int .i64 0) := fun o => (BV.alloc o).cell 2
            have fq2 : ∀ o, (w16.alloc o).frozen? ⟨w.heap.size + 1, 2, none⟩ = false := fun o => (BV.alloc o).frozen 2
            have q3 : ∀ o, (w16.alloc o).cell? ⟨w.heap.size + 1, 3, none⟩ = some (.int .i64 0) := fun o => (BV.alloc o).cell 3
            have fq3 : ∀ o, (w16.alloc o).frozen? ⟨w.heap.size + 1, 3, none⟩ = false := fun o => (BV.alloc o).frozen 3
            clear BV
            go_wp2_with fail
            have hv4 := Blk.new w16 31 #[.int .i64 p.ride, .int .i64 p.rider, .int .i64 p.tm, .int .i64 3]
            have HV4 := Lib.hid hv4
            have kk4 := kk.alloc kk.size (.cells #[.int .i64 p.ride, .int .i64 p.rider, .int .i64 p.tm, .int .i64 3] 31)
            have HB4 := Lib.hid (HB.out.alloc HB.out.size (.cells #[.int .i64 p.ride, .int .i64 p.rider, .int .i64 p.tm, .int .i64 3] 31))
            clear hv4 c00 c01 c02 c03 c04 c05 c10 c11 c12 c13 q0 q1 q2 q3 fq0 fq1 fq2 fq3
            refine (containsPh_any A2 m c2 ps w.heap.size (fun x => countB x p) false _ (HZP.out _ HB4.out) hm (fun f hf u hu => countclos_any f p _ _ u ((HZP.out _ (below_next HB4.out (Nat.le_refl _) hu)).2.1 f hf) ((HK.out _ (below_next kk4 (Nat.le_refl _) hu)).1) HTM.out rfl) HCC.out).mono ?_
            rintro e w5 ⟨rfl, hb5⟩
            have BV := (HK.out _ (below_next kk4 (Nat.le_refl _) hb5)).2.1
            have V4 := HV4.out.ofBelow hb5
            have q0 := (BV.cell 0).trans rfl; have fq0 := BV.frozen 0; have v0 := (V4.cell 0).trans rfl; have fv0 := V4.frozen 0
            have q1 := (BV.cell 1).trans rfl; have fq1 := BV.frozen 1; have v1 := (V4.cell 1).trans rfl; have fv1 := V4.frozen 1
            have q2 := (BV.cell 2).trans rfl; have fq2 := BV.frozen 2; have v2 := (V4.cell 2).trans rfl; have fv2 := V4.frozen 2
            have q3 := (BV.cell 3).trans rfl; have fq3 := BV.frozen 3; have v3 := (V4.cell 3).trans rfl; have fv3 := V4.frozen 3
            have HB5 := Lib.hid (below_next HB4.out (Nat.le_refl _) hb5)
            have hw2 : w.heap.size ≤ w16.heap.size := HB.out.size
            have hne : w16.heap.size ≠ w.heap.size + 1 := by have := kk.size; simp at this; omega
            clear BV V4 hb5 HB HB4 kk4
            go_wp2_with fail
            all_goals exact bodyPost_ret (v := aggV p 3) (by simp [results, Try.results29, go_sem, q0, q1, q2, q3]) rfl ⟨by rw [HX.out], by repeat (first | exact HB5.out | refine Below.setCell ?_ (show w.heap.size ≤ w.heap.size + 1 by omega) _ | refine Below.setCell ?_ hw2 _)⟩
          · have HX : Hid (1 = k) := Lib.hid (by rw [← HK2.out]; simp [judgeB])
            go_enter Try.func29, Try.ntmps29
            go_wp2_with fail
            refine (relation_any A n c l 1 p a1 true false _ (HZA.out _ HB.out) hn HP.out HL.out rfl HA1.out HB1.out HD1.out).mono ?_
            rintro e w17 ⟨rfl, hb17⟩
            replace kk := below_next kk (Nat.le_refl _) hb17
            clear c00 c01 c02 c03 c04 c05 c10 c11 c12 c13 HB hb17
            obtain ⟨B0, B1, hbb⟩ := HK.out _ kk
            have c00 := B0.cell 0
            have c01 := B0.cell 1
            have c02 := B0.cell 2
            have c03 := B0.cell 3
            have c04 := B0.cell 4
            have c05 := B0.cell 5
            have c10 := B1.cell 0
            have c11 := B1.cell 1
            have c12 := B1.cell 2
            have c13 := B1.cell 3
            have HB := Lib.hid hbb
            clear B0 B1 hbb
            go_wp2_with fail
            refine (relation_any A n c l 2 p true true d2 _ (HZA.out _ HB.out) hn HP.out HL.out rfl HA2.out HB2.out HD2.out).mono ?_
            rintro e w18 ⟨rfl, hb18⟩
            replace kk := below_next kk (Nat.le_refl _) hb18
            clear c00 c01 c02 c03 c04 c05 c10 c11 c12 c13 HB hb18
            obtain ⟨B0, B1, hbb⟩ := HK.out _ kk
            have c00 := B0.cell 0
            have c01 := B0.cell 1
            have c02 := B0.cell 2
            have c03 := B0.cell 3
            have c04 := B0.cell 4
            have c05 := B0.cell 5
            have c10 := B1.cell 0
            have c11 := B1.cell 1
            have c12 := B1.cell 2
            have c13 := B1.cell 3
            have HB := Lib.hid hbb
            clear B0 B1 hbb
            have BV := (HK.out _ kk).2.1
            have q0 : ∀ o, (w18.alloc o).cell? ⟨w.heap.size + 1, 0, none⟩ = some (.int .i64 0) := fun o => (BV.alloc o).cell 0
            have fq0 : ∀ o, (w18.alloc o).frozen? ⟨w.heap.size + 1, 0, none⟩ = false := fun o => (BV.alloc o).frozen 0
            have q1 : ∀ o, (w18.alloc o).cell? ⟨w.heap.size + 1, 1, none⟩ = some (.int .i64 0) := fun o => (BV.alloc o).cell 1
            have fq1 : ∀ o, (w18.alloc o).frozen? ⟨w.heap.size + 1, 1, none⟩ = false := fun o => (BV.alloc o).frozen 1
            have q2 : ∀ o, (w18.alloc o).cell? ⟨w.heap.size + 1, 2, none⟩ = some (.int .i64 0) := fun o => (BV.alloc o).cell 2
            have fq2 : ∀ o, (w18.alloc o).frozen? ⟨w.heap.size + 1, 2, none⟩ = false := fun o => (BV.alloc o).frozen 2
            have q3 : ∀ o, (w18.alloc o).cell? ⟨w.heap.size + 1, 3, none⟩ = some (.int .i64 0) := fun o => (BV.alloc o).cell 3
            have fq3 : ∀ o, (w18.alloc o).frozen? ⟨w.heap.size + 1, 3, none⟩ = false := fun o => (BV.alloc o).frozen 3
            clear BV
            go_wp2_with fail
            have hv4 := Blk.new w18 31 #[.int .i64 p.ride, .int .i64 p.rider, .int .i64 p.tm, .int .i64 3]
            have HV4 := Lib.hid hv4
            have kk4 := kk.alloc kk.size (.cells #[.int .i64 p.ride, .int .i64 p.rider, .int .i64 p.tm, .int .i64 3] 31)
            have HB4 := Lib.hid (HB.out.alloc HB.out.size (.cells #[.int .i64 p.ride, .int .i64 p.rider, .int .i64 p.tm, .int .i64 3] 31))
            clear hv4 c00 c01 c02 c03 c04 c05 c10 c11 c12 c13 q0 q1 q2 q3 fq0 fq1 fq2 fq3
            refine (containsPh_any A2 m c2 ps w.heap.size (fun x => countB x p) true _ (HZP.out _ HB4.out) hm (fun f hf u hu => countclos_any f p _ _ u ((HZP.out _ (below_next HB4.out (Nat.le_refl _) hu)).2.1 f hf) ((HK.out _ (below_next kk4 (Nat.le_refl _) hu)).1) HTM.out rfl) HCC.out).mono ?_
            rintro e w5 ⟨rfl, hb5⟩
            have BV := (HK.out _ (below_next kk4 (Nat.le_refl _) hb5)).2.1
            have V4 := HV4.out.ofBelow hb5
            have q0 := (BV.cell 0).trans rfl; have fq0 := BV.frozen 0; have v0 := (V4.cell 0).trans rfl; have fv0 := V4.frozen 0
            have q1 := (BV.cell 1).trans rfl; have fq1 := BV.frozen 1; have v1 := (V4.cell 1).trans rfl; have fv1 := V4.frozen 1
            have q2 := (BV.cell 2).trans rfl; have fq2 := BV.frozen 2; have v2 := (V4.cell 2).trans rfl; have fv2 := V4.frozen 2
            have q3 := (BV.cell 3).trans rfl; have fq3 := BV.frozen 3; have v3 := (V4.cell 3).trans rfl; have fv3 := V4.frozen 3
            have HB5 := Lib.hid (below_next HB4.out (Nat.le_refl _) hb5)
            have hw2 : w.heap.size ≤ w18.heap.size := HB.out.size
            have hne : w18.heap.size ≠ w.heap.size + 1 := by have := kk.size; simp at this; omega
            clear BV V4 hb5 HB HB4 kk4
            go_wp2_with fail
            all_goals exact bodyPost_ret (v := aggV p 1) (by simp [results, Try.results29, go_sem, q0, q1, q2, q3]) rfl ⟨by rw [HX.out], by repeat (first | exact HB5.out | refine Below.setCell ?_ (show w.heap.size ≤ w.heap.size + 1 by omega) _ | refine Below.setCell ?_ hw2 _)⟩
  · skip
    have HX : Hid (2 = k) := Lib.hid (by rw [← HK2.out]; simp [judgeB])
    go_enter Try.func29, Try.ntmps29
    go_wp2_with fail
    refine (relation_any A n c l 1 p a1 b1 true _ (HZA.out _ HB.out) hn HP.out HL.out rfl HA1.out HB1.out HD1.out).mono ?_
    rintro e w19 ⟨rfl, hb19⟩
    replace kk := below_next kk (Nat.le_refl _) hb19
    clear c00 c01 c02 c03 c04 c05 c10 c11 c12 c13 HB hb19
    obtain ⟨B0, B1, hbb⟩ := HK.out _ kk
    have c00 := B0.cell 0
    have c01 := B0.cell 1
    have c02 := B0.cell 2
    have c03 := B0.cell 3
    have c04 := B0.cell 4
    have c05 := B0.cell 5
    have c10 := B1.cell 0
    have c11 := B1.cell 1
    have c12 := B1.cell 2
    have c13 := B1.cell 3
    have HB := Lib.hid hbb
    clear B0 B1 hbb
    go_wp2_with fail
    refine (relation_any A n c l 2 p a2 b2 d2 _ (HZA.out _ HB.out) hn HP.out HL.out rfl HA2.out HB2.out HD2.out).mono ?_
    rintro e w20 ⟨rfl, hb20⟩
    replace kk := below_next kk (Nat.le_refl _) hb20
    clear c00 c01 c02 c03 c04 c05 c10 c11 c12 c13 HB hb20
    obtain ⟨B0, B1, hbb⟩ := HK.out _ kk
    have c00 := B0.cell 0
    have c01 := B0.cell 1
    have c02 := B0.cell 2
    have c03 := B0.cell 3
    have c04 := B0.cell 4
    have c05 := B0.cell 5
    have c10 := B1.cell 0
    have c11 := B1.cell 1
    have c12 := B1.cell 2
    have c13 := B1.cell 3
    have HB := Lib.hid hbb
    clear B0 B1 hbb
    have BV := (HK.out _ kk).2.1
    have q0 : ∀ o, (w20.alloc o).cell? ⟨w.heap.size + 1, 0, none⟩ = some (.int .i64 0) := fun o => (BV.alloc o).cell 0
    have fq0 : ∀ o, (w20.alloc o).frozen? ⟨w.heap.size + 1, 0, none⟩ = false := fun o => (BV.alloc o).frozen 0
    have q1 : ∀ o, (w20.alloc o).cell? ⟨w.heap.size + 1, 1, none⟩ = some (.int .i64 0) := fun o => (BV.alloc o).cell 1
    have fq1 : ∀ o, (w20.alloc o).frozen? ⟨w.heap.size + 1, 1, none⟩ = false := fun o => (BV.alloc o).frozen 1
    have q2 : ∀ o, (w20.alloc o).cell? ⟨w.heap.size + 1, 2, none⟩ = some (.int .i64 0) := fun o => (BV.alloc o).cell 2
    have fq2 : ∀ o, (w20.alloc o).frozen? ⟨w.heap.size + 1, 2, none⟩ = false := fun o => (BV.alloc o).frozen 2
    have q3 : ∀ o, (w20.alloc o).cell? ⟨w.heap.size + 1, 3, none⟩ = some (.int .i64 0) := fun o => (BV.alloc o).cell 3
    have fq3 : ∀ o, (w20.alloc o).frozen? ⟨w.heap.size + 1, 3, none⟩ = false := fun o => (BV.alloc o).frozen 3
    clear BV
    go_wp2_with fail
    all_goals exact bodyPost_ret (v := aggV p 2) (by simp [results, Try.results29, go_sem, q0, q1, q2, q3]) rfl ⟨by rw [HX.out], by repeat (first | exact HB.out.alloc HB.out.size _ | refine Below.setCell ?_ (show w.heap.size ≤ w.heap.size + 1 by omega) _)⟩
end Go.Proofs.Ytdgdjlpbnaoheaa
