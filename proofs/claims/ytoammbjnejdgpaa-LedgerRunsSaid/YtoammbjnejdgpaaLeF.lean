/- The reference's add: the errors. -/
import Derived.Test.YtoammbjnejdgpaaLeE
namespace Go.Proofs.Ytoammbjnejdgpaa
open Go.RowKit
theorem one_cellsPg (l : List Pg) : ∀ u ∈ cellsPg l, u.oneCell' = true := fun u hu => by
  obtain ⟨p, _, hp⟩ := List.mem_flatMap.1 hu
  exact onePg p u hp
theorem one_cellsI (l : List Int) : ∀ u ∈ cellsI l, u.oneCell' = true := fun u hu => by
  obtain ⟨p, _, hp⟩ := List.mem_flatMap.1 hu
  simp only [encI, List.mem_singleton] at hp
  subst hp; rfl
set_option maxHeartbeats 8000000 in
set_option maxRecDepth 10000 in
theorem radd_err (G : Nat → Prop) (acc : Int) (Ap : Option Addr) (n c : Nat) (Ao : Option Addr) (no co : Nat) (ps : List Pg) (of_ : List Int) (d : List Dt) (id tm : Int) (A1 : Option Addr) (n1 k1 : Nat) (ls : List Ln) (o E : Int) (w : World)
    (h1 : PsI w G Ap n ps) (h2 : RIn w G 1 Ao no (cellsI of_)) (hp : RIn w G 2 A1 n1 (cellsLn ls)) (hG : ∀ j, w.heap.size ≤ j → G j) (hof : ps.map Pg.of = d.map Dt.of) (hlen : of_.length = d.length) (hd : d.length ≤ 512) (hE : postE acc d id tm ls = E) (hE0 : E ≠ 0) :
    Calls Try.prog 35 #[.agg #[.int .i64 acc, .slice Ap n c, .slice Ao no co], .agg #[.int .i64 id, .int .i64 tm, .slice A1 n1 k1], .int .i64 o] w (RetRf w G acc ps of_ (ps ++ [⟨id, tm, A1, n1, k1, ls⟩]) (of_ ++ [o]) E) := by
  have H3 := box2 w 29 45 #[.int .i64 acc, .slice Ap n c, .slice Ao no co] #[.int .i64 id, .int .i64 tm, .slice A1 n1 k1]
  obtain ⟨u, hu⟩ : ∃ v, ((w.alloc (.cells #[.int .i64 acc, .slice Ap n c, .slice Ao no co] 29)).alloc (.cells #[.int .i64 id, .int .i64 tm, .slice A1 n1 k1] 45)) = v := ⟨_, rfl⟩
  rw [hu] at H3
  have hus : u.heap.size = w.heap.size + 1 + 1 := by rw [← hu]; simp
  obtain ⟨q0, q1, q2⟩ := H3
  obtain ⟨b2, hb2⟩ := box1 u 29 #[.int .i64 0, .slice none 0 0, .slice none 0 0]
  obtain ⟨v, hv⟩ : ∃ v, u.alloc (.cells #[.int .i64 0, .slice none 0 0, .slice none 0 0] 29) = v := ⟨_, rfl⟩
  rw [hv] at b2 hb2
  rw [hus] at b2
  have hvs : v.heap.size = w.heap.size + 1 + 1 + 1 := by rw [← hv]; simp [hus]
  have B0 := ofB q0 hb2; have B1 := ofB q1 hb2
  have HB0 := Lib.hid B0; have HB1 := Lib.hid B1; have HB2 := Lib.hid b2
  have HBX := Lib.hid (below_next q2 (Nat.le_refl _) hb2)
  have HV : Hid (((w.alloc (.cells #[.int .i64 acc, .slice Ap n c, .slice Ao no co] 29)).alloc (.cells #[.int .i64 id, .int .i64 tm, .slice A1 n1 k1] 45)).alloc (.cells #[.int .i64 0, .slice none 0 0, .slice none 0 0] 29) = v) := Lib.hid (by rw [hu, hv])
  have HVS := Lib.hid hvs
  have hnl : n = d.length := by have := recs_len h1.1.reads encPg_len (by omega); have := congrArg List.length hof; simp at this; omega
  have HPS := Lib.hid (h1.below HBX.out); have HOV := Lib.hid (h2.below HBX.out); have HPV := Lib.hid (hp.below HBX.out)
  have h1H := Lib.hid h1; have h2H := Lib.hid h2; have hpH := Lib.hid hp; have hGH := Lib.hid hG; have hofH := Lib.hid hof
  have HNL := Lib.hid hnl
  have HNO : Hid (no = d.length) := Lib.hid (by have := recs_len h2.reads encI_len (by omega); omega)
  have HLN := Lib.hid (recs_len hp.reads encLn_len (by omega))
  have HPL : Hid (ps.length = n) := Lib.hid (recs_len h1.1.reads encPg_len (by omega))
  have hn512 : n ≤ 512 := by omega
  have c0 := (B0.cell 0).trans rfl; have c1 := (B0.cell 1).trans rfl; have c2 := (B0.cell 2).trans rfl
  have d0 := (B1.cell 0).trans rfl; have d1 := (B1.cell 1).trans rfl; have d2 := (B1.cell 2).trans rfl
  have r0 := (b2.cell 0).trans rfl; have r1 := (b2.cell 1).trans rfl; have r2 := (b2.cell 2).trans rfl
  have z0 := b2.frozen 0; have z1 := b2.frozen 1; have z2 := b2.frozen 2
  clear hu hus q0 q1 q2 hb2 hv hvs B0 B1 b2 h1 h2 hp hG hof hlen hd hnl
  by_cases g0 : 512 ≤ n
  · obtain rfl : E = 8 := by rw [← hE, postE_full (by rw [← HNL.out]; exact g0)]
    have g1 : (512 : Int) ≤ n := by omega
    clear hE
    go_enter Try.func35, Try.ntmps35
    go_upto_region 1 with fail
    rw [HV.out]
    go_wp2_with fail
    refine bodyPost_ret (v := .tuple #[.agg #[.int .i64 acc, .slice Ap n c, .slice Ao no co], .int .i64 8]) (by simp [results, Try.results35, go_sem, r0, r1, r2]) rfl (radd_no HBX.out (by omega) h1H.out h2H.out (by decide))
  have hnd : d.length < 512 := by rw [← HNL.out]; omega
  have HND := Lib.hid hnd
  have g1 : (n : Int) < 512 := by omega
  clear g0 hnd
  rcases hrg : rangeP id tm with _ | _
  · obtain rfl : E = 1 := by rw [← hE, postE_range HND.out hrg]
    clear hE
    rcases range_cases hrg with g2 | ⟨g2, g3⟩ | ⟨g2, g3, g4⟩ | ⟨g2, g3, g4, g5⟩
    all_goals
      clear hrg
      go_enter Try.func35, Try.ntmps35
      go_upto_region 1 with fail
      rw [HV.out]
      go_wp2_with fail
      refine bodyPost_ret (v := .tuple #[.agg #[.int .i64 acc, .slice Ap n c, .slice Ao no co], .int .i64 1]) (by simp [results, Try.results35, go_sem, r0, r1, r2]) rfl (radd_no HBX.out (by omega) h1H.out h2H.out (by decide))
  obtain ⟨a0, a1, a2, a3⟩ := range_t hrg
  have HRG := Lib.hid hrg
  clear hrg
  by_cases g2 : n1 < 2 ∨ 16 < n1
  · have e := linesE_form (acc := acc) (l := ls) (by rw [HLN.out]; exact g2)
    obtain rfl : E = 3 := by rw [← hE, postE_lines HND.out HRG.out (by rw [e]; decide), e]
    have hcs : (n1 : Int) < 2 ∨ (2 ≤ (n1 : Int) ∧ (16 : Int) < n1) := by omega
    clear hE e g2
    rcases hcs with g2 | ⟨g2, g3⟩
    all_goals
      go_enter Try.func35, Try.ntmps35
      go_upto_region 1 with fail
      rw [HV.out]
      go_wp2_with fail
      refine bodyPost_ret (v := .tuple #[.agg #[.int .i64 acc, .slice Ap n c, .slice Ao no co], .int .i64 3]) (by simp [results, Try.results35, go_sem, r0, r1, r2]) rfl (radd_no HBX.out (by omega) h1H.out h2H.out (by decide))
  have g3 : ¬ (ls.length < 2 ∨ 16 < ls.length) := by rw [HLN.out]; exact g2
  have g4 : (2 : Int) ≤ n1 := by omega
  have g5 : (n1 : Int) ≤ 16 := by omega
  by_cases g6 : lnsErr acc ls = 0
  case neg =>
    have e := linesE_bad g3 g6
    obtain rfl : E = lnsErr acc ls := by rw [← hE, postE_lines HND.out HRG.out (by rw [e]; exact g6), e]
    obtain ⟨y, hy⟩ : ∃ y, lnsErr acc ls = y := ⟨_, rfl⟩
    rw [hy] at g6 ⊢
    have HY := Lib.hid hy
    have HX : Hid ((if lnsErr acc ls = 0 then lnSum ls else 0) = 0) := Lib.hid (by rw [hy, if_neg g6])
    have g7 : (y != 0) = true := by simpa using g6
    have HG6 := Lib.hid g6
    clear hE e g2 g3 g6 hy
    go_enter Try.func35, Try.ntmps35
    go_upto_region 1 with fail
    rw [HV.out]
    go_wp2_with fail
    refine (rlines_any acc A1 n1 k1 ls 0 y _ HPV.out.reads (by omega) HY.out HX.out).mono ?_
    rintro e w2 ⟨rfl, rfl⟩
    go_wp2_with fail
    refine bodyPost_ret (v := .tuple #[.agg #[.int .i64 acc, .slice Ap n c, .slice Ao no co], .int .i64 y]) (by simp [results, Try.results35, go_sem, r0, r1, r2]) rfl (radd_no HBX.out (by omega) h1H.out h2H.out (by exact HG6.out))
  have HG6 := Lib.hid g6
  have HX : Hid ((if lnsErr acc ls = 0 then lnSum ls else 0) = lnSum ls) := Lib.hid (if_pos g6)
  clear g6
  by_cases g7 : lnSum ls = 0
  case neg =>
    have e := linesE_sum g3 HG6.out g7
    obtain rfl : E = 28 := by rw [← hE, postE_lines HND.out HRG.out (by rw [e]; decide), e]
    obtain ⟨S, hS⟩ : ∃ S, lnSum ls = S := ⟨_, rfl⟩
    have HXS := Lib.hid (HX.out.trans hS)
    rw [hS] at g7
    have g8 : (S != 0) = true := by simpa using g7
    clear hE e g2 g3 g7 hS
    go_enter Try.func35, Try.ntmps35
    go_upto_region 1 with fail
    rw [HV.out]
    go_wp2_with fail
    refine (rlines_any acc A1 n1 k1 ls S 0 _ HPV.out.reads (by omega) HG6.out HXS.out).mono ?_
    rintro e w2 ⟨rfl, rfl⟩
    go_wp2_with fail
    refine bodyPost_ret (v := .tuple #[.agg #[.int .i64 acc, .slice Ap n c, .slice Ao no co], .int .i64 28]) (by simp [results, Try.results35, go_sem, r0, r1, r2]) rfl (radd_no HBX.out (by omega) h1H.out h2H.out (by decide))
  have HX0 := Lib.hid (HX.out.trans g7)
  have HLE := Lib.hid (linesE_ok g3 HG6.out g7)
  clear g2 g3 g7
  rcases hi : idx d id with _ | i
  case some =>
    obtain rfl : E = 6 := by rw [← hE, postE_twice HND.out HRG.out HLE.out (by rw [hi]; simp)]
    have HI : Hid (idxI d id = (i : Int)) := Lib.hid (idxI_some hi)
    have hi0 : (0 : Int) ≤ i := by omega
    clear hE hi
    go_enter Try.func35, Try.ntmps35
    go_upto_region 1 with fail
    rw [HV.out]
    go_wp2_with fail
    refine (rlines_any acc A1 n1 k1 ls 0 0 _ HPV.out.reads (by omega) HG6.out HX0.out).mono ?_
    rintro e w2 ⟨rfl, rfl⟩
    go_wp2_with fail
    refine (rfind_any acc Ap n c Ao no co ps d id (i : Int) _ HPS.out.psr hofH.out (by omega) HI.out).mono ?_
    rintro e w3 ⟨rfl, hb3⟩
    have HB3 := Lib.hid hb3; have HBX3 := Lib.hid (below_next HBX.out (Nat.le_refl _) hb3)
    have R3 := ofB HB0.out hb3; have P3 := ofB HB1.out hb3; have Z3 := ofB HB2.out hb3
    have HR3 := Lib.hid R3; have HP3 := Lib.hid P3; have HZ3 := Lib.hid Z3
    clear c0 c1 c2 d0 d1 d2 r0 r1 r2 z0 z1 z2
    have c0 := (R3.cell 0).trans rfl; have c1 := (R3.cell 1).trans rfl; have c2 := (R3.cell 2).trans rfl
    have d0 := (P3.cell 0).trans rfl; have d1 := (P3.cell 1).trans rfl; have d2 := (P3.cell 2).trans rfl
    have r0 := (Z3.cell 0).trans rfl; have r1 := (Z3.cell 1).trans rfl; have r2 := (Z3.cell 2).trans rfl
    have z0 := Z3.frozen 0; have z1 := Z3.frozen 1; have z2 := Z3.frozen 2
    clear R3 P3 Z3 hb3
    go_wp2_with fail
    refine bodyPost_ret (v := .tuple #[.agg #[.int .i64 acc, .slice Ap n c, .slice Ao no co], .int .i64 6]) (by simp [results, Try.results35, go_sem, r0, r1, r2]) rfl (radd_no HBX3.out (by omega) h1H.out h2H.out (by decide))
  have HI : Hid (idxI d id = -1) := Lib.hid (idxI_none hi)
  have HI0 := Lib.hid hi
  clear hi
  by_cases g8 : d ≠ [] ∧ tm < lastTm d
  · obtain rfl : E = 9 := by rw [← hE, postE_order HND.out HRG.out HLE.out HI0.out g8]
    obtain ⟨q, hq⟩ : ∃ q, n = q + 1 := ⟨n - 1, by have : 0 < n := by rw [HNL.out]; exact List.length_pos_iff.2 g8.1
                                                  omega⟩
    have HQ := Lib.hid hq
    have hnq : (n : Int) - 1 = (q : Int) := by omega
    have hn0 : (0 : Int) < n := by omega
    have hq0 : (0 : Int) ≤ q := by omega
    have hqn : (q : Int) < n := by omega
    have hql : q < ps.length := by rw [HPL.out]; omega
    clear hq
    have HLT : Hid (tm < ps[q].tm) := Lib.hid (by
      have h9 := last_at hofH.out (by rw [HPL.out]; omega)
      have h8 : ps.length - 1 = q := by rw [HPL.out, HQ.out]; rfl
      simp only [h8] at h9
      rw [h9]; exact g8.2)
    clear hE g8
    go_enter Try.func35, Try.ntmps35
    go_upto_region 1 with fail
    rw [HV.out]
    go_wp2_with fail
    refine (rlines_any acc A1 n1 k1 ls 0 0 _ HPV.out.reads (by omega) HG6.out HX0.out).mono ?_
    rintro e w2 ⟨rfl, rfl⟩
    go_wp2_with fail
    refine (rfind_any acc Ap n c Ao no co ps d id (-1) _ HPS.out.psr hofH.out (by omega) HI.out).mono ?_
    rintro e w3 ⟨rfl, hb3⟩
    have HB3 := Lib.hid hb3; have HBX3 := Lib.hid (below_next HBX.out (Nat.le_refl _) hb3)
    have R3 := ofB HB0.out hb3; have P3 := ofB HB1.out hb3; have Z3 := ofB HB2.out hb3
    have HR3 := Lib.hid R3; have HP3 := Lib.hid P3; have HZ3 := Lib.hid Z3
    clear c0 c1 c2 d0 d1 d2 r0 r1 r2 z0 z1 z2
    have c0 := (R3.cell 0).trans rfl; have c1 := (R3.cell 1).trans rfl; have c2 := (R3.cell 2).trans rfl
    have d0 := (P3.cell 0).trans rfl; have d1 := (P3.cell 1).trans rfl; have d2 := (P3.cell 2).trans rfl
    have r0 := (Z3.cell 0).trans rfl; have r1 := (Z3.cell 1).trans rfl; have r2 := (Z3.cell 2).trans rfl
    have z0 := Z3.frozen 0; have z1 := Z3.frozen 1; have z2 := Z3.frozen 2
    clear R3 P3 Z3 hb3
    go_wp2_with fail
    have HPS3 := Lib.hid (HPS.out.below HB3.out)
    obtain ⟨b, off, rfl, hbb, hc⟩ := HPS3.out.psr.cells (by omega)
    have e1 := (hc q hql).2.1
    obtain ⟨z, hz⟩ : ∃ z, ps[q].tm = z := ⟨_, rfl⟩
    have hlt := HLT.out
    rw [hz] at e1 hlt
    clear hc hz
    have F0 : ∀ z' : Fam w3, z'.val.cell? ⟨w.heap.size + 1, 1, none⟩ = some (.int .i64 tm) := fun z' => z'.some_ d1
    have F1 : ∀ z' : Fam w3, z'.val.cell? ⟨w.heap.size, 1, none⟩ = some (.slice (some ⟨b, off, none⟩) n c) := fun z' => z'.some_ c1
    have F2 : ∀ z' : Fam w3, z'.val.cell? ⟨b, off + q * 3 + 1, none⟩ = some (.int .i64 z) := fun z' => z'.some_ e1
    clear c0 c1 c2 d0 d1 d2 r0 r1 r2 z0 z1 z2 e1
    have hdq : decide (0 < n) = true := decide_eq_true (by omega)
    refine wp_region_fam (by kernel_rfl) (by kernel_rfl) ?_
    repeat (go_big_quiet_step (fail))
    refine wpQuiet_nil ?_
    rintro _ ⟨zz, rfl⟩
    clear hdq F0 F1 F2
    have HU5 := Lib.hid (below_next HBX3.out (Nat.le_refl _) zz.prop)
    have R3 := ofB HR3.out zz.prop; have Z3 := ofB HZ3.out zz.prop
    have c0 := (R3.cell 0).trans rfl; have c1 := (R3.cell 1).trans rfl; have c2 := (R3.cell 2).trans rfl
    have r0 := (Z3.cell 0).trans rfl; have r1 := (Z3.cell 1).trans rfl; have r2 := (Z3.cell 2).trans rfl
    have z0 := Z3.frozen 0; have z1 := Z3.frozen 1; have z2 := Z3.frozen 2
    clear R3 Z3
    go_wp2_with fail
    refine bodyPost_ret (v := .tuple #[.agg #[.int .i64 acc, .slice (some ⟨b, off, none⟩) n c, .slice Ao no co], .int .i64 9]) (by simp [results, Try.results35, go_sem, r0, r1, r2]) rfl (radd_no HU5.out (by omega) h1H.out h2H.out (by decide))
  exact absurd (by rw [← hE, postE_ok HND.out HRG.out HLE.out HI0.out g8]) hE0
end Go.Proofs.Ytoammbjnejdgpaa
