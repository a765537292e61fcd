/- The reference's add: a posting is added. -/
import Derived.Test.YtoammbjnejdgpaaLeF
namespace Go.Proofs.Ytoammbjnejdgpaa
open Go.RowKit
theorem radd_done {w u w9 : World} {G : Nat → Prop} {acc o : Int} {p : Pg} {ps : List Pg} {of_ : List Int} {Ap X Y : Option Addr} {n cx no cy : Nat} {x0 x1 x2 x3 x4 : Value} (hu : Below w.heap.size w u) (hz : w.heap.size + 2 < u.heap.size)
    (T : Two u.heap.size u w9 45 3 (.slice X (n + 1) cx) (n + 1) (cellsPg (ps ++ [p])) 3 1 (.slice Y (no + 1) cy) (no + 1) (cellsI (of_ ++ [o]))) (h1 : PsI w G Ap n ps) (hG : ∀ j, w.heap.size ≤ j → G j) (hp : RIn w G 2 p.A p.n (cellsLn p.ls)) (hn : p.n ≤ 16) :
    RetRf w G acc ps of_ (ps ++ [p]) (of_ ++ [o]) 0 (.returned (.tuple #[.agg #[.int .i64 acc, .slice X (n + 1) cx, .slice Y (no + 1) cy], .int .i64 0])) (((((w9.setCell ⟨w.heap.size, 1, none⟩ x0).setCell ⟨w.heap.size, 2, none⟩ x1).setCell ⟨w.heap.size + 1 + 1, 0, none⟩ x2).setCell ⟨w.heap.size + 1 + 1, 1, none⟩ x3).setCell ⟨w.heap.size + 1 + 1, 2, none⟩ x4) := by
  have HOf := (((((Only.refl (fun k => k = w.heap.size ∨ k = w.heap.size + 1 + 1) w9).setCell (p := ⟨w.heap.size, 1, none⟩) (fun _ => .inl rfl) x0).setCell (p := ⟨w.heap.size, 2, none⟩) (fun _ => .inl rfl) x1).setCell (p := ⟨w.heap.size + 1 + 1, 0, none⟩) (fun _ => .inr rfl) x2).setCell (p := ⟨w.heap.size + 1 + 1, 1, none⟩) (fun _ => .inr rfl) x3).setCell (p := ⟨w.heap.size + 1 + 1, 2, none⟩) (fun _ => .inr rfl) x4
  have hb9 : Below w.heap.size w w9 := below_next hu (Nat.le_refl _) T.below
  have hbf := hb9.trans (HOf.below (fun k _ e => by omega) hb9.size)
  have ox := HOf.own T.ownX fun k hk e => by have := (T.ownX.lt k hk).1; omega
  have oy := HOf.own T.ownY fun k hk e => by have := (T.ownY.lt k hk).1; omega
  have hs := hu.size
  exact ⟨hbf, X, n + 1, cx, Y, no + 1, cy, rfl, by rw [if_pos rfl]; exact h1.snoc hbf ox (fun j hj => hG j (by omega)) hp hn, by rw [if_pos rfl]; exact (RIn.of_own oy).mono fun k _ hk => hG k (by omega)⟩
set_option maxHeartbeats 8000000 in
set_option maxRecDepth 10000 in
theorem radd_ok (G : Nat → Prop) (acc : Int) (Ap : Option Addr) (n c : Nat) (Ao : Option Addr) (no co : Nat) (ps : List Pg) (of_ : List Int) (d : List Dt) (id tm : Int) (A1 : Option Addr) (n1 k1 : Nat) (ls : List Ln) (o : Int) (w : World)
    (h1 : PsI w G Ap n ps) (h2 : RIn w G 1 Ao no (cellsI of_)) (hp : RIn w G 2 A1 n1 (cellsLn ls)) (hG : ∀ j, w.heap.size ≤ j → G j) (hof : ps.map Pg.of = d.map Dt.of) (hlen : of_.length = d.length) (hd : d.length ≤ 512) (hE : postE acc d id tm ls = 0) :
    Calls Try.prog 35 #[.agg #[.int .i64 acc, .slice Ap n c, .slice Ao no co], .agg #[.int .i64 id, .int .i64 tm, .slice A1 n1 k1], .int .i64 o] w (RetRf w G acc ps of_ (ps ++ [⟨id, tm, A1, n1, k1, ls⟩]) (of_ ++ [o]) 0) := by
  have H3 := box2 w 29 45 #[.int .i64 acc, .slice Ap n c, .slice Ao no co] #[.int .i64 id, .int .i64 tm, .slice A1 n1 k1]
  obtain ⟨u, hu⟩ : ∃ v, ((w.alloc (.cells #[.int .i64 acc, .slice Ap n c, .slice Ao no co] 29)).alloc (.cells #[.int .i64 id, .int .i64 tm, .slice A1 n1 k1] 45)) = v := ⟨_, rfl⟩
  rw [hu] at H3
  have hus : u.heap.size = w.heap.size + 1 + 1 := by rw [← hu]; simp
  obtain ⟨q0, q1, q2⟩ := H3
  obtain ⟨b2, hb2⟩ := box1 u 29 #[.int .i64 0, .slice none 0 0, .slice none 0 0]
  obtain ⟨v, hv⟩ : ∃ v, u.alloc (.cells #[.int .i64 0, .slice none 0 0, .slice none 0 0] 29) = v := ⟨_, rfl⟩
  rw [hv] at b2 hb2
  rw [hus] at b2
  have hvs : v.heap.size = w.heap.size + 1 + 1 + 1 := by rw [← hv]; simp [hus]
  have B0 := ofB q0 hb2; have B1 := ofB q1 hb2
  have HB0 := Lib.hid B0; have HB1 := Lib.hid B1; have HB2 := Lib.hid b2
  have HBX := Lib.hid (below_next q2 (Nat.le_refl _) hb2)
  have HV : Hid (((w.alloc (.cells #[.int .i64 acc, .slice Ap n c, .slice Ao no co] 29)).alloc (.cells #[.int .i64 id, .int .i64 tm, .slice A1 n1 k1] 45)).alloc (.cells #[.int .i64 0, .slice none 0 0, .slice none 0 0] 29) = v) := Lib.hid (by rw [hu, hv])
  have HVS := Lib.hid hvs
  have hnl : n = d.length := by have := recs_len h1.1.reads encPg_len (by omega); have := congrArg List.length hof; simp at this; omega
  have HPS := Lib.hid (h1.below HBX.out); have HOV := Lib.hid (h2.below HBX.out); have HPV := Lib.hid (hp.below HBX.out)
  have h1H := Lib.hid h1; have h2H := Lib.hid h2; have hpH := Lib.hid hp; have hGH := Lib.hid hG; have hofH := Lib.hid hof
  have HNL := Lib.hid hnl
  have HNO : Hid (no = d.length) := Lib.hid (by have := recs_len h2.reads encI_len (by omega); omega)
  have HLN := Lib.hid (recs_len hp.reads encLn_len (by omega))
  have HPL : Hid (ps.length = n) := Lib.hid (recs_len h1.1.reads encPg_len (by omega))
  have hn512 : n ≤ 512 := by omega
  have c0 := (B0.cell 0).trans rfl; have c1 := (B0.cell 1).trans rfl; have c2 := (B0.cell 2).trans rfl
  have d0 := (B1.cell 0).trans rfl; have d1 := (B1.cell 1).trans rfl; have d2 := (B1.cell 2).trans rfl
  have r0 := (b2.cell 0).trans rfl; have r1 := (b2.cell 1).trans rfl; have r2 := (b2.cell 2).trans rfl
  have z0 := b2.frozen 0; have z1 := b2.frozen 1; have z2 := b2.frozen 2
  clear hu hus q0 q1 q2 hb2 hv hvs B0 B1 b2 h1 h2 hp hG hof hlen hd hnl
  obtain ⟨hnd, hrg, hle, hi, g8⟩ := postE_inv hE
  obtain ⟨l1, l2, l3, l4⟩ := linesE_inv hle
  have HG6 := Lib.hid l3
  have HX0 : Hid ((if lnsErr acc ls = 0 then lnSum ls else 0) = 0) := Lib.hid ((if_pos l3).trans l4)
  have g1 : (n : Int) < 512 := by have := HNL.out; omega
  obtain ⟨a0, a1, a2, a3⟩ := range_t hrg
  have g4 : (2 : Int) ≤ n1 := by have := HLN.out; omega
  have g5 : (n1 : Int) ≤ 16 := by have := HLN.out; omega
  have HI : Hid (idxI d id = -1) := Lib.hid (idxI_none hi)
  have HNO2 := HNO.out
  have hno : no ≤ 512 := by have := HNL.out; omega
  clear hE HNO2 hnd hrg hle hi l1 l2 l3 l4
  obtain ⟨ip, hip, hpy0, hpy1, hpy2⟩ := info_parts infoPg
  obtain ⟨ii, hii, hiy0, hiy1, hiy2⟩ := info_parts infoInt
  rcases Nat.eq_zero_or_pos n with hz | hz
  · have hdz : decide (0 < n) = false := decide_eq_false (by omega)
    have hz1 : (n : Int) ≤ 0 := by omega
    clear g8 hz
    go_enter Try.func35, Try.ntmps35
    go_upto_region 1 with fail
    rw [HV.out]
    go_wp2_with fail
    refine (rlines_any acc A1 n1 k1 ls 0 0 _ HPV.out.reads (by omega) HG6.out HX0.out).mono ?_
    rintro e w2 ⟨rfl, rfl⟩
    go_wp2_with fail
    refine (rfind_any acc Ap n c Ao no co ps d id (-1) _ HPS.out.psr hofH.out (by omega) HI.out).mono ?_
    rintro e w3 ⟨rfl, hb3⟩
    have HB3 := Lib.hid hb3; have HBX3 := Lib.hid (below_next HBX.out (Nat.le_refl _) hb3)
    have R3 := ofB HB0.out hb3; have P3 := ofB HB1.out hb3; have Z3 := ofB HB2.out hb3
    have HR3 := Lib.hid R3; have HP3 := Lib.hid P3; have HZ3 := Lib.hid Z3
    clear c0 c1 c2 d0 d1 d2 r0 r1 r2 z0 z1 z2
    have c0 := (R3.cell 0).trans rfl; have c1 := (R3.cell 1).trans rfl; have c2 := (R3.cell 2).trans rfl
    have d0 := (P3.cell 0).trans rfl; have d1 := (P3.cell 1).trans rfl; have d2 := (P3.cell 2).trans rfl
    have r0 := (Z3.cell 0).trans rfl; have r1 := (Z3.cell 1).trans rfl; have r2 := (Z3.cell 2).trans rfl
    have z0 := Z3.frozen 0; have z1 := Z3.frozen 1; have z2 := Z3.frozen 2
    clear R3 P3 Z3 hb3
    go_wp2_with fail
    clear c0 c1 c2 d0 d1 d2 r0 r1 r2 z0 z1 z2
    refine wp_region_fam (by kernel_rfl) (by kernel_rfl) ?_
    repeat (go_big_quiet_step (fail))
    refine wpQuiet_nil ?_
    rintro _ ⟨zz, rfl⟩
    have HU5 := Lib.hid (below_next HBX3.out (Nat.le_refl _) zz.prop)
    have HR5 := Lib.hid (ofB HR3.out zz.prop); have HP5 := Lib.hid (ofB HP3.out zz.prop); have HZ5 := Lib.hid (ofB HZ3.out zz.prop)
    obtain ⟨u5, hu5⟩ : ∃ x, zz.val = x := ⟨_, rfl⟩
    rw [hu5] at HU5 HR5 HP5 HZ5 ⊢
    clear hu5 zz
    have HPS5 := Lib.hid (h1H.out.below HU5.out); have HOV5 := Lib.hid (h2H.out.below HU5.out)
    have HT0 : Hid (Two u5.heap.size u5 u5 45 3 (.slice none 0 0) 0 [] 3 1 (.slice none 0 0) 0 []) := Lib.hid ⟨Below.refl _ _, Nat.le_refl _, World.ownsRow_nil _ _ _ _, World.ownsRow_nil _ _ _ _, fun g h => by simp [Value.ownBlock] at h⟩
    have c0 := (HR5.out.cell 0).trans rfl; have c1 := (HR5.out.cell 1).trans rfl; have c2 := (HR5.out.cell 2).trans rfl
    have d0 := (HP5.out.cell 0).trans rfl; have d1 := (HP5.out.cell 1).trans rfl; have d2 := (HP5.out.cell 2).trans rfl
    have r0 := (HZ5.out.cell 0).trans rfl; have r1 := (HZ5.out.cell 1).trans rfl; have r2 := (HZ5.out.cell 2).trans rfl
    have z0 := HZ5.out.frozen 0; have z1 := HZ5.out.frozen 1; have z2 := HZ5.out.frozen 2
    have HZL : Hid (w.heap.size + 2 < u5.heap.size) := Lib.hid HZ5.out.lt
    go_wp2_with (at_builtin; first | (have _g := HT3; refine wpList_append_any _ rfl (.tmp 97) (.tmp 99) _ rfl u5.heap.size 3 ii _ 1 8 Try.underlying27 hii hiy0 hiy1 hiy2 rfl (by omega) (.slice Y7 no y7) no (cellsI of_) rfl (HT3.out.alloc (.cells #[.int .i64 o] 3)).ownY _ _ 1 1 [.int .i64 o] (by rfl) (fr1I _ o) oneI (by simp only [maxLen]; omega) (by omega) (HT3.out.alloc (.cells #[.int .i64 o] 3)).base ?_; intro v9 w9 ho9 hg9 ha9; obtain ⟨Y9, y9, rfl, hr9⟩ := own_reads ho9; rw [← snocI] at ho9; have HT4 := Lib.hid ((HT3.out.alloc (.cells #[.int .i64 o] 3)).right ho9 hg9 ha9); clear ho9 hg9 ha9 hr9 c0 c1 c2 y1 y2 d0 d1 d2 r0 r1 r2 z0 z1 z2; have R5 := ofB HR5.out HT4.out.below; have P5 := ofB HP5.out HT4.out.below; have Z5 := ofB HZ5.out HT4.out.below; have c0 := (R5.cell 0).trans rfl; have c1 := (R5.cell 1).trans rfl; have c2 := (R5.cell 2).trans rfl; have y1 := R5.frozen 1; have y2 := R5.frozen 2; have d0 := (P5.cell 0).trans rfl; have d1 := (P5.cell 1).trans rfl; have d2 := (P5.cell 2).trans rfl; have r0 := (Z5.cell 0).trans rfl; have r1 := (Z5.cell 1).trans rfl; have r2 := (Z5.cell 2).trans rfl; have z0 := Z5.frozen 0; have z1 := Z5.frozen 1; have z2 := Z5.frozen 2; clear R5 P5 Z5) | (have _g := HT2; refine wpList_append_any _ rfl (.tmp 93) (.tmp 95) _ rfl u5.heap.size 45 ip _ 3 40 Try.underlying26 hip hpy0 hpy1 hpy2 rfl (by omega) (.slice X6 n x6) n (cellsPg ps) rfl (HT2.out.alloc (.cells #[.int .i64 id, .int .i64 tm, .slice A1 n1 k1] 45)).ownX _ _ 1 1 (encPg ⟨id, tm, A1, n1, k1, ls⟩) (by rfl) (frPg _ ⟨id, tm, A1, n1, k1, ls⟩) (onePg _) (by simp only [maxLen]; omega) (by omega) (HT2.out.alloc (.cells #[.int .i64 id, .int .i64 tm, .slice A1 n1 k1] 45)).base ?_; intro v8 w8 ho8 hg8 ha8; obtain ⟨X8, x8, rfl, hr8⟩ := own_reads ho8; rw [← snocPg] at ho8; have HT3 := Lib.hid ((HT2.out.alloc (.cells #[.int .i64 id, .int .i64 tm, .slice A1 n1 k1] 45)).left ho8 hg8 ha8); clear ho8 hg8 ha8 hr8 c0 c1 c2 y1 y2 d0 d1 d2 r0 r1 r2 z0 z1 z2; have R5 := ofB HR5.out HT3.out.below; have P5 := ofB HP5.out HT3.out.below; have Z5 := ofB HZ5.out HT3.out.below; have c0 := (R5.cell 0).trans rfl; have c1 := (R5.cell 1).trans rfl; have c2 := (R5.cell 2).trans rfl; have y1 := R5.frozen 1; have y2 := R5.frozen 2; have d0 := (P5.cell 0).trans rfl; have d1 := (P5.cell 1).trans rfl; have d2 := (P5.cell 2).trans rfl; have r0 := (Z5.cell 0).trans rfl; have r1 := (Z5.cell 1).trans rfl; have r2 := (Z5.cell 2).trans rfl; have z0 := Z5.frozen 0; have z1 := Z5.frozen 1; have z2 := Z5.frozen 2; clear R5 P5 Z5) | (have _g := HT1; refine wpList_append_any _ rfl (.tmp 89) (.tmp 91) _ rfl u5.heap.size 3 ii _ 1 8 Try.underlying27 hii hiy0 hiy1 hiy2 rfl (by omega) (.slice none 0 0) 0 [] rfl HT1.out.ownY w6.heap.size Ao no co (cellsI of_) rfl (((HOV5.out.below HT1.out.below).reads)) (one_cellsI of_) (by simp only [maxLen]; omega) (by omega) HT1.out.base ?_; intro v7 w7 ho7 hg7 ha7; obtain ⟨Y7, y7, rfl, hr7⟩ := own_reads ho7; have HT2 := Lib.hid (HT1.out.right ho7 hg7 ha7); rw [Nat.zero_add] at HT2 ⊢; clear ho7 hg7 ha7 hr7 c0 c1 c2 y1 y2 d0 d1 d2 r0 r1 r2 z0 z1 z2; have R5 := ofB HR5.out HT2.out.below; have P5 := ofB HP5.out HT2.out.below; have Z5 := ofB HZ5.out HT2.out.below; have c0 := (R5.cell 0).trans rfl; have c1 := (R5.cell 1).trans rfl; have c2 := (R5.cell 2).trans rfl; have y1 := R5.frozen 1; have y2 := R5.frozen 2; have d0 := (P5.cell 0).trans rfl; have d1 := (P5.cell 1).trans rfl; have d2 := (P5.cell 2).trans rfl; have r0 := (Z5.cell 0).trans rfl; have r1 := (Z5.cell 1).trans rfl; have r2 := (Z5.cell 2).trans rfl; have z0 := Z5.frozen 0; have z1 := Z5.frozen 1; have z2 := Z5.frozen 2; clear R5 P5 Z5) | (refine wpList_append_any _ rfl (.tmp 85) (.tmp 87) _ rfl u5.heap.size 45 ip _ 3 40 Try.underlying26 hip hpy0 hpy1 hpy2 rfl (by omega) (.slice none 0 0) 0 [] rfl HT0.out.ownX u5.heap.size Ap n c (cellsPg ps) rfl HPS5.out.1.reads (one_cellsPg ps) (by simp only [maxLen]; omega) (by omega) (Nat.le_refl _) ?_; intro v6 w6 ho6 hg6 ha6; obtain ⟨X6, x6, rfl, hr6⟩ := own_reads ho6; have HT1 := Lib.hid (HT0.out.left ho6 hg6 ha6); rw [Nat.zero_add] at HT1 ⊢; clear ho6 hg6 ha6 hr6 c0 c1 c2 d0 d1 d2 r0 r1 r2 z0 z1 z2; have R5 := ofB HR5.out HT1.out.below; have P5 := ofB HP5.out HT1.out.below; have Z5 := ofB HZ5.out HT1.out.below; have c0 := (R5.cell 0).trans rfl; have c1 := (R5.cell 1).trans rfl; have c2 := (R5.cell 2).trans rfl; have y1 := R5.frozen 1; have y2 := R5.frozen 2; have d0 := (P5.cell 0).trans rfl; have d1 := (P5.cell 1).trans rfl; have d2 := (P5.cell 2).trans rfl; have r0 := (Z5.cell 0).trans rfl; have r1 := (Z5.cell 1).trans rfl; have r2 := (Z5.cell 2).trans rfl; have z0 := Z5.frozen 0; have z1 := Z5.frozen 1; have z2 := Z5.frozen 2; clear R5 P5 Z5))
    refine bodyPost_ret (v := .tuple #[.agg #[.int .i64 acc, .slice X8 (n + 1) x8, .slice Y9 (no + 1) y9], .int .i64 0]) (by simp [results, Try.results35, go_sem, r0, r1, r2]) rfl (radd_done HU5.out HZL.out HT4.out h1H.out hGH.out hpH.out (by show n1 ≤ 16; omega))
  · obtain ⟨q, hq⟩ : ∃ q, n = q + 1 := ⟨n - 1, by omega⟩
    have HQ := Lib.hid hq
    have hnq : (n : Int) - 1 = (q : Int) := by omega
    have hn0 : (0 : Int) < n := by omega
    have hq0 : (0 : Int) ≤ q := by omega
    have hqn : (q : Int) < n := by omega
    have hql : q < ps.length := by rw [HPL.out]; omega
    clear hq
    have HLT : Hid (ps[q].tm ≤ tm) := Lib.hid (by
      have h9 := last_at hofH.out (by rw [HPL.out]; omega)
      have h8 : ps.length - 1 = q := by rw [HPL.out, HQ.out]; rfl
      simp only [h8] at h9
      rw [h9]
      have h7 : d ≠ [] := fun e => by have := HNL.out; rw [e, HQ.out] at this; simp at this
      have h6 : ¬ tm < lastTm d := fun h => g8 ⟨h7, h⟩
      omega)
    clear g8
    go_enter Try.func35, Try.ntmps35
    go_upto_region 1 with fail
    rw [HV.out]
    go_wp2_with fail
    refine (rlines_any acc A1 n1 k1 ls 0 0 _ HPV.out.reads (by omega) HG6.out HX0.out).mono ?_
    rintro e w2 ⟨rfl, rfl⟩
    go_wp2_with fail
    refine (rfind_any acc Ap n c Ao no co ps d id (-1) _ HPS.out.psr hofH.out (by omega) HI.out).mono ?_
    rintro e w3 ⟨rfl, hb3⟩
    have HB3 := Lib.hid hb3; have HBX3 := Lib.hid (below_next HBX.out (Nat.le_refl _) hb3)
    have R3 := ofB HB0.out hb3; have P3 := ofB HB1.out hb3; have Z3 := ofB HB2.out hb3
    have HR3 := Lib.hid R3; have HP3 := Lib.hid P3; have HZ3 := Lib.hid Z3
    clear c0 c1 c2 d0 d1 d2 r0 r1 r2 z0 z1 z2
    have c0 := (R3.cell 0).trans rfl; have c1 := (R3.cell 1).trans rfl; have c2 := (R3.cell 2).trans rfl
    have d0 := (P3.cell 0).trans rfl; have d1 := (P3.cell 1).trans rfl; have d2 := (P3.cell 2).trans rfl
    have r0 := (Z3.cell 0).trans rfl; have r1 := (Z3.cell 1).trans rfl; have r2 := (Z3.cell 2).trans rfl
    have z0 := Z3.frozen 0; have z1 := Z3.frozen 1; have z2 := Z3.frozen 2
    clear R3 P3 Z3 hb3
    go_wp2_with fail
    have HPS3 := Lib.hid (HPS.out.below HB3.out)
    obtain ⟨b, off, hA, hbb, hc⟩ := HPS3.out.psr.cells (by omega)
    rw [hA] at c1
    have e1 := (hc q hql).2.1
    obtain ⟨z, hz⟩ : ∃ z, ps[q].tm = z := ⟨_, rfl⟩
    have hlt := HLT.out
    rw [hz] at e1 hlt
    clear hc hz hA
    have F0 : ∀ z' : Fam w3, z'.val.cell? ⟨w.heap.size + 1, 1, none⟩ = some (.int .i64 tm) := fun z' => z'.some_ d1
    have F1 : ∀ z' : Fam w3, z'.val.cell? ⟨w.heap.size, 1, none⟩ = some (.slice (some ⟨b, off, none⟩) n c) := fun z' => z'.some_ c1
    have F2 : ∀ z' : Fam w3, z'.val.cell? ⟨b, off + q * 3 + 1, none⟩ = some (.int .i64 z) := fun z' => z'.some_ e1
    clear c0 c1 c2 d0 d1 d2 r0 r1 r2 z0 z1 z2 e1
    have hdq : decide (0 < n) = true := decide_eq_true (by omega)
    refine wp_region_fam (by kernel_rfl) (by kernel_rfl) ?_
    repeat (go_big_quiet_step (fail))
    refine wpQuiet_nil ?_
    rintro _ ⟨zz, rfl⟩
    clear hdq F0 F1 F2
    have HU5 := Lib.hid (below_next HBX3.out (Nat.le_refl _) zz.prop)
    have HR5 := Lib.hid (ofB HR3.out zz.prop); have HP5 := Lib.hid (ofB HP3.out zz.prop); have HZ5 := Lib.hid (ofB HZ3.out zz.prop)
    obtain ⟨u5, hu5⟩ : ∃ x, zz.val = x := ⟨_, rfl⟩
    rw [hu5] at HU5 HR5 HP5 HZ5 ⊢
    clear hu5 zz
    have HPS5 := Lib.hid (h1H.out.below HU5.out); have HOV5 := Lib.hid (h2H.out.below HU5.out)
    have HT0 : Hid (Two u5.heap.size u5 u5 45 3 (.slice none 0 0) 0 [] 3 1 (.slice none 0 0) 0 []) := Lib.hid ⟨Below.refl _ _, Nat.le_refl _, World.ownsRow_nil _ _ _ _, World.ownsRow_nil _ _ _ _, fun g h => by simp [Value.ownBlock] at h⟩
    have c0 := (HR5.out.cell 0).trans rfl; have c1 := (HR5.out.cell 1).trans rfl; have c2 := (HR5.out.cell 2).trans rfl
    have d0 := (HP5.out.cell 0).trans rfl; have d1 := (HP5.out.cell 1).trans rfl; have d2 := (HP5.out.cell 2).trans rfl
    have r0 := (HZ5.out.cell 0).trans rfl; have r1 := (HZ5.out.cell 1).trans rfl; have r2 := (HZ5.out.cell 2).trans rfl
    have z0 := HZ5.out.frozen 0; have z1 := HZ5.out.frozen 1; have z2 := HZ5.out.frozen 2
    have HZL : Hid (w.heap.size + 2 < u5.heap.size) := Lib.hid HZ5.out.lt
    go_wp2_with (at_builtin; first | (have _g := HT3; refine wpList_append_any _ rfl (.tmp 97) (.tmp 99) _ rfl u5.heap.size 3 ii _ 1 8 Try.underlying27 hii hiy0 hiy1 hiy2 rfl (by omega) (.slice Y7 no y7) no (cellsI of_) rfl (HT3.out.alloc (.cells #[.int .i64 o] 3)).ownY _ _ 1 1 [.int .i64 o] (by rfl) (fr1I _ o) oneI (by simp only [maxLen]; omega) (by omega) (HT3.out.alloc (.cells #[.int .i64 o] 3)).base ?_; intro v9 w9 ho9 hg9 ha9; obtain ⟨Y9, y9, rfl, hr9⟩ := own_reads ho9; rw [← snocI] at ho9; have HT4 := Lib.hid ((HT3.out.alloc (.cells #[.int .i64 o] 3)).right ho9 hg9 ha9); clear ho9 hg9 ha9 hr9 c0 c1 c2 y1 y2 d0 d1 d2 r0 r1 r2 z0 z1 z2; have R5 := ofB HR5.out HT4.out.below; have P5 := ofB HP5.out HT4.out.below; have Z5 := ofB HZ5.out HT4.out.below; have c0 := (R5.cell 0).trans rfl; have c1 := (R5.cell 1).trans rfl; have c2 := (R5.cell 2).trans rfl; have y1 := R5.frozen 1; have y2 := R5.frozen 2; have d0 := (P5.cell 0).trans rfl; have d1 := (P5.cell 1).trans rfl; have d2 := (P5.cell 2).trans rfl; have r0 := (Z5.cell 0).trans rfl; have r1 := (Z5.cell 1).trans rfl; have r2 := (Z5.cell 2).trans rfl; have z0 := Z5.frozen 0; have z1 := Z5.frozen 1; have z2 := Z5.frozen 2; clear R5 P5 Z5) | (have _g := HT2; refine wpList_append_any _ rfl (.tmp 93) (.tmp 95) _ rfl u5.heap.size 45 ip _ 3 40 Try.underlying26 hip hpy0 hpy1 hpy2 rfl (by omega) (.slice X6 n x6) n (cellsPg ps) rfl (HT2.out.alloc (.cells #[.int .i64 id, .int .i64 tm, .slice A1 n1 k1] 45)).ownX _ _ 1 1 (encPg ⟨id, tm, A1, n1, k1, ls⟩) (by rfl) (frPg _ ⟨id, tm, A1, n1, k1, ls⟩) (onePg _) (by simp only [maxLen]; omega) (by omega) (HT2.out.alloc (.cells #[.int .i64 id, .int .i64 tm, .slice A1 n1 k1] 45)).base ?_; intro v8 w8 ho8 hg8 ha8; obtain ⟨X8, x8, rfl, hr8⟩ := own_reads ho8; rw [← snocPg] at ho8; have HT3 := Lib.hid ((HT2.out.alloc (.cells #[.int .i64 id, .int .i64 tm, .slice A1 n1 k1] 45)).left ho8 hg8 ha8); clear ho8 hg8 ha8 hr8 c0 c1 c2 y1 y2 d0 d1 d2 r0 r1 r2 z0 z1 z2; have R5 := ofB HR5.out HT3.out.below; have P5 := ofB HP5.out HT3.out.below; have Z5 := ofB HZ5.out HT3.out.below; have c0 := (R5.cell 0).trans rfl; have c1 := (R5.cell 1).trans rfl; have c2 := (R5.cell 2).trans rfl; have y1 := R5.frozen 1; have y2 := R5.frozen 2; have d0 := (P5.cell 0).trans rfl; have d1 := (P5.cell 1).trans rfl; have d2 := (P5.cell 2).trans rfl; have r0 := (Z5.cell 0).trans rfl; have r1 := (Z5.cell 1).trans rfl; have r2 := (Z5.cell 2).trans rfl; have z0 := Z5.frozen 0; have z1 := Z5.frozen 1; have z2 := Z5.frozen 2; clear R5 P5 Z5) | (have _g := HT1; refine wpList_append_any _ rfl (.tmp 89) (.tmp 91) _ rfl u5.heap.size 3 ii _ 1 8 Try.underlying27 hii hiy0 hiy1 hiy2 rfl (by omega) (.slice none 0 0) 0 [] rfl HT1.out.ownY w6.heap.size Ao no co (cellsI of_) rfl (((HOV5.out.below HT1.out.below).reads)) (one_cellsI of_) (by simp only [maxLen]; omega) (by omega) HT1.out.base ?_; intro v7 w7 ho7 hg7 ha7; obtain ⟨Y7, y7, rfl, hr7⟩ := own_reads ho7; have HT2 := Lib.hid (HT1.out.right ho7 hg7 ha7); rw [Nat.zero_add] at HT2 ⊢; clear ho7 hg7 ha7 hr7 c0 c1 c2 y1 y2 d0 d1 d2 r0 r1 r2 z0 z1 z2; have R5 := ofB HR5.out HT2.out.below; have P5 := ofB HP5.out HT2.out.below; have Z5 := ofB HZ5.out HT2.out.below; have c0 := (R5.cell 0).trans rfl; have c1 := (R5.cell 1).trans rfl; have c2 := (R5.cell 2).trans rfl; have y1 := R5.frozen 1; have y2 := R5.frozen 2; have d0 := (P5.cell 0).trans rfl; have d1 := (P5.cell 1).trans rfl; have d2 := (P5.cell 2).trans rfl; have r0 := (Z5.cell 0).trans rfl; have r1 := (Z5.cell 1).trans rfl; have r2 := (Z5.cell 2).trans rfl; have z0 := Z5.frozen 0; have z1 := Z5.frozen 1; have z2 := Z5.frozen 2; clear R5 P5 Z5) | (refine wpList_append_any _ rfl (.tmp 85) (.tmp 87) _ rfl u5.heap.size 45 ip _ 3 40 Try.underlying26 hip hpy0 hpy1 hpy2 rfl (by omega) (.slice none 0 0) 0 [] rfl HT0.out.ownX u5.heap.size Ap n c (cellsPg ps) rfl HPS5.out.1.reads (one_cellsPg ps) (by simp only [maxLen]; omega) (by omega) (Nat.le_refl _) ?_; intro v6 w6 ho6 hg6 ha6; obtain ⟨X6, x6, rfl, hr6⟩ := own_reads ho6; have HT1 := Lib.hid (HT0.out.left ho6 hg6 ha6); rw [Nat.zero_add] at HT1 ⊢; clear ho6 hg6 ha6 hr6 c0 c1 c2 d0 d1 d2 r0 r1 r2 z0 z1 z2; have R5 := ofB HR5.out HT1.out.below; have P5 := ofB HP5.out HT1.out.below; have Z5 := ofB HZ5.out HT1.out.below; have c0 := (R5.cell 0).trans rfl; have c1 := (R5.cell 1).trans rfl; have c2 := (R5.cell 2).trans rfl; have y1 := R5.frozen 1; have y2 := R5.frozen 2; have d0 := (P5.cell 0).trans rfl; have d1 := (P5.cell 1).trans rfl; have d2 := (P5.cell 2).trans rfl; have r0 := (Z5.cell 0).trans rfl; have r1 := (Z5.cell 1).trans rfl; have r2 := (Z5.cell 2).trans rfl; have z0 := Z5.frozen 0; have z1 := Z5.frozen 1; have z2 := Z5.frozen 2; clear R5 P5 Z5))
    refine bodyPost_ret (v := .tuple #[.agg #[.int .i64 acc, .slice X8 (n + 1) x8, .slice Y9 (no + 1) y9], .int .i64 0]) (by simp [results, Try.results35, go_sem, r0, r1, r2]) rfl (radd_done HU5.out HZL.out HT4.out h1H.out hGH.out hpH.out (by show n1 ≤ 16; omega))

theorem radd_any (G : Nat → Prop) (acc : Int) (Ap : Option Addr) (n c : Nat) (Ao : Option Addr) (no co : Nat) (ps : List Pg) (of_ : List Int) (d : List Dt) (id tm : Int) (A1 : Option Addr) (n1 k1 : Nat) (ls : List Ln) (o E : Int) (w : World)
    (h1 : PsI w G Ap n ps) (h2 : RIn w G 1 Ao no (cellsI of_)) (hp : RIn w G 2 A1 n1 (cellsLn ls)) (hG : ∀ j, w.heap.size ≤ j → G j) (hof : ps.map Pg.of = d.map Dt.of) (hlen : of_.length = d.length) (hd : d.length ≤ 512) (hE : postE acc d id tm ls = E) :
    Calls Try.prog 35 #[.agg #[.int .i64 acc, .slice Ap n c, .slice Ao no co], .agg #[.int .i64 id, .int .i64 tm, .slice A1 n1 k1], .int .i64 o] w (RetRf w G acc ps of_ (ps ++ [⟨id, tm, A1, n1, k1, ls⟩]) (of_ ++ [o]) E) := by
  by_cases h0 : E = 0
  · subst h0
    exact radd_ok G acc Ap n c Ao no co ps of_ d id tm A1 n1 k1 ls o w h1 h2 hp hG hof hlen hd hE
  · exact radd_err G acc Ap n c Ao no co ps of_ d id tm A1 n1 k1 ls o E w h1 h2 hp hG hof hlen hd hE h0
theorem PsI.mono {w : World} {G G' : Nat → Prop} {A : Option Addr} {n : Nat} {l : List Pg} (h : PsI w G A n l) (hG : ∀ k, k < w.heap.size → G k → G' k) : PsI w G' A n l := ⟨h.1.mono hG, fun p hp => ⟨(h.2 p hp).1.mono hG, (h.2 p hp).2⟩⟩
theorem RetRf.wrap {w v w2 : World} {G : Nat → Prop} {k : Nat} {acc E : Int} {ps ps' : List Pg} {of_ of' : List Int} {e : Ending} (hv : Below w.heap.size w v) (hk : w.heap.size ≤ k) (hr : RetRf v (fun j => G j ∧ j ≠ k) acc ps of_ ps' of' E e w2) :
    ∃ A n c Ao no co, e = .returned (.tuple #[.agg #[.int .i64 acc, .slice A n c, .slice Ao no co], .int .i64 E]) ∧ Below w.heap.size w w2 ∧ ∀ x y z, RetRf w G acc ps of_ ps' of' E (.returned (.tuple #[.agg #[.int .i64 acc, .slice A n c, .slice Ao no co], .int .i64 E])) (((w2.setCell ⟨k, 0, none⟩ x).setCell ⟨k, 1, none⟩ y).setCell ⟨k, 2, none⟩ z) := by
  obtain ⟨hb, A, n, c, Ao, no, co, he, h1, h2⟩ := hr
  have hb2 := below_next hv (Nat.le_refl _) hb
  refine ⟨A, n, c, Ao, no, co, he, hb2, fun x y z => ?_⟩
  have HO := (((Only.refl (fun j => j = k) w2).setCell (p := ⟨k, 0, none⟩) (fun _ => rfl) x).setCell (p := ⟨k, 1, none⟩) (fun _ => rfl) y).setCell (p := ⟨k, 2, none⟩) (fun _ => rfl) z
  exact ⟨hb2.trans (HO.below (fun j _ e => by omega) hb2.size), A, n, c, Ao, no, co, rfl, (h1.keep HO fun j hj e => hj.2 e).mono fun j _ hj => hj.1, (h2.keep HO fun j _ hj e => hj.2 e).mono fun j _ hj => hj.1⟩
end Go.Proofs.Ytoammbjnejdgpaa
