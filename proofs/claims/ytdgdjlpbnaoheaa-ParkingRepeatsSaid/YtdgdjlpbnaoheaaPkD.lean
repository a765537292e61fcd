/- The walks of the program's Judge, of the reference's only, Counts, kind, and of the law's counts. -/
import Derived.Test.YtdgdjlpbnaoheaaPkC
import Derived.Test.YtdgdjlpbnaoheaaFcD
namespace Go.Proofs.Ytdgdjlpbnaoheaa
open Go.RowKit
/-- A verdict as numbers. -/
abbrev Vd := Int × Int × Int × Int
abbrev aggVd (v : Vd) : Value := .agg #[.int .i64 v.1, .int .i64 v.2.1, .int .i64 v.2.2.1, .int .i64 v.2.2.2]
def RetVE (w : World) (v : Vd) (y : Int) (e : Ending) (w' : World) : Prop := e = .returned (.tuple #[aggVd v, .int .i64 y]) ∧ Below w.heap.size w w'
/-- What Judge returns. -/
def verdict (l : List Fc) (ps : List Ph) (p : Pk) : Vd := (p.ride, p.rider, p.tm, judgeZ l (countsB ps p) p)
def judgeV (l : List Fc) (ps : List Ph) (p : Pk) : Vd := if faultZ l ps.length p = 0 then verdict l ps p else (0, 0, 0, 0)
theorem ret_ve {v v' : Vd} {x y : Int} (h : v = v') (h2 : x = y) : Ending.returned (.tuple #[aggVd v, .int .i64 x]) = .returned (.tuple #[aggVd v', .int .i64 y]) := by rw [h, h2]
set_option maxHeartbeats 4000000 in
theorem pjudge_any (A : Option Addr) (n c : Nat) (l : List Fc) (A2 : Option Addr) (m c2 : Nat) (ps : List Ph) (p : Pk) (v : Vd) (y : Int) (w : World) (h : FcR w A n l) (hn : n ≤ 9223372036854775807) (h2 : PsR w A2 m ps) (hm : m ≤ 9223372036854775807) (hy : faultZ l ps.length p = y) (hv : judgeV l ps p = v) : Calls Try.prog 12 #[.slice A n c, .slice A2 m c2, aggK p] w (RetVE w v y) := by
  obtain ⟨kk, hK⟩ := box2K w 27 31 #[.int .i64 p.ride, .int .i64 p.rider, .int .i64 p.tm, .int .i64 p.x, .int .i64 p.y, .int .i64 p.r] #[.int .i64 0, .int .i64 0, .int .i64 0, .int .i64 0]
  have HK := Lib.hid hK
  clear hK
  obtain ⟨B0, B1, hbb⟩ := HK.out _ kk
  have c00 := B0.cell 0
  have c01 := B0.cell 1
  have c02 := B0.cell 2
  have c03 := B0.cell 3
  have c04 := B0.cell 4
  have c05 := B0.cell 5
  have c10 := B1.cell 0
  have c11 := B1.cell 1
  have c12 := B1.cell 2
  have c13 := B1.cell 3
  have HB := Lib.hid hbb
  clear B0 B1 hbb
  have HZA : Hid (∀ u, Below w.heap.size w u → FcR u A n l) := Lib.hid fun u hu => h.below hu
  have HZP : Hid (∀ u, Below w.heap.size w u → PsR u A2 m ps) := Lib.hid fun u hu => h2.below hu
  have HLP : Hid (ps.length = m) := Lib.hid h2.2.2
  have HY : Hid (faultZ l m p = y) := Lib.hid (by rw [← HLP.out]; exact hy)
  clear h h2
  by_cases h0 : y = 0
  case neg =>
    have HV : Hid ((0, 0, 0, 0) = v) := Lib.hid (by rw [← hv]; unfold judgeV; rw [if_neg (by rw [hy]; exact h0)])
    have t0 := ne0_t h0
    clear hy hv h0
    go_enter Try.func12, Try.ntmps12
    go_wp2_with fail
    refine (pkfault_any A n c l A2 m c2 p y _ (HZA.out _ HB.out) hn hm HY.out).mono ?_
    rintro e w1 ⟨rfl, hb1⟩
    replace kk := below_next kk (Nat.le_refl _) hb1
    clear c00 c01 c02 c03 c04 c05 c10 c11 c12 c13 HB hb1
    obtain ⟨B0, B1, hbb⟩ := HK.out _ kk
    have c00 := B0.cell 0
    have c01 := B0.cell 1
    have c02 := B0.cell 2
    have c03 := B0.cell 3
    have c04 := B0.cell 4
    have c05 := B0.cell 5
    have c10 := B1.cell 0
    have c11 := B1.cell 1
    have c12 := B1.cell 2
    have c13 := B1.cell 3
    have HB := Lib.hid hbb
    clear B0 B1 hbb
    have BV := (HK.out _ kk).2.1
    have q0 := (BV.cell 0).trans rfl; have q1 := (BV.cell 1).trans rfl; have q2 := (BV.cell 2).trans rfl; have q3 := (BV.cell 3).trans rfl
    have fq0 := BV.frozen 0; have fq1 := BV.frozen 1; have fq2 := BV.frozen 2; have fq3 := BV.frozen 3
    clear BV c10 c11 c12 c13
    go_wp2_with fail
    exact bodyPost_ret (v := .tuple #[aggVd (0, 0, 0, 0), .int .i64 y]) (by simp [results, Try.results12, go_sem, q0, q1, q2, q3]) rfl ⟨ret_ve HV.out rfl, by repeat (first | exact HB.out | refine Below.setCell ?_ (show w.heap.size ≤ w.heap.size + 1 by omega) _)⟩
  subst h0
  have HV : Hid (verdict l ps p = v) := Lib.hid (by rw [← hv]; unfold judgeV; rw [if_pos hy])
  obtain ⟨hp, hl, _⟩ := fault_inv hy
  have HP := Lib.hid hp; have HL := Lib.hid hl
  obtain ⟨k, hk⟩ : ∃ k, judgeZ l (countsB ps p) p = k := ⟨_, rfl⟩
  have HKZ := Lib.hid hk
  have HV2 : Hid ((p.ride, p.rider, p.tm, k) = v) := Lib.hid (by rw [← HV.out, ← hk]; rfl)
  clear hy hv hp hl hk
  go_enter Try.func12, Try.ntmps12
  go_wp2_with fail
  refine (pkfault_any A n c l A2 m c2 p 0 _ (HZA.out _ HB.out) hn hm HY.out).mono ?_
  rintro e w2 ⟨rfl, hb2⟩
  replace kk := below_next kk (Nat.le_refl _) hb2
  clear c00 c01 c02 c03 c04 c05 c10 c11 c12 c13 HB hb2
  obtain ⟨B0, B1, hbb⟩ := HK.out _ kk
  have c00 := B0.cell 0
  have c01 := B0.cell 1
  have c02 := B0.cell 2
  have c03 := B0.cell 3
  have c04 := B0.cell 4
  have c05 := B0.cell 5
  have c10 := B1.cell 0
  have c11 := B1.cell 1
  have c12 := B1.cell 2
  have c13 := B1.cell 3
  have HB := Lib.hid hbb
  clear B0 B1 hbb
  go_wp2_with fail
  refine (judge_any A n c l A2 m c2 ps p k _ (HZA.out _ HB.out) hn (HZP.out _ HB.out) hm HP.out HL.out HKZ.out).mono ?_
  rintro e w3 ⟨rfl, hb3⟩
  replace kk := below_next kk (Nat.le_refl _) hb3
  clear c00 c01 c02 c03 c04 c05 c10 c11 c12 c13 HB hb3
  obtain ⟨B0, B1, hbb⟩ := HK.out _ kk
  have c00 := B0.cell 0
  have c01 := B0.cell 1
  have c02 := B0.cell 2
  have c03 := B0.cell 3
  have c04 := B0.cell 4
  have c05 := B0.cell 5
  have c10 := B1.cell 0
  have c11 := B1.cell 1
  have c12 := B1.cell 2
  have c13 := B1.cell 3
  have HB := Lib.hid hbb
  clear B0 B1 hbb
  have BV := (HK.out _ kk).2.1
  have q0 := (BV.cell 0).trans rfl; have q1 := (BV.cell 1).trans rfl; have q2 := (BV.cell 2).trans rfl; have q3 := (BV.cell 3).trans rfl
  have fq0 := BV.frozen 0; have fq1 := BV.frozen 1; have fq2 := BV.frozen 2; have fq3 := BV.frozen 3
  clear BV c10 c11 c12 c13
  go_wp2_with fail
  exact bodyPost_ret (v := .tuple #[aggVd (p.ride, p.rider, p.tm, k), .int .i64 0]) (by simp [results, Try.results12, go_sem, q0, q1, q2, q3]) rfl ⟨ret_ve HV2.out rfl, by repeat (first | exact HB.out | refine Below.setCell ?_ (show w.heap.size ≤ w.heap.size + 1 by omega) _)⟩
set_option maxHeartbeats 2000000 in
theorem ronly_any (A : Option Addr) (n c : Nat) (l : List Fc) (t : Int) (x : Bool) (w : World) (h : FcR w A n l) (hn : n ≤ 9223372036854775807) (hx : someB l 2 t = x) : Calls Try.prog 56 #[.slice A n c, .int .i64 t] w (RetB w x) := by
  have HZ := Lib.hid h; have HX := Lib.hid hx; have HL := Lib.hid h.2.2
  clear h hx
  go_enter Try.func56, Try.ntmps56
  go_wp2_with fail
  go_loopw [5] (fun s wr => ∃ k : Nat, k ≤ n ∧ s = .int .i64 k ∧ Hid (∀ j (hj : j < l.length), j < k → (decide (l[j].k = 2) && activeB l[j] t) = false) ∧ Below w.heap.size w wr) (fun s _ => n - (intOf s).toNat)
  case atStart => exact ⟨0, Nat.zero_le _, rfl, Lib.hid (fun _ _ h => absurd h (Nat.not_lt_zero _)), Below.refl _ _⟩
  case round =>
    obtain ⟨k, hk, rfl, HA, hbw⟩ := hrel
    have HBW := Lib.hid hbw
    have HZr := Lib.hid (HZ.out.below hbw)
    clear hbw
    by_cases hlt : k < n
    · have hkl : k < l.length := by have := HL.out; omega
      obtain ⟨b, off, rfl, hb, hc⟩ := HZr.out.cells (by omega)
      obtain ⟨d0, d1, d2, d3, d4, d5⟩ := hc k hkl
      have hk0 : (0 : Int) ≤ k := by omega
      have hk1 : (k : Int) < n := by omega
      obtain ⟨f, hz⟩ : ∃ f, l[k] = f := ⟨_, rfl⟩
      rw [hz] at d0 d1 d2 d3 d4 d5
      have HNO : Hid ((decide (f.k = 2) && activeB f t) = false → ∀ j (hj : j < l.length), j < k + 1 → (decide (l[j].k = 2) && activeB l[j] t) = false) := Lib.hid (fun g j hj hjk => by
        rcases Nat.lt_or_eq_of_le (Nat.lt_succ_iff.1 hjk) with h' | rfl
        · exact HA.out j hj h'
        · rw [hz]; exact g)
      have HYES : Hid ((decide (f.k = 2) && activeB f t) = true → true = x) := Lib.hid (fun g => by
        rw [← HX.out]
        exact (List.any_eq_true.2 ⟨f, by rw [← hz]; exact List.getElem_mem hkl, g⟩).symm)
      clear hc hz
      by_cases hfk : f.k = 2
      case neg =>
        have HN := Lib.hid (HNO.out (by rw [decide_eq_false hfk]; rfl))
        have hfk2 : (f.k == 2) = false := by simp [hfk]
        have hfk3 : decide (f.k = 2) = false := by simp [hfk]
        clear hfk
        go_wp2_with fail
        go_roundw
        case rel => exact ⟨k + 1, by omega, by go_num, HN, HBW.out⟩
        case measure => simp [intOf]; omega
      have hfk2 : (f.k == 2) = true := by simp [hfk]
      have hfk3 : decide (f.k = 2) = true := by simp [hfk]
      rcases ha : activeB f t with _ | _
      · have HN := Lib.hid (HNO.out (by rw [ha, Bool.and_false]))
        have HAC := Lib.hid ha
        clear ha hfk
        go_wp2_with fail
        refine (ractive_any f t false _ HAC.out).mono ?_
        rintro e w5 ⟨rfl, hb5⟩
        have HB5 := Lib.hid (below_next HBW.out (Nat.le_refl _) hb5)
        clear hb5 d0 d1 d2 d3 d4 d5
        go_wp2_with fail
        go_roundw
        case rel => exact ⟨k + 1, by omega, by go_num, HN, HB5.out⟩
        case measure => simp [intOf]; omega
      · have HX2 := Lib.hid (HYES.out (by rw [ha, hfk3]; rfl))
        have HAC := Lib.hid ha
        clear ha hfk
        go_wp2_with fail
        refine (ractive_any f t true _ HAC.out).mono ?_
        rintro e w5 ⟨rfl, hb5⟩
        have HB5 := Lib.hid (below_next HBW.out (Nat.le_refl _) hb5)
        clear hb5 d0 d1 d2 d3 d4 d5
        go_wp2_with fail
        go_ret
        exact ⟨ret_bool HX2.out, HB5.out⟩
    · have HX2 : Hid (false = x) := Lib.hid (by
        rw [← HX.out]; symm
        unfold someB
        rw [List.any_eq_false]
        intro f hf
        obtain ⟨j, hj, rfl⟩ := List.getElem_of_mem hf
        rw [HA.out j hj (by have := HL.out; omega)]; decide)
      go_wp2_with fail
      go_ret
      exact ⟨ret_bool HX2.out, HBW.out⟩
set_option maxHeartbeats 4000000 in
set_option maxRecDepth 10000 in
theorem rcounts_any (f : Ph) (p : Pk) (x : Bool) (w : World) (h : PR w f) (hp : 0 ≤ p.tm ∧ p.tm ≤ 4294943999) (hx : countB f p = x) : Calls Try.prog 30 #[aggF f, aggK p] w (RetB w x) := by
  obtain ⟨kk, hK⟩ := box2K w 46 27 #[.int .i64 f.ride, .int .i64 f.tm, .int .i64 f.W, .int .i64 f.H, .slice f.A f.n f.c] #[.int .i64 p.ride, .int .i64 p.rider, .int .i64 p.tm, .int .i64 p.x, .int .i64 p.y, .int .i64 p.r]
  have HK := Lib.hid hK
  clear hK
  obtain ⟨B0, B1, hbb⟩ := HK.out _ kk
  have c00 := B0.cell 0
  have c01 := B0.cell 1
  have c02 := B0.cell 2
  have c03 := B0.cell 3
  have c04 := B0.cell 4
  have c10 := B1.cell 0
  have c11 := B1.cell 1
  have c12 := B1.cell 2
  have c13 := B1.cell 3
  have c14 := B1.cell 4
  have c15 := B1.cell 5
  have HB := Lib.hid hbb
  clear B0 B1 hbb
  have HPA : Hid (∀ u, Below w.heap.size w u → PR u f) := Lib.hid fun u hu => h.below hu
  have HWR := Lib.hid (HPA.out _ HB.out)
  have f1 := wr_ (n := p.tm - 300) (by omega)
  have f2 := wr_ (n := p.tm + 300) (by omega)
  clear h
  rcases hu : usableB f with _ | _
  · skip
    have HX : Hid (false = x) := Lib.hid (by rw [← hx]; unfold countB; rw [hu, Bool.and_false])
    have HU := Lib.hid hu
    clear hx hu
    go_enter Try.func30, Try.ntmps30
    go_wp2_with fail
    refine (rusable_any f false _ HWR.out HU.out).mono ?_
    rintro e w1 ⟨rfl, hb1⟩
    replace kk := below_next kk (Nat.le_refl _) hb1
    clear c00 c01 c02 c03 c04 c10 c11 c12 c13 c14 c15 HB hb1
    obtain ⟨B0, B1, hbb⟩ := HK.out _ kk
    have c00 := B0.cell 0
    have c01 := B0.cell 1
    have c02 := B0.cell 2
    have c03 := B0.cell 3
    have c04 := B0.cell 4
    have c10 := B1.cell 0
    have c11 := B1.cell 1
    have c12 := B1.cell 2
    have c13 := B1.cell 3
    have c14 := B1.cell 4
    have c15 := B1.cell 5
    have HB := Lib.hid hbb
    clear B0 B1 hbb
    go_wp2_with fail
    go_ret
    exact ⟨ret_bool (by have e := HX.out; first | exact e | (rw [← e]; simp; omega)), HB.out⟩
  by_cases hk : f.ride = p.ride
  case neg =>
    have hk2 : (f.ride == p.ride) = false := by simp [hk]
    have hk3 : decide (f.ride = p.ride) = false := by simp [hk]
    clear hk
    have HX : Hid (false = x) := Lib.hid (by rw [← hx]; unfold countB; rw [hk3]; rfl)
    have HU := Lib.hid hu
    clear hx hu
    go_enter Try.func30, Try.ntmps30
    go_wp2_with fail
    refine (rusable_any f true _ HWR.out HU.out).mono ?_
    rintro e w2 ⟨rfl, hb2⟩
    replace kk := below_next kk (Nat.le_refl _) hb2
    clear c00 c01 c02 c03 c04 c10 c11 c12 c13 c14 c15 HB hb2
    obtain ⟨B0, B1, hbb⟩ := HK.out _ kk
    have c00 := B0.cell 0
    have c01 := B0.cell 1
    have c02 := B0.cell 2
    have c03 := B0.cell 3
    have c04 := B0.cell 4
    have c10 := B1.cell 0
    have c11 := B1.cell 1
    have c12 := B1.cell 2
    have c13 := B1.cell 3
    have c14 := B1.cell 4
    have c15 := B1.cell 5
    have HB := Lib.hid hbb
    clear B0 B1 hbb
    go_wp2_with fail
    go_ret
    exact ⟨ret_bool (by have e := HX.out; first | exact e | (rw [← e]; simp; omega)), HB.out⟩
  have hk2 : (f.ride == p.ride) = true := by simp [hk]
  have hk3 : decide (f.ride = p.ride) = true := by simp [hk]
  clear hk
  have hcs : f.tm < p.tm - 300 ∨ (p.tm - 300 ≤ f.tm ∧ p.tm + 300 < f.tm) ∨ (p.tm - 300 ≤ f.tm ∧ f.tm ≤ p.tm + 300) := by omega
  rcases hcs with g0 | ⟨g0, g1⟩ | ⟨g0, g1⟩
  · skip
    have HX : Hid (false = x) := Lib.hid (by rw [← hx]; unfold countB; rw [inB_lo g0, hk3, hu]; rfl)
    have HU := Lib.hid hu
    clear hx hu
    go_enter Try.func30, Try.ntmps30
    go_wp2_with fail
    refine (rusable_any f true _ HWR.out HU.out).mono ?_
    rintro e w3 ⟨rfl, hb3⟩
    replace kk := below_next kk (Nat.le_refl _) hb3
    clear c00 c01 c02 c03 c04 c10 c11 c12 c13 c14 c15 HB hb3
    obtain ⟨B0, B1, hbb⟩ := HK.out _ kk
    have c00 := B0.cell 0
    have c01 := B0.cell 1
    have c02 := B0.cell 2
    have c03 := B0.cell 3
    have c04 := B0.cell 4
    have c10 := B1.cell 0
    have c11 := B1.cell 1
    have c12 := B1.cell 2
    have c13 := B1.cell 3
    have c14 := B1.cell 4
    have c15 := B1.cell 5
    have HB := Lib.hid hbb
    clear B0 B1 hbb
    go_wp2_with fail
    go_ret
    exact ⟨ret_bool (by have e := HX.out; first | exact e | (rw [← e]; simp; omega)), HB.out⟩
  · skip
    have HX : Hid (false = x) := Lib.hid (by rw [← hx]; unfold countB; rw [inB_hi g1, hk3, hu]; rfl)
    have HU := Lib.hid hu
    clear hx hu
    go_enter Try.func30, Try.ntmps30
    go_wp2_with fail
    refine (rusable_any f true _ HWR.out HU.out).mono ?_
    rintro e w4 ⟨rfl, hb4⟩
    replace kk := below_next kk (Nat.le_refl _) hb4
    clear c00 c01 c02 c03 c04 c10 c11 c12 c13 c14 c15 HB hb4
    obtain ⟨B0, B1, hbb⟩ := HK.out _ kk
    have c00 := B0.cell 0
    have c01 := B0.cell 1
    have c02 := B0.cell 2
    have c03 := B0.cell 3
    have c04 := B0.cell 4
    have c10 := B1.cell 0
    have c11 := B1.cell 1
    have c12 := B1.cell 2
    have c13 := B1.cell 3
    have c14 := B1.cell 4
    have c15 := B1.cell 5
    have HB := Lib.hid hbb
    clear B0 B1 hbb
    go_wp2_with fail
    go_ret
    exact ⟨ret_bool (by have e := HX.out; first | exact e | (rw [← e]; simp; omega)), HB.out⟩
  · skip
    have HX : Hid (true = x) := Lib.hid (by rw [← hx]; unfold countB; rw [inB_ok ⟨g0, g1⟩, hk3, hu]; rfl)
    have HU := Lib.hid hu
    clear hx hu
    go_enter Try.func30, Try.ntmps30
    go_wp2_with fail
    refine (rusable_any f true _ HWR.out HU.out).mono ?_
    rintro e w5 ⟨rfl, hb5⟩
    replace kk := below_next kk (Nat.le_refl _) hb5
    clear c00 c01 c02 c03 c04 c10 c11 c12 c13 c14 c15 HB hb5
    obtain ⟨B0, B1, hbb⟩ := HK.out _ kk
    have c00 := B0.cell 0
    have c01 := B0.cell 1
    have c02 := B0.cell 2
    have c03 := B0.cell 3
    have c04 := B0.cell 4
    have c10 := B1.cell 0
    have c11 := B1.cell 1
    have c12 := B1.cell 2
    have c13 := B1.cell 3
    have c14 := B1.cell 4
    have c15 := B1.cell 5
    have HB := Lib.hid hbb
    clear B0 B1 hbb
    go_wp2_with fail
    go_ret
    exact ⟨ret_bool (by have e := HX.out; first | exact e | (rw [← e]; simp; omega)), HB.out⟩
set_option maxHeartbeats 4000000 in
set_option maxRecDepth 10000 in
theorem lcounts_any (A : Option Addr) (n c : Nat) (l : List Ph) (p : Pk) (x : Bool) (w : World) (h : PsR w A n l) (hn : n ≤ 9223372036854775807) (hp : 0 ≤ p.tm ∧ p.tm ≤ 4294943999) (hx : countsB l p = x) : Calls Try.prog 13 #[.slice A n c, aggK p] w (RetB w x) := by
  obtain ⟨kk, hK⟩ := box1K w 27 #[.int .i64 p.ride, .int .i64 p.rider, .int .i64 p.tm, .int .i64 p.x, .int .i64 p.y, .int .i64 p.r]
  have HK := Lib.hid hK
  clear hK
  obtain ⟨B0, hbb⟩ := HK.out _ kk
  have c00 := B0.cell 0
  have c01 := B0.cell 1
  have c02 := B0.cell 2
  have c03 := B0.cell 3
  have c04 := B0.cell 4
  have c05 := B0.cell 5
  have HB := Lib.hid hbb
  clear B0 hbb
  have HZA : Hid (∀ u, Below w.heap.size w u → PsR u A n l) := Lib.hid fun u hu => h.below hu
  have HX := Lib.hid hx; have HL := Lib.hid h.2.2
  clear h hx
  go_enter Try.func13, Try.ntmps13
  go_wp2_with fail
  have HKK := Lib.hid kk
  clear kk HB c00 c01 c02 c03 c04 c05
  go_loopw [5] (fun s wr => ∃ k : Nat, k ≤ n ∧ s = .int .i64 k ∧ Hid (∀ j (hj : j < l.length), j < k → countB l[j] p = false) ∧ Below (w.alloc (.cells #[.int .i64 p.ride, .int .i64 p.rider, .int .i64 p.tm, .int .i64 p.x, .int .i64 p.y, .int .i64 p.r] 27)).heap.size (w.alloc (.cells #[.int .i64 p.ride, .int .i64 p.rider, .int .i64 p.tm, .int .i64 p.x, .int .i64 p.y, .int .i64 p.r] 27)) wr) (fun s _ => n - (intOf s).toNat)
  case atStart => exact ⟨0, Nat.zero_le _, rfl, Lib.hid (fun _ _ h => absurd h (Nat.not_lt_zero _)), HKK.out⟩
  case round =>
    obtain ⟨k, hk, rfl, HA, hbw⟩ := hrel
    have HBW := Lib.hid hbw
    obtain ⟨B0, hbb⟩ := HK.out _ hbw
    have HBB := Lib.hid hbb
    have HZr := Lib.hid (HZA.out _ hbb)
    have c00 := (B0.cell 0).trans rfl; have c01 := (B0.cell 1).trans rfl; have c02 := (B0.cell 2).trans rfl; have c03 := (B0.cell 3).trans rfl; have c04 := (B0.cell 4).trans rfl; have c05 := (B0.cell 5).trans rfl
    clear hbw B0 hbb
    by_cases hlt : k < n
    · have hkl : k < l.length := by have := HL.out; omega
      obtain ⟨b, off, rfl, hb, hc⟩ := HZr.out.cells (by omega)
      obtain ⟨d0, d1, d2, d3, d4⟩ := hc k hkl
      have hk0 : (0 : Int) ≤ k := by omega
      have hk1 : (k : Int) < n := by omega
      have HPR := Lib.hid (HZr.out.2.1 l[k] (List.getElem_mem hkl))
      clear hc
      go_wp2_with fail
      have F00 : ∀ z : Fam _, z.val.cell? ⟨w.heap.size, 0, none⟩ = some (.int .i64 p.ride) := fun z => z.some_ c00
      have F01 : ∀ z : Fam _, z.val.cell? ⟨w.heap.size, 1, none⟩ = some (.int .i64 p.rider) := fun z => z.some_ c01
      have F02 : ∀ z : Fam _, z.val.cell? ⟨w.heap.size, 2, none⟩ = some (.int .i64 p.tm) := fun z => z.some_ c02
      have F03 : ∀ z : Fam _, z.val.cell? ⟨w.heap.size, 3, none⟩ = some (.int .i64 p.x) := fun z => z.some_ c03
      have F04 : ∀ z : Fam _, z.val.cell? ⟨w.heap.size, 4, none⟩ = some (.int .i64 p.y) := fun z => z.some_ c04
      have F05 : ∀ z : Fam _, z.val.cell? ⟨w.heap.size, 5, none⟩ = some (.int .i64 p.r) := fun z => z.some_ c05
      clear c00 c01 c02 c03 c04 c05
      have D0 : ∀ z : Fam wr, z.val.cell? ⟨b, off + k * 5, none⟩ = some (.int .i64 l[k].ride) := fun z => z.some_ d0
      have D1 : ∀ z : Fam wr, z.val.cell? ⟨b, off + k * 5 + 1, none⟩ = some (.int .i64 l[k].tm) := fun z => z.some_ d1
      have D2 : ∀ z : Fam wr, z.val.cell? ⟨b, off + k * 5 + 2, none⟩ = some (.int .i64 l[k].W) := fun z => z.some_ d2
      have D3 : ∀ z : Fam wr, z.val.cell? ⟨b, off + k * 5 + 3, none⟩ = some (.int .i64 l[k].H) := fun z => z.some_ d3
      have D4 : ∀ z : Fam wr, z.val.cell? ⟨b, off + k * 5 + 4, none⟩ = some (.slice l[k].A l[k].n l[k].c) := fun z => z.some_ d4
      clear d0 d1 d2 d3 d4
      obtain ⟨y, hy⟩ : ∃ y, countB l[k] p = y := ⟨_, rfl⟩
      have HY := Lib.hid hy
      clear hy
      refine wp_region_fam (by kernel_rfl) (by kernel_rfl) ?_
      repeat (go_big_quiet_step ((go_at_call 30; exact fam_call (rcounts_any l[k] p y _ (HPR.out.below (Fam.prop _)) hp HY.out))))
      refine wpQuiet_nil ?_
      rintro _ ⟨z1, rfl⟩
      have HB5 := Lib.hid (below_next HBW.out (Nat.le_refl _) z1.prop)
      have HB6 := Lib.hid (below_next HBB.out (Nat.le_refl _) z1.prop)
      clear F00 F01 F02 F03 F04 F05 D0 D1 D2 D3 D4
      rcases y with _ | _
      · go_wp2_with fail
        go_roundw
        case rel => exact ⟨k + 1, by omega, by go_num, Lib.hid (fun j hj hjk => by
          rcases Nat.lt_or_eq_of_le (Nat.lt_succ_iff.1 hjk) with h' | rfl
          · exact HA.out j hj h'
          · exact HY.out), HB5.out⟩
        case measure => simp [intOf]; omega
      · have HX2 : Hid (true = x) := Lib.hid (by rw [← HX.out]; exact (List.any_eq_true.2 ⟨_, List.getElem_mem hkl, HY.out⟩).symm)
        go_wp2_with fail
        go_ret
        exact ⟨ret_bool HX2.out, HB6.out⟩
    · have HX2 : Hid (false = x) := Lib.hid (by
        rw [← HX.out]; symm
        unfold countsB
        rw [List.any_eq_false]
        intro f hf
        obtain ⟨j, hj, rfl⟩ := List.getElem_of_mem hf
        rw [HA.out j hj (by have := HL.out; omega)]; decide)
      go_wp2_with fail
      go_ret
      exact ⟨ret_bool HX2.out, HBB.out⟩
end Go.Proofs.Ytdgdjlpbnaoheaa
