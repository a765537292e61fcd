/- The reference's New, and the law's plain: the walks. -/
import Derived.Test.YthbmofijdhfeeaaRefD
import Derived.Test.YthbmofijdhfeeaaLawsA
import Derived.Test.YthbmofijdhfeeaaMix
import Derived.Deep.CutRange
namespace Go.Proofs.Ythbmofijdhfeeaa
open Go.RowKit Go.Maps Go.WideMaps
/-- A store of the reference comes back, or an empty one with the error. -/
def RetRNew (w : World) (x : Int) (s : List Lt) (e : Ending) (w' : World) : Prop :=
  ∃ A n c A' c', e = .returned (.tuple #[.agg #[.slice A n c, .slice A' n c'], .int .i64 x]) ∧ (x = 0 → RefS w' A n A' s) ∧ Below w.heap.size w w'
theorem RefS.nil (w : World) : RefS w none 0 none [] := ⟨Reads.none_, Reads.none_, rfl⟩
theorem store_two {w : World} {g : Nat} {a b : Value} (h : Blk w g 30 #[a, b]) (x y : Value) : Blk ((w.setCell ⟨g, 0, none⟩ x).setCell ⟨g, 1, none⟩ y) g 30 #[x, y] := (h.set_ 0 x).set_ 1 y
theorem only_two (w : World) (g : Nat) (x y : Value) : Only (fun k => k = g) w ((w.setCell ⟨g, 0, none⟩ x).setCell ⟨g, 1, none⟩ y) := ((Only.refl (fun k => k = g) w).setCell (p := ⟨g, 0, none⟩) (fun _ => rfl) _).setCell (p := ⟨g, 1, none⟩) (fun _ => rfl) _
theorem apart_new {w : World} {A A' : Option Addr} {n : Nat} {l : List Lt} (h : RefS w A n A' l) (h0 : 0 < n ∨ (A = none ∧ A' = none)) : Apart w.heap.size A ∧ Apart w.heap.size A' := by
  rcases h0 with h0 | ⟨rfl, rfl⟩
  · exact ⟨h.1.apart h0 (Nat.le_refl _), h.2.1.apart h0 (Nat.le_refl _)⟩
  · exact ⟨(fun q e => nomatch e), (fun q e => nomatch e)⟩
set_option maxHeartbeats 4000000 in
set_option maxRecDepth 10000 in
theorem rnew_any (A : Option Addr) (n c : Nat) (l : List L4) (x : Int) (s : List Lt) (w : World) (hr : Reads w w.heap.size 4 A n (cellsL l)) (hn : n ≤ 100000) (h : newR [] l = (x, s)) :
    Calls Try.prog 12 #[.slice A n c] w (RetRNew w x s) := by
  have HL := Lib.hid (recs_len hr encL_len (by omega))
  have HN := Lib.hid h
  clear h
  go_enter Try.func12, Try.ntmps12
  go_upto_region 3 with fail
  obtain ⟨v1, hv1⟩ : ∃ v, (w.alloc (.cells #[.slice none 0 0, .slice none 0 0] 30)).alloc (.cells #[.slice none 0 0, .slice none 0 0] 30) = v := ⟨_, rfl⟩
  have HR1 : Hid (Blk v1 w.heap.size 30 #[.slice none 0 0, .slice none 0 0]) := Lib.hid (by rw [← hv1]; exact (Blk.new w _ _).alloc _)
  have HS1 : Hid (Blk v1 (w.heap.size + 1) 30 #[.slice none 0 0, .slice none 0 0]) := Lib.hid (by
    rw [← hv1]
    have := Blk.new (w.alloc (.cells #[.slice none 0 0, .slice none 0 0] 30)) 30 #[.slice none 0 0, .slice none 0 0]
    simpa using this)
  have HB1 : Hid (Below w.heap.size w v1) := Lib.hid (by rw [← hv1]; exact ((Below.refl _ _).alloc (Nat.le_refl _) _).alloc (by simp) _)
  rw [hv1]
  clear hv1
  go_wp2_with fail
  go_loopw [5] (fun s5 wr => ∃ (k n2 c2 c2' : Nat) (A2 A2' : Option Addr) (t : List Lt), k ≤ n ∧ s5 = .int .i64 k ∧ Hid (newR t (l.drop k) = (x, s)) ∧ Hid (RefS wr A2 n2 A2' t) ∧ Hid (fine t) ∧ Hid (Blk wr (w.heap.size + 1) 30 #[.slice A2 n2 c2, .slice A2' n2 c2']) ∧ Hid (Blk wr w.heap.size 30 #[.slice none 0 0, .slice none 0 0]) ∧ Hid (Below w.heap.size w wr) ∧ Hid (Apart (w.heap.size + 1) A2 ∧ Apart (w.heap.size + 1) A2' ∧ Apart w.heap.size A2 ∧ Apart w.heap.size A2' ∧ (0 < n2 ∨ (A2 = none ∧ A2' = none)))) (fun s _ => n - (intOf s).toNat)
  case atStart => exact ⟨0, 0, 0, 0, none, none, [], Nat.zero_le _, rfl, HN, Lib.hid (RefS.nil _), Lib.hid fine_nil, HS1, HR1, HB1, Lib.hid ⟨(fun q e => nomatch e), (fun q e => nomatch e), (fun q e => nomatch e), (fun q e => nomatch e), .inr ⟨rfl, rfl⟩⟩⟩
  case round =>
    obtain ⟨wo, rfl⟩ : ∃ wo : World, wo = wr := ⟨_, rfl⟩
    obtain ⟨k, n2, c2, c2', A2, A2', t, hk, rfl, HRN, HRS, HFI, HS, HR, HB, HAP⟩ := hrel
    have hn2 : n2 ≤ 512 := by have := HFI.out.1; have := HRS.out.2.2; omega
    have HSL := Lib.hid HS.out.lt
    by_cases hlt : k < n
    · have hkl : k < l.length := by have := HL.out; omega
      obtain ⟨b, off, rfl, hb2, hcc⟩ := (hr.below HB.out).recs encL_len (by omega) (by omega)
      have d0 : wo.cell? ⟨b, off + k * 4, none⟩ = some (.int .i64 l[k].1) := hcc k hkl 0 _ rfl
      have d1 : wo.cell? ⟨b, off + k * 4 + 1, none⟩ = some (.int .i64 l[k].2.1) := hcc k hkl 1 _ rfl
      have d2 : wo.cell? ⟨b, off + k * 4 + 2, none⟩ = some (.int .i64 l[k].2.2.1) := hcc k hkl 2 _ rfl
      have d3 : wo.cell? ⟨b, off + k * 4 + 3, none⟩ = some (.int .i64 l[k].2.2.2) := hcc k hkl 3 _ rfl
      have F0 : ∀ z : DFam (DB wo), z.val.cell? ⟨b, off + k * 4, none⟩ = some (.int .i64 l[k].1) := fun z => DB.some_ z d0
      have F1 : ∀ z : DFam (DB wo), z.val.cell? ⟨b, off + k * 4 + 1, none⟩ = some (.int .i64 l[k].2.1) := fun z => DB.some_ z d1
      have F2 : ∀ z : DFam (DB wo), z.val.cell? ⟨b, off + k * 4 + 2, none⟩ = some (.int .i64 l[k].2.2.1) := fun z => DB.some_ z d2
      have F3 : ∀ z : DFam (DB wo), z.val.cell? ⟨b, off + k * 4 + 3, none⟩ = some (.int .i64 l[k].2.2.2) := fun z => DB.some_ z d3
      have G0 : ∀ z : DFam (DB wo), z.val.cell? ⟨w.heap.size + 1, 0, none⟩ = some (.slice A2 n2 c2) := fun z => DB.some_ z ((HS.out.cell 0).trans rfl)
      have G1 : ∀ z : DFam (DB wo), z.val.cell? ⟨w.heap.size + 1, 1, none⟩ = some (.slice A2' n2 c2') := fun z => DB.some_ z ((HS.out.cell 1).trans rfl)
      have hk0 : (0 : Int) ≤ k := by omega
      have hk1 : (k : Int) < n := by omega
      clear hcc d0 d1 d2 d3
      obtain ⟨y, hy⟩ : ∃ y, addE t l[k] = y := ⟨_, rfl⟩
      have HY := Lib.hid hy
      clear hy
      go_wp2_with fail
      refine wp_region_pb 3 ([0, 1, 2, 3, 4], [(5, ([6, 7, 8], [(9, ([], [(10, [])]))])), (9, ([], [(5, ([6, 7, 8], [(10, [])]))]))]) [11] (by kernel_rfl) (by kernel_rfl) ?_
      simp only [wpT, List.map_cons, List.map_nil, List.getD_cons_succ, List.getD_cons_zero, List.forall_mem_cons, List.not_mem_nil, false_implies, implies_true, and_true]
      repeat (go_big_quiet_step (fail))
      refine wpQuiet_nil ⟨?_, ?_⟩
      case' refine_1 =>
        clear F0 F1 F2 F3 G0 G1
        go_wp2_with fail
        refine (radd_any A2 A2' n2 c2 c2' t _ l[k].1 l[k].2.1 l[k].2.2.1 l[k].2.2.2 y wo.drew HRS.out hn2 HY.out rfl).mono ?_
        rintro e w2 ⟨A3, n3, c3, A3', c3', rfl, hrs3, hf3, hf3', hb3, _⟩
        have HB3 : Hid (Below wo.heap.size wo w2) := Lib.hid ((Below.refl _ _).drew.trans hb3)
        go_wp2_with fail
        refine QN_normal ⟨HB3.out, ?_⟩
        repeat (go_big_quiet_step (fail))
        refine wpQuiet_nil ?_
        go_wp2_with fail
        refine QN_normal ⟨HB3.out.alloc HB3.out.size _, wpQuiet_nil ?_⟩
        go_wp2_with fail
        obtain ⟨u4, hu4⟩ : ∃ u, w2.alloc (.cells #[.slice A3 n3 c3, .slice A3' n3 c3'] 30) = u := ⟨_, rfl⟩
        have HB4 : Hid (Below wo.heap.size wo u4) := Lib.hid (by rw [← hu4]; exact HB3.out.alloc HB3.out.size _)
        obtain ⟨g6, hg6⟩ : ∃ g, w2.heap.size = g := ⟨_, rfl⟩
        have HG6 : Hid (Blk u4 g6 30 #[.slice A3 n3 c3, .slice A3' n3 c3']) := Lib.hid (by rw [← hu4, ← hg6]; exact Blk.new _ _ _)
        have HR4 : Hid (RefS u4 A3 n3 A3' (addL t l[k])) := Lib.hid (by rw [← hu4]; exact hrs3.below (below_alloc (Below.refl _ _) (Nat.le_refl _) _))
        have HFA : Hid (From wo.heap.size A2 A3) := Lib.hid hf3; have HFA' : Hid (From wo.heap.size A2' A3') := Lib.hid hf3'
        rw [hg6, hu4]
        clear hu4 hg6 hrs3 hf3 hf3' hb3
        refine QN_normal ⟨HB4.out, wpQuiet_nil ?_⟩
        clear HB3
      case' refine_2 =>
        clear F0 F1 F2 F3 G0 G1
        go_wp2_with fail
        have HB0 : Hid (Below wo.heap.size wo (wo.drew.alloc (.cells #[.slice none 0 0, .slice none 0 0] 30))) := Lib.hid ((Below.refl _ _).drew.alloc (Nat.le_refl _) _)
        have HAN := Lib.hid (apart_new HRS.out HAP.out.2.2.2.2)
        refine QN_normal ⟨HB0.out, wpQuiet_nil ?_⟩
        go_wp2_with fail
        refine (radd_any A2 A2' n2 c2 c2' t _ l[k].1 l[k].2.1 l[k].2.2.1 l[k].2.2.2 y (wo.drew.alloc (.cells #[.slice none 0 0, .slice none 0 0] 30)) (HRS.out.below HB0.out) hn2 HY.out rfl).mono ?_
        rintro e w2 ⟨A3, n3, c3, A3', c3', rfl, hrs3, hf3, hf3', hb3, _⟩
        have HB3 : Hid (Below wo.heap.size wo w2) := Lib.hid (below_next HB0.out (Nat.le_refl _) hb3)
        have hG0 : Blk (wo.drew.alloc (.cells #[.slice none 0 0, .slice none 0 0] 30)) wo.heap.size 30 #[.slice none 0 0, .slice none 0 0] := Blk.new wo.drew _ _
        have hG3 := hG0.below hb3 hG0.lt
        have HG3 := Lib.hid hG3
        have HFA : Hid (From wo.heap.size A2 A3) := Lib.hid (hf3.mono HB0.out.size)
        have HFA' : Hid (From wo.heap.size A2' A3') := Lib.hid (hf3'.mono HB0.out.size)
        have HRF : Hid (RefS ((w2.setCell ⟨wo.heap.size, 0, none⟩ (.slice A3 n3 c3)).setCell ⟨wo.heap.size, 1, none⟩ (.slice A3' n3 c3')) A3 n3 A3' (addL t l[k])) := Lib.hid (hrs3.far2 (HAN.out.1.from_ hf3 (by simp)) (HAN.out.2.from_ hf3' (by simp)) _ _)
        go_wp2_with fail
        refine QN_normal ⟨HB3.out, ?_⟩
        repeat (go_big_quiet_step (fail))
        refine wpQuiet_nil ?_
        have p0 := (hG3.cell 0).trans rfl; have p1 := (hG3.cell 1).trans rfl; have y0 := hG3.frozen 0; have y1 := hG3.frozen 1
        clear hG0 hG3 hrs3 hf3 hf3' hb3
        go_wp2_with fail
        clear p0 p1 y0 y1
        obtain ⟨u4, hu4⟩ : ∃ u, (w2.setCell ⟨wo.heap.size, 0, none⟩ (.slice A3 n3 c3)).setCell ⟨wo.heap.size, 1, none⟩ (.slice A3' n3 c3') = u := ⟨_, rfl⟩
        have HB4 : Hid (Below wo.heap.size wo u4) := Lib.hid (by rw [← hu4]; exact set2_below _ _ HB3.out (Nat.le_refl _))
        obtain ⟨g6, hg6⟩ : ∃ g, wo.heap.size = g := ⟨_, rfl⟩
        have HG6 : Hid (Blk u4 g6 30 #[.slice A3 n3 c3, .slice A3' n3 c3']) := Lib.hid (by rw [← hu4, ← hg6]; exact store_two HG3.out _ _)
        have HR4 : Hid (RefS u4 A3 n3 A3' (addL t l[k])) := Lib.hid (by rw [← hu4]; exact HRF.out)
        rw [hu4]
        have HGW := Lib.hid hg6
        clear hu4 hg6 HRF HG3 HB0 HAN
        refine QN_normal ⟨HB4.out, wpQuiet_nil ?_⟩
        rw [HGW.out] 
        clear HB3
      all_goals
        have HSB := Lib.hid (HS.out.below HB4.out HS.out.lt)
        have HRB := Lib.hid (HR.out.below HB4.out HR.out.lt)
        have HBW := Lib.hid (below_next HB.out (Nat.le_refl _) HB4.out)
        have p0 := (HG6.out.cell 0).trans rfl; have p1 := (HG6.out.cell 1).trans rfl
        by_cases h0 : y = 0
        case pos =>
          subst h0
          have HR2 : Hid (newR (addL t l[k]) (l.drop (k + 1)) = (x, s)) := Lib.hid ((newR_ok hkl HY.out).symm.trans HRN.out)
          have HN3 : Hid (0 < n3) := Lib.hid (by
            have h1 := HR4.out.2.2
            have h2 : (addL t l[k]).length = t.length + 1 := by unfold addL; rw [if_pos HY.out]; simp
            omega)
          have z0 := HSB.out.frozen 0; have z1 := HSB.out.frozen 1
          have s0 := (HSB.out.cell 0).trans rfl; have s1 := (HSB.out.cell 1).trans rfl
          obtain ⟨u5, hu5⟩ : ∃ u, (u4.setCell ⟨w.heap.size + 1, 0, none⟩ (.slice A3 n3 c3)).setCell ⟨w.heap.size + 1, 1, none⟩ (.slice A3' n3 c3') = u := ⟨_, rfl⟩
          have HS5 : Hid (Blk u5 (w.heap.size + 1) 30 #[.slice A3 n3 c3, .slice A3' n3 c3']) := Lib.hid (by rw [← hu5]; exact store_two HSB.out _ _)
          have HR5 : Hid (Blk u5 w.heap.size 30 #[.slice none 0 0, .slice none 0 0]) := Lib.hid (by rw [← hu5]; exact (HRB.out.far (by simp) _).far (by simp) _)
          have HW5 : Hid (Below w.heap.size w u5) := Lib.hid (by rw [← hu5]; exact set2_below _ _ HBW.out (by omega))
          have HSS : w.heap.size + 1 < wo.heap.size := HS.out.lt
          have HA3 : Hid (Apart (w.heap.size + 1) A3 ∧ Apart (w.heap.size + 1) A3' ∧ Apart w.heap.size A3 ∧ Apart w.heap.size A3' ∧ (0 < n3 ∨ (A3 = none ∧ A3' = none))) := Lib.hid ⟨HAP.out.1.from_ HFA.out HSS, HAP.out.2.1.from_ HFA'.out HSS, HAP.out.2.2.1.from_ HFA.out (by omega), HAP.out.2.2.2.1.from_ HFA'.out (by omega), .inl HN3.out⟩
          have HF5 : Hid (RefS u5 A3 n3 A3' (addL t l[k])) := Lib.hid (by rw [← hu5]; exact HR4.out.far2 HA3.out.1 HA3.out.2.1 _ _)
          have HU5 := Lib.hid hu5
          clear hu5
          go_wp2_with fail
          rw [HU5.out]
          go_roundw
          case rel => exact ⟨k + 1, n3, c3, c3', A3, A3', _, by omega, by go_num, HR2, HF5, Lib.hid (fine_add HFI.out), HS5, HR5, HW5, HA3⟩
          case measure => simp [intOf]; omega
        case neg =>
          have h1 := ne0_t h0
          have HX : Hid (y = x) := Lib.hid (by
            have := (newR_no hkl (by rw [HY.out]; exact h0)).symm.trans HRN.out
            rw [HY.out] at this
            injection this with e1 e2)
          have H0 := Lib.hid h0
          have z0 := HRB.out.frozen 0; have z1 := HRB.out.frozen 1
          have s0 := (HRB.out.cell 0).trans rfl; have s1 := (HRB.out.cell 1).trans rfl
          obtain ⟨u5, hu5⟩ : ∃ u, (u4.setCell ⟨w.heap.size, 0, none⟩ (.slice none 0 0)).setCell ⟨w.heap.size, 1, none⟩ (.slice none 0 0) = u := ⟨_, rfl⟩
          have HR5 : Hid (Blk u5 w.heap.size 30 #[.slice none 0 0, .slice none 0 0]) := Lib.hid (by rw [← hu5]; exact store_two HRB.out _ _)
          have HW5 : Hid (Below w.heap.size w u5) := Lib.hid (by rw [← hu5]; exact set2_below _ _ HBW.out (Nat.le_refl _))
          have HU5 := Lib.hid hu5
          clear h0 hu5
          go_wp2_with fail
          rw [HU5.out]
          have q0 := (HR5.out.cell 0).trans rfl; have q1 := (HR5.out.cell 1).trans rfl
          exact bodyPost_ret (v := .tuple #[.agg #[.slice none 0 0, .slice none 0 0], .int .i64 y]) (by simp [results, Try.results12, go_sem, q0, q1]) rfl ⟨none, 0, 0, none, 0, by rw [HX.out], fun e => absurd (HX.out.trans e) H0.out, HW5.out⟩
    · have HX : Hid (0 = x ∧ t = s) := Lib.hid (by
        have := (newR_end (s := t) (by have := HL.out; omega)).symm.trans HRN.out
        injection this with e1 e2
        exact ⟨e1, e2⟩)
      have z0 := HR.out.frozen 0; have z1 := HR.out.frozen 1
      have s0 := (HS.out.cell 0).trans rfl; have s1 := (HS.out.cell 1).trans rfl
      have r0 := (HR.out.cell 0).trans rfl; have r1 := (HR.out.cell 1).trans rfl
      obtain ⟨u5, hu5⟩ : ∃ u, (wo.setCell ⟨w.heap.size, 0, none⟩ (.slice A2 n2 c2)).setCell ⟨w.heap.size, 1, none⟩ (.slice A2' n2 c2') = u := ⟨_, rfl⟩
      have HR5 : Hid (Blk u5 w.heap.size 30 #[.slice A2 n2 c2, .slice A2' n2 c2']) := Lib.hid (by rw [← hu5]; exact store_two HR.out _ _)
      have HW5 : Hid (Below w.heap.size w u5) := Lib.hid (by rw [← hu5]; exact set2_below _ _ HB.out (Nat.le_refl _))
      have HF5 : Hid (RefS u5 A2 n2 A2' s) := Lib.hid (by rw [← hu5, ← HX.out.2]; exact HRS.out.far2 HAP.out.2.2.1 HAP.out.2.2.2.1 _ _)
      have HU5 := Lib.hid hu5
      clear hu5
      go_wp2_with fail
      rw [HU5.out]
      have q0 := (HR5.out.cell 0).trans rfl; have q1 := (HR5.out.cell 1).trans rfl
      exact bodyPost_ret (v := .tuple #[.agg #[.slice A2 n2 c2, .slice A2' n2 c2'], .int .i64 0]) (by simp [results, Try.results12, go_sem, q0, q1]) rfl ⟨A2, n2, c2, A2', c2', by rw [HX.out.1], fun _ => HF5.out, HW5.out⟩
/-! plain. -/
theorem apart_cells {w : World} {g : Nat} {a1 b1 : Option Addr} {a2 a3 b2 b3 : Nat} {A A' : Option Addr} {n : Nat} {l : List Lt} (hB : Blk w g 30 #[.slice a1 a2 a3, .slice b1 b2 b3]) (h : RefS w A n A' l) (hn : 0 < n) : Apart g A ∧ Apart g A' := by
  have key : ∀ (off : Nat) (x : Int), w.cell? ⟨g, off, none⟩ ≠ some (.int .i64 x) := fun off x e => by
    rw [hB.cell] at e
    match off with
    | 0 => cases e
    | 1 => cases e
    | off + 2 => simp at e
  have hl : 0 < l.length := by rw [h.2.2]; exact hn
  obtain ⟨b, off, rfl, _, h1⟩ := h.lot hn
  obtain ⟨b', off', rfl, _, h2⟩ := h.left hn
  refine ⟨Apart.some_ fun e => ?_, Apart.some_ fun e => ?_⟩
  · subst e; exact key _ _ (h1 0 hl).1
  · subst e; exact key _ _ (h2 0 hl)
theorem RefS.zero {w w' : World} {A A' : Option Addr} {n : Nat} {l : List Lt} (h : RefS w A n A' l) (h0 : n = 0) : RefS w' A n A' l := by
  subst h0
  exact ⟨⟨h.1.1, fun h => absurd h (by omega)⟩, ⟨h.2.1.1, fun h => absurd h (by omega)⟩, h.2.2⟩
theorem RefS.store {w : World} {g : Nat} {a1 b1 : Option Addr} {a2 a3 b2 b3 : Nat} {A A' : Option Addr} {n : Nat} {l : List Lt} (h : RefS w A n A' l) (hB : Blk w g 30 #[.slice a1 a2 a3, .slice b1 b2 b3]) (u v : Value) : RefS ((w.setCell ⟨g, 0, none⟩ u).setCell ⟨g, 1, none⟩ v) A n A' l := by
  rcases Nat.eq_zero_or_pos n with h0 | h0
  · exact h.zero h0
  · have := apart_cells hB h h0
    exact h.far2 this.1 this.2 _ _
/-- The next store of the reference, what was taken, the error. -/
def RetPl (w : World) (A A' : Option Addr) (l : List Lt) (o : List T2) (x : Int) (e : Ending) (w' : World) : Prop :=
  ∃ A2 n c A2' c' Ao no co, e = .returned (.tuple #[.agg #[.slice A2 n c, .slice A2' n c'], .slice Ao no co, .int .i64 x]) ∧ RefS w' A2 n A2' l ∧ w'.ownsRow w.heap.size 58 2 (.slice Ao no co) no (cellsT o) ∧ Below w.heap.size w w' ∧ From w.heap.size A A2 ∧ From w.heap.size A' A2' ∧ (0 < n ∨ (A2 = A ∧ A2' = A'))
theorem own_two {w : World} {base g : Nat} {v : Value} {n : Nat} {xs : List Value} (h : w.ownsRow base 58 2 v n xs) (hg : g < base) (x y : Value) : ((w.setCell ⟨g, 0, none⟩ x).setCell ⟨g, 1, none⟩ y).ownsRow base 58 2 v n xs :=
  (only_two w g x y).own h fun k hk e => by
    have := (h.lt k hk).1
    omega
set_option maxHeartbeats 4000000 in
set_option maxRecDepth 10000 in
theorem rplain_add (A A' : Option Addr) (n c c' : Nat) (l m' : List Lt) (a b cc d x : Int) (w : World) (h : RefS w A n A' l) (hf : fine l) (hx : addE l (a, b, cc, d) = x) (hm : addL l (a, b, cc, d) = m') :
    Calls Try.prog 20 #[.agg #[.slice A n c, .slice A' n c'], .agg #[.int .u8 0, .int .i64 a, .int .i64 b, .int .i64 cc, .int .i64 d]] w (RetPl w A A' m' [] x) := by
  have HX := Lib.hid hx; have HM := Lib.hid hm; have HFI := Lib.hid hf; have HH := Lib.hid h
  clear hx hm hf h
  go_enter Try.func20, Try.ntmps20
  obtain ⟨v1, hv1⟩ : ∃ v, ((w.alloc (.cells #[.slice A n c, .slice A' n c'] 30)).alloc (.cells #[.int .u8 0, .int .i64 a, .int .i64 b, .int .i64 cc, .int .i64 d] 49)).alloc (.cells #[.slice none 0 0, .slice none 0 0] 30) = v := ⟨_, rfl⟩
  have HB2 : Hid (Blk v1 w.heap.size 30 #[.slice A n c, .slice A' n c']) := Lib.hid (by rw [← hv1]; exact ((Blk.new w _ _).alloc _).alloc _)
  have HB3 : Hid (Blk v1 (w.heap.size + 1) 49 #[.int .u8 0, .int .i64 a, .int .i64 b, .int .i64 cc, .int .i64 d]) := Lib.hid (by
    rw [← hv1]
    have := (Blk.new (w.alloc (.cells #[.slice A n c, .slice A' n c'] 30)) 49 #[.int .u8 0, .int .i64 a, .int .i64 b, .int .i64 cc, .int .i64 d]).alloc (.cells #[.slice none 0 0, .slice none 0 0] 30)
    simpa using this)
  have HB4 : Hid (Blk v1 (w.heap.size + 1 + 1) 30 #[.slice none 0 0, .slice none 0 0]) := Lib.hid (by
    rw [← hv1]
    have := Blk.new ((w.alloc (.cells #[.slice A n c, .slice A' n c'] 30)).alloc (.cells #[.int .u8 0, .int .i64 a, .int .i64 b, .int .i64 cc, .int .i64 d] 49)) 30 #[.slice none 0 0, .slice none 0 0]
    simpa using this)
  have HW1 : Hid (Below w.heap.size w v1) := Lib.hid (by rw [← hv1]; exact ((((Below.refl _ _).alloc (Nat.le_refl _) _).alloc (by simp) _).alloc (by simp; omega) _))
  have HSZ : Hid (w.heap.size + 1 + 1 < v1.heap.size) := Lib.hid HB4.out.lt
  have HH1 := Lib.hid (HH.out.below HW1.out)
  go_upto_region 1 with fail
  clear hv1
  have b0 := (HB2.out.cell 0).trans rfl; have b1 := (HB2.out.cell 1).trans rfl
  have o0 := (HB3.out.cell 0).trans rfl; have o1 := (HB3.out.cell 1).trans rfl; have o2 := (HB3.out.cell 2).trans rfl; have o3 := (HB3.out.cell 3).trans rfl; have o4 := (HB3.out.cell 4).trans rfl
  go_wp2_with fail
  refine (radd_any A A' n c c' l m' a b cc d x v1 HH1.out (by have := HFI.out.1; have := HH.out.2.2; omega) HX.out HM.out).mono ?_
  rintro e w2 ⟨A2, n2, c2, A2', c2', rfl, hrs, hfa, hfb, hb2, hz⟩
  have HR2 := Lib.hid (HB4.out.below hb2 HB4.out.lt)
  have HW2 := Lib.hid (below_next HW1.out (Nat.le_refl _) hb2)
  have HSW : Hid (w.heap.size + 1 + 1 < w2.heap.size) := Lib.hid HR2.out.lt
  have HFA := Lib.hid (hfa.mono HW1.out.size); have HFB := Lib.hid (hfb.mono HW1.out.size); have HZ := Lib.hid hz
  clear hfa hfb hz
  have hsw := HSW.out
  obtain ⟨u3, hu3⟩ : ∃ u, w2.alloc (.cells #[.slice A2 n2 c2, .slice A2' n2 c2'] 30) = u := ⟨_, rfl⟩
  have HR3 : Hid (Blk u3 (w.heap.size + 1 + 1) 30 #[.slice none 0 0, .slice none 0 0]) := Lib.hid (by rw [← hu3]; exact HR2.out.alloc _)
  have HG3 : Hid (Blk u3 w2.heap.size 30 #[.slice A2 n2 c2, .slice A2' n2 c2']) := Lib.hid (by rw [← hu3]; exact Blk.new _ _ _)
  have HRS3 : Hid (RefS u3 A2 n2 A2' m') := Lib.hid (by rw [← hu3]; exact hrs.below (below_alloc (Below.refl _ _) (Nat.le_refl _) _))
  have HW3 : Hid (Below w.heap.size w u3) := Lib.hid (by rw [← hu3]; exact HW2.out.alloc HW2.out.size _)
  clear b0 b1 o0 o1 o2 o3 o4 hrs hb2
  go_upto_region 4 with fail
  clear hu3
  have z0 := HR3.out.frozen 0; have z1 := HR3.out.frozen 1
  have r0 := (HR3.out.cell 0).trans rfl; have r1 := (HR3.out.cell 1).trans rfl
  have p0 := (HG3.out.cell 0).trans rfl; have p1 := (HG3.out.cell 1).trans rfl
  obtain ⟨u5, hu5⟩ : ∃ u, (u3.setCell ⟨w.heap.size + 1 + 1, 0, none⟩ (.slice A2 n2 c2)).setCell ⟨w.heap.size + 1 + 1, 1, none⟩ (.slice A2' n2 c2') = u := ⟨_, rfl⟩
  have HR5 : Hid (Blk u5 (w.heap.size + 1 + 1) 30 #[.slice A2 n2 c2, .slice A2' n2 c2']) := Lib.hid (by rw [← hu5]; exact store_two HR3.out _ _)
  have HW5 : Hid (Below w.heap.size w u5) := Lib.hid (by rw [← hu5]; exact set2_below _ _ HW3.out (by omega))
  have HF5 : Hid (RefS u5 A2 n2 A2' m') := Lib.hid (by rw [← hu5]; exact HRS3.out.store HR3.out _ _)
  have HU5 := Lib.hid hu5
  clear hu5
  go_wp2_with fail
  rw [HU5.out]
  have q0 := (HR5.out.cell 0).trans rfl; have q1 := (HR5.out.cell 1).trans rfl
  exact bodyPost_ret (v := .tuple #[.agg #[.slice A2 n2 c2, .slice A2' n2 c2'], .slice none 0 0, .int .i64 x]) (by simp [results, Try.results20, go_sem, q0, q1]) rfl ⟨A2, n2, c2, A2', c2', none, 0, 0, rfl, HF5.out, World.ownsRow_nil _ _ _ _, HW5.out, HFA.out, HFB.out, HZ.out⟩
set_option maxHeartbeats 4000000 in
set_option maxRecDepth 10000 in
theorem rplain_take (A A' : Option Addr) (n c c' : Nat) (l m' : List Lt) (a b cc d x : Int) (o : List T2) (w : World) (h : RefS w A n A' l) (hf : fine l) (hx : takeE l b cc = x) (hm : tookX l b cc = m') (ho : tookO l b cc = o) :
    Calls Try.prog 20 #[.agg #[.slice A n c, .slice A' n c'], .agg #[.int .u8 1, .int .i64 a, .int .i64 b, .int .i64 cc, .int .i64 d]] w (RetPl w A A' m' o x) := by
  have HX := Lib.hid hx; have HM := Lib.hid hm; have HFI := Lib.hid hf; have HH := Lib.hid h
  clear hx hm hf h
  have HO := Lib.hid ho
  clear ho
  go_enter Try.func20, Try.ntmps20
  obtain ⟨v1, hv1⟩ : ∃ v, ((w.alloc (.cells #[.slice A n c, .slice A' n c'] 30)).alloc (.cells #[.int .u8 1, .int .i64 a, .int .i64 b, .int .i64 cc, .int .i64 d] 49)).alloc (.cells #[.slice none 0 0, .slice none 0 0] 30) = v := ⟨_, rfl⟩
  have HB2 : Hid (Blk v1 w.heap.size 30 #[.slice A n c, .slice A' n c']) := Lib.hid (by rw [← hv1]; exact ((Blk.new w _ _).alloc _).alloc _)
  have HB3 : Hid (Blk v1 (w.heap.size + 1) 49 #[.int .u8 1, .int .i64 a, .int .i64 b, .int .i64 cc, .int .i64 d]) := Lib.hid (by
    rw [← hv1]
    have := (Blk.new (w.alloc (.cells #[.slice A n c, .slice A' n c'] 30)) 49 #[.int .u8 1, .int .i64 a, .int .i64 b, .int .i64 cc, .int .i64 d]).alloc (.cells #[.slice none 0 0, .slice none 0 0] 30)
    simpa using this)
  have HB4 : Hid (Blk v1 (w.heap.size + 1 + 1) 30 #[.slice none 0 0, .slice none 0 0]) := Lib.hid (by
    rw [← hv1]
    have := Blk.new ((w.alloc (.cells #[.slice A n c, .slice A' n c'] 30)).alloc (.cells #[.int .u8 1, .int .i64 a, .int .i64 b, .int .i64 cc, .int .i64 d] 49)) 30 #[.slice none 0 0, .slice none 0 0]
    simpa using this)
  have HW1 : Hid (Below w.heap.size w v1) := Lib.hid (by rw [← hv1]; exact ((((Below.refl _ _).alloc (Nat.le_refl _) _).alloc (by simp) _).alloc (by simp; omega) _))
  have HSZ : Hid (w.heap.size + 1 + 1 < v1.heap.size) := Lib.hid HB4.out.lt
  have HH1 := Lib.hid (HH.out.below HW1.out)
  go_upto_region 1 with fail
  clear hv1
  have b0 := (HB2.out.cell 0).trans rfl; have b1 := (HB2.out.cell 1).trans rfl
  have o0 := (HB3.out.cell 0).trans rfl; have o1 := (HB3.out.cell 1).trans rfl; have o2 := (HB3.out.cell 2).trans rfl; have o3 := (HB3.out.cell 3).trans rfl; have o4 := (HB3.out.cell 4).trans rfl
  go_wp2_with fail
  refine (rtake_any A A' n c c' l m' b cc x o v1 HH1.out HFI.out HX.out HM.out HO.out).mono ?_
  rintro e w2 ⟨A2, n2, c2, A2', c2', Ao, no, co, rfl, hrs, hfa, hfb, hown, hb2, hz⟩
  have HR2 := Lib.hid (HB4.out.below hb2 HB4.out.lt)
  have HW2 := Lib.hid (below_next HW1.out (Nat.le_refl _) hb2)
  have HSW : Hid (w.heap.size + 1 + 1 < w2.heap.size) := Lib.hid HR2.out.lt
  have HFA := Lib.hid (hfa.mono HW1.out.size); have HFB := Lib.hid (hfb.mono HW1.out.size); have HZ := Lib.hid hz
  clear hfa hfb hz
  have HRS := Lib.hid hrs
  have z0 := HR2.out.frozen 0; have z1 := HR2.out.frozen 1
  have r0 := (HR2.out.cell 0).trans rfl; have r1 := (HR2.out.cell 1).trans rfl
  clear b0 b1 o0 o1 o2 o3 o4 hb2 hrs
  obtain ⟨u5, hu5⟩ : ∃ u, (w2.setCell ⟨w.heap.size + 1 + 1, 0, none⟩ (.slice A2 n2 c2)).setCell ⟨w.heap.size + 1 + 1, 1, none⟩ (.slice A2' n2 c2') = u := ⟨_, rfl⟩
  have HR5 : Hid (Blk u5 (w.heap.size + 1 + 1) 30 #[.slice A2 n2 c2, .slice A2' n2 c2']) := Lib.hid (by rw [← hu5]; exact store_two HR2.out _ _)
  have HW5 : Hid (Below w.heap.size w u5) := Lib.hid (by rw [← hu5]; exact set2_below _ _ HW2.out (by omega))
  have HF5 : Hid (RefS u5 A2 n2 A2' m') := Lib.hid (by rw [← hu5]; exact HRS.out.store HR2.out _ _)
  have HO5 : Hid (u5.ownsRow w.heap.size 58 2 (.slice Ao no co) no (cellsT o)) := Lib.hid (by rw [← hu5]; exact own_mono (own_two hown HSZ.out _ _) HW1.out.size)
  clear hown
  have HU5 := Lib.hid hu5
  clear hu5
  go_wp2_with fail
  rw [HU5.out]
  have q0 := (HR5.out.cell 0).trans rfl; have q1 := (HR5.out.cell 1).trans rfl
  exact bodyPost_ret (v := .tuple #[.agg #[.slice A2 n2 c2, .slice A2' n2 c2'], .slice Ao no co, .int .i64 x]) (by simp [results, Try.results20, go_sem, q0, q1]) rfl ⟨A2, n2, c2, A2', c2', Ao, no, co, rfl, HF5.out, HO5.out, HW5.out, HFA.out, HFB.out, HZ.out⟩
set_option maxHeartbeats 4000000 in
set_option maxRecDepth 10000 in
theorem rplain_back (A A' : Option Addr) (n c c' : Nat) (l m' : List Lt) (k a b cc d x : Int) (w : World) (h : RefS w A n A' l) (hf : fine l) (h0 : k ≠ 0) (h1 : k ≠ 1) (hx : backE l a cc = x) (hm : backL l a cc = m') :
    Calls Try.prog 20 #[.agg #[.slice A n c, .slice A' n c'], .agg #[.int .u8 k, .int .i64 a, .int .i64 b, .int .i64 cc, .int .i64 d]] w (RetPl w A A' m' [] x) := by
  have HX := Lib.hid hx; have HM := Lib.hid hm; have HFI := Lib.hid hf; have HH := Lib.hid h
  clear hx hm hf h
  have t0 : (k == 0) = false := eq0_f h0
  have t1 : (k == 1) = false := beq_eq_false_iff_ne.2 h1
  clear h0 h1
  go_enter Try.func20, Try.ntmps20
  obtain ⟨v1, hv1⟩ : ∃ v, ((w.alloc (.cells #[.slice A n c, .slice A' n c'] 30)).alloc (.cells #[.int .u8 k, .int .i64 a, .int .i64 b, .int .i64 cc, .int .i64 d] 49)).alloc (.cells #[.slice none 0 0, .slice none 0 0] 30) = v := ⟨_, rfl⟩
  have HB2 : Hid (Blk v1 w.heap.size 30 #[.slice A n c, .slice A' n c']) := Lib.hid (by rw [← hv1]; exact ((Blk.new w _ _).alloc _).alloc _)
  have HB3 : Hid (Blk v1 (w.heap.size + 1) 49 #[.int .u8 k, .int .i64 a, .int .i64 b, .int .i64 cc, .int .i64 d]) := Lib.hid (by
    rw [← hv1]
    have := (Blk.new (w.alloc (.cells #[.slice A n c, .slice A' n c'] 30)) 49 #[.int .u8 k, .int .i64 a, .int .i64 b, .int .i64 cc, .int .i64 d]).alloc (.cells #[.slice none 0 0, .slice none 0 0] 30)
    simpa using this)
  have HB4 : Hid (Blk v1 (w.heap.size + 1 + 1) 30 #[.slice none 0 0, .slice none 0 0]) := Lib.hid (by
    rw [← hv1]
    have := Blk.new ((w.alloc (.cells #[.slice A n c, .slice A' n c'] 30)).alloc (.cells #[.int .u8 k, .int .i64 a, .int .i64 b, .int .i64 cc, .int .i64 d] 49)) 30 #[.slice none 0 0, .slice none 0 0]
    simpa using this)
  have HW1 : Hid (Below w.heap.size w v1) := Lib.hid (by rw [← hv1]; exact ((((Below.refl _ _).alloc (Nat.le_refl _) _).alloc (by simp) _).alloc (by simp; omega) _))
  have HSZ : Hid (w.heap.size + 1 + 1 < v1.heap.size) := Lib.hid HB4.out.lt
  have HH1 := Lib.hid (HH.out.below HW1.out)
  go_upto_region 1 with fail
  clear hv1
  have b0 := (HB2.out.cell 0).trans rfl; have b1 := (HB2.out.cell 1).trans rfl
  have o0 := (HB3.out.cell 0).trans rfl; have o1 := (HB3.out.cell 1).trans rfl; have o2 := (HB3.out.cell 2).trans rfl; have o3 := (HB3.out.cell 3).trans rfl; have o4 := (HB3.out.cell 4).trans rfl
  go_wp2_with fail
  refine (rback_any A A' n c c' l m' a cc x v1 HH1.out HFI.out HX.out HM.out).mono ?_
  rintro e w2 ⟨A2, n2, c2, A2', c2', rfl, hrs, hfa, hfb, hb2, hz⟩
  have HR2 := Lib.hid (HB4.out.below hb2 HB4.out.lt)
  have HW2 := Lib.hid (below_next HW1.out (Nat.le_refl _) hb2)
  have HSW : Hid (w.heap.size + 1 + 1 < w2.heap.size) := Lib.hid HR2.out.lt
  have HFA := Lib.hid (hfa.mono HW1.out.size); have HFB := Lib.hid (hfb.mono HW1.out.size); have HZ := Lib.hid hz
  clear hfa hfb hz
  have hsw := HSW.out
  obtain ⟨u3, hu3⟩ : ∃ u, w2.alloc (.cells #[.slice A2 n2 c2, .slice A2' n2 c2'] 30) = u := ⟨_, rfl⟩
  have HR3 : Hid (Blk u3 (w.heap.size + 1 + 1) 30 #[.slice none 0 0, .slice none 0 0]) := Lib.hid (by rw [← hu3]; exact HR2.out.alloc _)
  have HG3 : Hid (Blk u3 w2.heap.size 30 #[.slice A2 n2 c2, .slice A2' n2 c2']) := Lib.hid (by rw [← hu3]; exact Blk.new _ _ _)
  have HRS3 : Hid (RefS u3 A2 n2 A2' m') := Lib.hid (by rw [← hu3]; exact hrs.below (below_alloc (Below.refl _ _) (Nat.le_refl _) _))
  have HW3 : Hid (Below w.heap.size w u3) := Lib.hid (by rw [← hu3]; exact HW2.out.alloc HW2.out.size _)
  clear b0 b1 o0 o1 o2 o3 o4 hrs hb2
  go_upto_region 8 with fail
  clear hu3
  have z0 := HR3.out.frozen 0; have z1 := HR3.out.frozen 1
  have r0 := (HR3.out.cell 0).trans rfl; have r1 := (HR3.out.cell 1).trans rfl
  have p0 := (HG3.out.cell 0).trans rfl; have p1 := (HG3.out.cell 1).trans rfl
  obtain ⟨u5, hu5⟩ : ∃ u, (u3.setCell ⟨w.heap.size + 1 + 1, 0, none⟩ (.slice A2 n2 c2)).setCell ⟨w.heap.size + 1 + 1, 1, none⟩ (.slice A2' n2 c2') = u := ⟨_, rfl⟩
  have HR5 : Hid (Blk u5 (w.heap.size + 1 + 1) 30 #[.slice A2 n2 c2, .slice A2' n2 c2']) := Lib.hid (by rw [← hu5]; exact store_two HR3.out _ _)
  have HW5 : Hid (Below w.heap.size w u5) := Lib.hid (by rw [← hu5]; exact set2_below _ _ HW3.out (by omega))
  have HF5 : Hid (RefS u5 A2 n2 A2' m') := Lib.hid (by rw [← hu5]; exact HRS3.out.store HR3.out _ _)
  have HU5 := Lib.hid hu5
  clear hu5
  go_wp2_with fail
  rw [HU5.out]
  have q0 := (HR5.out.cell 0).trans rfl; have q1 := (HR5.out.cell 1).trans rfl
  exact bodyPost_ret (v := .tuple #[.agg #[.slice A2 n2 c2, .slice A2' n2 c2'], .slice none 0 0, .int .i64 x]) (by simp [results, Try.results20, go_sem, q0, q1]) rfl ⟨A2, n2, c2, A2', c2', none, 0, 0, rfl, HF5.out, World.ownsRow_nil _ _ _ _, HW5.out, HFA.out, HFB.out, HZ.out⟩
theorem rplain_any (A A' : Option Addr) (n c c' : Nat) (l m' : List Lt) (k a b cc d x : Int) (o : List T2) (w : World) (h : RefS w A n A' l) (hf : fine l) (hx : doE l k (a, b, cc, d) = x) (hm : doL l k (a, b, cc, d) = m') (ho : doO l k (a, b, cc, d) = o) :
    Calls Try.prog 20 #[.agg #[.slice A n c, .slice A' n c'], .agg #[.int .u8 k, .int .i64 a, .int .i64 b, .int .i64 cc, .int .i64 d]] w (RetPl w A A' m' o x) := by
  by_cases h0 : k = 0
  · subst h0
    obtain rfl : o = [] := ho.symm.trans (by unfold doO; rw [if_neg (by decide)])
    exact rplain_add A A' n c c' l m' a b cc d x w h hf hx hm
  · by_cases h1 : k = 1
    · subst h1
      exact rplain_take A A' n c c' l m' a b cc d x o w h hf hx hm ho
    · obtain rfl : o = [] := ho.symm.trans (by unfold doO; rw [if_neg h1])
      exact rplain_back A A' n c c' l m' k a b cc d x w h hf h0 h1 (by unfold doE at hx; rwa [if_neg h0, if_neg h1] at hx) (by unfold doL at hm; rwa [if_neg h0, if_neg h1] at hm)
end Go.Proofs.Ythbmofijdhfeeaa
