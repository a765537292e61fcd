/- The walk of Post. -/
import Derived.Test.YtoammbjnejdgpaaLdF
namespace Go.Proofs.Ytoammbjnejdgpaa
open Go.RowKit
/-- A number comes back; the ledger is now so. -/
def PostL (w : World) (F R : Nat → Prop) (g : Nat) (acc x : Int) (d : List Dt) (e : Ending) (w' : World) : Prop :=
  e = .returned (.int .i64 x) ∧ Only F w w' ∧ ∃ F' R' : Nat → Prop, (∀ k, F' k → F k ∨ w.heap.size ≤ k) ∧ (∀ k, R' k → R k ∨ w.heap.size ≤ k) ∧ LdF w' F' R' g acc d
theorem postL_no {w w' : World} {F R : Nat → Prop} {g : Nat} {acc x y : Int} {d d' : List Dt} (hx : x = y) (hd : d = d') (h : LdF w F R g acc d) (hb : Below w.heap.size w w') : PostL w F R g acc y d' (.returned (.int .i64 x)) w' := by
  subst hx hd
  exact ⟨rfl, Only.of_new hb _, F, R, fun k hk => .inl hk, fun k hk => .inl hk, h.below hb⟩
theorem post_nil (id tm : Int) (A : Option Addr) (n c : Nat) (w : World) : Calls Try.prog 24 #[.pointer none, .agg #[.int .i64 id, .int .i64 tm, .slice A n c]] w (RetI w 11) := by
  go_enter Try.func24, Try.ntmps24
  go_wp2_with fail
  go_ret
  exact ⟨rfl, (Below.refl _ _).alloc (Nat.le_refl _) _⟩
theorem range_cases {id tm : Int} (h : rangeP id tm = false) : id < 1 ∨ (1 ≤ id ∧ 1000000 < id) ∨ (1 ≤ id ∧ id ≤ 1000000 ∧ tm < 0) ∨ (1 ≤ id ∧ id ≤ 1000000 ∧ 0 ≤ tm ∧ 4294943999 < tm) := by
  have := of_decide_eq_false h
  omega
theorem range_t {id tm : Int} (h : rangeP id tm = true) : 1 ≤ id ∧ id ≤ 1000000 ∧ 0 ≤ tm ∧ tm ≤ 4294943999 := of_decide_eq_true h
theorem idxI_neg {d : List Dt} {r : Int} (h : idx d r = none) : idxI d r = -1 := idxI_none h
theorem idxI_nn {d : List Dt} {r : Int} (h : idx d r ≠ none) : ∃ i : Nat, idxI d r = i := by
  rcases hi : idx d r with _ | i
  · exact absurd hi h
  · exact ⟨i, idxI_some hi⟩
set_option maxHeartbeats 8000000 in
set_option maxRecDepth 10000 in
theorem post_any (F R : Nat → Prop) (g : Nat) (acc : Int) (d d' : List Dt) (id tm : Int) (A1 : Option Addr) (n1 k1 : Nat) (ls : List Ln) (x : Int) (w : World) (h : LdF w F R g acc d) (hf : Fine acc d) (hr : Reads w w.heap.size 2 A1 n1 (cellsLn ls)) (hx : postE acc d id tm ls = x) (hd' : postD acc d id tm ls false = d') : Calls Try.prog 24 #[.pointer (some ⟨g, 0, none⟩), .agg #[.int .i64 id, .int .i64 tm, .slice A1 n1 k1]] w (PostL w F R g acc x d') := by
  have HLF := Lib.hid h
  obtain ⟨i1, hi1, hy0, hy1, hy2⟩ := info_parts infoEn
  obtain ⟨l, A, n, c, hd, hB⟩ := h
  obtain ⟨kk, hK⟩ := box1K w 45 #[.int .i64 id, .int .i64 tm, .slice A1 n1 k1]
  have HK := Lib.hid hK
  clear hK
  obtain ⟨B0, hbb⟩ := HK.out _ kk
  have c00 := B0.cell 0
  have c01 := B0.cell 1
  have c02 := B0.cell 2
  have HB := Lib.hid hbb
  clear B0 hbb
  have HK' := Lib.hid (HK.out _ kk)
  have HBA := Lib.hid hB; have HD := Lib.hid hd; have HF := Lib.hid hf
  have HDL : Hid (d.length = n) := Lib.hid (by rw [← hd, List.length_map]; exact hB.len)
  have hn512 : n ≤ 512 := by have := hf.len; have := HDL.out; omega
  have HRA : Hid (∀ u, Below w.heap.size w u → Reads u u.heap.size 2 A1 n1 (cellsLn ls)) := Lib.hid fun u hu => (hr.below hu).more hu.size
  have HBL : Hid (∀ u, Below w.heap.size w u → Blk u g 62 #[.int .i64 acc, .slice A n c]) := Lib.hid fun u hu => ofB HBA.out.blk hu
  have g0 := ((HBL.out _ HB.out).cell 0).trans rfl; have g1 := ((HBL.out _ HB.out).cell 1).trans rfl
  have hg := HBA.out.blk.lt
  have hlw : w.heap.size ≠ g := by omega
  have HX := Lib.hid hx; have HD' := Lib.hid hd'
  have HNO : Hid (x ≠ 0 → d = d') := Lib.hid fun h0 => by rw [← HD'.out]; unfold postD; rw [if_neg (by rw [HX.out]; exact h0)]
  have hr0 := hr
  clear hB hd hf hr hx hd'
  by_cases h512 : 512 ≤ n
  · have HX2 : Hid (8 = x) := Lib.hid (by rw [← HX.out, postE_full (by have := HDL.out; omega)])
    have HE := Lib.hid (HNO.out (by rw [← HX2.out]; decide))
    have q0 : (512 : Int) ≤ n := by omega
    go_enter Try.func24, Try.ntmps24
    go_wp2_with fail
    go_ret
    exact postL_no HX2.out HE.out HLF.out HB.out
  have q0 : (n : Int) < 512 := by omega
  have HN512 : Hid (d.length < 512) := Lib.hid (by have := HDL.out; omega)
  clear h512
  rcases hrg : rangeP id tm with _ | _
  · have HX2 : Hid (1 = x) := Lib.hid (by rw [← HX.out, postE_range HN512.out hrg])
    have HE := Lib.hid (HNO.out (by rw [← HX2.out]; decide))
    have hcs := range_cases hrg
    clear hrg
    rcases hcs with r0 | ⟨r0, r1⟩ | ⟨r0, r1, r2⟩ | ⟨r0, r1, r2, r3⟩
    all_goals
      go_enter Try.func24, Try.ntmps24
      go_wp2_with fail
      go_ret
      exact postL_no HX2.out HE.out HLF.out HB.out
  obtain ⟨r0, r1, r2, r3⟩ := range_t hrg
  obtain ⟨y, hy⟩ : ∃ y, linesE acc ls = y := ⟨_, rfl⟩
  have HY := Lib.hid hy
  by_cases h0 : y = 0
  case neg =>
    have HX2 : Hid (y = x) := Lib.hid (by rw [← HX.out, postE_lines HN512.out hrg (by rw [hy]; exact h0), hy])
    have HE := Lib.hid (HNO.out (by rw [← HX2.out]; exact h0))
    have t0 := ne0_t h0
    clear hrg hy h0
    go_enter Try.func24, Try.ntmps24
    go_wp2_with fail
    refine (checkLines_any g acc _ _ _ A1 n1 k1 ls y _ (HBL.out _ HB.out) (HRA.out _ HB.out) HY.out).mono ?_
    rintro e w1 ⟨rfl, hb1⟩
    have HB1 := Lib.hid (below_next HB.out (Nat.le_refl _) hb1)
    clear hb1
    go_wp2_with fail
    go_ret
    exact postL_no HX2.out HE.out HLF.out HB1.out
  subst h0
  by_cases h3 : idx d id = none
  case neg =>
    have HX2 : Hid (6 = x) := Lib.hid (by rw [← HX.out, postE_twice HN512.out hrg hy h3])
    have HE := Lib.hid (HNO.out (by rw [← HX2.out]; decide))
    obtain ⟨i, hi⟩ := idxI_nn h3
    have HI : Hid (idxI (l.map En.dt) id = (i : Int)) := Lib.hid (by rw [HD.out, hi])
    have hi0 : (0 : Int) ≤ i := by omega
    clear hrg hy h3 hi
    go_enter Try.func24, Try.ntmps24
    go_wp2_with fail
    refine (checkLines_any g acc _ _ _ A1 n1 k1 ls 0 _ (HBL.out _ HB.out) (HRA.out _ HB.out) HY.out).mono ?_
    rintro e w1 ⟨rfl, hb1⟩
    replace kk := below_next kk (Nat.le_refl _) hb1
    have HB1 := Lib.hid (below_next HB.out (Nat.le_refl _) hb1)
    clear hb1 c00 c01 c02 HB g0 g1
    obtain ⟨B0, hbb⟩ := HK.out _ kk
    have c00 := B0.cell 0
    have c01 := B0.cell 1
    have c02 := B0.cell 2
    have HB := Lib.hid hbb
    clear B0 hbb
    have g0 := ((HBL.out _ HB.out).cell 0).trans rfl; have g1 := ((HBL.out _ HB.out).cell 1).trans rfl
    go_wp2_with fail
    refine (find_any F R g acc l _ _ _ id ((i : Int)) _ (HBA.out.below HB1.out) (by omega) HI.out).mono ?_
    rintro e w2 ⟨rfl, hb2⟩
    replace kk := below_next kk (Nat.le_refl _) hb2
    have HB2 := Lib.hid (below_next HB1.out (Nat.le_refl _) hb2)
    clear hb2 c00 c01 c02 HB g0 g1
    obtain ⟨B0, hbb⟩ := HK.out _ kk
    have c00 := B0.cell 0
    have c01 := B0.cell 1
    have c02 := B0.cell 2
    have HB := Lib.hid hbb
    clear B0 hbb
    have g0 := ((HBL.out _ HB.out).cell 0).trans rfl; have g1 := ((HBL.out _ HB.out).cell 1).trans rfl
    go_wp2_with fail
    go_ret
    exact postL_no HX2.out HE.out HLF.out HB2.out
  have hn16 : n1 ≤ 16 := by
    have h5 := linesE_inv hy
    have h6 := recs_len hr0 encLn_len (by omega)
    omega
  have HI : Hid (idxI (l.map En.dt) id = -1) := Lib.hid (by rw [HD.out, idxI_neg h3])
  by_cases hn0 : n = 0
  · have hdn : d = [] := List.eq_nil_of_length_eq_zero (by rw [HDL.out, hn0])
    have HX2 : Hid (0 = x) := Lib.hid (by rw [← HX.out, postE_ok HN512.out hrg hy h3 (fun e => e.1 hdn)])
    have z0 : (n : Int) = 0 := by omega
    clear hrg hy h3 hdn
    subst hn0
    go_enter Try.func24, Try.ntmps24
    go_wp2_with fail
    refine (checkLines_any g acc _ _ _ A1 n1 k1 ls 0 _ (HBL.out _ HB.out) (HRA.out _ HB.out) HY.out).mono ?_
    rintro e w1 ⟨rfl, hb1⟩
    replace kk := below_next kk (Nat.le_refl _) hb1
    have HB1 := Lib.hid (below_next HB.out (Nat.le_refl _) hb1)
    clear hb1 c00 c01 c02 HB g0 g1
    obtain ⟨B0, hbb⟩ := HK.out _ kk
    have c00 := B0.cell 0
    have c01 := B0.cell 1
    have c02 := B0.cell 2
    have HB := Lib.hid hbb
    clear B0 hbb
    have g0 := ((HBL.out _ HB.out).cell 0).trans rfl; have g1 := ((HBL.out _ HB.out).cell 1).trans rfl
    go_wp2_with fail
    refine (find_any F R g acc l _ _ _ id ((-1)) _ (HBA.out.below HB1.out) (by omega) HI.out).mono ?_
    rintro e w2 ⟨rfl, hb2⟩
    replace kk := below_next kk (Nat.le_refl _) hb2
    have HB2 := Lib.hid (below_next HB1.out (Nat.le_refl _) hb2)
    clear hb2 c00 c01 c02 HB g0 g1
    obtain ⟨B0, hbb⟩ := HK.out _ kk
    have c00 := B0.cell 0
    have c01 := B0.cell 1
    have c02 := B0.cell 2
    have HB := Lib.hid hbb
    clear B0 hbb
    have g0 := ((HBL.out _ HB.out).cell 0).trans rfl; have g1 := ((HBL.out _ HB.out).cell 1).trans rfl
    go_wp2_with fail
    refine wp_region_fam (by kernel_rfl) (by kernel_rfl) ?_
    repeat (go_big_quiet_step (fail))
    refine wpQuiet_nil ?_
    rintro _ ⟨z1, rfl⟩
    replace kk := below_next kk (Nat.le_refl _) z1.prop
    have HB3 := Lib.hid (below_next HB.out (Nat.le_refl _) z1.prop)
    clear HB g0 g1 c00 c01 c02
    obtain ⟨B0, hbb⟩ := HK.out _ kk
    have c00 := B0.cell 0
    have c01 := B0.cell 1
    have c02 := B0.cell 2
    have HB := Lib.hid hbb
    clear B0 hbb
    have g0 := ((HBL.out _ HB.out).cell 0).trans rfl; have g1 := ((HBL.out _ HB.out).cell 1).trans rfl
    go_wp2_with fail
    have PB := (HK.out _ kk).1
    have GB := HBL.out _ HB3.out
    obtain ⟨v, hv⟩ : ∃ v, z1.val = v := ⟨_, rfl⟩
    rw [hv] at PB GB HB3 c00 c01 c02 g0 g1 ⊢
    have HPB := Lib.hid PB; have HGB := Lib.hid GB
    obtain ⟨D, hD⟩ : ∃ D : World → Prop, D = fun u => u.cell? ⟨g, 1, none⟩ = some (.slice A 0 c) ∧ u.cell? ⟨w.heap.size, 0, none⟩ = some (.int .i64 id) ∧ u.cell? ⟨w.heap.size, 1, none⟩ = some (.int .i64 tm) ∧ u.cell? ⟨w.heap.size, 2, none⟩ = some (.slice A1 n1 k1) := ⟨_, rfl⟩
    have HDB : Hid (∀ u, Blk u g 62 #[.int .i64 acc, .slice A 0 c] → Blk u w.heap.size 45 #[.int .i64 id, .int .i64 tm, .slice A1 n1 k1] → D u) := Lib.hid fun u h1 h2 => by
      rw [hD]; exact ⟨(h1.cell 1).trans rfl, (h2.cell 0).trans rfl, (h2.cell 1).trans rfl, (h2.cell 2).trans rfl⟩
    have hDi : ∀ u, D u → (u.cell? ⟨g, 1, none⟩ = some (.slice A 0 c) ∧ u.cell? ⟨w.heap.size, 0, none⟩ = some (.int .i64 id) ∧ u.cell? ⟨w.heap.size, 1, none⟩ = some (.int .i64 tm) ∧ u.cell? ⟨w.heap.size, 2, none⟩ = some (.slice A1 n1 k1)) := fun u hu => by rw [hD] at hu; exact hu
    have G0 : ∀ z : DFam D, z.val.cell? ⟨g, 1, none⟩ = some (.slice A 0 c) := fun z => (hDi _ z.prop).1
    have G1 : ∀ z : DFam D, z.val.cell? ⟨w.heap.size, 0, none⟩ = some (.int .i64 id) := fun z => (hDi _ z.prop).2.1
    have G2 : ∀ z : DFam D, z.val.cell? ⟨w.heap.size, 1, none⟩ = some (.int .i64 tm) := fun z => (hDi _ z.prop).2.2.1
    have G3 : ∀ z : DFam D, z.val.cell? ⟨w.heap.size, 2, none⟩ = some (.slice A1 n1 k1) := fun z => (hDi _ z.prop).2.2.2
    haveI : Nonempty (DFam D) := ⟨⟨v, HDB.out _ HGB.out HPB.out⟩⟩
    clear hDi PB GB hv hD kk HB c00 c01 c02 g0 g1
    refine wp_region_pt 4 ([0, 1, 2, 3, 4, 5], [(6, ([], [(7, ([], [(8, ([], [(9, [])]))]))]))]) [10, 11, 12] D (by kernel_rfl) (by kernel_rfl) (HDB.out _ HGB.out.drew HPB.out.drew) ?_
    simp only [wpT, List.map_cons, List.map_nil, List.getD_cons_succ, List.getD_cons_zero, List.forall_mem_cons, List.not_mem_nil, false_implies, implies_true, and_true]
    repeat (go_big_quiet_step (fail))
    refine wpQuiet_nil ?_
    clear G0 G1 G2 G3
    go_wp2_with fail
    refine (clone_any id tm A1 n1 k1 ls v.drew (HRA.out _ HB3.out.drew) (by omega)).mono ?_
    rintro e u1 ⟨A2, k2, rfl, ho, hb⟩
    have HO := Lib.hid ho
    have hbv : Below v.heap.size v u1 := ⟨hb.os, hb.tape, hb.output, hb.size, hb.block⟩
    have HU1 := Lib.hid (below_next HB3.out (Nat.le_refl _) hbv)
    have HG1 := Lib.hid (ofB HGB.out hbv); have HP1 := Lib.hid (ofB HPB.out hbv)
    have HW1 : Hid (w.heap.size ≤ v.drew.heap.size) := Lib.hid HB3.out.size
    have HLB1 := Lib.hid (HBA.out.below HU1.out)
    clear ho hb hbv
    go_wp2_with fail
    refine QN_normal ⟨HDB.out _ HG1.out HP1.out, wpQuiet_nil ?_⟩
    go_wp2_with fail
    refine QN_normal ⟨HDB.out _ HG1.out HP1.out, wpQuiet_nil ?_⟩
    go_wp2_with fail
    refine QN_normal ⟨HDB.out _ (HG1.out.alloc _) (HP1.out.alloc _), wpQuiet_nil ?_⟩
    go_wp2_with (at_builtin; refine wpList_append_any _ rfl (.tmp 74) (.tmp 78) _ rfl 0 64 i1 _ 4 48 Try.underlying60 hi1 hy0 hy1 hy2 rfl (by omega) (.slice A 0 c) (0) (cellsEn l) (by rfl) (HLB1.out.own.alloc _) _ _ 1 1 (encEn ⟨id, tm, A2, n1, k2, ls, false⟩) (by rfl) (frEn _ ⟨id, tm, A2, n1, k2, ls, false⟩) (one_encEn _) (by simp only [maxLen]; omega) (by omega) (Nat.zero_le _) ?_; intro v7 w7 hown7 hg7 hat7; obtain ⟨A7, c7, rfl, hr7⟩ := own_reads hown7)
    rw [← snocEn] at hown7
    have HPD := Lib.hid (post_done HBA.out HU1.out HO.out HW1.out hown7 hg7 hat7 hn16)
    have hrow := HBA.out.2.2.2.2.2.1
    have GB7 := (HG1.out.alloc (.cells #[.int .i64 id, .int .i64 tm, .slice A2 n1 k2, .bool false] 64)).grown hg7 (fun e => (hrow g e.symm).2 rfl)
    have PB7 := (HP1.out.alloc (.cells #[.int .i64 id, .int .i64 tm, .slice A2 n1 k2, .bool false] 64)).grown hg7 (fun e => Nat.lt_irrefl _ (HBA.out.2.1 _ (hrow _ e.symm).1))
    refine QN_normal ⟨HDB.out _ GB7 PB7, wpQuiet_nil ?_⟩
    have x7 := (GB7.cell 1).trans rfl
    have z7 := GB7.frozen 1
    clear GB7 PB7 hown7 hg7 hat7 hr7 hrow
    go_wp2_with fail
    go_ret
    obtain ⟨hO, F', R', hF', hR', hLB⟩ := HPD.out
    exact ⟨ret_int HX2.out, hO, F', R', hF', hR', _, _, _, _, by rw [List.map_append, HD.out, ← HD'.out]; unfold postD; rw [if_pos (by rw [HX.out, ← HX2.out])]; rfl, hLB⟩
  · obtain ⟨q, rfl⟩ : ∃ q, n = q + 1 := ⟨n - 1, by omega⟩
    have hql : q < l.length := by have := HBA.out.len; omega
    have hqd : q < d.length := by have := HDL.out; omega
    have HLT : Hid (lastTm d = l[q].tm) := Lib.hid (by
      have h1 : d.length - 1 = q := by have := HDL.out; omega
      rw [lastTm_at (by omega)]
      have := dt_at HD.out hql
      simp only [h1]
      rw [this]; rfl)
    have hdn : d ≠ [] := fun e => by rw [e] at hqd; exact absurd hqd (Nat.not_lt_zero _)
    obtain ⟨b, rfl, hbb, hFb, hne, hc⟩ := HBA.out.cells (by omega)
    have HTM := Lib.hid (hc q hql).2.1
    obtain ⟨z, hz⟩ : ∃ z, l[q].tm = z := ⟨_, rfl⟩
    rw [hz] at HTM HLT
    clear hc hz hn0
    by_cases ho : tm < z
    · have HX2 : Hid (9 = x) := Lib.hid (by rw [← HX.out, postE_order HN512.out hrg hy h3 ⟨hdn, by rw [HLT.out]; exact ho⟩])
      have HE := Lib.hid (HNO.out (by rw [← HX2.out]; decide))
      clear hrg hy h3 hdn
      go_enter Try.func24, Try.ntmps24
      go_wp2_with fail
      refine (checkLines_any g acc _ _ _ A1 n1 k1 ls 0 _ (HBL.out _ HB.out) (HRA.out _ HB.out) HY.out).mono ?_
      rintro e w1 ⟨rfl, hb1⟩
      replace kk := below_next kk (Nat.le_refl _) hb1
      have HB1 := Lib.hid (below_next HB.out (Nat.le_refl _) hb1)
      clear hb1 c00 c01 c02 HB g0 g1
      obtain ⟨B0, hbb⟩ := HK.out _ kk
      have c00 := B0.cell 0
      have c01 := B0.cell 1
      have c02 := B0.cell 2
      have HB := Lib.hid hbb
      clear B0 hbb
      have g0 := ((HBL.out _ HB.out).cell 0).trans rfl; have g1 := ((HBL.out _ HB.out).cell 1).trans rfl
      go_wp2_with fail
      refine (find_any F R g acc l _ _ _ id ((-1)) _ (HBA.out.below HB1.out) (by omega) HI.out).mono ?_
      rintro e w2 ⟨rfl, hb2⟩
      replace kk := below_next kk (Nat.le_refl _) hb2
      have HB2 := Lib.hid (below_next HB1.out (Nat.le_refl _) hb2)
      clear hb2 c00 c01 c02 HB g0 g1
      obtain ⟨B0, hbb⟩ := HK.out _ kk
      have c00 := B0.cell 0
      have c01 := B0.cell 1
      have c02 := B0.cell 2
      have HB := Lib.hid hbb
      clear B0 hbb
      have g0 := ((HBL.out _ HB.out).cell 0).trans rfl; have g1 := ((HBL.out _ HB.out).cell 1).trans rfl
      go_wp2_with fail
      have F0 : ∀ z' : Fam w2, z'.val.cell? ⟨w.heap.size, 1, none⟩ = some (.int .i64 tm) := fun z' => z'.some_ c01
      have F1 : ∀ z' : Fam w2, z'.val.cell? ⟨g, 1, none⟩ = some (.slice (some ⟨b, 0, none⟩) (q + 1) c) := fun z' => z'.some_ g1
      have F2 : ∀ z' : Fam w2, z'.val.cell? ⟨b, q * 4 + 1, none⟩ = some (.int .i64 z) := fun z' => z'.some_ ((HB.out.cell (p := ⟨b, q * 4 + 1, none⟩) hbb).trans HTM.out)
      clear c00 c01 c02 g0 g1
      refine wp_region_fam (by kernel_rfl) (by kernel_rfl) ?_
      repeat (go_big_quiet_step (fail))
      refine wpQuiet_nil ?_
      rintro _ ⟨z1, rfl⟩
      replace kk := below_next kk (Nat.le_refl _) z1.prop
      have HB3 := Lib.hid (below_next HB.out (Nat.le_refl _) z1.prop)
      clear F0 F1 F2 HB
      obtain ⟨B0, hbb⟩ := HK.out _ kk
      have c00 := B0.cell 0
      have c01 := B0.cell 1
      have c02 := B0.cell 2
      have HB := Lib.hid hbb
      clear B0 hbb
      have g0 := ((HBL.out _ HB.out).cell 0).trans rfl; have g1 := ((HBL.out _ HB.out).cell 1).trans rfl
      go_wp2_with fail
      go_ret
      exact postL_no HX2.out HE.out HLF.out HB3.out
    · have ho2 : z ≤ tm := by omega
      have HX2 : Hid (0 = x) := Lib.hid (by rw [← HX.out, postE_ok HN512.out hrg hy h3 (fun e => ho (by rw [← HLT.out]; exact e.2))])
      clear hrg hy h3 hdn ho
      go_enter Try.func24, Try.ntmps24
      go_wp2_with fail
      refine (checkLines_any g acc _ _ _ A1 n1 k1 ls 0 _ (HBL.out _ HB.out) (HRA.out _ HB.out) HY.out).mono ?_
      rintro e w1 ⟨rfl, hb1⟩
      replace kk := below_next kk (Nat.le_refl _) hb1
      have HB1 := Lib.hid (below_next HB.out (Nat.le_refl _) hb1)
      clear hb1 c00 c01 c02 HB g0 g1
      obtain ⟨B0, hbb⟩ := HK.out _ kk
      have c00 := B0.cell 0
      have c01 := B0.cell 1
      have c02 := B0.cell 2
      have HB := Lib.hid hbb
      clear B0 hbb
      have g0 := ((HBL.out _ HB.out).cell 0).trans rfl; have g1 := ((HBL.out _ HB.out).cell 1).trans rfl
      go_wp2_with fail
      refine (find_any F R g acc l _ _ _ id ((-1)) _ (HBA.out.below HB1.out) (by omega) HI.out).mono ?_
      rintro e w2 ⟨rfl, hb2⟩
      replace kk := below_next kk (Nat.le_refl _) hb2
      have HB2 := Lib.hid (below_next HB1.out (Nat.le_refl _) hb2)
      clear hb2 c00 c01 c02 HB g0 g1
      obtain ⟨B0, hbb⟩ := HK.out _ kk
      have c00 := B0.cell 0
      have c01 := B0.cell 1
      have c02 := B0.cell 2
      have HB := Lib.hid hbb
      clear B0 hbb
      have g0 := ((HBL.out _ HB.out).cell 0).trans rfl; have g1 := ((HBL.out _ HB.out).cell 1).trans rfl
      go_wp2_with fail
      have F0 : ∀ z' : Fam w2, z'.val.cell? ⟨w.heap.size, 1, none⟩ = some (.int .i64 tm) := fun z' => z'.some_ c01
      have F1 : ∀ z' : Fam w2, z'.val.cell? ⟨g, 1, none⟩ = some (.slice (some ⟨b, 0, none⟩) (q + 1) c) := fun z' => z'.some_ g1
      have F2 : ∀ z' : Fam w2, z'.val.cell? ⟨b, q * 4 + 1, none⟩ = some (.int .i64 z) := fun z' => z'.some_ ((HB.out.cell (p := ⟨b, q * 4 + 1, none⟩) hbb).trans HTM.out)
      clear c00 c01 c02 g0 g1
      refine wp_region_fam (by kernel_rfl) (by kernel_rfl) ?_
      repeat (go_big_quiet_step (fail))
      refine wpQuiet_nil ?_
      rintro _ ⟨z1, rfl⟩
      replace kk := below_next kk (Nat.le_refl _) z1.prop
      have HB3 := Lib.hid (below_next HB.out (Nat.le_refl _) z1.prop)
      clear F0 F1 F2 HB
      obtain ⟨B0, hbb⟩ := HK.out _ kk
      have c00 := B0.cell 0
      have c01 := B0.cell 1
      have c02 := B0.cell 2
      have HB := Lib.hid hbb
      clear B0 hbb
      have g0 := ((HBL.out _ HB.out).cell 0).trans rfl; have g1 := ((HBL.out _ HB.out).cell 1).trans rfl
      go_wp2_with fail
      have PB := (HK.out _ kk).1
      have GB := HBL.out _ HB3.out
      obtain ⟨v, hv⟩ : ∃ v, z1.val = v := ⟨_, rfl⟩
      rw [hv] at PB GB HB3 c00 c01 c02 g0 g1 ⊢
      have HPB := Lib.hid PB; have HGB := Lib.hid GB
      obtain ⟨D, hD⟩ : ∃ D : World → Prop, D = fun u => u.cell? ⟨g, 1, none⟩ = some (.slice (some ⟨b, 0, none⟩) (q + 1) c) ∧ u.cell? ⟨w.heap.size, 0, none⟩ = some (.int .i64 id) ∧ u.cell? ⟨w.heap.size, 1, none⟩ = some (.int .i64 tm) ∧ u.cell? ⟨w.heap.size, 2, none⟩ = some (.slice A1 n1 k1) := ⟨_, rfl⟩
      have HDB : Hid (∀ u, Blk u g 62 #[.int .i64 acc, .slice (some ⟨b, 0, none⟩) (q + 1) c] → Blk u w.heap.size 45 #[.int .i64 id, .int .i64 tm, .slice A1 n1 k1] → D u) := Lib.hid fun u h1 h2 => by
        rw [hD]; exact ⟨(h1.cell 1).trans rfl, (h2.cell 0).trans rfl, (h2.cell 1).trans rfl, (h2.cell 2).trans rfl⟩
      have hDi : ∀ u, D u → (u.cell? ⟨g, 1, none⟩ = some (.slice (some ⟨b, 0, none⟩) (q + 1) c) ∧ u.cell? ⟨w.heap.size, 0, none⟩ = some (.int .i64 id) ∧ u.cell? ⟨w.heap.size, 1, none⟩ = some (.int .i64 tm) ∧ u.cell? ⟨w.heap.size, 2, none⟩ = some (.slice A1 n1 k1)) := fun u hu => by rw [hD] at hu; exact hu
      have G0 : ∀ z : DFam D, z.val.cell? ⟨g, 1, none⟩ = some (.slice (some ⟨b, 0, none⟩) (q + 1) c) := fun z => (hDi _ z.prop).1
      have G1 : ∀ z : DFam D, z.val.cell? ⟨w.heap.size, 0, none⟩ = some (.int .i64 id) := fun z => (hDi _ z.prop).2.1
      have G2 : ∀ z : DFam D, z.val.cell? ⟨w.heap.size, 1, none⟩ = some (.int .i64 tm) := fun z => (hDi _ z.prop).2.2.1
      have G3 : ∀ z : DFam D, z.val.cell? ⟨w.heap.size, 2, none⟩ = some (.slice A1 n1 k1) := fun z => (hDi _ z.prop).2.2.2
      haveI : Nonempty (DFam D) := ⟨⟨v, HDB.out _ HGB.out HPB.out⟩⟩
      clear hDi PB GB hv hD kk HB c00 c01 c02 g0 g1
      refine wp_region_pt 4 ([0, 1, 2, 3, 4, 5], [(6, ([], [(7, ([], [(8, ([], [(9, [])]))]))]))]) [10, 11, 12] D (by kernel_rfl) (by kernel_rfl) (HDB.out _ HGB.out.drew HPB.out.drew) ?_
      simp only [wpT, List.map_cons, List.map_nil, List.getD_cons_succ, List.getD_cons_zero, List.forall_mem_cons, List.not_mem_nil, false_implies, implies_true, and_true]
      repeat (go_big_quiet_step (fail))
      refine wpQuiet_nil ?_
      clear G0 G1 G2 G3
      go_wp2_with fail
      refine (clone_any id tm A1 n1 k1 ls v.drew (HRA.out _ HB3.out.drew) (by omega)).mono ?_
      rintro e u1 ⟨A2, k2, rfl, ho, hb⟩
      have HO := Lib.hid ho
      have hbv : Below v.heap.size v u1 := ⟨hb.os, hb.tape, hb.output, hb.size, hb.block⟩
      have HU1 := Lib.hid (below_next HB3.out (Nat.le_refl _) hbv)
      have HG1 := Lib.hid (ofB HGB.out hbv); have HP1 := Lib.hid (ofB HPB.out hbv)
      have HW1 : Hid (w.heap.size ≤ v.drew.heap.size) := Lib.hid HB3.out.size
      have HLB1 := Lib.hid (HBA.out.below HU1.out)
      clear ho hb hbv
      go_wp2_with fail
      refine QN_normal ⟨HDB.out _ HG1.out HP1.out, wpQuiet_nil ?_⟩
      go_wp2_with fail
      refine QN_normal ⟨HDB.out _ HG1.out HP1.out, wpQuiet_nil ?_⟩
      go_wp2_with fail
      refine QN_normal ⟨HDB.out _ (HG1.out.alloc _) (HP1.out.alloc _), wpQuiet_nil ?_⟩
      go_wp2_with (at_builtin; refine wpList_append_any _ rfl (.tmp 74) (.tmp 78) _ rfl 0 64 i1 _ 4 48 Try.underlying60 hi1 hy0 hy1 hy2 rfl (by omega) (.slice (some ⟨b, 0, none⟩) (q + 1) c) (q + 1) (cellsEn l) (by rfl) (HLB1.out.own.alloc _) _ _ 1 1 (encEn ⟨id, tm, A2, n1, k2, ls, false⟩) (by rfl) (frEn _ ⟨id, tm, A2, n1, k2, ls, false⟩) (one_encEn _) (by simp only [maxLen]; omega) (by omega) (Nat.zero_le _) ?_; intro v7 w7 hown7 hg7 hat7; obtain ⟨A7, c7, rfl, hr7⟩ := own_reads hown7)
      rw [← snocEn] at hown7
      have HPD := Lib.hid (post_done HBA.out HU1.out HO.out HW1.out hown7 hg7 hat7 hn16)
      have hrow := HBA.out.2.2.2.2.2.1
      have GB7 := (HG1.out.alloc (.cells #[.int .i64 id, .int .i64 tm, .slice A2 n1 k2, .bool false] 64)).grown hg7 (fun e => (hrow g e.symm).2 rfl)
      have PB7 := (HP1.out.alloc (.cells #[.int .i64 id, .int .i64 tm, .slice A2 n1 k2, .bool false] 64)).grown hg7 (fun e => Nat.lt_irrefl _ (HBA.out.2.1 _ (hrow _ e.symm).1))
      refine QN_normal ⟨HDB.out _ GB7 PB7, wpQuiet_nil ?_⟩
      have x7 := (GB7.cell 1).trans rfl
      have z7 := GB7.frozen 1
      clear GB7 PB7 hown7 hg7 hat7 hr7 hrow
      go_wp2_with fail
      go_ret
      obtain ⟨hO, F', R', hF', hR', hLB⟩ := HPD.out
      exact ⟨ret_int HX2.out, hO, F', R', hF', hR', _, _, _, _, by rw [List.map_append, HD.out, ← HD'.out]; unfold postD; rw [if_pos (by rw [HX.out, ← HX2.out])]; rfl, hLB⟩
end Go.Proofs.Ytoammbjnejdgpaa
