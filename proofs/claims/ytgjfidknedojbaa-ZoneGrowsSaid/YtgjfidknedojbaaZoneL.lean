/- The reference's Find, has, and how the laws' list of zones is opened. -/
import Derived.Test.YtgjfidknedojbaaZoneEq
import Derived.Test.YtgjfidknedojbaaZoneJ
import Derived.Test.YtgjfidknedojbaaTenOpen
namespace Go.Proofs.Ytgjfidknedojbaa
open Go.RowKit
section
open Go.ChangeShapes Go.WideShapes Go.ChangeAt Go.RowKit Go.Deep
variable {H : Type} {enc : TypeId × Value → H} {W : World} {b0 : Nat} {v : Value} {d : DataW H} {p : List MemPlace}
theorem open_zones (hv : Value.okWide Try.prog W .any b0 22 v) (h : DataW.Trod enc Try.prog W 0 (fun _ => true) true 22 v d p) :
    ∃ (A : Option Addr) (n c : Nat) (l : List Zn), v = .slice A n c ∧ ZR W A n l ∧ n ≤ c ∧ c ≤ maxLen := by
  obtain ⟨A, n, c, row, rfl, h1, h2, h3, h4, h5⟩ := open_flat_recs (k := 4) (ts := [9, 43, 3]) Try.underlying22 (by kernel_rfl) (by kernel_rfl) (by decide) hv h
  obtain ⟨l, hl1, hl2, hl3⟩ := rows_recs (enc := encZ) (Q := fun z => Reads W W.heap.size 2 z.A z.n (cellsPt z.p) ∧ z.n ≤ 9223372036854775807 ∧ z.s.size ≤ maxLen) (row := row) (n := n) fun i hi => by
    obtain ⟨s, g0, hs⟩ := (h5 i hi).str 0 rfl Try.underlying9
    obtain ⟨A', n', c', row', g1, k1, k2, k3, k4, k5⟩ := (h5 i hi).recs (k := 4) (ts' := [3, 3]) 1 rfl Try.underlying43 (by kernel_rfl) (by kernel_rfl) (by decide)
    obtain ⟨r, g2, _⟩ := (h5 i hi).int 2 rfl Try.underlying3
    obtain ⟨q, _, hq2, _⟩ := rows_recs (enc := encPt) (Q := fun _ => True) (row := row') (n := n') fun j hj => by
      obtain ⟨a, e0, _⟩ := (k5 j hj).int 0 rfl Try.underlying3
      obtain ⟨b, e1, _⟩ := (k5 j hj).int 1 rfl Try.underlying3
      exact ⟨(a, b), list2 (k4 j) e0 e1, trivial⟩
    rw [hq2] at k1
    exact ⟨⟨s, A', n', c', q, r⟩, list3 (h4 i) g0 g1 g2, k1, Nat.le_trans k2 k3, hs⟩
  rw [hl2] at h1
  exact ⟨A, n, c, l, rfl, ⟨h1, hl3, hl1⟩, h2, h3⟩
end
set_option maxHeartbeats 2000000 in
theorem zhas_any (A : Option Addr) (n c : Nat) (m : List Int) (v : Int) (x : Bool) (w : World) (hr : Reads w w.heap.size 1 A n (cellsI m)) (hn : n ≤ 1000) (hx : decide (v ∈ m) = x) : Calls Try.prog 23 #[.slice A n c, .int .i64 v] w (RetB w x) := by
  have HR := Lib.hid hr; have HX := Lib.hid hx; have HM := Lib.hid (recs_len hr encI_len (by omega))
  clear hr hx
  go_enter Try.func23, Try.ntmps23
  go_wp2_with fail
  go_loopw [5] (fun s wr => ∃ k : Nat, k ≤ n ∧ s = .int .i64 k ∧ Hid (∀ j, j < k → iAt m j ≠ v) ∧ Below w.heap.size w wr) (fun s _ => n - (intOf s).toNat)
  case atStart => exact ⟨0, Nat.zero_le _, rfl, Lib.hid (fun _ h => absurd h (Nat.not_lt_zero _)), Below.refl _ _⟩
  case round =>
    obtain ⟨k, hk, rfl, HA, hbw⟩ := hrel
    have HBW := Lib.hid hbw
    have HRr := Lib.hid ((HR.out.below hbw).more hbw.size)
    clear hbw
    by_cases hlt : k < n
    · obtain ⟨b, off, rfl, hb, hc⟩ := ints_cells HRr.out (by omega)
      have e0 := hc k hlt
      have hk0 : (0 : Int) ≤ k := by omega
      have hk1 : (k : Int) < n := by omega
      clear hc
      obtain ⟨u, hu⟩ : ∃ u, iAt m k = u := ⟨_, rfl⟩
      rw [hu] at e0
      have HU := Lib.hid hu
      clear hu
      by_cases huv : u = v
      · have HX2 : Hid (true = x) := Lib.hid (by
          rw [← HX.out]
          refine (decide_eq_true ?_).symm
          rw [← huv, ← HU.out, iAt_get (by have := HM.out; omega)]
          exact List.getElem_mem _)
        have hd : (u == v) = true := by simpa using huv
        clear huv
        go_wp2_with fail
        go_ret
        exact ⟨ret_bool HX2.out, HBW.out⟩
      · have hd : (u == v) = false := by simpa using huv
        have HA2 : Hid (∀ j, j < k + 1 → iAt m j ≠ v) := Lib.hid fun j hj => by
          rcases Nat.lt_or_ge j k with h1 | h1
          · exact HA.out j h1
          · obtain rfl : j = k := by omega
            rw [HU.out]; exact huv
        clear huv
        go_wp2_with fail
        go_roundw
        case rel => exact ⟨k + 1, by omega, by go_num, HA2, HBW.out⟩
        case measure => simp [intOf]; omega
    · have HX2 : Hid (false = x) := Lib.hid (by
        rw [← HX.out]
        refine (decide_eq_false fun h => ?_).symm
        obtain ⟨j, hj, e⟩ := List.getElem_of_mem h
        exact HA.out j (by have := HM.out; omega) (by rw [iAt_get hj]; exact e))
      go_wp2_with fail
      go_ret
      exact ⟨ret_bool HX2.out, HBW.out⟩
theorem maxO_no {l : List Zn} {p : Pt} {k : Nat} (h : insB (zAt l k) p = false) : maxO l p (k + 1) = maxO l p k := by show (if _ then _ else _) = _; rw [if_neg (by rw [h]; decide)]
theorem maxO_first {l : List Zn} {p : Pt} {k : Nat} (h : insB (zAt l k) p = true) (h1 : maxO l p k = none) : maxO l p (k + 1) = some k := by show (if _ then _ else _) = _; rw [if_pos h, h1]
theorem maxO_up {l : List Zn} {p : Pt} {k b : Nat} (h : insB (zAt l k) p = true) (h1 : maxO l p k = some b) (h2 : (zAt l b).r < (zAt l k).r) : maxO l p (k + 1) = some k := by
  show (if _ then _ else _) = _
  rw [if_pos h, h1]; exact if_pos h2
theorem maxO_stay {l : List Zn} {p : Pt} {k b : Nat} (h : insB (zAt l k) p = true) (h1 : maxO l p k = some b) (h2 : ¬ (zAt l b).r < (zAt l k).r) : maxO l p (k + 1) = some b := by
  show (if _ then _ else _) = _
  rw [if_pos h, h1]; exact if_neg h2
theorem ins_no1 {z : Zn} {p : Pt} (h : insE z.p p ≠ 0) : insB z p = false := by unfold insB; rw [decide_eq_false h]; rfl
theorem ins_no2 {z : Zn} {p : Pt} (h : insZ z.p p < 0) : insB z p = false := by unfold insB; rw [decide_eq_false (show ¬ 0 ≤ insZ z.p p by omega), Bool.and_false]
theorem ins_yes {z : Zn} {p : Pt} (h : insE z.p p = 0) (h1 : 0 ≤ insZ z.p p) : insB z p = true := by unfold insB; rw [decide_eq_true h, decide_eq_true h1]; rfl
/-- What the loop of the reference's Find holds. -/
def FState (l : List Zn) (p : Pt) (k : Nat) (s6 s7 : Value) : Prop := (maxO l p k = none ∧ s6 = .int .i64 0 ∧ s7 = .bool false) ∨ ∃ b : Nat, b < k ∧ maxO l p k = some b ∧ s6 = .int .i64 b ∧ s7 = .bool true
set_option maxHeartbeats 4000000 in
set_option maxRecDepth 10000 in
theorem rfind_any (A : Option Addr) (n c : Nat) (l : List Zn) (p : Pt) (x : Option Nat) (w : World) (h : ZR w A n l) (hn : n ≤ 9223372036854775807) (hx : rfindZ l p = x) : Calls Try.prog 15 #[.slice A n c, aggP p] w (RetIO w x) := by
  obtain ⟨kk, hK⟩ := box1K w 28 #[.int .i64 p.1, .int .i64 p.2]
  have HK := Lib.hid hK
  clear hK
  obtain ⟨B0, hbb⟩ := HK.out _ kk
  have c00 := B0.cell 0
  have c01 := B0.cell 1
  have HB := Lib.hid hbb
  clear B0 hbb
  have HL := Lib.hid h.2.2; have HX := Lib.hid hx
  have HZA : Hid (∀ u, Below w.heap.size w u → ZR u A n l) := Lib.hid fun u hu => h.below hu
  clear h hx
  obtain ⟨y, hy⟩ : ∃ y, zcheckZ l = y := ⟨_, rfl⟩
  have HY := Lib.hid hy
  by_cases h0 : y = 0
  · subst h0
    have HX1 : Hid (maxO l p l.length = x) := Lib.hid (by rw [← HX.out]; unfold rfindZ; rw [if_pos hy])
    have hn16 : n ≤ 16 := by have := (zcheck_inv hy).1; have := HL.out; omega
    clear hy HX
    go_enter Try.func15, Try.ntmps15
    go_wp2_with fail
    refine (rzcheck_any A n c l 0 _ (HZA.out _ HB.out) hn HY.out).mono ?_
    rintro e w1 ⟨rfl, hb1⟩
    replace kk := below_next kk (Nat.le_refl _) hb1
    clear c00 c01 HB hb1
    obtain ⟨B0, hbb⟩ := HK.out _ kk
    have c00 := B0.cell 0
    have c01 := B0.cell 1
    have HB := Lib.hid hbb
    clear B0 hbb
    clear c00 c01 HB
    have HKK := Lib.hid kk
    clear kk
    go_wp2_with fail
    go_loopw [6, 7, 8] (fun a6 a7 s8 wr => ∃ (k : Nat) (s6 s7 : Value), k ≤ n ∧ s6 = a6 ∧ s7 = a7 ∧ s8 = .int .i64 k ∧ FState l p k s6 s7 ∧ Below w1.heap.size w1 wr) (fun _ _ s _ => n - (intOf s).toNat)
    case atStart => exact ⟨0, _, _, Nat.zero_le _, rfl, rfl, rfl, .inl ⟨rfl, rfl, rfl⟩, Below.refl _ _⟩
    case round =>
      obtain ⟨k, s6, s7, hk, rfl, rfl, rfl, hst, hbw⟩ := hrel
      have HBW := Lib.hid hbw
      have hkr := below_next HKK.out (Nat.le_refl _) hbw
      obtain ⟨B0, hbb⟩ := HK.out _ hkr
      have HB0 := Lib.hid B0; have HBB := Lib.hid hbb
      have HZr := Lib.hid (HZA.out _ hbb)
      clear hbw hkr B0 hbb
      by_cases hlt : k < n
      · have hkl : k < l.length := by have := HL.out; omega
        obtain ⟨b, off, rfl, hb, hc⟩ := HZr.out.cells (by omega)
        obtain ⟨d0, d1, d2⟩ := hc k hkl
        have hk0 : (0 : Int) ≤ k := by omega
        have hk1 : (k : Int) < n := by omega
        have HOK := Lib.hid (HZr.out.2.1 _ (List.getElem_mem hkl))
        have hzn := HOK.out.2.1
        have HC := Lib.hid hc
        have HAK := Lib.hid (zAt_get hkl)
        have F1 : ∀ z : Fam wr, z.val.cell? ⟨b, off + k * 3 + 1, none⟩ = some (.slice l[k].A l[k].n l[k].c) := fun z => z.some_ d1
        have F2 : ∀ z : Fam wr, z.val.cell? ⟨w.heap.size, 0, none⟩ = some (.int .i64 p.1) := fun z => (z.blk HB0.out).cell 0
        have F3 : ∀ z : Fam wr, z.val.cell? ⟨w.heap.size, 1, none⟩ = some (.int .i64 p.2) := fun z => (z.blk HB0.out).cell 1
        have HD2 := Lib.hid d2
        clear hc d0 d1 d2
        obtain ⟨v, hv⟩ : ∃ v, insE l[k].p p = v := ⟨_, rfl⟩
        obtain ⟨i, hi⟩ : ∃ i, insZ l[k].p p = i := ⟨_, rfl⟩
        have HV' : Hid (rinsE l[k].p p = v) := Lib.hid (by rw [← insE_eq]; exact hv)
        have HI' : Hid (rinsZ l[k].p p = i) := Lib.hid (by rw [← insZ_eq]; exact hi)
        have hcs : (v ≠ 0 ∧ Hid (insB (zAt l k) p = false)) ∨ (v = 0 ∧ i < 0 ∧ Hid (insB (zAt l k) p = false)) ∨ (v = 0 ∧ 0 ≤ i ∧ Hid (insB (zAt l k) p = true)) := by
          by_cases g : v = 0
          · rcases Int.lt_or_le i 0 with g1 | g1
            · exact .inr (.inl ⟨g, g1, Lib.hid (by rw [HAK.out]; exact ins_no2 (by rw [hi]; exact g1))⟩)
            · exact .inr (.inr ⟨g, g1, Lib.hid (by rw [HAK.out]; exact ins_yes (by rw [hv]; exact g) (by rw [hi]; exact g1))⟩)
          · exact .inl ⟨g, Lib.hid (by rw [HAK.out]; exact ins_no1 (by rw [hv]; exact g))⟩
        clear hv hi
        rcases hcs with ⟨g, HN⟩ | ⟨rfl, g, HN⟩ | ⟨rfl, g, HN⟩
        · have t0 := eq0_f g
          have HST : Hid (FState l p (k + 1) s6 s7) := Lib.hid (by
            unfold FState at hst ⊢; rw [maxO_no HN.out]
            rcases hst with h | ⟨b', h1, h2⟩
            · exact .inl h
            · exact .inr ⟨b', by omega, h2⟩)
          clear hst g
          go_wp2_with fail
          refine wp_region_fam (by kernel_rfl) (by kernel_rfl) ?_
          repeat (go_big_quiet_step ((go_at_call 24; exact fam_call (rinside_any l[k].A l[k].n l[k].c l[k].p p i v _ (Fam.reads _ HOK.out.1) hzn HI'.out HV'.out))))
          refine wpQuiet_nil ?_
          rintro _ ⟨z1, rfl⟩
          clear F1 F2 F3
          go_wp2_with fail
          refine wp_region_fam (by kernel_rfl) (by kernel_rfl) ?_
          repeat (go_big_quiet_step (fail))
          refine wpQuiet_nil ?_
          rintro _ ⟨z2, rfl⟩
          go_wp2_with fail
          go_roundw
          case rel => exact ⟨k + 1, _, _, by omega, rfl, rfl, by go_num, HST.out, below_next HBW.out (Nat.le_refl _) (below_next z1.prop (Nat.le_refl _) z2.prop)⟩
          case measure => simp [intOf]; omega
        · have t0 : decide (0 ≤ i) = false := decide_eq_false (by omega)
          have HST : Hid (FState l p (k + 1) s6 s7) := Lib.hid (by
            unfold FState at hst ⊢; rw [maxO_no HN.out]
            rcases hst with h | ⟨b', h1, h2⟩
            · exact .inl h
            · exact .inr ⟨b', by omega, h2⟩)
          clear hst
          go_wp2_with fail
          refine wp_region_fam (by kernel_rfl) (by kernel_rfl) ?_
          repeat (go_big_quiet_step ((go_at_call 24; exact fam_call (rinside_any l[k].A l[k].n l[k].c l[k].p p i 0 _ (Fam.reads _ HOK.out.1) hzn HI'.out HV'.out))))
          refine wpQuiet_nil ?_
          rintro _ ⟨z1, rfl⟩
          clear F1 F2 F3
          go_wp2_with fail
          refine wp_region_fam (by kernel_rfl) (by kernel_rfl) ?_
          repeat (go_big_quiet_step (fail))
          refine wpQuiet_nil ?_
          rintro _ ⟨z2, rfl⟩
          go_wp2_with fail
          go_roundw
          case rel => exact ⟨k + 1, _, _, by omega, rfl, rfl, by go_num, HST.out, below_next HBW.out (Nat.le_refl _) (below_next z1.prop (Nat.le_refl _) z2.prop)⟩
          case measure => simp [intOf]; omega
        · have t0 : decide (0 ≤ i) = true := decide_eq_true g
          rcases hst with ⟨ho, rfl, rfl⟩ | ⟨q, hqk, ho, rfl, rfl⟩
          · have HST : Hid (FState l p (k + 1) (.int .i64 k) (.bool true)) := Lib.hid (.inr ⟨k, by omega, maxO_first HN.out ho, rfl, rfl⟩)
            clear ho
            go_wp2_with fail
            refine wp_region_fam (by kernel_rfl) (by kernel_rfl) ?_
            repeat (go_big_quiet_step ((go_at_call 24; exact fam_call (rinside_any l[k].A l[k].n l[k].c l[k].p p i 0 _ (Fam.reads _ HOK.out.1) hzn HI'.out HV'.out))))
            refine wpQuiet_nil ?_
            rintro _ ⟨z1, rfl⟩
            clear F1 F2 F3
            go_wp2_with fail
            refine wp_region_fam (by kernel_rfl) (by kernel_rfl) ?_
            repeat (go_big_quiet_step (fail))
            refine wpQuiet_nil ?_
            rintro _ ⟨z2, rfl⟩
            go_wp2_with fail
            go_roundw
            case rel => exact ⟨k + 1, _, _, by omega, rfl, rfl, by go_num, HST.out, below_next HBW.out (Nat.le_refl _) (below_next z1.prop (Nat.le_refl _) z2.prop)⟩
            case measure => simp [intOf]; omega
          · have hql : q < l.length := by omega
            obtain ⟨_, _, q2⟩ := HC.out q hql
            have hq0 : (0 : Int) ≤ q := by omega
            have hq1 : (q : Int) < n := by omega
            have HAQ := Lib.hid (zAt_get hql)
            obtain ⟨rk, hrk⟩ : ∃ r, l[k].r = r := ⟨_, rfl⟩
            obtain ⟨rq, hrq⟩ : ∃ r, l[q].r = r := ⟨_, rfl⟩
            rw [hrq] at q2
            have F4 : Hid (∀ z : Fam wr, z.val.cell? ⟨b, off + k * 3 + 2, none⟩ = some (.int .i64 rk)) := Lib.hid fun z => z.some_ (by rw [← hrk]; exact HD2.out)
            have F5 : Hid (∀ z : Fam wr, z.val.cell? ⟨b, off + q * 3 + 2, none⟩ = some (.int .i64 rq)) := Lib.hid fun z => z.some_ q2
            clear q2
            have hcs : (rq < rk ∧ Hid (FState l p (k + 1) (.int .i64 k) (.bool true))) ∨ (rk ≤ rq ∧ Hid (FState l p (k + 1) (.int .i64 q) (.bool true))) := by
              by_cases g1 : rq < rk
              · exact .inl ⟨g1, Lib.hid (.inr ⟨k, by omega, maxO_up HN.out ho (by rw [HAQ.out, HAK.out, hrk, hrq]; exact g1), rfl, rfl⟩)⟩
              · exact .inr ⟨by omega, Lib.hid (.inr ⟨q, by omega, maxO_stay HN.out ho (by rw [HAQ.out, HAK.out, hrk, hrq]; exact g1), rfl, rfl⟩)⟩
            clear ho hrk hrq
            rcases hcs with ⟨g1, HST⟩ | ⟨g1, HST⟩
            · have t1 : decide (rq < rk) = true := decide_eq_true g1
              go_wp2_with fail
              refine wp_region_fam (by kernel_rfl) (by kernel_rfl) ?_
              repeat (go_big_quiet_step ((go_at_call 24; exact fam_call (rinside_any l[k].A l[k].n l[k].c l[k].p p i 0 _ (Fam.reads _ HOK.out.1) hzn HI'.out HV'.out))))
              refine wpQuiet_nil ?_
              rintro _ ⟨z1, rfl⟩
              have G4 : ∀ z : Fam z1.val, z.val.cell? ⟨b, off + k * 3 + 2, none⟩ = some (.int .i64 rk) := fun z => z.some_ (F4.out z1)
              have G5 : ∀ z : Fam z1.val, z.val.cell? ⟨b, off + q * 3 + 2, none⟩ = some (.int .i64 rq) := fun z => z.some_ (F5.out z1)
              clear F1 F2 F3
              go_wp2_with fail
              refine wp_region_fam (by kernel_rfl) (by kernel_rfl) ?_
              repeat (go_big_quiet_step (fail))
              refine wpQuiet_nil ?_
              rintro _ ⟨z2, rfl⟩
              clear G4 G5
              go_wp2_with fail
              go_roundw
              case rel => exact ⟨k + 1, _, _, by omega, rfl, rfl, by go_num, HST.out, below_next HBW.out (Nat.le_refl _) (below_next z1.prop (Nat.le_refl _) z2.prop)⟩
              case measure => simp [intOf]; omega
            · have t1 : decide (rq < rk) = false := decide_eq_false (by omega)
              go_wp2_with fail
              refine wp_region_fam (by kernel_rfl) (by kernel_rfl) ?_
              repeat (go_big_quiet_step ((go_at_call 24; exact fam_call (rinside_any l[k].A l[k].n l[k].c l[k].p p i 0 _ (Fam.reads _ HOK.out.1) hzn HI'.out HV'.out))))
              refine wpQuiet_nil ?_
              rintro _ ⟨z1, rfl⟩
              have G4 : ∀ z : Fam z1.val, z.val.cell? ⟨b, off + k * 3 + 2, none⟩ = some (.int .i64 rk) := fun z => z.some_ (F4.out z1)
              have G5 : ∀ z : Fam z1.val, z.val.cell? ⟨b, off + q * 3 + 2, none⟩ = some (.int .i64 rq) := fun z => z.some_ (F5.out z1)
              clear F1 F2 F3
              go_wp2_with fail
              refine wp_region_fam (by kernel_rfl) (by kernel_rfl) ?_
              repeat (go_big_quiet_step (fail))
              refine wpQuiet_nil ?_
              rintro _ ⟨z2, rfl⟩
              clear G4 G5
              go_wp2_with fail
              go_roundw
              case rel => exact ⟨k + 1, _, _, by omega, rfl, rfl, by go_num, HST.out, below_next HBW.out (Nat.le_refl _) (below_next z1.prop (Nat.le_refl _) z2.prop)⟩
              case measure => simp [intOf]; omega
      · have hke : k = l.length := by have := HL.out; omega
        have HXX := Lib.hid HX1.out
        rcases hst with ⟨ho, rfl, rfl⟩ | ⟨q, hqk, ho, rfl, rfl⟩
        · have HN : Hid (none = x) := Lib.hid (by rw [← HX1.out, ← hke]; exact ho.symm)
          clear ho hke
          go_wp2_with fail
          go_ret2
          exact retIO HN.out HBB.out
        · have HN : Hid (some q = x) := Lib.hid (by rw [← HX1.out, ← hke]; exact ho.symm)
          clear ho hke
          go_wp2_with fail
          go_ret2
          exact retIO HN.out HBB.out
  · have HN : Hid (none = x) := Lib.hid (by rw [← HX.out]; unfold rfindZ; rw [if_neg (by rw [hy]; exact h0)])
    have t0 := ne0_t h0
    clear hy h0 HX
    go_enter Try.func15, Try.ntmps15
    go_wp2_with fail
    refine (rzcheck_any A n c l y _ (HZA.out _ HB.out) hn HY.out).mono ?_
    rintro e w2 ⟨rfl, hb2⟩
    replace kk := below_next kk (Nat.le_refl _) hb2
    clear c00 c01 HB hb2
    obtain ⟨B0, hbb⟩ := HK.out _ kk
    have c00 := B0.cell 0
    have c01 := B0.cell 1
    have HB := Lib.hid hbb
    clear B0 hbb
    go_wp2_with fail
    go_ret2
    exact retIO HN.out HB.out
end Go.Proofs.Ytgjfidknedojbaa
