/- The law's permitted. -/
import Derived.Test.YtdgdjlpbnaoheaaPkJ
namespace Go.Proofs.Ytdgdjlpbnaoheaa
open Go.RowKit
/-- The point is not outside of the fence's area. -/
def insB (p : List Pt) (a : Pt) : Bool := decide (rinsE p a = 0) && decide (0 ≤ rinsZ p a)
def badB2 (a : Pt) (t : Int) (f : Fc) : Bool := activeB f t && decide (f.k = 1) && insB f.p a
def onlyB (t : Int) (f : Fc) : Bool := activeB f t && decide (f.k = 2)
def goodB2 (a : Pt) (t : Int) (f : Fc) : Bool := activeB f t && decide (f.k = 2) && insB f.p a
def permB (l : List Fc) (a : Pt) (t : Int) : Bool := !(l.any (badB2 a t)) && (!(l.any (onlyB t)) || l.any (goodB2 a t))
theorem perm_bad {l : List Fc} {a : Pt} {t : Int} {k : Nat} (hk : k < l.length) (h : badB2 a t l[k] = true) : permB l a t = false := by
  unfold permB
  rw [List.any_eq_true.2 ⟨l[k], List.getElem_mem hk, h⟩]; rfl
theorem perm_end {l : List Fc} {a : Pt} {t : Int} (h : ∀ j (hj : j < l.length), badB2 a t l[j] = false) : permB l a t = (!(l.any (onlyB t)) || l.any (goodB2 a t)) := by
  unfold permB
  have : l.any (badB2 a t) = false := by
    rw [List.any_eq_false]
    intro f hf
    obtain ⟨j, hj, rfl⟩ := List.getElem_of_mem hf
    rw [h j hj]; decide
  rw [this]; rfl
set_option maxHeartbeats 8000000 in
set_option maxRecDepth 10000 in
theorem permitted_any (A : Option Addr) (n c : Nat) (l : List Fc) (p : Pt) (t : Int) (x : Bool) (w : World) (h : FcR w A n l) (hn : n ≤ 9223372036854775807) (hx : permB l p t = x) : Calls Try.prog 23 #[.slice A n c, aggP p, .int .i64 t] w (RetB w x) := by
  obtain ⟨kk, hK⟩ := box1K w 25 #[.int .i64 p.1, .int .i64 p.2]
  have HK := Lib.hid hK
  clear hK
  obtain ⟨B0, hbb⟩ := HK.out _ kk
  have c00 := B0.cell 0
  have c01 := B0.cell 1
  have HB := Lib.hid hbb
  clear B0 hbb
  have HZA : Hid (∀ u, Below w.heap.size w u → FcR u A n l) := Lib.hid fun u hu => h.below hu
  have HX := Lib.hid hx; have HL := Lib.hid h.2.2
  clear h hx
  go_enter Try.func23, Try.ntmps23
  go_wp2_with fail
  have HKK := Lib.hid kk
  clear kk HB c00 c01
  go_loopw [7, 8, 9] (fun s1 s2 s3 wr => ∃ (k : Nat) (u v : Bool), k ≤ n ∧ s1 = .bool u ∧ s2 = .bool v ∧ s3 = .int .i64 k ∧ Hid (u = (l.take k).any (onlyB t)) ∧ Hid (v = (l.take k).any (goodB2 p t)) ∧ Hid (∀ j (hj : j < l.length), j < k → badB2 p t l[j] = false) ∧ Below (w.alloc (.cells #[.int .i64 p.1, .int .i64 p.2] 25)).heap.size (w.alloc (.cells #[.int .i64 p.1, .int .i64 p.2] 25)) wr) (fun _ _ s _ => n - (intOf s).toNat)
  case atStart => exact ⟨0, false, false, Nat.zero_le _, rfl, rfl, rfl, Lib.hid rfl, Lib.hid rfl, Lib.hid (fun _ _ h => absurd h (Nat.not_lt_zero _)), HKK.out⟩
  case round =>
    obtain ⟨wo, rfl⟩ : ∃ wo : World, wo = wr := ⟨_, rfl⟩
    obtain ⟨k, u, v, hk, rfl, rfl, rfl, HU, HV, HA, hbw⟩ := hrel
    have HBW := Lib.hid hbw
    obtain ⟨B0, hbb⟩ := HK.out _ hbw
    have HBB := Lib.hid hbb; have HB0 := Lib.hid B0
    have HZr := Lib.hid (HZA.out _ hbb)
    clear hbw B0 hbb
    by_cases hlt : k < n
    · have hkl : k < l.length := by have := HL.out; omega
      obtain ⟨b, off, rfl, hb, hc⟩ := HZr.out.cells (by omega)
      obtain ⟨d0, d1, d2, d3, d4, d5⟩ := hc k hkl
      have hk0 : (0 : Int) ≤ k := by omega
      have hk1 : (k : Int) < n := by omega
      have HS1 : Hid ((l.take (k + 1)).any (onlyB t) = (u || onlyB t l[k])) := Lib.hid (by rw [any_take _ hkl, ← HU.out])
      have HS2 : Hid ((l.take (k + 1)).any (goodB2 p t) = (v || goodB2 p t l[k])) := Lib.hid (by rw [any_take _ hkl, ← HV.out])
      have HBAD : Hid (badB2 p t l[k] = true → false = x) := Lib.hid fun g => by rw [← HX.out, perm_bad hkl g]
      have HOK : Hid (badB2 p t l[k] = false → ∀ j (hj : j < l.length), j < k + 1 → badB2 p t l[j] = false) := Lib.hid fun g j hj hjk => by
        rcases Nat.lt_or_eq_of_le (Nat.lt_succ_iff.1 hjk) with h' | rfl
        · exact HA.out j hj h'
        · exact g
      obtain ⟨f, hz⟩ : ∃ f, l[k] = f := ⟨_, rfl⟩
      rw [hz] at d0 d1 d2 d3 d4 d5 HS1 HS2 HBAD HOK
      have HPF : Hid (Reads wo wo.heap.size 2 f.A f.n (cellsPt f.p) ∧ f.n ≤ 9223372036854775807) := Lib.hid (by rw [← hz]; exact HZr.out.2.1 _ (List.getElem_mem hkl))
      have hzn := HPF.out.2
      have HD : Hid (wo.cell? ⟨b, off + k * 6, none⟩ = some (.int .i64 f.k) ∧ wo.cell? ⟨b, off + k * 6 + 1, none⟩ = some (.slice f.A f.n f.c)) := Lib.hid ⟨d0, d1⟩
      clear hc hz
      rcases ha : activeB f t with _ | _
      · have HAC := Lib.hid ha
        have HN := Lib.hid (HOK.out (by unfold badB2; rw [ha]; rfl))
        have HU2 : Hid (u = (l.take (k + 1)).any (onlyB t)) := Lib.hid (by rw [HS1.out]; unfold onlyB; rw [ha]; simp)
        have HV2 : Hid (v = (l.take (k + 1)).any (goodB2 p t)) := Lib.hid (by rw [HS2.out]; unfold goodB2; rw [ha]; simp)
        clear ha
        go_wp2_with fail
        refine (ractive_any f t false _ HAC.out).mono ?_
        rintro e w5 ⟨rfl, hb5⟩
        have HB5 := Lib.hid (below_next HBW.out (Nat.le_refl _) hb5)
        clear hb5 d0 d1 d2 d3 d4 d5
        go_wp2_with fail
        go_roundw
        case rel => exact ⟨k + 1, u, v, by omega, rfl, rfl, by go_num, HU2, HV2, HN, HB5.out⟩
        case measure => simp [intOf]; omega
      have HAC := Lib.hid ha
      obtain ⟨si, hsi⟩ : ∃ z, rinsZ f.p p = z := ⟨_, rfl⟩
      obtain ⟨se, hse⟩ : ∃ z, rinsE f.p p = z := ⟨_, rfl⟩
      have HSI := Lib.hid hsi; have HSE := Lib.hid hse
      have HBD : Hid (badB2 p t f = (decide (f.k = 1) && (decide (se = 0) && decide (0 ≤ si)))) := Lib.hid (by unfold badB2 insB; rw [ha, hsi, hse, Bool.true_and])
      have HOD : Hid (onlyB t f = decide (f.k = 2)) := Lib.hid (by unfold onlyB; rw [ha, Bool.true_and])
      have HGD : Hid (goodB2 p t f = (decide (f.k = 2) && (decide (se = 0) && decide (0 ≤ si)))) := Lib.hid (by unfold goodB2 insB; rw [ha, hsi, hse, Bool.true_and])
      clear ha hsi hse
      have hcs : (se ≠ 0 ∨ (se = 0 ∧ si < 0)) ∨ (se = 0 ∧ 0 ≤ si) := by omega
      have hks : (f.k = 1) ∨ (f.k = 2) ∨ (f.k ≠ 1 ∧ f.k ≠ 2) := by omega
      rcases hcs with (s1 | ⟨s1, s2⟩) | ⟨s1, s2⟩
      · rcases hks with k1 | k1 | ⟨k1, k2⟩
        · skip
          have z1 : (se == 0) = false := by simp [s1]
          have z2 : decide (se = 0) = false := by simp [s1]
          have HIN : Hid ((decide (se = 0) && decide (0 ≤ si)) = false) := Lib.hid (by rw [z2]; rfl)
          have y1 : (f.k == 1) = true := by simp [k1]
          have y2 : (f.k == 2) = false := by simp [k1]
          have y3 : decide (f.k = 1) = true := by simp [k1]
          have y4 : decide (f.k = 2) = false := by simp [k1]
          have HB1 := Lib.hid HBD.out; have HB2 := Lib.hid HOD.out; have HB3 := Lib.hid HGD.out
          have HN := Lib.hid (HOK.out (by rw [HBD.out, HIN.out]; simp))
          have HU2 : Hid (u = (l.take (k + 1)).any (onlyB t)) := Lib.hid (by rw [HS1.out, HOD.out, y4]; simp)
          have HV2 : Hid (v = (l.take (k + 1)).any (goodB2 p t)) := Lib.hid (by rw [HS2.out, HGD.out, y4, HIN.out]; simp)
          clear HB1 HB2 HB3 HBD HOD HGD k1 s1
          go_wp2_with fail
          refine (ractive_any f t true _ HAC.out).mono ?_
          rintro e w5 ⟨rfl, hb5⟩
          have HB5 := Lib.hid (below_next HBW.out (Nat.le_refl _) hb5)
          have h0 := (hb5.cell (p := ⟨b, off + k * 6, none⟩) hb).trans HD.out.1
          have h1 := (hb5.cell (p := ⟨b, off + k * 6 + 1, none⟩) hb).trans HD.out.2
          have HP5 := Lib.hid ((HPF.out.1.below hb5).more hb5.size)
          have HC5 := Lib.hid (HB0.out.ofBelow hb5)
          have p0 := (HC5.out.cell 0).trans rfl; have p1 := (HC5.out.cell 1).trans rfl
          clear hb5 d0 d1 d2 d3 d4 d5
          go_wp2_with fail
          have P0 : ∀ z : Fam w5, z.val.cell? ⟨w.heap.size, 0, none⟩ = some (.int .i64 p.1) := fun z => z.some_ p0
          have P1 : ∀ z : Fam w5, z.val.cell? ⟨w.heap.size, 1, none⟩ = some (.int .i64 p.2) := fun z => z.some_ p1
          have H0 : ∀ z : Fam w5, z.val.cell? ⟨b, off + k * 6, none⟩ = some (.int .i64 f.k) := fun z => z.some_ h0
          have H1 : ∀ z : Fam w5, z.val.cell? ⟨b, off + k * 6 + 1, none⟩ = some (.slice f.A f.n f.c) := fun z => z.some_ h1
          clear p0 p1 h0 h1
          refine wp_region_fam (by kernel_rfl) (by kernel_rfl) ?_
          repeat (go_big_quiet_step ((go_at_call 43; exact fam_call (rinside_any f.A f.n f.c f.p p si _ _ (Fam.reads _ HP5.out) hzn HSI.out HSE.out))))
          refine wpQuiet_nil ?_
          rintro _ ⟨z1', rfl⟩
          have g0 := H0 z1'
          have HB6 := Lib.hid (below_next HB5.out (Nat.le_refl _) z1'.prop)
          clear P0 P1 H0 H1
          go_wp2_with fail
          go_roundw
          case rel => exact ⟨k + 1, _, _, by omega, rfl, rfl, by go_num, HU2, HV2, HN, HB6.out⟩
          case measure => simp [intOf]; omega
        · skip
          have z1 : (se == 0) = false := by simp [s1]
          have z2 : decide (se = 0) = false := by simp [s1]
          have HIN : Hid ((decide (se = 0) && decide (0 ≤ si)) = false) := Lib.hid (by rw [z2]; rfl)
          have y1 : (f.k == 1) = false := by simp [k1]
          have y2 : (f.k == 2) = true := by simp [k1]
          have y3 : decide (f.k = 1) = false := by simp [k1]
          have y4 : decide (f.k = 2) = true := by simp [k1]
          have HB1 := Lib.hid HBD.out; have HB2 := Lib.hid HOD.out; have HB3 := Lib.hid HGD.out
          have HN := Lib.hid (HOK.out (by rw [HBD.out, HIN.out]; simp))
          have HU2 : Hid (true = (l.take (k + 1)).any (onlyB t)) := Lib.hid (by rw [HS1.out, HOD.out, y4]; simp)
          have HV2 : Hid ((v || false) = (l.take (k + 1)).any (goodB2 p t)) := Lib.hid (by rw [HS2.out, HGD.out, y4, HIN.out]; simp)
          clear HB1 HB2 HB3 HBD HOD HGD k1 s1
          go_wp2_with fail
          refine (ractive_any f t true _ HAC.out).mono ?_
          rintro e w5 ⟨rfl, hb5⟩
          have HB5 := Lib.hid (below_next HBW.out (Nat.le_refl _) hb5)
          have h0 := (hb5.cell (p := ⟨b, off + k * 6, none⟩) hb).trans HD.out.1
          have h1 := (hb5.cell (p := ⟨b, off + k * 6 + 1, none⟩) hb).trans HD.out.2
          have HP5 := Lib.hid ((HPF.out.1.below hb5).more hb5.size)
          have HC5 := Lib.hid (HB0.out.ofBelow hb5)
          have p0 := (HC5.out.cell 0).trans rfl; have p1 := (HC5.out.cell 1).trans rfl
          clear hb5 d0 d1 d2 d3 d4 d5
          go_wp2_with fail
          have P0 : ∀ z : Fam w5, z.val.cell? ⟨w.heap.size, 0, none⟩ = some (.int .i64 p.1) := fun z => z.some_ p0
          have P1 : ∀ z : Fam w5, z.val.cell? ⟨w.heap.size, 1, none⟩ = some (.int .i64 p.2) := fun z => z.some_ p1
          have H0 : ∀ z : Fam w5, z.val.cell? ⟨b, off + k * 6, none⟩ = some (.int .i64 f.k) := fun z => z.some_ h0
          have H1 : ∀ z : Fam w5, z.val.cell? ⟨b, off + k * 6 + 1, none⟩ = some (.slice f.A f.n f.c) := fun z => z.some_ h1
          clear p0 p1 h0 h1
          refine wp_region_fam (by kernel_rfl) (by kernel_rfl) ?_
          repeat (go_big_quiet_step ((go_at_call 43; exact fam_call (rinside_any f.A f.n f.c f.p p si _ _ (Fam.reads _ HP5.out) hzn HSI.out HSE.out))))
          refine wpQuiet_nil ?_
          rintro _ ⟨z1', rfl⟩
          have g0 := H0 z1'
          have HB6 := Lib.hid (below_next HB5.out (Nat.le_refl _) z1'.prop)
          clear P0 P1 H0 H1
          rcases v with _ | _
          all_goals
            go_wp2_with fail
            go_roundw
            case rel => exact ⟨k + 1, _, _, by omega, rfl, rfl, by go_num, HU2, HV2, HN, HB6.out⟩
            case measure => simp [intOf]; omega
        · skip
          have z1 : (se == 0) = false := by simp [s1]
          have z2 : decide (se = 0) = false := by simp [s1]
          have HIN : Hid ((decide (se = 0) && decide (0 ≤ si)) = false) := Lib.hid (by rw [z2]; rfl)
          have y1 : (f.k == 1) = false := by simp [k1]
          have y2 : (f.k == 2) = false := by simp [k2]
          have y3 : decide (f.k = 1) = false := by simp [k1]
          have y4 : decide (f.k = 2) = false := by simp [k2]
          have HB1 := Lib.hid HBD.out; have HB2 := Lib.hid HOD.out; have HB3 := Lib.hid HGD.out
          have HN := Lib.hid (HOK.out (by rw [HBD.out, HIN.out]; simp))
          have HU2 : Hid (u = (l.take (k + 1)).any (onlyB t)) := Lib.hid (by rw [HS1.out, HOD.out, y4]; simp)
          have HV2 : Hid (v = (l.take (k + 1)).any (goodB2 p t)) := Lib.hid (by rw [HS2.out, HGD.out, y4, HIN.out]; simp)
          clear HB1 HB2 HB3 HBD HOD HGD k1 k2 s1
          go_wp2_with fail
          refine (ractive_any f t true _ HAC.out).mono ?_
          rintro e w5 ⟨rfl, hb5⟩
          have HB5 := Lib.hid (below_next HBW.out (Nat.le_refl _) hb5)
          have h0 := (hb5.cell (p := ⟨b, off + k * 6, none⟩) hb).trans HD.out.1
          have h1 := (hb5.cell (p := ⟨b, off + k * 6 + 1, none⟩) hb).trans HD.out.2
          have HP5 := Lib.hid ((HPF.out.1.below hb5).more hb5.size)
          have HC5 := Lib.hid (HB0.out.ofBelow hb5)
          have p0 := (HC5.out.cell 0).trans rfl; have p1 := (HC5.out.cell 1).trans rfl
          clear hb5 d0 d1 d2 d3 d4 d5
          go_wp2_with fail
          have P0 : ∀ z : Fam w5, z.val.cell? ⟨w.heap.size, 0, none⟩ = some (.int .i64 p.1) := fun z => z.some_ p0
          have P1 : ∀ z : Fam w5, z.val.cell? ⟨w.heap.size, 1, none⟩ = some (.int .i64 p.2) := fun z => z.some_ p1
          have H0 : ∀ z : Fam w5, z.val.cell? ⟨b, off + k * 6, none⟩ = some (.int .i64 f.k) := fun z => z.some_ h0
          have H1 : ∀ z : Fam w5, z.val.cell? ⟨b, off + k * 6 + 1, none⟩ = some (.slice f.A f.n f.c) := fun z => z.some_ h1
          clear p0 p1 h0 h1
          refine wp_region_fam (by kernel_rfl) (by kernel_rfl) ?_
          repeat (go_big_quiet_step ((go_at_call 43; exact fam_call (rinside_any f.A f.n f.c f.p p si _ _ (Fam.reads _ HP5.out) hzn HSI.out HSE.out))))
          refine wpQuiet_nil ?_
          rintro _ ⟨z1', rfl⟩
          have g0 := H0 z1'
          have HB6 := Lib.hid (below_next HB5.out (Nat.le_refl _) z1'.prop)
          clear P0 P1 H0 H1
          go_wp2_with fail
          go_roundw
          case rel => exact ⟨k + 1, _, _, by omega, rfl, rfl, by go_num, HU2, HV2, HN, HB6.out⟩
          case measure => simp [intOf]; omega
      · rcases hks with k1 | k1 | ⟨k1, k2⟩
        · skip
          subst s1
          have z3 : decide (0 ≤ si) = false := by simp; omega
          have HIN : Hid ((decide ((0 : Int) = 0) && decide (0 ≤ si)) = false) := Lib.hid (by rw [z3]; rfl)
          have sl : si < 0 := by omega
          have y1 : (f.k == 1) = true := by simp [k1]
          have y2 : (f.k == 2) = false := by simp [k1]
          have y3 : decide (f.k = 1) = true := by simp [k1]
          have y4 : decide (f.k = 2) = false := by simp [k1]
          have HB1 := Lib.hid HBD.out; have HB2 := Lib.hid HOD.out; have HB3 := Lib.hid HGD.out
          have HN := Lib.hid (HOK.out (by rw [HBD.out, HIN.out]; simp))
          have HU2 : Hid (u = (l.take (k + 1)).any (onlyB t)) := Lib.hid (by rw [HS1.out, HOD.out, y4]; simp)
          have HV2 : Hid (v = (l.take (k + 1)).any (goodB2 p t)) := Lib.hid (by rw [HS2.out, HGD.out, y4, HIN.out]; simp)
          clear HB1 HB2 HB3 HBD HOD HGD k1
          go_wp2_with fail
          refine (ractive_any f t true _ HAC.out).mono ?_
          rintro e w5 ⟨rfl, hb5⟩
          have HB5 := Lib.hid (below_next HBW.out (Nat.le_refl _) hb5)
          have h0 := (hb5.cell (p := ⟨b, off + k * 6, none⟩) hb).trans HD.out.1
          have h1 := (hb5.cell (p := ⟨b, off + k * 6 + 1, none⟩) hb).trans HD.out.2
          have HP5 := Lib.hid ((HPF.out.1.below hb5).more hb5.size)
          have HC5 := Lib.hid (HB0.out.ofBelow hb5)
          have p0 := (HC5.out.cell 0).trans rfl; have p1 := (HC5.out.cell 1).trans rfl
          clear hb5 d0 d1 d2 d3 d4 d5
          go_wp2_with fail
          have P0 : ∀ z : Fam w5, z.val.cell? ⟨w.heap.size, 0, none⟩ = some (.int .i64 p.1) := fun z => z.some_ p0
          have P1 : ∀ z : Fam w5, z.val.cell? ⟨w.heap.size, 1, none⟩ = some (.int .i64 p.2) := fun z => z.some_ p1
          have H0 : ∀ z : Fam w5, z.val.cell? ⟨b, off + k * 6, none⟩ = some (.int .i64 f.k) := fun z => z.some_ h0
          have H1 : ∀ z : Fam w5, z.val.cell? ⟨b, off + k * 6 + 1, none⟩ = some (.slice f.A f.n f.c) := fun z => z.some_ h1
          clear p0 p1 h0 h1
          refine wp_region_fam (by kernel_rfl) (by kernel_rfl) ?_
          repeat (go_big_quiet_step ((go_at_call 43; exact fam_call (rinside_any f.A f.n f.c f.p p si _ _ (Fam.reads _ HP5.out) hzn HSI.out HSE.out))))
          refine wpQuiet_nil ?_
          rintro _ ⟨z1', rfl⟩
          have g0 := H0 z1'
          have HB6 := Lib.hid (below_next HB5.out (Nat.le_refl _) z1'.prop)
          clear P0 P1 H0 H1
          go_wp2_with fail
          go_roundw
          case rel => exact ⟨k + 1, _, _, by omega, rfl, rfl, by go_num, HU2, HV2, HN, HB6.out⟩
          case measure => simp [intOf]; omega
        · skip
          subst s1
          have z3 : decide (0 ≤ si) = false := by simp; omega
          have HIN : Hid ((decide ((0 : Int) = 0) && decide (0 ≤ si)) = false) := Lib.hid (by rw [z3]; rfl)
          have sl : si < 0 := by omega
          have y1 : (f.k == 1) = false := by simp [k1]
          have y2 : (f.k == 2) = true := by simp [k1]
          have y3 : decide (f.k = 1) = false := by simp [k1]
          have y4 : decide (f.k = 2) = true := by simp [k1]
          have HB1 := Lib.hid HBD.out; have HB2 := Lib.hid HOD.out; have HB3 := Lib.hid HGD.out
          have HN := Lib.hid (HOK.out (by rw [HBD.out, HIN.out]; simp))
          have HU2 : Hid (true = (l.take (k + 1)).any (onlyB t)) := Lib.hid (by rw [HS1.out, HOD.out, y4]; simp)
          have HV2 : Hid ((v || false) = (l.take (k + 1)).any (goodB2 p t)) := Lib.hid (by rw [HS2.out, HGD.out, y4, HIN.out]; simp)
          clear HB1 HB2 HB3 HBD HOD HGD k1
          go_wp2_with fail
          refine (ractive_any f t true _ HAC.out).mono ?_
          rintro e w5 ⟨rfl, hb5⟩
          have HB5 := Lib.hid (below_next HBW.out (Nat.le_refl _) hb5)
          have h0 := (hb5.cell (p := ⟨b, off + k * 6, none⟩) hb).trans HD.out.1
          have h1 := (hb5.cell (p := ⟨b, off + k * 6 + 1, none⟩) hb).trans HD.out.2
          have HP5 := Lib.hid ((HPF.out.1.below hb5).more hb5.size)
          have HC5 := Lib.hid (HB0.out.ofBelow hb5)
          have p0 := (HC5.out.cell 0).trans rfl; have p1 := (HC5.out.cell 1).trans rfl
          clear hb5 d0 d1 d2 d3 d4 d5
          go_wp2_with fail
          have P0 : ∀ z : Fam w5, z.val.cell? ⟨w.heap.size, 0, none⟩ = some (.int .i64 p.1) := fun z => z.some_ p0
          have P1 : ∀ z : Fam w5, z.val.cell? ⟨w.heap.size, 1, none⟩ = some (.int .i64 p.2) := fun z => z.some_ p1
          have H0 : ∀ z : Fam w5, z.val.cell? ⟨b, off + k * 6, none⟩ = some (.int .i64 f.k) := fun z => z.some_ h0
          have H1 : ∀ z : Fam w5, z.val.cell? ⟨b, off + k * 6 + 1, none⟩ = some (.slice f.A f.n f.c) := fun z => z.some_ h1
          clear p0 p1 h0 h1
          refine wp_region_fam (by kernel_rfl) (by kernel_rfl) ?_
          repeat (go_big_quiet_step ((go_at_call 43; exact fam_call (rinside_any f.A f.n f.c f.p p si _ _ (Fam.reads _ HP5.out) hzn HSI.out HSE.out))))
          refine wpQuiet_nil ?_
          rintro _ ⟨z1', rfl⟩
          have g0 := H0 z1'
          have HB6 := Lib.hid (below_next HB5.out (Nat.le_refl _) z1'.prop)
          clear P0 P1 H0 H1
          rcases v with _ | _
          all_goals
            go_wp2_with fail
            go_roundw
            case rel => exact ⟨k + 1, _, _, by omega, rfl, rfl, by go_num, HU2, HV2, HN, HB6.out⟩
            case measure => simp [intOf]; omega
        · skip
          subst s1
          have z3 : decide (0 ≤ si) = false := by simp; omega
          have HIN : Hid ((decide ((0 : Int) = 0) && decide (0 ≤ si)) = false) := Lib.hid (by rw [z3]; rfl)
          have sl : si < 0 := by omega
          have y1 : (f.k == 1) = false := by simp [k1]
          have y2 : (f.k == 2) = false := by simp [k2]
          have y3 : decide (f.k = 1) = false := by simp [k1]
          have y4 : decide (f.k = 2) = false := by simp [k2]
          have HB1 := Lib.hid HBD.out; have HB2 := Lib.hid HOD.out; have HB3 := Lib.hid HGD.out
          have HN := Lib.hid (HOK.out (by rw [HBD.out, HIN.out]; simp))
          have HU2 : Hid (u = (l.take (k + 1)).any (onlyB t)) := Lib.hid (by rw [HS1.out, HOD.out, y4]; simp)
          have HV2 : Hid (v = (l.take (k + 1)).any (goodB2 p t)) := Lib.hid (by rw [HS2.out, HGD.out, y4, HIN.out]; simp)
          clear HB1 HB2 HB3 HBD HOD HGD k1 k2
          go_wp2_with fail
          refine (ractive_any f t true _ HAC.out).mono ?_
          rintro e w5 ⟨rfl, hb5⟩
          have HB5 := Lib.hid (below_next HBW.out (Nat.le_refl _) hb5)
          have h0 := (hb5.cell (p := ⟨b, off + k * 6, none⟩) hb).trans HD.out.1
          have h1 := (hb5.cell (p := ⟨b, off + k * 6 + 1, none⟩) hb).trans HD.out.2
          have HP5 := Lib.hid ((HPF.out.1.below hb5).more hb5.size)
          have HC5 := Lib.hid (HB0.out.ofBelow hb5)
          have p0 := (HC5.out.cell 0).trans rfl; have p1 := (HC5.out.cell 1).trans rfl
          clear hb5 d0 d1 d2 d3 d4 d5
          go_wp2_with fail
          have P0 : ∀ z : Fam w5, z.val.cell? ⟨w.heap.size, 0, none⟩ = some (.int .i64 p.1) := fun z => z.some_ p0
          have P1 : ∀ z : Fam w5, z.val.cell? ⟨w.heap.size, 1, none⟩ = some (.int .i64 p.2) := fun z => z.some_ p1
          have H0 : ∀ z : Fam w5, z.val.cell? ⟨b, off + k * 6, none⟩ = some (.int .i64 f.k) := fun z => z.some_ h0
          have H1 : ∀ z : Fam w5, z.val.cell? ⟨b, off + k * 6 + 1, none⟩ = some (.slice f.A f.n f.c) := fun z => z.some_ h1
          clear p0 p1 h0 h1
          refine wp_region_fam (by kernel_rfl) (by kernel_rfl) ?_
          repeat (go_big_quiet_step ((go_at_call 43; exact fam_call (rinside_any f.A f.n f.c f.p p si _ _ (Fam.reads _ HP5.out) hzn HSI.out HSE.out))))
          refine wpQuiet_nil ?_
          rintro _ ⟨z1', rfl⟩
          have g0 := H0 z1'
          have HB6 := Lib.hid (below_next HB5.out (Nat.le_refl _) z1'.prop)
          clear P0 P1 H0 H1
          go_wp2_with fail
          go_roundw
          case rel => exact ⟨k + 1, _, _, by omega, rfl, rfl, by go_num, HU2, HV2, HN, HB6.out⟩
          case measure => simp [intOf]; omega
      · rcases hks with k1 | k1 | ⟨k1, k2⟩
        · skip
          subst s1
          have z3 : decide (0 ≤ si) = true := by simp; omega
          have HIN : Hid ((decide ((0 : Int) = 0) && decide (0 ≤ si)) = true) := Lib.hid (by rw [z3]; rfl)
          have sl : 0 ≤ si := by omega
          have y1 : (f.k == 1) = true := by simp [k1]
          have y2 : (f.k == 2) = false := by simp [k1]
          have y3 : decide (f.k = 1) = true := by simp [k1]
          have y4 : decide (f.k = 2) = false := by simp [k1]
          have HB1 := Lib.hid HBD.out; have HB2 := Lib.hid HOD.out; have HB3 := Lib.hid HGD.out
          have HX2 := Lib.hid (HBAD.out (by rw [HBD.out, y3, HIN.out]; rfl))
          clear HB1 HB2 HB3 HBD HOD HGD k1
          go_wp2_with fail
          refine (ractive_any f t true _ HAC.out).mono ?_
          rintro e w5 ⟨rfl, hb5⟩
          have HB5 := Lib.hid (below_next HBW.out (Nat.le_refl _) hb5)
          have h0 := (hb5.cell (p := ⟨b, off + k * 6, none⟩) hb).trans HD.out.1
          have h1 := (hb5.cell (p := ⟨b, off + k * 6 + 1, none⟩) hb).trans HD.out.2
          have HP5 := Lib.hid ((HPF.out.1.below hb5).more hb5.size)
          have HC5 := Lib.hid (HB0.out.ofBelow hb5)
          have p0 := (HC5.out.cell 0).trans rfl; have p1 := (HC5.out.cell 1).trans rfl
          clear hb5 d0 d1 d2 d3 d4 d5
          go_wp2_with fail
          have P0 : ∀ z : Fam w5, z.val.cell? ⟨w.heap.size, 0, none⟩ = some (.int .i64 p.1) := fun z => z.some_ p0
          have P1 : ∀ z : Fam w5, z.val.cell? ⟨w.heap.size, 1, none⟩ = some (.int .i64 p.2) := fun z => z.some_ p1
          have H0 : ∀ z : Fam w5, z.val.cell? ⟨b, off + k * 6, none⟩ = some (.int .i64 f.k) := fun z => z.some_ h0
          have H1 : ∀ z : Fam w5, z.val.cell? ⟨b, off + k * 6 + 1, none⟩ = some (.slice f.A f.n f.c) := fun z => z.some_ h1
          clear p0 p1 h0 h1
          refine wp_region_fam (by kernel_rfl) (by kernel_rfl) ?_
          repeat (go_big_quiet_step ((go_at_call 43; exact fam_call (rinside_any f.A f.n f.c f.p p si _ _ (Fam.reads _ HP5.out) hzn HSI.out HSE.out))))
          refine wpQuiet_nil ?_
          rintro _ ⟨z1', rfl⟩
          have g0 := H0 z1'
          have HB6 := Lib.hid (below_next HB5.out (Nat.le_refl _) z1'.prop)
          clear P0 P1 H0 H1
          go_wp2_with fail
          have HB7 := Lib.hid (HK.out _ HB6.out).2
          go_ret
          exact ⟨ret_bool HX2.out, HB7.out⟩
        · skip
          subst s1
          have z3 : decide (0 ≤ si) = true := by simp; omega
          have HIN : Hid ((decide ((0 : Int) = 0) && decide (0 ≤ si)) = true) := Lib.hid (by rw [z3]; rfl)
          have sl : 0 ≤ si := by omega
          have y1 : (f.k == 1) = false := by simp [k1]
          have y2 : (f.k == 2) = true := by simp [k1]
          have y3 : decide (f.k = 1) = false := by simp [k1]
          have y4 : decide (f.k = 2) = true := by simp [k1]
          have HB1 := Lib.hid HBD.out; have HB2 := Lib.hid HOD.out; have HB3 := Lib.hid HGD.out
          have HN := Lib.hid (HOK.out (by rw [HBD.out, y3]; simp))
          have HU2 : Hid (true = (l.take (k + 1)).any (onlyB t)) := Lib.hid (by rw [HS1.out, HOD.out, y4]; simp)
          have HV2 : Hid ((v || true) = (l.take (k + 1)).any (goodB2 p t)) := Lib.hid (by rw [HS2.out, HGD.out, y4, HIN.out]; simp)
          clear HB1 HB2 HB3 HBD HOD HGD k1
          go_wp2_with fail
          refine (ractive_any f t true _ HAC.out).mono ?_
          rintro e w5 ⟨rfl, hb5⟩
          have HB5 := Lib.hid (below_next HBW.out (Nat.le_refl _) hb5)
          have h0 := (hb5.cell (p := ⟨b, off + k * 6, none⟩) hb).trans HD.out.1
          have h1 := (hb5.cell (p := ⟨b, off + k * 6 + 1, none⟩) hb).trans HD.out.2
          have HP5 := Lib.hid ((HPF.out.1.below hb5).more hb5.size)
          have HC5 := Lib.hid (HB0.out.ofBelow hb5)
          have p0 := (HC5.out.cell 0).trans rfl; have p1 := (HC5.out.cell 1).trans rfl
          clear hb5 d0 d1 d2 d3 d4 d5
          go_wp2_with fail
          have P0 : ∀ z : Fam w5, z.val.cell? ⟨w.heap.size, 0, none⟩ = some (.int .i64 p.1) := fun z => z.some_ p0
          have P1 : ∀ z : Fam w5, z.val.cell? ⟨w.heap.size, 1, none⟩ = some (.int .i64 p.2) := fun z => z.some_ p1
          have H0 : ∀ z : Fam w5, z.val.cell? ⟨b, off + k * 6, none⟩ = some (.int .i64 f.k) := fun z => z.some_ h0
          have H1 : ∀ z : Fam w5, z.val.cell? ⟨b, off + k * 6 + 1, none⟩ = some (.slice f.A f.n f.c) := fun z => z.some_ h1
          clear p0 p1 h0 h1
          refine wp_region_fam (by kernel_rfl) (by kernel_rfl) ?_
          repeat (go_big_quiet_step ((go_at_call 43; exact fam_call (rinside_any f.A f.n f.c f.p p si _ _ (Fam.reads _ HP5.out) hzn HSI.out HSE.out))))
          refine wpQuiet_nil ?_
          rintro _ ⟨z1', rfl⟩
          have g0 := H0 z1'
          have HB6 := Lib.hid (below_next HB5.out (Nat.le_refl _) z1'.prop)
          clear P0 P1 H0 H1
          rcases v with _ | _
          all_goals
            go_wp2_with fail
            go_roundw
            case rel => exact ⟨k + 1, _, _, by omega, rfl, rfl, by go_num, HU2, HV2, HN, HB6.out⟩
            case measure => simp [intOf]; omega
        · skip
          subst s1
          have z3 : decide (0 ≤ si) = true := by simp; omega
          have HIN : Hid ((decide ((0 : Int) = 0) && decide (0 ≤ si)) = true) := Lib.hid (by rw [z3]; rfl)
          have sl : 0 ≤ si := by omega
          have y1 : (f.k == 1) = false := by simp [k1]
          have y2 : (f.k == 2) = false := by simp [k2]
          have y3 : decide (f.k = 1) = false := by simp [k1]
          have y4 : decide (f.k = 2) = false := by simp [k2]
          have HB1 := Lib.hid HBD.out; have HB2 := Lib.hid HOD.out; have HB3 := Lib.hid HGD.out
          have HN := Lib.hid (HOK.out (by rw [HBD.out, y3]; simp))
          have HU2 : Hid (u = (l.take (k + 1)).any (onlyB t)) := Lib.hid (by rw [HS1.out, HOD.out, y4]; simp)
          have HV2 : Hid (v = (l.take (k + 1)).any (goodB2 p t)) := Lib.hid (by rw [HS2.out, HGD.out, y4, HIN.out]; simp)
          clear HB1 HB2 HB3 HBD HOD HGD k1 k2
          go_wp2_with fail
          refine (ractive_any f t true _ HAC.out).mono ?_
          rintro e w5 ⟨rfl, hb5⟩
          have HB5 := Lib.hid (below_next HBW.out (Nat.le_refl _) hb5)
          have h0 := (hb5.cell (p := ⟨b, off + k * 6, none⟩) hb).trans HD.out.1
          have h1 := (hb5.cell (p := ⟨b, off + k * 6 + 1, none⟩) hb).trans HD.out.2
          have HP5 := Lib.hid ((HPF.out.1.below hb5).more hb5.size)
          have HC5 := Lib.hid (HB0.out.ofBelow hb5)
          have p0 := (HC5.out.cell 0).trans rfl; have p1 := (HC5.out.cell 1).trans rfl
          clear hb5 d0 d1 d2 d3 d4 d5
          go_wp2_with fail
          have P0 : ∀ z : Fam w5, z.val.cell? ⟨w.heap.size, 0, none⟩ = some (.int .i64 p.1) := fun z => z.some_ p0
          have P1 : ∀ z : Fam w5, z.val.cell? ⟨w.heap.size, 1, none⟩ = some (.int .i64 p.2) := fun z => z.some_ p1
          have H0 : ∀ z : Fam w5, z.val.cell? ⟨b, off + k * 6, none⟩ = some (.int .i64 f.k) := fun z => z.some_ h0
          have H1 : ∀ z : Fam w5, z.val.cell? ⟨b, off + k * 6 + 1, none⟩ = some (.slice f.A f.n f.c) := fun z => z.some_ h1
          clear p0 p1 h0 h1
          refine wp_region_fam (by kernel_rfl) (by kernel_rfl) ?_
          repeat (go_big_quiet_step ((go_at_call 43; exact fam_call (rinside_any f.A f.n f.c f.p p si _ _ (Fam.reads _ HP5.out) hzn HSI.out HSE.out))))
          refine wpQuiet_nil ?_
          rintro _ ⟨z1', rfl⟩
          have g0 := H0 z1'
          have HB6 := Lib.hid (below_next HB5.out (Nat.le_refl _) z1'.prop)
          clear P0 P1 H0 H1
          go_wp2_with fail
          go_roundw
          case rel => exact ⟨k + 1, _, _, by omega, rfl, rfl, by go_num, HU2, HV2, HN, HB6.out⟩
          case measure => simp [intOf]; omega
    · have hle : l.take k = l := List.take_of_length_le (by have := HL.out; omega)
      have HX2 : Hid ((!u || v) = x) := Lib.hid (by rw [← HX.out, perm_end fun j hj => HA.out j hj (by have := HL.out; omega), HU.out, HV.out, hle])
      clear hle
      rcases u with _ | _
      · go_wp2_with fail
        go_ret
        exact ⟨ret_bool HX2.out, HBB.out⟩
      · go_wp2_with fail
        go_ret
        exact ⟨ret_bool HX2.out, HBB.out⟩
end Go.Proofs.Ytdgdjlpbnaoheaa
