/- The reference's Reverse. -/
import Derived.Test.YtoammbjnejdgpaaLeH
namespace Go.Proofs.Ytoammbjnejdgpaa
open Go.RowKit
/-- Whether the reference says that the posting i is used. -/
def usedR (of_ : List Int) (i : Nat) (id : Int) (k : Nat) : Bool := decide (of_.getD i 0 ≠ 0) || (of_.take k).any fun x => decide (x = id)
theorem usedR_step {of_ : List Int} {i k : Nat} {id : Int} (h : k < of_.length) : usedR of_ i id (k + 1) = (usedR of_ i id k || decide (of_[k] = id)) := by
  unfold usedR; rw [List.take_succ_eq_append_getElem h, List.any_append, ← Bool.or_assoc]; simp
theorem getD_nat {of_ : List Int} {i : Nat} (h : i < of_.length) : of_.getD i 0 = of_[i] := by rw [List.getD_eq_getElem?_getD, List.getElem?_eq_getElem h]; rfl
theorem i_cells {w : World} {B n : Nat} {A : Option Addr} {l : List Int} (h : Reads w B 1 A n (cellsI l)) (hn : 0 < n) : ∃ b off, A = some ⟨b, off, none⟩ ∧ ∀ k (hk : k < l.length), w.cell? ⟨b, off + k, none⟩ = some (.int .i64 l[k]) := by
  obtain ⟨b, off, rfl, hb, hc⟩ := h.recs encI_len (by omega) hn
  refine ⟨b, off, rfl, fun k hk => ?_⟩
  have := hc k hk 0 _ rfl
  simpa using this
def RetRv (w : World) (G : Nat → Prop) (acc : Int) (ps : List Pg) (of_ : List Int) (d : List Dt) (id by_ tm E : Int) (e : Ending) (w' : World) : Prop :=
  ∃ A1 n1 k1 ls, (E = 0 → ∃ i, ∃ hi : i < d.length, idx d id = some i ∧ ls = negL d[i].ls) ∧ RetRf w G acc ps of_ (ps ++ [⟨by_, tm, A1, n1, k1, ls⟩]) (of_ ++ [id]) E e w'
set_option maxHeartbeats 8000000 in
set_option maxRecDepth 10000 in
theorem rreverse_any (G : Nat → Prop) (acc : Int) (Ap : Option Addr) (n c : Nat) (Ao : Option Addr) (no co : Nat) (ps : List Pg) (of_ : List Int) (d : List Dt) (id by_ tm E : Int) (w : World)
    (h1 : PsI w G Ap n ps) (h2 : RIn w G 1 Ao no (cellsI of_)) (hG : ∀ j, w.heap.size ≤ j → G j) (hof : ps.map Pg.of = d.map Dt.of) (hlen : of_.length = d.length) (hf : Fine acc d) (hus : ∀ i (hi : i < d.length), idx d id = some i → usedR of_ i id of_.length = d[i].used) (hE : revE acc d id by_ tm = E) :
    Calls Try.prog 29 #[.agg #[.int .i64 acc, .slice Ap n c, .slice Ao no co], .int .i64 id, .int .i64 by_, .int .i64 tm] w (RetRv w G acc ps of_ d id by_ tm E) := by
  obtain ⟨B0, hb0⟩ := box1 w 29 #[.int .i64 acc, .slice Ap n c, .slice Ao no co]
  obtain ⟨u, hu⟩ : ∃ v, w.alloc (.cells #[.int .i64 acc, .slice Ap n c, .slice Ao no co] 29) = v := ⟨_, rfl⟩
  rw [hu] at B0 hb0
  have hus0 : u.heap.size = w.heap.size + 1 := by rw [← hu]; simp
  obtain ⟨B1, hb1⟩ := box1 u 29 #[.int .i64 0, .slice none 0 0, .slice none 0 0]
  obtain ⟨v, hv⟩ : ∃ v, u.alloc (.cells #[.int .i64 0, .slice none 0 0, .slice none 0 0] 29) = v := ⟨_, rfl⟩
  rw [hv] at B1 hb1
  rw [hus0] at B1
  have hvs : v.heap.size = w.heap.size + 1 + 1 := by rw [← hv]; simp [hus0]
  have HV : Hid ((w.alloc (.cells #[.int .i64 acc, .slice Ap n c, .slice Ao no co] 29)).alloc (.cells #[.int .i64 0, .slice none 0 0, .slice none 0 0] 29) = v) := Lib.hid (by rw [hu, hv])
  have HBX := Lib.hid (below_next hb0 (Nat.le_refl _) hb1)
  have HB0 := Lib.hid (ofB B0 hb1); have HB1 := Lib.hid B1
  have HVS := Lib.hid hvs
  have hnl : n = d.length := by have := recs_len h1.1.reads encPg_len (by omega); have := congrArg List.length hof; simp at this; omega
  have hno : no = d.length := by have := recs_len h2.reads encI_len (by omega); omega
  have hd512 := hf.len
  have HNL := Lib.hid hnl; have HNO := Lib.hid hno
  have HPL : Hid (ps.length = n) := Lib.hid (recs_len h1.1.reads encPg_len (by omega))
  have HLE := Lib.hid hlen
  have hn512 : n ≤ 512 := by omega
  have hno512 : no ≤ 512 := by omega
  have h1H := Lib.hid h1; have h2H := Lib.hid h2; have hGH := Lib.hid hG; have hofH := Lib.hid hof; have HF := Lib.hid hf; have HUS := Lib.hid hus
  have HPV := Lib.hid (h1.below HBX.out); have HOV := Lib.hid (h2.below HBX.out)
  clear hu hus0 hv hvs B0 B1 hb0 hb1 h1 h2 hG hof hlen hf hus hnl hno hd512
  obtain ⟨r, hr⟩ : ∃ r, idxI d id = r := ⟨_, rfl⟩
  have HRR := Lib.hid hr
  clear hr
  go_enter Try.func29, Try.ntmps29
  go_upto_region 1 with fail
  rw [HV.out]
  have c0 := (HB0.out.cell 0).trans rfl; have c1 := (HB0.out.cell 1).trans rfl; have c2 := (HB0.out.cell 2).trans rfl
  go_wp2_with fail
  refine (rfind_any acc Ap n c Ao no co ps d id r _ HPV.out.psr hofH.out (by omega) HRR.out).mono ?_
  rintro e w3 ⟨rfl, hb3⟩
  have HBX3 := Lib.hid (below_next HBX.out (Nat.le_refl _) hb3)
  have HR3 := Lib.hid (ofB HB0.out hb3); have HZ3 := Lib.hid (ofB HB1.out hb3)
  clear c0 c1 c2 hb3
  have c0 := (HR3.out.cell 0).trans rfl; have c1 := (HR3.out.cell 1).trans rfl; have c2 := (HR3.out.cell 2).trans rfl
  have r0 := (HZ3.out.cell 0).trans rfl; have r1 := (HZ3.out.cell 1).trans rfl; have r2 := (HZ3.out.cell 2).trans rfl
  have z0 := HZ3.out.frozen 0; have z1 := HZ3.out.frozen 1; have z2 := HZ3.out.frozen 2
  rcases hi : idx d id with _ | i
  · obtain rfl : r = -1 := by rw [← HRR.out, idxI_none hi]
    obtain rfl : E = 7 := by rw [← hE, revE_none hi]
    clear hE hi
    go_wp2_with fail
    exact bodyPost_ret (v := .tuple #[.agg #[.int .i64 acc, .slice Ap n c, .slice Ao no co], .int .i64 7]) (by simp [results, Try.results29, go_sem, r0, r1, r2]) rfl (by unfold RetRv; exact ⟨none, 0, 0, [], fun h => absurd h (by decide), radd_no HBX3.out (by omega) h1H.out h2H.out (by decide)⟩)
  have hil := idx_lt hi
  have hid := idx_id hi
  obtain rfl : r = (i : Int) := by rw [← HRR.out, idxI_some hi]
  have HIX := Lib.hid hi
  have HIL := Lib.hid hil
  have hio : i < of_.length := by rw [HLE.out]; exact hil
  have hip : i < ps.length := by rw [HPL.out, HNL.out]; exact hil
  obtain ⟨bo, oo, rfl, hco⟩ := i_cells (h2H.out.below HBX3.out).reads (by rw [HNO.out]; omega)
  have q0 := hco i hio
  have HCO := Lib.hid hco
  have hi0 : (0 : Int) ≤ i := by omega
  have hi1 : (i : Int) < no := by have := HNO.out; omega
  have hi2 : (i : Int) < n := by have := HNL.out; omega
  have HU0 : Hid (usedR of_ i id 0 = (of_[i] != 0)) := Lib.hid (by unfold usedR; rw [getD_nat hio]; simp only [List.take_zero, List.any_nil, Bool.or_false]; by_cases h : of_[i] = 0 <;> simp [h])
  obtain ⟨x0, hx0⟩ : ∃ x, of_[i] = x := ⟨_, rfl⟩
  rw [hx0] at q0 HU0
  clear hi hil hid hco hx0
  go_wp2_with fail
  go_loop [11, 12] (fun s1 s2 => ∃ (k : Nat) (B : Bool), k ≤ no ∧ s1 = .bool B ∧ s2 = .int .i64 k ∧ Hid (usedR of_ i id k = B)) (fun _ s => no - (intOf s).toNat)
  case atStart => exact ⟨0, _, Nat.zero_le _, rfl, rfl, HU0⟩
  case round =>
    obtain ⟨k, B, hk, rfl, rfl, HB⟩ := hrel
    by_cases hlt : k < no
    case pos =>
      have hkl : k < of_.length := by rw [HLE.out, ← HNO.out]; exact hlt
      have p0 := HCO.out k hkl
      have HST := Lib.hid (usedR_step (i := i) (id := id) hkl)
      obtain ⟨x, hx⟩ : ∃ x, of_[k] = x := ⟨_, rfl⟩
      rw [hx] at p0 HST
      have hk0 : (0 : Int) ≤ k := by omega
      have hk1 : (k : Int) < no := by omega
      clear hx
      rcases B with _ | _
      · rcases hxe : (x == id) with _ | _
        · have HN : Hid (usedR of_ i id (k + 1) = false) := Lib.hid (by rw [HST.out, HB.out]; simpa using hxe)
          go_wp2_with fail
          go_round
          case rel => exact ⟨k + 1, false, by omega, rfl, by go_num, HN⟩
          case measure => simp [intOf]; omega
        · have HN : Hid (usedR of_ i id (k + 1) = true) := Lib.hid (by rw [HST.out, HB.out]; simpa using hxe)
          go_wp2_with fail
          go_round
          case rel => exact ⟨k + 1, true, by omega, rfl, by go_num, HN⟩
          case measure => simp [intOf]; omega
      · have HN : Hid (usedR of_ i id (k + 1) = true) := Lib.hid (by rw [HST.out, HB.out]; rfl)
        go_wp2_with fail
        go_round
        case rel => exact ⟨k + 1, true, by omega, rfl, by go_num, HN⟩
        case measure => simp [intOf]; omega
    have hkn : k = no := by omega
    have HBU : Hid ((d[i]'HIL.out).used = B) := Lib.hid (by rw [← HUS.out i HIL.out HIX.out, ← HB.out, hkn, HNO.out, HLE.out])
    have HGD : Hid (d.getD i ⟨0, 0, [], false⟩ = d[i]'HIL.out) := Lib.hid (by rw [List.getD_eq_getElem?_getD, List.getElem?_eq_getElem HIL.out]; rfl)
    have hk2 : (no : Int) ≤ k := by omega
    clear hkn
    rcases B with _ | _
    case true =>
      obtain rfl : E = 20 := by rw [← hE, revE_used HIX.out (by rw [HGD.out]; exact HBU.out)]
      clear hE
      go_wp2_with fail
      exact bodyPost_ret (v := .tuple #[.agg #[.int .i64 acc, .slice Ap n c, .slice (some ⟨bo, oo, none⟩) no co], .int .i64 20]) (by simp [results, Try.results29, go_sem, r0, r1, r2]) rfl (by unfold RetRv; exact ⟨none, 0, 0, [], fun h => absurd h (by decide), radd_no HBX3.out (by omega) h1H.out h2H.out (by decide)⟩)
    have hEE : postE acc d by_ tm (negL (d[i]'HIL.out).ls) = E := by rw [← hE, revE_post HIX.out (by rw [HGD.out]; exact HBU.out), HGD.out]
    have HE := Lib.hid hEE
    have HEQ := Lib.hid (of_at hofH.out hip HIL.out)
    have HPI3 := Lib.hid (h1H.out.below HBX3.out)
    obtain ⟨bp, op_, rfl, hbp, hcp⟩ := HPI3.out.psr.cells (by omega)
    have e2 := (hcp i hip).2.2
    have HFL := Lib.hid ((HPI3.out.2 ps[i] (List.getElem_mem hip)).1.reads)
    have hf16 := (HPI3.out.2 ps[i] (List.getElem_mem hip)).2
    have HLS : Hid ((d[i]'HIL.out).ls = ps[i].ls) := Lib.hid HEQ.out.2.2.symm
    obtain ⟨f, hf⟩ : ∃ f, ps[i] = f := ⟨_, rfl⟩
    rw [hf] at e2 HFL hf16 HLS
    have HLN := Lib.hid (recs_len HFL.out encLn_len (by omega))
    obtain ⟨il, hil, hly0, hly1, hly2⟩ := info_parts infoLn
    obtain ⟨P0, hbP⟩ := box1 w3 45 #[.int .i64 by_, .int .i64 tm, .slice none 0 0]
    clear hE hEE hcp hf q0
    go_wp2_with fail
    obtain ⟨v1, hv1⟩ : ∃ v, w3.alloc (.cells #[.int .i64 by_, .int .i64 tm, .slice none 0 0] 45) = v := ⟨_, rfl⟩
    have hv1s : v1.heap.size = w3.heap.size + 1 := by rw [← hv1]; simp
    rw [hv1] at P0 hbP ⊢
    have HP0 := Lib.hid P0; have HBP := Lib.hid hbP; have HV1S := Lib.hid hv1s
    have HFL1 := Lib.hid (HFL.out.below hbP)
    have E2 := keepc hbP e2; have C1 := keepc hbP c1
    have HE2 := Lib.hid e2; have HC1 := Lib.hid c1
    obtain ⟨kp, hkp⟩ : ∃ k, w3.heap.size = k := ⟨_, rfl⟩
    have HKP := Lib.hid hkp
    rw [hkp] at HP0 ⊢
    clear hv1 hv1s P0 hbP c0 c1 c2 r0 r1 r2 z0 z1 z2 e2 E2 C1 hkp
    go_loopw [14] (fun s wr => ∃ (j : Nat) (X : Option Addr) (cx : Nat), j ≤ f.n ∧ s = .int .i64 j ∧ Hid (Below w3.heap.size w3 wr) ∧ Hid (Blk wr kp 45 #[.int .i64 by_, .int .i64 tm, .slice X j cx]) ∧ Hid (wr.ownsRow v1.heap.size 54 2 (.slice X j cx) j (cellsLn (negL (f.ls.take j)))) ∧ v1.heap.size ≤ wr.heap.size) (fun s _ => f.n - (intOf s).toNat)
    case atStart => exact ⟨0, none, 0, Nat.zero_le _, rfl, HBP, HP0, Lib.hid (World.ownsRow_nil _ _ _ _), Nat.le_refl _⟩
    case round =>
      obtain ⟨wi, rfl⟩ : ∃ u : World, u = wr := ⟨_, rfl⟩
      obtain ⟨j, X, cx, hj, rfl, HBi, HBp, HOw, hvs⟩ := hrel
      have e2 := keepc HBi.out HE2.out; have c1 := keepc HBi.out HC1.out
      by_cases hlj : j < f.n
      case pos =>
        have hjl : j < f.ls.length := by have := HLN.out; omega
        obtain ⟨b2, off2, hA2, hb2, hc2⟩ := ln_cells ((HFL.out.below HBi.out).more HBi.out.size) (by omega)
        obtain ⟨p0, p1⟩ := hc2 j hjl
        have HNG := Lib.hid (negL_take f.ls j hjl)
        obtain ⟨_, _, hv1, hv2⟩ := lns_at (HF.out.lns _ (List.getElem_mem HIL.out)) (k := j) (by rw [HLS.out]; exact hjl)
        simp only [HLS.out] at hv1 hv2
        obtain ⟨y, hy⟩ : ∃ y, f.ls[j] = y := ⟨_, rfl⟩
        rw [hy] at p0 p1 HNG hv1 hv2
        have hj0 : (0 : Int) ≤ j := by omega
        have hj1 : (j : Int) < f.n := by omega
        rw [hA2] at e2
        obtain ⟨Y0, hbY⟩ := box1 wi 54 #[.int .i64 y.1, .int .i64 y.2]
        have u0 := (Y0.cell 0).trans rfl; have u1 := (Y0.cell 1).trans rfl
        have HY := Lib.hid hbY
        have fn : IntKind.i64.wrap (-y.2) = -y.2 := IntWalk.i64_in _ (by omega)
        have HBpY := Lib.hid (ofB HBp.out hbY)
        have x2 := (HBpY.out.cell 2).trans rfl; have zx2 := HBpY.out.frozen 2
        clear hc2 hy hA2 Y0 hbY
        have HSI : Hid (v1.heap.size ≤ wi.heap.size ∧ v1.heap.size = w3.heap.size + 1 ∧ w3.heap.size = kp) := Lib.hid ⟨hvs, HV1S.out, HKP.out⟩
        go_wp2_with (at_builtin; refine wpList_append_any _ rfl (.tmp 71) (.tmp 78) _ rfl v1.heap.size 54 il _ 2 16 Try.underlying43 hil hly0 hly1 hly2 rfl (by omega) (.slice X j cx) j _ rfl ((((Only.refl (fun _ => False) _).alloc (.cells #[.int .i64 y.1, .int .i64 y.2] 54)).alloc (.cells #[.int .i64 y.1, .int .i64 (-y.2)] 54)).own HOw.out fun _ _ e => e) _ _ 1 1 (encLn (y.1, -y.2)) (by rfl) (frLn2 _ _ _ _) (oneLn _) (by simp only [maxLen]; omega) (by omega) (Nat.le_trans hvs (by simp; omega)) ?_; intro v7 w7 ho7 hg7 ha7; obtain ⟨A7, c7, rfl, hr7⟩ := own_reads ho7; rw [← snocLn, ← HNG.out] at ho7; have HG7 := Lib.hid (((HBp.out.alloc (.cells #[.int .i64 y.1, .int .i64 y.2] 54)).alloc (.cells #[.int .i64 y.1, .int .i64 (-y.2)] 54)).grown hg7 (fun e => by have h1 := (HOw.out.lt kp e.symm).1; have h2 := HSI.out; omega)); have HB7 := Lib.hid (((HBi.out.alloc HBi.out.size (.cells #[.int .i64 y.1, .int .i64 y.2] 54)).alloc (Nat.le_trans HBi.out.size (by simp)) (.cells #[.int .i64 y.1, .int .i64 (-y.2)] 54)).grown hg7 (Nat.le_trans HBi.out.size (by simp; omega)) (fun k hk => by have h1 := (HOw.out.lt k hk).1; have h2 := HSI.out; omega)); have HO7 := Lib.hid ho7; have HS7 : Hid (wi.heap.size ≤ w7.heap.size) := Lib.hid (Nat.le_trans (by simp; omega) hg7.size); have x7 := (HG7.out.cell 2).trans rfl; have z7 := HG7.out.frozen 2; clear ho7 hg7 ha7 hr7 x2 zx2 u0 u1 p0 p1 e2 c1)
        have HG8 : Hid (Blk (w7.setCell ⟨kp, 2, none⟩ (.slice A7 (j + 1) c7)) kp 45 #[.int .i64 by_, .int .i64 tm, .slice A7 (j + 1) c7]) := Lib.hid (by simpa using HG7.out.set_ 2 (.slice A7 (j + 1) c7))
        have HO8 : Hid ((w7.setCell ⟨kp, 2, none⟩ (.slice A7 (j + 1) c7)).ownsRow v1.heap.size 54 2 (.slice A7 (j + 1) c7) (j + 1) (cellsLn (negL (f.ls.take (j + 1))))) := Lib.hid (((Only.refl (fun x => x = kp) w7).setCell (p := ⟨kp, 2, none⟩) (fun _ => rfl) _).own HO7.out fun x hx e => by have h1 := (HO7.out.lt x hx).1; have h2 := HSI.out; omega)
        have HB8 : Hid (Below w3.heap.size w3 (w7.setCell ⟨kp, 2, none⟩ (.slice A7 (j + 1) c7))) := Lib.hid (HB7.out.setCell (p := ⟨kp, 2, none⟩) (by have h2 := HSI.out; show w3.heap.size ≤ kp; omega) _)
        go_roundw
        case rel => exact ⟨j + 1, A7, c7, by omega, by go_num, HB8, HG8, HO8, by have h1 := HS7.out; simp [World.setCell]; omega⟩
        case measure => simp [intOf]; omega
      have hjn : j = f.n := by omega
      have hle : f.ls.take j = f.ls := List.take_of_length_le (by have := HLN.out; omega)
      rw [hle] at HOw
      have HJ := Lib.hid hjn
      have hj2 : (f.n : Int) ≤ j := by omega
      clear hle hjn
      have HSI : Hid (v1.heap.size = w3.heap.size + 1 ∧ w3.heap.size = kp ∧ w.heap.size + 1 < w3.heap.size) := Lib.hid ⟨HV1S.out, HKP.out, HZ3.out.lt⟩
      have HBW := Lib.hid (below_next HBX3.out (Nat.le_refl _) HBi.out)
      have HQ1 := Lib.hid ((h1H.out.mono (G' := fun x => G x ∧ x ≠ w.heap.size + 1) fun x hx hg => ⟨hg, by omega⟩).below HBW.out)
      have HQ2 := Lib.hid ((h2H.out.mono (G' := fun x => G x ∧ x ≠ w.heap.size + 1) fun x hx hg => ⟨hg, by omega⟩).below HBW.out)
      have HQ3 := Lib.hid ((RIn.of_own HOw.out).mono (G' := fun x => G x ∧ x ≠ w.heap.size + 1) fun x _ hx => by have h2 := HSI.out; exact ⟨hGH.out x (by omega), by omega⟩)
      have HQG : Hid (∀ x, wi.heap.size ≤ x → G x ∧ x ≠ w.heap.size + 1) := Lib.hid fun x hx => by have h2 := HSI.out; have h3 := HBi.out.size; exact ⟨hGH.out x (by omega), by omega⟩
      have R3 := ofB HR3.out HBi.out
      have c0 := (R3.cell 0).trans rfl; have c1 := (R3.cell 1).trans rfl; have c2 := (R3.cell 2).trans rfl
      have d0 := (HBp.out.cell 0).trans rfl; have d1 := (HBp.out.cell 1).trans rfl; have d2 := (HBp.out.cell 2).trans rfl
      clear R3
      go_wp2_with fail
      refine (radd_any (fun x => G x ∧ x ≠ w.heap.size + 1) acc _ n c _ no co ps of_ d by_ tm X j cx (negL f.ls) id E _ HQ1.out HQ2.out HQ3.out HQG.out hofH.out HLE.out HF.out.len (by rw [← HLS.out]; exact HE.out)).mono ?_
      intro e w2 hr
      have Z3 := ofB (ofB HZ3.out HBi.out) hr.1
      obtain ⟨A', n', c', Ao', no', co', rfl, hb, hW⟩ := hr.wrap HBW.out (by omega)
      have HW := Lib.hid hW
      clear c0 c1 c2 d0 d1 d2 hr hb hW
      have r0 := (Z3.cell 0).trans rfl; have r1 := (Z3.cell 1).trans rfl; have r2 := (Z3.cell 2).trans rfl
      have z0 := Z3.frozen 0; have z1 := Z3.frozen 1; have z2 := Z3.frozen 2
      clear Z3
      go_wp2_with fail
      exact bodyPost_ret (v := .tuple #[.agg #[.int .i64 acc, .slice A' n' c', .slice Ao' no' co'], .int .i64 E]) (by simp [results, Try.results29, go_sem, r0, r1, r2]) rfl (by unfold RetRv; exact ⟨X, j, cx, negL f.ls, fun _ => ⟨i, HIL.out, HIX.out, by rw [HLS.out]⟩, HW.out _ _ _⟩)
end Go.Proofs.Ytoammbjnejdgpaa
