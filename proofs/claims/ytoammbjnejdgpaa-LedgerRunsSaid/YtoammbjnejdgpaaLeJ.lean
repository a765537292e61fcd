/- The law's plain: a call on the reference; what the reference is beside the program's ledger. -/
import Derived.Test.YtoammbjnejdgpaaLeI
namespace Go.Proofs.Ytoammbjnejdgpaa
open Go.RowKit
def Us (d : List Dt) (of_ : List Int) : Prop := (∀ i (hi : i < d.length), usedR of_ i d[i].id of_.length = d[i].used) ∧ ∀ x ∈ of_, x = 0 ∨ ∃ i, ∃ hi : i < d.length, d[i].id = x
theorem usedR_snoc {of_ : List Int} {i : Nat} {id y : Int} (hi : i < of_.length) : usedR (of_ ++ [y]) i id (of_ ++ [y]).length = (usedR of_ i id of_.length || decide (y = id)) := by
  have h1 : (of_ ++ [y]).getD i 0 = of_.getD i 0 := by rw [List.getD_eq_getElem?_getD, List.getD_eq_getElem?_getD, List.getElem?_append_left hi]
  have h2 : (of_ ++ [y])[of_.length]'(by simp) = y := by simp
  have hl : (of_ ++ [y]).length = of_.length + 1 := by simp
  rw [hl, usedR_step (by simp), h2]
  congr 1
  unfold usedR
  rw [h1, List.take_append_of_le_length (Nat.le_refl _)]
theorem usedR_new {of_ : List Int} {id y : Int} : usedR (of_ ++ [y]) of_.length id (of_ ++ [y]).length = (decide (y ≠ 0) || of_.any (fun x => decide (x = id)) || decide (y = id)) := by
  unfold usedR
  have h1 : (of_ ++ [y]).getD of_.length 0 = y := by rw [List.getD_eq_getElem?_getD]; simp
  rw [h1, List.take_of_length_le (Nat.le_refl _), List.any_append]
  simp [Bool.or_assoc]
theorem Us.post {acc : Int} {d : List Dt} {of_ : List Int} {id tm : Int} {ls : List Ln} (h : Us d of_) (hl : of_.length = d.length) (hf : Fine acc d) (hE : postE acc d id tm ls = 0) : Us (d ++ [⟨id, tm, ls, false⟩]) (of_ ++ [0]) := by
  obtain ⟨_, p2, _, p4, _⟩ := postE_inv hE
  have hrg := range_t p2
  refine ⟨fun i hi => ?_, fun x hx => ?_⟩
  · rcases Nat.lt_or_ge i d.length with h1 | h1
    · rw [List.getElem_append_left h1, usedR_snoc (by omega), h.1 i h1]
      have := range_t (hf.rng _ (List.getElem_mem h1))
      rw [decide_eq_false (by omega), Bool.or_false]
    · have h2 : i = of_.length := by simp at hi; omega
      have h3 : (d ++ [⟨id, tm, ls, false⟩])[i] = (⟨id, tm, ls, false⟩ : Dt) := by
        rw [List.getElem_append_right h1]; simp
      rw [h3]
      subst h2
      show usedR (of_ ++ [0]) of_.length id _ = false
      rw [usedR_new, decide_eq_false (by simp), decide_eq_false (show ¬ ((0 : Int) = id) by omega), Bool.false_or, Bool.or_false, List.any_eq_false]
      intro x hx e
      have e2 : x = id := of_decide_eq_true e
      rcases h.2 x hx with h4 | ⟨j, hj, h4⟩
      · omega
      · exact idx_none p4 hj (by rw [h4, e2])
  · rcases List.mem_append.1 hx with hx | hx
    · rcases h.2 x hx with h4 | ⟨j, hj, h4⟩
      · exact .inl h4
      · exact .inr ⟨j, by simp; omega, by rw [List.getElem_append_left hj]; exact h4⟩
    · exact .inl (List.mem_singleton.1 hx)
theorem Us.rev {acc : Int} {d : List Dt} {of_ : List Int} {id by_ tm : Int} {ls : List Ln} {i0 : Nat} (h : Us d of_) (hl : of_.length = d.length) (hf : Fine acc d) (hi0 : idx d id = some i0) : Us (markD d i0 true ++ [⟨by_, tm, ls, true⟩]) (of_ ++ [id]) := by
  have hlt := idx_lt hi0
  have hid := idx_id hi0
  have hrg := range_t (hf.rng _ (List.getElem_mem hlt))
  refine ⟨fun i hi => ?_, fun x hx => ?_⟩
  · rcases Nat.lt_or_ge i d.length with h1 | h1
    · have h1m : i < (markD d i0 true).length := by rw [markD_len]; exact h1
      rw [List.getElem_append_left h1m, (markD_at h1m).1, usedR_snoc (by omega), h.1 i h1]
      have hu : ∀ hq : i < (markD d i0 true).length, ((markD d i0 true)[i]).used = if i0 = i then true else d[i].used := by
        unfold markD; intro hq; rw [List.getElem_modify]; split <;> rfl
      rw [hu h1m]
      by_cases e : i0 = i
      · subst e; rw [if_pos rfl, hid, decide_eq_true rfl, Bool.or_true]
      · rw [if_neg e, decide_eq_false (fun e2 => ?_), Bool.or_false]
        rcases Nat.lt_or_gt_of_ne e with h5 | h5
        · exact hf.dis i0 i h1 h5 (by rw [hid, e2])
        · exact hf.dis i i0 hlt h5 (by rw [hid, e2])
    · have h2 : i = of_.length := by simp [markD_len] at hi; omega
      have h3 : (markD d i0 true ++ [⟨by_, tm, ls, true⟩])[i] = (⟨by_, tm, ls, true⟩ : Dt) := by
        rw [List.getElem_append_right (by rw [markD_len]; exact h1)]; simp
      rw [h3]
      subst h2
      show usedR (of_ ++ [id]) of_.length by_ _ = true
      rw [usedR_new, decide_eq_true (by rw [← hid]; omega)]; rfl
  · have hm : ∀ j (hj : j < d.length), ∃ k, ∃ hk : k < (markD d i0 true ++ [(⟨by_, tm, ls, true⟩ : Dt)]).length, (markD d i0 true ++ [(⟨by_, tm, ls, true⟩ : Dt)])[k].id = d[j].id := fun j hj => by
      have hjm : j < (markD d i0 true).length := by rw [markD_len]; exact hj
      exact ⟨j, by rw [List.length_append]; omega, by rw [List.getElem_append_left hjm]; exact (markD_at hjm).1⟩
    rcases List.mem_append.1 hx with hx | hx
    · rcases h.2 x hx with h4 | ⟨j, hj, h4⟩
      · exact .inl h4
      · obtain ⟨k, hk, e⟩ := hm j hj
        exact .inr ⟨k, hk, by rw [e, h4]⟩
    · obtain ⟨k, hk, e⟩ := hm i0 hlt
      exact .inr ⟨k, hk, by rw [e, hid, List.mem_singleton.1 hx]⟩
/-- The reference beside the program's ledger. -/
structure St (d : List Dt) (ps : List Pg) (of_ : List Int) : Prop where
  map : ps.map Pg.of = d.map Dt.of
  len : of_.length = d.length
  us : Us d of_
theorem st_nil : St [] [] [] := ⟨rfl, rfl, fun _ hi => absurd hi (Nat.not_lt_zero _), fun _ hx => nomatch hx⟩
def RetPn (w : World) (G : Nat → Prop) (acc : Int) (ps : List Pg) (of_ : List Int) (d : List Dt) (o : Oc) (e : Ending) (w' : World) : Prop :=
  ∃ ps' of', (doE acc d o = 0 → St (doD acc d o) ps' of') ∧ RetRf w G acc ps of_ ps' of' (doE acc d o) e w'
set_option maxHeartbeats 4000000 in
set_option maxRecDepth 10000 in
theorem plain_any (G : Nat → Prop) (acc : Int) (Ap : Option Addr) (n c : Nat) (Ao : Option Addr) (no co : Nat) (ps : List Pg) (of_ : List Int) (d : List Dt) (o : Oc) (w : World)
    (h1 : PsI w G Ap n ps) (h2 : RIn w G 1 Ao no (cellsI of_)) (hp : RIn w G 2 o.A o.n (cellsLn o.ls)) (hG : ∀ j, w.heap.size ≤ j → G j) (hs : St d ps of_) (hf : Fine acc d) :
    Calls Try.prog 18 #[.agg #[.int .i64 acc, .slice Ap n c, .slice Ao no co], .agg #[.int .i64 o.id, .int .i64 o.tm, .slice o.A o.n o.c, .int .i64 o.of_]] w (RetPn w G acc ps of_ d o) := by
  have H3 := box2 w 29 47 #[.int .i64 acc, .slice Ap n c, .slice Ao no co] #[.int .i64 o.id, .int .i64 o.tm, .slice o.A o.n o.c, .int .i64 o.of_]
  obtain ⟨u, hu⟩ : ∃ v, ((w.alloc (.cells #[.int .i64 acc, .slice Ap n c, .slice Ao no co] 29)).alloc (.cells #[.int .i64 o.id, .int .i64 o.tm, .slice o.A o.n o.c, .int .i64 o.of_] 47)) = v := ⟨_, rfl⟩
  rw [hu] at H3
  have hus : u.heap.size = w.heap.size + 1 + 1 := by rw [← hu]; simp
  obtain ⟨q0, q1, q2⟩ := H3
  obtain ⟨b2, hb2⟩ := box1 u 29 #[.int .i64 0, .slice none 0 0, .slice none 0 0]
  obtain ⟨v, hv⟩ : ∃ v, u.alloc (.cells #[.int .i64 0, .slice none 0 0, .slice none 0 0] 29) = v := ⟨_, rfl⟩
  rw [hv] at b2 hb2
  rw [hus] at b2
  have hvs : v.heap.size = w.heap.size + 1 + 1 + 1 := by rw [← hv]; simp [hus]
  have B0 := ofB q0 hb2; have B1 := ofB q1 hb2
  have HB2 := Lib.hid b2
  have HBX := Lib.hid (below_next q2 (Nat.le_refl _) hb2)
  have HV : Hid (((w.alloc (.cells #[.int .i64 acc, .slice Ap n c, .slice Ao no co] 29)).alloc (.cells #[.int .i64 o.id, .int .i64 o.tm, .slice o.A o.n o.c, .int .i64 o.of_] 47)).alloc (.cells #[.int .i64 0, .slice none 0 0, .slice none 0 0] 29) = v) := Lib.hid (by rw [hu, hv])
  have HS := Lib.hid hs; have HF := Lib.hid hf
  have HQ1 : Hid (PsI v (fun j => G j ∧ j ≠ w.heap.size + 1 + 1) Ap n ps) := Lib.hid ((h1.mono (G' := fun j => G j ∧ j ≠ w.heap.size + 1 + 1) fun j hj hg => ⟨hg, by omega⟩).below HBX.out)
  have HQ2 : Hid (RIn v (fun j => G j ∧ j ≠ w.heap.size + 1 + 1) 1 Ao no (cellsI of_)) := Lib.hid ((h2.mono (G' := fun j => G j ∧ j ≠ w.heap.size + 1 + 1) fun j hj hg => ⟨hg, by omega⟩).below HBX.out)
  have HQ3 : Hid (RIn v (fun j => G j ∧ j ≠ w.heap.size + 1 + 1) 2 o.A o.n (cellsLn o.ls)) := Lib.hid ((hp.mono (G' := fun j => G j ∧ j ≠ w.heap.size + 1 + 1) fun j hj hg => ⟨hg, by omega⟩).below HBX.out)
  have HQG : Hid (∀ j, v.heap.size ≤ j → G j ∧ j ≠ w.heap.size + 1 + 1) := Lib.hid fun j hj => ⟨hG j (by omega), by omega⟩
  have c0 := (B0.cell 0).trans rfl; have c1 := (B0.cell 1).trans rfl; have c2 := (B0.cell 2).trans rfl
  have d0 := (B1.cell 0).trans rfl; have d1 := (B1.cell 1).trans rfl; have d2 := (B1.cell 2).trans rfl; have d3 := (B1.cell 3).trans rfl
  clear hu hus q0 q1 q2 hb2 hv hvs B0 B1 b2 h1 h2 hp hG hs hf
  by_cases h0 : o.of_ = 0
  · have HE : Hid (postE acc d o.id o.tm o.ls = doE acc d o) := Lib.hid (if_pos h0).symm
    have HD : Hid (doD acc d o = postD acc d o.id o.tm o.ls false) := Lib.hid (if_pos h0)
    have t0 : (o.of_ == 0) = true := by simp [h0]
    obtain ⟨E, hE⟩ : ∃ E, doE acc d o = E := ⟨_, rfl⟩
    rw [hE] at HE
    have HEE := Lib.hid hE
    clear h0 hE
    go_enter Try.func18, Try.ntmps18
    go_upto_region 1 with fail
    rw [HV.out]
    go_wp2_with fail
    refine (rpost_any (fun j => G j ∧ j ≠ w.heap.size + 1 + 1) acc Ap n c Ao no co ps of_ d o.id o.tm o.A o.n o.c o.ls E _ HQ1.out HQ2.out HQ3.out HQG.out HS.out.map HS.out.len HF.out.len HE.out).mono ?_
    intro e w2 hr
    have Z3 := ofB HB2.out hr.1
    obtain ⟨A', n', c', Ao', no', co', rfl, hb, hW⟩ := hr.wrap HBX.out (by omega)
    have HW := Lib.hid hW
    clear c0 c1 c2 d0 d1 d2 d3 hr hb hW
    have r0 := (Z3.cell 0).trans rfl; have r1 := (Z3.cell 1).trans rfl; have r2 := (Z3.cell 2).trans rfl
    have z0 := Z3.frozen 0; have z1 := Z3.frozen 1; have z2 := Z3.frozen 2
    clear Z3
    go_wp2_with fail
    refine bodyPost_ret (v := .tuple #[.agg #[.int .i64 acc, .slice A' n' c', .slice Ao' no' co'], .int .i64 E]) (by simp [results, Try.results18, go_sem, r0, r1, r2]) rfl ?_
    refine ⟨ps ++ [⟨o.id, o.tm, o.A, o.n, o.c, o.ls⟩], of_ ++ [0], fun e => ?_, by rw [HEE.out]; exact HW.out _ _ _⟩
    have hE0 : postE acc d o.id o.tm o.ls = 0 := by rw [HE.out, ← HEE.out, e]
    have hD0 : doD acc d o = d ++ [⟨o.id, o.tm, o.ls, false⟩] := by rw [HD.out]; exact if_pos hE0
    rw [hD0]
    exact ⟨by rw [List.map_append, List.map_append, HS.out.map]; rfl, by rw [List.length_append, List.length_append, HS.out.len]; rfl, HS.out.us.post HS.out.len HF.out hE0⟩
  · have HE : Hid (revE acc d o.of_ o.id o.tm = doE acc d o) := Lib.hid (if_neg h0).symm
    have HD : Hid (doD acc d o = revD acc d o.of_ o.id o.tm) := Lib.hid (if_neg h0)
    have t0 : (o.of_ == 0) = false := by simp [h0]
    obtain ⟨E, hE⟩ : ∃ E, doE acc d o = E := ⟨_, rfl⟩
    rw [hE] at HE
    have HEE := Lib.hid hE
    clear h0 hE
    go_enter Try.func18, Try.ntmps18
    go_upto_region 1 with fail
    rw [HV.out]
    go_wp2_with fail
    refine (rreverse_any (fun j => G j ∧ j ≠ w.heap.size + 1 + 1) acc Ap n c Ao no co ps of_ d o.of_ o.id o.tm E _ HQ1.out HQ2.out HQG.out HS.out.map HS.out.len HF.out (fun i hi hx => by have := HS.out.us.1 i hi; rwa [idx_id hx] at this) HE.out).mono ?_
    intro e w2 hr0
    unfold RetRv at hr0
    obtain ⟨A1, n1, k1, ls1, hls, hr⟩ := hr0
    have Z3 := ofB HB2.out hr.1
    obtain ⟨A', n', c', Ao', no', co', rfl, hb, hW⟩ := hr.wrap HBX.out (by omega)
    have HW := Lib.hid hW; have HLS := Lib.hid hls
    clear c0 c1 c2 d0 d1 d2 d3 hr hb hW hls
    have r0 := (Z3.cell 0).trans rfl; have r1 := (Z3.cell 1).trans rfl; have r2 := (Z3.cell 2).trans rfl
    have z0 := Z3.frozen 0; have z1 := Z3.frozen 1; have z2 := Z3.frozen 2
    clear Z3
    go_wp2_with fail
    refine bodyPost_ret (v := .tuple #[.agg #[.int .i64 acc, .slice A' n' c', .slice Ao' no' co'], .int .i64 E]) (by simp [results, Try.results18, go_sem, r0, r1, r2]) rfl ?_
    refine ⟨ps ++ [⟨o.id, o.tm, A1, n1, k1, ls1⟩], of_ ++ [o.of_], fun e => ?_, by rw [HEE.out]; exact HW.out _ _ _⟩
    obtain ⟨i, hi, hix, rfl⟩ := HLS.out (by rw [← HEE.out, e])
    have hg : d.getD i ⟨0, 0, [], false⟩ = d[i] := by rw [List.getD_eq_getElem?_getD, List.getElem?_eq_getElem hi]; rfl
    have hD0 : doD acc d o = markD d i true ++ [⟨o.id, o.tm, negL d[i].ls, true⟩] := by rw [HD.out, revD_ok (by rw [HE.out, ← HEE.out, e]) hix, hg]
    rw [hD0]
    exact ⟨by rw [List.map_append, List.map_append, markD_of, HS.out.map]; rfl, by rw [List.length_append, List.length_append, markD_len, HS.out.len]; rfl, HS.out.us.rev HS.out.len HF.out hix⟩
end Go.Proofs.Ytoammbjnejdgpaa
