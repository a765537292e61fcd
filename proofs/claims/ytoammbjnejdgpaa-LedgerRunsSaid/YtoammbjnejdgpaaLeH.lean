/- The reference's Post. -/
import Derived.Test.YtoammbjnejdgpaaLeG
namespace Go.Proofs.Ytoammbjnejdgpaa
open Go.RowKit
set_option maxHeartbeats 4000000 in
set_option maxRecDepth 10000 in
theorem rpost_any (G : Nat → Prop) (acc : Int) (Ap : Option Addr) (n c : Nat) (Ao : Option Addr) (no co : Nat) (ps : List Pg) (of_ : List Int) (d : List Dt) (id tm : Int) (A1 : Option Addr) (n1 k1 : Nat) (ls : List Ln) (E : Int) (w : World)
    (h1 : PsI w G Ap n ps) (h2 : RIn w G 1 Ao no (cellsI of_)) (hp : RIn w G 2 A1 n1 (cellsLn ls)) (hG : ∀ j, w.heap.size ≤ j → G j) (hof : ps.map Pg.of = d.map Dt.of) (hlen : of_.length = d.length) (hd : d.length ≤ 512) (hE : postE acc d id tm ls = E) :
    Calls Try.prog 28 #[.agg #[.int .i64 acc, .slice Ap n c, .slice Ao no co], .agg #[.int .i64 id, .int .i64 tm, .slice A1 n1 k1]] w (RetRf w G acc ps of_ (ps ++ [⟨id, tm, A1, n1, k1, ls⟩]) (of_ ++ [0]) E) := by
  have HLE := Lib.hid hlen; have HDD := Lib.hid hd; have HEE := Lib.hid hE
  have H3 := box2 w 29 45 #[.int .i64 acc, .slice Ap n c, .slice Ao no co] #[.int .i64 id, .int .i64 tm, .slice A1 n1 k1]
  obtain ⟨u, hu⟩ : ∃ v, ((w.alloc (.cells #[.int .i64 acc, .slice Ap n c, .slice Ao no co] 29)).alloc (.cells #[.int .i64 id, .int .i64 tm, .slice A1 n1 k1] 45)) = v := ⟨_, rfl⟩
  rw [hu] at H3
  have hus : u.heap.size = w.heap.size + 1 + 1 := by rw [← hu]; simp
  obtain ⟨q0, q1, q2⟩ := H3
  obtain ⟨b2, hb2⟩ := box1 u 29 #[.int .i64 0, .slice none 0 0, .slice none 0 0]
  obtain ⟨v, hv⟩ : ∃ v, u.alloc (.cells #[.int .i64 0, .slice none 0 0, .slice none 0 0] 29) = v := ⟨_, rfl⟩
  rw [hv] at b2 hb2
  rw [hus] at b2
  have hvs : v.heap.size = w.heap.size + 1 + 1 + 1 := by rw [← hv]; simp [hus]
  have B0 := ofB q0 hb2; have B1 := ofB q1 hb2
  have HB0 := Lib.hid B0; have HB1 := Lib.hid B1; have HB2 := Lib.hid b2
  have HBX := Lib.hid (below_next q2 (Nat.le_refl _) hb2)
  have HV : Hid (((w.alloc (.cells #[.int .i64 acc, .slice Ap n c, .slice Ao no co] 29)).alloc (.cells #[.int .i64 id, .int .i64 tm, .slice A1 n1 k1] 45)).alloc (.cells #[.int .i64 0, .slice none 0 0, .slice none 0 0] 29) = v) := Lib.hid (by rw [hu, hv])
  have HVS := Lib.hid hvs
  have hnl : n = d.length := by have := recs_len h1.1.reads encPg_len (by omega); have := congrArg List.length hof; simp at this; omega
  have HPS := Lib.hid (h1.below HBX.out); have HOV := Lib.hid (h2.below HBX.out); have HPV := Lib.hid (hp.below HBX.out)
  have h1H := Lib.hid h1; have h2H := Lib.hid h2; have hpH := Lib.hid hp; have hGH := Lib.hid hG; have hofH := Lib.hid hof
  have HNL := Lib.hid hnl
  have HNO : Hid (no = d.length) := Lib.hid (by have := recs_len h2.reads encI_len (by omega); omega)
  have HLN := Lib.hid (recs_len hp.reads encLn_len (by omega))
  have HPL : Hid (ps.length = n) := Lib.hid (recs_len h1.1.reads encPg_len (by omega))
  have hn512 : n ≤ 512 := by omega
  have c0 := (B0.cell 0).trans rfl; have c1 := (B0.cell 1).trans rfl; have c2 := (B0.cell 2).trans rfl
  have d0 := (B1.cell 0).trans rfl; have d1 := (B1.cell 1).trans rfl; have d2 := (B1.cell 2).trans rfl
  have r0 := (b2.cell 0).trans rfl; have r1 := (b2.cell 1).trans rfl; have r2 := (b2.cell 2).trans rfl
  have z0 := b2.frozen 0; have z1 := b2.frozen 1; have z2 := b2.frozen 2
  clear hu hus q0 q1 q2 hb2 hv hvs B0 B1 b2 h1 h2 hp hG hof hlen hd hnl
  have hsz : v.heap.size = w.heap.size + 1 + 1 + 1 := HVS.out
  have HQ1 : Hid (PsI v (fun j => G j ∧ j ≠ w.heap.size + 1 + 1) Ap n ps) := Lib.hid ((h1H.out.mono (G' := fun j => G j ∧ j ≠ w.heap.size + 1 + 1) fun j hj hg => ⟨hg, by omega⟩).below HBX.out)
  have HQ2 : Hid (RIn v (fun j => G j ∧ j ≠ w.heap.size + 1 + 1) 1 Ao no (cellsI of_)) := Lib.hid ((h2H.out.mono (G' := fun j => G j ∧ j ≠ w.heap.size + 1 + 1) fun j hj hg => ⟨hg, by omega⟩).below HBX.out)
  have HQ3 : Hid (RIn v (fun j => G j ∧ j ≠ w.heap.size + 1 + 1) 2 A1 n1 (cellsLn ls)) := Lib.hid ((hpH.out.mono (G' := fun j => G j ∧ j ≠ w.heap.size + 1 + 1) fun j hj hg => ⟨hg, by omega⟩).below HBX.out)
  have HQG : Hid (∀ j, v.heap.size ≤ j → G j ∧ j ≠ w.heap.size + 1 + 1) := Lib.hid fun j hj => ⟨hGH.out j (by omega), by omega⟩
  clear hsz hE
  go_enter Try.func28, Try.ntmps28
  go_upto_region 1 with fail
  rw [HV.out]
  go_wp2_with fail
  refine (radd_any (fun j => G j ∧ j ≠ w.heap.size + 1 + 1) acc Ap n c Ao no co ps of_ d id tm A1 n1 k1 ls 0 E _ HQ1.out HQ2.out HQ3.out HQG.out hofH.out HLE.out HDD.out HEE.out).mono ?_
  intro e w2 hr
  have Z3 := ofB HB2.out hr.1
  obtain ⟨A', n', c', Ao', no', co', rfl, hb, hW⟩ := hr.wrap HBX.out (by omega)
  have HW := Lib.hid hW
  clear c0 c1 c2 d0 d1 d2 r0 r1 r2 z0 z1 z2 hr hb hW
  have r0 := (Z3.cell 0).trans rfl; have r1 := (Z3.cell 1).trans rfl; have r2 := (Z3.cell 2).trans rfl
  have z0 := Z3.frozen 0; have z1 := Z3.frozen 1; have z2 := Z3.frozen 2
  clear Z3
  go_wp2_with fail
  exact bodyPost_ret (v := .tuple #[.agg #[.int .i64 acc, .slice A' n' c', .slice Ao' no' co'], .int .i64 E]) (by simp [results, Try.results28, go_sem, r0, r1, r2]) rfl (HW.out _ _ _)
end Go.Proofs.Ytoammbjnejdgpaa
