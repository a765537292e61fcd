/- The accounts of lots: what is gone of each, and that this adds up. -/
import Derived.Test.YthbmofijdhfeeaaPlain
import Derived.Test.YthbmofijdhfeeaaLawsA
namespace Go.Proofs.Ythbmofijdhfeeaa
open Go.RowKit
/-- The accounts of a store: of each lot, how many are gone. -/
def accOf (L : List Lt) : List Lt := L.map fun x => (x.1, x.1.2.2.1 - x.2)
theorem accOf_len (L : List Lt) : (accOf L).length = L.length := by simp [accOf]
theorem accOf_lots (L : List Lt) : (accOf L).map (·.1) = L.map (·.1) := by unfold accOf; rw [List.map_map]; rfl
theorem accOf_at (L : List Lt) {i : Nat} (hi : i < L.length) : (accOf L)[i]'(by rw [accOf_len]; exact hi) = (L[i].1, L[i].1.2.2.1 - L[i].2) := by simp [accOf]
def upd (t : T2) (x : Lt) : Lt := if x.1.1 = t.1 then (x.1, x.2 + t.2) else x
theorem addT_snoc (M : List Lt) (ts : List T2) (t : T2) : addT M (ts ++ [t]) = (addT M ts).map (upd t) := by
  unfold addT
  rw [List.map_map]
  refine List.map_congr_left fun x _ => ?_
  show (x.1, x.2 + sumT (ts ++ [t]) x.1.1) = upd t (x.1, x.2 + sumT ts x.1.1)
  rw [sumT_app]
  unfold upd
  simp only [sumT]
  by_cases e : x.1.1 = t.1
  · rw [if_pos e.symm, if_pos e]
    show _ = (x.1, x.2 + sumT ts x.1.1 + t.2)
    congr 1; omega
  · rw [if_neg (fun h => e h.symm), if_neg e]
    congr 1; omega
theorem addT_step (M : List Lt) {ts : List T2} {j : Nat} (hj : j < ts.length) : addT M (ts.take (j + 1)) = (addT M (ts.take j)).map (upd ts[j]) := by
  rw [List.take_succ_eq_append_getElem hj, addT_snoc]
/-- What book looks at while it books the takes ts in the accounts M. -/
def bookOk (M : List Lt) (ts : List T2) (one : Bool) (kd : Int) : Prop := ∀ j (hj : j < ts.length), (∃ i, ∃ hi : i < M.length, M[i].1.1 = ts[j].1) ∧ ∀ i (hi : i < M.length), M[i].1.1 = ts[j].1 →
  0 ≤ M[i].2 + sumT (ts.take j) M[i].1.1 + ts[j].2 ∧ M[i].2 + sumT (ts.take j) M[i].1.1 + ts[j].2 ≤ M[i].1.2.2.1 ∧ (one = true → M[i].1.2.1 = kd ∧ 1 ≤ ts[j].2)
theorem sumT_mono {a : List T2} {r : Int} (h : ∀ t ∈ a, 0 ≤ t.2) (i : Nat) : 0 ≤ sumT (a.take i) r := sumT_nonneg fun t ht => h t (List.mem_of_mem_take ht)
theorem take_book {L : List Lt} {k n : Int} (hf : fine L) (hd : dist L) : bookOk (accOf L) (takeO k n L) true k := by
  intro j hj
  have hpos : ∀ t ∈ takeO k n L, 0 ≤ t.2 := fun t ht => by obtain ⟨_, _, _, h, _⟩ := takeO_mem k L n t ht; omega
  obtain ⟨x, hx, h1, h2, h3, _, h5⟩ := takeO_mem k L n _ (List.getElem_mem hj)
  obtain ⟨q, hq, rfl⟩ := List.getElem_of_mem hx
  refine ⟨⟨q, by rw [accOf_len]; exact hq, by rw [accOf_at L hq]; exact h1⟩, fun i hi he => ?_⟩
  have hil : i < L.length := by rw [accOf_len] at hi; exact hi
  rw [accOf_at L hil] at he ⊢
  have he : L[i].1.1 = (takeO k n L)[j].1 := he
  obtain rfl : i = q := dist_eq hd hil hq (he.trans h1.symm)
  have g1 := sumT_take (r := L[i].1.1) hj he.symm hpos
  have g2 := sumT_mono (r := L[i].1.1) hpos j
  have g3 : L[i].2 = ((takeX k n L)[i]'(by rw [takeX_len]; exact hil)).2 + sumT (takeO k n L) L[i].1.1 := by
    have hp := take_put k L n (dist_pair hd)
    have hl : i < (addT (takeX k n L) (takeO k n L)).length := by rw [hp]; exact hil
    have e1 : (addT (takeX k n L) (takeO k n L))[i]'hl = L[i] := by simp only [hp]
    have hx2 : i < (takeX k n L).length := by rw [takeX_len]; exact hil
    rw [addT_at _ _ hx2] at e1
    have e2 : ((takeX k n L)[i]).1 = L[i].1 := congrArg (·.1) e1
    have e3 := congrArg (·.2) e1
    have e3 : (takeX k n L)[i].2 + sumT (takeO k n L) (takeX k n L)[i].1.1 = L[i].2 := e3
    rw [e2] at e3
    exact e3.symm
  have g4 := fine_takeX k L n hf.2 ((takeX k n L)[i]'(by rw [takeX_len]; exact hil)) (List.getElem_mem _)
  obtain ⟨_, _, g5, g6⟩ := hf.2 _ (List.getElem_mem hil)
  obtain ⟨_, _, g7, _⟩ := g4
  refine ⟨?_, ?_, fun _ => ⟨h5, by omega⟩⟩
  · show 0 ≤ L[i].1.2.2.1 - L[i].2 + sumT _ L[i].1.1 + _; omega
  · show L[i].1.2.2.1 - L[i].2 + sumT _ L[i].1.1 + _ ≤ L[i].1.2.2.1; omega
theorem take_acc {L : List Lt} {k n : Int} (hd : dist L) : addT (accOf L) (takeO k n L) = accOf (takeX k n L) := by
  have hp := take_put k L n (dist_pair hd)
  refine List.ext_getElem (by rw [addT_len, accOf_len, accOf_len, takeX_len]) fun i h1 h2 => ?_
  have hx2 : i < (takeX k n L).length := by rw [accOf_len] at h2; exact h2
  have hil : i < L.length := by rw [takeX_len] at hx2; exact hx2
  have hl : i < (addT (takeX k n L) (takeO k n L)).length := by rw [hp]; exact hil
  have e1 : (addT (takeX k n L) (takeO k n L))[i]'hl = L[i] := by simp only [hp]
  rw [addT_at _ _ hx2] at e1
  rw [addT_at _ _ (by rw [accOf_len]; exact hil), accOf_at _ hil, accOf_at _ hx2]
  have e2 : ((takeX k n L)[i]).1 = L[i].1 := congrArg (·.1) e1
  have e3 : (takeX k n L)[i].2 + sumT (takeO k n L) (takeX k n L)[i].1.1 = L[i].2 := congrArg (·.2) e1
  rw [e2] at e3 ⊢
  show (L[i].1, L[i].1.2.2.1 - L[i].2 + sumT (takeO k n L) L[i].1.1) = (L[i].1, L[i].1.2.2.1 - (takeX k n L)[i].2)
  congr 1; omega
theorem back_book {L : List Lt} {r n : Int} (hf : fine L) (hd : dist L) (h : backE L r n = 0) (kd : Int) : bookOk (accOf L) [(r, -n)] false kd := by
  intro j hj
  obtain ⟨q, hq, hn, hs⟩ := backE_inv h
  have hql := idx_lt hq
  obtain rfl : j = 0 := by simp at hj; omega
  refine ⟨⟨q, by rw [accOf_len]; exact hql, by rw [accOf_at L hql]; exact idx_ride hq⟩, fun i hi he => ?_⟩
  have hil : i < L.length := by rw [accOf_len] at hi; exact hi
  rw [accOf_at L hil] at he ⊢
  have he : L[i].1.1 = r := he
  obtain rfl : i = q := dist_eq hd hil hql (he.trans (idx_ride hq).symm)
  obtain ⟨_, _, g5, g6⟩ := hf.2 _ (List.getElem_mem hil)
  have hn : 1 ≤ n ∧ n ≤ 1000000 := of_decide_eq_true hn
  refine ⟨?_, ?_, fun e => by cases e⟩
  · show 0 ≤ L[i].1.2.2.1 - L[i].2 + 0 + -n; omega
  · show L[i].1.2.2.1 - L[i].2 + 0 + -n ≤ L[i].1.2.2.1; omega
theorem back_acc {L : List Lt} {r n : Int} (hd : dist L) (h : backE L r n = 0) : addT (accOf L) [(r, -n)] = accOf (backL L r n) := by
  obtain ⟨q, hq, hn, hs⟩ := backE_inv h
  have hql := idx_lt hq
  rw [backL_ok hq h]
  refine List.ext_getElem (by rw [addT_len, accOf_len, accOf_len, List.length_set]) fun i h1 h2 => ?_
  have hil : i < L.length := by rw [accOf_len, List.length_set] at h2; exact h2
  rw [addT_at _ _ (by rw [accOf_len]; exact hil), accOf_at _ hil, accOf_at _ (by rw [List.length_set]; exact hil)]
  show (L[i].1, L[i].1.2.2.1 - L[i].2 + ((if r = L[i].1.1 then -n else 0) + 0)) = _
  rw [List.getElem_set]
  by_cases e : q = i
  · subst e
    rw [if_pos (idx_ride hq).symm, if_pos rfl]
    show _ = (L[q].1, L[q].1.2.2.1 - (L[q].2 + n))
    congr 1; omega
  · rw [if_neg e, if_neg fun e2 => e (dist_eq hd hql hil ((idx_ride hq).trans e2))]
    congr 1; omega
theorem add_acc {L : List Lt} {x : L4} (h : addE L x = 0) : accOf (addL L x) = accOf L ++ [(x, 0)] := by
  rw [addL_ok h]
  unfold accOf
  rw [List.map_append]
  show _ ++ [(x, x.2.2.1 - x.2.2.1)] = _
  rw [Int.sub_self]
/-- One lot's account after another. -/
def midA (M : List Lt) (t : T2) (q : Nat) : List Lt := (M.take q).map (upd t) ++ M.drop q
theorem midA_zero (M : List Lt) (t : T2) : midA M t 0 = M := by simp [midA]
theorem midA_end (M : List Lt) (t : T2) {q : Nat} (h : M.length ≤ q) : midA M t q = M.map (upd t) := by simp [midA, List.take_of_length_le h, List.drop_eq_nil_of_le h]
theorem midA_len (M : List Lt) (t : T2) (q : Nat) : (midA M t q).length = M.length := by
  unfold midA; rw [List.length_append, List.length_map, List.length_take, List.length_drop]; omega
theorem midA_at (M : List Lt) (t : T2) {q : Nat} (hq : q < M.length) : (midA M t q)[q]'(by rw [midA_len]; exact hq) = M[q] := by
  unfold midA
  have h1 : ((M.take q).map (upd t)).length = q := by rw [List.length_map, List.length_take]; omega
  rw [List.getElem_append_right (by omega)]
  simp [Nat.min_eq_left (Nat.le_of_lt hq)]
theorem midA_step (M : List Lt) (t : T2) {q : Nat} (hq : q < M.length) : midA M t (q + 1) = (midA M t q).set q (upd t M[q]) := by
  unfold midA
  have h1 : ((M.take q).map (upd t)).length = q := by rw [List.length_map, List.length_take]; omega
  rw [List.set_append_right _ _ (by omega), h1, Nat.sub_self, List.take_succ_eq_append_getElem hq, List.map_append, List.append_assoc, List.drop_eq_getElem_cons hq]
  rfl
theorem midA_yes (M : List Lt) (t : T2) {q : Nat} (hq : q < M.length) (h : M[q].1.1 = t.1) : midA M t (q + 1) = (midA M t q).set q (((midA M t q)[q]'(by rw [midA_len]; exact hq)).1, M[q].2 + t.2) := by
  rw [midA_step M t hq, midA_at M t hq]
  unfold upd
  rw [if_pos h]
theorem midA_no (M : List Lt) (t : T2) {q : Nat} (hq : q < M.length) (h : M[q].1.1 ≠ t.1) : midA M t (q + 1) = midA M t q := by
  rw [midA_step M t hq]
  unfold upd
  rw [if_neg h]
  have := midA_at M t hq
  rw [← this]
  exact List.set_getElem_self ..
end Go.Proofs.Ythbmofijdhfeeaa
