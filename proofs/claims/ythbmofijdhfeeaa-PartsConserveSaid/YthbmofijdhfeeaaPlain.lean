/- The plain laws of the statements on stores: what is taken and put back; the oldest first. -/
import Derived.Test.YthbmofijdhfeeaaPure
namespace Go.Proofs.Ythbmofijdhfeeaa
open Go.RowKit
/-! What was taken, of each lot. -/
def sumT : List T2 → Int → Int
  | [], _ => 0
  | t :: ts, r => (if t.1 = r then t.2 else 0) + sumT ts r
theorem sumT_app (a b : List T2) (r : Int) : sumT (a ++ b) r = sumT a r + sumT b r := by
  induction a with
  | nil => simp [sumT]
  | cons t a ih => simp only [List.cons_append, sumT, ih]; omega
theorem sumT_rev (a : List T2) (r : Int) : sumT a.reverse r = sumT a r := by
  induction a with
  | nil => rfl
  | cons t a ih => simp only [List.reverse_cons, sumT_app, ih, sumT]; omega
theorem sumT_none {a : List T2} {r : Int} (h : ∀ t ∈ a, t.1 ≠ r) : sumT a r = 0 := by
  induction a with
  | nil => rfl
  | cons t a ih =>
    simp only [sumT]
    rw [if_neg (h t (List.mem_cons_self ..)), ih fun u hu => h u (List.mem_cons_of_mem _ hu)]
    omega
theorem sumT_nonneg {a : List T2} {r : Int} (h : ∀ t ∈ a, 0 ≤ t.2) : 0 ≤ sumT a r := by
  induction a with
  | nil => simp [sumT]
  | cons t a ih =>
    have h1 := ih fun u hu => h u (List.mem_cons_of_mem _ hu)
    have h2 := h t (List.mem_cons_self ..)
    simp only [sumT]
    split <;> omega
theorem sumT_take {a : List T2} {r : Int} {i : Nat} (hi : i < a.length) (hr : a[i].1 = r) (h : ∀ t ∈ a, 0 ≤ t.2) : sumT (a.take i) r + a[i].2 ≤ sumT a r := by
  have e : a = a.take i ++ (a[i] :: a.drop (i + 1)) := by rw [← List.drop_eq_getElem_cons hi, List.take_append_drop]
  have h2 : sumT a r = sumT (a.take i) r + ((if a[i].1 = r then a[i].2 else 0) + sumT (a.drop (i + 1)) r) := by
    conv => lhs; rw [e]
    rw [sumT_app]
    rfl
  have h3 : 0 ≤ sumT (a.drop (i + 1)) r := sumT_nonneg fun t ht => h t (List.mem_of_mem_drop ht)
  rw [if_pos hr] at h2
  omega
/-- Entries with what was taken put back. -/
def addT (l : List Lt) (ts : List T2) : List Lt := l.map fun x => (x.1, x.2 + sumT ts x.1.1)
theorem addT_nil (l : List Lt) : addT l [] = l := by
  unfold addT
  rw [List.map_congr_left (g := id) (fun x _ => by simp [sumT])]
  simp
theorem addT_lots (l : List Lt) (ts : List T2) : (addT l ts).map (·.1) = l.map (·.1) := by unfold addT; rw [List.map_map]; rfl
theorem addT_len (l : List Lt) (ts : List T2) : (addT l ts).length = l.length := by simp [addT]
theorem addT_at (l : List Lt) (ts : List T2) {i : Nat} (hi : i < l.length) : (addT l ts)[i]'(by rw [addT_len]; exact hi) = (l[i].1, l[i].2 + sumT ts l[i].1.1) := by simp [addT]
theorem addT_congr {l : List Lt} {a b : List T2} (h : ∀ r, sumT a r = sumT b r) : addT l a = addT l b := by
  unfold addT
  exact List.map_congr_left fun x _ => by rw [h]
theorem back_step {l : List Lt} {ts : List T2} {t : T2} {i : Nat} (hd : dist l) (hi : i < l.length) (ht : l[i].1.1 = t.1) (hn : numB t.2 = true) (hs : l[i].2 + sumT ts t.1 + t.2 ≤ l[i].1.2.2.1) :
    backE (addT l ts) t.1 t.2 = 0 ∧ backL (addT l ts) t.1 t.2 = addT l (ts ++ [t]) := by
  have hix : idx (addT l ts) t.1 = some i := by
    rw [idx_lots _ (addT_lots l ts), ← ht]
    exact dist_idx hd hi
  have hat := addT_at l ts hi
  have hE : backE (addT l ts) t.1 t.2 = 0 := backE_ok hix hn (by rw [hat, ht]; exact hs)
  refine ⟨hE, ?_⟩
  rw [backL_ok hix hE, hat]
  apply List.ext_getElem (by simp [addT])
  intro k h1 h2
  have hk : k < l.length := by simpa [addT] using h2
  rw [List.getElem_set, addT_at l (ts ++ [t]) hk, sumT_app]
  split
  · rename_i e
    subst e
    simp only [sumT]
    rw [if_pos ht.symm, ht]
    simp; omega
  · rename_i e
    rw [addT_at l ts hk]
    have hne : t.1 ≠ l[k].1.1 := fun e' => e (dist_eq hd hi hk (ht.trans e'))
    simp only [sumT]
    rw [if_neg hne]
    simp
/-- The takes of a call: each is of an entry. -/
theorem takeO_mem (k : Int) : ∀ (l : List Lt) (n : Int) (t : T2), t ∈ takeO k n l → ∃ x ∈ l, x.1.1 = t.1 ∧ 0 < t.2 ∧ t.2 ≤ x.2 ∧ t.2 ≤ n ∧ x.1.2.1 = k
  | [], _, _, h => by cases h
  | x :: l, n, t, h => by
    have hn : n - tk k n x ≤ n := by unfold tk; split <;> omega
    rcases List.mem_append.1 h with h | h
    · split at h
      · rename_i hc
        obtain rfl := List.mem_singleton.1 h
        exact ⟨x, List.mem_cons_self .., rfl, hc.2, by show min n x.2 ≤ x.2; omega, by show min n x.2 ≤ n; omega, hc.1⟩
      · cases h
    · obtain ⟨y, hy, h1, h2, h3, h4, h5⟩ := takeO_mem k l _ t h
      exact ⟨y, List.mem_cons_of_mem _ hy, h1, h2, h3, by omega, h5⟩
theorem take_put (k : Int) : ∀ (l : List Lt) (n : Int), (l.Pairwise fun x y => x.1.1 ≠ y.1.1) → addT (takeX k n l) (takeO k n l) = l
  | [], _, _ => rfl
  | x :: l, n, h => by
    rw [List.pairwise_cons] at h
    have ih := take_put k l (n - tk k n x) h.2
    have hids : ∀ y ∈ takeX k (n - tk k n x) l, x.1.1 ≠ y.1.1 := fun y hy => by
      have : y.1 ∈ (takeX k (n - tk k n x) l).map (·.1) := List.mem_map_of_mem hy
      rw [takeX_lots] at this
      obtain ⟨z, hz, hzy⟩ := List.mem_map.1 this
      rw [← hzy]
      exact h.1 z hz
    have h0 : sumT (takeO k (n - tk k n x) l) x.1.1 = 0 := sumT_none fun t ht e => by
      obtain ⟨z, hz, h1, _⟩ := takeO_mem k l _ t ht
      exact h.1 z hz (e.symm.trans h1.symm)
    have hfst : sumT (if x.1.2.1 = k ∧ 0 < min n x.2 then [(x.1.1, min n x.2)] else []) x.1.1 = tk k n x := by
      unfold tk
      split
      · simp [sumT]
      · simp [sumT]
    have hoth : ∀ r, x.1.1 ≠ r → sumT (if x.1.2.1 = k ∧ 0 < min n x.2 then [(x.1.1, min n x.2)] else []) r = 0 := fun r hr => by
      split
      · simp [sumT, hr]
      · rfl
    have e1 : addT (takeX k (n - tk k n x) l) ((if x.1.2.1 = k ∧ 0 < min n x.2 then [(x.1.1, min n x.2)] else []) ++ takeO k (n - tk k n x) l) = addT (takeX k (n - tk k n x) l) (takeO k (n - tk k n x) l) := by
      unfold addT
      exact List.map_congr_left fun y hy => by rw [sumT_app, hoth _ (hids y hy)]; simp
    show (x.1, x.2 - tk k n x + sumT (takeO k n (x :: l)) x.1.1) :: addT (takeX k (n - tk k n x) l) (takeO k n (x :: l)) = x :: l
    have e2 : takeO k n (x :: l) = (if x.1.2.1 = k ∧ 0 < min n x.2 then [(x.1.1, min n x.2)] else []) ++ takeO k (n - tk k n x) l := rfl
    rw [e2, e1, ih, sumT_app, hfst, h0]
    congr 1
    rw [show x.2 - tk k n x + (tk k n x + 0) = x.2 from by omega]
theorem dist_pair {L : List Lt} (h : dist L) : L.Pairwise fun x y => x.1.1 ≠ y.1.1 := by
  rw [List.pairwise_iff_getElem]
  intro i j hi hj hij e
  have := dist_eq h hi hj e
  omega
/-- One of the takes of a call is put back, after others. -/
theorem put_back {l : List Lt} {k n : Int} (hf : fine l) (hd : dist l) (hn : n ≤ 1000000) {V : List T2} (hV : ∀ t ∈ V, t ∈ takeO k n l) (hsum : ∀ r, sumT V r = sumT (takeO k n l) r) {i : Nat} (hi : i < V.length) :
    backE (addT (takeX k n l) (V.take i)) V[i].1 V[i].2 = 0 ∧ backL (addT (takeX k n l) (V.take i)) V[i].1 V[i].2 = addT (takeX k n l) (V.take (i + 1)) := by
  obtain ⟨x, hx, h1, h2, h3, h4, _⟩ := takeO_mem k l n V[i] (hV _ (List.getElem_mem hi))
  obtain ⟨j, hj, rfl⟩ := List.getElem_of_mem hx
  have hjm : j < (takeX k n l).length := by rw [takeX_len]; exact hj
  have hlot : (takeX k n l)[j].1 = l[j].1 := by
    have e : ((takeX k n l).map (·.1))[j]'(by simpa using hjm) = (l.map (·.1))[j]'(by simpa using hj) := by simp only [takeX_lots]
    simpa using e
  have hp := take_put k l n (dist_pair hd)
  have hleft : (takeX k n l)[j].2 + sumT (takeO k n l) l[j].1.1 = l[j].2 := by
    have e := addT_at (takeX k n l) (takeO k n l) hjm
    have e2 : (addT (takeX k n l) (takeO k n l))[j]'(by rw [addT_len]; exact hjm) = l[j] := by simp only [hp]
    rw [e2] at e
    have := congrArg Prod.snd e
    rw [hlot] at this
    exact this.symm
  have hnn : ∀ t ∈ V, 0 ≤ t.2 := fun t ht => by
    obtain ⟨_, _, _, h, _⟩ := takeO_mem k l n t (hV t ht)
    omega
  have hst := sumT_take hi rfl hnn
  rw [hsum, ← h1] at hst
  have hcnt := (hf.2 _ (List.getElem_mem hj)).2.2.2
  have := back_step (l := takeX k n l) (ts := V.take i) (t := V[i]) (i := j) (dist_lots (takeX_lots k l n).symm hd) hjm (by rw [hlot]; exact h1) (decide_eq_true ⟨by omega, by omega⟩) (by
    rw [hlot, ← h1]
    omega)
  rw [List.take_succ_eq_append_getElem hi]
  exact this
end Go.Proofs.Ythbmofijdhfeeaa
