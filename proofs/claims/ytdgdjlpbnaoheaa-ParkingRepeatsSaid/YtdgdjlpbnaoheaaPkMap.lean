/- Maps whose elements are truths: block m says at key kl what f says. -/
import Derived.Test.YtdgdjlpbnaoheaaPkG
namespace Go.Proofs.Ytdgdjlpbnaoheaa
open Go.RowKit Go.Maps
theorem plainElem_bool_inv {H : Type} {P : Program} {e : TypeId} (he : P.underlying e = some .bool) {v : Value} {z : DataW H × List MemPlace} (h : plainElem P e v = some z) : ∃ a, v = .bool a ∧ z = (.lit (.bool a), []) := by
  unfold plainElem at h
  rw [he] at h
  cases v <;> simp at h
  exact ⟨_, rfl, h.symm⟩
def MapBo (P : Program) (K E : TypeId) (w : World) (m n : Nat) (f : Lit → Bool) : Prop :=
  ∃ D : DataW Unit, w.ownsMap P K (plainElem P E) m n D ∧ ∀ kl, D.atKey kl (.lit (.bool false)) = .lit (.bool (f kl))
open Classical in
noncomputable def setL (f : Lit → Bool) (kl : Lit) : Lit → Bool := fun k => if k = kl then true else f k
section
variable {P : Program} {K E : TypeId} {w : World} {m n : Nat} {f : Lit → Bool}
theorem MapBo.made (w : World) (P : Program) (K E : TypeId) : MapBo P K E (w.alloc (.map #[] 0)) w.heap.size 0 (fun _ => false) :=
  ⟨.map [], World.ownsMap_made w P K _, fun _ => rfl⟩
theorem MapBo.lt (h : MapBo P K E w m n f) : m < w.heap.size := let ⟨_, h, _⟩ := h; h.lt
theorem MapBo.alloc (h : MapBo P K E w m n f) (o : Obj) : MapBo P K E (w.alloc o) m n f := let ⟨D, h1, h2⟩ := h; ⟨D, h1.alloc o, h2⟩
theorem MapBo.look1 (h : MapBo P K E w m n f) {t : TypeId} (L : Keyed P K) (ht : P.underlying t = some (.map K E)) (he : P.underlying E = some .bool) (hz : (zeroValue E).run P w = .ok (.bool false) w)
    {key : Value} {kl : Lit} (hkey : keyOf P K key = some kl) :
    (Instr.lookup t (.map (some m)) key false).run P w = .ok (.bool (f kl)) w := by
  obtain ⟨D, h1, h2⟩ := h
  obtain ⟨v, ps, hrun, hv⟩ := h1.lookup L ht hz (plainElem_bool he false) hkey
  obtain ⟨c, rfl, hc⟩ := plainElem_bool_inv he hv
  simp only [Prod.mk.injEq] at hc
  obtain ⟨hc, _⟩ := hc
  rw [h2 kl] at hc
  injection hc with hc
  injection hc with hc
  rw [hc]
  exact hrun
theorem MapBo.put (h : MapBo P K E w m n f) {t : TypeId} (L : Keyed P K) (ht : P.underlying t = some (.map K E)) (he : P.underlying E = some .bool) (hn : n < maxLen)
    {key : Value} {kl : Lit} (hkey : keyOf P K key = some kl) (hk : WideAt.IsKeyLit kl) :
    ∃ w', (Instr.mapUpdate t (.map (some m)) key (.bool true)).run P w = .ok () w' ∧ MapBo P K E w' m (n + 1) (setL f kl) ∧ w.grownBy w' (some m) := by
  obtain ⟨D, h1, h2⟩ := h
  obtain ⟨w', hrun, hown, hg⟩ := h1.update L ht hn hkey (plainElem_bool he true)
  refine ⟨w', hrun, ⟨_, hown, fun k => ?_⟩, hg⟩
  by_cases e : k = kl
  · subst e
    rw [atKey_put_same h1.isMap hk]
    unfold setL; rw [if_pos rfl]
  · rw [atKey_put_other e, h2 k]
    unfold setL; rw [if_neg e]
end
/-- The rides among the first ones. -/
def rideIn (l : List Pk) (k : Nat) : Lit → Bool
  | .int .i64 r => (l.take k).any fun q => decide (q.ride = r)
  | _ => false
theorem rideIn_at (l : List Pk) (k : Nat) (r : Int) : rideIn l k (.int .i64 r) = (l.take k).any fun q => decide (q.ride = r) := rfl
theorem rideIn_step {l : List Pk} {k : Nat} (h : k < l.length) : setL (rideIn l k) (.int .i64 l[k].ride) = rideIn l (k + 1) := by
  funext kl
  unfold setL
  by_cases e : kl = .int .i64 l[k].ride
  · rw [if_pos e, e, rideIn_at, List.take_succ_eq_append_getElem h, List.any_append]; simp
  · rw [if_neg e]
    unfold rideIn
    split
    · rename_i r
      rw [List.take_succ_eq_append_getElem h, List.any_append]
      have : decide (l[k].ride = r) = false := decide_eq_false (fun e' => e (by rw [e']))
      simp [this]
    · rfl
theorem rideIn_zero (l : List Pk) : rideIn l 0 = fun _ => false := by
  funext kl
  unfold rideIn
  split <;> simp
/-- Has one of the first k bicycles the ride of an earlier one? -/
def dupT (l : List Pk) : Nat → Bool
  | 0 => false
  | k + 1 => dupT l k || (l.take k).any fun q => decide (q.ride = (pkAt l k).ride)
theorem dupT_step {l : List Pk} {k : Nat} (h : k < l.length) : dupT l (k + 1) = (dupT l k || (l.take k).any fun q => decide (q.ride = l[k].ride)) := by
  show (dupT l k || (l.take k).any fun q => decide (q.ride = (pkAt l k).ride)) = _
  rw [pkAt_get h]
theorem dupT_mono {l : List Pk} {k : Nat} (h : dupT l k = true) : ∀ {j : Nat}, k ≤ j → dupT l j = true
  | 0, hj => by have : k = 0 := by omega
                subst this; exact h
  | j + 1, hj => by
    rcases Nat.lt_or_ge k (j + 1) with g | g
    · show (dupT l j || _) = true
      rw [dupT_mono h (show k ≤ j by omega), Bool.true_or]
    · have : k = j + 1 := by omega
      subst this; exact h
/-- The first error of the bicycles. -/
def firstFault (l : List Fc) (m : Nat) : List Pk → Int
  | [] => 0
  | p :: q => if faultZ l m p ≠ 0 then faultZ l m p else firstFault l m q
theorem ff_bad {l : List Fc} {m : Nat} : ∀ {q : List Pk} {k : Nat} (hk : k < q.length), faultZ l m q[k] ≠ 0 → (∀ j (hj : j < q.length), j < k → faultZ l m q[j] = 0) → firstFault l m q = faultZ l m q[k]
  | [], k, hk, _, _ => absurd hk (Nat.not_lt_zero _)
  | p :: q, 0, hk, h, _ => by unfold firstFault; exact if_pos h
  | p :: q, k + 1, hk, h, hb => by
    unfold firstFault
    rw [if_neg (fun e => e (hb 0 (Nat.succ_pos _) (Nat.succ_pos _)))]
    exact ff_bad (q := q) (k := k) (by simpa using hk) h fun j hj hjk => hb (j + 1) (by simpa using hj) (by omega)
theorem ff_ok {l : List Fc} {m : Nat} : ∀ {q : List Pk}, (∀ j (hj : j < q.length), faultZ l m q[j] = 0) → firstFault l m q = 0
  | [], _ => rfl
  | p :: q, hb => by
    unfold firstFault
    rw [if_neg (fun e => e (hb 0 (Nat.succ_pos _)))]
    exact ff_ok (q := q) fun j hj => hb (j + 1) (by simpa using hj)
def allE (l : List Fc) (m : Nat) (q : List Pk) : Int := if 256 < q.length then 8 else if firstFault l m q ≠ 0 then firstFault l m q else if dupT q q.length = true then 6 else 0
theorem allE_full {l : List Fc} {m : Nat} {q : List Pk} (h : 256 < q.length) : allE l m q = 8 := if_pos h
theorem allE_bad {l : List Fc} {m : Nat} {q : List Pk} (h : ¬ 256 < q.length) (h2 : firstFault l m q ≠ 0) : allE l m q = firstFault l m q := by unfold allE; rw [if_neg h, if_pos h2]
theorem allE_dup {l : List Fc} {m : Nat} {q : List Pk} (h : ¬ 256 < q.length) (h2 : firstFault l m q = 0) (h3 : dupT q q.length = true) : allE l m q = 6 := by unfold allE; rw [if_neg h, if_neg (fun e => e h2), if_pos h3]
theorem allE_ok {l : List Fc} {m : Nat} {q : List Pk} (h : ¬ 256 < q.length) (h2 : firstFault l m q = 0) (h3 : dupT q q.length = false) : allE l m q = 0 := by unfold allE; rw [if_neg h, if_neg (fun e => e h2), if_neg (by rw [h3]; decide)]
def allV (l : List Fc) (ps : List Ph) (q : List Pk) : List Vd := if allE l ps.length q = 0 then q.map (verdict l (origL ps)) else []
theorem allV_no {l : List Fc} {ps : List Ph} {q : List Pk} {y : Int} (h : allE l ps.length q = y) (hy : y ≠ 0) : allV l ps q = [] := if_neg (by rw [h]; exact hy)
theorem allV_ok {l : List Fc} {ps : List Ph} {q : List Pk} (h : allE l ps.length q = 0) : allV l ps q = q.map (verdict l (origL ps)) := if_pos h
def encVd (v : Vd) : List Value := [.int .i64 v.1, .int .i64 v.2.1, .int .i64 v.2.2.1, .int .i64 v.2.2.2]
def cellsVd (l : List Vd) : List Value := l.flatMap encVd
theorem encVd_len (v : Vd) : (encVd v).length = 4 := rfl
theorem snocVd (l : List Vd) (v : Vd) : cellsVd (l ++ [v]) = cellsVd l ++ encVd v := by simp [cellsVd]
theorem oneVd {v : Vd} : ∀ u ∈ encVd v, u.oneCell' = true := by simp [encVd, Value.oneCell']
theorem infoVd : (Try.prog.info? 31).map (fun i => (i.zero, i.size, i.bytes)) = some (some (.agg #[.int .i64 0, .int .i64 0, .int .i64 0, .int .i64 0]), 4, 32) := by kernel_rfl
theorem frVd (u : World) (v : Vd) : Reads (u.alloc (.cells #[.int .i64 v.1, .int .i64 v.2.1, .int .i64 v.2.2.1, .int .i64 v.2.2.2] 31)) (u.heap.size + 1) 4 (some ⟨u.heap.size, 0, none⟩) 1 (encVd v) := by simpa [encVd] using Reads.fresh1 u 31 #[.int .i64 v.1, .int .i64 v.2.1, .int .i64 v.2.2.1, .int .i64 v.2.2.2] 4 rfl
/-- Verdicts and an error come back. -/
def RetVs (w : World) (l : List Vd) (y : Int) (e : Ending) (w' : World) : Prop := ∃ A n c, e = .returned (.tuple #[.slice A n c, .int .i64 y]) ∧ Reads w' w'.heap.size 4 A n (cellsVd l) ∧ l.length = n ∧ Below w.heap.size w w'
theorem retVs {w w' : World} {l l' : List Vd} {x y : Int} {A : Option Addr} {n c : Nat} (hr : Reads w' w'.heap.size 4 A n (cellsVd l)) (hl : l.length = n) (h1 : l = l') (h2 : x = y) (hb : Below w.heap.size w w') : RetVs w l' y (.returned (.tuple #[.slice A n c, .int .i64 x])) w' := by
  subst h1 h2; exact ⟨A, n, c, rfl, hr, hl, hb⟩
end Go.Proofs.Ytdgdjlpbnaoheaa
