/- A region whose order is drawn, of which some operations come in many orders (literals made early or late, appends in a chain): ONE proof for each operation serves every order. A predicate speaks of the set of operations done, of what they yielded and of the world; each operation, whenever its turn comes, keeps it. -/
import Derived.Test.YtakjdffebpcmnaaMix
namespace Go.Proofs.Ytakjdffebpcmnaa
open Go Go.RowKit
def upd {α : Type} (S : Nat → α) (i : Nat) (x : α) : Nat → α := fun j => if j = i then x else S j
theorem upd_at {α : Type} (S : Nat → α) (i : Nat) (x : α) : upd S i x i = x := if_pos rfl
theorem upd_ne {α : Type} (S : Nat → α) {i j : Nat} (x : α) (h : j ≠ i) : upd S i x j = S j := if_neg h
/-- The act behind the operations done. -/
def putIf (g : Nat → Oper) (S : Nat → Bool) (v : Nat → Value) (a : Act) (i : Nat) : Act := if S i = true then a.put (g i).dst (v i) else a
def actAt (g : Nat → Oper) (S : Nat → Bool) (v : Nat → Value) (es : List Nat) (a : Act) : Act := es.foldl (putIf g S v) a
/-- Different operations, different places. -/
def dstB (g : Nat → Oper) : List Nat → Bool
  | [] => true
  | i :: es => (g i).dst.isSome && (es.all fun j => decide ((g j).dst ≠ (g i).dst) && decide (j ≠ i)) && dstB g es
def outB (g : Nat → Oper) (es : List Nat) : Operand → Bool
  | .tmp t => es.all fun j => decide ((g j).dst ≠ some t)
  | _ => true
section
variable {g : Nat → Oper} {S S' : Nat → Bool} {v v' : Nat → Value}
theorem dstB_cons {i : Nat} {es : List Nat} (h : dstB g (i :: es) = true) : (g i).dst.isSome = true ∧ (∀ j ∈ es, (g j).dst ≠ (g i).dst ∧ j ≠ i) ∧ dstB g es = true := by
  simp only [dstB, Bool.and_eq_true, List.all_eq_true, decide_eq_true_eq] at h
  exact ⟨h.1.1, h.1.2, h.2⟩
theorem actAt_congr : ∀ (es : List Nat) (a : Act), (∀ j ∈ es, S j = S' j ∧ v j = v' j) → actAt g S v es a = actAt g S' v' es a
  | [], _, _ => rfl
  | i :: es, a, h => by
    have h0 := h i (List.mem_cons_self ..)
    show actAt g S v es (putIf g S v a i) = actAt g S' v' es (putIf g S' v' a i)
    rw [actAt_congr es _ fun j hj => h j (List.mem_cons_of_mem _ hj)]
    unfold putIf
    rw [h0.1, h0.2]
theorem actAt_put (d : Option Tmp) (x : Value) (hd : d.isSome = true) : ∀ (es : List Nat) (a : Act), (∀ j ∈ es, (g j).dst ≠ d) → (actAt g S v es a).put d x = actAt g S v es (a.put d x)
  | [], _, _ => rfl
  | i :: es, a, h => by
    have h0 := h i (List.mem_cons_self ..)
    show (actAt g S v es (putIf g S v a i)).put d x = actAt g S v es (putIf g S v (a.put d x) i)
    rw [actAt_put d x hd es _ fun j hj => h j (List.mem_cons_of_mem _ hj)]
    congr 1
    unfold putIf
    split
    · refine Act.put_comm a _ _ fun t ht e => h0 (by rw [ht, e])
    · rfl
theorem actAt_upd {i : Nat} (x : Value) : ∀ (es : List Nat) (a : Act), dstB g es = true → i ∈ es → S i = false → (actAt g S v es a).put (g i).dst x = actAt g (upd S i true) (upd v i x) es a
  | [], _, _, hi, _ => by cases hi
  | k :: es, a, hB, hi, hS => by
    obtain ⟨h1, h2, h3⟩ := dstB_cons hB
    show (actAt g S v es (putIf g S v a k)).put (g i).dst x = actAt g (upd S i true) (upd v i x) es (putIf g (upd S i true) (upd v i x) a k)
    by_cases hk : i = k
    · subst hk
      rw [actAt_put _ x h1 es _ fun j hj => (h2 j hj).1]
      have e1 : putIf g S v a i = a := if_neg (by simp [hS])
      have e2 : putIf g (upd S i true) (upd v i x) a i = a.put (g i).dst x := by unfold putIf; rw [upd_at, upd_at, if_pos rfl]
      rw [e1, e2]
      exact actAt_congr es _ fun j hj => ⟨(upd_ne S true (h2 j hj).2).symm, (upd_ne v x (h2 j hj).2).symm⟩
    · have hi' : i ∈ es := (List.mem_cons.1 hi).resolve_left hk
      rw [actAt_upd x es _ h3 hi' hS]
      congr 1
      unfold putIf
      rw [upd_ne S true (fun e => hk e.symm), upd_ne v x (fun e => hk e.symm)]
theorem eval_put_ne (a : Act) (d : Option Tmp) (x : Value) (t : Nat) (h : d ≠ some t) : (a.put d x).eval (.tmp t) = a.eval (.tmp t) := by
  cases d with
  | none => rfl
  | some d =>
    have : d ≠ t := fun e => h (by rw [e])
    simp [Act.put, Act.eval, this]
theorem actAt_out {t : Nat} : ∀ (es : List Nat) (a : Act), (∀ j ∈ es, (g j).dst ≠ some t) → (actAt g S v es a).eval (.tmp t) = a.eval (.tmp t)
  | [], _, _ => rfl
  | i :: es, a, h => by
    show (actAt g S v es (putIf g S v a i)).eval (.tmp t) = _
    rw [actAt_out es _ fun j hj => h j (List.mem_cons_of_mem _ hj)]
    unfold putIf
    split
    · exact eval_put_ne a _ _ t (h i (List.mem_cons_self ..))
    · rfl
theorem putIf_size (a : Act) (i : Nat) : (putIf g S v a i).tmps.size = a.tmps.size := by
  unfold putIf
  split
  · cases (g i).dst <;> simp [Act.put]
  · rfl
theorem actAt_in {j t : Nat} : ∀ (es : List Nat) (a : Act), dstB g es = true → j ∈ es → S j = true → (g j).dst = some t → t < a.tmps.size → (actAt g S v es a).eval (.tmp t) = v j
  | [], _, _, hi, _, _, _ => by cases hi
  | k :: es, a, hB, hi, hS, hd, ht => by
    obtain ⟨h1, h2, h3⟩ := dstB_cons hB
    show (actAt g S v es (putIf g S v a k)).eval (.tmp t) = v j
    by_cases hk : j = k
    · subst hk
      rw [actAt_out es _ fun k hk => by rw [← hd]; exact (h2 k hk).1]
      unfold putIf
      rw [if_pos hS, hd]
      simp [Act.put, Act.eval, ht]
    · exact actAt_in es _ h3 ((List.mem_cons.1 hi).resolve_left hk) hS hd (by rw [putIf_size]; exact ht)
theorem actAt_eval {x : Operand} {es : List Nat} {a : Act} (h : outB g es x = true) : (actAt g S v es a).eval x = a.eval x := by
  cases x with
  | tmp t =>
    simp only [outB, List.all_eq_true, decide_eq_true_eq] at h
    exact actAt_out es a h
  | const _ => rfl
  | global _ => rfl
  | func _ => rfl
theorem actAt_all : ∀ (es : List Nat) (a : Act), (∀ i ∈ es, S i = true) → actAt g S v es a = es.foldl (fun a i => a.put (g i).dst (v i)) a
  | [], _, _ => rfl
  | i :: es, a, h => by
    show actAt g S v es (putIf g S v a i) = es.foldl _ (a.put (g i).dst (v i))
    rw [actAt_all es _ fun j hj => h j (List.mem_cons_of_mem _ hj)]
    unfold putIf
    rw [if_pos (h i (List.mem_cons_self ..))]
end
section
variable {P : Program} {ops : Array Oper} {md : Region.Mode} {D : World → Prop} {Q : Exit → Act → World → Prop}
/-- Each waits for reading operations and for earlier ones of its own list alone. -/
def depB (ops : Array Oper) (hs : List Nat) : List Nat → List Nat → Bool
  | _, [] => true
  | prev, i :: es => ((ops.getD i default).after.all fun e => hs.contains e.on || prev.contains e.on) && depB ops hs (i :: prev) es
def freeB (md : Region.Mode) (ops : Array Oper) (hs es ls : List Nat) : Bool :=
  Region.noSelect ops && decide (hs.length + (es.length + ls.length) = ops.size) && headsT md ops ls hs (Array.replicate ops.size false) && dstB (fun k => ops.getD k default) es &&
    (es.all fun k => decide (k < ops.size) && !ls.contains k && !hs.contains k && (ops.getD k default).guard.isNone) && (ls.all fun k => decide (k < ops.size) && !hs.contains k && es.all fun i => Region.waitsFor md ops k i) &&
    ((List.range ops.size).all fun k => hs.contains k || es.contains k || ls.contains k) && depB ops hs [] es && orderB md ops ls ((Array.range ops.size).map fun k => !ls.contains k)
def Closed (md : Region.Mode) (ops : Array Oper) (es : List Nat) (S : Nat → Bool) : Prop := ∀ j ∈ es, ∀ k ∈ es, Region.waitsFor md ops j k = true → S j = true → S k = true
theorem depB_mid {hs : List Nat} {i : Nat} : ∀ (es1 es2 prev : List Nat), depB ops hs prev (es1 ++ i :: es2) = true → ∀ e ∈ (ops.getD i default).after, e.on ∈ hs ∨ e.on ∈ prev ∨ e.on ∈ es1
  | [], es2, prev, h => by
    simp only [List.nil_append, depB, Bool.and_eq_true, Array.all_eq_true_iff_forall_mem, Bool.or_eq_true, List.contains_eq_mem, decide_eq_true_eq] at h
    exact fun e he => (h.1 e he).imp id .inl
  | k :: es1, es2, prev, h => by
    simp only [List.cons_append, depB, Bool.and_eq_true] at h
    intro e he
    rcases depB_mid es1 es2 (k :: prev) h.2 e he with h1 | h1 | h1
    · exact .inl h1
    · rcases List.mem_cons.1 h1 with h2 | h2
      · exact .inr (.inr (by rw [h2]; exact List.mem_cons_self ..))
      · exact .inr (.inl h2)
    · exact .inr (.inr (List.mem_cons_of_mem _ h1))
theorem first_false {S : Nat → Bool} : ∀ (es : List Nat), (∃ i ∈ es, S i = false) → ∃ es1 i es2, es = es1 ++ i :: es2 ∧ S i = false ∧ ∀ j ∈ es1, S j = true
  | [], h => by obtain ⟨_, h, _⟩ := h; cases h
  | k :: es, h => by
    by_cases hk : S k = false
    · exact ⟨[], k, es, rfl, hk, fun j hj => by cases hj⟩
    · obtain ⟨i, hi, hS⟩ := h
      have hi' : i ∈ es := (List.mem_cons.1 hi).resolve_left fun e => hk (by rw [← e]; exact hS)
      obtain ⟨es1, i', es2, e, h1, h2⟩ := first_false es ⟨i, hi', hS⟩
      exact ⟨k :: es1, i', es2, by rw [e]; rfl, h1, fun j hj => (List.mem_cons.1 hj).elim (fun e => by rw [e]; simpa using hk) (h2 j)⟩
theorem wpM_free {hs es ls : List Nat} {a : Act} (J : (Nat → Bool) → (Nat → Value) → World → Prop) (hB : freeB md ops hs es ls = true)
    (hstep : ∀ S v u, Closed md ops es S → J S v u → ∀ i ∈ es, S i = false → (∀ k ∈ es, Region.waitsFor md ops i k = true → S k = true) → ∀ ρ : Operand → Value,
      (∀ j ∈ es, S j = true → ∀ t, (ops.getD j default).dst = some t → t < a.tmps.size → ρ (.tmp t) = v j) → (∀ x, outB (fun k => ops.getD k default) es x = true → ρ x = a.eval x) →
      ∃ x u', (execOp ρ (ops.getD i default)).run P u = .ok (.value x) u' ∧ D u' ∧ J (upd S i true) (upd v i x) u')
    (hend : ∀ S v u, (∀ i ∈ es, S i = true) → J S v u → wpList P ops Q (ls.map fun k => ops.getD k default) (es.foldl (fun a i => a.put (ops.getD i default).dst (v i)) a) u) :
    ∀ (m : Nat) (listed : Array Bool) (S : Nat → Bool) (v : Nat → Value) (w : World), es.countP (fun i => !S i) = m → listed.size = ops.size → (∀ i, i < ops.size → listed.getD i false = (hs.contains i || (es.contains i && S i))) →
      Closed md ops es S → J S v w → wpM P md ops D ls Q (m + ls.length) listed (actAt (fun k => ops.getD k default) S v es a) w := by
  have hB0 := hB
  simp only [freeB, Bool.and_eq_true, decide_eq_true_eq, List.all_eq_true, Bool.not_eq_true', List.contains_eq_mem, decide_eq_false_iff_not, Bool.or_eq_true, List.mem_range] at hB
  obtain ⟨⟨⟨⟨⟨⟨⟨⟨hsel, hlen⟩, hheads⟩, hdst⟩, hes⟩, hls⟩, hall⟩, hdep⟩, hord⟩ := hB
  intro m
  induction m with
  | zero =>
    intro listed S v w hcnt hsz hli _ hJ
    have hS : ∀ i ∈ es, S i = true := fun i hi => by
      have := List.countP_eq_zero.1 hcnt i hi
      simpa using this
    rw [Nat.zero_add, actAt_all es a hS]
    have hlist : listed = (Array.range ops.size).map fun k => !decide (k ∈ ls) := by
      refine Array.ext (by simp [hsz]) fun i h1 h2 => ?_
      have hi : i < ops.size := by omega
      have h3 := hli i hi
      have h4 : listed.getD i false = listed[i] := by simp [h1]
      rw [h4] at h3
      rw [h3]
      simp only [Array.getElem_map, Array.getElem_range, List.contains_eq_mem]
      by_cases hl : i ∈ ls
      · have n1 : i ∉ hs := (hls i hl).1.2
        have n2 : i ∉ es := fun he => (hes i he).1.1.2 hl
        simp [hl, n1, n2]
      · rcases hall i hi with (h5 | h5) | h5
        · simp [hl, h5]
        · simp [hl, h5, hS i h5]
        · exact absurd h5 hl
    refine wpM_late ls listed _ w (fun k hk => hk) (by rw [hlist]; exact hord) (fun k hk => (hls k hk).1.1) (hend S v w hS hJ)
  | succ m ih =>
    intro listed S v w hcnt hsz hli hcl hJ
    have hex : ∃ i ∈ es, S i = false := by
      have : 0 < es.countP (fun i => !S i) := by omega
      obtain ⟨i, hi, h1⟩ := List.countP_pos_iff.1 this
      exact ⟨i, hi, by simpa using h1⟩
    have hset : ∀ i ∈ es, listed.getD i false = S i := fun i hi => by
      have h1 := hes i hi
      rw [hli i h1.1.1.1]
      simp [h1.1.2, hi]
    have hhs : ∀ i ∈ hs, i < ops.size → listed.getD i false = true := fun i hi hl => by
      rw [hli i hl]
      simp [hi]
    rw [show m + 1 + ls.length = m + ls.length + 1 by omega]
    refine ⟨fun h => ?_, fun i hi => ?_⟩
    · exfalso
      obtain ⟨es1, i, es2, he, hSi, hS1⟩ := first_false es hex
      have hie : i ∈ es := by rw [he]; simp
      have hil := (hes i hie).1.1.1
      have hr : i ∈ Region.ready md ops listed := by
        refine mem_ready.2 ⟨?_, ops.getD i default, by simp [hil], fun e hee _ => ?_⟩
        · have := hset i hie
          rw [hSi] at this
          have h1 : i < listed.size := by omega
          simp [h1] at this ⊢
          exact this
        · rcases depB_mid es1 es2 [] (by rw [← he]; exact hdep) e hee with h1 | h1 | h1
          · refine hhs _ h1 ?_
            rcases Nat.lt_or_ge e.on ops.size with h2 | h2
            · exact h2
            · exfalso
              have : ∀ (hs : List Nat) (li : Array Bool), headsT md ops ls hs li = true → ∀ k ∈ hs, k < ops.size := by
                intro hs
                induction hs with
                | nil => intro _ _ k hk; cases hk
                | cons k0 hs ih2 =>
                  intro li hh k hk
                  simp only [headsT, Bool.and_eq_true, decide_eq_true_eq] at hh
                  rcases List.mem_cons.1 hk with e | hk
                  · rw [e]; exact hh.1.1.2
                  · exact ih2 _ hh.2 k hk
              exact absurd (this hs _ hheads _ h1) (by omega)
          · cases h1
          · rw [hset e.on (by rw [he]; simp [h1])]
            exact hS1 _ h1
      rw [h] at hr
      cases hr
    · obtain ⟨hun, oi, hoi, haf⟩ := mem_ready.1 hi
      have hil : i < ops.size := by
        rcases Nat.lt_or_ge i ops.size with h1 | h1
        · exact h1
        · rw [Array.getElem?_eq_none h1] at hoi; cases hoi
      have hun' := getD_lo hun
      have hw : ∀ k, Region.waitsFor md ops i k = true → listed.getD k false = true := fun k hk => by
        obtain ⟨oj, hoj, e, he, hb, hon⟩ := Region.waitsFor_spec hk
        have e2 : oj = oi := Option.some.inj (hoj.symm.trans hoi)
        subst e2
        rw [← hon]
        exact haf e he hb
      rcases hall i hil with (h5 | h5) | h5
      · rw [hhs i h5 hil] at hun'; cases hun'
      · have hie := h5
        have hSi : S i = false := by rw [← hset i hie]; exact hun'
        obtain ⟨⟨⟨_, hnl⟩, _⟩, hgd⟩ := hes i hie
        have hwS : ∀ k ∈ es, Region.waitsFor md ops i k = true → S k = true := fun k hk hwk => by rw [← hset k hk]; exact hw k hwk
        obtain ⟨x, u', hrun, hD, hJ'⟩ := hstep S v w hcl hJ i hie hSi hwS (actAt (fun k => ops.getD k default) S v es a).eval (fun j hj hSj t hd ht => actAt_in es a hdst hj hSj hd ht) (fun x hx => actAt_eval hx)
        refine .inl ⟨hnl, ?_⟩
        have hoi2 : ops[i]? = some (ops.getD i default) := by simp [hil]
        have hg0 : (ops.getD i default).guard = none := by simpa using hgd
        unfold wpOp
        simp only [hoi2]
        have hwant : Region.wanted (ops.getD i default) (yielded ops (actAt (fun k => ops.getD k default) S v es a).tmps) = true := by simp only [Region.wanted, hg0]
        rw [if_pos hwant]
        refine .inl ?_
        unfold Oper.wp
        rw [hrun]
        refine ⟨hD, ?_⟩
        rw [actAt_upd (g := fun k => ops.getD k default) x es a hdst hie hSi]
        refine ih _ (upd S i true) (upd v i x) u' ?_ (by simpa using hsz) (fun k hk => ?_) (fun j hj k hk hwk hSj => ?_) hJ'
        · have hcount : ∀ (l : List Nat), dstB (fun k => ops.getD k default) l = true → i ∈ l → l.countP (fun j => !S j) = l.countP (fun j => !upd S i true j) + 1 := by
            intro l
            induction l with
            | nil => intro _ h; cases h
            | cons k l ih2 =>
              intro hb hm
              obtain ⟨_, h2, h3⟩ := dstB_cons hb
              by_cases hk : i = k
              · subst hk
                have hsame : l.countP (fun j => !S j) = l.countP (fun j => !upd S i true j) := List.countP_congr fun j hj => by rw [upd_ne S true (h2 j hj).2]
                rw [List.countP_cons_of_pos (by simp [hSi]), List.countP_cons_of_neg (by simp [upd_at]), hsame]
              · have := ih2 h3 ((List.mem_cons.1 hm).resolve_left hk)
                rw [List.countP_cons, List.countP_cons, this, upd_ne S true (fun e => hk e.symm)]
                omega
          have := hcount es hdst hie
          omega
        · by_cases hki : i = k
          · subst hki
            have : i < listed.size := by omega
            rw [upd_at]
            simp [this, hie]
          · rw [getD_set_ne false hki, upd_ne S true (fun e => hki e.symm)]
            exact hli k hk
        · by_cases hji : j = i
          · subst hji
            by_cases hkj : k = j
            · rw [hkj]; exact upd_at ..
            · rw [upd_ne S true hkj]; exact hwS k hk hwk
          · rw [upd_ne S true hji] at hSj
            by_cases hki : k = i
            · rw [hki]; exact upd_at ..
            · rw [upd_ne S true hki]; exact hcl j hj k hk hwk hSj
      · obtain ⟨k, hk, hSk⟩ := hex
        have := hw k ((hls i h5).2 k hk)
        rw [hset k hk, hSk] at this
        cases this
theorem after_size (hs : List Nat) : ∀ (listed : Array Bool), (after hs listed).size = listed.size := by
  induction hs with
  | nil => intro _; rfl
  | cons k hs ih => intro listed; show (after hs (listed.setIfInBounds k true)).size = _; rw [ih]; simp
theorem after_getD (hs : List Nat) : ∀ (listed : Array Bool) (i : Nat), i < listed.size → (after hs listed).getD i false = (hs.contains i || listed.getD i false) := by
  induction hs with
  | nil => intro _ _ _; simp [after]
  | cons k hs ih =>
    intro listed i hi
    show (after hs (listed.setIfInBounds k true)).getD i false = _
    rw [ih _ i (by simpa using hi)]
    by_cases hk : k = i
    · subst hk; simp [hi]
    · rw [getD_set_ne false hk]
      have : ¬ i = k := fun e => hk e.symm
      simp [this]
/-- hs: the reading operations; es: those with a predicate; ls: those that wait for all of these. -/
theorem wp_region_free {id : Nat} {a : Act} {w : World} {l : List Oper} (hs es ls : List Nat) (D : World → Prop) (hm : P.follows .mixedOrders = true) (hB : freeB .any l.toArray hs es ls = true) (hD : D w.drew)
    (h : wpQuiet P l.toArray (fun w' => ∃ z : DFam D, w' = z.val) (fun a' => ∃ J : (Nat → Bool) → (Nat → Value) → World → Prop, J (fun _ => false) (fun _ => undef) w.drew ∧
      (∀ S v u, Closed .any l.toArray es S → J S v u → ∀ i ∈ es, S i = false → (∀ k ∈ es, Region.waitsFor .any l.toArray i k = true → S k = true) → ∀ ρ : Operand → Value,
        (∀ j ∈ es, S j = true → ∀ t, (l.getD j default).dst = some t → t < a'.tmps.size → ρ (.tmp t) = v j) → (∀ x, outB (fun k => l.getD k default) es x = true → ρ x = a'.eval x) →
        ∃ x u', (execOp ρ (l.getD i default)).run P u = .ok (.value x) u' ∧ D u' ∧ J (upd S i true) (upd v i x) u') ∧
      (∀ S v u, (∀ i ∈ es, S i = true) → J S v u → wpList P l.toArray Q (ls.map fun k => l.getD k default) (es.foldl (fun a i => a.put (l.getD i default).dst (v i)) a') u)) (hs.map fun k => l.getD k default) a) : (Code.region id l.toArray true).wp P Q a w := by
  have hDD : (fun w' => ∃ z : DFam D, w' = z.val) = D := by
    funext w'
    exact propext ⟨fun ⟨z, e⟩ => e ▸ z.prop, fun h => ⟨⟨w', h⟩, rfl⟩⟩
  rw [hDD] at h
  have hg : (fun k => l.getD k default) = fun k => l.toArray.getD k default := by funext k; simp [List.getD_eq_getElem?_getD]
  have hg1 : ∀ k, l.getD k default = l.toArray.getD k default := fun k => congrFun hg k
  rw [hg] at h
  simp only [hg1] at h
  have hB0 := hB
  simp only [freeB, Bool.and_eq_true, decide_eq_true_eq, List.all_eq_true, Bool.not_eq_true', List.contains_eq_mem, decide_eq_false_iff_not, Bool.or_eq_true, List.mem_range] at hB
  obtain ⟨⟨⟨⟨⟨⟨⟨⟨hsel, hlen⟩, hheads⟩, hdst⟩, hes⟩, hls⟩, hall⟩, hdep⟩, hord⟩ := hB
  refine wp_region_any hm (wpAny_of_M (D := D) (late := ls) _ _ _ _ ?_)
  refine wpM_ge (f := hs.length + (es.length + ls.length)) (wpM_headsT (Q := Q) hsel _ w.drew hD (es.length + ls.length) hs _ a hheads h fun a' h' => ?_) (by omega)
  obtain ⟨J, h0, h1, h2⟩ := h'
  have := wpM_free (a := a') J hB0 h1 h2 es.length (after hs (Array.replicate l.toArray.size false)) (fun _ => false) (fun _ => undef) w.drew (by simp) (by rw [after_size]; simp) (fun i hi => by
    rw [after_getD _ _ _ (by simpa using hi)]
    have h3 : i < l.length := by simpa using hi
    simp [h3]) (fun j hj k hk _ h => by cases h) h0
  have hid : actAt (fun k => l.toArray.getD k default) (fun _ => false) (fun _ => undef) es a' = a' := by
    have : ∀ (es : List Nat) (a : Act), actAt (fun k => l.toArray.getD k default) (fun _ => false) (fun _ => undef) es a = a := by
      intro es
      induction es with
      | nil => intro _; rfl
      | cons k es ih => intro a; exact ih a
    exact this es a'
  rw [hid] at this
  exact this
end
end Go.Proofs.Ytakjdffebpcmnaa
