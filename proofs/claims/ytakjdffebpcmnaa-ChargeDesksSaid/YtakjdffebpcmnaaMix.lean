/- A region whose order is drawn, with reading operations, then some that make memory, then the rest: one walk serves every order. The reading operations are taken first: they yield the same in every world of a class D, in which the world stays until they are done. -/
import Derived.StillTail
import Derived.Deep.Quiet
import Derived.BigQuiet
import Derived.Test.YtakjdffebpcmnaaBase
namespace Go.Proofs.Ytakjdffebpcmnaa
open Go Go.RowKit
/-- An operation that can call nothing. -/
def plainB : Op → Bool
  | .move _ | .assign _ | .pick .. | .load .. | .fieldAddr .. | .field .. | .indexAddr .. | .index .. | .binOp .. | .unOp .. | .convert .. | .extract .. | .slice .. | .nilCheck _ => true
  | .call c => match c.callee with
    | .builtin .min => true
    | .builtin .max => true
    | _ => false
  | _ => false
theorem ov_pure (P : Program) (v : Value) : ∀ w n w', (pure (Next.value v) : Sem Next).run P w = .ok n w' → ∃ u, n = .value u := fun w n w' h => by
  simp only [Sem.run_pure] at h
  injection h with h1 _
  exact ⟨v, h1.symm⟩
theorem ov_bind {α : Type} (P : Program) (m : Sem α) (f : α → Sem Next) (hf : ∀ a, ∀ w n w', (f a).run P w = .ok n w' → ∃ u, n = .value u) : ∀ w n w', (m >>= f).run P w = .ok n w' → ∃ u, n = .value u := fun w n w' h => by
  simp only [Sem.run_bind] at h
  cases hv : m.run P w with
  | ok v w2 => rw [hv] at h; simp only [Result.andThen] at h; exact hf v _ _ _ h
  | halt x w2 => rw [hv] at h; simp only [Result.andThen] at h; cases h
theorem plain_value (P : Program) (ρ : Operand → Value) (o : Oper) (w w' : World) (n : Next) (h : plainB o.op = true) (hr : (execOp ρ o).run P w = .ok n w') : ∃ u, n = .value u := by
  have key : ∀ m : Sem Value, (do pure (Next.value (← m)) : Sem Next).run P w = .ok n w' → ∃ u, n = .value u := fun m hm => by
    simp only [Sem.run_bind, Sem.run_pure] at hm
    cases hv : m.run P w with
    | ok v w2 => rw [hv] at hm; simp only [Result.andThen] at hm; injection hm with h1 _; exact ⟨v, h1.symm⟩
    | halt x w2 => rw [hv] at hm; simp only [Result.andThen] at hm; cases hm
  obtain ⟨dst, op, type, pos, after, guard⟩ := o
  by_cases hcall : ∃ c, op = .call c
  · obtain ⟨c, rfl⟩ := hcall
    obtain ⟨callee, args, argTypes⟩ := c
    cases callee with
    | builtin b =>
      cases b <;> first | (exact absurd h Bool.false_ne_true) | skip
      all_goals
        simp only [execOp, resolve, invoke, builtin, Sem.run_bind, Sem.run_pure, Result.andThen] at hr
        first
          | exact key (Builtin.max_ argTypes type (args.map ρ)) (by simp only [Sem.run_bind, Sem.run_pure, Result.andThen]; exact hr)
          | exact key (Builtin.min_ argTypes type (args.map ρ)) (by simp only [Sem.run_bind, Sem.run_pure, Result.andThen]; exact hr)
    | invoke recv name => exact absurd h Bool.false_ne_true
    | value f => exact absurd h Bool.false_ne_true
  cases op <;> first | (exact absurd h Bool.false_ne_true) | (exact absurd ⟨_, rfl⟩ hcall) | skip
  all_goals simp only [execOp] at hr
  all_goals first | exact key _ hr | skip
  case nilCheck x =>
    split at hr
    · simp [runtimePanic, go_sem] at hr
    · simp [runtimePanic, go_sem] at hr
    · simp [runtimePanic, go_sem] at hr
    · split at hr
      · simp [runtimePanic, go_sem] at hr
      · refine ov_bind P _ _ (fun a => ov_bind P _ _ fun b => ?_) _ _ _ hr
        split
        · exact ov_bind P _ _ fun _ => ov_pure P _
        · exact ov_pure P _
      · exact key (pure _) hr
    · exact key (pure _) hr
  · exact key (pure _) hr
  · exact key (pure _) hr
  · rename_i c x y
    simp only [Sem.run_bind, Sem.run_pure] at hr
    cases hv : (asBool (ρ c)).run P w with
    | ok v w2 => rw [hv] at hr; simp only [Result.andThen] at hr; injection hr with h1 _; exact ⟨_, h1.symm⟩
    | halt x w2 => rw [hv] at hr; simp only [Result.andThen] at hr; cases hr
section
variable {P : Program} {ops : Array Oper} {md : Region.Mode} {D : World → Prop} {Q : Exit → Act → World → Prop}
/-- No other end than the plain one. -/
def QN (K : Act → World → Prop) : Exit → Act → World → Prop
  | .normal, a, w => K a w
  | _, _, _ => False
theorem letsOut_QN (K : Act → World → Prop) : ¬ LetsOut (QN K) := fun ⟨_, _, h⟩ => h
/-- In every world of the class the operation yields this value and leaves the world alone. -/
def StillIn (P : Program) (ops : Array Oper) (D : World → Prop) (o : Oper) (v : Value) (a : Act) : Prop :=
  (Region.wanted o (yielded ops a.tmps) = true ∧ ∀ w, D w → (execOp a.eval o).run P w = .ok (.value v) w) ∨ (Region.wanted o (yielded ops a.tmps) = false ∧ v = undef)
theorem StillIn.of_same {o : Oper} {v : Value} {a a' : Act} (hy : StillIn P ops D o v a) (he : execOp a'.eval o = execOp a.eval o)
    (hw : Region.wanted o (yielded ops a'.tmps) = Region.wanted o (yielded ops a.tmps)) : StillIn P ops D o v a' := by
  unfold StillIn at *
  rw [he, hw]
  exact hy
theorem StillIn.wpOp {i : Nat} {o : Oper} {v : Value} {a : Act} {K : Act → World → Prop} {w : World} (hi : ops[i]? = some o) (hy : StillIn P ops D o v a) (hD : D w) (h : K (a.put o.dst v) w) : wpOp P ops Q i K a w := by
  unfold Go.wpOp
  simp only [hi]
  rcases hy with ⟨hw, hv⟩ | ⟨hw, rfl⟩
  · simp only [hw, if_true, Oper.wp, hv w hD, Oper.upon]; exact .inl h
  · simp only [hw, Bool.false_eq_true, if_false]; exact h
/-- An operation that ends plainly, apart from a reading one: the reading one's value makes no difference to it. -/
theorem wpOp_putN {j : Nat} {oi oj : Oper} {v : Value} (hj : ops[j]? = some oj) (hap : oi.apart ops oj = true)
    (hsi : ∀ cs b, oi.op ≠ .select cs b) (hsj : ∀ cs b, oj.op ≠ .select cs b) {K : Act → World → Prop} {a : Act} {w : World}
    (hy : StillIn P ops D oi v a) (h : wpOp P ops (QN fun _ _ => False) j K (a.put oi.dst v) w) :
    wpOp P ops (QN fun _ _ => False) j (fun a' w' => StillIn P ops D oi v a' ∧ K (a'.put oi.dst v) w') a w := by
  obtain ⟨h1, h2, h3⟩ := Oper.apart_spec hap
  have keep : ∀ (a : Act), StillIn P ops D oi v a → ∀ u, StillIn P ops D oi v (a.put oj.dst u) := fun a hy u =>
    hy.of_same (execOp_put oi hsi a oj.dst u h3) (wanted_put oi a oj.dst u h3)
  have keepD : ∀ d, StillIn P ops D oi v { a with defers := d :: a.defers } := fun d => hy.of_same rfl rfl
  unfold wpOp at *
  simp only [hj] at *
  rw [wanted_put oj a oi.dst v h1] at h
  split
  · rename_i hw
    simp only [hw, if_true] at h
    rcases h with h | ⟨_, hlets⟩
    case inr => exact absurd hlets (letsOut_QN _)
    refine .inl ?_
    unfold Oper.wp at *
    rw [execOp_put oj hsj a oi.dst v h1] at h
    generalize (execOp a.eval oj).run P w = r at *
    cases r with
    | ok n w' =>
      cases n <;> simp only [Oper.upon] at h ⊢
      case value u => exact ⟨keep a hy u, by rw [← Act.put_comm a v u h2]; exact h⟩
      case skip => exact ⟨keep a hy _, by rw [← Act.put_comm a v undef h2]; exact h⟩
      case defer d =>
        refine ⟨keep _ (keepD d) _, ?_⟩
        rw [← Act.put_comm _ v undef h2, ← Act.put_defers]
        exact h
      case enter f args =>
        refine Calls.mono h fun e w'' he => ?_
        cases e with
        | returned u => exact ⟨keep a hy u, by rw [← Act.put_comm a v u h2]; exact he⟩
        | panicked c => exact he.elim
        | outgrown => exact he
      case row row args => exact Rows.mono h fun u w'' he => ⟨keep a hy u, by rw [← Act.put_comm a v u h2]; exact he⟩
    | halt x w' =>
      cases x <;> simp only [Oper.upon] at h ⊢
      case panic u => exact h.elim
  · rename_i hw
    simp only [hw] at h
    exact ⟨keep a hy _, by rw [← Act.put_comm a v undef h2]; exact h⟩
/-- From no other end than the plain one to any. -/
theorem wpOp_ofN {i : Nat} {K : Act → World → Prop} {a : Act} {w : World} (h : wpOp P ops (QN fun _ _ => False) i K a w) : wpOp P ops Q i K a w := by
  unfold wpOp at *
  split
  · rename_i h0; simp only [h0] at h; exact h
  · rename_i o h0
    simp only [h0] at h
    split
    · rename_i hw
      simp only [hw, if_true] at h
      rcases h with h | ⟨_, hlets⟩
      case inr => exact absurd hlets (letsOut_QN _)
      refine .inl ?_
      unfold Oper.wp at *
      generalize (execOp a.eval o).run P w = r at *
      cases r with
      | ok n w' =>
        cases n <;> simp only [Oper.upon] at h ⊢ <;> first | exact h | skip
        refine Calls.mono h fun e w'' he => ?_
        cases e with
        | returned u => exact he
        | panicked c => exact he.elim
        | outgrown => exact absurd he (letsOut_QN _)
      | halt x w' =>
        cases x <;> simp only [Oper.upon] at h ⊢
        case panic u => exact h.elim
    · rename_i hw; simp only [hw] at h; exact h
/-- Whatever order is picked: the early operations end plainly and stay in the class. -/
def wpM (P : Program) (md : Region.Mode) (ops : Array Oper) (D : World → Prop) (late : List Nat) (Q : Exit → Act → World → Prop) : Nat → Array Bool → Act → World → Prop
  | 0, listed, a, w => Region.ready md ops listed = [] ∧ Q .normal a w
  | fuel + 1, listed, a, w =>
    (Region.ready md ops listed = [] → Q .normal a w) ∧
    ∀ i ∈ Region.ready md ops listed, (i ∉ late ∧ wpOp P ops (QN fun _ _ => False) i (fun a' w' => D w' ∧ wpM P md ops D late Q fuel (listed.setIfInBounds i true) a' w') a w) ∨ (i ∈ late ∧ wpOp P ops Q i (wpM P md ops D late Q fuel (listed.setIfInBounds i true)) a w)
theorem wpAny_of_M {late : List Nat} : ∀ (fuel : Nat) (listed : Array Bool) (a : Act) (w : World), wpM P md ops D late Q fuel listed a w → wpAny P md ops Q fuel listed a w
  | 0, _, _, _, h => h
  | fuel + 1, _, _, _, h => ⟨h.1, fun i hi => by
    rcases h.2 i hi with ⟨_, h2⟩ | ⟨_, h2⟩
    · exact wpOp_mono (fun a' w' h' => wpAny_of_M fuel _ a' w' h'.2) (wpOp_ofN h2)
    · exact wpOp_mono (fun a' w' h' => wpAny_of_M fuel _ a' w' h') h2⟩
/-- The late operations wait for this one. -/
def lateB (md : Region.Mode) (ops : Array Oper) (late : List Nat) (i : Nat) : Bool := late.all fun j => Region.waitsFor md ops j i
theorem late_not {late : List Nat} {i j : Nat} {listed : Array Bool} (hB : lateB md ops late i = true) (hun : listed.getD i false = false) (hj : j ∈ Region.ready md ops listed) : j ∉ late := fun hl => by
  obtain ⟨oj, hoj, e, he, hb, hon⟩ := Region.waitsFor_spec (List.all_eq_true.1 hB j hl)
  obtain ⟨_, o2, ho2, hall⟩ := mem_ready.1 hj
  have : oj = o2 := Option.some.inj (hoj.symm.trans ho2)
  subst this
  have := hall e he hb
  rw [hon, hun] at this
  cases this
theorem getD_lo {listed : Array Bool} {i : Nat} (h : listed.getD i true = false) : listed.getD i false = false := by
  rcases Nat.lt_or_ge i listed.size with h' | h'
  · simp [h'] at h ⊢; exact h
  · simp [Array.getElem?_eq_none h'] at h
theorem wpM_first {late : List Nat} {i : Nat} {oi : Oper} {v : Value} (hi : ops[i]? = some oi) (hsel : ∀ (j : Nat) (o : Oper) cs b, ops[j]? = some o → o.op ≠ .select cs b) (hlate : lateB md ops late i = true) (hil : i ∉ late) :
    ∀ (fuel : Nat) (listed : Array Bool) (a : Act) (w : World), D w →
      (∀ j oj, ops[j]? = some oj → j ≠ i → listed.getD j true = false → (∀ e ∈ oj.after, Region.binds md e = true → e.on ≠ i) → oi.apart ops oj = true) →
      i ∈ Region.ready md ops listed → StillIn P ops D oi v a →
      wpM P md ops D late Q fuel (listed.setIfInBounds i true) (a.put oi.dst v) w → wpM P md ops D late Q (fuel + 1) listed a w := by
  intro fuel
  induction fuel with
  | zero =>
    intro listed a w hD _ hr hy H
    refine ⟨fun h => (by rw [h] at hr; cases hr), fun j hj => ?_⟩
    by_cases hji : j = i
    · subst hji; exact .inl ⟨hil, hy.wpOp hi hD ⟨hD, H⟩⟩
    · have := ready_mono hj hji
      rw [H.1] at this
      cases this
  | succ fuel ih =>
    intro listed a w hD hfree hr hy H
    refine ⟨fun h => (by rw [h] at hr; cases hr), fun j hj => ?_⟩
    by_cases hji : j = i
    · subst hji; exact .inl ⟨hil, hy.wpOp hi hD ⟨hD, H⟩⟩
    · have hun := getD_lo (mem_ready.1 hr).1
      have hjl := late_not hlate hun hj
      have h1 := H.2 j (ready_mono hj hji)
      rcases h1 with ⟨_, h1⟩ | ⟨h0, _⟩
      case inr => exact absurd h0 hjl
      obtain ⟨hjun, oj, hoj, hall⟩ := mem_ready.1 hj
      have hnot : ∀ e ∈ oj.after, Region.binds md e = true → e.on ≠ i := fun e he hb heq => by
        have h1 := hall e he hb
        rw [heq, hun] at h1
        cases h1
      have h2 := wpOp_putN hoj (hfree j oj hoj hji hjun hnot) (fun cs b => hsel i oi cs b hi) (fun cs b => hsel j oj cs b hoj) hy h1
      have hfree' : ∀ k ok, ops[k]? = some ok → k ≠ i → (listed.setIfInBounds j true).getD k true = false →
          (∀ e ∈ ok.after, Region.binds md e = true → e.on ≠ i) → oi.apart ops ok = true := fun k ok hk hki hun hno => by
        refine hfree k ok hk hki ?_ hno
        by_cases hjk : j = k
        · subst hjk; exact hjun
        · rw [getD_set_ne true hjk] at hun; exact hun
      refine .inl ⟨hjl, wpOp_mono (fun a' w' h3 => ⟨h3.2.1, ih (listed.setIfInBounds j true) a' w' h3.2.1 hfree' (ready_mono hr (Ne.symm hji)) h3.1 ?_⟩) h2⟩
      rw [Array.setIfInBounds_comm _ _ hji]
      exact h3.2.2
/-- The early operations, one behind the other. -/
def wpEarly (P : Program) (ops : Array Oper) (D : World → Prop) (K : Act → World → Prop) : List Oper → Act → World → Prop
  | [], a, w => K a w
  | o :: rest, a, w => wpList P ops (QN fun a' w' => D w' ∧ wpEarly P ops D K rest a' w') [o] a w
theorem wpEarly_nil {K : Act → World → Prop} {a : Act} {w : World} (h : K a w) : wpEarly P ops D K [] a w := h
theorem wpEarly_cons {K : Act → World → Prop} {a : Act} {w : World} {o : Oper} {rest : List Oper} (h : wpList P ops (QN fun a' w' => D w' ∧ wpEarly P ops D K rest a' w') [o] a w) : wpEarly P ops D K (o :: rest) a w := h
theorem QN_normal {K : Act → World → Prop} {a : Act} {w : World} (h : K a w) : QN K .normal a w := h
/-- What remains comes in one order alone. -/
def orderB (md : Region.Mode) (ops : Array Oper) : List Nat → Array Bool → Bool
  | [], listed => (Region.ready md ops listed).isEmpty
  | k :: ks, listed => decide (Region.ready md ops listed = [k]) && orderB md ops ks (listed.setIfInBounds k true)
theorem wpM_late {late : List Nat} : ∀ (l : List Nat) (listed : Array Bool) (a : Act) (w : World), (∀ k ∈ l, k ∈ late) → orderB md ops l listed = true → (∀ k ∈ l, k < ops.size) →
    wpList P ops Q (l.map fun k => ops.getD k default) a w → wpM P md ops D late Q l.length listed a w
  | [], listed, a, w, _, hB, _, h => ⟨by simpa [orderB] using hB, h⟩
  | k :: l, listed, a, w, hl, hB, hs, h => by
    simp only [orderB, Bool.and_eq_true, decide_eq_true_eq] at hB
    refine ⟨fun h1 => (by rw [hB.1] at h1; cases h1), fun i hi => ?_⟩
    rw [hB.1] at hi
    obtain rfl : i = k := by simpa using hi
    have hks := hs i (List.mem_cons_self ..)
    have h0 : ops[i]? = some (ops.getD i default) := by simp [hks]
    have hw : wpOp P ops Q i (wpList P ops Q (l.map fun k => ops.getD k default)) a w := by unfold wpOp; simp only [h0]; exact h
    exact .inr ⟨hl i (List.mem_cons_self ..), wpOp_mono (fun a' w' h' => wpM_late l _ a' w' (fun k hk => hl k (List.mem_cons_of_mem _ hk)) hB.2 (fun k hk => hs k (List.mem_cons_of_mem _ hk)) h') hw⟩
theorem wpOp_of_list {K : Act → World → Prop} {i : Nat} {o : Oper} {a : Act} {w : World} (h0 : ops[i]? = some o) (h : wpList P ops (QN K) [o] a w) : wpOp P ops (QN fun _ _ => False) i K a w := by
  unfold wpOp
  simp only [h0]
  unfold wpList at h
  split
  · rename_i hw
    simp only [hw, if_true] at h
    rcases h with h | ⟨_, hlets⟩
    case inr => exact absurd hlets (letsOut_QN _)
    refine .inl ?_
    unfold Oper.wp at *
    generalize (execOp a.eval o).run P w = r at *
    cases r with
    | ok n w' =>
      cases n <;> simp only [Oper.upon] at h ⊢ <;> exact h
    | halt x w' =>
      cases x <;> simp only [Oper.upon] at h ⊢
      case panic u => exact h.elim
  · rename_i hw; simp only [hw] at h; exact h
theorem wpM_early {late : List Nat} (ls : List Nat) (hll : ∀ k ∈ ls, k ∈ late) (hls : ∀ k ∈ ls, k < ops.size) : ∀ (l : List Nat) (listed : Array Bool) (a : Act) (w : World), (∀ k ∈ l, k ∉ late) → orderB md ops (l ++ ls) listed = true → (∀ k ∈ l, k < ops.size) →
    wpEarly P ops D (wpList P ops Q (ls.map fun k => ops.getD k default)) (l.map fun k => ops.getD k default) a w → wpM P md ops D late Q (l.length + ls.length) listed a w
  | [], listed, a, w, _, hB, _, h => by
    rw [List.length_nil, Nat.zero_add]
    exact wpM_late ls listed a w hll hB hls h
  | k :: l, listed, a, w, hl, hB, hs, h => by
    simp only [List.cons_append, orderB, Bool.and_eq_true, decide_eq_true_eq] at hB
    rw [List.length_cons, show l.length + 1 + ls.length = l.length + ls.length + 1 by omega]
    refine ⟨fun h1 => (by rw [hB.1] at h1; cases h1), fun i hi => ?_⟩
    rw [hB.1] at hi
    obtain rfl : i = k := by simpa using hi
    have hks := hs i (List.mem_cons_self ..)
    have h0 : ops[i]? = some (ops.getD i default) := by simp [hks]
    exact .inl ⟨hl i (List.mem_cons_self ..), wpOp_mono (fun a' w' h' => ⟨h'.1, wpM_early ls hll hls l _ a' w' (fun k hk => hl k (List.mem_cons_of_mem _ hk)) hB.2 (fun k hk => hs k (List.mem_cons_of_mem _ hk)) h'.2⟩) (wpOp_of_list h0 h)⟩
/-- The reading operations may be taken first. -/
def headsB (md : Region.Mode) (ops : Array Oper) (late rest : List Nat) : List Nat → Array Bool → Bool
  | [], listed => orderB md ops rest listed
  | k :: ks, listed => (Region.ready md ops listed).contains k && Region.free md ops listed k && lateB md ops late k && plainB (ops.getD k default).op && headsB md ops late rest ks (listed.setIfInBounds k true)
theorem still_of_quiet {o : Oper} {a : Act} {K : Act → Prop} (hp : plainB o.op = true) (h : if Region.wanted o (yielded ops a.tmps) then o.quiet P a D K else K (a.put o.dst undef)) : ∃ v, StillIn P ops D o v a ∧ K (a.put o.dst v) := by
  by_cases hw : Region.wanted o (yielded ops a.tmps) = true
  · rw [if_pos hw] at h
    obtain ⟨v, h1, h2⟩ := h
    refine ⟨v, .inl ⟨hw, fun w hD => ?_⟩, h2⟩
    have h3 := h1 w hD
    unfold Oper.quietAt at h3
    generalize hr : (execOp a.eval o).run P w = r at *
    cases r with
    | ok n w' =>
      obtain ⟨u, rfl⟩ := plain_value P _ o w w' n hp hr
      simp only [Oper.quietUpon] at h3
      rw [h3.1, h3.2]
    | halt x w' => simp only [Oper.quietUpon] at h3
  · rw [if_neg hw] at h
    exact ⟨undef, .inr ⟨by simpa using hw, rfl⟩, h⟩
theorem wpM_heads {late rest : List Nat} (hsel : Region.noSelect ops = true) (F : Act → Prop) (w : World) (hD : D w) (hF : ∀ (listed : Array Bool) (a : Act), orderB md ops rest listed = true → F a → wpM P md ops D late Q rest.length listed a w) :
    ∀ (l : List Nat) (listed : Array Bool) (a : Act), (∀ k ∈ l, k < ops.size) → (∀ k ∈ l, k ∉ late) → headsB md ops late rest l listed = true →
    wpQuiet P ops D F (l.map fun k => ops.getD k default) a → wpM P md ops D late Q (l.length + rest.length) listed a w
  | [], listed, a, _, _, hB, h => by rw [List.length_nil, Nat.zero_add]; exact hF listed a hB h
  | k :: l, listed, a, hs, hn, hB, h => by
    simp only [headsB, Bool.and_eq_true] at hB
    obtain ⟨⟨⟨⟨hr, hf⟩, hlt⟩, hp⟩, hB'⟩ := hB
    have hks := hs k (List.mem_cons_self ..)
    have h0 : ops[k]? = some (ops.getD k default) := by simp [hks]
    obtain ⟨v, hy, hK⟩ := still_of_quiet hp h
    rw [List.length_cons, show l.length + 1 + rest.length = l.length + rest.length + 1 by omega]
    exact wpM_first h0 (Region.noSelect_spec hsel) hlt (hn k (List.mem_cons_self ..)) _ listed a w hD (Region.free_spec h0 hf) (by simpa using hr) hy
      (wpM_heads hsel F w hD hF l _ _ (fun k hk => hs k (List.mem_cons_of_mem _ hk)) (fun k hk => hn k (List.mem_cons_of_mem _ hk)) hB' hK)
def mixB (md : Region.Mode) (ops : Array Oper) (hs es ls : List Nat) : Bool :=
  Region.noSelect ops && decide (hs.length + (es.length + ls.length) = ops.size) && (hs.all fun k => decide (k < ops.size) && !ls.contains k) && (es.all fun k => decide (k < ops.size) && !ls.contains k) && (ls.all fun k => decide (k < ops.size)) && headsB md ops ls (es ++ ls) hs (Array.replicate ops.size false)
/-- A class of worlds as a type. -/
def DFam (D : World → Prop) : Type := { u : World // D u }
def DFam.val {D : World → Prop} (z : DFam D) : World := z.1
theorem DFam.prop {D : World → Prop} (z : DFam D) : D z.val := z.2
/-- hs: the reading operations; es: those that make memory; ls: those that wait for all reading ones. -/
theorem wp_region_mix {id : Nat} {a : Act} {w : World} {l : List Oper} (hs es ls : List Nat) (D : World → Prop) (hm : P.follows .mixedOrders = true) (hB : mixB .any l.toArray hs es ls = true) (hD : D w.drew)
    (h : wpQuiet P l.toArray (fun w' => ∃ z : DFam D, w' = z.val) (fun a' => wpEarly P l.toArray D (wpList P l.toArray Q (ls.map fun k => l.toArray.getD k default)) (es.map fun k => l.toArray.getD k default) a' w.drew) (hs.map fun k => l.toArray.getD k default) a) : (Code.region id l.toArray true).wp P Q a w := by
  have hDD : (fun w' => ∃ z : DFam D, w' = z.val) = D := by
    funext w'
    exact propext ⟨fun ⟨z, e⟩ => e ▸ z.prop, fun h => ⟨⟨w', h⟩, rfl⟩⟩
  rw [hDD] at h
  simp only [mixB, Bool.and_eq_true, decide_eq_true_eq, List.all_eq_true, Bool.not_eq_true', List.contains_eq_mem, decide_eq_false_iff_not] at hB
  obtain ⟨⟨⟨⟨⟨hsel, hlen⟩, h1⟩, h2⟩, h3⟩, h4⟩ := hB
  have H := wpM_heads (Q := Q) (late := ls) (rest := es ++ ls) (md := .any) hsel _ w.drew hD (fun listed a' hb hF => by
    rw [List.length_append]
    exact wpM_early ls (fun k hk => hk) h3 es listed a' w.drew (fun k hk => (h2 k hk).2) hb (fun k hk => (h2 k hk).1) hF) hs _ a (fun k hk => (h1 k hk).1) (fun k hk => (h1 k hk).2) h4 h
  rw [List.length_append, hlen] at H
  exact wp_region_any hm (wpAny_of_M _ _ _ _ H)
/-- The elements with a true mark; those with a false one; their numbers. -/
def selT {α : Type} : List Bool → List α → List α
  | true :: m, x :: l => x :: selT m l
  | false :: m, _ :: l => selT m l
  | _, _ => []
def selF {α : Type} : List Bool → List α → List α
  | true :: m, _ :: l => selF m l
  | false :: m, x :: l => x :: selF m l
  | _, _ => []
def idxT : List Bool → Nat → List Nat
  | true :: m, k => k :: idxT m (k + 1)
  | false :: m, k => idxT m (k + 1)
  | [], _ => []
def idxF : List Bool → Nat → List Nat
  | true :: m, k => idxF m (k + 1)
  | false :: m, k => k :: idxF m (k + 1)
  | [], _ => []
theorem selT_map : ∀ (m : List Bool) (l : List Oper) (k : Nat), m.length = l.length → (∀ j, l[j]? = ops[k + j]?) → (idxT m k).map (fun i => ops.getD i default) = selT m l
  | [], [], _, _, _ => rfl
  | true :: m, x :: l, k, h, hj => by
    have h0 : ops[k]? = some x := by simpa using (hj 0).symm
    have ih := selT_map m l (k + 1) (by simpa using h) fun j => by have := hj (j + 1); simpa [Nat.add_assoc, Nat.add_comm 1 j] using this
    have e : ops.getD k default = x := by
      obtain ⟨hk, hv⟩ := Array.getElem?_eq_some_iff.1 h0
      simp [hk, hv]
    simp only [idxT, selT, List.map_cons, ih, e]
  | false :: m, x :: l, k, h, hj => by
    have ih := selT_map m l (k + 1) (by simpa using h) fun j => by have := hj (j + 1); simpa [Nat.add_assoc, Nat.add_comm 1 j] using this
    simp only [idxT, selT, ih]
  | [], _ :: _, _, h, _ => by simp at h
  | _ :: _, [], _, h, _ => by simp at h
theorem selF_map : ∀ (m : List Bool) (l : List Oper) (k : Nat), m.length = l.length → (∀ j, l[j]? = ops[k + j]?) → (idxF m k).map (fun i => ops.getD i default) = selF m l
  | [], [], _, _, _ => rfl
  | false :: m, x :: l, k, h, hj => by
    have h0 : ops[k]? = some x := by simpa using (hj 0).symm
    have ih := selF_map m l (k + 1) (by simpa using h) fun j => by have := hj (j + 1); simpa [Nat.add_assoc, Nat.add_comm 1 j] using this
    have e : ops.getD k default = x := by
      obtain ⟨hk, hv⟩ := Array.getElem?_eq_some_iff.1 h0
      simp [hk, hv]
    simp only [idxF, selF, List.map_cons, ih, e]
  | true :: m, x :: l, k, h, hj => by
    have ih := selF_map m l (k + 1) (by simpa using h) fun j => by have := hj (j + 1); simpa [Nat.add_assoc, Nat.add_comm 1 j] using this
    simp only [idxF, selF, ih]
  | [], _ :: _, _, h, _ => by simp at h
  | _ :: _, [], _, h, _ => by simp at h
/-- The reading operations are marked true; of the others the first e may come before a reading one. -/
theorem wp_region_mask {id : Nat} {a : Act} {w : World} {l : List Oper} (mask : List Bool) (e : Nat) (D : World → Prop) (hm : P.follows .mixedOrders = true) (hB : (decide (mask.length = l.length) && mixB .any l.toArray (idxT mask 0) ((idxF mask 0).take e) ((idxF mask 0).drop e)) = true) (hD : D w.drew)
    (h : wpQuiet P l.toArray (fun w' => ∃ z : DFam D, w' = z.val) (fun a' => wpEarly P l.toArray D (wpList P l.toArray Q ((selF mask l).drop e)) ((selF mask l).take e) a' w.drew) (selT mask l) a) : (Code.region id l.toArray true).wp P Q a w := by
  rw [Bool.and_eq_true, decide_eq_true_eq] at hB
  have hj : ∀ j, l[j]? = l.toArray[0 + j]? := by simp
  refine wp_region_mix (idxT mask 0) ((idxF mask 0).take e) ((idxF mask 0).drop e) D hm hB.2 hD ?_
  rw [selT_map mask l 0 hB.1 hj, List.map_take, List.map_drop, selF_map mask l 0 hB.1 hj]
  exact h
/-- A tree: reading operations; then, of the others that may come up, each with what follows it. -/
def PT : Nat → Type
  | 0 => List Nat
  | n + 1 => List Nat × List (Nat × PT n)
def wpT (P : Program) (ops : Array Oper) (g : Nat → Oper) (C D : World → Prop) (K : Act → World → Prop) : (n : Nat) → PT n → Act → World → Prop
  | 0, hs, a, w => wpQuiet P ops C (fun a' => K a' w) (List.map g hs) a
  | n + 1, t, a, w => wpQuiet P ops C (fun a' => ∀ p ∈ t.2, wpList P ops (QN fun a2 w2 => D w2 ∧ wpT P ops g C D K n p.2 a2 w2) [g p.1] a' w) (t.1.map g) a
def headsT (md : Region.Mode) (ops : Array Oper) (late : List Nat) : List Nat → Array Bool → Bool
  | [], _ => true
  | k :: ks, listed => (Region.ready md ops listed).contains k && Region.free md ops listed k && lateB md ops late k && plainB (ops.getD k default).op && decide (k < ops.size) && !late.contains k && headsT md ops late ks (listed.setIfInBounds k true)
def after (hs : List Nat) (listed : Array Bool) : Array Bool := hs.foldl (fun l k => l.setIfInBounds k true) listed
def ptB (md : Region.Mode) (ops : Array Oper) (ls : List Nat) : (n : Nat) → PT n → Array Bool → Bool
  | 0, hs, listed => headsT md ops ls hs listed && orderB md ops ls (after hs listed)
  | n + 1, t, listed => headsT md ops ls t.1 listed && decide (Region.ready md ops (after t.1 listed) = t.2.map (·.1)) && !t.2.isEmpty && t.2.all fun p => decide (p.1 < ops.size) && !ls.contains p.1 && ptB md ops ls n p.2 ((after t.1 listed).setIfInBounds p.1 true)
def need (ls : List Nat) : (n : Nat) → PT n → Nat
  | 0, hs => List.length hs + ls.length
  | n + 1, t => t.1.length + 1 + (t.2.map fun p => need ls n p.2).foldr max 0
theorem wpM_fuel {late : List Nat} : ∀ (f : Nat) (listed : Array Bool) (a : Act) (w : World), wpM P md ops D late Q f listed a w → wpM P md ops D late Q (f + 1) listed a w
  | 0, _, _, _, h => ⟨fun _ => h.2, fun i hi => by rw [h.1] at hi; cases hi⟩
  | f + 1, _, _, _, h => ⟨h.1, fun i hi => (h.2 i hi).imp (fun h2 => ⟨h2.1, wpOp_mono (fun a' w' h' => ⟨h'.1, wpM_fuel f _ a' w' h'.2⟩) h2.2⟩) (fun h2 => ⟨h2.1, wpOp_mono (fun a' w' h' => wpM_fuel f _ a' w' h') h2.2⟩)⟩
theorem wpM_more {late : List Nat} {f : Nat} {listed : Array Bool} {a : Act} {w : World} (h : wpM P md ops D late Q f listed a w) : ∀ d, wpM P md ops D late Q (f + d) listed a w
  | 0 => h
  | d + 1 => wpM_fuel _ _ _ _ (wpM_more h d)
theorem wpM_ge {late : List Nat} {f f' : Nat} {listed : Array Bool} {a : Act} {w : World} (h : wpM P md ops D late Q f listed a w) (hf : f ≤ f') : wpM P md ops D late Q f' listed a w := by
  have := wpM_more h (f' - f)
  rwa [show f + (f' - f) = f' by omega] at this
theorem wpM_headsT {late : List Nat} (hsel : Region.noSelect ops = true) (F : Act → Prop) (w : World) (hD : D w) (f : Nat) : ∀ (hs : List Nat) (listed : Array Bool) (a : Act), headsT md ops late hs listed = true → wpQuiet P ops D F (hs.map fun k => ops.getD k default) a →
    (∀ a', F a' → wpM P md ops D late Q f (after hs listed) a' w) → wpM P md ops D late Q (hs.length + f) listed a w
  | [], listed, a, _, h, hF => by rw [List.length_nil, Nat.zero_add]; exact hF a h
  | k :: hs, listed, a, hB, h, hF => by
    simp only [headsT, Bool.and_eq_true, decide_eq_true_eq, Bool.not_eq_true', List.contains_eq_mem, decide_eq_false_iff_not] at hB
    obtain ⟨⟨⟨⟨⟨⟨hr, hf⟩, hlt⟩, hp⟩, hks⟩, hkl⟩, hB'⟩ := hB
    have h0 : ops[k]? = some (ops.getD k default) := by simp [hks]
    obtain ⟨v, hy, hK⟩ := still_of_quiet hp h
    rw [List.length_cons, show hs.length + 1 + f = hs.length + f + 1 by omega]
    exact wpM_first h0 (Region.noSelect_spec hsel) hlt hkl _ listed a w hD (Region.free_spec h0 hf) (by simpa using hr) hy (wpM_headsT hsel F w hD f hs _ _ hB' hK hF)
theorem max_mem {α : Type} (F : α → Nat) : ∀ (l : List α) (x : α), x ∈ l → F x ≤ (l.map F).foldr max 0
  | y :: l, x, h => by
    rw [List.map_cons, List.foldr_cons]
    rcases List.mem_cons.1 h with rfl | h
    · exact Nat.le_max_left _ _
    · exact Nat.le_trans (max_mem F l x h) (Nat.le_max_right _ _)
theorem wpM_tree {ls : List Nat} (hsel : Region.noSelect ops = true) (hls : ∀ k ∈ ls, k < ops.size) : ∀ (n : Nat) (t : PT n) (f : Nat) (listed : Array Bool) (a : Act) (w : World), D w → ptB md ops ls n t listed = true → need ls n t ≤ f →
    wpT P ops (fun k => ops.getD k default) D D (wpList P ops Q (ls.map fun k => ops.getD k default)) n t a w → wpM P md ops D ls Q f listed a w
  | 0, hs, f, listed, a, w, hD, hB, hf, h => by
    simp only [ptB, Bool.and_eq_true] at hB
    exact wpM_ge (wpM_headsT hsel _ w hD ls.length hs listed a hB.1 h fun a' h' => wpM_late ls _ a' w (fun k hk => hk) hB.2 hls h') hf
  | n + 1, (hs, br), f, listed, a, w, hD, hB, hf, h => by
    simp only [ptB, Bool.and_eq_true, decide_eq_true_eq, List.all_eq_true, Bool.not_eq_true', List.contains_eq_mem, decide_eq_false_iff_not] at hB
    obtain ⟨⟨⟨hB1, hB2⟩, hB4⟩, hB3⟩ := hB
    have hf : hs.length + 1 + (br.map fun p => need ls n p.2).foldr max 0 ≤ f := hf
    refine wpM_ge (f := hs.length + ((br.map fun p => need ls n p.2).foldr max 0 + 1)) (wpM_headsT hsel _ w hD _ hs listed a hB1 h fun a' h' => ⟨fun h1 => ?_, fun i hi => ?_⟩) (by omega)
    · rcases hbr : br with _ | ⟨p, br'⟩
      · rw [hbr] at hB4; cases hB4
      · rw [hbr] at hB2; rw [h1] at hB2; cases hB2
    · rw [hB2] at hi
      obtain ⟨p, hp, rfl⟩ := List.mem_map.1 hi
      obtain ⟨⟨hks, hkl⟩, hb⟩ := hB3 p hp
      have h0 : ops[p.1]? = some (ops.getD p.1 default) := by simp [hks]
      exact .inl ⟨hkl, wpOp_mono (fun a2 w2 h2 => ⟨h2.1, wpM_tree hsel hls n p.2 _ _ a2 w2 h2.1 hb (max_mem (fun p => need ls n p.2) br p hp) h2.2⟩) (wpOp_of_list h0 (h' p hp))⟩
def treeB (md : Region.Mode) (ops : Array Oper) (n : Nat) (t : PT n) (ls : List Nat) : Bool :=
  Region.noSelect ops && decide (need ls n t ≤ ops.size) && (ls.all fun k => decide (k < ops.size)) && ptB md ops ls n t (Array.replicate ops.size false)
/-- t: the tree; ls: those that wait for all reading ones. -/
theorem wp_region_pt {id : Nat} {a : Act} {w : World} {l : List Oper} (n : Nat) (t : PT n) (ls : List Nat) (D : World → Prop) (hm : P.follows .mixedOrders = true) (hB : treeB .any l.toArray n t ls = true) (hD : D w.drew)
    (h : wpT P l.toArray (fun k => l.getD k default) (fun w' => ∃ z : DFam D, w' = z.val) D (wpList P l.toArray Q (ls.map fun k => l.getD k default)) n t a w.drew) : (Code.region id l.toArray true).wp P Q a w := by
  have hDD : (fun w' => ∃ z : DFam D, w' = z.val) = D := by
    funext w'
    exact propext ⟨fun ⟨z, e⟩ => e ▸ z.prop, fun h => ⟨⟨w', h⟩, rfl⟩⟩
  rw [hDD] at h
  have hg : (fun k => l.getD k default) = fun k => l.toArray.getD k default := by funext k; simp [List.getD_eq_getElem?_getD]
  rw [hg] at h
  simp only [treeB, Bool.and_eq_true, decide_eq_true_eq, List.all_eq_true] at hB
  obtain ⟨⟨⟨hsel, hlen⟩, h3⟩, h4⟩ := hB
  exact wp_region_any hm (wpAny_of_M _ _ _ _ (wpM_tree (Q := Q) (md := .any) hsel h3 n t _ _ a w.drew hD h4 hlen h))
/-- The worlds behind one: old memory is as it was. -/
def DB (w u : World) : Prop := Below w.heap.size w u
instance dbNonempty (w : World) : Nonempty (DFam (DB w)) := ⟨⟨w, Below.refl _ _⟩⟩
theorem DB.drew (w : World) : DB w w.drew := (Below.refl _ _).drew
theorem DB.some_ {w : World} (z : DFam (DB w)) {p : Addr} {v : Value} (h : w.cell? p = some v) : z.val.cell? p = some v := (Below.cell (B := w.heap.size) z.prop (World.block_lt_of_cell? w p h)).trans h
theorem wp_region_pb {id : Nat} {a : Act} {w : World} {l : List Oper} (n : Nat) (t : PT n) (ls : List Nat) (hm : P.follows .mixedOrders = true) (hB : treeB .any l.toArray n t ls = true)
    (h : wpT P l.toArray (fun k => l.getD k default) (fun w' => ∃ z : DFam (DB w), w' = z.val) (DB w) (wpList P l.toArray Q (ls.map fun k => l.getD k default)) n t a w.drew) : (Code.region id l.toArray true).wp P Q a w :=
  wp_region_pt n t ls (DB w) hm hB (DB.drew w) h
end
end Go.Proofs.Ytakjdffebpcmnaa
