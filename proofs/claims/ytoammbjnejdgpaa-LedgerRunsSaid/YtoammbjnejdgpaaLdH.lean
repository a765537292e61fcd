/- The walk of Reverse: what returns ahead of the posting; the deferred closure. -/
import Derived.Test.YtoammbjnejdgpaaLdG
import Derived.Defers
import Derived.Recover
import Derived.StillTailTactics
import Derived.Deep.CutRange
namespace Go.Proofs.Ytoammbjnejdgpaa
open Go.RowKit
theorem own_blk {w : World} {base : Nat} {e : TypeId} {size n c b off : Nat} {xs : List Value} (h : w.ownsRow base e size (.slice (some ⟨b, off, none⟩) n c) n xs) :
    off = 0 ∧ base ≤ b ∧ ∃ cur : Array Value, Blk w b e cur ∧ cur.size = c * size ∧ n ≤ c ∧ c ≤ maxLen ∧ cur.toList.take (n * size) = xs := by
  rcases h.2 with ⟨hv, _⟩ | ⟨g, cap, cur, hv, hb, hh, hc, hm, hs, ht⟩
  · cases hv
  · injection hv with h1 h2 h3
    injection h1 with h1
    injection h1 with h1 h4 h5
    subst h1 h4 h3
    exact ⟨rfl, hb, cur, hh, hs, hc, hm, ht⟩
theorem own_set {w : World} {base : Nat} {e : TypeId} {size n c b : Nat} {xs : List Value} (h : w.ownsRow base e size (.slice (some ⟨b, 0, none⟩) n c) n xs) (j : Nat) (u : Value) :
    (w.setCell ⟨b, j, none⟩ u).ownsRow base e size (.slice (some ⟨b, 0, none⟩) n c) n (xs.set j u) := by
  obtain ⟨_, hb, cur, hB, hs, hc, hm, ht⟩ := own_blk h
  refine ⟨by simpa using h.1, .inr ⟨b, c, cur.setIfInBounds j u, rfl, hb, hB.set_ j u, hc, hm, by simpa using hs, ?_⟩⟩
  rw [Array.toList_setIfInBounds, List.take_set, ht]
/-- An entry is marked. -/
def setE (l : List En) (i : Nat) (b : Bool) : List En := l.modify i fun x => { x with used := b }
theorem setE_dt : ∀ (l : List En) (i : Nat) (b : Bool), (setE l i b).map En.dt = markD (l.map En.dt) i b
  | [], i, b => by simp [setE, markD]
  | x :: l, 0, b => by simp [setE, markD, En.dt]
  | x :: l, i + 1, b => by
    have := setE_dt l i b
    unfold setE markD at this
    simp only [setE, markD, List.modify_succ_cons, List.map_cons, this]
theorem cellsE_set : ∀ (l : List En) (i : Nat) (_ : i < l.length) (b : Bool), (cellsEn l).set (i * 4 + 3) (.bool b) = cellsEn (setE l i b)
  | x :: l, 0, _, b => by simp [cellsEn, setE, encEn]
  | x :: l, i + 1, hi, b => by
    have := cellsE_set l i (by simpa using hi) b
    unfold cellsEn setE at this ⊢
    rw [List.modify_succ_cons, List.flatMap_cons, List.flatMap_cons, ← this]
    have e : (i + 1) * 4 + 3 = i * 4 + 3 + 1 + 1 + 1 + 1 := by omega
    rw [e]
    simp [encEn]
theorem LdB.mark {w : World} {F R : Nat → Prop} {g n c b : Nat} {acc : Int} {l : List En} (h : LdB w F R g acc l (some ⟨b, 0, none⟩) n c) (i : Nat) (hi : i < l.length) (x : Bool) : LdB (w.setCell ⟨b, i * 4 + 3, none⟩ (.bool x)) F R g acc (setE l i x) (some ⟨b, 0, none⟩) n c ∧ Only F w (w.setCell ⟨b, i * 4 + 3, none⟩ (.bool x)) := by
  obtain ⟨h1, h2, h3, h4, h5, h6, h7⟩ := h
  have hb := h6 b rfl
  have hO : Only F w (w.setCell ⟨b, i * 4 + 3, none⟩ (.bool x)) := (Only.refl F w).setCell (p := ⟨b, i * 4 + 3, none⟩) (fun _ => hb.1) _
  have hs : (w.setCell ⟨b, i * 4 + 3, none⟩ (.bool x)).heap.size = w.heap.size := by simp [World.setCell]
  refine ⟨⟨h1, fun k hk => by rw [hs]; exact h2 k hk, fun k hk => by rw [hs]; exact h3 k hk, h4.far (Ne.symm hb.2) _, ?_, h6, fun e he => ?_⟩, hO⟩
  · have := own_set h5 (i * 4 + 3) (.bool x)
    rwa [cellsE_set l i hi x] at this
  · have : ∃ e0 ∈ l, e.A = e0.A ∧ e.n = e0.n ∧ e.ls = e0.ls := by
      obtain ⟨j, hj, rfl⟩ := List.getElem_of_mem he
      have hj2 : j < l.length := by simpa [setE] using hj
      refine ⟨l[j], List.getElem_mem hj2, ?_⟩
      simp only [setE, List.getElem_modify]
      split <;> exact ⟨rfl, rfl, rfl⟩
    obtain ⟨e0, he0, q1, q2, q3⟩ := this
    rw [q1, q2, q3]
    exact ⟨(h7 e0 he0).1.keep hO fun k _ hk => (h3 k hk).2, (h7 e0 he0).2⟩
theorem revE_none {acc : Int} {d : List Dt} {id by_ tm : Int} (h : idx d id = none) : revE acc d id by_ tm = 7 := by unfold revE; rw [h]
theorem revE_used {acc : Int} {d : List Dt} {id by_ tm : Int} {i : Nat} (h : idx d id = some i) (hu : (d.getD i ⟨0, 0, [], false⟩).used = true) : revE acc d id by_ tm = 20 := by unfold revE; rw [h]; exact if_pos hu
theorem revE_post {acc : Int} {d : List Dt} {id by_ tm : Int} {i : Nat} (h : idx d id = some i) (hu : (d.getD i ⟨0, 0, [], false⟩).used = false) : revE acc d id by_ tm = postE acc d by_ tm (negL (d.getD i ⟨0, 0, [], false⟩).ls) := by unfold revE; rw [h]; exact if_neg (by rw [hu]; decide)
theorem revD_not {acc : Int} {d : List Dt} {id by_ tm : Int} (h : revE acc d id by_ tm ≠ 0) : revD acc d id by_ tm = d := by
  unfold revD
  split
  · rfl
  · rw [if_neg h]
theorem revD_ok {acc : Int} {d : List Dt} {id by_ tm : Int} {i : Nat} (h : revE acc d id by_ tm = 0) (hi : idx d id = some i) : revD acc d id by_ tm = markD d i true ++ [⟨by_, tm, negL (d.getD i ⟨0, 0, [], false⟩).ls, true⟩] := by
  unfold revD; rw [hi]; exact if_pos h
theorem rev_end {R : Ending → World → Prop} {tmps : Array Value} {w : World} {k : Nat} {v : Value} (ht : tmps[8]?.getD undef = .pointer (some ⟨k, 0, none⟩)) (hc : w.cell? ⟨k, 0, none⟩ = some v) (h : R (.returned v) w) : bodyPostD Try.prog Try.f22 R Exit.ret { tmps := tmps, defers := [] } w := by
  refine ⟨v, ?_, h⟩
  simp [results, Try.results22, go_sem, ht, hc]
theorem undo_idle (ke ki kl : Nat) (w : World) (h : w.cell? ⟨ke, 0, none⟩ = some (.int .i64 0)) : CallsD Try.prog 31 #[.pointer (some ⟨ke, 0, none⟩), .pointer (some ⟨kl, 0, none⟩), .pointer (some ⟨ki, 0, none⟩)] .returning w fun e u' w' => u' = .returning ∧ e = .returned (.tuple #[]) ∧ w' = w := by
  go_enter_d Try.func31, Try.ntmps31
  go_wp2_with fail
  go_end0
  exact ⟨rfl, rfl⟩
theorem undo_any (ke ki kl : Nat) (F R : Nat → Prop) (g : Nat) (acc : Int) (l : List En) (b n c i : Nat) (y : Int) (w : World) (h : LdB w F R g acc l (some ⟨b, 0, none⟩) n c) (he : w.cell? ⟨ke, 0, none⟩ = some (.int .i64 y)) (hy : (y != 0) = true) (hl : w.cell? ⟨kl, 0, none⟩ = some (.pointer (some ⟨g, 0, none⟩))) (hi : w.cell? ⟨ki, 0, none⟩ = some (.int .i64 i)) (hin : i < l.length) : CallsD Try.prog 31 #[.pointer (some ⟨ke, 0, none⟩), .pointer (some ⟨kl, 0, none⟩), .pointer (some ⟨ki, 0, none⟩)] .returning w fun e u' w' => u' = .returning ∧ e = .returned (.tuple #[]) ∧ w' = (w.setCell ⟨b, i * 4 + 3, none⟩ (.bool false)).drew := by
  have hnl := h.len
  have q0 : (i : Int) < (n : Int) := by omega
  have q1 : i < n := by omega
  obtain ⟨b', hb', hbb, hFb, hne, hc⟩ := h.cells (by omega)
  injection hb' with hb'
  injection hb' with hb'
  subst hb'
  have f3 := (hc i hin).2.2.2
  have f4 : w.frozen? ⟨b, i * 4 + 3, none⟩ = false := by
    obtain ⟨_, _, cur, hB, _⟩ := own_blk h.own
    exact hB.frozen _
  have c1 := (h.blk.cell 1).trans rfl
  have hg := h.blk.lt
  clear h hc
  go_enter_d Try.func31, Try.ntmps31
  go_upto_region 1 with fail
  refine wp_region_still_tail 7 (by kernel_rfl) (by kernel_rfl) ?_
  simp only [List.take_succ_cons, List.take_zero, List.drop_succ_cons, List.drop_zero]
  change wpStill _ _ (World.drew w) _ _ _
  repeat still_step
  refine wpStill_nil ?_
  change wpList _ _ _ _ _ (World.drew w)
  go_wp2_with fail
  go_end0
  exact ⟨rfl, rfl⟩
theorem reverse_nil (id by_ tm : Int) (w : World) : Calls Try.prog 22 #[.pointer none, .int .i64 id, .int .i64 by_, .int .i64 tm] w (RetI w 11) := by
  go_enter_defers Try.func22, Try.ntmps22
  go_wp2_with fail
  refine rev_end rfl ?_ ⟨rfl, ((Below.refl _ _).alloc (Nat.le_refl _) _).alloc (by simp) _⟩
  simp [go_sem]
end Go.Proofs.Ytoammbjnejdgpaa
