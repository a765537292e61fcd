/- Reverse, whole; Post and Reverse keep a ledger in order. -/
import Derived.Test.YtoammbjnejdgpaaLdJ
namespace Go.Proofs.Ytoammbjnejdgpaa
open Go.RowKit
theorem reverse_any (F R : Nat → Prop) (g : Nat) (acc : Int) (d d' : List Dt) (id by_ tm x : Int) (w : World) (h : LdF w F R g acc d) (hf : Fine acc d) (hx : revE acc d id by_ tm = x) (hd' : revD acc d id by_ tm = d') : Calls Try.prog 22 #[.pointer (some ⟨g, 0, none⟩), .int .i64 id, .int .i64 by_, .int .i64 tm] w (PostL w F R g acc x d') := by
  rcases hi : idx d id with _ | i
  · have e := revE_none (acc := acc) (by_ := by_) (tm := tm) hi
    have : d' = d := by rw [← hd', revD_not (by rw [e]; decide)]
    subst this
    exact reverse_no F R g acc d' id by_ tm x w h hf hx (.inl hi)
  · rcases hu : (d.getD i ⟨0, 0, [], false⟩).used with _ | _
    · exact reverse_yes F R g acc d d' id by_ tm x i w h hf hx hd' hi hu
    · have e := revE_used (acc := acc) (by_ := by_) (tm := tm) hi hu
      have : d' = d := by rw [← hd', revD_not (by rw [e]; decide)]
      subst this
      exact reverse_no F R g acc d' id by_ tm x w h hf hx (.inr ⟨i, hi, hu⟩)
theorem Fine.snoc {acc : Int} {d : List Dt} {id tm : Int} {ls : List Ln} {u : Bool} (h : Fine acc d) (he : postE acc d id tm ls = 0) : Fine acc (d ++ [⟨id, tm, ls, u⟩]) := by
  obtain ⟨h1, h2, h3, h4, h5⟩ := postE_inv he
  have hl : ∀ k, k < (d ++ [(⟨id, tm, ls, u⟩ : Dt)]).length → k < d.length ∨ k = d.length := fun k hk => by simp at hk; omega
  refine ⟨by simp; omega, fun i j hj hi => ?_, fun i j hj hi => ?_, fun x hx => ?_, fun x hx => ?_⟩
  · rcases hl j hj with e | e
    · rw [List.getElem_append_left (by omega), List.getElem_append_left e]; exact h.ord i j e hi
    · subst e
      rw [List.getElem_append_left hi, List.getElem_append_right (Nat.le_refl _)]
      simp only [Nat.sub_self, List.getElem_cons_zero]
      have hne : d ≠ [] := fun e => by subst e; simp at hi
      have h6 : d.length - 1 < d.length := by omega
      have h7 : lastTm d ≤ tm := by
        rcases Int.lt_or_le tm (lastTm d) with g | g
        · exact absurd ⟨hne, g⟩ h5
        · exact g
      rw [lastTm_at h6] at h7
      rcases Nat.lt_or_ge i (d.length - 1) with g | g
      · have := h.ord i (d.length - 1) h6 g; omega
      · have e : i = d.length - 1 := by omega
        subst e; exact h7
  · rcases hl j hj with e | e
    · rw [List.getElem_append_left (by omega), List.getElem_append_left e]; exact h.dis i j e hi
    · subst e
      rw [List.getElem_append_left hi, List.getElem_append_right (Nat.le_refl _)]
      simp only [Nat.sub_self, List.getElem_cons_zero]
      exact idx_none h4 hi
  · rcases List.mem_append.1 hx with hx | hx
    · exact h.rng x hx
    · obtain rfl := List.mem_singleton.1 hx; exact h2
  · rcases List.mem_append.1 hx with hx | hx
    · exact h.lns x hx
    · obtain rfl := List.mem_singleton.1 hx; exact h3
theorem Fine.post {acc : Int} {d : List Dt} {id tm : Int} {ls : List Ln} {u : Bool} (h : Fine acc d) : Fine acc (postD acc d id tm ls u) := by
  unfold postD; split
  · exact h.snoc (by assumption)
  · exact h
theorem Fine.rev {acc : Int} {d : List Dt} {id by_ tm : Int} (h : Fine acc d) : Fine acc (revD acc d id by_ tm) := by
  rcases hi : idx d id with _ | i
  · rw [revD_not (by rw [revE_none hi]; decide)]; exact h
  · by_cases he : revE acc d id by_ tm = 0
    · rw [revD_ok he hi]
      refine (h.mark i true).snoc ?_
      rw [markD_postE]
      rcases hu : (d.getD i ⟨0, 0, [], false⟩).used with _ | _
      · rw [← revE_post hi hu]; exact he
      · rw [revE_used hi hu] at he; exact absurd he (by decide)
    · rw [revD_not he]; exact h
end Go.Proofs.Ytoammbjnejdgpaa
