/- What a ledger is behind an append to its entries. -/
import Derived.Test.YtoammbjnejdgpaaLdE
namespace Go.Proofs.Ytoammbjnejdgpaa
open Go.RowKit
theorem RIn.of_own_ {w : World} {base : Nat} {e : TypeId} {size n c : Nat} {A : Option Addr} {xs : List Value} (h : w.ownsRow base e size (.slice A n c) n xs) : RIn w (fun k => (Value.slice A n c).ownBlock = some k) size A n xs := ⟨h.1, fun hn => by
  obtain ⟨g, cap, hv, hg, hlt⟩ := h.form hn
  have hA : A = some ⟨g, 0, none⟩ := by injection hv
  subst hA
  exact ⟨_, rfl, by rw [hv]; rfl, hlt, h.cells (g := g) rfl⟩⟩
theorem snocEn (l : List En) (x : En) : cellsEn (l ++ [x]) = cellsEn l ++ encEn x := by simp [cellsEn]
theorem one_encEn (x : En) : ∀ u ∈ encEn x, u.oneCell' = true := by
  intro u hu
  simp only [encEn, List.mem_cons, List.not_mem_nil, or_false] at hu
  rcases hu with rfl | rfl | rfl | rfl <;> rfl
theorem frEn (u : World) (x : En) : Reads (u.alloc (.cells #[.int .i64 x.id, .int .i64 x.tm, .slice x.A x.n x.c, .bool x.used] 64)) (u.heap.size + 1) 4 (some ⟨u.heap.size, 0, none⟩) 1 (encEn x) := by simpa [encEn] using Reads.fresh1 u 64 #[.int .i64 x.id, .int .i64 x.tm, .slice x.A x.n x.c, .bool x.used] 4 rfl
theorem post_done {w u1 w7 : World} {F R : Nat → Prop} {g n c n1 k2 c7 B2 : Nat} {acc id tm : Int} {l : List En} {A A2 A7 : Option Addr} {ls : List Ln} {o : Obj} (hB : LdB w F R g acc l A n c) (h1 : Below w.heap.size w u1)
    (ho : u1.ownsRow B2 54 2 (.slice A2 n1 k2) n1 (cellsLn ls)) (hB2 : w.heap.size ≤ B2) (h7 : w7.ownsRow 0 64 4 (.slice A7 (n + 1) c7) (n + 1) (cellsEn (l ++ [⟨id, tm, A2, n1, k2, ls, false⟩])))
    (hg : (u1.alloc o).grownBy w7 (Value.slice A n c).ownBlock) (hat : (Value.slice A7 (n + 1) c7).ownBlock = (Value.slice A n c).ownBlock ∨ (Value.slice A7 (n + 1) c7).ownBlock = some (u1.alloc o).heap.size) (hn1 : n1 ≤ 16) :
    Only F w (w7.setCell ⟨g, 1, none⟩ (.slice A7 (n + 1) c7)) ∧ ∃ F' R' : Nat → Prop, (∀ k, F' k → F k ∨ w.heap.size ≤ k) ∧ (∀ k, R' k → R k ∨ w.heap.size ≤ k) ∧ LdB (w7.setCell ⟨g, 1, none⟩ (.slice A7 (n + 1) c7)) F' R' g acc (l ++ [⟨id, tm, A2, n1, k2, ls, false⟩]) A7 (n + 1) c7 := by
  obtain ⟨q1, q2, q3, q4, q5, q6, q7⟩ := hB
  have hsz1 : w.heap.size ≤ u1.heap.size := h1.size
  have hsz2 : (u1.alloc o).heap.size = u1.heap.size + 1 := by simp
  have hsz7 : u1.heap.size + 1 ≤ w7.heap.size := by rw [← hsz2]; exact hg.size
  have hrow : ∀ k, (Value.slice A n c).ownBlock = some k → F k ∧ k ≠ g := q6
  have hlb : ∀ k, (Value.slice A2 n1 k2).ownBlock = some k → w.heap.size ≤ k ∧ k < u1.heap.size := fun k hk => ⟨Nat.le_trans hB2 (ho.lt k hk).1, (ho.lt k hk).2⟩
  have hgw : g < w.heap.size := q2 g q1
  have hO1 : Only F w (u1.alloc o) := Only.of_new (h1.alloc hsz1 o) F
  have hO7 : Only F w w7 := hO1.grown hg fun k hk _ => (hrow k hk).1
  have hOf : Only F w (w7.setCell ⟨g, 1, none⟩ (.slice A7 (n + 1) c7)) := hO7.setCell (p := ⟨g, 1, none⟩) (fun _ => q1) _
  have hnew : ∀ k, (Value.slice A7 (n + 1) c7).ownBlock = some k → (F k ∧ k ≠ g) ∨ k = u1.heap.size + 1 := fun k hk => by
    rcases hat with e | e
    · exact .inl (hrow k (by rw [← e]; exact hk))
    · rw [e] at hk; injection hk with hk; exact .inr (by rw [← hk, hsz2])
  have hnlt : ∀ k, (Value.slice A7 (n + 1) c7).ownBlock = some k → k < w7.heap.size := fun k hk => (h7.lt k hk).2
  have hfs : (w7.setCell ⟨g, 1, none⟩ (.slice A7 (n + 1) c7)).heap.size = w7.heap.size := by simp [World.setCell]
  have hg7 : Blk w7 g 62 #[.int .i64 acc, .slice A n c] := by
    have hb1 : Blk (u1.alloc o) g 62 #[.int .i64 acc, .slice A n c] := (ofB q4 h1).alloc o
    exact hb1.grown hg (fun e => (hrow g e.symm).2 rfl)
  have hOg : Only (fun k => k = g) w7 (w7.setCell ⟨g, 1, none⟩ (.slice A7 (n + 1) c7)) := (Only.refl (fun k => k = g) w7).setCell (p := ⟨g, 1, none⟩) (fun _ => rfl) _
  refine ⟨hOf, fun k => F k ∨ (Value.slice A7 (n + 1) c7).ownBlock = some k, fun k => R k ∨ (Value.slice A2 n1 k2).ownBlock = some k, fun k hk => ?_, fun k hk => ?_, .inl q1, fun k hk => ?_, fun k hk => ?_, ?_, ?_, fun k hk => ?_, fun e he => ?_⟩
  · rcases hk with hk | hk
    · exact .inl hk
    · rcases hnew k hk with h | h
      · exact .inl h.1
      · exact .inr (by omega)
  · rcases hk with hk | hk
    · exact .inl hk
    · exact .inr (hlb k hk).1
  · rw [hfs]
    rcases hk with hk | hk
    · exact Nat.lt_of_lt_of_le (q2 k hk) (by omega)
    · exact hnlt k hk
  · rw [hfs]
    rcases hk with hk | hk
    · refine ⟨Nat.lt_of_lt_of_le (q3 k hk).1 (by omega), fun e => ?_⟩
      rcases e with e | e
      · exact (q3 k hk).2 e
      · rcases hnew k e with h | h
        · exact (q3 k hk).2 h.1
        · have := (q3 k hk).1; omega
    · obtain ⟨h2, h3⟩ := hlb k hk
      refine ⟨by omega, fun e => ?_⟩
      rcases e with e | e
      · have := q2 k e; omega
      · rcases hnew k e with h | h
        · have := q2 k h.1; omega
        · omega
  · exact hg7.set_ 1 _
  · exact hOg.own h7 fun k hk e => by
      subst e
      rcases hnew k hk with h | h
      · exact h.2 rfl
      · omega
  · refine ⟨.inr hk, fun e => ?_⟩
    rcases hnew k hk with h | h
    · exact h.2 e
    · omega
  · rcases List.mem_append.1 he with he | he
    · exact ⟨((q7 e he).1.keep hOf fun k _ hk => (q3 k hk).2).mono fun k _ hk => .inl hk, (q7 e he).2⟩
    · obtain rfl := List.mem_singleton.1 he
      refine ⟨?_, hn1⟩
      have r1 := (RIn.of_own_ ho).alloc o
      have r7 : RIn w7 (fun k => (Value.slice A2 n1 k2).ownBlock = some k) 2 A2 n1 (cellsLn ls) := r1.keep (Only.grown (Only.refl (fun k => (Value.slice A n c).ownBlock = some k) (u1.alloc o)) hg fun k hk _ => hk) fun k _ hk e => by
        have := (hlb k hk).1
        have := q2 k (hrow k e).1
        omega
      exact (r7.keep hOg fun k _ hk e => by
        have := (hlb k hk).1
        omega).mono fun k _ hk => .inr hk
end Go.Proofs.Ytoammbjnejdgpaa
