/- Plain facts on Spend: what a window adds to a day, and what the parts of a window come to. -/
import Derived.Test.YtdfmngnhmiemgaaPure
namespace Go.Proofs.Ytdfmngnhmiemgaa
def touchP (a b day : Int) : Prop := a < b ∧ a < (day + 1) * 86400 ∧ day * 86400 < b
instance (a b day : Int) : Decidable (touchP a b day) := by unfold touchP; infer_instance
theorem sum_days (f u : Int) (k : Nat) (d : Int) : sumTo (days f u k) d = if f ≤ d ∧ d < f + k then u else 0 := by
  induction k with
  | zero => rw [if_neg (by omega)]; rfl
  | succ k ih =>
    rw [days, sumTo_append, ih, sumTo_one]
    dsimp only
    by_cases h1 : f ≤ d ∧ d < f + k
    · rw [if_pos h1, if_neg (by omega), if_pos (by omega)]; omega
    · by_cases h2 : f + k = d
      · rw [if_neg h1, if_pos h2, if_pos (by omega)]; omega
      · rw [if_neg h1, if_neg h2, if_neg (by omega)]; omega
theorem days_split (f u : Int) (m : Nat) : ∀ k, days f u (m + k) = days f u m ++ days (f + m) u k
  | 0 => by simp [days]
  | k + 1 => by
    rw [← Nat.add_assoc, days, days_split f u m k, days, List.append_assoc]
    congr 3
    simp only [Prod.mk.injEq, and_true]
    omega
theorem days_mem {f u : Int} {k : Nat} {p : Sp} (h : p ∈ days f u k) : ∃ j : Nat, j < k ∧ p = (f + j, u) := by
  induction k with
  | zero => cases h
  | succ k ih =>
    rw [days] at h
    rcases List.mem_append.1 h with h | h
    · obtain ⟨j, hj, e⟩ := ih h
      exact ⟨j, by omega, e⟩
    · exact ⟨k, by omega, List.mem_singleton.1 h⟩
theorem spend_inv {l : List Sp} {lim a b u : Int} (h : spendE l lim a b u = 0) :
    checkE l lim = 0 ∧ 0 ≤ a ∧ a ≤ b ∧ b ≤ 4294944000 ∧ 1 ≤ u ∧ u ≤ 1000000 ∧ (a ≠ b → (b - 1) / 86400 - a / 86400 + 1 ≤ 512 - (l.length : Int) ∧ room l lim (a / 86400) u (nDays a b)) := by
  by_cases h0 : checkE l lim = 0
  · by_cases h1 : a < 0 ∨ b < a ∨ 4294944000 < b ∨ u < 1 ∨ 1000000 < u
    · rw [spend_range h0 h1] at h; cases h
    · refine ⟨h0, by omega, by omega, by omega, by omega, by omega, fun hab => ?_⟩
      by_cases h2 : 512 - (l.length : Int) < (b - 1) / 86400 - a / 86400 + 1
      · rw [spend_full h0 h1 hab h2] at h; cases h
      · by_cases h3 : room l lim (a / 86400) u (nDays a b)
        · exact ⟨by omega, h3⟩
        · rw [spend_over h0 h1 hab h2 h3] at h; cases h
  · rw [spend_check h0] at h; exact absurd h h0
theorem spend_mk {l : List Sp} {lim a b u : Int} (h0 : checkE l lim = 0) (h1 : 0 ≤ a) (h2 : a ≤ b) (h3 : b ≤ 4294944000) (h4 : 1 ≤ u) (h5 : u ≤ 1000000)
    (h6 : a ≠ b → (b - 1) / 86400 - a / 86400 + 1 ≤ 512 - (l.length : Int) ∧ room l lim (a / 86400) u (nDays a b)) : spendE l lim a b u = 0 := by
  by_cases hab : a = b
  · exact spend_none h0 (by omega) hab
  · obtain ⟨h7, h8⟩ := h6 hab
    exact spend_ok h0 (by omega) hab (by omega) h8
theorem nDays_eq {a b : Int} (h : a < b) : ((nDays a b : Nat) : Int) = (b - 1) / 86400 - a / 86400 + 1 := by unfold nDays; omega
theorem spend_sum {l : List Sp} {lim a b u : Int} (h : spendE l lim a b u = 0) (d : Int) : sumTo (spendL l lim a b u) d = sumTo l d + if touchP a b d then u else 0 := by
  obtain ⟨_, h1, h2, _, _, _, _⟩ := spend_inv h
  by_cases hab : a = b
  · rw [spendL_same h hab, if_neg (by unfold touchP; omega)]; omega
  · rw [spendL_ok h hab, sumTo_append, sum_days]
    have hn := nDays_eq (show a < b by omega)
    by_cases ht : touchP a b d
    · rw [if_pos ht, if_pos (by unfold touchP at ht; omega)]
    · rw [if_neg ht, if_neg (by unfold touchP at ht; omega)]
theorem spend_out {l : List Sp} {lim a b u : Int} (h : spendE l lim a b u = 0) : checkE (spendL l lim a b u) lim = 0 := by
  obtain ⟨h0, h1, h2, h3, h4, h5, h6⟩ := spend_inv h
  by_cases hab : a = b
  · rw [spendL_same h hab]; exact h0
  · obtain ⟨h7, h8⟩ := h6 hab
    obtain ⟨c1, c2, c3, c4, c5⟩ := check_iff.1 h0
    have hn := nDays_eq (show a < b by omega)
    refine check_iff.2 ⟨c1, c2, ?_, ?_, fits_of_days fun d => ?_⟩
    · rw [spendL_ok h hab, List.length_append, days_len]; omega
    · rw [spendL_ok h hab]
      intro p hp
      rcases List.mem_append.1 hp with hp | hp
      · exact c4 p hp
      · obtain ⟨j, hj, rfl⟩ := days_mem hp
        unfold inR
        dsimp only
        omega
    · rw [spend_sum h]
      have hf := fits_day c5 c1 d
      by_cases ht : touchP a b d
      · rw [if_pos ht]
        unfold touchP at ht
        have := h8 (d - a / 86400).toNat (by omega)
        rw [show a / 86400 + ((d - a / 86400).toNat : Int) = d from by omega] at this
        omega
      · rw [if_neg ht]; omega
theorem spend_pre {l : List Sp} {lim a b u : Int} (h : spendE l lim a b u = 0) : ∃ m, spendL l lim a b u = l ++ m ∧ (m.length : Int) = if a < b then (b - 1) / 86400 - a / 86400 + 1 else 0 := by
  obtain ⟨h0, h1, h2, h3, h4, h5, h6⟩ := spend_inv h
  by_cases hab : a = b
  · exact ⟨[], by rw [spendL_same h hab, List.append_nil], by rw [if_neg (by omega)]; rfl⟩
  · exact ⟨_, spendL_ok h hab, by rw [days_len, if_pos (by omega)]; exact nDays_eq (by omega)⟩
/-- What was spent beforehand outside of the window plays no part in the room. -/
theorem room_same {l m : List Sp} {lim f u : Int} {k : Nat} (h : ∀ d, f ≤ d → d < f + k → sumTo m d = sumTo l d) : room m lim f u k ↔ room l lim f u k := by
  constructor
  · intro hr j hj; have := hr j hj; rw [h _ (by omega) (by omega)] at this; exact this
  · intro hr j hj; have := hr j hj; rw [← h _ (by omega) (by omega)] at this; exact this
/-- Spending for the parts of a window is spending for the whole. -/
theorem parts_iff {l : List Sp} {lim a b u day : Int} (hd : 0 ≤ day) (h1 : a ≤ day * 86400) (h2 : day * 86400 ≤ b) :
    (spendE l lim a b u = 0 ↔ spendE l lim a (day * 86400) u = 0 ∧ spendE (spendL l lim a (day * 86400) u) lim (day * 86400) b u = 0) := by
  constructor
  · intro h
    obtain ⟨g0, g1, g2, g3, g4, g5, g6⟩ := spend_inv h
    have f0 : spendE l lim a (day * 86400) u = 0 := by
      refine spend_mk g0 g1 h1 (by omega) g4 g5 fun hab => ?_
      obtain ⟨g7, g8⟩ := g6 (by omega)
      have n1 := nDays_eq (show a < b by omega)
      have n2 := nDays_eq (show a < day * 86400 by omega)
      exact ⟨by omega, fun j hj => g8 j (by omega)⟩
    refine ⟨f0, spend_mk (spend_out f0) (by omega) h2 g3 g4 g5 fun hab => ?_⟩
    obtain ⟨g7, g8⟩ := g6 (by omega)
    have n1 := nDays_eq (show a < b by omega)
    have n2 := nDays_eq (show day * 86400 < b by omega)
    have e1 : day * 86400 / 86400 = day := by omega
    obtain ⟨m, hm, hl⟩ := spend_pre f0
    refine ⟨?_, ?_⟩
    · rw [hm, List.length_append]
      by_cases ha : a < day * 86400
      · rw [if_pos ha] at hl; omega
      · rw [if_neg ha] at hl; omega
    · rw [e1]
      refine (room_same (l := l) fun d hd1 _ => ?_).2 fun j hj => ?_
      · rw [spend_sum f0, if_neg (by unfold touchP; omega)]; omega
      · have := g8 ((day - a / 86400).toNat + j) (by omega)
        rw [show a / 86400 + (((day - a / 86400).toNat + j : Nat) : Int) = day + j from by omega] at this
        exact this
  · intro ⟨f0, f1⟩
    obtain ⟨g0, g1, g2, g3, g4, g5, g6⟩ := spend_inv f0
    obtain ⟨i0, i1, i2, i3, i4, i5, i6⟩ := spend_inv f1
    obtain ⟨m, hm, hl⟩ := spend_pre f0
    refine spend_mk g0 g1 (by omega) i3 g4 g5 fun hab => ?_
    have e1 : day * 86400 / 86400 = day := by omega
    have n1 := nDays_eq (show a < b by omega)
    by_cases hb : day * 86400 = b
    · rw [hb] at g6
      exact g6 hab
    · obtain ⟨i7, i8⟩ := i6 hb
      have n2 := nDays_eq (show day * 86400 < b by omega)
      rw [e1] at i7 i8 n2
      rw [hm, List.length_append] at i7
      have i9 := (room_same (l := l) fun d hd1 _ => by rw [spend_sum f0, if_neg (by unfold touchP; omega)]; omega).1 i8
      by_cases ha : a < day * 86400
      · rw [if_pos ha] at hl
        obtain ⟨g7, g8⟩ := g6 (by omega)
        have n3 := nDays_eq (show a < day * 86400 by omega)
        refine ⟨by omega, fun j hj => ?_⟩
        by_cases hj2 : j < nDays a (day * 86400)
        · exact g8 j hj2
        · have := i9 (j - (day - a / 86400).toNat) (by omega)
          rw [show day + ((j - (day - a / 86400).toNat : Nat) : Int) = a / 86400 + j from by omega] at this
          exact this
      · rw [if_neg ha] at hl
        have e2 : a = day * 86400 := by omega
        subst e2
        rw [e1]
        refine ⟨by omega, fun j hj => i9 j (by rw [e1] at n1; omega)⟩
theorem parts_eq {l : List Sp} {lim a b u day : Int} (hd : 0 ≤ day) (h1 : a ≤ day * 86400) (h2 : day * 86400 ≤ b) (h : spendE l lim a b u = 0) :
    spendL l lim a b u = spendL (spendL l lim a (day * 86400) u) lim (day * 86400) b u := by
  obtain ⟨f0, f1⟩ := (parts_iff hd h1 h2).1 h
  obtain ⟨g0, g1, _⟩ := spend_inv h
  have e1 : day * 86400 / 86400 = day := by omega
  by_cases ha : a = day * 86400
  · rw [spendL_same f0 ha, ← ha]
  · by_cases hb : day * 86400 = b
    · rw [spendL_same f1 hb, hb]
    · rw [spendL_ok f1 hb, spendL_ok f0 ha, spendL_ok h (by omega), e1, List.append_assoc]
      have n1 := nDays_eq (show a < b by omega)
      have n2 := nDays_eq (show day * 86400 < b by omega)
      have n3 := nDays_eq (show a < day * 86400 by omega)
      rw [show nDays a b = nDays a (day * 86400) + nDays (day * 86400) b from by omega, days_split]
      congr 3
      omega
end Go.Proofs.Ytdfmngnhmiemgaa
