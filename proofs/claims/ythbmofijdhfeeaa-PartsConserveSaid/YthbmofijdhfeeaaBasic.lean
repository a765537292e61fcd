/- The walks of in, kind, SameLots, SameTakes. -/
import Derived.Test.YthbmofijdhfeeaaFlat
import Derived.Test.YthbmofijdhfeeaaPure
namespace Go.Proofs.Ythbmofijdhfeeaa
open Go.RowKit Go.Maps
def inB (lo hi n : Int) : Bool := decide (lo ≤ n ∧ n ≤ hi)
theorem in_at (n lo hi : Int) (x : Bool) (w : World) (h : inB lo hi n = x) : Calls Try.prog 35 #[.int .i64 n, .int .i64 lo, .int .i64 hi] w fun e w' => e = .returned (.bool x) ∧ w = w' := by
  have hcs : (lo ≤ n ∧ n ≤ hi ∧ x = true) ∨ (lo ≤ n ∧ hi < n ∧ x = false) ∨ (n < lo ∧ x = false) := by
    rcases x with _ | _
    · have := of_decide_eq_false h
      rcases Int.lt_or_le n lo with h1 | h1
      · exact .inr (.inr ⟨h1, rfl⟩)
      · exact .inr (.inl ⟨h1, by omega, rfl⟩)
    · have := of_decide_eq_true h
      exact .inl ⟨this.1, this.2, rfl⟩
  clear h
  rcases hcs with ⟨h1, h2, rfl⟩ | ⟨h1, h2, rfl⟩ | ⟨h1, rfl⟩
  all_goals
    go_enter Try.func35, Try.ntmps35
    go_wp2_with fail
    go_ret
    exact ⟨ret_bool (by first | rfl | (simp; omega)), rfl⟩
theorem kind_at (n : Int) (x : Bool) (w : World) (h : kindB n = x) : Calls Try.prog 34 #[.int .i64 n] w fun e w' => e = .returned (.bool x) ∧ w = w' := by
  have C := in_at n 0 7 x w h
  go_enter Try.func34, Try.ntmps34
  go_wp2_with fail
  refine C.mono ?_
  rintro e w1 ⟨rfl, rfl⟩
  go_wp2_with fail
  go_ret
  exact ⟨rfl, rfl⟩
theorem eq47 (a0 a1 a2 a3 b0 b1 b2 b3 : Int) (w : World) : (Op.equalIn 10000 47 (.agg #[.int .i64 a0, .int .i64 a1, .int .i64 a2, .int .i64 a3]) (.agg #[.int .i64 b0, .int .i64 b1, .int .i64 b2, .int .i64 b3])).run Try.prog w = .ok (decide (((a0, a1, a2, a3) : L4) = (b0, b1, b2, b3))) w := by
  rcases e0 : (a0 == b0) with _ | _
  · have hne : ((a0, a1, a2, a3) : L4) ≠ (b0, b1, b2, b3) := fun h => by
      simp only [Prod.mk.injEq] at h
      rw [beq_eq_false_iff_ne] at e0
      exact e0 (h.1)
    rw [decide_eq_false hne]
    simp [go_sem, e0]
  · skip
    rcases e1 : (a1 == b1) with _ | _
    · have hne : ((a0, a1, a2, a3) : L4) ≠ (b0, b1, b2, b3) := fun h => by
        simp only [Prod.mk.injEq] at h
        rw [beq_eq_false_iff_ne] at e1
        exact e1 (h.2.1)
      rw [decide_eq_false hne]
      simp [go_sem, e0, e1]
    · skip
      rcases e2 : (a2 == b2) with _ | _
      · have hne : ((a0, a1, a2, a3) : L4) ≠ (b0, b1, b2, b3) := fun h => by
          simp only [Prod.mk.injEq] at h
          rw [beq_eq_false_iff_ne] at e2
          exact e2 (h.2.2.1)
        rw [decide_eq_false hne]
        simp [go_sem, e0, e1, e2]
      · skip
        rcases e3 : (a3 == b3) with _ | _
        · have hne : ((a0, a1, a2, a3) : L4) ≠ (b0, b1, b2, b3) := fun h => by
            simp only [Prod.mk.injEq] at h
            rw [beq_eq_false_iff_ne] at e3
            exact e3 (h.2.2.2)
          rw [decide_eq_false hne]
          simp [go_sem, e0, e1, e2, e3]
        · have heq : ((a0, a1, a2, a3) : L4) = (b0, b1, b2, b3) := by
            obtain rfl : a0 = b0 := by simpa using e0
            obtain rfl : a1 = b1 := by simpa using e1
            obtain rfl : a2 = b2 := by simpa using e2
            obtain rfl : a3 = b3 := by simpa using e3
            rfl
          rw [decide_eq_true heq]
          simp [go_sem, e0, e1, e2, e3]
theorem eq47_refl (a0 a1 a2 a3 : Int) (w : World) : (Op.equalIn 10000 47 (.agg #[.int .i64 a0, .int .i64 a1, .int .i64 a2, .int .i64 a3]) (.agg #[.int .i64 a0, .int .i64 a1, .int .i64 a2, .int .i64 a3])).run Try.prog w = .ok true w := by rw [eq47, decide_eq_true rfl]
theorem eq58 (a0 a1 b0 b1 : Int) (w : World) : (Op.equalIn 10000 58 (.agg #[.int .i64 a0, .int .i64 a1]) (.agg #[.int .i64 b0, .int .i64 b1])).run Try.prog w = .ok (decide (((a0, a1) : T2) = (b0, b1))) w := by
  rcases e0 : (a0 == b0) with _ | _
  · have hne : ((a0, a1) : T2) ≠ (b0, b1) := fun h => by
      simp only [Prod.mk.injEq] at h
      rw [beq_eq_false_iff_ne] at e0
      exact e0 (h.1)
    rw [decide_eq_false hne]
    simp [go_sem, e0]
  · skip
    rcases e1 : (a1 == b1) with _ | _
    · have hne : ((a0, a1) : T2) ≠ (b0, b1) := fun h => by
        simp only [Prod.mk.injEq] at h
        rw [beq_eq_false_iff_ne] at e1
        exact e1 (h.2)
      rw [decide_eq_false hne]
      simp [go_sem, e0, e1]
    · have heq : ((a0, a1) : T2) = (b0, b1) := by
        obtain rfl : a0 = b0 := by simpa using e0
        obtain rfl : a1 = b1 := by simpa using e1
        rfl
      rw [decide_eq_true heq]
      simp [go_sem, e0, e1]
theorem eq58_refl (a0 a1 : Int) (w : World) : (Op.equalIn 10000 58 (.agg #[.int .i64 a0, .int .i64 a1]) (.agg #[.int .i64 a0, .int .i64 a1])).run Try.prog w = .ok true w := by rw [eq58, decide_eq_true rfl]
def sameLB (l m : List L4) : Bool := decide (l = m)
theorem sameL_len {l m : List L4} (h : l.length ≠ m.length) : sameLB l m = false := decide_eq_false fun e => h (by rw [e])
theorem sameL_at {l m : List L4} {k : Nat} (hl : k < l.length) (hm : k < m.length) (h : l[k] ≠ m[k]) : sameLB l m = false := decide_eq_false fun e => by subst e; exact h rfl
theorem sameL_all {l m : List L4} (h : l.length = m.length) (ha : ∀ j (hj : j < l.length), l[j] = m[j]'(by omega)) : sameLB l m = true := decide_eq_true (List.ext_getElem h fun i h1 _ => ha i h1)
theorem sameL_refl (l : List L4) : sameLB l l = true := decide_eq_true rfl
set_option maxHeartbeats 1000000 in
set_option maxRecDepth 10000 in
theorem sameL_any (A A' : Option Addr) (n c n' c' : Nat) (l m : List L4) (x : Bool) (B B' : Nat) (w : World) (hr : Reads w B 4 A n (cellsL l)) (hr' : Reads w B' 4 A' n' (cellsL m)) (hn : n ≤ 100000) (hx : sameLB l m = x) :
    Calls Try.prog 18 #[.slice A n c, .slice A' n' c'] w fun e w' => e = .returned (.bool x) ∧ ∃ q, w' = w.drewN q := by
  subst hx
  have HL := Lib.hid (recs_len hr encL_len (by omega))
  have HM := Lib.hid (recs_len hr' encL_len (by omega))
  by_cases hnn : n = n'
  · have hb : ((n : Int) != n') = false := by simp [hnn]
    have HNN := Lib.hid hnn
    clear hnn
    go_enter Try.func18, Try.ntmps18
    go_wp2_with fail
    go_loopw [5] (fun j wr => ∃ (k q : Nat), k ≤ n ∧ j = .int .i64 k ∧ (∀ j (hj : j < l.length) (hj' : j < m.length), j < k → l[j] = m[j]) ∧ wr = w.drewN q) (fun j _ => n - (intOf j).toNat)
    case atStart => exact ⟨0, 0, Nat.zero_le _, rfl, fun _ _ _ h => absurd h (Nat.not_lt_zero _), rfl⟩
    case round =>
      obtain ⟨k, q, hk, rfl, hall, rfl⟩ := hrel
      have HA := Lib.hid hall
      clear hall
      by_cases hlt : k < n
      · obtain ⟨b, off, rfl, hb1, hc⟩ := hr.recs encL_len (by omega) (by omega)
        obtain ⟨b', off', rfl, hb2, hc'⟩ := hr'.recs encL_len (by omega) (by have := HNN.out; omega)
        have hkl : k < l.length := by have := HL.out; omega
        have hkm : k < m.length := by have := HM.out; have := HNN.out; omega
        have c0 : w.cell? ⟨b, off + k * 4, none⟩ = some (.int .i64 l[k].1) := hc k hkl 0 _ rfl
        have d0 : w.cell? ⟨b', off' + k * 4, none⟩ = some (.int .i64 m[k].1) := hc' k hkm 0 _ rfl
        have c1 : w.cell? ⟨b, off + k * 4 + 1, none⟩ = some (.int .i64 l[k].2.1) := hc k hkl 1 _ rfl
        have d1 : w.cell? ⟨b', off' + k * 4 + 1, none⟩ = some (.int .i64 m[k].2.1) := hc' k hkm 1 _ rfl
        have c2 : w.cell? ⟨b, off + k * 4 + 2, none⟩ = some (.int .i64 l[k].2.2.1) := hc k hkl 2 _ rfl
        have d2 : w.cell? ⟨b', off' + k * 4 + 2, none⟩ = some (.int .i64 m[k].2.2.1) := hc' k hkm 2 _ rfl
        have c3 : w.cell? ⟨b, off + k * 4 + 3, none⟩ = some (.int .i64 l[k].2.2.2) := hc k hkl 3 _ rfl
        have d3 : w.cell? ⟨b', off' + k * 4 + 3, none⟩ = some (.int .i64 m[k].2.2.2) := hc' k hkm 3 _ rfl
        have hk1 : (k : Int) < n := by omega
        have hk2 : (k : Int) < n' := by have := HNN.out; omega
        have hk0 : (0 : Int) ≤ k := by omega
        have hq := fun w => eq47 l[k].1 l[k].2.1 l[k].2.2.1 l[k].2.2.2 m[k].1 m[k].2.1 m[k].2.2.1 m[k].2.2.2 w
        clear hc hc'
        by_cases he : l[k] = m[k]
        · have e1 : decide (((l[k].1, l[k].2.1, l[k].2.2.1, l[k].2.2.2) : L4) = (m[k].1, m[k].2.1, m[k].2.2.1, m[k].2.2.2)) = true := decide_eq_true he
          simp only [e1] at hq
          have HE := Lib.hid he
          clear he e1
          go_wp2_with fail
          go_quiet (fail)
          go_wp2_with fail
          go_roundw
          case rel =>
            refine ⟨k + 1, _, by omega, by go_num, fun j hj hj' hjk => ?_, rfl⟩
            rcases Nat.lt_or_eq_of_le (Nat.lt_succ_iff.1 hjk) with h' | rfl
            · exact HA.out j hj hj' h'
            · exact HE.out
          case measure => simp [intOf]; omega
        · have HE := Lib.hid (sameL_at hkl hkm he)
          have e1 : decide (((l[k].1, l[k].2.1, l[k].2.2.1, l[k].2.2.2) : L4) = (m[k].1, m[k].2.1, m[k].2.2.1, m[k].2.2.2)) = false := decide_eq_false he
          simp only [e1] at hq
          clear he e1
          go_wp2_with fail
          go_quiet (fail)
          go_wp2_with fail
          go_ret
          exact ⟨ret_bool HE.out.symm, q + nq, by rw [World.drewN_drewN]⟩
      · have HE := Lib.hid (sameL_all (l := l) (m := m) (by have := HL.out; have := HM.out; have := HNN.out; omega) fun j hj => HA.out j hj _ (by have := HL.out; omega))
        go_wp2_with fail
        go_ret
        exact ⟨ret_bool HE.out.symm, _, rfl⟩
  · have hb : ((n : Int) != n') = true := by simp; omega
    have HE : Hid (sameLB l m = false) := Lib.hid (sameL_len (by have := HL.out; have := HM.out; omega))
    clear hnn
    go_enter Try.func18, Try.ntmps18
    go_wp2_with fail
    go_ret
    exact ⟨ret_bool HE.out.symm, 0, rfl⟩
def sameTB (l m : List T2) : Bool := decide (l = m)
theorem sameT_len {l m : List T2} (h : l.length ≠ m.length) : sameTB l m = false := decide_eq_false fun e => h (by rw [e])
theorem sameT_at {l m : List T2} {k : Nat} (hl : k < l.length) (hm : k < m.length) (h : l[k] ≠ m[k]) : sameTB l m = false := decide_eq_false fun e => by subst e; exact h rfl
theorem sameT_all {l m : List T2} (h : l.length = m.length) (ha : ∀ j (hj : j < l.length), l[j] = m[j]'(by omega)) : sameTB l m = true := decide_eq_true (List.ext_getElem h fun i h1 _ => ha i h1)
theorem sameT_refl (l : List T2) : sameTB l l = true := decide_eq_true rfl
set_option maxHeartbeats 1000000 in
set_option maxRecDepth 10000 in
theorem sameT_any (A A' : Option Addr) (n c n' c' : Nat) (l m : List T2) (x : Bool) (B B' : Nat) (w : World) (hr : Reads w B 2 A n (cellsT l)) (hr' : Reads w B' 2 A' n' (cellsT m)) (hn : n ≤ 100000) (hx : sameTB l m = x) :
    Calls Try.prog 22 #[.slice A n c, .slice A' n' c'] w fun e w' => e = .returned (.bool x) ∧ ∃ q, w' = w.drewN q := by
  subst hx
  have HL := Lib.hid (recs_len hr encT_len (by omega))
  have HM := Lib.hid (recs_len hr' encT_len (by omega))
  by_cases hnn : n = n'
  · have hb : ((n : Int) != n') = false := by simp [hnn]
    have HNN := Lib.hid hnn
    clear hnn
    go_enter Try.func22, Try.ntmps22
    go_wp2_with fail
    go_loopw [5] (fun j wr => ∃ (k q : Nat), k ≤ n ∧ j = .int .i64 k ∧ (∀ j (hj : j < l.length) (hj' : j < m.length), j < k → l[j] = m[j]) ∧ wr = w.drewN q) (fun j _ => n - (intOf j).toNat)
    case atStart => exact ⟨0, 0, Nat.zero_le _, rfl, fun _ _ _ h => absurd h (Nat.not_lt_zero _), rfl⟩
    case round =>
      obtain ⟨k, q, hk, rfl, hall, rfl⟩ := hrel
      have HA := Lib.hid hall
      clear hall
      by_cases hlt : k < n
      · obtain ⟨b, off, rfl, hb1, hc⟩ := hr.recs encT_len (by omega) (by omega)
        obtain ⟨b', off', rfl, hb2, hc'⟩ := hr'.recs encT_len (by omega) (by have := HNN.out; omega)
        have hkl : k < l.length := by have := HL.out; omega
        have hkm : k < m.length := by have := HM.out; have := HNN.out; omega
        have c0 : w.cell? ⟨b, off + k * 2, none⟩ = some (.int .i64 l[k].1) := hc k hkl 0 _ rfl
        have d0 : w.cell? ⟨b', off' + k * 2, none⟩ = some (.int .i64 m[k].1) := hc' k hkm 0 _ rfl
        have c1 : w.cell? ⟨b, off + k * 2 + 1, none⟩ = some (.int .i64 l[k].2) := hc k hkl 1 _ rfl
        have d1 : w.cell? ⟨b', off' + k * 2 + 1, none⟩ = some (.int .i64 m[k].2) := hc' k hkm 1 _ rfl
        have hk1 : (k : Int) < n := by omega
        have hk2 : (k : Int) < n' := by have := HNN.out; omega
        have hk0 : (0 : Int) ≤ k := by omega
        have hq := fun w => eq58 l[k].1 l[k].2 m[k].1 m[k].2 w
        clear hc hc'
        by_cases he : l[k] = m[k]
        · have e1 : decide (((l[k].1, l[k].2) : T2) = (m[k].1, m[k].2)) = true := decide_eq_true he
          simp only [e1] at hq
          have HE := Lib.hid he
          clear he e1
          go_wp2_with fail
          go_quiet (fail)
          go_wp2_with fail
          go_roundw
          case rel =>
            refine ⟨k + 1, _, by omega, by go_num, fun j hj hj' hjk => ?_, rfl⟩
            rcases Nat.lt_or_eq_of_le (Nat.lt_succ_iff.1 hjk) with h' | rfl
            · exact HA.out j hj hj' h'
            · exact HE.out
          case measure => simp [intOf]; omega
        · have HE := Lib.hid (sameT_at hkl hkm he)
          have e1 : decide (((l[k].1, l[k].2) : T2) = (m[k].1, m[k].2)) = false := decide_eq_false he
          simp only [e1] at hq
          clear he e1
          go_wp2_with fail
          go_quiet (fail)
          go_wp2_with fail
          go_ret
          exact ⟨ret_bool HE.out.symm, q + nq, by rw [World.drewN_drewN]⟩
      · have HE := Lib.hid (sameT_all (l := l) (m := m) (by have := HL.out; have := HM.out; have := HNN.out; omega) fun j hj => HA.out j hj _ (by have := HL.out; omega))
        go_wp2_with fail
        go_ret
        exact ⟨ret_bool HE.out.symm, _, rfl⟩
  · have hb : ((n : Int) != n') = true := by simp; omega
    have HE : Hid (sameTB l m = false) := Lib.hid (sameT_len (by have := HL.out; have := HM.out; omega))
    clear hnn
    go_enter Try.func22, Try.ntmps22
    go_wp2_with fail
    go_ret
    exact ⟨ret_bool HE.out.symm, 0, rfl⟩
end Go.Proofs.Ythbmofijdhfeeaa
