/- Same: two lists of postings are compared. -/
import Derived.Test.YtoammbjnejdgpaaLdL
namespace Go.Proofs.Ytoammbjnejdgpaa
open Go.RowKit
/-- Postings in memory, wherever. -/
def PsR (w : World) (A : Option Addr) (n : Nat) (l : List Pg) : Prop := Reads w w.heap.size 3 A n (cellsPg l) ∧ ∀ p ∈ l, Reads w w.heap.size 2 p.A p.n (cellsLn p.ls) ∧ p.n ≤ 100
theorem PsR.below {w w' : World} {A : Option Addr} {n : Nat} {l : List Pg} (h : PsR w A n l) (hb : Below w.heap.size w w') : PsR w' A n l := ⟨(h.1.below hb).more hb.size, fun p hp => ⟨((h.2 p hp).1.below hb).more hb.size, (h.2 p hp).2⟩⟩
theorem PsW.psr {base : Nat} {w : World} {A : Option Addr} {k c : Nat} {ps : List Pg} {d : List Dt} (h : PsW base w A k c ps d) : PsR w A k ps := ⟨Reads.of_own h.2.1, fun p hp => ⟨(h.2.2 p hp).1.reads, Nat.le_trans (h.2.2 p hp).2 (by omega)⟩⟩
theorem PsR.cells {w : World} {A : Option Addr} {n : Nat} {l : List Pg} (h : PsR w A n l) (hn : 0 < n) : ∃ b off, A = some ⟨b, off, none⟩ ∧ b < w.heap.size ∧ ∀ k (hk : k < l.length), w.cell? ⟨b, off + k * 3, none⟩ = some (.int .i64 l[k].id) ∧ w.cell? ⟨b, off + k * 3 + 1, none⟩ = some (.int .i64 l[k].tm) ∧ w.cell? ⟨b, off + k * 3 + 2, none⟩ = some (.slice l[k].A l[k].n l[k].c) := by
  obtain ⟨b, off, e, hb, hc⟩ := h.1.recs encPg_len (by omega) hn
  exact ⟨b, off, e, hb, fun k hk => ⟨hc k hk 0 _ rfl, hc k hk 1 _ rfl, hc k hk 2 _ rfl⟩⟩
def sameP (l m : List Pg) : Bool := decide (l.map Pg.of = m.map Pg.of)
theorem sameP_len {l m : List Pg} (h : l.length ≠ m.length) : sameP l m = false := decide_eq_false fun e => h (by simpa using congrArg List.length e)
theorem sameP_at {l m : List Pg} {k : Nat} (hl : k < l.length) (hm : k < m.length) (h : (l[k]).of ≠ (m[k]).of) : sameP l m = false := decide_eq_false fun e => h (by
  have h1 : (l.map Pg.of)[k]? = (m.map Pg.of)[k]? := by rw [e]
  rw [List.getElem?_map, List.getElem?_map, List.getElem?_eq_getElem hl, List.getElem?_eq_getElem hm] at h1
  simpa using h1)
theorem sameP_all {l m : List Pg} (h : l.length = m.length) (ha : ∀ j (hj : j < l.length) (hj' : j < m.length), (l[j]).of = (m[j]).of) : sameP l m = true := decide_eq_true (List.ext_getElem (by simpa using h) fun i h1 h2 => by simpa using ha i (by simpa using h1) (by simpa using h2))
theorem eq54 (a0 a1 b0 b1 : Int) (w : World) : (Op.equalIn 10000 54 (.agg #[.int .i64 a0, .int .i64 a1]) (.agg #[.int .i64 b0, .int .i64 b1])).run Try.prog w = .ok (decide (((a0, a1) : Int × Int) = (b0, b1))) w := by
  rcases e0 : (a0 == b0) with _ | _
  · have hne : ((a0, a1) : Int × Int) ≠ (b0, b1) := fun h => by
      simp only [Prod.mk.injEq] at h
      rw [beq_eq_false_iff_ne] at e0
      exact e0 (h.1)
    rw [decide_eq_false hne]
    simp [go_sem, e0]
  · skip
    rcases e1 : (a1 == b1) with _ | _
    · have hne : ((a0, a1) : Int × Int) ≠ (b0, b1) := fun h => by
        simp only [Prod.mk.injEq] at h
        rw [beq_eq_false_iff_ne] at e1
        exact e1 (h.2)
      rw [decide_eq_false hne]
      simp [go_sem, e0, e1]
    · have heq : ((a0, a1) : Int × Int) = (b0, b1) := by
        obtain rfl : a0 = b0 := by simpa using e0
        obtain rfl : a1 = b1 := by simpa using e1
        rfl
      rw [decide_eq_true heq]
      simp [go_sem, e0, e1]
theorem eq54_refl (a0 a1 : Int) (w : World) : (Op.equalIn 10000 54 (.agg #[.int .i64 a0, .int .i64 a1]) (.agg #[.int .i64 a0, .int .i64 a1])).run Try.prog w = .ok true w := by rw [eq54, decide_eq_true rfl]
set_option maxHeartbeats 4000000 in
set_option maxRecDepth 10000 in
theorem same_any (A A' : Option Addr) (n c n' c' : Nat) (l m : List Pg) (x : Bool) (w : World) (hr : PsR w A n l) (hr' : PsR w A' n' m) (hn : n ≤ 100000) (hx : sameP l m = x) : Calls Try.prog 20 #[.slice A n c, .slice A' n' c'] w fun e w' => e = .returned (.bool x) ∧ ∃ q, w' = w.drewN q := by
  subst hx
  have HL := Lib.hid (recs_len hr.1 encPg_len (by omega))
  have HM := Lib.hid (recs_len hr'.1 encPg_len (by omega))
  have HR := Lib.hid hr; have HR' := Lib.hid hr'
  clear hr hr'
  by_cases hnn : n = n'
  case neg =>
    have hb : ((n : Int) != n') = true := by simp; omega
    have HE : Hid (sameP l m = false) := Lib.hid (sameP_len (by have := HL.out; have := HM.out; omega))
    clear hnn
    go_enter Try.func20, Try.ntmps20
    go_wp2_with fail
    go_ret
    exact ⟨ret_bool HE.out.symm, 0, rfl⟩
  have hb : ((n : Int) != n') = false := by simp [hnn]
  have HNN := Lib.hid hnn
  clear hnn
  go_enter Try.func20, Try.ntmps20
  go_wp2_with fail
  go_loopw [5] (fun j wr => ∃ (k q : Nat), k ≤ n ∧ j = .int .i64 k ∧ Hid (∀ j (hj : j < l.length) (hj' : j < m.length), j < k → (l[j]).of = (m[j]).of) ∧ wr = w.drewN q) (fun j _ => n - (intOf j).toNat)
  case atStart => exact ⟨0, 0, Nat.zero_le _, rfl, Lib.hid (fun _ _ _ h => absurd h (Nat.not_lt_zero _)), rfl⟩
  case round =>
    obtain ⟨k, q, hk, rfl, HA, rfl⟩ := hrel
    by_cases hlt : k < n
    case neg =>
      have HE := Lib.hid (sameP_all (l := l) (m := m) (by have := HL.out; have := HM.out; have := HNN.out; omega) fun j hj hj' => HA.out j hj hj' (by have := HL.out; omega))
      go_wp2_with fail
      go_ret
      exact ⟨ret_bool HE.out.symm, _, rfl⟩
    obtain ⟨b, off, rfl, hb1, hc⟩ := HR.out.cells (by omega)
    obtain ⟨b', off', rfl, hb2, hc'⟩ := HR'.out.cells (by have := HNN.out; omega)
    have hkl : k < l.length := by have := HL.out; omega
    have hkm : k < m.length := by have := HM.out; have := HNN.out; omega
    obtain ⟨c0, c1, c2⟩ := hc k hkl
    obtain ⟨d0, d1, d2⟩ := hc' k hkm
    have HLX := HR.out.2 l[k] (List.getElem_mem _); have HLY := HR'.out.2 m[k] (List.getElem_mem _)
    have HAT := Lib.hid (sameP_at hkl hkm)
    have HNX : Hid ((l[k]).of = (m[k]).of → ∀ j (hj : j < l.length) (hj' : j < m.length), j < k + 1 → (l[j]).of = (m[j]).of) := Lib.hid fun e j hj hj' hjk => by
      rcases Nat.lt_or_eq_of_le (Nat.lt_succ_iff.1 hjk) with h' | rfl
      · exact HA.out j hj hj' h'
      · exact e
    obtain ⟨p, hp⟩ : ∃ p, l[k] = p := ⟨_, rfl⟩
    obtain ⟨r, hr⟩ : ∃ p, m[k] = p := ⟨_, rfl⟩
    rw [hp] at c0 c1 c2 HLX HAT HNX; rw [hr] at d0 d1 d2 HLY HAT HNX
    have hk1 : (k : Int) < n := by omega
    have hk2 : (k : Int) < n' := by have := HNN.out; omega
    have hk0 : (0 : Int) ≤ k := by omega
    have hp100 := HLX.2; have hr100 := HLY.2
    have HPL := Lib.hid HLX.1; have HRL := Lib.hid HLY.1
    have HPN := Lib.hid (recs_len HLX.1 encLn_len (by omega)); have HRN := Lib.hid (recs_len HLY.1 encLn_len (by omega))
    clear hc hc' HLX HLY hp hr
    rcases t0 : (p.id != r.id) with _ | _
    case true =>
      have HE := Lib.hid (HAT.out fun e => by have := congrArg (fun z => z.1) e; simp [Pg.of] at this; simp [this] at t0)
      go_wp2_with fail
      go_quiet (fail)
      go_wp2_with fail
      go_ret
      exact ⟨ret_bool HE.out.symm, q + nq, by rw [World.drewN_drewN]⟩
    rcases t1 : (p.tm != r.tm) with _ | _
    case true =>
      have HE := Lib.hid (HAT.out fun e => by have := congrArg (fun z => z.2.1) e; simp [Pg.of] at this; simp [this] at t1)
      go_wp2_with fail
      go_quiet (fail)
      go_wp2_with fail
      go_ret
      exact ⟨ret_bool HE.out.symm, q + nq, by rw [World.drewN_drewN]⟩
    rcases t2 : ((p.n : Int) != (r.n : Int)) with _ | _
    case true =>
      have HE := Lib.hid (HAT.out fun e => by
        have := congrArg (fun z => z.2.2.length) e; simp only [Pg.of] at this
        have h1 := HPN.out; have h2 := HRN.out
        have : (p.n : Int) = r.n := by omega
        simp [this] at t2)
      go_wp2_with fail
      go_quiet (fail)
      go_wp2_with fail
      go_ret
      exact ⟨ret_bool HE.out.symm, q + nq, by rw [World.drewN_drewN]⟩
    have HT0 : Hid (p.id = r.id) := Lib.hid (by simpa using t0)
    have HT1 : Hid (p.tm = r.tm) := Lib.hid (by simpa using t1)
    have h7 : (p.n : Int) = r.n := by simpa using t2
    have HT2 : Hid (p.n = r.n) := Lib.hid (by omega)
    clear h7
    go_wp2_with fail
    go_quiet (fail)
    clear t0 t1 t2
    go_wp2_with fail
    go_loopw [6] (fun j wr => ∃ (t q' : Nat), t ≤ p.n ∧ j = .int .i64 t ∧ Hid (∀ j (hj : j < p.ls.length) (hj' : j < r.ls.length), j < t → p.ls[j] = r.ls[j]) ∧ wr = w.drewN q') (fun j _ => p.n - (intOf j).toNat)
    case atStart => exact ⟨0, q + nq, Nat.zero_le _, rfl, Lib.hid (fun _ _ _ h => absurd h (Nat.not_lt_zero _)), by rw [World.drewN_drewN]⟩
    case round =>
      obtain ⟨t, q', ht, rfl, HAL, rfl⟩ := hrel
      by_cases hlt2 : t < p.n
      case neg =>
        have HE := Lib.hid (HNX.out (by
          have h1 := HPN.out; have h2 := HRN.out; have h3 := HT2.out
          have : p.ls = r.ls := List.ext_getElem (by omega) fun j hj hj' => HAL.out j hj hj' (by omega)
          simp only [Pg.of, HT0.out, HT1.out, this]))
        have ht3 : (p.n : Int) ≤ t := by omega
        go_wp2_with fail
        go_roundw
        case rel => exact ⟨k + 1, _, by omega, by go_num, HE, rfl⟩
        case measure => simp [intOf]; omega
      obtain ⟨e, o, hA1, he1, hcl⟩ := ln_cells HPL.out (by omega)
      obtain ⟨e', o', hA2, he2, hcl'⟩ := ln_cells HRL.out (by have := HT2.out; omega)
      have htl : t < p.ls.length := by have := HPN.out; omega
      have htm : t < r.ls.length := by have := HRN.out; have := HT2.out; omega
      obtain ⟨u0, u1⟩ := hcl t htl
      obtain ⟨v0, v1⟩ := hcl' t htm
      rw [hA1] at c2; rw [hA2] at d2
      have ht1 : (t : Int) < p.n := by omega
      have ht2 : (t : Int) < r.n := by have := HT2.out; omega
      have ht0 : (0 : Int) ≤ t := by omega
      have hq := fun w => eq54 (p.ls[t]).1 (p.ls[t]).2 (r.ls[t]).1 (r.ls[t]).2 w
      have HALn : Hid (p.ls[t] = r.ls[t] → ∀ j (hj : j < p.ls.length) (hj' : j < r.ls.length), j < t + 1 → p.ls[j] = r.ls[j]) := Lib.hid fun e j hj hj' hjk => by
        rcases Nat.lt_or_eq_of_le (Nat.lt_succ_iff.1 hjk) with h' | rfl
        · exact HAL.out j hj hj' h'
        · exact e
      have HALx : Hid (p.ls[t] ≠ r.ls[t] → p.ls ≠ r.ls) := Lib.hid fun hne e => hne (by simp only [e])
      obtain ⟨y, hy⟩ : ∃ y, p.ls[t] = y := ⟨_, rfl⟩
      obtain ⟨z, hz⟩ : ∃ y, r.ls[t] = y := ⟨_, rfl⟩
      rw [hy] at u0 u1 hq HALn HALx; rw [hz] at v0 v1 hq HALn HALx
      clear hcl hcl' hy hz
      by_cases he : y = z
      · have e1 : decide (((y.1, y.2) : Int × Int) = (z.1, z.2)) = true := decide_eq_true he
        simp only [e1] at hq
        have HE := Lib.hid (HALn.out he)
        clear he e1
        go_wp2_with fail
        go_quiet (fail)
        go_wp2_with fail
        go_roundw
        case rel => exact ⟨t + 1, q' + nq, by omega, by go_num, HE, rfl⟩
        case measure => simp [intOf]; omega
      · have HE := Lib.hid (HAT.out fun e => HALx.out he (by have := congrArg (fun z => z.2.2) e; simpa [Pg.of] using this))
        have e1 : decide (((y.1, y.2) : Int × Int) = (z.1, z.2)) = false := decide_eq_false he
        simp only [e1] at hq
        clear he e1
        go_wp2_with fail
        go_quiet (fail)
        go_wp2_with fail
        go_ret
        exact ⟨ret_bool HE.out.symm, q' + nq, by rw [World.drewN_drewN]⟩
end Go.Proofs.Ytoammbjnejdgpaa
