/- The reference: lines, add. -/
import Derived.Test.YtoammbjnejdgpaaLeD
namespace Go.Proofs.Ytoammbjnejdgpaa
open Go.RowKit
set_option maxHeartbeats 2000000 in
set_option maxRecDepth 10000 in
theorem rlines_any (acc : Int) (A : Option Addr) (n c : Nat) (l : List Ln) (x y : Int) (w : World) (h : Reads w w.heap.size 2 A n (cellsLn l)) (hn : n ≤ 16) (hy : lnsErr acc l = y) (hx : (if lnsErr acc l = 0 then lnSum l else 0) = x) : Calls Try.prog 40 #[.int .i64 acc, .slice A n c] w fun e w' => e = .returned (.tuple #[.int .i64 x, .int .i64 y]) ∧ w = w' := by
  have HR := Lib.hid h; have HY := Lib.hid hy; have HX := Lib.hid hx
  have HL := Lib.hid (recs_len h encLn_len (by omega))
  clear h hy hx
  go_enter Try.func40, Try.ntmps40
  go_wp2_with fail
  go_loop [6, 7] (fun s1 s2 => ∃ (k : Nat) (S : Int), k ≤ n ∧ s1 = .int .i64 S ∧ s2 = .int .i64 k ∧ Hid (lnSum (l.take k) = S) ∧ Hid (∀ j (hj : j < l.length), j < k → lnErr acc l[j] = 0) ∧ -1000000000000 * (k : Int) ≤ S ∧ S ≤ 1000000000000 * (k : Int)) (fun _ s => n - (intOf s).toNat)
  case atStart => exact ⟨0, 0, Nat.zero_le _, rfl, rfl, Lib.hid rfl, Lib.hid (fun _ _ h => absurd h (Nat.not_lt_zero _)), by omega, by omega⟩
  case round =>
    obtain ⟨k, S, hk, rfl, rfl, HS, HA, hS1, hS2⟩ := hrel
    by_cases hlt : k < n
    · have hkl : k < l.length := by have := HL.out; omega
      obtain ⟨b, off, rfl, hb, hc⟩ := ln_cells HR.out (by omega)
      obtain ⟨d0, d1⟩ := hc k hkl
      have hk1 : (k : Int) < n := by omega
      have hk0 : (0 : Int) ≤ k := by omega
      have HBAD : Hid (lnErr acc l[k] ≠ 0 → lnErr acc l[k] = y ∧ 0 = x) := Lib.hid fun h => by
        have e := lnsErr_bad hkl h HA.out
        have e2 : lnErr acc l[k] = y := by rw [← e, HY.out]
        exact ⟨e2, by rw [← HX.out, if_neg (by rw [e]; exact h)]⟩
      have HNX : Hid (lnErr acc l[k] = 0 → ∀ j (hj : j < l.length), j < k + 1 → lnErr acc l[j] = 0) := Lib.hid fun h j hj hjk => by
        rcases Nat.lt_or_eq_of_le (Nat.lt_succ_iff.1 hjk) with h' | rfl
        · exact HA.out j hj h'
        · exact h
      have HST := Lib.hid (lnSum_take hkl)
      obtain ⟨v, hv⟩ : ∃ v, l[k] = v := ⟨_, rfl⟩
      rw [hv] at d0 d1 HBAD HNX HST
      clear hc hv
      by_cases g0 : v.1 < 0 ∨ acc ≤ v.1
      · have e := lnErr_none g0
        have HB := Lib.hid (HBAD.out (by rw [e]; decide))
        rw [e] at HB
        have hcs : v.1 < 0 ∨ (0 ≤ v.1 ∧ acc ≤ v.1) := by omega
        clear g0 e
        rcases hcs with g0 | ⟨g0, g1⟩
        all_goals
          go_wp2_with fail
          go_ret2
          exact ⟨ret_ii HB.out.2 HB.out.1, rfl⟩
      have ga : 0 ≤ v.1 := by omega
      have gb : v.1 < acc := by omega
      by_cases g1 : v.2 = 0 ∨ v.2 < -1000000000000 ∨ 1000000000000 < v.2
      · have e := lnErr_amt g0 g1
        have HB := Lib.hid (HBAD.out (by rw [e]; decide))
        rw [e] at HB
        have hcs : (v.2 == 0) = true ∨ ((v.2 == 0) = false ∧ v.2 < -1000000000000) ∨ ((v.2 == 0) = false ∧ -1000000000000 ≤ v.2 ∧ 1000000000000 < v.2) := by simp; omega
        clear g0 g1 e
        rcases hcs with g0 | ⟨g0, g1⟩ | ⟨g0, g1, g2⟩
        all_goals
          go_wp2_with fail
          go_ret2
          exact ⟨ret_ii HB.out.2 HB.out.1, rfl⟩
      have gc : (v.2 == 0) = false := by simp; omega
      have gd : -1000000000000 ≤ v.2 := by omega
      have ge : v.2 ≤ 1000000000000 := by omega
      have HA2 := Lib.hid (HNX.out (lnErr_mk ⟨⟨ga, gb⟩, by omega, gd, ge⟩))
      have HS2 : Hid (lnSum (l.take (k + 1)) = S + v.2) := Lib.hid (by rw [HST.out, HS.out])
      have fw : IntKind.i64.wrap (S + v.2) = S + v.2 := IntWalk.i64_in _ (by omega)
      clear g0 g1
      go_wp2_with fail
      go_round
      case rel => exact ⟨k + 1, S + v.2, by omega, rfl, by go_num, HS2, HA2, by omega, by omega⟩
      case measure => simp [intOf]; omega
    · have hle : l.take k = l := List.take_of_length_le (by have := HL.out; omega)
      have e0 : lnsErr acc l = 0 := lnsErr_ok fun j hj => HA.out j hj (by have := HL.out; omega)
      have HY2 : Hid (0 = y) := Lib.hid (by rw [← HY.out, e0])
      have HX2 : Hid (S = x) := Lib.hid (by rw [← HX.out, if_pos e0, ← HS.out, hle])
      clear hle e0
      go_wp2_with fail
      go_ret2
      exact ⟨ret_ii HX2.out HY2.out, rfl⟩
/-- The reference's ledger and an error come back: as it was if there is an error, otherwise one posting more. -/
def RetRf (w : World) (G : Nat → Prop) (acc : Int) (ps : List Pg) (of_ : List Int) (ps' : List Pg) (of' : List Int) (E : Int) (e : Ending) (w' : World) : Prop :=
  Below w.heap.size w w' ∧ ∃ A n c Ao no co, e = .returned (.tuple #[.agg #[.int .i64 acc, .slice A n c, .slice Ao no co], .int .i64 E]) ∧ PsI w' G A n (if E = 0 then ps' else ps) ∧ RIn w' G 1 Ao no (cellsI (if E = 0 then of' else of_))
theorem radd_no {w v : World} {G : Nat → Prop} {acc E : Int} {ps ps' : List Pg} {of_ of' : List Int} {A Ao : Option Addr} {n c no co k : Nat} {x y z : Value} (hB : Below w.heap.size w v) (hk : w.heap.size ≤ k) (h1 : PsI w G A n ps) (h2 : RIn w G 1 Ao no (cellsI of_)) (hE : E ≠ 0) :
    RetRf w G acc ps of_ ps' of' E (.returned (.tuple #[.agg #[.int .i64 acc, .slice A n c, .slice Ao no co], .int .i64 E])) (((v.setCell ⟨k, 0, none⟩ x).setCell ⟨k, 1, none⟩ y).setCell ⟨k, 2, none⟩ z) := by
  have hb := ((hB.setCell (p := ⟨k, 0, none⟩) hk x).setCell (p := ⟨k, 1, none⟩) hk y).setCell (p := ⟨k, 2, none⟩) hk z
  exact ⟨hb, A, n, c, Ao, no, co, rfl, by rw [if_neg hE]; exact h1.below hb, by rw [if_neg hE]; exact h2.below hb⟩
theorem PsI.snoc {w w' : World} {G : Nat → Prop} {A A' : Option Addr} {n c' base : Nat} {ps : List Pg} {p : Pg} (h : PsI w G A n ps) (hb : Below w.heap.size w w') (ho : w'.ownsRow base 45 3 (.slice A' (n + 1) c') (n + 1) (cellsPg (ps ++ [p]))) (hG : ∀ j, base ≤ j → G j) (hp : RIn w G 2 p.A p.n (cellsLn p.ls)) (hn : p.n ≤ 16) : PsI w' G A' (n + 1) (ps ++ [p]) := by
  refine ⟨(RIn.of_own ho).mono fun k _ hk => hG k hk, fun q hq => ?_⟩
  rcases List.mem_append.1 hq with hq | hq
  · exact ⟨(h.2 q hq).1.below hb, (h.2 q hq).2⟩
  · obtain rfl := List.mem_singleton.1 hq
    exact ⟨hp.below hb, hn⟩
theorem last_at {ps : List Pg} {d : List Dt} (h : ps.map Pg.of = d.map Dt.of) (hk : ps.length - 1 < ps.length) : ps[ps.length - 1].tm = lastTm d := by
  have hl : ps.length = d.length := by simpa using congrArg List.length h
  have hd : d.length - 1 < d.length := by omega
  rw [lastTm_at hd]
  have := (of_at h (i := ps.length - 1) hk (by omega)).2.1
  rw [this]; congr 2; omega
end Go.Proofs.Ytoammbjnejdgpaa
