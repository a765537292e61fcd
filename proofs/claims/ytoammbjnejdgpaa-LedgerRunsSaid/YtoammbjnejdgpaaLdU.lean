/- The law's few. -/
import Derived.Test.YtoammbjnejdgpaaLdT
namespace Go.Proofs.Ytoammbjnejdgpaa
open Go.RowKit
def fewB (l : List Oc) : Bool := decide (l.length ≤ 60 ∧ ∀ o ∈ l, o.n ≤ 40)
theorem few_long {l : List Oc} (h : 60 < l.length) : fewB l = false := decide_eq_false fun e => by omega
theorem few_bad {l : List Oc} {k : Nat} (hk : k < l.length) (h : 40 < l[k].n) : fewB l = false := decide_eq_false fun e => by have := e.2 _ (List.getElem_mem hk); omega
theorem few_ok {l : List Oc} (h : l.length ≤ 60) (ha : ∀ j (hj : j < l.length), l[j].n ≤ 40) : fewB l = true := decide_eq_true ⟨h, fun o ho => by obtain ⟨j, hj, rfl⟩ := List.getElem_of_mem ho; exact ha j hj⟩
theorem few_t {l : List Oc} (h : fewB l = true) : l.length ≤ 60 ∧ ∀ o ∈ l, o.n ≤ 40 := of_decide_eq_true h
set_option maxHeartbeats 2000000 in
set_option maxRecDepth 10000 in
theorem few_any (acc : Int) (A : Option Addr) (n c : Nat) (l : List Oc) (x : Bool) (w : World) (hr : OsR w A n l) (hx : fewB l = x) : Calls Try.prog 17 #[.agg #[.int .i64 acc, .slice A n c]] w (RetB w x) := by
  obtain ⟨B0, hbx⟩ := box1 w 40 #[.int .i64 acc, .slice A n c]
  have HLEN := Lib.hid (recs_len hr.1 encOc_len (by omega))
  have HX := Lib.hid hx
  have HB0 := Lib.hid B0; have HBX := Lib.hid hbx; have HR := Lib.hid (hr.below hbx)
  have c0 := (B0.cell 0).trans rfl; have c1 := (B0.cell 1).trans rfl
  clear B0 hbx hr hx
  by_cases h : n ≤ 60
  case neg =>
    have HX2 : Hid (false = x) := Lib.hid (by rw [← HX.out, few_long (by have := HLEN.out; omega)])
    have h1 : (60 : Int) < n := by omega
    go_enter Try.func17, Try.ntmps17
    go_wp2_with fail
    go_ret
    exact ⟨ret_bool HX2.out, HBX.out⟩
  have h1 : (n : Int) ≤ 60 := by omega
  obtain ⟨w1, hw1⟩ : ∃ u, w.alloc (.cells #[.int .i64 acc, .slice A n c] 40) = u := ⟨_, rfl⟩
  rw [hw1] at c0 c1 HB0 HBX HR
  have HW1 := Lib.hid hw1
  clear hw1
  go_enter Try.func17, Try.ntmps17
  go_upto_region 1 with fail
  rw [HW1.out]
  go_wp2_with fail
  go_loop [3] (fun s => ∃ k : Nat, k ≤ n ∧ s = .int .i64 k ∧ Hid (∀ j (hj : j < l.length), j < k → l[j].n ≤ 40)) (fun s => n - (intOf s).toNat)
  case atStart => exact ⟨0, Nat.zero_le _, rfl, Lib.hid fun _ _ h => absurd h (Nat.not_lt_zero _)⟩
  case round =>
    obtain ⟨k, hk, rfl, HA⟩ := hrel
    by_cases hlt : k < n
    · have hkl : k < l.length := by have := HLEN.out; omega
      obtain ⟨b, off, rfl, hb, hc⟩ := HR.out.cells (by omega)
      obtain ⟨_, _, d2, _⟩ := hc k hkl
      have HBAD := Lib.hid (few_bad (l := l) hkl)
      have HNX : Hid (l[k].n ≤ 40 → ∀ j (hj : j < l.length), j < k + 1 → l[j].n ≤ 40) := Lib.hid fun e j hj hjk => by
        rcases Nat.lt_or_eq_of_le (Nat.lt_succ_iff.1 hjk) with h' | rfl
        · exact HA.out j hj h'
        · exact e
      obtain ⟨o, ho⟩ : ∃ o, l[k] = o := ⟨_, rfl⟩
      rw [ho] at d2 HBAD HNX
      have hk1 : (k : Int) < n := by omega
      have hk0 : (0 : Int) ≤ k := by omega
      clear hc ho
      by_cases h4 : o.n ≤ 40
      · have h5 : (o.n : Int) ≤ 40 := by omega
        have HN := Lib.hid (HNX.out h4)
        clear h4
        go_wp2_with fail
        go_round
        case rel => exact ⟨k + 1, by omega, by go_num, HN⟩
        case measure => simp [intOf]; omega
      · have h5 : (40 : Int) < o.n := by omega
        have HX2 : Hid (false = x) := Lib.hid (by rw [← HX.out, HBAD.out (by omega)])
        clear h4
        go_wp2_with fail
        go_ret
        exact ⟨ret_bool HX2.out, HBX.out⟩
    · have HX2 : Hid (true = x) := Lib.hid (by rw [← HX.out, few_ok (by have := HLEN.out; omega) fun j hj => HA.out j hj (by have := HLEN.out; omega)])
      go_wp2_with fail
      go_ret
      exact ⟨ret_bool HX2.out, HBX.out⟩
end Go.Proofs.Ytoammbjnejdgpaa
