/- The walk of the law LedgerNil. -/
import Derived.Test.YtoammbjnejdgpaaLdO
namespace Go.Proofs.Ytoammbjnejdgpaa
open Go.RowKit
set_option maxHeartbeats 4000000 in
set_option maxRecDepth 10000 in
theorem ledgerNil_walk (id tm : Int) (A : Option Addr) (n c : Nat) (a t : Int) (w : World) : Calls Try.prog 10 #[.agg #[.int .i64 id, .int .i64 tm, .slice A n c], .int .i64 a, .int .i64 t] w (RetB w true) := by
  obtain ⟨B0, hbx⟩ := box1 w 45 #[.int .i64 id, .int .i64 tm, .slice A n c]
  have HB0 := Lib.hid B0; have HBX := Lib.hid hbx
  have c0 := (B0.cell 0).trans rfl; have c1 := (B0.cell 1).trans rfl; have c2 := (B0.cell 2).trans rfl
  clear B0 hbx
  by_cases h : n ≤ 100
  case neg =>
    have h1 : (100 : Int) < n := by omega
    go_enter Try.func10, Try.ntmps10
    go_wp2_with fail
    refine (awake_any _).mono ?_
    rintro e w1 ⟨rfl, hb1⟩
    go_wp2_with fail
    go_ret
    exact ⟨rfl, below_next HBX.out (Nat.le_refl _) hb1⟩
  have h1 : (n : Int) ≤ 100 := by omega
  go_enter Try.func10, Try.ntmps10
  go_wp2_with fail
  refine (balance_nil a t _).mono ?_
  rintro e w1 ⟨rfl, rfl⟩
  go_wp2_with fail
  refine (post_nil id tm A n c _).mono ?_
  rintro e w2 ⟨rfl, hb2⟩
  have HB2 := Lib.hid (below_next HBX.out (Nat.le_refl _) hb2)
  clear hb2
  go_wp2_with fail
  refine (reverse_nil a t t _).mono ?_
  rintro e w3 ⟨rfl, hb3⟩
  have HB3 := Lib.hid (below_next HB2.out (Nat.le_refl _) hb3)
  clear hb3
  go_wp2_with fail
  refine (postings_nil _).mono ?_
  rintro e w4 ⟨rfl, rfl⟩
  go_wp2_with fail
  refine (copy_nil _).mono ?_
  rintro e w5 ⟨rfl, rfl⟩
  go_wp2_with fail
  refine (awake_any _).mono ?_
  rintro e w6 ⟨rfl, hb6⟩
  go_wp2_with fail
  go_ret
  exact ⟨rfl, below_next HB3.out (Nat.le_refl _) hb6⟩
end Go.Proofs.Ytoammbjnejdgpaa
