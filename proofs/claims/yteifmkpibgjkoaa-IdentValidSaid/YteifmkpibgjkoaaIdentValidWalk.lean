/- The walk of IdentValid. -/
import Derived.Test.YteifmkpibgjkoaaAwake
namespace Go.Proofs.Yteifmkpibgjkoaa
open Go.RowKit
set_option maxHeartbeats 400000 in
set_option maxRecDepth 10000 in
theorem identValid_walk (s : ByteArray) (hs : s.size ≤ maxLen) (w : World) : Calls Try.prog 3 #[.string s] w (AwakePost w) := by
  have hm : s.size ≤ 9223372036854775807 := hs
  have HM := Lib.hid hm
  clear hm
  by_cases h : 200 < s.size
  · go_enter Try.func3, Try.ntmps3
    go_wp2_with fail
    refine (awake_any _).mono ?_
    rintro e w1 ⟨rfl, hb⟩
    go_wp2_with fail
    go_ret
    exact ⟨rfl, hb⟩
  · go_enter Try.func3, Try.ntmps3
    go_wp2_with fail
    refine (valid_any s hs _).mono ?_
    rintro e w1 ⟨rfl, rfl⟩
    go_wp2_with fail
    refine (rvalid_any s hs _).mono ?_
    rintro e w1 ⟨rfl, nq, rfl⟩
    go_wp2_with fail
    refine (awake_any _).mono ?_
    rintro e w1 ⟨rfl, hb⟩
    go_wp2_with fail
    go_ret
    exact ⟨rfl, (below_drewN (Below.refl _ _) nq).trans hb⟩
end Go.Proofs.Yteifmkpibgjkoaa
