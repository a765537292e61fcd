/- ChargeDesks answers true for any calls: desks and their copies do what the reference's do. No condition. -/
import Derived.Test.YtakjdffebpcmnaaRows
import Derived.Test.YtakjdffebpcmnaaOpen
import Derived.Test.YtakjdffebpcmnaaLawsF
namespace Go.Proofs.Ytakjdffebpcmnaa
open Go.ChangeShapes Go.WideShapes Go.ChangeAt Go.RowKit
open Go.ChangeMaps (open_string shut_string)
set_option maxRecDepth 100000 in
theorem chargeDesks_lifted (os : Os) (started : os.Started) (H : Type) (enc : TypeId × Value → H) :
    ReturnsInHanded {} Try.checked os 5 .any (Rows.chargeDesksSpec.pre6 enc Try.prog Try.f5 Rows.chargeDesksRow.domain false) (Rows.chargeDesksSpec.post enc Try.prog Try.f5 false true false false) := by
  refine returnsInHanded_of_change (C := Try.checked) own started (by kernel_rfl) Try.func5
    (ChangeSpec.witness6 (enc := enc) (C := Try.checked) false ⟨#[], #[.slice none 0 0], []⟩ 8 (by kernel_rfl) (by kernel_rfl) (by kernel_rfl) (by kernel_rfl)) ?_
  intro W base args ds gs before hval0 hW _ _
  have hval : ∀ (j : Nat) t v, Try.f5.params[j]? = some t → args[j]? = some v → Value.okWide Try.prog W .any base t v := hval0
  have hW' := hW
  obtain ⟨p, q, hA0, hV, rfl, hfz, hnd⟩ := hW
  have hA : DataW.TrodAll enc Try.prog W 0 (fun _ => true) true Try.f5.params.toList args.toList ds p := hA0
  rw [Try.params5] at hA hval
  obtain ⟨v0, vs0, d0, ds0, p0, q0, hargs, rfl, rfl, h0, r0⟩ := trodAll_cons hA
  obtain ⟨rfl, rfl, rfl⟩ := trodAll_nil r0
  obtain rfl : args = #[v0] := by cases args; simp_all
  obtain ⟨rfl, rfl⟩ := trodVars_none hV
  obtain ⟨Al, nl, cl, l, rfl, hrl, hnl, hcl, hwl⟩ := open_ops (hval 0 33 v0 rfl rfl) h0
  clear hA0 hval0 hval
  refine (chargeDesks_walk Al nl cl l W hrl hnl hcl hwl).mono fun e W' ⟨he, hb⟩ => ?_
  exact law_post (P := Try.prog) laidOut (by kernel_rfl) rfl Try.underlying4 hW' rfl rfl rfl rfl he hb

theorem chargeDesks_holds : Rows.ChargeDesksSaid :=
  OpenClaim.holds_of_wide 5 Try.f5 rfl rfl rfl rfl rfl rfl rfl ⟨rfl, rfl, rfl, rfl, rfl⟩ rfl rfl rfl rfl rfl (by kernel_rfl) Try.func5 (by kernel_rfl)
    (of_decide_eq_true (by kernel_rfl)) (by unfold Func.isWrapper; first | (rw [if_pos (by decide +kernel)]; kernel_rfl) | (rw [if_neg (by decide +kernel)]; exact ⟨rfl, rfl⟩))
    (fun os started H enc _ => chargeDesks_lifted os started H enc)
#print axioms chargeDesks_holds
end Go.Proofs.Ytakjdffebpcmnaa
