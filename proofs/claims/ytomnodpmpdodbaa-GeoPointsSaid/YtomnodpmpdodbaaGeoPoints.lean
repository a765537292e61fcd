/- GeoPoints answers true for any polygon: the area is in the numbers of the points inside and on the edges. No condition. -/
import Derived.Test.YtomnodpmpdodbaaRows
import Derived.Test.YtomnodpmpdodbaaTenOpen
import Derived.Test.YtomnodpmpdodbaaTenPts
namespace Go.Proofs.Ytomnodpmpdodbaa
open Go.ChangeShapes Go.WideShapes Go.ChangeAt Go.RowKit
open Go.ChangeMaps (open_string shut_string)
set_option maxRecDepth 100000 in
theorem geoPoints_lifted (os : Os) (started : os.Started) (H : Type) (enc : TypeId × Value → H) :
    ReturnsInHanded {} Try.checked os 8 .any (Rows.geoPointsSpec.pre6 enc Try.prog Try.f8 Rows.geoPointsRow.domain false) (Rows.geoPointsSpec.post enc Try.prog Try.f8 false true false false) := by
  refine returnsInHanded_of_change (C := Try.checked) own started (by kernel_rfl) Try.func8
    (ChangeSpec.witness6 (enc := enc) (C := Try.checked) false ⟨#[], #[.slice none 0 0], []⟩ 8 (by kernel_rfl) (by kernel_rfl) (by kernel_rfl) (by kernel_rfl)) ?_
  intro W base args ds gs before hval0 hW _ _
  have hval : ∀ (j : Nat) t v, Try.f8.params[j]? = some t → args[j]? = some v → Value.okWide Try.prog W .any base t v := hval0
  have hW' := hW
  obtain ⟨p, q, hA0, hV, rfl, hfz, hnd⟩ := hW
  have hA : DataW.TrodAll enc Try.prog W 0 (fun _ => true) true Try.f8.params.toList args.toList ds p := hA0
  rw [Try.params8] at hA hval
  obtain ⟨v0, vs0, d0, ds0, p0, q0, hargs, rfl, rfl, h0, r0⟩ := trodAll_cons hA
  obtain ⟨rfl, rfl, rfl⟩ := trodAll_nil r0
  obtain rfl : args = #[v0] := by cases args; simp_all
  obtain ⟨rfl, rfl⟩ := trodVars_none hV
  obtain ⟨Al, nl, cl, p_, rfl, hrl, hnl, hcl⟩ := open_poly (hval 0 28 v0 rfl rfl) h0
  clear hA0 hval0 hval
  refine (geoPoints_walk Al nl cl p_ W hrl hnl hcl).mono fun e W' ⟨he, hb⟩ => ?_
  exact law_post (P := Try.prog) laidOut (by kernel_rfl) rfl Try.underlying4 hW' rfl rfl rfl rfl he hb

theorem geoPoints_holds : Rows.GeoPointsSaid :=
  OpenClaim.holds_of_wide 8 Try.f8 rfl rfl rfl rfl rfl rfl rfl ⟨rfl, rfl, rfl, rfl, rfl⟩ rfl rfl rfl rfl rfl (by kernel_rfl) Try.func8 (by kernel_rfl)
    (of_decide_eq_true (by kernel_rfl)) (by unfold Func.isWrapper; first | (rw [if_pos (by decide +kernel)]; kernel_rfl) | (rw [if_neg (by decide +kernel)]; exact ⟨rfl, rfl⟩))
    (fun os started H enc _ => geoPoints_lifted os started H enc)
#print axioms geoPoints_holds
end Go.Proofs.Ytomnodpmpdodbaa
