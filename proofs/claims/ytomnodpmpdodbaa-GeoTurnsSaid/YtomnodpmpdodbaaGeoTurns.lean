/- GeoTurns answers true for any polygon, point and first corner: results depend neither on the first corner nor on turns; the opposite order is an error. No condition. -/
import Derived.Test.YtomnodpmpdodbaaRows
import Derived.Test.YtomnodpmpdodbaaTenOpen
import Derived.Test.YtomnodpmpdodbaaTenTurns
namespace Go.Proofs.Ytomnodpmpdodbaa
open Go.ChangeShapes Go.WideShapes Go.ChangeAt Go.RowKit
open Go.ChangeMaps (open_string shut_string)
set_option maxRecDepth 100000 in
theorem geoTurns_lifted (os : Os) (started : os.Started) (H : Type) (enc : TypeId × Value → H) :
    ReturnsInHanded {} Try.checked os 7 .any (Rows.geoTurnsSpec.pre6 enc Try.prog Try.f7 Rows.geoTurnsRow.domain false) (Rows.geoTurnsSpec.post enc Try.prog Try.f7 false true false false) := by
  refine returnsInHanded_of_change (C := Try.checked) own started (by kernel_rfl) Try.func7
    (ChangeSpec.witness6 (enc := enc) (C := Try.checked) false ⟨#[], #[.slice none 0 0, .agg #[.int .i64 0, .int .i64 0], .int .u8 0], []⟩ 8 (by kernel_rfl) (by kernel_rfl) (by kernel_rfl) (by kernel_rfl)) ?_
  intro W base args ds gs before hval0 hW _ _
  have hval : ∀ (j : Nat) t v, Try.f7.params[j]? = some t → args[j]? = some v → Value.okWide Try.prog W .any base t v := hval0
  have hW' := hW
  obtain ⟨p, q, hA0, hV, rfl, hfz, hnd⟩ := hW
  have hA : DataW.TrodAll enc Try.prog W 0 (fun _ => true) true Try.f7.params.toList args.toList ds p := hA0
  rw [Try.params7] at hA hval
  obtain ⟨v0, vs0, d0, ds0, p0, q0, hargs, rfl, rfl, h0, r0⟩ := trodAll_cons hA
  obtain ⟨v1, vs1, d1, ds1, p1, q1, rfl, rfl, rfl, h1, r1⟩ := trodAll_cons r0
  obtain ⟨v2, vs2, d2, ds2, p2, q2, rfl, rfl, rfl, h2, r2⟩ := trodAll_cons r1
  obtain ⟨rfl, rfl, rfl⟩ := trodAll_nil r2
  obtain rfl : args = #[v0, v1, v2] := by cases args; simp_all
  obtain ⟨rfl, rfl⟩ := trodVars_none hV
  obtain ⟨Al, nl, cl, p_, rfl, hrl, hnl, hcl, hrg⟩ := open_poly2 (hval 0 28 v0 rfl rfl) h0
  obtain ⟨a, rfl, hra⟩ := open_pt2 (hval 1 23 v1 rfl rfl) h1
  obtain ⟨fs, rfl, rfl, rfl, wfs⟩ := open_int Try.underlying5 (hval 2 5 v2 rfl rfl) h2
  clear hA0 hval0 hval
  refine (geoTurns_walk Al nl cl p_ a fs W hrl hnl hcl wfs hrg hra).mono fun e W' ⟨he, hb⟩ => ?_
  exact law_post (P := Try.prog) laidOut (by kernel_rfl) rfl Try.underlying4 hW' rfl rfl rfl rfl he hb

theorem geoTurns_holds : Rows.GeoTurnsSaid :=
  OpenClaim.holds_of_wide 7 Try.f7 rfl rfl rfl rfl rfl rfl rfl ⟨rfl, rfl, rfl, rfl, rfl⟩ rfl rfl rfl rfl rfl (by kernel_rfl) Try.func7 (by kernel_rfl)
    (of_decide_eq_true (by kernel_rfl)) (by unfold Func.isWrapper; first | (rw [if_pos (by decide +kernel)]; kernel_rfl) | (rw [if_neg (by decide +kernel)]; exact ⟨rfl, rfl⟩))
    (fun os started H enc _ => geoTurns_lifted os started H enc)
#print axioms geoTurns_holds
end Go.Proofs.Ytomnodpmpdodbaa
