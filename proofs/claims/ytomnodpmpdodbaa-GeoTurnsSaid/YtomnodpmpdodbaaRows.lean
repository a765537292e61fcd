/-
  No cell of these rows narrows 'for every input' (looked for: loops, veiled, ifaces, maps, wideKeys, modest, calm, conditions, laid).
  DERIVED. THE GIVEN ROWS OF THIS SEAT. 8 by the template 'for every input the law returns true; each argument reads behind the call as it read before'; 0 by the template 'total and deterministic' (their statements: YtomnodpmpdodbaaTotals.lean).
  GIVEN WITH THE SEED: the statements are not yours to turn. If you find one false, say at which input.
  Laid BY PROGRAM, IN A SANDBOX (cutbox-rows.mjs): the forced cells as the released guide's own fill.sh prints them over the translation 628990fd4aa50b76… (all of the seat's roots in one cut). By AI agents, Wed Nov 11 2026. No macro, syntax, notation, axiom, sorry.
-/
import Derived.Test.YtomnodpmpdodbaaChecked
import GoSem.Claim
import GoSem.ClaimJoined
import GoSem.ClaimMapViews
import Derived.JoinedTies
import Derived.KernelRfl
namespace Go.Proofs.Ytomnodpmpdodbaa
/- THE CELL 'sum', in the pinned program and in every row, IS THE sha256 OF THE DUMP (.gsa) THAT YtomnodpmpdodbaaProg.lean LOADS. Nothing in Lean hashes anything: it is a label: what it is worth is what the hold of that sum in a sandbox is worth. -/
noncomputable def Try.pinned : Pinned := { name := "ytomnodpmpdodbaa", sum := "628990fd4aa50b76787566064eddca541c13e1b2ee83e28d783a49c13424f5c0", checked := Try.checked }
namespace Rows
def none {H : Type} : Left H := { results := [], args := [] }

/-- 'bikesharelaw10.GeoSides': WHATEVER THE INPUT: true; the input reads as it did. -/
def geoSidesSpec : ChangeSpec := { name := "geoSides", fn := fun _ => fun
  | [d1, d2, d3] => { results := [.lit (.bool true)], args := [d1, d2, d3] }
  | _ => none }
def geoSidesRow : OpenClaim := { program := "ytomnodpmpdodbaa", sum := "628990fd4aa50b76787566064eddca541c13e1b2ee83e28d783a49c13424f5c0", func := "bikeshare/bikesharelaw10.GeoSides", spec := "geoSides", apart := false }
def GeoSidesSaid : Prop := geoSidesRow.holds Try.pinned (OpenSpec.ofChange geoSidesSpec)

/-- ITS FALSE NEIGHBOUR: 'it returns false'. Refute it at one input. -/
def geoSidesWrong : ChangeSpec := { name := "geoSides", fn := fun _ => fun
  | [d1, d2, d3] => { results := [.lit (.bool false)], args := [d1, d2, d3] }
  | _ => none }
def GeoSidesWrongFalsely : Prop := geoSidesRow.holds Try.pinned (OpenSpec.ofChange geoSidesWrong)

/-- 'bikesharelaw10.GeoChecks': WHATEVER THE INPUT: true; the input reads as it did. -/
def geoChecksSpec : ChangeSpec := { name := "geoChecks", fn := fun _ => fun
  | [d] => { results := [.lit (.bool true)], args := [d] }
  | _ => none }
def geoChecksRow : OpenClaim := { program := "ytomnodpmpdodbaa", sum := "628990fd4aa50b76787566064eddca541c13e1b2ee83e28d783a49c13424f5c0", func := "bikeshare/bikesharelaw10.GeoChecks", spec := "geoChecks", apart := false }
def GeoChecksSaid : Prop := geoChecksRow.holds Try.pinned (OpenSpec.ofChange geoChecksSpec)

/-- ITS FALSE NEIGHBOUR: 'it returns false'. Refute it at one input. -/
def geoChecksWrong : ChangeSpec := { name := "geoChecks", fn := fun _ => fun
  | [d] => { results := [.lit (.bool false)], args := [d] }
  | _ => none }
def GeoChecksWrongFalsely : Prop := geoChecksRow.holds Try.pinned (OpenSpec.ofChange geoChecksWrong)

/-- 'bikesharelaw10.GeoInsides': WHATEVER THE INPUT: true; the input reads as it did. -/
def geoInsidesSpec : ChangeSpec := { name := "geoInsides", fn := fun _ => fun
  | [d1, d2] => { results := [.lit (.bool true)], args := [d1, d2] }
  | _ => none }
def geoInsidesRow : OpenClaim := { program := "ytomnodpmpdodbaa", sum := "628990fd4aa50b76787566064eddca541c13e1b2ee83e28d783a49c13424f5c0", func := "bikeshare/bikesharelaw10.GeoInsides", spec := "geoInsides", apart := false }
def GeoInsidesSaid : Prop := geoInsidesRow.holds Try.pinned (OpenSpec.ofChange geoInsidesSpec)

/-- ITS FALSE NEIGHBOUR: 'it returns false'. Refute it at one input. -/
def geoInsidesWrong : ChangeSpec := { name := "geoInsides", fn := fun _ => fun
  | [d1, d2] => { results := [.lit (.bool false)], args := [d1, d2] }
  | _ => none }
def GeoInsidesWrongFalsely : Prop := geoInsidesRow.holds Try.pinned (OpenSpec.ofChange geoInsidesWrong)

/-- 'bikesharelaw10.GeoDiscs': WHATEVER THE INPUT: true; the input reads as it did. -/
def geoDiscsSpec : ChangeSpec := { name := "geoDiscs", fn := fun _ => fun
  | [d1, d2, d3] => { results := [.lit (.bool true)], args := [d1, d2, d3] }
  | _ => none }
def geoDiscsRow : OpenClaim := { program := "ytomnodpmpdodbaa", sum := "628990fd4aa50b76787566064eddca541c13e1b2ee83e28d783a49c13424f5c0", func := "bikeshare/bikesharelaw10.GeoDiscs", spec := "geoDiscs", apart := false }
def GeoDiscsSaid : Prop := geoDiscsRow.holds Try.pinned (OpenSpec.ofChange geoDiscsSpec)

/-- ITS FALSE NEIGHBOUR: 'it returns false'. Refute it at one input. -/
def geoDiscsWrong : ChangeSpec := { name := "geoDiscs", fn := fun _ => fun
  | [d1, d2, d3] => { results := [.lit (.bool false)], args := [d1, d2, d3] }
  | _ => none }
def GeoDiscsWrongFalsely : Prop := geoDiscsRow.holds Try.pinned (OpenSpec.ofChange geoDiscsWrong)

/-- 'bikesharelaw10.GeoTurns': WHATEVER THE INPUT: true; the input reads as it did. -/
def geoTurnsSpec : ChangeSpec := { name := "geoTurns", fn := fun _ => fun
  | [d1, d2, d3] => { results := [.lit (.bool true)], args := [d1, d2, d3] }
  | _ => none }
def geoTurnsRow : OpenClaim := { program := "ytomnodpmpdodbaa", sum := "628990fd4aa50b76787566064eddca541c13e1b2ee83e28d783a49c13424f5c0", func := "bikeshare/bikesharelaw10.GeoTurns", spec := "geoTurns", apart := false }
def GeoTurnsSaid : Prop := geoTurnsRow.holds Try.pinned (OpenSpec.ofChange geoTurnsSpec)

/-- ITS FALSE NEIGHBOUR: 'it returns false'. Refute it at one input. -/
def geoTurnsWrong : ChangeSpec := { name := "geoTurns", fn := fun _ => fun
  | [d1, d2, d3] => { results := [.lit (.bool false)], args := [d1, d2, d3] }
  | _ => none }
def GeoTurnsWrongFalsely : Prop := geoTurnsRow.holds Try.pinned (OpenSpec.ofChange geoTurnsWrong)

/-- 'bikesharelaw10.GeoPoints': WHATEVER THE INPUT: true; the input reads as it did. -/
def geoPointsSpec : ChangeSpec := { name := "geoPoints", fn := fun _ => fun
  | [d] => { results := [.lit (.bool true)], args := [d] }
  | _ => none }
def geoPointsRow : OpenClaim := { program := "ytomnodpmpdodbaa", sum := "628990fd4aa50b76787566064eddca541c13e1b2ee83e28d783a49c13424f5c0", func := "bikeshare/bikesharelaw10.GeoPoints", spec := "geoPoints", apart := false }
def GeoPointsSaid : Prop := geoPointsRow.holds Try.pinned (OpenSpec.ofChange geoPointsSpec)

/-- ITS FALSE NEIGHBOUR: 'it returns false'. Refute it at one input. -/
def geoPointsWrong : ChangeSpec := { name := "geoPoints", fn := fun _ => fun
  | [d] => { results := [.lit (.bool false)], args := [d] }
  | _ => none }
def GeoPointsWrongFalsely : Prop := geoPointsRow.holds Try.pinned (OpenSpec.ofChange geoPointsWrong)

/-- 'bikesharelaw10.GeoDisc': WHATEVER THE INPUT: true; the input reads as it did. -/
def geoDiscSpec : ChangeSpec := { name := "geoDisc", fn := fun _ => fun
  | [d1, d2, d3] => { results := [.lit (.bool true)], args := [d1, d2, d3] }
  | _ => none }
def geoDiscRow : OpenClaim := { program := "ytomnodpmpdodbaa", sum := "628990fd4aa50b76787566064eddca541c13e1b2ee83e28d783a49c13424f5c0", func := "bikeshare/bikesharelaw10.GeoDisc", spec := "geoDisc", apart := false }
def GeoDiscSaid : Prop := geoDiscRow.holds Try.pinned (OpenSpec.ofChange geoDiscSpec)

/-- ITS FALSE NEIGHBOUR: 'it returns false'. Refute it at one input. -/
def geoDiscWrong : ChangeSpec := { name := "geoDisc", fn := fun _ => fun
  | [d1, d2, d3] => { results := [.lit (.bool false)], args := [d1, d2, d3] }
  | _ => none }
def GeoDiscWrongFalsely : Prop := geoDiscRow.holds Try.pinned (OpenSpec.ofChange geoDiscWrong)

/-- 'bikesharelaw10.GeoLarger': WHATEVER THE INPUT: true; the input reads as it did. -/
def geoLargerSpec : ChangeSpec := { name := "geoLarger", fn := fun _ => fun
  | [d1, d2, d3] => { results := [.lit (.bool true)], args := [d1, d2, d3] }
  | _ => none }
def geoLargerRow : OpenClaim := { program := "ytomnodpmpdodbaa", sum := "628990fd4aa50b76787566064eddca541c13e1b2ee83e28d783a49c13424f5c0", func := "bikeshare/bikesharelaw10.GeoLarger", spec := "geoLarger", apart := false }
def GeoLargerSaid : Prop := geoLargerRow.holds Try.pinned (OpenSpec.ofChange geoLargerSpec)

/-- ITS FALSE NEIGHBOUR: 'it returns false'. Refute it at one input. -/
def geoLargerWrong : ChangeSpec := { name := "geoLarger", fn := fun _ => fun
  | [d1, d2, d3] => { results := [.lit (.bool false)], args := [d1, d2, d3] }
  | _ => none }
def GeoLargerWrongFalsely : Prop := geoLargerRow.holds Try.pinned (OpenSpec.ofChange geoLargerWrong)

/- THE SECOND FORM. 'bulk': how many values and letters a reading holds, each counted each time it is reached (what is shared counts as often as it is met; a slice's spare places count too). A statement '..UptoSaid' is the law's where the arguments, and the package variables that the reading takes, are together of bulk at most 1048576: NARROWER than '..Said'. Prove '..Said' where nothing that the law and all that it calls make is longer than what came in: it says more and counts as full. Else prove '..UptoSaid'. A law counts once. -/
mutual
def uptoBulk {H : Type} : DataW H → Nat
  | .lit (.string bytes) => bytes.length + 1
  | .lit _ => 1
  | .nil => 1
  | .ptr d => uptoBulk d + 1
  | .slice elems spare => uptoBulkAll elems + uptoBulkAll spare + 1
  | .agg parts => uptoBulkAll parts + 1
  | .iface _ d => uptoBulk d + 1
  | .map entries => uptoBulkEntries entries + 1
  | .held _ => 1
def uptoBulkAll {H : Type} : List (DataW H) → Nat
  | [] => 0
  | d :: r => uptoBulk d + uptoBulkAll r
def uptoBulkEntries {H : Type} : List (Lit × DataW H) → Nat
  | [] => 0
  | x :: r => uptoBulkEntry x + uptoBulkEntries r
def uptoBulkEntry {H : Type} : Lit × DataW H → Nat
  | (.string bytes, d) => bytes.length + uptoBulk d + 1
  | (_, d) => uptoBulk d + 1
 end
def uptoSmall : (H : Type) → List (DataW H) → Bool := fun _ ds => decide (uptoBulkAll ds ≤ 1048576)
def OpenSpec.upto (s : _root_.Go.ChangeSpec) : _root_.Go.OpenSpec := { _root_.Go.OpenSpec.ofChange s with cond := some uptoSmall }

/-- 'bikesharelaw10.GeoSides', WHERE WHAT IT READS IS OF BULK AT MOST 1048576: true; the input reads as it did. -/
def geoSidesUptoRow : OpenClaim := { program := "ytomnodpmpdodbaa", sum := "628990fd4aa50b76787566064eddca541c13e1b2ee83e28d783a49c13424f5c0", func := "bikeshare/bikesharelaw10.GeoSides", spec := "geoSides", apart := false, narrowed := true }
def GeoSidesUptoSaid : Prop := geoSidesUptoRow.holds Try.pinned (OpenSpec.upto geoSidesSpec)

/-- 'bikesharelaw10.GeoChecks', WHERE WHAT IT READS IS OF BULK AT MOST 1048576: true; the input reads as it did. -/
def geoChecksUptoRow : OpenClaim := { program := "ytomnodpmpdodbaa", sum := "628990fd4aa50b76787566064eddca541c13e1b2ee83e28d783a49c13424f5c0", func := "bikeshare/bikesharelaw10.GeoChecks", spec := "geoChecks", apart := false, narrowed := true }
def GeoChecksUptoSaid : Prop := geoChecksUptoRow.holds Try.pinned (OpenSpec.upto geoChecksSpec)

/-- 'bikesharelaw10.GeoInsides', WHERE WHAT IT READS IS OF BULK AT MOST 1048576: true; the input reads as it did. -/
def geoInsidesUptoRow : OpenClaim := { program := "ytomnodpmpdodbaa", sum := "628990fd4aa50b76787566064eddca541c13e1b2ee83e28d783a49c13424f5c0", func := "bikeshare/bikesharelaw10.GeoInsides", spec := "geoInsides", apart := false, narrowed := true }
def GeoInsidesUptoSaid : Prop := geoInsidesUptoRow.holds Try.pinned (OpenSpec.upto geoInsidesSpec)

/-- 'bikesharelaw10.GeoDiscs', WHERE WHAT IT READS IS OF BULK AT MOST 1048576: true; the input reads as it did. -/
def geoDiscsUptoRow : OpenClaim := { program := "ytomnodpmpdodbaa", sum := "628990fd4aa50b76787566064eddca541c13e1b2ee83e28d783a49c13424f5c0", func := "bikeshare/bikesharelaw10.GeoDiscs", spec := "geoDiscs", apart := false, narrowed := true }
def GeoDiscsUptoSaid : Prop := geoDiscsUptoRow.holds Try.pinned (OpenSpec.upto geoDiscsSpec)

/-- 'bikesharelaw10.GeoTurns', WHERE WHAT IT READS IS OF BULK AT MOST 1048576: true; the input reads as it did. -/
def geoTurnsUptoRow : OpenClaim := { program := "ytomnodpmpdodbaa", sum := "628990fd4aa50b76787566064eddca541c13e1b2ee83e28d783a49c13424f5c0", func := "bikeshare/bikesharelaw10.GeoTurns", spec := "geoTurns", apart := false, narrowed := true }
def GeoTurnsUptoSaid : Prop := geoTurnsUptoRow.holds Try.pinned (OpenSpec.upto geoTurnsSpec)

/-- 'bikesharelaw10.GeoPoints', WHERE WHAT IT READS IS OF BULK AT MOST 1048576: true; the input reads as it did. -/
def geoPointsUptoRow : OpenClaim := { program := "ytomnodpmpdodbaa", sum := "628990fd4aa50b76787566064eddca541c13e1b2ee83e28d783a49c13424f5c0", func := "bikeshare/bikesharelaw10.GeoPoints", spec := "geoPoints", apart := false, narrowed := true }
def GeoPointsUptoSaid : Prop := geoPointsUptoRow.holds Try.pinned (OpenSpec.upto geoPointsSpec)

/-- 'bikesharelaw10.GeoDisc', WHERE WHAT IT READS IS OF BULK AT MOST 1048576: true; the input reads as it did. -/
def geoDiscUptoRow : OpenClaim := { program := "ytomnodpmpdodbaa", sum := "628990fd4aa50b76787566064eddca541c13e1b2ee83e28d783a49c13424f5c0", func := "bikeshare/bikesharelaw10.GeoDisc", spec := "geoDisc", apart := false, narrowed := true }
def GeoDiscUptoSaid : Prop := geoDiscUptoRow.holds Try.pinned (OpenSpec.upto geoDiscSpec)

/-- 'bikesharelaw10.GeoLarger', WHERE WHAT IT READS IS OF BULK AT MOST 1048576: true; the input reads as it did. -/
def geoLargerUptoRow : OpenClaim := { program := "ytomnodpmpdodbaa", sum := "628990fd4aa50b76787566064eddca541c13e1b2ee83e28d783a49c13424f5c0", func := "bikeshare/bikesharelaw10.GeoLarger", spec := "geoLarger", apart := false, narrowed := true }
def GeoLargerUptoSaid : Prop := geoLargerUptoRow.holds Try.pinned (OpenSpec.upto geoLargerSpec)

end Rows
end Go.Proofs.Ytomnodpmpdodbaa
