/-
  No cell of these rows narrows 'for every input' (looked for: loops, veiled, ifaces, maps, wideKeys, modest, calm, conditions, laid).
  DERIVED. THE GIVEN ROWS OF THIS SEAT. 8 by the template 'for every input the law returns true; each argument reads behind the call as it read before'; 0 by the template 'total and deterministic' (their statements: YtpipojgfpilhdaaTotals.lean).
  GIVEN WITH THE SEED: the statements are not yours to turn. If you find one false, say at which input.
  Laid BY PROGRAM, IN A SANDBOX (cutbox-rows.mjs): the forced cells as the released guide's own fill.sh prints them over the translation 169aa484ab2c8639… (all of the seat's roots in one cut). By AI agents, Wed Nov 11 2026. No macro, syntax, notation, axiom, sorry.
-/
import Derived.Test.YtpipojgfpilhdaaChecked
import GoSem.Claim
import GoSem.ClaimJoined
import GoSem.ClaimMapViews
import Derived.JoinedTies
import Derived.KernelRfl
namespace Go.Proofs.Ytpipojgfpilhdaa
/- THE CELL 'sum', in the pinned program and in every row, IS THE sha256 OF THE DUMP (.gsa) THAT YtpipojgfpilhdaaProg.lean LOADS. Nothing in Lean hashes anything: it is a label: what it is worth is what the hold of that sum in a sandbox is worth. -/
noncomputable def Try.pinned : Pinned := { name := "ytpipojgfpilhdaa", sum := "169aa484ab2c8639ae02cb183566483ee3d50792156df5941ff0fad592856eb9", checked := Try.checked }
namespace Rows
def none {H : Type} : Left H := { results := [], args := [] }

/-- 'bikesharelaw31.PhotoChecks': WHATEVER THE INPUT: true; the input reads as it did. -/
def photoChecksSpec : ChangeSpec := { name := "photoChecks", fn := fun _ => fun
  | [d] => { results := [.lit (.bool true)], args := [d] }
  | _ => none }
def photoChecksRow : OpenClaim := { program := "ytpipojgfpilhdaa", sum := "169aa484ab2c8639ae02cb183566483ee3d50792156df5941ff0fad592856eb9", func := "bikeshare/bikesharelaw31.PhotoChecks", spec := "photoChecks", apart := false }
def PhotoChecksSaid : Prop := photoChecksRow.holds Try.pinned (OpenSpec.ofChange photoChecksSpec)

/-- ITS FALSE NEIGHBOUR: 'it returns false'. Refute it at one input. -/
def photoChecksWrong : ChangeSpec := { name := "photoChecks", fn := fun _ => fun
  | [d] => { results := [.lit (.bool false)], args := [d] }
  | _ => none }
def PhotoChecksWrongFalsely : Prop := photoChecksRow.holds Try.pinned (OpenSpec.ofChange photoChecksWrong)

/-- 'bikesharelaw31.PhotoMarks': WHATEVER THE INPUT: true; the input reads as it did. -/
def photoMarksSpec : ChangeSpec := { name := "photoMarks", fn := fun _ => fun
  | [d1, d2, d3] => { results := [.lit (.bool true)], args := [d1, d2, d3] }
  | _ => none }
def photoMarksRow : OpenClaim := { program := "ytpipojgfpilhdaa", sum := "169aa484ab2c8639ae02cb183566483ee3d50792156df5941ff0fad592856eb9", func := "bikeshare/bikesharelaw31.PhotoMarks", spec := "photoMarks", apart := false }
def PhotoMarksSaid : Prop := photoMarksRow.holds Try.pinned (OpenSpec.ofChange photoMarksSpec)

/-- ITS FALSE NEIGHBOUR: 'it returns false'. Refute it at one input. -/
def photoMarksWrong : ChangeSpec := { name := "photoMarks", fn := fun _ => fun
  | [d1, d2, d3] => { results := [.lit (.bool false)], args := [d1, d2, d3] }
  | _ => none }
def PhotoMarksWrongFalsely : Prop := photoMarksRow.holds Try.pinned (OpenSpec.ofChange photoMarksWrong)

/-- 'bikesharelaw31.PhotoRepeats': WHATEVER THE INPUT: true; the input reads as it did. -/
def photoRepeatsSpec : ChangeSpec := { name := "photoRepeats", fn := fun _ => fun
  | [d1, d2] => { results := [.lit (.bool true)], args := [d1, d2] }
  | _ => none }
def photoRepeatsRow : OpenClaim := { program := "ytpipojgfpilhdaa", sum := "169aa484ab2c8639ae02cb183566483ee3d50792156df5941ff0fad592856eb9", func := "bikeshare/bikesharelaw31.PhotoRepeats", spec := "photoRepeats", apart := false }
def PhotoRepeatsSaid : Prop := photoRepeatsRow.holds Try.pinned (OpenSpec.ofChange photoRepeatsSpec)

/-- ITS FALSE NEIGHBOUR: 'it returns false'. Refute it at one input. -/
def photoRepeatsWrong : ChangeSpec := { name := "photoRepeats", fn := fun _ => fun
  | [d1, d2] => { results := [.lit (.bool false)], args := [d1, d2] }
  | _ => none }
def PhotoRepeatsWrongFalsely : Prop := photoRepeatsRow.holds Try.pinned (OpenSpec.ofChange photoRepeatsWrong)

/-- 'bikesharelaw31.PhotoMetric': WHATEVER THE INPUT: true; the input reads as it did. -/
def photoMetricSpec : ChangeSpec := { name := "photoMetric", fn := fun _ => fun
  | [d1, d2, d3, d4, d5] => { results := [.lit (.bool true)], args := [d1, d2, d3, d4, d5] }
  | _ => none }
def photoMetricRow : OpenClaim := { program := "ytpipojgfpilhdaa", sum := "169aa484ab2c8639ae02cb183566483ee3d50792156df5941ff0fad592856eb9", func := "bikeshare/bikesharelaw31.PhotoMetric", spec := "photoMetric", apart := false }
def PhotoMetricSaid : Prop := photoMetricRow.holds Try.pinned (OpenSpec.ofChange photoMetricSpec)

/-- ITS FALSE NEIGHBOUR: 'it returns false'. Refute it at one input. -/
def photoMetricWrong : ChangeSpec := { name := "photoMetric", fn := fun _ => fun
  | [d1, d2, d3, d4, d5] => { results := [.lit (.bool false)], args := [d1, d2, d3, d4, d5] }
  | _ => none }
def PhotoMetricWrongFalsely : Prop := photoMetricRow.holds Try.pinned (OpenSpec.ofChange photoMetricWrong)

/-- 'bikesharelaw31.PhotoNegative': WHATEVER THE INPUT: true; the input reads as it did. -/
def photoNegativeSpec : ChangeSpec := { name := "photoNegative", fn := fun _ => fun
  | [d] => { results := [.lit (.bool true)], args := [d] }
  | _ => none }
def photoNegativeRow : OpenClaim := { program := "ytpipojgfpilhdaa", sum := "169aa484ab2c8639ae02cb183566483ee3d50792156df5941ff0fad592856eb9", func := "bikeshare/bikesharelaw31.PhotoNegative", spec := "photoNegative", apart := false }
def PhotoNegativeSaid : Prop := photoNegativeRow.holds Try.pinned (OpenSpec.ofChange photoNegativeSpec)

/-- ITS FALSE NEIGHBOUR: 'it returns false'. Refute it at one input. -/
def photoNegativeWrong : ChangeSpec := { name := "photoNegative", fn := fun _ => fun
  | [d] => { results := [.lit (.bool false)], args := [d] }
  | _ => none }
def PhotoNegativeWrongFalsely : Prop := photoNegativeRow.holds Try.pinned (OpenSpec.ofChange photoNegativeWrong)

/-- 'bikesharelaw31.PhotoLarge': WHATEVER THE INPUT: true; the input reads as it did. -/
def photoLargeSpec : ChangeSpec := { name := "photoLarge", fn := fun _ => fun
  | [d] => { results := [.lit (.bool true)], args := [d] }
  | _ => none }
def photoLargeRow : OpenClaim := { program := "ytpipojgfpilhdaa", sum := "169aa484ab2c8639ae02cb183566483ee3d50792156df5941ff0fad592856eb9", func := "bikeshare/bikesharelaw31.PhotoLarge", spec := "photoLarge", apart := false }
def PhotoLargeSaid : Prop := photoLargeRow.holds Try.pinned (OpenSpec.ofChange photoLargeSpec)

/-- ITS FALSE NEIGHBOUR: 'it returns false'. Refute it at one input. -/
def photoLargeWrong : ChangeSpec := { name := "photoLarge", fn := fun _ => fun
  | [d] => { results := [.lit (.bool false)], args := [d] }
  | _ => none }
def PhotoLargeWrongFalsely : Prop := photoLargeRow.holds Try.pinned (OpenSpec.ofChange photoLargeWrong)

/-- 'bikesharelaw31.PhotoDigests': WHATEVER THE INPUT: true; the input reads as it did. -/
def photoDigestsSpec : ChangeSpec := { name := "photoDigests", fn := fun _ => fun
  | [d] => { results := [.lit (.bool true)], args := [d] }
  | _ => none }
def photoDigestsRow : OpenClaim := { program := "ytpipojgfpilhdaa", sum := "169aa484ab2c8639ae02cb183566483ee3d50792156df5941ff0fad592856eb9", func := "bikeshare/bikesharelaw31.PhotoDigests", spec := "photoDigests", apart := false }
def PhotoDigestsSaid : Prop := photoDigestsRow.holds Try.pinned (OpenSpec.ofChange photoDigestsSpec)

/-- ITS FALSE NEIGHBOUR: 'it returns false'. Refute it at one input. -/
def photoDigestsWrong : ChangeSpec := { name := "photoDigests", fn := fun _ => fun
  | [d] => { results := [.lit (.bool false)], args := [d] }
  | _ => none }
def PhotoDigestsWrongFalsely : Prop := photoDigestsRow.holds Try.pinned (OpenSpec.ofChange photoDigestsWrong)

/-- 'bikesharelaw31.PhotoPairs': WHATEVER THE INPUT: true; the input reads as it did. -/
def photoPairsSpec : ChangeSpec := { name := "photoPairs", fn := fun _ => fun
  | [d1, d2] => { results := [.lit (.bool true)], args := [d1, d2] }
  | _ => none }
def photoPairsRow : OpenClaim := { program := "ytpipojgfpilhdaa", sum := "169aa484ab2c8639ae02cb183566483ee3d50792156df5941ff0fad592856eb9", func := "bikeshare/bikesharelaw31.PhotoPairs", spec := "photoPairs", apart := false }
def PhotoPairsSaid : Prop := photoPairsRow.holds Try.pinned (OpenSpec.ofChange photoPairsSpec)

/-- ITS FALSE NEIGHBOUR: 'it returns false'. Refute it at one input. -/
def photoPairsWrong : ChangeSpec := { name := "photoPairs", fn := fun _ => fun
  | [d1, d2] => { results := [.lit (.bool false)], args := [d1, d2] }
  | _ => none }
def PhotoPairsWrongFalsely : Prop := photoPairsRow.holds Try.pinned (OpenSpec.ofChange photoPairsWrong)

/- THE SECOND FORM. 'bulk': how many values and letters a reading holds, each counted each time it is reached (what is shared counts as often as it is met; a slice's spare places count too). A statement '..UptoSaid' is the law's where the arguments, and the package variables that the reading takes, are together of bulk at most 1048576: NARROWER than '..Said'. Prove '..Said' where nothing that the law and all that it calls make is longer than what came in: it says more and counts as full. Else prove '..UptoSaid'. A law counts once. -/
mutual
def uptoBulk {H : Type} : DataW H → Nat
  | .lit (.string bytes) => bytes.length + 1
  | .lit _ => 1
  | .nil => 1
  | .ptr d => uptoBulk d + 1
  | .slice elems spare => uptoBulkAll elems + uptoBulkAll spare + 1
  | .agg parts => uptoBulkAll parts + 1
  | .iface _ d => uptoBulk d + 1
  | .map entries => uptoBulkEntries entries + 1
  | .held _ => 1
def uptoBulkAll {H : Type} : List (DataW H) → Nat
  | [] => 0
  | d :: r => uptoBulk d + uptoBulkAll r
def uptoBulkEntries {H : Type} : List (Lit × DataW H) → Nat
  | [] => 0
  | x :: r => uptoBulkEntry x + uptoBulkEntries r
def uptoBulkEntry {H : Type} : Lit × DataW H → Nat
  | (.string bytes, d) => bytes.length + uptoBulk d + 1
  | (_, d) => uptoBulk d + 1
 end
def uptoSmall : (H : Type) → List (DataW H) → Bool := fun _ ds => decide (uptoBulkAll ds ≤ 1048576)
def OpenSpec.upto (s : _root_.Go.ChangeSpec) : _root_.Go.OpenSpec := { _root_.Go.OpenSpec.ofChange s with cond := some uptoSmall }

/-- 'bikesharelaw31.PhotoChecks', WHERE WHAT IT READS IS OF BULK AT MOST 1048576: true; the input reads as it did. -/
def photoChecksUptoRow : OpenClaim := { program := "ytpipojgfpilhdaa", sum := "169aa484ab2c8639ae02cb183566483ee3d50792156df5941ff0fad592856eb9", func := "bikeshare/bikesharelaw31.PhotoChecks", spec := "photoChecks", apart := false, narrowed := true }
def PhotoChecksUptoSaid : Prop := photoChecksUptoRow.holds Try.pinned (OpenSpec.upto photoChecksSpec)

/-- 'bikesharelaw31.PhotoMarks', WHERE WHAT IT READS IS OF BULK AT MOST 1048576: true; the input reads as it did. -/
def photoMarksUptoRow : OpenClaim := { program := "ytpipojgfpilhdaa", sum := "169aa484ab2c8639ae02cb183566483ee3d50792156df5941ff0fad592856eb9", func := "bikeshare/bikesharelaw31.PhotoMarks", spec := "photoMarks", apart := false, narrowed := true }
def PhotoMarksUptoSaid : Prop := photoMarksUptoRow.holds Try.pinned (OpenSpec.upto photoMarksSpec)

/-- 'bikesharelaw31.PhotoRepeats', WHERE WHAT IT READS IS OF BULK AT MOST 1048576: true; the input reads as it did. -/
def photoRepeatsUptoRow : OpenClaim := { program := "ytpipojgfpilhdaa", sum := "169aa484ab2c8639ae02cb183566483ee3d50792156df5941ff0fad592856eb9", func := "bikeshare/bikesharelaw31.PhotoRepeats", spec := "photoRepeats", apart := false, narrowed := true }
def PhotoRepeatsUptoSaid : Prop := photoRepeatsUptoRow.holds Try.pinned (OpenSpec.upto photoRepeatsSpec)

/-- 'bikesharelaw31.PhotoMetric', WHERE WHAT IT READS IS OF BULK AT MOST 1048576: true; the input reads as it did. -/
def photoMetricUptoRow : OpenClaim := { program := "ytpipojgfpilhdaa", sum := "169aa484ab2c8639ae02cb183566483ee3d50792156df5941ff0fad592856eb9", func := "bikeshare/bikesharelaw31.PhotoMetric", spec := "photoMetric", apart := false, narrowed := true }
def PhotoMetricUptoSaid : Prop := photoMetricUptoRow.holds Try.pinned (OpenSpec.upto photoMetricSpec)

/-- 'bikesharelaw31.PhotoNegative', WHERE WHAT IT READS IS OF BULK AT MOST 1048576: true; the input reads as it did. -/
def photoNegativeUptoRow : OpenClaim := { program := "ytpipojgfpilhdaa", sum := "169aa484ab2c8639ae02cb183566483ee3d50792156df5941ff0fad592856eb9", func := "bikeshare/bikesharelaw31.PhotoNegative", spec := "photoNegative", apart := false, narrowed := true }
def PhotoNegativeUptoSaid : Prop := photoNegativeUptoRow.holds Try.pinned (OpenSpec.upto photoNegativeSpec)

/-- 'bikesharelaw31.PhotoLarge', WHERE WHAT IT READS IS OF BULK AT MOST 1048576: true; the input reads as it did. -/
def photoLargeUptoRow : OpenClaim := { program := "ytpipojgfpilhdaa", sum := "169aa484ab2c8639ae02cb183566483ee3d50792156df5941ff0fad592856eb9", func := "bikeshare/bikesharelaw31.PhotoLarge", spec := "photoLarge", apart := false, narrowed := true }
def PhotoLargeUptoSaid : Prop := photoLargeUptoRow.holds Try.pinned (OpenSpec.upto photoLargeSpec)

/-- 'bikesharelaw31.PhotoDigests', WHERE WHAT IT READS IS OF BULK AT MOST 1048576: true; the input reads as it did. -/
def photoDigestsUptoRow : OpenClaim := { program := "ytpipojgfpilhdaa", sum := "169aa484ab2c8639ae02cb183566483ee3d50792156df5941ff0fad592856eb9", func := "bikeshare/bikesharelaw31.PhotoDigests", spec := "photoDigests", apart := false, narrowed := true }
def PhotoDigestsUptoSaid : Prop := photoDigestsUptoRow.holds Try.pinned (OpenSpec.upto photoDigestsSpec)

/-- 'bikesharelaw31.PhotoPairs', WHERE WHAT IT READS IS OF BULK AT MOST 1048576: true; the input reads as it did. -/
def photoPairsUptoRow : OpenClaim := { program := "ytpipojgfpilhdaa", sum := "169aa484ab2c8639ae02cb183566483ee3d50792156df5941ff0fad592856eb9", func := "bikeshare/bikesharelaw31.PhotoPairs", spec := "photoPairs", apart := false, narrowed := true }
def PhotoPairsUptoSaid : Prop := photoPairsUptoRow.holds Try.pinned (OpenSpec.upto photoPairsSpec)

end Rows
end Go.Proofs.Ytpipojgfpilhdaa
