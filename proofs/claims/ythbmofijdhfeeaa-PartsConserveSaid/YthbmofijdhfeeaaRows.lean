/-
  No cell of these rows narrows 'for every input' (looked for: loops, veiled, ifaces, maps, wideKeys, modest, calm, conditions, laid).
  DERIVED. THE GIVEN ROWS OF THIS SEAT. 7 by the template 'for every input the law returns true; each argument reads behind the call as it read before'; 0 by the template 'total and deterministic' (their statements: YthbmofijdhfeeaaTotals.lean).
  GIVEN WITH THE SEED: the statements are not yours to turn. If you find one false, say at which input.
  Laid BY PROGRAM, IN A SANDBOX (cutbox-rows.mjs): the forced cells as the released guide's own fill.sh prints them over the translation 2c7b42dbcab046ac… (all of the seat's roots in one cut). By AI agents, Wed Nov 11 2026. No macro, syntax, notation, axiom, sorry.
-/
import Derived.Test.YthbmofijdhfeeaaChecked
import GoSem.Claim
import GoSem.ClaimJoined
import GoSem.ClaimMapViews
import Derived.JoinedTies
import Derived.KernelRfl
namespace Go.Proofs.Ythbmofijdhfeeaa
/- THE CELL 'sum', in the pinned program and in every row, IS THE sha256 OF THE DUMP (.gsa) THAT YthbmofijdhfeeaaProg.lean LOADS. Nothing in Lean hashes anything: it is a label: what it is worth is what the hold of that sum in a sandbox is worth. -/
noncomputable def Try.pinned : Pinned := { name := "ythbmofijdhfeeaa", sum := "2c7b42dbcab046ac5391f13644609d4a765332f2cae54483faa7c40cb95d886c", checked := Try.checked }
namespace Rows
def none {H : Type} : Left H := { results := [], args := [] }

/-- 'bikesharelaw49.PartsNews': WHATEVER THE INPUT: true; the input reads as it did. -/
def partsNewsSpec : ChangeSpec := { name := "partsNews", fn := fun _ => fun
  | [d1, d2, d3] => { results := [.lit (.bool true)], args := [d1, d2, d3] }
  | _ => none }
def partsNewsRow : OpenClaim := { program := "ythbmofijdhfeeaa", sum := "2c7b42dbcab046ac5391f13644609d4a765332f2cae54483faa7c40cb95d886c", func := "bikeshare/bikesharelaw49.PartsNews", spec := "partsNews", apart := false }
def PartsNewsSaid : Prop := partsNewsRow.holds Try.pinned (OpenSpec.ofChange partsNewsSpec)

/-- ITS FALSE NEIGHBOUR: 'it returns false'. Refute it at one input. -/
def partsNewsWrong : ChangeSpec := { name := "partsNews", fn := fun _ => fun
  | [d1, d2, d3] => { results := [.lit (.bool false)], args := [d1, d2, d3] }
  | _ => none }
def PartsNewsWrongFalsely : Prop := partsNewsRow.holds Try.pinned (OpenSpec.ofChange partsNewsWrong)

/-- 'bikesharelaw49.PartsRuns': WHATEVER THE INPUT: true; the input reads as it did. -/
def partsRunsSpec : ChangeSpec := { name := "partsRuns", fn := fun _ => fun
  | [d1, d2, d3] => { results := [.lit (.bool true)], args := [d1, d2, d3] }
  | _ => none }
def partsRunsRow : OpenClaim := { program := "ythbmofijdhfeeaa", sum := "2c7b42dbcab046ac5391f13644609d4a765332f2cae54483faa7c40cb95d886c", func := "bikeshare/bikesharelaw49.PartsRuns", spec := "partsRuns", apart := false }
def PartsRunsSaid : Prop := partsRunsRow.holds Try.pinned (OpenSpec.ofChange partsRunsSpec)

/-- ITS FALSE NEIGHBOUR: 'it returns false'. Refute it at one input. -/
def partsRunsWrong : ChangeSpec := { name := "partsRuns", fn := fun _ => fun
  | [d1, d2, d3] => { results := [.lit (.bool false)], args := [d1, d2, d3] }
  | _ => none }
def PartsRunsWrongFalsely : Prop := partsRunsRow.holds Try.pinned (OpenSpec.ofChange partsRunsWrong)

/-- 'bikesharelaw49.PartsConserve': WHATEVER THE INPUT: true; the input reads as it did. -/
def partsConserveSpec : ChangeSpec := { name := "partsConserve", fn := fun _ => fun
  | [d] => { results := [.lit (.bool true)], args := [d] }
  | _ => none }
def partsConserveRow : OpenClaim := { program := "ythbmofijdhfeeaa", sum := "2c7b42dbcab046ac5391f13644609d4a765332f2cae54483faa7c40cb95d886c", func := "bikeshare/bikesharelaw49.PartsConserve", spec := "partsConserve", apart := false }
def PartsConserveSaid : Prop := partsConserveRow.holds Try.pinned (OpenSpec.ofChange partsConserveSpec)

/-- ITS FALSE NEIGHBOUR: 'it returns false'. Refute it at one input. -/
def partsConserveWrong : ChangeSpec := { name := "partsConserve", fn := fun _ => fun
  | [d] => { results := [.lit (.bool false)], args := [d] }
  | _ => none }
def PartsConserveWrongFalsely : Prop := partsConserveRow.holds Try.pinned (OpenSpec.ofChange partsConserveWrong)

/-- 'bikesharelaw49.PartsFirst': WHATEVER THE INPUT: true; the input reads as it did. -/
def partsFirstSpec : ChangeSpec := { name := "partsFirst", fn := fun _ => fun
  | [d1, d2, d3] => { results := [.lit (.bool true)], args := [d1, d2, d3] }
  | _ => none }
def partsFirstRow : OpenClaim := { program := "ythbmofijdhfeeaa", sum := "2c7b42dbcab046ac5391f13644609d4a765332f2cae54483faa7c40cb95d886c", func := "bikeshare/bikesharelaw49.PartsFirst", spec := "partsFirst", apart := false }
def PartsFirstSaid : Prop := partsFirstRow.holds Try.pinned (OpenSpec.ofChange partsFirstSpec)

/-- ITS FALSE NEIGHBOUR: 'it returns false'. Refute it at one input. -/
def partsFirstWrong : ChangeSpec := { name := "partsFirst", fn := fun _ => fun
  | [d1, d2, d3] => { results := [.lit (.bool false)], args := [d1, d2, d3] }
  | _ => none }
def PartsFirstWrongFalsely : Prop := partsFirstRow.holds Try.pinned (OpenSpec.ofChange partsFirstWrong)

/-- 'bikesharelaw49.PartsBack': WHATEVER THE INPUT: true; the input reads as it did. -/
def partsBackSpec : ChangeSpec := { name := "partsBack", fn := fun _ => fun
  | [d1, d2, d3, d4] => { results := [.lit (.bool true)], args := [d1, d2, d3, d4] }
  | _ => none }
def partsBackRow : OpenClaim := { program := "ythbmofijdhfeeaa", sum := "2c7b42dbcab046ac5391f13644609d4a765332f2cae54483faa7c40cb95d886c", func := "bikeshare/bikesharelaw49.PartsBack", spec := "partsBack", apart := false }
def PartsBackSaid : Prop := partsBackRow.holds Try.pinned (OpenSpec.ofChange partsBackSpec)

/-- ITS FALSE NEIGHBOUR: 'it returns false'. Refute it at one input. -/
def partsBackWrong : ChangeSpec := { name := "partsBack", fn := fun _ => fun
  | [d1, d2, d3, d4] => { results := [.lit (.bool false)], args := [d1, d2, d3, d4] }
  | _ => none }
def PartsBackWrongFalsely : Prop := partsBackRow.holds Try.pinned (OpenSpec.ofChange partsBackWrong)

/-- 'bikesharelaw49.PartsApart': WHATEVER THE INPUT: true; the input reads as it did. -/
def partsApartSpec : ChangeSpec := { name := "partsApart", fn := fun _ => fun
  | [d] => { results := [.lit (.bool true)], args := [d] }
  | _ => none }
def partsApartRow : OpenClaim := { program := "ythbmofijdhfeeaa", sum := "2c7b42dbcab046ac5391f13644609d4a765332f2cae54483faa7c40cb95d886c", func := "bikeshare/bikesharelaw49.PartsApart", spec := "partsApart", inPlace := ["maps.clone"], apart := false }
def PartsApartSaid : Prop := partsApartRow.holds Try.pinned (OpenSpec.ofChange partsApartSpec)

/-- ITS FALSE NEIGHBOUR: 'it returns false'. Refute it at one input. -/
def partsApartWrong : ChangeSpec := { name := "partsApart", fn := fun _ => fun
  | [d] => { results := [.lit (.bool false)], args := [d] }
  | _ => none }
def PartsApartWrongFalsely : Prop := partsApartRow.holds Try.pinned (OpenSpec.ofChange partsApartWrong)

/-- 'bikesharelaw49.PartsNil': WHATEVER THE INPUT: true; the input reads as it did. -/
def partsNilSpec : ChangeSpec := { name := "partsNil", fn := fun _ => fun
  | [d1, d2] => { results := [.lit (.bool true)], args := [d1, d2] }
  | _ => none }
def partsNilRow : OpenClaim := { program := "ythbmofijdhfeeaa", sum := "2c7b42dbcab046ac5391f13644609d4a765332f2cae54483faa7c40cb95d886c", func := "bikeshare/bikesharelaw49.PartsNil", spec := "partsNil", inPlace := ["maps.clone"], apart := false }
def PartsNilSaid : Prop := partsNilRow.holds Try.pinned (OpenSpec.ofChange partsNilSpec)

/-- ITS FALSE NEIGHBOUR: 'it returns false'. Refute it at one input. -/
def partsNilWrong : ChangeSpec := { name := "partsNil", fn := fun _ => fun
  | [d1, d2] => { results := [.lit (.bool false)], args := [d1, d2] }
  | _ => none }
def PartsNilWrongFalsely : Prop := partsNilRow.holds Try.pinned (OpenSpec.ofChange partsNilWrong)

/- THE SECOND FORM. 'bulk': how many values and letters a reading holds, each counted each time it is reached (what is shared counts as often as it is met; a slice's spare places count too). A statement '..UptoSaid' is the law's where the arguments, and the package variables that the reading takes, are together of bulk at most 1048576: NARROWER than '..Said'. Prove '..Said' where nothing that the law and all that it calls make is longer than what came in: it says more and counts as full. Else prove '..UptoSaid'. A law counts once. -/
mutual
def uptoBulk {H : Type} : DataW H → Nat
  | .lit (.string bytes) => bytes.length + 1
  | .lit _ => 1
  | .nil => 1
  | .ptr d => uptoBulk d + 1
  | .slice elems spare => uptoBulkAll elems + uptoBulkAll spare + 1
  | .agg parts => uptoBulkAll parts + 1
  | .iface _ d => uptoBulk d + 1
  | .map entries => uptoBulkEntries entries + 1
  | .held _ => 1
def uptoBulkAll {H : Type} : List (DataW H) → Nat
  | [] => 0
  | d :: r => uptoBulk d + uptoBulkAll r
def uptoBulkEntries {H : Type} : List (Lit × DataW H) → Nat
  | [] => 0
  | x :: r => uptoBulkEntry x + uptoBulkEntries r
def uptoBulkEntry {H : Type} : Lit × DataW H → Nat
  | (.string bytes, d) => bytes.length + uptoBulk d + 1
  | (_, d) => uptoBulk d + 1
 end
def uptoSmall : (H : Type) → List (DataW H) → Bool := fun _ ds => decide (uptoBulkAll ds ≤ 1048576)
def OpenSpec.upto (s : _root_.Go.ChangeSpec) : _root_.Go.OpenSpec := { _root_.Go.OpenSpec.ofChange s with cond := some uptoSmall }

/-- 'bikesharelaw49.PartsNews', WHERE WHAT IT READS IS OF BULK AT MOST 1048576: true; the input reads as it did. -/
def partsNewsUptoRow : OpenClaim := { program := "ythbmofijdhfeeaa", sum := "2c7b42dbcab046ac5391f13644609d4a765332f2cae54483faa7c40cb95d886c", func := "bikeshare/bikesharelaw49.PartsNews", spec := "partsNews", apart := false, narrowed := true }
def PartsNewsUptoSaid : Prop := partsNewsUptoRow.holds Try.pinned (OpenSpec.upto partsNewsSpec)

/-- 'bikesharelaw49.PartsRuns', WHERE WHAT IT READS IS OF BULK AT MOST 1048576: true; the input reads as it did. -/
def partsRunsUptoRow : OpenClaim := { program := "ythbmofijdhfeeaa", sum := "2c7b42dbcab046ac5391f13644609d4a765332f2cae54483faa7c40cb95d886c", func := "bikeshare/bikesharelaw49.PartsRuns", spec := "partsRuns", apart := false, narrowed := true }
def PartsRunsUptoSaid : Prop := partsRunsUptoRow.holds Try.pinned (OpenSpec.upto partsRunsSpec)

/-- 'bikesharelaw49.PartsConserve', WHERE WHAT IT READS IS OF BULK AT MOST 1048576: true; the input reads as it did. -/
def partsConserveUptoRow : OpenClaim := { program := "ythbmofijdhfeeaa", sum := "2c7b42dbcab046ac5391f13644609d4a765332f2cae54483faa7c40cb95d886c", func := "bikeshare/bikesharelaw49.PartsConserve", spec := "partsConserve", apart := false, narrowed := true }
def PartsConserveUptoSaid : Prop := partsConserveUptoRow.holds Try.pinned (OpenSpec.upto partsConserveSpec)

/-- 'bikesharelaw49.PartsFirst', WHERE WHAT IT READS IS OF BULK AT MOST 1048576: true; the input reads as it did. -/
def partsFirstUptoRow : OpenClaim := { program := "ythbmofijdhfeeaa", sum := "2c7b42dbcab046ac5391f13644609d4a765332f2cae54483faa7c40cb95d886c", func := "bikeshare/bikesharelaw49.PartsFirst", spec := "partsFirst", apart := false, narrowed := true }
def PartsFirstUptoSaid : Prop := partsFirstUptoRow.holds Try.pinned (OpenSpec.upto partsFirstSpec)

/-- 'bikesharelaw49.PartsBack', WHERE WHAT IT READS IS OF BULK AT MOST 1048576: true; the input reads as it did. -/
def partsBackUptoRow : OpenClaim := { program := "ythbmofijdhfeeaa", sum := "2c7b42dbcab046ac5391f13644609d4a765332f2cae54483faa7c40cb95d886c", func := "bikeshare/bikesharelaw49.PartsBack", spec := "partsBack", apart := false, narrowed := true }
def PartsBackUptoSaid : Prop := partsBackUptoRow.holds Try.pinned (OpenSpec.upto partsBackSpec)

/-- 'bikesharelaw49.PartsApart', WHERE WHAT IT READS IS OF BULK AT MOST 1048576: true; the input reads as it did. -/
def partsApartUptoRow : OpenClaim := { program := "ythbmofijdhfeeaa", sum := "2c7b42dbcab046ac5391f13644609d4a765332f2cae54483faa7c40cb95d886c", func := "bikeshare/bikesharelaw49.PartsApart", spec := "partsApart", inPlace := ["maps.clone"], apart := false, narrowed := true }
def PartsApartUptoSaid : Prop := partsApartUptoRow.holds Try.pinned (OpenSpec.upto partsApartSpec)

/-- 'bikesharelaw49.PartsNil', WHERE WHAT IT READS IS OF BULK AT MOST 1048576: true; the input reads as it did. -/
def partsNilUptoRow : OpenClaim := { program := "ythbmofijdhfeeaa", sum := "2c7b42dbcab046ac5391f13644609d4a765332f2cae54483faa7c40cb95d886c", func := "bikeshare/bikesharelaw49.PartsNil", spec := "partsNil", inPlace := ["maps.clone"], apart := false, narrowed := true }
def PartsNilUptoSaid : Prop := partsNilUptoRow.holds Try.pinned (OpenSpec.upto partsNilSpec)

end Rows
end Go.Proofs.Ythbmofijdhfeeaa
