/-
  No cell of these rows narrows 'for every input' (looked for: loops, veiled, ifaces, maps, wideKeys, modest, calm, conditions, laid).
  DERIVED. THE GIVEN ROWS OF THIS SEAT. 7 by the template 'for every input the law returns true; each argument reads behind the call as it read before'; 0 by the template 'total and deterministic' (their statements: YteifmkpibgjkoaaTotals.lean).
  GIVEN WITH THE SEED: the statements are not yours to turn. If you find one false, say at which input.
  Laid BY PROGRAM, IN A SANDBOX (cutbox-rows.mjs): the forced cells as the released guide's own fill.sh prints them over the translation 8b44fa8bcaf38e5f… (all of the seat's roots in one cut). By AI agents, Wed Nov 11 2026. No macro, syntax, notation, axiom, sorry.
-/
import Derived.Test.YteifmkpibgjkoaaChecked
import GoSem.Claim
import GoSem.ClaimJoined
import GoSem.ClaimMapViews
import Derived.JoinedTies
import Derived.KernelRfl
namespace Go.Proofs.Yteifmkpibgjkoaa
/- THE CELL 'sum', in the pinned program and in every row, IS THE sha256 OF THE DUMP (.gsa) THAT YteifmkpibgjkoaaProg.lean LOADS. Nothing in Lean hashes anything: it is a label: what it is worth is what the hold of that sum in a sandbox is worth. -/
noncomputable def Try.pinned : Pinned := { name := "yteifmkpibgjkoaa", sum := "8b44fa8bcaf38e5f2633624f5428735b5db958c8c47ca3186e4fb18cf3f9a87d", checked := Try.checked }
namespace Rows
def none {H : Type} : Left H := { results := [], args := [] }

/-- 'bikesharelaw03.IdentValid': WHATEVER THE INPUT: true; the input reads as it did. -/
def identValidSpec : ChangeSpec := { name := "identValid", fn := fun _ => fun
  | [d] => { results := [.lit (.bool true)], args := [d] }
  | _ => none }
def identValidRow : OpenClaim := { program := "yteifmkpibgjkoaa", sum := "8b44fa8bcaf38e5f2633624f5428735b5db958c8c47ca3186e4fb18cf3f9a87d", func := "bikeshare/bikesharelaw03.IdentValid", spec := "identValid", apart := false }
def IdentValidSaid : Prop := identValidRow.holds Try.pinned (OpenSpec.ofChange identValidSpec)

/-- ITS FALSE NEIGHBOUR: 'it returns false'. Refute it at one input. -/
def identValidWrong : ChangeSpec := { name := "identValid", fn := fun _ => fun
  | [d] => { results := [.lit (.bool false)], args := [d] }
  | _ => none }
def IdentValidWrongFalsely : Prop := identValidRow.holds Try.pinned (OpenSpec.ofChange identValidWrong)

/-- 'bikesharelaw03.IdentNews': WHATEVER THE INPUT: true; the input reads as it did. -/
def identNewsSpec : ChangeSpec := { name := "identNews", fn := fun _ => fun
  | [d1, d2, d3] => { results := [.lit (.bool true)], args := [d1, d2, d3] }
  | _ => none }
def identNewsRow : OpenClaim := { program := "yteifmkpibgjkoaa", sum := "8b44fa8bcaf38e5f2633624f5428735b5db958c8c47ca3186e4fb18cf3f9a87d", func := "bikeshare/bikesharelaw03.IdentNews", spec := "identNews", apart := false }
def IdentNewsSaid : Prop := identNewsRow.holds Try.pinned (OpenSpec.ofChange identNewsSpec)

/-- ITS FALSE NEIGHBOUR: 'it returns false'. Refute it at one input. -/
def identNewsWrong : ChangeSpec := { name := "identNews", fn := fun _ => fun
  | [d1, d2, d3] => { results := [.lit (.bool false)], args := [d1, d2, d3] }
  | _ => none }
def IdentNewsWrongFalsely : Prop := identNewsRow.holds Try.pinned (OpenSpec.ofChange identNewsWrong)

/-- 'bikesharelaw03.IdentAdds': WHATEVER THE INPUT: true; the input reads as it did. -/
def identAddsSpec : ChangeSpec := { name := "identAdds", fn := fun _ => fun
  | [d1, d2, d3] => { results := [.lit (.bool true)], args := [d1, d2, d3] }
  | _ => none }
def identAddsRow : OpenClaim := { program := "yteifmkpibgjkoaa", sum := "8b44fa8bcaf38e5f2633624f5428735b5db958c8c47ca3186e4fb18cf3f9a87d", func := "bikeshare/bikesharelaw03.IdentAdds", spec := "identAdds", apart := false }
def IdentAddsSaid : Prop := identAddsRow.holds Try.pinned (OpenSpec.ofChange identAddsSpec)

/-- ITS FALSE NEIGHBOUR: 'it returns false'. Refute it at one input. -/
def identAddsWrong : ChangeSpec := { name := "identAdds", fn := fun _ => fun
  | [d1, d2, d3] => { results := [.lit (.bool false)], args := [d1, d2, d3] }
  | _ => none }
def IdentAddsWrongFalsely : Prop := identAddsRow.holds Try.pinned (OpenSpec.ofChange identAddsWrong)

/-- 'bikesharelaw03.IdentTable': WHATEVER THE INPUT: true; the input reads as it did. -/
def identTableSpec : ChangeSpec := { name := "identTable", fn := fun _ => fun
  | [d] => { results := [.lit (.bool true)], args := [d] }
  | _ => none }
def identTableRow : OpenClaim := { program := "yteifmkpibgjkoaa", sum := "8b44fa8bcaf38e5f2633624f5428735b5db958c8c47ca3186e4fb18cf3f9a87d", func := "bikeshare/bikesharelaw03.IdentTable", spec := "identTable", apart := false }
def IdentTableSaid : Prop := identTableRow.holds Try.pinned (OpenSpec.ofChange identTableSpec)

/-- ITS FALSE NEIGHBOUR: 'it returns false'. Refute it at one input. -/
def identTableWrong : ChangeSpec := { name := "identTable", fn := fun _ => fun
  | [d] => { results := [.lit (.bool false)], args := [d] }
  | _ => none }
def IdentTableWrongFalsely : Prop := identTableRow.holds Try.pinned (OpenSpec.ofChange identTableWrong)

/-- 'bikesharelaw03.IdentOnce': WHATEVER THE INPUT: true; the input reads as it did. -/
def identOnceSpec : ChangeSpec := { name := "identOnce", fn := fun _ => fun
  | [d] => { results := [.lit (.bool true)], args := [d] }
  | _ => none }
def identOnceRow : OpenClaim := { program := "yteifmkpibgjkoaa", sum := "8b44fa8bcaf38e5f2633624f5428735b5db958c8c47ca3186e4fb18cf3f9a87d", func := "bikeshare/bikesharelaw03.IdentOnce", spec := "identOnce", apart := false }
def IdentOnceSaid : Prop := identOnceRow.holds Try.pinned (OpenSpec.ofChange identOnceSpec)

/-- ITS FALSE NEIGHBOUR: 'it returns false'. Refute it at one input. -/
def identOnceWrong : ChangeSpec := { name := "identOnce", fn := fun _ => fun
  | [d] => { results := [.lit (.bool false)], args := [d] }
  | _ => none }
def IdentOnceWrongFalsely : Prop := identOnceRow.holds Try.pinned (OpenSpec.ofChange identOnceWrong)

/-- 'bikesharelaw03.IdentFull': WHATEVER THE INPUT: true; the input reads as it did. -/
def identFullSpec : ChangeSpec := { name := "identFull", fn := fun _ => fun
  | [d] => { results := [.lit (.bool true)], args := [d] }
  | _ => none }
def identFullRow : OpenClaim := { program := "yteifmkpibgjkoaa", sum := "8b44fa8bcaf38e5f2633624f5428735b5db958c8c47ca3186e4fb18cf3f9a87d", func := "bikeshare/bikesharelaw03.IdentFull", spec := "identFull", apart := false }
def IdentFullSaid : Prop := identFullRow.holds Try.pinned (OpenSpec.ofChange identFullSpec)

/-- ITS FALSE NEIGHBOUR: 'it returns false'. Refute it at one input. -/
def identFullWrong : ChangeSpec := { name := "identFull", fn := fun _ => fun
  | [d] => { results := [.lit (.bool false)], args := [d] }
  | _ => none }
def IdentFullWrongFalsely : Prop := identFullRow.holds Try.pinned (OpenSpec.ofChange identFullWrong)

/-- 'bikesharelaw03.IdentNil': WHATEVER THE INPUT: true; the input reads as it did. -/
def identNilSpec : ChangeSpec := { name := "identNil", fn := fun _ => fun
  | [d1, d2] => { results := [.lit (.bool true)], args := [d1, d2] }
  | _ => none }
def identNilRow : OpenClaim := { program := "yteifmkpibgjkoaa", sum := "8b44fa8bcaf38e5f2633624f5428735b5db958c8c47ca3186e4fb18cf3f9a87d", func := "bikeshare/bikesharelaw03.IdentNil", spec := "identNil", apart := false }
def IdentNilSaid : Prop := identNilRow.holds Try.pinned (OpenSpec.ofChange identNilSpec)

/-- ITS FALSE NEIGHBOUR: 'it returns false'. Refute it at one input. -/
def identNilWrong : ChangeSpec := { name := "identNil", fn := fun _ => fun
  | [d1, d2] => { results := [.lit (.bool false)], args := [d1, d2] }
  | _ => none }
def IdentNilWrongFalsely : Prop := identNilRow.holds Try.pinned (OpenSpec.ofChange identNilWrong)

/- THE SECOND FORM. 'bulk': how many values and letters a reading holds, each counted each time it is reached (what is shared counts as often as it is met; a slice's spare places count too). A statement '..UptoSaid' is the law's where the arguments, and the package variables that the reading takes, are together of bulk at most 1048576: NARROWER than '..Said'. Prove '..Said' where nothing that the law and all that it calls make is longer than what came in: it says more and counts as full. Else prove '..UptoSaid'. A law counts once. -/
mutual
def uptoBulk {H : Type} : DataW H → Nat
  | .lit (.string bytes) => bytes.length + 1
  | .lit _ => 1
  | .nil => 1
  | .ptr d => uptoBulk d + 1
  | .slice elems spare => uptoBulkAll elems + uptoBulkAll spare + 1
  | .agg parts => uptoBulkAll parts + 1
  | .iface _ d => uptoBulk d + 1
  | .map entries => uptoBulkEntries entries + 1
  | .held _ => 1
def uptoBulkAll {H : Type} : List (DataW H) → Nat
  | [] => 0
  | d :: r => uptoBulk d + uptoBulkAll r
def uptoBulkEntries {H : Type} : List (Lit × DataW H) → Nat
  | [] => 0
  | x :: r => uptoBulkEntry x + uptoBulkEntries r
def uptoBulkEntry {H : Type} : Lit × DataW H → Nat
  | (.string bytes, d) => bytes.length + uptoBulk d + 1
  | (_, d) => uptoBulk d + 1
 end
def uptoSmall : (H : Type) → List (DataW H) → Bool := fun _ ds => decide (uptoBulkAll ds ≤ 1048576)
def OpenSpec.upto (s : _root_.Go.ChangeSpec) : _root_.Go.OpenSpec := { _root_.Go.OpenSpec.ofChange s with cond := some uptoSmall }

/-- 'bikesharelaw03.IdentValid', WHERE WHAT IT READS IS OF BULK AT MOST 1048576: true; the input reads as it did. -/
def identValidUptoRow : OpenClaim := { program := "yteifmkpibgjkoaa", sum := "8b44fa8bcaf38e5f2633624f5428735b5db958c8c47ca3186e4fb18cf3f9a87d", func := "bikeshare/bikesharelaw03.IdentValid", spec := "identValid", apart := false, narrowed := true }
def IdentValidUptoSaid : Prop := identValidUptoRow.holds Try.pinned (OpenSpec.upto identValidSpec)

/-- 'bikesharelaw03.IdentNews', WHERE WHAT IT READS IS OF BULK AT MOST 1048576: true; the input reads as it did. -/
def identNewsUptoRow : OpenClaim := { program := "yteifmkpibgjkoaa", sum := "8b44fa8bcaf38e5f2633624f5428735b5db958c8c47ca3186e4fb18cf3f9a87d", func := "bikeshare/bikesharelaw03.IdentNews", spec := "identNews", apart := false, narrowed := true }
def IdentNewsUptoSaid : Prop := identNewsUptoRow.holds Try.pinned (OpenSpec.upto identNewsSpec)

/-- 'bikesharelaw03.IdentAdds', WHERE WHAT IT READS IS OF BULK AT MOST 1048576: true; the input reads as it did. -/
def identAddsUptoRow : OpenClaim := { program := "yteifmkpibgjkoaa", sum := "8b44fa8bcaf38e5f2633624f5428735b5db958c8c47ca3186e4fb18cf3f9a87d", func := "bikeshare/bikesharelaw03.IdentAdds", spec := "identAdds", apart := false, narrowed := true }
def IdentAddsUptoSaid : Prop := identAddsUptoRow.holds Try.pinned (OpenSpec.upto identAddsSpec)

/-- 'bikesharelaw03.IdentTable', WHERE WHAT IT READS IS OF BULK AT MOST 1048576: true; the input reads as it did. -/
def identTableUptoRow : OpenClaim := { program := "yteifmkpibgjkoaa", sum := "8b44fa8bcaf38e5f2633624f5428735b5db958c8c47ca3186e4fb18cf3f9a87d", func := "bikeshare/bikesharelaw03.IdentTable", spec := "identTable", apart := false, narrowed := true }
def IdentTableUptoSaid : Prop := identTableUptoRow.holds Try.pinned (OpenSpec.upto identTableSpec)

/-- 'bikesharelaw03.IdentOnce', WHERE WHAT IT READS IS OF BULK AT MOST 1048576: true; the input reads as it did. -/
def identOnceUptoRow : OpenClaim := { program := "yteifmkpibgjkoaa", sum := "8b44fa8bcaf38e5f2633624f5428735b5db958c8c47ca3186e4fb18cf3f9a87d", func := "bikeshare/bikesharelaw03.IdentOnce", spec := "identOnce", apart := false, narrowed := true }
def IdentOnceUptoSaid : Prop := identOnceUptoRow.holds Try.pinned (OpenSpec.upto identOnceSpec)

/-- 'bikesharelaw03.IdentFull', WHERE WHAT IT READS IS OF BULK AT MOST 1048576: true; the input reads as it did. -/
def identFullUptoRow : OpenClaim := { program := "yteifmkpibgjkoaa", sum := "8b44fa8bcaf38e5f2633624f5428735b5db958c8c47ca3186e4fb18cf3f9a87d", func := "bikeshare/bikesharelaw03.IdentFull", spec := "identFull", apart := false, narrowed := true }
def IdentFullUptoSaid : Prop := identFullUptoRow.holds Try.pinned (OpenSpec.upto identFullSpec)

/-- 'bikesharelaw03.IdentNil', WHERE WHAT IT READS IS OF BULK AT MOST 1048576: true; the input reads as it did. -/
def identNilUptoRow : OpenClaim := { program := "yteifmkpibgjkoaa", sum := "8b44fa8bcaf38e5f2633624f5428735b5db958c8c47ca3186e4fb18cf3f9a87d", func := "bikeshare/bikesharelaw03.IdentNil", spec := "identNil", apart := false, narrowed := true }
def IdentNilUptoSaid : Prop := identNilUptoRow.holds Try.pinned (OpenSpec.upto identNilSpec)

end Rows
end Go.Proofs.Yteifmkpibgjkoaa
