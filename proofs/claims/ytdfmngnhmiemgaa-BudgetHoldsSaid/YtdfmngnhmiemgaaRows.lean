/-
  No cell of these rows narrows 'for every input' (looked for: loops, veiled, ifaces, maps, wideKeys, modest, calm, conditions, laid).
  DERIVED. THE GIVEN ROWS OF THIS SEAT. 6 by the template 'for every input the law returns true; each argument reads behind the call as it read before'; 0 by the template 'total and deterministic' (their statements: YtdfmngnhmiemgaaTotals.lean).
  GIVEN WITH THE SEED: the statements are not yours to turn. If you find one false, say at which input.
  Laid BY PROGRAM, IN A SANDBOX (cutbox-rows.mjs): the forced cells as the released guide's own fill.sh prints them over the translation dbf75e13d8cd9c20… (all of the seat's roots in one cut). By AI agents, Wed Nov 11 2026. No macro, syntax, notation, axiom, sorry.
-/
import Derived.Test.YtdfmngnhmiemgaaChecked
import GoSem.Claim
import GoSem.ClaimJoined
import GoSem.ClaimMapViews
import Derived.JoinedTies
import Derived.KernelRfl
namespace Go.Proofs.Ytdfmngnhmiemgaa
/- THE CELL 'sum', in the pinned program and in every row, IS THE sha256 OF THE DUMP (.gsa) THAT YtdfmngnhmiemgaaProg.lean LOADS. Nothing in Lean hashes anything: it is a label: what it is worth is what the hold of that sum in a sandbox is worth. -/
noncomputable def Try.pinned : Pinned := { name := "ytdfmngnhmiemgaa", sum := "dbf75e13d8cd9c20be90f8ca10a68d908c3e42c5c08f592cb8956030d320a02d", checked := Try.checked }
namespace Rows
def none {H : Type} : Left H := { results := [], args := [] }

/-- 'bikesharelaw54.BudgetChecks': WHATEVER THE INPUT: true; the input reads as it did. -/
def budgetChecksSpec : ChangeSpec := { name := "budgetChecks", fn := fun _ => fun
  | [d1, d2, d3] => { results := [.lit (.bool true)], args := [d1, d2, d3] }
  | _ => none }
def budgetChecksRow : OpenClaim := { program := "ytdfmngnhmiemgaa", sum := "dbf75e13d8cd9c20be90f8ca10a68d908c3e42c5c08f592cb8956030d320a02d", func := "bikeshare/bikesharelaw54.BudgetChecks", spec := "budgetChecks", apart := false }
def BudgetChecksSaid : Prop := budgetChecksRow.holds Try.pinned (OpenSpec.ofChange budgetChecksSpec)

/-- ITS FALSE NEIGHBOUR: 'it returns false'. Refute it at one input. -/
def budgetChecksWrong : ChangeSpec := { name := "budgetChecks", fn := fun _ => fun
  | [d1, d2, d3] => { results := [.lit (.bool false)], args := [d1, d2, d3] }
  | _ => none }
def BudgetChecksWrongFalsely : Prop := budgetChecksRow.holds Try.pinned (OpenSpec.ofChange budgetChecksWrong)

/-- 'bikesharelaw54.BudgetSpends': WHATEVER THE INPUT: true; the input reads as it did. -/
def budgetSpendsSpec : ChangeSpec := { name := "budgetSpends", fn := fun _ => fun
  | [d1, d2, d3, d4] => { results := [.lit (.bool true)], args := [d1, d2, d3, d4] }
  | _ => none }
def budgetSpendsRow : OpenClaim := { program := "ytdfmngnhmiemgaa", sum := "dbf75e13d8cd9c20be90f8ca10a68d908c3e42c5c08f592cb8956030d320a02d", func := "bikeshare/bikesharelaw54.BudgetSpends", spec := "budgetSpends", apart := false }
def BudgetSpendsSaid : Prop := budgetSpendsRow.holds Try.pinned (OpenSpec.ofChange budgetSpendsSpec)

/-- ITS FALSE NEIGHBOUR: 'it returns false'. Refute it at one input. -/
def budgetSpendsWrong : ChangeSpec := { name := "budgetSpends", fn := fun _ => fun
  | [d1, d2, d3, d4] => { results := [.lit (.bool false)], args := [d1, d2, d3, d4] }
  | _ => none }
def BudgetSpendsWrongFalsely : Prop := budgetSpendsRow.holds Try.pinned (OpenSpec.ofChange budgetSpendsWrong)

/-- 'bikesharelaw54.BudgetPowers': WHATEVER THE INPUT: true; the input reads as it did. -/
def budgetPowersSpec : ChangeSpec := { name := "budgetPowers", fn := fun _ => fun
  | [d1, d2, d3] => { results := [.lit (.bool true)], args := [d1, d2, d3] }
  | _ => none }
def budgetPowersRow : OpenClaim := { program := "ytdfmngnhmiemgaa", sum := "dbf75e13d8cd9c20be90f8ca10a68d908c3e42c5c08f592cb8956030d320a02d", func := "bikeshare/bikesharelaw54.BudgetPowers", spec := "budgetPowers", apart := false }
def BudgetPowersSaid : Prop := budgetPowersRow.holds Try.pinned (OpenSpec.ofChange budgetPowersSpec)

/-- ITS FALSE NEIGHBOUR: 'it returns false'. Refute it at one input. -/
def budgetPowersWrong : ChangeSpec := { name := "budgetPowers", fn := fun _ => fun
  | [d1, d2, d3] => { results := [.lit (.bool false)], args := [d1, d2, d3] }
  | _ => none }
def BudgetPowersWrongFalsely : Prop := budgetPowersRow.holds Try.pinned (OpenSpec.ofChange budgetPowersWrong)

/-- 'bikesharelaw54.BudgetHolds': WHATEVER THE INPUT: true; the input reads as it did. -/
def budgetHoldsSpec : ChangeSpec := { name := "budgetHolds", fn := fun _ => fun
  | [d1, d2, d3, d4, d5] => { results := [.lit (.bool true)], args := [d1, d2, d3, d4, d5] }
  | _ => none }
def budgetHoldsRow : OpenClaim := { program := "ytdfmngnhmiemgaa", sum := "dbf75e13d8cd9c20be90f8ca10a68d908c3e42c5c08f592cb8956030d320a02d", func := "bikeshare/bikesharelaw54.BudgetHolds", spec := "budgetHolds", apart := false }
def BudgetHoldsSaid : Prop := budgetHoldsRow.holds Try.pinned (OpenSpec.ofChange budgetHoldsSpec)

/-- ITS FALSE NEIGHBOUR: 'it returns false'. Refute it at one input. -/
def budgetHoldsWrong : ChangeSpec := { name := "budgetHolds", fn := fun _ => fun
  | [d1, d2, d3, d4, d5] => { results := [.lit (.bool false)], args := [d1, d2, d3, d4, d5] }
  | _ => none }
def BudgetHoldsWrongFalsely : Prop := budgetHoldsRow.holds Try.pinned (OpenSpec.ofChange budgetHoldsWrong)

/-- 'bikesharelaw54.BudgetParts': WHATEVER THE INPUT: true; the input reads as it did. -/
def budgetPartsSpec : ChangeSpec := { name := "budgetParts", fn := fun _ => fun
  | [d1, d2, d3, d4, d5] => { results := [.lit (.bool true)], args := [d1, d2, d3, d4, d5] }
  | _ => none }
def budgetPartsRow : OpenClaim := { program := "ytdfmngnhmiemgaa", sum := "dbf75e13d8cd9c20be90f8ca10a68d908c3e42c5c08f592cb8956030d320a02d", func := "bikeshare/bikesharelaw54.BudgetParts", spec := "budgetParts", apart := false }
def BudgetPartsSaid : Prop := budgetPartsRow.holds Try.pinned (OpenSpec.ofChange budgetPartsSpec)

/-- ITS FALSE NEIGHBOUR: 'it returns false'. Refute it at one input. -/
def budgetPartsWrong : ChangeSpec := { name := "budgetParts", fn := fun _ => fun
  | [d1, d2, d3, d4, d5] => { results := [.lit (.bool false)], args := [d1, d2, d3, d4, d5] }
  | _ => none }
def BudgetPartsWrongFalsely : Prop := budgetPartsRow.holds Try.pinned (OpenSpec.ofChange budgetPartsWrong)

/-- 'bikesharelaw54.BudgetSorts': WHATEVER THE INPUT: true; the input reads as it did. -/
def budgetSortsSpec : ChangeSpec := { name := "budgetSorts", fn := fun _ => fun
  | [d1, d2, d3] => { results := [.lit (.bool true)], args := [d1, d2, d3] }
  | _ => none }
def budgetSortsRow : OpenClaim := { program := "ytdfmngnhmiemgaa", sum := "dbf75e13d8cd9c20be90f8ca10a68d908c3e42c5c08f592cb8956030d320a02d", func := "bikeshare/bikesharelaw54.BudgetSorts", spec := "budgetSorts", apart := false }
def BudgetSortsSaid : Prop := budgetSortsRow.holds Try.pinned (OpenSpec.ofChange budgetSortsSpec)

/-- ITS FALSE NEIGHBOUR: 'it returns false'. Refute it at one input. -/
def budgetSortsWrong : ChangeSpec := { name := "budgetSorts", fn := fun _ => fun
  | [d1, d2, d3] => { results := [.lit (.bool false)], args := [d1, d2, d3] }
  | _ => none }
def BudgetSortsWrongFalsely : Prop := budgetSortsRow.holds Try.pinned (OpenSpec.ofChange budgetSortsWrong)

/- THE SECOND FORM. 'bulk': how many values and letters a reading holds, each counted each time it is reached (what is shared counts as often as it is met; a slice's spare places count too). A statement '..UptoSaid' is the law's where the arguments, and the package variables that the reading takes, are together of bulk at most 1048576: NARROWER than '..Said'. Prove '..Said' where nothing that the law and all that it calls make is longer than what came in: it says more and counts as full. Else prove '..UptoSaid'. A law counts once. -/
mutual
def uptoBulk {H : Type} : DataW H → Nat
  | .lit (.string bytes) => bytes.length + 1
  | .lit _ => 1
  | .nil => 1
  | .ptr d => uptoBulk d + 1
  | .slice elems spare => uptoBulkAll elems + uptoBulkAll spare + 1
  | .agg parts => uptoBulkAll parts + 1
  | .iface _ d => uptoBulk d + 1
  | .map entries => uptoBulkEntries entries + 1
  | .held _ => 1
def uptoBulkAll {H : Type} : List (DataW H) → Nat
  | [] => 0
  | d :: r => uptoBulk d + uptoBulkAll r
def uptoBulkEntries {H : Type} : List (Lit × DataW H) → Nat
  | [] => 0
  | x :: r => uptoBulkEntry x + uptoBulkEntries r
def uptoBulkEntry {H : Type} : Lit × DataW H → Nat
  | (.string bytes, d) => bytes.length + uptoBulk d + 1
  | (_, d) => uptoBulk d + 1
 end
def uptoSmall : (H : Type) → List (DataW H) → Bool := fun _ ds => decide (uptoBulkAll ds ≤ 1048576)
def OpenSpec.upto (s : _root_.Go.ChangeSpec) : _root_.Go.OpenSpec := { _root_.Go.OpenSpec.ofChange s with cond := some uptoSmall }

/-- 'bikesharelaw54.BudgetChecks', WHERE WHAT IT READS IS OF BULK AT MOST 1048576: true; the input reads as it did. -/
def budgetChecksUptoRow : OpenClaim := { program := "ytdfmngnhmiemgaa", sum := "dbf75e13d8cd9c20be90f8ca10a68d908c3e42c5c08f592cb8956030d320a02d", func := "bikeshare/bikesharelaw54.BudgetChecks", spec := "budgetChecks", apart := false, narrowed := true }
def BudgetChecksUptoSaid : Prop := budgetChecksUptoRow.holds Try.pinned (OpenSpec.upto budgetChecksSpec)

/-- 'bikesharelaw54.BudgetSpends', WHERE WHAT IT READS IS OF BULK AT MOST 1048576: true; the input reads as it did. -/
def budgetSpendsUptoRow : OpenClaim := { program := "ytdfmngnhmiemgaa", sum := "dbf75e13d8cd9c20be90f8ca10a68d908c3e42c5c08f592cb8956030d320a02d", func := "bikeshare/bikesharelaw54.BudgetSpends", spec := "budgetSpends", apart := false, narrowed := true }
def BudgetSpendsUptoSaid : Prop := budgetSpendsUptoRow.holds Try.pinned (OpenSpec.upto budgetSpendsSpec)

/-- 'bikesharelaw54.BudgetPowers', WHERE WHAT IT READS IS OF BULK AT MOST 1048576: true; the input reads as it did. -/
def budgetPowersUptoRow : OpenClaim := { program := "ytdfmngnhmiemgaa", sum := "dbf75e13d8cd9c20be90f8ca10a68d908c3e42c5c08f592cb8956030d320a02d", func := "bikeshare/bikesharelaw54.BudgetPowers", spec := "budgetPowers", apart := false, narrowed := true }
def BudgetPowersUptoSaid : Prop := budgetPowersUptoRow.holds Try.pinned (OpenSpec.upto budgetPowersSpec)

/-- 'bikesharelaw54.BudgetHolds', WHERE WHAT IT READS IS OF BULK AT MOST 1048576: true; the input reads as it did. -/
def budgetHoldsUptoRow : OpenClaim := { program := "ytdfmngnhmiemgaa", sum := "dbf75e13d8cd9c20be90f8ca10a68d908c3e42c5c08f592cb8956030d320a02d", func := "bikeshare/bikesharelaw54.BudgetHolds", spec := "budgetHolds", apart := false, narrowed := true }
def BudgetHoldsUptoSaid : Prop := budgetHoldsUptoRow.holds Try.pinned (OpenSpec.upto budgetHoldsSpec)

/-- 'bikesharelaw54.BudgetParts', WHERE WHAT IT READS IS OF BULK AT MOST 1048576: true; the input reads as it did. -/
def budgetPartsUptoRow : OpenClaim := { program := "ytdfmngnhmiemgaa", sum := "dbf75e13d8cd9c20be90f8ca10a68d908c3e42c5c08f592cb8956030d320a02d", func := "bikeshare/bikesharelaw54.BudgetParts", spec := "budgetParts", apart := false, narrowed := true }
def BudgetPartsUptoSaid : Prop := budgetPartsUptoRow.holds Try.pinned (OpenSpec.upto budgetPartsSpec)

/-- 'bikesharelaw54.BudgetSorts', WHERE WHAT IT READS IS OF BULK AT MOST 1048576: true; the input reads as it did. -/
def budgetSortsUptoRow : OpenClaim := { program := "ytdfmngnhmiemgaa", sum := "dbf75e13d8cd9c20be90f8ca10a68d908c3e42c5c08f592cb8956030d320a02d", func := "bikeshare/bikesharelaw54.BudgetSorts", spec := "budgetSorts", apart := false, narrowed := true }
def BudgetSortsUptoSaid : Prop := budgetSortsUptoRow.holds Try.pinned (OpenSpec.upto budgetSortsSpec)

end Rows
end Go.Proofs.Ytdfmngnhmiemgaa
