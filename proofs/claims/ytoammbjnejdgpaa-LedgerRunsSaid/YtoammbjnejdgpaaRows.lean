/-
  No cell of these rows narrows 'for every input' (looked for: loops, veiled, ifaces, maps, wideKeys, modest, calm, conditions, laid).
  DERIVED. THE GIVEN ROWS OF THIS SEAT. 8 by the template 'for every input the law returns true; each argument reads behind the call as it read before'; 0 by the template 'total and deterministic' (their statements: YtoammbjnejdgpaaTotals.lean).
  GIVEN WITH THE SEED: the statements are not yours to turn. If you find one false, say at which input.
  Laid BY PROGRAM, IN A SANDBOX (cutbox-rows.mjs): the forced cells as the released guide's own fill.sh prints them over the translation c04e585bd4c2a3f1… (all of the seat's roots in one cut). By AI agents, Wed Nov 11 2026. No macro, syntax, notation, axiom, sorry.
-/
import Derived.Test.YtoammbjnejdgpaaChecked
import GoSem.Claim
import GoSem.ClaimJoined
import GoSem.ClaimMapViews
import Derived.JoinedTies
import Derived.KernelRfl
namespace Go.Proofs.Ytoammbjnejdgpaa
/- THE CELL 'sum', in the pinned program and in every row, IS THE sha256 OF THE DUMP (.gsa) THAT YtoammbjnejdgpaaProg.lean LOADS. Nothing in Lean hashes anything: it is a label: what it is worth is what the hold of that sum in a sandbox is worth. -/
noncomputable def Try.pinned : Pinned := { name := "ytoammbjnejdgpaa", sum := "c04e585bd4c2a3f1d12d50efa61aec1bf5c07dbd99407db5a95f22a5ea134f96", checked := Try.checked }
namespace Rows
def none {H : Type} : Left H := { results := [], args := [] }

/-- 'bikesharelaw36.LedgerNews': WHATEVER THE INPUT: true; the input reads as it did. -/
def ledgerNewsSpec : ChangeSpec := { name := "ledgerNews", fn := fun _ => fun
  | [d1, d2, d3] => { results := [.lit (.bool true)], args := [d1, d2, d3] }
  | _ => none }
def ledgerNewsRow : OpenClaim := { program := "ytoammbjnejdgpaa", sum := "c04e585bd4c2a3f1d12d50efa61aec1bf5c07dbd99407db5a95f22a5ea134f96", func := "bikeshare/bikesharelaw36.LedgerNews", spec := "ledgerNews", inPlace := ["math/bits.Add64"], unfollowed := true, recurses := true, apart := false }
def LedgerNewsSaid : Prop := ledgerNewsRow.holds Try.pinned (OpenSpec.ofChange ledgerNewsSpec)

/-- ITS FALSE NEIGHBOUR: 'it returns false'. Refute it at one input. -/
def ledgerNewsWrong : ChangeSpec := { name := "ledgerNews", fn := fun _ => fun
  | [d1, d2, d3] => { results := [.lit (.bool false)], args := [d1, d2, d3] }
  | _ => none }
def LedgerNewsWrongFalsely : Prop := ledgerNewsRow.holds Try.pinned (OpenSpec.ofChange ledgerNewsWrong)

/-- 'bikesharelaw36.LedgerRuns': WHATEVER THE INPUT: true; the input reads as it did. -/
def ledgerRunsSpec : ChangeSpec := { name := "ledgerRuns", fn := fun _ => fun
  | [d1, d2, d3] => { results := [.lit (.bool true)], args := [d1, d2, d3] }
  | _ => none }
def ledgerRunsRow : OpenClaim := { program := "ytoammbjnejdgpaa", sum := "c04e585bd4c2a3f1d12d50efa61aec1bf5c07dbd99407db5a95f22a5ea134f96", func := "bikeshare/bikesharelaw36.LedgerRuns", spec := "ledgerRuns", inPlace := ["math/bits.Add64"], unfollowed := true, recurses := true, apart := false }
def LedgerRunsSaid : Prop := ledgerRunsRow.holds Try.pinned (OpenSpec.ofChange ledgerRunsSpec)

/-- ITS FALSE NEIGHBOUR: 'it returns false'. Refute it at one input. -/
def ledgerRunsWrong : ChangeSpec := { name := "ledgerRuns", fn := fun _ => fun
  | [d1, d2, d3] => { results := [.lit (.bool false)], args := [d1, d2, d3] }
  | _ => none }
def LedgerRunsWrongFalsely : Prop := ledgerRunsRow.holds Try.pinned (OpenSpec.ofChange ledgerRunsWrong)

/-- 'bikesharelaw36.LedgerZero': WHATEVER THE INPUT: true; the input reads as it did. -/
def ledgerZeroSpec : ChangeSpec := { name := "ledgerZero", fn := fun _ => fun
  | [d1, d2] => { results := [.lit (.bool true)], args := [d1, d2] }
  | _ => none }
def ledgerZeroRow : OpenClaim := { program := "ytoammbjnejdgpaa", sum := "c04e585bd4c2a3f1d12d50efa61aec1bf5c07dbd99407db5a95f22a5ea134f96", func := "bikeshare/bikesharelaw36.LedgerZero", spec := "ledgerZero", inPlace := ["math/bits.Add64"], unfollowed := true, recurses := true, apart := false }
def LedgerZeroSaid : Prop := ledgerZeroRow.holds Try.pinned (OpenSpec.ofChange ledgerZeroSpec)

/-- ITS FALSE NEIGHBOUR: 'it returns false'. Refute it at one input. -/
def ledgerZeroWrong : ChangeSpec := { name := "ledgerZero", fn := fun _ => fun
  | [d1, d2] => { results := [.lit (.bool false)], args := [d1, d2] }
  | _ => none }
def LedgerZeroWrongFalsely : Prop := ledgerZeroRow.holds Try.pinned (OpenSpec.ofChange ledgerZeroWrong)

/-- 'bikesharelaw36.LedgerBalances': WHATEVER THE INPUT: true; the input reads as it did. -/
def ledgerBalancesSpec : ChangeSpec := { name := "ledgerBalances", fn := fun _ => fun
  | [d1, d2, d3] => { results := [.lit (.bool true)], args := [d1, d2, d3] }
  | _ => none }
def ledgerBalancesRow : OpenClaim := { program := "ytoammbjnejdgpaa", sum := "c04e585bd4c2a3f1d12d50efa61aec1bf5c07dbd99407db5a95f22a5ea134f96", func := "bikeshare/bikesharelaw36.LedgerBalances", spec := "ledgerBalances", inPlace := ["math/bits.Add64"], unfollowed := true, recurses := true, apart := false }
def LedgerBalancesSaid : Prop := ledgerBalancesRow.holds Try.pinned (OpenSpec.ofChange ledgerBalancesSpec)

/-- ITS FALSE NEIGHBOUR: 'it returns false'. Refute it at one input. -/
def ledgerBalancesWrong : ChangeSpec := { name := "ledgerBalances", fn := fun _ => fun
  | [d1, d2, d3] => { results := [.lit (.bool false)], args := [d1, d2, d3] }
  | _ => none }
def LedgerBalancesWrongFalsely : Prop := ledgerBalancesRow.holds Try.pinned (OpenSpec.ofChange ledgerBalancesWrong)

/-- 'bikesharelaw36.LedgerHistory': WHATEVER THE INPUT: true; the input reads as it did. -/
def ledgerHistorySpec : ChangeSpec := { name := "ledgerHistory", fn := fun _ => fun
  | [d1, d2, d3] => { results := [.lit (.bool true)], args := [d1, d2, d3] }
  | _ => none }
def ledgerHistoryRow : OpenClaim := { program := "ytoammbjnejdgpaa", sum := "c04e585bd4c2a3f1d12d50efa61aec1bf5c07dbd99407db5a95f22a5ea134f96", func := "bikeshare/bikesharelaw36.LedgerHistory", spec := "ledgerHistory", inPlace := ["math/bits.Add64"], unfollowed := true, recurses := true, apart := false }
def LedgerHistorySaid : Prop := ledgerHistoryRow.holds Try.pinned (OpenSpec.ofChange ledgerHistorySpec)

/-- ITS FALSE NEIGHBOUR: 'it returns false'. Refute it at one input. -/
def ledgerHistoryWrong : ChangeSpec := { name := "ledgerHistory", fn := fun _ => fun
  | [d1, d2, d3] => { results := [.lit (.bool false)], args := [d1, d2, d3] }
  | _ => none }
def LedgerHistoryWrongFalsely : Prop := ledgerHistoryRow.holds Try.pinned (OpenSpec.ofChange ledgerHistoryWrong)

/-- 'bikesharelaw36.LedgerReverses': WHATEVER THE INPUT: true; the input reads as it did. -/
def ledgerReversesSpec : ChangeSpec := { name := "ledgerReverses", fn := fun _ => fun
  | [d1, d2, d3, d4] => { results := [.lit (.bool true)], args := [d1, d2, d3, d4] }
  | _ => none }
def ledgerReversesRow : OpenClaim := { program := "ytoammbjnejdgpaa", sum := "c04e585bd4c2a3f1d12d50efa61aec1bf5c07dbd99407db5a95f22a5ea134f96", func := "bikeshare/bikesharelaw36.LedgerReverses", spec := "ledgerReverses", inPlace := ["math/bits.Add64"], unfollowed := true, recurses := true, apart := false }
def LedgerReversesSaid : Prop := ledgerReversesRow.holds Try.pinned (OpenSpec.ofChange ledgerReversesSpec)

/-- ITS FALSE NEIGHBOUR: 'it returns false'. Refute it at one input. -/
def ledgerReversesWrong : ChangeSpec := { name := "ledgerReverses", fn := fun _ => fun
  | [d1, d2, d3, d4] => { results := [.lit (.bool false)], args := [d1, d2, d3, d4] }
  | _ => none }
def LedgerReversesWrongFalsely : Prop := ledgerReversesRow.holds Try.pinned (OpenSpec.ofChange ledgerReversesWrong)

/-- 'bikesharelaw36.LedgerApart': WHATEVER THE INPUT: true; the input reads as it did. -/
def ledgerApartSpec : ChangeSpec := { name := "ledgerApart", fn := fun _ => fun
  | [d] => { results := [.lit (.bool true)], args := [d] }
  | _ => none }
def ledgerApartRow : OpenClaim := { program := "ytoammbjnejdgpaa", sum := "c04e585bd4c2a3f1d12d50efa61aec1bf5c07dbd99407db5a95f22a5ea134f96", func := "bikeshare/bikesharelaw36.LedgerApart", spec := "ledgerApart", inPlace := ["math/bits.Add64"], unfollowed := true, recurses := true, apart := false }
def LedgerApartSaid : Prop := ledgerApartRow.holds Try.pinned (OpenSpec.ofChange ledgerApartSpec)

/-- ITS FALSE NEIGHBOUR: 'it returns false'. Refute it at one input. -/
def ledgerApartWrong : ChangeSpec := { name := "ledgerApart", fn := fun _ => fun
  | [d] => { results := [.lit (.bool false)], args := [d] }
  | _ => none }
def LedgerApartWrongFalsely : Prop := ledgerApartRow.holds Try.pinned (OpenSpec.ofChange ledgerApartWrong)

/-- 'bikesharelaw36.LedgerNil': WHATEVER THE INPUT: true; the input reads as it did. -/
def ledgerNilSpec : ChangeSpec := { name := "ledgerNil", fn := fun _ => fun
  | [d1, d2, d3] => { results := [.lit (.bool true)], args := [d1, d2, d3] }
  | _ => none }
def ledgerNilRow : OpenClaim := { program := "ytoammbjnejdgpaa", sum := "c04e585bd4c2a3f1d12d50efa61aec1bf5c07dbd99407db5a95f22a5ea134f96", func := "bikeshare/bikesharelaw36.LedgerNil", spec := "ledgerNil", inPlace := ["math/bits.Add64"], unfollowed := true, recurses := true, apart := false }
def LedgerNilSaid : Prop := ledgerNilRow.holds Try.pinned (OpenSpec.ofChange ledgerNilSpec)

/-- ITS FALSE NEIGHBOUR: 'it returns false'. Refute it at one input. -/
def ledgerNilWrong : ChangeSpec := { name := "ledgerNil", fn := fun _ => fun
  | [d1, d2, d3] => { results := [.lit (.bool false)], args := [d1, d2, d3] }
  | _ => none }
def LedgerNilWrongFalsely : Prop := ledgerNilRow.holds Try.pinned (OpenSpec.ofChange ledgerNilWrong)

/- THE SECOND FORM. 'bulk': how many values and letters a reading holds, each counted each time it is reached (what is shared counts as often as it is met; a slice's spare places count too). A statement '..UptoSaid' is the law's where the arguments, and the package variables that the reading takes, are together of bulk at most 1048576: NARROWER than '..Said'. Prove '..Said' where nothing that the law and all that it calls make is longer than what came in: it says more and counts as full. Else prove '..UptoSaid'. A law counts once. -/
mutual
def uptoBulk {H : Type} : DataW H → Nat
  | .lit (.string bytes) => bytes.length + 1
  | .lit _ => 1
  | .nil => 1
  | .ptr d => uptoBulk d + 1
  | .slice elems spare => uptoBulkAll elems + uptoBulkAll spare + 1
  | .agg parts => uptoBulkAll parts + 1
  | .iface _ d => uptoBulk d + 1
  | .map entries => uptoBulkEntries entries + 1
  | .held _ => 1
def uptoBulkAll {H : Type} : List (DataW H) → Nat
  | [] => 0
  | d :: r => uptoBulk d + uptoBulkAll r
def uptoBulkEntries {H : Type} : List (Lit × DataW H) → Nat
  | [] => 0
  | x :: r => uptoBulkEntry x + uptoBulkEntries r
def uptoBulkEntry {H : Type} : Lit × DataW H → Nat
  | (.string bytes, d) => bytes.length + uptoBulk d + 1
  | (_, d) => uptoBulk d + 1
 end
def uptoSmall : (H : Type) → List (DataW H) → Bool := fun _ ds => decide (uptoBulkAll ds ≤ 1048576)
def OpenSpec.upto (s : _root_.Go.ChangeSpec) : _root_.Go.OpenSpec := { _root_.Go.OpenSpec.ofChange s with cond := some uptoSmall }

/-- 'bikesharelaw36.LedgerNews', WHERE WHAT IT READS IS OF BULK AT MOST 1048576: true; the input reads as it did. -/
def ledgerNewsUptoRow : OpenClaim := { program := "ytoammbjnejdgpaa", sum := "c04e585bd4c2a3f1d12d50efa61aec1bf5c07dbd99407db5a95f22a5ea134f96", func := "bikeshare/bikesharelaw36.LedgerNews", spec := "ledgerNews", inPlace := ["math/bits.Add64"], unfollowed := true, recurses := true, apart := false, narrowed := true }
def LedgerNewsUptoSaid : Prop := ledgerNewsUptoRow.holds Try.pinned (OpenSpec.upto ledgerNewsSpec)

/-- 'bikesharelaw36.LedgerRuns', WHERE WHAT IT READS IS OF BULK AT MOST 1048576: true; the input reads as it did. -/
def ledgerRunsUptoRow : OpenClaim := { program := "ytoammbjnejdgpaa", sum := "c04e585bd4c2a3f1d12d50efa61aec1bf5c07dbd99407db5a95f22a5ea134f96", func := "bikeshare/bikesharelaw36.LedgerRuns", spec := "ledgerRuns", inPlace := ["math/bits.Add64"], unfollowed := true, recurses := true, apart := false, narrowed := true }
def LedgerRunsUptoSaid : Prop := ledgerRunsUptoRow.holds Try.pinned (OpenSpec.upto ledgerRunsSpec)

/-- 'bikesharelaw36.LedgerZero', WHERE WHAT IT READS IS OF BULK AT MOST 1048576: true; the input reads as it did. -/
def ledgerZeroUptoRow : OpenClaim := { program := "ytoammbjnejdgpaa", sum := "c04e585bd4c2a3f1d12d50efa61aec1bf5c07dbd99407db5a95f22a5ea134f96", func := "bikeshare/bikesharelaw36.LedgerZero", spec := "ledgerZero", inPlace := ["math/bits.Add64"], unfollowed := true, recurses := true, apart := false, narrowed := true }
def LedgerZeroUptoSaid : Prop := ledgerZeroUptoRow.holds Try.pinned (OpenSpec.upto ledgerZeroSpec)

/-- 'bikesharelaw36.LedgerBalances', WHERE WHAT IT READS IS OF BULK AT MOST 1048576: true; the input reads as it did. -/
def ledgerBalancesUptoRow : OpenClaim := { program := "ytoammbjnejdgpaa", sum := "c04e585bd4c2a3f1d12d50efa61aec1bf5c07dbd99407db5a95f22a5ea134f96", func := "bikeshare/bikesharelaw36.LedgerBalances", spec := "ledgerBalances", inPlace := ["math/bits.Add64"], unfollowed := true, recurses := true, apart := false, narrowed := true }
def LedgerBalancesUptoSaid : Prop := ledgerBalancesUptoRow.holds Try.pinned (OpenSpec.upto ledgerBalancesSpec)

/-- 'bikesharelaw36.LedgerHistory', WHERE WHAT IT READS IS OF BULK AT MOST 1048576: true; the input reads as it did. -/
def ledgerHistoryUptoRow : OpenClaim := { program := "ytoammbjnejdgpaa", sum := "c04e585bd4c2a3f1d12d50efa61aec1bf5c07dbd99407db5a95f22a5ea134f96", func := "bikeshare/bikesharelaw36.LedgerHistory", spec := "ledgerHistory", inPlace := ["math/bits.Add64"], unfollowed := true, recurses := true, apart := false, narrowed := true }
def LedgerHistoryUptoSaid : Prop := ledgerHistoryUptoRow.holds Try.pinned (OpenSpec.upto ledgerHistorySpec)

/-- 'bikesharelaw36.LedgerReverses', WHERE WHAT IT READS IS OF BULK AT MOST 1048576: true; the input reads as it did. -/
def ledgerReversesUptoRow : OpenClaim := { program := "ytoammbjnejdgpaa", sum := "c04e585bd4c2a3f1d12d50efa61aec1bf5c07dbd99407db5a95f22a5ea134f96", func := "bikeshare/bikesharelaw36.LedgerReverses", spec := "ledgerReverses", inPlace := ["math/bits.Add64"], unfollowed := true, recurses := true, apart := false, narrowed := true }
def LedgerReversesUptoSaid : Prop := ledgerReversesUptoRow.holds Try.pinned (OpenSpec.upto ledgerReversesSpec)

/-- 'bikesharelaw36.LedgerApart', WHERE WHAT IT READS IS OF BULK AT MOST 1048576: true; the input reads as it did. -/
def ledgerApartUptoRow : OpenClaim := { program := "ytoammbjnejdgpaa", sum := "c04e585bd4c2a3f1d12d50efa61aec1bf5c07dbd99407db5a95f22a5ea134f96", func := "bikeshare/bikesharelaw36.LedgerApart", spec := "ledgerApart", inPlace := ["math/bits.Add64"], unfollowed := true, recurses := true, apart := false, narrowed := true }
def LedgerApartUptoSaid : Prop := ledgerApartUptoRow.holds Try.pinned (OpenSpec.upto ledgerApartSpec)

/-- 'bikesharelaw36.LedgerNil', WHERE WHAT IT READS IS OF BULK AT MOST 1048576: true; the input reads as it did. -/
def ledgerNilUptoRow : OpenClaim := { program := "ytoammbjnejdgpaa", sum := "c04e585bd4c2a3f1d12d50efa61aec1bf5c07dbd99407db5a95f22a5ea134f96", func := "bikeshare/bikesharelaw36.LedgerNil", spec := "ledgerNil", inPlace := ["math/bits.Add64"], unfollowed := true, recurses := true, apart := false, narrowed := true }
def LedgerNilUptoSaid : Prop := ledgerNilUptoRow.holds Try.pinned (OpenSpec.upto ledgerNilSpec)

end Rows
end Go.Proofs.Ytoammbjnejdgpaa
