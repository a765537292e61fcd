/-
  No cell of these rows narrows 'for every input' (looked for: loops, veiled, ifaces, maps, wideKeys, modest, calm, conditions, laid).
  DERIVED. THE GIVEN ROWS OF THIS SEAT. 7 by the template 'for every input the law returns true; each argument reads behind the call as it read before'; 0 by the template 'total and deterministic' (their statements: YtakjdffebpcmnaaTotals.lean).
  GIVEN WITH THE SEED: the statements are not yours to turn. If you find one false, say at which input.
  Laid BY PROGRAM, IN A SANDBOX (cutbox-rows.mjs): the forced cells as the released guide's own fill.sh prints them over the translation 89d458336793df22… (all of the seat's roots in one cut). By AI agents, Wed Nov 11 2026. No macro, syntax, notation, axiom, sorry.
-/
import Derived.Test.YtakjdffebpcmnaaChecked
import GoSem.Claim
import GoSem.ClaimJoined
import GoSem.ClaimMapViews
import Derived.JoinedTies
import Derived.KernelRfl
namespace Go.Proofs.Ytakjdffebpcmnaa
/- THE CELL 'sum', in the pinned program and in every row, IS THE sha256 OF THE DUMP (.gsa) THAT YtakjdffebpcmnaaProg.lean LOADS. Nothing in Lean hashes anything: it is a label: what it is worth is what the hold of that sum in a sandbox is worth. -/
noncomputable def Try.pinned : Pinned := { name := "ytakjdffebpcmnaa", sum := "89d458336793df22eb3de2bd6462b204970941652fe22b30c4007a145d7f2f90", checked := Try.checked }
namespace Rows
def none {H : Type} : Left H := { results := [], args := [] }

/-- 'bikesharelaw37.ChargeFull': WHATEVER THE INPUT: true; the input reads as it did. -/
def chargeFullSpec : ChangeSpec := { name := "chargeFull", fn := fun _ => fun
  | [d] => { results := [.lit (.bool true)], args := [d] }
  | _ => none }
def chargeFullRow : OpenClaim := { program := "ytakjdffebpcmnaa", sum := "89d458336793df22eb3de2bd6462b204970941652fe22b30c4007a145d7f2f90", func := "bikeshare/bikesharelaw37.ChargeFull", spec := "chargeFull", apart := false }
def ChargeFullSaid : Prop := chargeFullRow.holds Try.pinned (OpenSpec.ofChange chargeFullSpec)

/-- ITS FALSE NEIGHBOUR: 'it returns false'. Refute it at one input. -/
def chargeFullWrong : ChangeSpec := { name := "chargeFull", fn := fun _ => fun
  | [d] => { results := [.lit (.bool false)], args := [d] }
  | _ => none }
def ChargeFullWrongFalsely : Prop := chargeFullRow.holds Try.pinned (OpenSpec.ofChange chargeFullWrong)

/-- 'bikesharelaw37.ChargeTurns': WHATEVER THE INPUT: true; the input reads as it did. -/
def chargeTurnsSpec : ChangeSpec := { name := "chargeTurns", fn := fun _ => fun
  | [d] => { results := [.lit (.bool true)], args := [d] }
  | _ => none }
def chargeTurnsRow : OpenClaim := { program := "ytakjdffebpcmnaa", sum := "89d458336793df22eb3de2bd6462b204970941652fe22b30c4007a145d7f2f90", func := "bikeshare/bikesharelaw37.ChargeTurns", spec := "chargeTurns", apart := false }
def ChargeTurnsSaid : Prop := chargeTurnsRow.holds Try.pinned (OpenSpec.ofChange chargeTurnsSpec)

/-- ITS FALSE NEIGHBOUR: 'it returns false'. Refute it at one input. -/
def chargeTurnsWrong : ChangeSpec := { name := "chargeTurns", fn := fun _ => fun
  | [d] => { results := [.lit (.bool false)], args := [d] }
  | _ => none }
def ChargeTurnsWrongFalsely : Prop := chargeTurnsRow.holds Try.pinned (OpenSpec.ofChange chargeTurnsWrong)

/-- 'bikesharelaw37.ChargeDesks': WHATEVER THE INPUT: true; the input reads as it did. -/
def chargeDesksSpec : ChangeSpec := { name := "chargeDesks", fn := fun _ => fun
  | [d] => { results := [.lit (.bool true)], args := [d] }
  | _ => none }
def chargeDesksRow : OpenClaim := { program := "ytakjdffebpcmnaa", sum := "89d458336793df22eb3de2bd6462b204970941652fe22b30c4007a145d7f2f90", func := "bikeshare/bikesharelaw37.ChargeDesks", spec := "chargeDesks", apart := false }
def ChargeDesksSaid : Prop := chargeDesksRow.holds Try.pinned (OpenSpec.ofChange chargeDesksSpec)

/-- ITS FALSE NEIGHBOUR: 'it returns false'. Refute it at one input. -/
def chargeDesksWrong : ChangeSpec := { name := "chargeDesks", fn := fun _ => fun
  | [d] => { results := [.lit (.bool false)], args := [d] }
  | _ => none }
def ChargeDesksWrongFalsely : Prop := chargeDesksRow.holds Try.pinned (OpenSpec.ofChange chargeDesksWrong)

/-- 'bikesharelaw37.ChargeNone': WHATEVER THE INPUT: true; the input reads as it did. -/
def chargeNoneSpec : ChangeSpec := { name := "chargeNone", fn := fun _ => fun
  | [d] => { results := [.lit (.bool true)], args := [d] }
  | _ => none }
def chargeNoneRow : OpenClaim := { program := "ytakjdffebpcmnaa", sum := "89d458336793df22eb3de2bd6462b204970941652fe22b30c4007a145d7f2f90", func := "bikeshare/bikesharelaw37.ChargeNone", spec := "chargeNone", apart := false }
def ChargeNoneSaid : Prop := chargeNoneRow.holds Try.pinned (OpenSpec.ofChange chargeNoneSpec)

/-- ITS FALSE NEIGHBOUR: 'it returns false'. Refute it at one input. -/
def chargeNoneWrong : ChangeSpec := { name := "chargeNone", fn := fun _ => fun
  | [d] => { results := [.lit (.bool false)], args := [d] }
  | _ => none }
def ChargeNoneWrongFalsely : Prop := chargeNoneRow.holds Try.pinned (OpenSpec.ofChange chargeNoneWrong)

/-- 'bikesharelaw37.ChargePays': WHATEVER THE INPUT: true; the input reads as it did. -/
def chargePaysSpec : ChangeSpec := { name := "chargePays", fn := fun _ => fun
  | [d1, d2, d3] => { results := [.lit (.bool true)], args := [d1, d2, d3] }
  | _ => none }
def chargePaysRow : OpenClaim := { program := "ytakjdffebpcmnaa", sum := "89d458336793df22eb3de2bd6462b204970941652fe22b30c4007a145d7f2f90", func := "bikeshare/bikesharelaw37.ChargePays", spec := "chargePays", unfollowed := true, recurses := true, apart := false }
def ChargePaysSaid : Prop := chargePaysRow.holds Try.pinned (OpenSpec.ofChange chargePaysSpec)

/-- ITS FALSE NEIGHBOUR: 'it returns false'. Refute it at one input. -/
def chargePaysWrong : ChangeSpec := { name := "chargePays", fn := fun _ => fun
  | [d1, d2, d3] => { results := [.lit (.bool false)], args := [d1, d2, d3] }
  | _ => none }
def ChargePaysWrongFalsely : Prop := chargePaysRow.holds Try.pinned (OpenSpec.ofChange chargePaysWrong)

/-- 'bikesharelaw37.ChargeKeeps': WHATEVER THE INPUT: true; the input reads as it did. -/
def chargeKeepsSpec : ChangeSpec := { name := "chargeKeeps", fn := fun _ => fun
  | [d1, d2] => { results := [.lit (.bool true)], args := [d1, d2] }
  | _ => none }
def chargeKeepsRow : OpenClaim := { program := "ytakjdffebpcmnaa", sum := "89d458336793df22eb3de2bd6462b204970941652fe22b30c4007a145d7f2f90", func := "bikeshare/bikesharelaw37.ChargeKeeps", spec := "chargeKeeps", unfollowed := true, recurses := true, apart := false }
def ChargeKeepsSaid : Prop := chargeKeepsRow.holds Try.pinned (OpenSpec.ofChange chargeKeepsSpec)

/-- ITS FALSE NEIGHBOUR: 'it returns false'. Refute it at one input. -/
def chargeKeepsWrong : ChangeSpec := { name := "chargeKeeps", fn := fun _ => fun
  | [d1, d2] => { results := [.lit (.bool false)], args := [d1, d2] }
  | _ => none }
def ChargeKeepsWrongFalsely : Prop := chargeKeepsRow.holds Try.pinned (OpenSpec.ofChange chargeKeepsWrong)

/-- 'bikesharelaw37.ChargeOnce': WHATEVER THE INPUT: true; the input reads as it did. -/
def chargeOnceSpec : ChangeSpec := { name := "chargeOnce", fn := fun _ => fun
  | [d1, d2, d3] => { results := [.lit (.bool true)], args := [d1, d2, d3] }
  | _ => none }
def chargeOnceRow : OpenClaim := { program := "ytakjdffebpcmnaa", sum := "89d458336793df22eb3de2bd6462b204970941652fe22b30c4007a145d7f2f90", func := "bikeshare/bikesharelaw37.ChargeOnce", spec := "chargeOnce", unfollowed := true, recurses := true, apart := false }
def ChargeOnceSaid : Prop := chargeOnceRow.holds Try.pinned (OpenSpec.ofChange chargeOnceSpec)

/-- ITS FALSE NEIGHBOUR: 'it returns false'. Refute it at one input. -/
def chargeOnceWrong : ChangeSpec := { name := "chargeOnce", fn := fun _ => fun
  | [d1, d2, d3] => { results := [.lit (.bool false)], args := [d1, d2, d3] }
  | _ => none }
def ChargeOnceWrongFalsely : Prop := chargeOnceRow.holds Try.pinned (OpenSpec.ofChange chargeOnceWrong)

/- THE SECOND FORM. 'bulk': how many values and letters a reading holds, each counted each time it is reached (what is shared counts as often as it is met; a slice's spare places count too). A statement '..UptoSaid' is the law's where the arguments, and the package variables that the reading takes, are together of bulk at most 1048576: NARROWER than '..Said'. Prove '..Said' where nothing that the law and all that it calls make is longer than what came in: it says more and counts as full. Else prove '..UptoSaid'. A law counts once. -/
mutual
def uptoBulk {H : Type} : DataW H → Nat
  | .lit (.string bytes) => bytes.length + 1
  | .lit _ => 1
  | .nil => 1
  | .ptr d => uptoBulk d + 1
  | .slice elems spare => uptoBulkAll elems + uptoBulkAll spare + 1
  | .agg parts => uptoBulkAll parts + 1
  | .iface _ d => uptoBulk d + 1
  | .map entries => uptoBulkEntries entries + 1
  | .held _ => 1
def uptoBulkAll {H : Type} : List (DataW H) → Nat
  | [] => 0
  | d :: r => uptoBulk d + uptoBulkAll r
def uptoBulkEntries {H : Type} : List (Lit × DataW H) → Nat
  | [] => 0
  | x :: r => uptoBulkEntry x + uptoBulkEntries r
def uptoBulkEntry {H : Type} : Lit × DataW H → Nat
  | (.string bytes, d) => bytes.length + uptoBulk d + 1
  | (_, d) => uptoBulk d + 1
 end
def uptoSmall : (H : Type) → List (DataW H) → Bool := fun _ ds => decide (uptoBulkAll ds ≤ 1048576)
def OpenSpec.upto (s : _root_.Go.ChangeSpec) : _root_.Go.OpenSpec := { _root_.Go.OpenSpec.ofChange s with cond := some uptoSmall }

/-- 'bikesharelaw37.ChargeFull', WHERE WHAT IT READS IS OF BULK AT MOST 1048576: true; the input reads as it did. -/
def chargeFullUptoRow : OpenClaim := { program := "ytakjdffebpcmnaa", sum := "89d458336793df22eb3de2bd6462b204970941652fe22b30c4007a145d7f2f90", func := "bikeshare/bikesharelaw37.ChargeFull", spec := "chargeFull", apart := false, narrowed := true }
def ChargeFullUptoSaid : Prop := chargeFullUptoRow.holds Try.pinned (OpenSpec.upto chargeFullSpec)

/-- 'bikesharelaw37.ChargeTurns', WHERE WHAT IT READS IS OF BULK AT MOST 1048576: true; the input reads as it did. -/
def chargeTurnsUptoRow : OpenClaim := { program := "ytakjdffebpcmnaa", sum := "89d458336793df22eb3de2bd6462b204970941652fe22b30c4007a145d7f2f90", func := "bikeshare/bikesharelaw37.ChargeTurns", spec := "chargeTurns", apart := false, narrowed := true }
def ChargeTurnsUptoSaid : Prop := chargeTurnsUptoRow.holds Try.pinned (OpenSpec.upto chargeTurnsSpec)

/-- 'bikesharelaw37.ChargeDesks', WHERE WHAT IT READS IS OF BULK AT MOST 1048576: true; the input reads as it did. -/
def chargeDesksUptoRow : OpenClaim := { program := "ytakjdffebpcmnaa", sum := "89d458336793df22eb3de2bd6462b204970941652fe22b30c4007a145d7f2f90", func := "bikeshare/bikesharelaw37.ChargeDesks", spec := "chargeDesks", apart := false, narrowed := true }
def ChargeDesksUptoSaid : Prop := chargeDesksUptoRow.holds Try.pinned (OpenSpec.upto chargeDesksSpec)

/-- 'bikesharelaw37.ChargeNone', WHERE WHAT IT READS IS OF BULK AT MOST 1048576: true; the input reads as it did. -/
def chargeNoneUptoRow : OpenClaim := { program := "ytakjdffebpcmnaa", sum := "89d458336793df22eb3de2bd6462b204970941652fe22b30c4007a145d7f2f90", func := "bikeshare/bikesharelaw37.ChargeNone", spec := "chargeNone", apart := false, narrowed := true }
def ChargeNoneUptoSaid : Prop := chargeNoneUptoRow.holds Try.pinned (OpenSpec.upto chargeNoneSpec)

/-- 'bikesharelaw37.ChargePays', WHERE WHAT IT READS IS OF BULK AT MOST 1048576: true; the input reads as it did. -/
def chargePaysUptoRow : OpenClaim := { program := "ytakjdffebpcmnaa", sum := "89d458336793df22eb3de2bd6462b204970941652fe22b30c4007a145d7f2f90", func := "bikeshare/bikesharelaw37.ChargePays", spec := "chargePays", unfollowed := true, recurses := true, apart := false, narrowed := true }
def ChargePaysUptoSaid : Prop := chargePaysUptoRow.holds Try.pinned (OpenSpec.upto chargePaysSpec)

/-- 'bikesharelaw37.ChargeKeeps', WHERE WHAT IT READS IS OF BULK AT MOST 1048576: true; the input reads as it did. -/
def chargeKeepsUptoRow : OpenClaim := { program := "ytakjdffebpcmnaa", sum := "89d458336793df22eb3de2bd6462b204970941652fe22b30c4007a145d7f2f90", func := "bikeshare/bikesharelaw37.ChargeKeeps", spec := "chargeKeeps", unfollowed := true, recurses := true, apart := false, narrowed := true }
def ChargeKeepsUptoSaid : Prop := chargeKeepsUptoRow.holds Try.pinned (OpenSpec.upto chargeKeepsSpec)

/-- 'bikesharelaw37.ChargeOnce', WHERE WHAT IT READS IS OF BULK AT MOST 1048576: true; the input reads as it did. -/
def chargeOnceUptoRow : OpenClaim := { program := "ytakjdffebpcmnaa", sum := "89d458336793df22eb3de2bd6462b204970941652fe22b30c4007a145d7f2f90", func := "bikeshare/bikesharelaw37.ChargeOnce", spec := "chargeOnce", unfollowed := true, recurses := true, apart := false, narrowed := true }
def ChargeOnceUptoSaid : Prop := chargeOnceUptoRow.holds Try.pinned (OpenSpec.upto chargeOnceSpec)

end Rows
end Go.Proofs.Ytakjdffebpcmnaa
