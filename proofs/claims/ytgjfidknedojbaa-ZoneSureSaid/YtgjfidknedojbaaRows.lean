/-
  No cell of these rows narrows 'for every input' (looked for: loops, veiled, ifaces, maps, wideKeys, modest, calm, conditions, laid).
  DERIVED. THE GIVEN ROWS OF THIS SEAT. 7 by the template 'for every input the law returns true; each argument reads behind the call as it read before'; 0 by the template 'total and deterministic' (their statements: YtgjfidknedojbaaTotals.lean).
  GIVEN WITH THE SEED: the statements are not yours to turn. If you find one false, say at which input.
  Laid BY PROGRAM, IN A SANDBOX (cutbox-rows.mjs): the forced cells as the released guide's own fill.sh prints them over the translation dad2cf60659382fe… (all of the seat's roots in one cut). By AI agents, Wed Nov 11 2026. No macro, syntax, notation, axiom, sorry.
-/
import Derived.Test.YtgjfidknedojbaaChecked
import GoSem.Claim
import GoSem.ClaimJoined
import GoSem.ClaimMapViews
import Derived.JoinedTies
import Derived.KernelRfl
namespace Go.Proofs.Ytgjfidknedojbaa
/- THE CELL 'sum', in the pinned program and in every row, IS THE sha256 OF THE DUMP (.gsa) THAT YtgjfidknedojbaaProg.lean LOADS. Nothing in Lean hashes anything: it is a label: what it is worth is what the hold of that sum in a sandbox is worth. -/
noncomputable def Try.pinned : Pinned := { name := "ytgjfidknedojbaa", sum := "dad2cf60659382fe1d3bd53d044b6a569f63df382d4a19e35e0292410e274b4d", checked := Try.checked }
namespace Rows
def none {H : Type} : Left H := { results := [], args := [] }

/-- 'bikesharelaw26.ZoneChecks': WHATEVER THE INPUT: true; the input reads as it did. -/
def zoneChecksSpec : ChangeSpec := { name := "zoneChecks", fn := fun _ => fun
  | [d] => { results := [.lit (.bool true)], args := [d] }
  | _ => none }
def zoneChecksRow : OpenClaim := { program := "ytgjfidknedojbaa", sum := "dad2cf60659382fe1d3bd53d044b6a569f63df382d4a19e35e0292410e274b4d", func := "bikeshare/bikesharelaw26.ZoneChecks", spec := "zoneChecks", unfollowed := true, recurses := true, apart := false }
def ZoneChecksSaid : Prop := zoneChecksRow.holds Try.pinned (OpenSpec.ofChange zoneChecksSpec)

/-- ITS FALSE NEIGHBOUR: 'it returns false'. Refute it at one input. -/
def zoneChecksWrong : ChangeSpec := { name := "zoneChecks", fn := fun _ => fun
  | [d] => { results := [.lit (.bool false)], args := [d] }
  | _ => none }
def ZoneChecksWrongFalsely : Prop := zoneChecksRow.holds Try.pinned (OpenSpec.ofChange zoneChecksWrong)

/-- 'bikesharelaw26.ZoneFinds': WHATEVER THE INPUT: true; the input reads as it did. -/
def zoneFindsSpec : ChangeSpec := { name := "zoneFinds", fn := fun _ => fun
  | [d1, d2] => { results := [.lit (.bool true)], args := [d1, d2] }
  | _ => none }
def zoneFindsRow : OpenClaim := { program := "ytgjfidknedojbaa", sum := "dad2cf60659382fe1d3bd53d044b6a569f63df382d4a19e35e0292410e274b4d", func := "bikeshare/bikesharelaw26.ZoneFinds", spec := "zoneFinds", unfollowed := true, recurses := true, apart := false }
def ZoneFindsSaid : Prop := zoneFindsRow.holds Try.pinned (OpenSpec.ofChange zoneFindsSpec)

/-- ITS FALSE NEIGHBOUR: 'it returns false'. Refute it at one input. -/
def zoneFindsWrong : ChangeSpec := { name := "zoneFinds", fn := fun _ => fun
  | [d1, d2] => { results := [.lit (.bool false)], args := [d1, d2] }
  | _ => none }
def ZoneFindsWrongFalsely : Prop := zoneFindsRow.holds Try.pinned (OpenSpec.ofChange zoneFindsWrong)

/-- 'bikesharelaw26.ZoneDiscs': WHATEVER THE INPUT: true; the input reads as it did. -/
def zoneDiscsSpec : ChangeSpec := { name := "zoneDiscs", fn := fun _ => fun
  | [d1, d2, d3] => { results := [.lit (.bool true)], args := [d1, d2, d3] }
  | _ => none }
def zoneDiscsRow : OpenClaim := { program := "ytgjfidknedojbaa", sum := "dad2cf60659382fe1d3bd53d044b6a569f63df382d4a19e35e0292410e274b4d", func := "bikeshare/bikesharelaw26.ZoneDiscs", spec := "zoneDiscs", unfollowed := true, recurses := true, apart := false }
def ZoneDiscsSaid : Prop := zoneDiscsRow.holds Try.pinned (OpenSpec.ofChange zoneDiscsSpec)

/-- ITS FALSE NEIGHBOUR: 'it returns false'. Refute it at one input. -/
def zoneDiscsWrong : ChangeSpec := { name := "zoneDiscs", fn := fun _ => fun
  | [d1, d2, d3] => { results := [.lit (.bool false)], args := [d1, d2, d3] }
  | _ => none }
def ZoneDiscsWrongFalsely : Prop := zoneDiscsRow.holds Try.pinned (OpenSpec.ofChange zoneDiscsWrong)

/-- 'bikesharelaw26.ZoneSure': WHATEVER THE INPUT: true; the input reads as it did. -/
def zoneSureSpec : ChangeSpec := { name := "zoneSure", fn := fun _ => fun
  | [d1, d2, d3] => { results := [.lit (.bool true)], args := [d1, d2, d3] }
  | _ => none }
def zoneSureRow : OpenClaim := { program := "ytgjfidknedojbaa", sum := "dad2cf60659382fe1d3bd53d044b6a569f63df382d4a19e35e0292410e274b4d", func := "bikeshare/bikesharelaw26.ZoneSure", spec := "zoneSure", unfollowed := true, recurses := true, apart := false }
def ZoneSureSaid : Prop := zoneSureRow.holds Try.pinned (OpenSpec.ofChange zoneSureSpec)

/-- ITS FALSE NEIGHBOUR: 'it returns false'. Refute it at one input. -/
def zoneSureWrong : ChangeSpec := { name := "zoneSure", fn := fun _ => fun
  | [d1, d2, d3] => { results := [.lit (.bool false)], args := [d1, d2, d3] }
  | _ => none }
def ZoneSureWrongFalsely : Prop := zoneSureRow.holds Try.pinned (OpenSpec.ofChange zoneSureWrong)

/-- 'bikesharelaw26.ZonePoints': WHATEVER THE INPUT: true; the input reads as it did. -/
def zonePointsSpec : ChangeSpec := { name := "zonePoints", fn := fun _ => fun
  | [d1, d2] => { results := [.lit (.bool true)], args := [d1, d2] }
  | _ => none }
def zonePointsRow : OpenClaim := { program := "ytgjfidknedojbaa", sum := "dad2cf60659382fe1d3bd53d044b6a569f63df382d4a19e35e0292410e274b4d", func := "bikeshare/bikesharelaw26.ZonePoints", spec := "zonePoints", unfollowed := true, recurses := true, apart := false }
def ZonePointsSaid : Prop := zonePointsRow.holds Try.pinned (OpenSpec.ofChange zonePointsSpec)

/-- ITS FALSE NEIGHBOUR: 'it returns false'. Refute it at one input. -/
def zonePointsWrong : ChangeSpec := { name := "zonePoints", fn := fun _ => fun
  | [d1, d2] => { results := [.lit (.bool false)], args := [d1, d2] }
  | _ => none }
def ZonePointsWrongFalsely : Prop := zonePointsRow.holds Try.pinned (OpenSpec.ofChange zonePointsWrong)

/-- 'bikesharelaw26.ZoneGrows': WHATEVER THE INPUT: true; the input reads as it did. -/
def zoneGrowsSpec : ChangeSpec := { name := "zoneGrows", fn := fun _ => fun
  | [d1, d2, d3] => { results := [.lit (.bool true)], args := [d1, d2, d3] }
  | _ => none }
def zoneGrowsRow : OpenClaim := { program := "ytgjfidknedojbaa", sum := "dad2cf60659382fe1d3bd53d044b6a569f63df382d4a19e35e0292410e274b4d", func := "bikeshare/bikesharelaw26.ZoneGrows", spec := "zoneGrows", unfollowed := true, recurses := true, apart := false }
def ZoneGrowsSaid : Prop := zoneGrowsRow.holds Try.pinned (OpenSpec.ofChange zoneGrowsSpec)

/-- ITS FALSE NEIGHBOUR: 'it returns false'. Refute it at one input. -/
def zoneGrowsWrong : ChangeSpec := { name := "zoneGrows", fn := fun _ => fun
  | [d1, d2, d3] => { results := [.lit (.bool false)], args := [d1, d2, d3] }
  | _ => none }
def ZoneGrowsWrongFalsely : Prop := zoneGrowsRow.holds Try.pinned (OpenSpec.ofChange zoneGrowsWrong)

/-- 'bikesharelaw26.ZoneOrders': WHATEVER THE INPUT: true; the input reads as it did. -/
def zoneOrdersSpec : ChangeSpec := { name := "zoneOrders", fn := fun _ => fun
  | [d1, d2, d3] => { results := [.lit (.bool true)], args := [d1, d2, d3] }
  | _ => none }
def zoneOrdersRow : OpenClaim := { program := "ytgjfidknedojbaa", sum := "dad2cf60659382fe1d3bd53d044b6a569f63df382d4a19e35e0292410e274b4d", func := "bikeshare/bikesharelaw26.ZoneOrders", spec := "zoneOrders", unfollowed := true, recurses := true, apart := false }
def ZoneOrdersSaid : Prop := zoneOrdersRow.holds Try.pinned (OpenSpec.ofChange zoneOrdersSpec)

/-- ITS FALSE NEIGHBOUR: 'it returns false'. Refute it at one input. -/
def zoneOrdersWrong : ChangeSpec := { name := "zoneOrders", fn := fun _ => fun
  | [d1, d2, d3] => { results := [.lit (.bool false)], args := [d1, d2, d3] }
  | _ => none }
def ZoneOrdersWrongFalsely : Prop := zoneOrdersRow.holds Try.pinned (OpenSpec.ofChange zoneOrdersWrong)

/- THE SECOND FORM. 'bulk': how many values and letters a reading holds, each counted each time it is reached (what is shared counts as often as it is met; a slice's spare places count too). A statement '..UptoSaid' is the law's where the arguments, and the package variables that the reading takes, are together of bulk at most 1048576: NARROWER than '..Said'. Prove '..Said' where nothing that the law and all that it calls make is longer than what came in: it says more and counts as full. Else prove '..UptoSaid'. A law counts once. -/
mutual
def uptoBulk {H : Type} : DataW H → Nat
  | .lit (.string bytes) => bytes.length + 1
  | .lit _ => 1
  | .nil => 1
  | .ptr d => uptoBulk d + 1
  | .slice elems spare => uptoBulkAll elems + uptoBulkAll spare + 1
  | .agg parts => uptoBulkAll parts + 1
  | .iface _ d => uptoBulk d + 1
  | .map entries => uptoBulkEntries entries + 1
  | .held _ => 1
def uptoBulkAll {H : Type} : List (DataW H) → Nat
  | [] => 0
  | d :: r => uptoBulk d + uptoBulkAll r
def uptoBulkEntries {H : Type} : List (Lit × DataW H) → Nat
  | [] => 0
  | x :: r => uptoBulkEntry x + uptoBulkEntries r
def uptoBulkEntry {H : Type} : Lit × DataW H → Nat
  | (.string bytes, d) => bytes.length + uptoBulk d + 1
  | (_, d) => uptoBulk d + 1
 end
def uptoSmall : (H : Type) → List (DataW H) → Bool := fun _ ds => decide (uptoBulkAll ds ≤ 1048576)
def OpenSpec.upto (s : _root_.Go.ChangeSpec) : _root_.Go.OpenSpec := { _root_.Go.OpenSpec.ofChange s with cond := some uptoSmall }

/-- 'bikesharelaw26.ZoneChecks', WHERE WHAT IT READS IS OF BULK AT MOST 1048576: true; the input reads as it did. -/
def zoneChecksUptoRow : OpenClaim := { program := "ytgjfidknedojbaa", sum := "dad2cf60659382fe1d3bd53d044b6a569f63df382d4a19e35e0292410e274b4d", func := "bikeshare/bikesharelaw26.ZoneChecks", spec := "zoneChecks", unfollowed := true, recurses := true, apart := false, narrowed := true }
def ZoneChecksUptoSaid : Prop := zoneChecksUptoRow.holds Try.pinned (OpenSpec.upto zoneChecksSpec)

/-- 'bikesharelaw26.ZoneFinds', WHERE WHAT IT READS IS OF BULK AT MOST 1048576: true; the input reads as it did. -/
def zoneFindsUptoRow : OpenClaim := { program := "ytgjfidknedojbaa", sum := "dad2cf60659382fe1d3bd53d044b6a569f63df382d4a19e35e0292410e274b4d", func := "bikeshare/bikesharelaw26.ZoneFinds", spec := "zoneFinds", unfollowed := true, recurses := true, apart := false, narrowed := true }
def ZoneFindsUptoSaid : Prop := zoneFindsUptoRow.holds Try.pinned (OpenSpec.upto zoneFindsSpec)

/-- 'bikesharelaw26.ZoneDiscs', WHERE WHAT IT READS IS OF BULK AT MOST 1048576: true; the input reads as it did. -/
def zoneDiscsUptoRow : OpenClaim := { program := "ytgjfidknedojbaa", sum := "dad2cf60659382fe1d3bd53d044b6a569f63df382d4a19e35e0292410e274b4d", func := "bikeshare/bikesharelaw26.ZoneDiscs", spec := "zoneDiscs", unfollowed := true, recurses := true, apart := false, narrowed := true }
def ZoneDiscsUptoSaid : Prop := zoneDiscsUptoRow.holds Try.pinned (OpenSpec.upto zoneDiscsSpec)

/-- 'bikesharelaw26.ZoneSure', WHERE WHAT IT READS IS OF BULK AT MOST 1048576: true; the input reads as it did. -/
def zoneSureUptoRow : OpenClaim := { program := "ytgjfidknedojbaa", sum := "dad2cf60659382fe1d3bd53d044b6a569f63df382d4a19e35e0292410e274b4d", func := "bikeshare/bikesharelaw26.ZoneSure", spec := "zoneSure", unfollowed := true, recurses := true, apart := false, narrowed := true }
def ZoneSureUptoSaid : Prop := zoneSureUptoRow.holds Try.pinned (OpenSpec.upto zoneSureSpec)

/-- 'bikesharelaw26.ZonePoints', WHERE WHAT IT READS IS OF BULK AT MOST 1048576: true; the input reads as it did. -/
def zonePointsUptoRow : OpenClaim := { program := "ytgjfidknedojbaa", sum := "dad2cf60659382fe1d3bd53d044b6a569f63df382d4a19e35e0292410e274b4d", func := "bikeshare/bikesharelaw26.ZonePoints", spec := "zonePoints", unfollowed := true, recurses := true, apart := false, narrowed := true }
def ZonePointsUptoSaid : Prop := zonePointsUptoRow.holds Try.pinned (OpenSpec.upto zonePointsSpec)

/-- 'bikesharelaw26.ZoneGrows', WHERE WHAT IT READS IS OF BULK AT MOST 1048576: true; the input reads as it did. -/
def zoneGrowsUptoRow : OpenClaim := { program := "ytgjfidknedojbaa", sum := "dad2cf60659382fe1d3bd53d044b6a569f63df382d4a19e35e0292410e274b4d", func := "bikeshare/bikesharelaw26.ZoneGrows", spec := "zoneGrows", unfollowed := true, recurses := true, apart := false, narrowed := true }
def ZoneGrowsUptoSaid : Prop := zoneGrowsUptoRow.holds Try.pinned (OpenSpec.upto zoneGrowsSpec)

/-- 'bikesharelaw26.ZoneOrders', WHERE WHAT IT READS IS OF BULK AT MOST 1048576: true; the input reads as it did. -/
def zoneOrdersUptoRow : OpenClaim := { program := "ytgjfidknedojbaa", sum := "dad2cf60659382fe1d3bd53d044b6a569f63df382d4a19e35e0292410e274b4d", func := "bikeshare/bikesharelaw26.ZoneOrders", spec := "zoneOrders", unfollowed := true, recurses := true, apart := false, narrowed := true }
def ZoneOrdersUptoSaid : Prop := zoneOrdersUptoRow.holds Try.pinned (OpenSpec.upto zoneOrdersSpec)

end Rows
end Go.Proofs.Ytgjfidknedojbaa
