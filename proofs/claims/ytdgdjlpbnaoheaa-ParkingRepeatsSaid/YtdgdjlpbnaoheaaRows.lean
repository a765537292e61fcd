/-
  No cell of these rows narrows 'for every input' (looked for: loops, veiled, ifaces, maps, wideKeys, modest, calm, conditions, laid).
  DERIVED. THE GIVEN ROWS OF THIS SEAT. 7 by the template 'for every input the law returns true; each argument reads behind the call as it read before'; 0 by the template 'total and deterministic' (their statements: YtdgdjlpbnaoheaaTotals.lean).
  GIVEN WITH THE SEED: the statements are not yours to turn. If you find one false, say at which input.
  Laid BY PROGRAM, IN A SANDBOX (cutbox-rows.mjs): the forced cells as the released guide's own fill.sh prints them over the translation 2acae050dad715a5… (all of the seat's roots in one cut). By AI agents, Wed Nov 11 2026. No macro, syntax, notation, axiom, sorry.
-/
import Derived.Test.YtdgdjlpbnaoheaaChecked
import GoSem.Claim
import GoSem.ClaimJoined
import GoSem.ClaimMapViews
import Derived.JoinedTies
import Derived.KernelRfl
namespace Go.Proofs.Ytdgdjlpbnaoheaa
/- THE CELL 'sum', in the pinned program and in every row, IS THE sha256 OF THE DUMP (.gsa) THAT YtdgdjlpbnaoheaaProg.lean LOADS. Nothing in Lean hashes anything: it is a label: what it is worth is what the hold of that sum in a sandbox is worth. -/
noncomputable def Try.pinned : Pinned := { name := "ytdgdjlpbnaoheaa", sum := "2acae050dad715a5c307f2de2e376db403f4beeb4f54b14219cba109f0517d48", checked := Try.checked }
namespace Rows
def none {H : Type} : Left H := { results := [], args := [] }

/-- 'bikesharelaw32.ParkingPhotos': WHATEVER THE INPUT: true; the input reads as it did. -/
def parkingPhotosSpec : ChangeSpec := { name := "parkingPhotos", fn := fun _ => fun
  | [d1, d2, d3] => { results := [.lit (.bool true)], args := [d1, d2, d3] }
  | _ => none }
def parkingPhotosRow : OpenClaim := { program := "ytdgdjlpbnaoheaa", sum := "2acae050dad715a5c307f2de2e376db403f4beeb4f54b14219cba109f0517d48", func := "bikeshare/bikesharelaw32.ParkingPhotos", spec := "parkingPhotos", unfollowed := true, recurses := true, apart := false }
def ParkingPhotosSaid : Prop := parkingPhotosRow.holds Try.pinned (OpenSpec.ofChange parkingPhotosSpec)

/-- ITS FALSE NEIGHBOUR: 'it returns false'. Refute it at one input. -/
def parkingPhotosWrong : ChangeSpec := { name := "parkingPhotos", fn := fun _ => fun
  | [d1, d2, d3] => { results := [.lit (.bool false)], args := [d1, d2, d3] }
  | _ => none }
def ParkingPhotosWrongFalsely : Prop := parkingPhotosRow.holds Try.pinned (OpenSpec.ofChange parkingPhotosWrong)

/-- 'bikesharelaw32.ParkingRepeats': WHATEVER THE INPUT: true; the input reads as it did. -/
def parkingRepeatsSpec : ChangeSpec := { name := "parkingRepeats", fn := fun _ => fun
  | [d1, d2, d3] => { results := [.lit (.bool true)], args := [d1, d2, d3] }
  | _ => none }
def parkingRepeatsRow : OpenClaim := { program := "ytdgdjlpbnaoheaa", sum := "2acae050dad715a5c307f2de2e376db403f4beeb4f54b14219cba109f0517d48", func := "bikeshare/bikesharelaw32.ParkingRepeats", spec := "parkingRepeats", unfollowed := true, recurses := true, apart := false }
def ParkingRepeatsSaid : Prop := parkingRepeatsRow.holds Try.pinned (OpenSpec.ofChange parkingRepeatsSpec)

/-- ITS FALSE NEIGHBOUR: 'it returns false'. Refute it at one input. -/
def parkingRepeatsWrong : ChangeSpec := { name := "parkingRepeats", fn := fun _ => fun
  | [d1, d2, d3] => { results := [.lit (.bool false)], args := [d1, d2, d3] }
  | _ => none }
def ParkingRepeatsWrongFalsely : Prop := parkingRepeatsRow.holds Try.pinned (OpenSpec.ofChange parkingRepeatsWrong)

/-- 'bikesharelaw32.ParkingChecks': WHATEVER THE INPUT: true; the input reads as it did. -/
def parkingChecksSpec : ChangeSpec := { name := "parkingChecks", fn := fun _ => fun
  | [d] => { results := [.lit (.bool true)], args := [d] }
  | _ => none }
def parkingChecksRow : OpenClaim := { program := "ytdgdjlpbnaoheaa", sum := "2acae050dad715a5c307f2de2e376db403f4beeb4f54b14219cba109f0517d48", func := "bikeshare/bikesharelaw32.ParkingChecks", spec := "parkingChecks", unfollowed := true, recurses := true, apart := false }
def ParkingChecksSaid : Prop := parkingChecksRow.holds Try.pinned (OpenSpec.ofChange parkingChecksSpec)

/-- ITS FALSE NEIGHBOUR: 'it returns false'. Refute it at one input. -/
def parkingChecksWrong : ChangeSpec := { name := "parkingChecks", fn := fun _ => fun
  | [d] => { results := [.lit (.bool false)], args := [d] }
  | _ => none }
def ParkingChecksWrongFalsely : Prop := parkingChecksRow.holds Try.pinned (OpenSpec.ofChange parkingChecksWrong)

/-- 'bikesharelaw32.ParkingJudges': WHATEVER THE INPUT: true; the input reads as it did. -/
def parkingJudgesSpec : ChangeSpec := { name := "parkingJudges", fn := fun _ => fun
  | [d1, d2, d3] => { results := [.lit (.bool true)], args := [d1, d2, d3] }
  | _ => none }
def parkingJudgesRow : OpenClaim := { program := "ytdgdjlpbnaoheaa", sum := "2acae050dad715a5c307f2de2e376db403f4beeb4f54b14219cba109f0517d48", func := "bikeshare/bikesharelaw32.ParkingJudges", spec := "parkingJudges", unfollowed := true, recurses := true, apart := false }
def ParkingJudgesSaid : Prop := parkingJudgesRow.holds Try.pinned (OpenSpec.ofChange parkingJudgesSpec)

/-- ITS FALSE NEIGHBOUR: 'it returns false'. Refute it at one input. -/
def parkingJudgesWrong : ChangeSpec := { name := "parkingJudges", fn := fun _ => fun
  | [d1, d2, d3] => { results := [.lit (.bool false)], args := [d1, d2, d3] }
  | _ => none }
def ParkingJudgesWrongFalsely : Prop := parkingJudgesRow.holds Try.pinned (OpenSpec.ofChange parkingJudgesWrong)

/-- 'bikesharelaw32.ParkingAll': WHATEVER THE INPUT: true; the input reads as it did. -/
def parkingAllSpec : ChangeSpec := { name := "parkingAll", fn := fun _ => fun
  | [d1, d2, d3] => { results := [.lit (.bool true)], args := [d1, d2, d3] }
  | _ => none }
def parkingAllRow : OpenClaim := { program := "ytdgdjlpbnaoheaa", sum := "2acae050dad715a5c307f2de2e376db403f4beeb4f54b14219cba109f0517d48", func := "bikeshare/bikesharelaw32.ParkingAll", spec := "parkingAll", unfollowed := true, recurses := true, apart := false }
def ParkingAllSaid : Prop := parkingAllRow.holds Try.pinned (OpenSpec.ofChange parkingAllSpec)

/-- ITS FALSE NEIGHBOUR: 'it returns false'. Refute it at one input. -/
def parkingAllWrong : ChangeSpec := { name := "parkingAll", fn := fun _ => fun
  | [d1, d2, d3] => { results := [.lit (.bool false)], args := [d1, d2, d3] }
  | _ => none }
def ParkingAllWrongFalsely : Prop := parkingAllRow.holds Try.pinned (OpenSpec.ofChange parkingAllWrong)

/-- 'bikesharelaw32.ParkingFair': WHATEVER THE INPUT: true; the input reads as it did. -/
def parkingFairSpec : ChangeSpec := { name := "parkingFair", fn := fun _ => fun
  | [d1, d2, d3, d4] => { results := [.lit (.bool true)], args := [d1, d2, d3, d4] }
  | _ => none }
def parkingFairRow : OpenClaim := { program := "ytdgdjlpbnaoheaa", sum := "2acae050dad715a5c307f2de2e376db403f4beeb4f54b14219cba109f0517d48", func := "bikeshare/bikesharelaw32.ParkingFair", spec := "parkingFair", unfollowed := true, recurses := true, apart := false }
def ParkingFairSaid : Prop := parkingFairRow.holds Try.pinned (OpenSpec.ofChange parkingFairSpec)

/-- ITS FALSE NEIGHBOUR: 'it returns false'. Refute it at one input. -/
def parkingFairWrong : ChangeSpec := { name := "parkingFair", fn := fun _ => fun
  | [d1, d2, d3, d4] => { results := [.lit (.bool false)], args := [d1, d2, d3, d4] }
  | _ => none }
def ParkingFairWrongFalsely : Prop := parkingFairRow.holds Try.pinned (OpenSpec.ofChange parkingFairWrong)

/-- 'bikesharelaw32.ParkingCertain': WHATEVER THE INPUT: true; the input reads as it did. -/
def parkingCertainSpec : ChangeSpec := { name := "parkingCertain", fn := fun _ => fun
  | [d1, d2, d3] => { results := [.lit (.bool true)], args := [d1, d2, d3] }
  | _ => none }
def parkingCertainRow : OpenClaim := { program := "ytdgdjlpbnaoheaa", sum := "2acae050dad715a5c307f2de2e376db403f4beeb4f54b14219cba109f0517d48", func := "bikeshare/bikesharelaw32.ParkingCertain", spec := "parkingCertain", unfollowed := true, recurses := true, apart := false }
def ParkingCertainSaid : Prop := parkingCertainRow.holds Try.pinned (OpenSpec.ofChange parkingCertainSpec)

/-- ITS FALSE NEIGHBOUR: 'it returns false'. Refute it at one input. -/
def parkingCertainWrong : ChangeSpec := { name := "parkingCertain", fn := fun _ => fun
  | [d1, d2, d3] => { results := [.lit (.bool false)], args := [d1, d2, d3] }
  | _ => none }
def ParkingCertainWrongFalsely : Prop := parkingCertainRow.holds Try.pinned (OpenSpec.ofChange parkingCertainWrong)

/- THE SECOND FORM. 'bulk': how many values and letters a reading holds, each counted each time it is reached (what is shared counts as often as it is met; a slice's spare places count too). A statement '..UptoSaid' is the law's where the arguments, and the package variables that the reading takes, are together of bulk at most 1048576: NARROWER than '..Said'. Prove '..Said' where nothing that the law and all that it calls make is longer than what came in: it says more and counts as full. Else prove '..UptoSaid'. A law counts once. -/
mutual
def uptoBulk {H : Type} : DataW H → Nat
  | .lit (.string bytes) => bytes.length + 1
  | .lit _ => 1
  | .nil => 1
  | .ptr d => uptoBulk d + 1
  | .slice elems spare => uptoBulkAll elems + uptoBulkAll spare + 1
  | .agg parts => uptoBulkAll parts + 1
  | .iface _ d => uptoBulk d + 1
  | .map entries => uptoBulkEntries entries + 1
  | .held _ => 1
def uptoBulkAll {H : Type} : List (DataW H) → Nat
  | [] => 0
  | d :: r => uptoBulk d + uptoBulkAll r
def uptoBulkEntries {H : Type} : List (Lit × DataW H) → Nat
  | [] => 0
  | x :: r => uptoBulkEntry x + uptoBulkEntries r
def uptoBulkEntry {H : Type} : Lit × DataW H → Nat
  | (.string bytes, d) => bytes.length + uptoBulk d + 1
  | (_, d) => uptoBulk d + 1
 end
def uptoSmall : (H : Type) → List (DataW H) → Bool := fun _ ds => decide (uptoBulkAll ds ≤ 1048576)
def OpenSpec.upto (s : _root_.Go.ChangeSpec) : _root_.Go.OpenSpec := { _root_.Go.OpenSpec.ofChange s with cond := some uptoSmall }

/-- 'bikesharelaw32.ParkingPhotos', WHERE WHAT IT READS IS OF BULK AT MOST 1048576: true; the input reads as it did. -/
def parkingPhotosUptoRow : OpenClaim := { program := "ytdgdjlpbnaoheaa", sum := "2acae050dad715a5c307f2de2e376db403f4beeb4f54b14219cba109f0517d48", func := "bikeshare/bikesharelaw32.ParkingPhotos", spec := "parkingPhotos", unfollowed := true, recurses := true, apart := false, narrowed := true }
def ParkingPhotosUptoSaid : Prop := parkingPhotosUptoRow.holds Try.pinned (OpenSpec.upto parkingPhotosSpec)

/-- 'bikesharelaw32.ParkingRepeats', WHERE WHAT IT READS IS OF BULK AT MOST 1048576: true; the input reads as it did. -/
def parkingRepeatsUptoRow : OpenClaim := { program := "ytdgdjlpbnaoheaa", sum := "2acae050dad715a5c307f2de2e376db403f4beeb4f54b14219cba109f0517d48", func := "bikeshare/bikesharelaw32.ParkingRepeats", spec := "parkingRepeats", unfollowed := true, recurses := true, apart := false, narrowed := true }
def ParkingRepeatsUptoSaid : Prop := parkingRepeatsUptoRow.holds Try.pinned (OpenSpec.upto parkingRepeatsSpec)

/-- 'bikesharelaw32.ParkingChecks', WHERE WHAT IT READS IS OF BULK AT MOST 1048576: true; the input reads as it did. -/
def parkingChecksUptoRow : OpenClaim := { program := "ytdgdjlpbnaoheaa", sum := "2acae050dad715a5c307f2de2e376db403f4beeb4f54b14219cba109f0517d48", func := "bikeshare/bikesharelaw32.ParkingChecks", spec := "parkingChecks", unfollowed := true, recurses := true, apart := false, narrowed := true }
def ParkingChecksUptoSaid : Prop := parkingChecksUptoRow.holds Try.pinned (OpenSpec.upto parkingChecksSpec)

/-- 'bikesharelaw32.ParkingJudges', WHERE WHAT IT READS IS OF BULK AT MOST 1048576: true; the input reads as it did. -/
def parkingJudgesUptoRow : OpenClaim := { program := "ytdgdjlpbnaoheaa", sum := "2acae050dad715a5c307f2de2e376db403f4beeb4f54b14219cba109f0517d48", func := "bikeshare/bikesharelaw32.ParkingJudges", spec := "parkingJudges", unfollowed := true, recurses := true, apart := false, narrowed := true }
def ParkingJudgesUptoSaid : Prop := parkingJudgesUptoRow.holds Try.pinned (OpenSpec.upto parkingJudgesSpec)

/-- 'bikesharelaw32.ParkingAll', WHERE WHAT IT READS IS OF BULK AT MOST 1048576: true; the input reads as it did. -/
def parkingAllUptoRow : OpenClaim := { program := "ytdgdjlpbnaoheaa", sum := "2acae050dad715a5c307f2de2e376db403f4beeb4f54b14219cba109f0517d48", func := "bikeshare/bikesharelaw32.ParkingAll", spec := "parkingAll", unfollowed := true, recurses := true, apart := false, narrowed := true }
def ParkingAllUptoSaid : Prop := parkingAllUptoRow.holds Try.pinned (OpenSpec.upto parkingAllSpec)

/-- 'bikesharelaw32.ParkingFair', WHERE WHAT IT READS IS OF BULK AT MOST 1048576: true; the input reads as it did. -/
def parkingFairUptoRow : OpenClaim := { program := "ytdgdjlpbnaoheaa", sum := "2acae050dad715a5c307f2de2e376db403f4beeb4f54b14219cba109f0517d48", func := "bikeshare/bikesharelaw32.ParkingFair", spec := "parkingFair", unfollowed := true, recurses := true, apart := false, narrowed := true }
def ParkingFairUptoSaid : Prop := parkingFairUptoRow.holds Try.pinned (OpenSpec.upto parkingFairSpec)

/-- 'bikesharelaw32.ParkingCertain', WHERE WHAT IT READS IS OF BULK AT MOST 1048576: true; the input reads as it did. -/
def parkingCertainUptoRow : OpenClaim := { program := "ytdgdjlpbnaoheaa", sum := "2acae050dad715a5c307f2de2e376db403f4beeb4f54b14219cba109f0517d48", func := "bikeshare/bikesharelaw32.ParkingCertain", spec := "parkingCertain", unfollowed := true, recurses := true, apart := false, narrowed := true }
def ParkingCertainUptoSaid : Prop := parkingCertainUptoRow.holds Try.pinned (OpenSpec.upto parkingCertainSpec)

end Rows
end Go.Proofs.Ytdgdjlpbnaoheaa
