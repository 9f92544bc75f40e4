/-
  No cell of these rows narrows 'for every input' (looked for: loops, veiled, ifaces, maps, wideKeys, modest, calm, conditions, laid).
  DERIVED. THE GIVEN ROWS OF THIS SEAT. 6 by the template 'for every input the law returns true; each argument reads behind the call as it read before'; 0 by the template 'total and deterministic' (their statements: YtfchbehmeppckaaGreatTotals.lean).
  GIVEN WITH THE SEED: the statements are not yours to turn. If you find one false, say at which input.
  Laid BY PROGRAM, IN A SANDBOX (cutbox-rows.mjs): the forced cells as the released guide's own fill.sh prints them over the translation fd902a0454c8d792… (all of the seat's roots in one cut). By AI agents, Wed Nov 11 2026. No macro, syntax, notation, axiom, sorry.
-/
import Derived.Test.YtfchbehmeppckaaGreatChecked
import GoSem.Claim
import GoSem.ClaimJoined
import GoSem.ClaimMapViews
import Derived.JoinedTies
import Derived.KernelRfl
namespace Go.Proofs.YtfchbehmeppckaaGreat
/- THE CELL 'sum', in the pinned program and in every row, IS THE sha256 OF THE DUMP (.gsa) THAT YtfchbehmeppckaaGreatProg.lean LOADS. Nothing in Lean hashes anything: it is a label: what it is worth is what the hold of that sum in a sandbox is worth. -/
noncomputable def Tryz.pinned : Pinned := { name := "ytfchbehmeppckaagreat", sum := "fd902a0454c8d792290c4a2223eb1ccd129d3d353e663348b68aa55b0675054e", checked := Tryz.checked }
namespace Rows
def none {H : Type} : Left H := { results := [], args := [] }

/-- 'examboardlaw38.StoppingChecks': WHATEVER THE INPUT: true; the input reads as it did. -/
def stoppingChecksSpec : ChangeSpec := { name := "stoppingChecks", fn := fun _ => fun
  | [d] => { results := [.lit (.bool true)], args := [d] }
  | _ => none }
def stoppingChecksRow : OpenClaim := { program := "ytfchbehmeppckaagreat", sum := "fd902a0454c8d792290c4a2223eb1ccd129d3d353e663348b68aa55b0675054e", func := "examboard/examboardlaw38.StoppingChecks", spec := "stoppingChecks", unfollowed := true, recurses := true, apart := false }
def StoppingChecksSaid : Prop := stoppingChecksRow.holds Tryz.pinned (OpenSpec.ofChange stoppingChecksSpec)

/-- ITS FALSE NEIGHBOUR: 'it returns false'. Refute it at one input. -/
def stoppingChecksWrong : ChangeSpec := { name := "stoppingChecks", fn := fun _ => fun
  | [d] => { results := [.lit (.bool false)], args := [d] }
  | _ => none }
def StoppingChecksWrongFalsely : Prop := stoppingChecksRow.holds Tryz.pinned (OpenSpec.ofChange stoppingChecksWrong)

/-- 'examboardlaw38.StoppingReasons': WHATEVER THE INPUT: true; the input reads as it did. -/
def stoppingReasonsSpec : ChangeSpec := { name := "stoppingReasons", fn := fun _ => fun
  | [d1, d2, d3] => { results := [.lit (.bool true)], args := [d1, d2, d3] }
  | _ => none }
def stoppingReasonsRow : OpenClaim := { program := "ytfchbehmeppckaagreat", sum := "fd902a0454c8d792290c4a2223eb1ccd129d3d353e663348b68aa55b0675054e", func := "examboard/examboardlaw38.StoppingReasons", spec := "stoppingReasons", unfollowed := true, recurses := true, apart := false }
def StoppingReasonsSaid : Prop := stoppingReasonsRow.holds Tryz.pinned (OpenSpec.ofChange stoppingReasonsSpec)

/-- ITS FALSE NEIGHBOUR: 'it returns false'. Refute it at one input. -/
def stoppingReasonsWrong : ChangeSpec := { name := "stoppingReasons", fn := fun _ => fun
  | [d1, d2, d3] => { results := [.lit (.bool false)], args := [d1, d2, d3] }
  | _ => none }
def StoppingReasonsWrongFalsely : Prop := stoppingReasonsRow.holds Tryz.pinned (OpenSpec.ofChange stoppingReasonsWrong)

/-- 'examboardlaw38.StoppingFirst': WHATEVER THE INPUT: true; the input reads as it did. -/
def stoppingFirstSpec : ChangeSpec := { name := "stoppingFirst", fn := fun _ => fun
  | [d1, d2] => { results := [.lit (.bool true)], args := [d1, d2] }
  | _ => none }
def stoppingFirstRow : OpenClaim := { program := "ytfchbehmeppckaagreat", sum := "fd902a0454c8d792290c4a2223eb1ccd129d3d353e663348b68aa55b0675054e", func := "examboard/examboardlaw38.StoppingFirst", spec := "stoppingFirst", unfollowed := true, recurses := true, apart := false }
def StoppingFirstSaid : Prop := stoppingFirstRow.holds Tryz.pinned (OpenSpec.ofChange stoppingFirstSpec)

/-- ITS FALSE NEIGHBOUR: 'it returns false'. Refute it at one input. -/
def stoppingFirstWrong : ChangeSpec := { name := "stoppingFirst", fn := fun _ => fun
  | [d1, d2] => { results := [.lit (.bool false)], args := [d1, d2] }
  | _ => none }
def StoppingFirstWrongFalsely : Prop := stoppingFirstRow.holds Tryz.pinned (OpenSpec.ofChange stoppingFirstWrong)

/-- 'examboardlaw38.StoppingLength': WHATEVER THE INPUT: true; the input reads as it did. -/
def stoppingLengthSpec : ChangeSpec := { name := "stoppingLength", fn := fun _ => fun
  | [d1, d2] => { results := [.lit (.bool true)], args := [d1, d2] }
  | _ => none }
def stoppingLengthRow : OpenClaim := { program := "ytfchbehmeppckaagreat", sum := "fd902a0454c8d792290c4a2223eb1ccd129d3d353e663348b68aa55b0675054e", func := "examboard/examboardlaw38.StoppingLength", spec := "stoppingLength", unfollowed := true, recurses := true, apart := false }
def StoppingLengthSaid : Prop := stoppingLengthRow.holds Tryz.pinned (OpenSpec.ofChange stoppingLengthSpec)

/-- ITS FALSE NEIGHBOUR: 'it returns false'. Refute it at one input. -/
def stoppingLengthWrong : ChangeSpec := { name := "stoppingLength", fn := fun _ => fun
  | [d1, d2] => { results := [.lit (.bool false)], args := [d1, d2] }
  | _ => none }
def StoppingLengthWrongFalsely : Prop := stoppingLengthRow.holds Tryz.pinned (OpenSpec.ofChange stoppingLengthWrong)

/-- 'examboardlaw38.StoppingFull': WHATEVER THE INPUT: true; the input reads as it did. -/
def stoppingFullSpec : ChangeSpec := { name := "stoppingFull", fn := fun _ => fun
  | [d1, d2] => { results := [.lit (.bool true)], args := [d1, d2] }
  | _ => none }
def stoppingFullRow : OpenClaim := { program := "ytfchbehmeppckaagreat", sum := "fd902a0454c8d792290c4a2223eb1ccd129d3d353e663348b68aa55b0675054e", func := "examboard/examboardlaw38.StoppingFull", spec := "stoppingFull", unfollowed := true, recurses := true, apart := false }
def StoppingFullSaid : Prop := stoppingFullRow.holds Tryz.pinned (OpenSpec.ofChange stoppingFullSpec)

/-- ITS FALSE NEIGHBOUR: 'it returns false'. Refute it at one input. -/
def stoppingFullWrong : ChangeSpec := { name := "stoppingFull", fn := fun _ => fun
  | [d1, d2] => { results := [.lit (.bool false)], args := [d1, d2] }
  | _ => none }
def StoppingFullWrongFalsely : Prop := stoppingFullRow.holds Tryz.pinned (OpenSpec.ofChange stoppingFullWrong)

/-- 'examboardlaw38.StoppingPrecision': WHATEVER THE INPUT: true; the input reads as it did. -/
def stoppingPrecisionSpec : ChangeSpec := { name := "stoppingPrecision", fn := fun _ => fun
  | [d1, d2, d3] => { results := [.lit (.bool true)], args := [d1, d2, d3] }
  | _ => none }
def stoppingPrecisionRow : OpenClaim := { program := "ytfchbehmeppckaagreat", sum := "fd902a0454c8d792290c4a2223eb1ccd129d3d353e663348b68aa55b0675054e", func := "examboard/examboardlaw38.StoppingPrecision", spec := "stoppingPrecision", unfollowed := true, recurses := true, apart := false }
def StoppingPrecisionSaid : Prop := stoppingPrecisionRow.holds Tryz.pinned (OpenSpec.ofChange stoppingPrecisionSpec)

/-- ITS FALSE NEIGHBOUR: 'it returns false'. Refute it at one input. -/
def stoppingPrecisionWrong : ChangeSpec := { name := "stoppingPrecision", fn := fun _ => fun
  | [d1, d2, d3] => { results := [.lit (.bool false)], args := [d1, d2, d3] }
  | _ => none }
def StoppingPrecisionWrongFalsely : Prop := stoppingPrecisionRow.holds Tryz.pinned (OpenSpec.ofChange stoppingPrecisionWrong)

/- THE SECOND FORM. 'bulk': how many values and letters a reading holds, each counted each time it is reached (what is shared counts as often as it is met; a slice's spare places count too). A statement '..UptoSaid' is the law's where the arguments, and the package variables that the reading takes, are together of bulk at most 1048576: NARROWER than '..Said'. Prove '..Said' where nothing that the law and all that it calls make is longer than what came in: it says more and counts as full. Else prove '..UptoSaid'. A law counts once. -/
mutual
def uptoBulk {H : Type} : DataW H → Nat
  | .lit (.string bytes) => bytes.length + 1
  | .lit _ => 1
  | .nil => 1
  | .ptr d => uptoBulk d + 1
  | .slice elems spare => uptoBulkAll elems + uptoBulkAll spare + 1
  | .agg parts => uptoBulkAll parts + 1
  | .iface _ d => uptoBulk d + 1
  | .map entries => uptoBulkEntries entries + 1
  | .held _ => 1
def uptoBulkAll {H : Type} : List (DataW H) → Nat
  | [] => 0
  | d :: r => uptoBulk d + uptoBulkAll r
def uptoBulkEntries {H : Type} : List (Lit × DataW H) → Nat
  | [] => 0
  | x :: r => uptoBulkEntry x + uptoBulkEntries r
def uptoBulkEntry {H : Type} : Lit × DataW H → Nat
  | (.string bytes, d) => bytes.length + uptoBulk d + 1
  | (_, d) => uptoBulk d + 1
 end
def uptoSmall : (H : Type) → List (DataW H) → Bool := fun _ ds => decide (uptoBulkAll ds ≤ 1048576)
def OpenSpec.upto (s : _root_.Go.ChangeSpec) : _root_.Go.OpenSpec := { _root_.Go.OpenSpec.ofChange s with cond := some uptoSmall }

/-- 'examboardlaw38.StoppingChecks', WHERE WHAT IT READS IS OF BULK AT MOST 1048576: true; the input reads as it did. -/
def stoppingChecksUptoRow : OpenClaim := { program := "ytfchbehmeppckaagreat", sum := "fd902a0454c8d792290c4a2223eb1ccd129d3d353e663348b68aa55b0675054e", func := "examboard/examboardlaw38.StoppingChecks", spec := "stoppingChecks", unfollowed := true, recurses := true, apart := false, narrowed := true }
def StoppingChecksUptoSaid : Prop := stoppingChecksUptoRow.holds Tryz.pinned (OpenSpec.upto stoppingChecksSpec)

/-- 'examboardlaw38.StoppingReasons', WHERE WHAT IT READS IS OF BULK AT MOST 1048576: true; the input reads as it did. -/
def stoppingReasonsUptoRow : OpenClaim := { program := "ytfchbehmeppckaagreat", sum := "fd902a0454c8d792290c4a2223eb1ccd129d3d353e663348b68aa55b0675054e", func := "examboard/examboardlaw38.StoppingReasons", spec := "stoppingReasons", unfollowed := true, recurses := true, apart := false, narrowed := true }
def StoppingReasonsUptoSaid : Prop := stoppingReasonsUptoRow.holds Tryz.pinned (OpenSpec.upto stoppingReasonsSpec)

/-- 'examboardlaw38.StoppingFirst', WHERE WHAT IT READS IS OF BULK AT MOST 1048576: true; the input reads as it did. -/
def stoppingFirstUptoRow : OpenClaim := { program := "ytfchbehmeppckaagreat", sum := "fd902a0454c8d792290c4a2223eb1ccd129d3d353e663348b68aa55b0675054e", func := "examboard/examboardlaw38.StoppingFirst", spec := "stoppingFirst", unfollowed := true, recurses := true, apart := false, narrowed := true }
def StoppingFirstUptoSaid : Prop := stoppingFirstUptoRow.holds Tryz.pinned (OpenSpec.upto stoppingFirstSpec)

/-- 'examboardlaw38.StoppingLength', WHERE WHAT IT READS IS OF BULK AT MOST 1048576: true; the input reads as it did. -/
def stoppingLengthUptoRow : OpenClaim := { program := "ytfchbehmeppckaagreat", sum := "fd902a0454c8d792290c4a2223eb1ccd129d3d353e663348b68aa55b0675054e", func := "examboard/examboardlaw38.StoppingLength", spec := "stoppingLength", unfollowed := true, recurses := true, apart := false, narrowed := true }
def StoppingLengthUptoSaid : Prop := stoppingLengthUptoRow.holds Tryz.pinned (OpenSpec.upto stoppingLengthSpec)

/-- 'examboardlaw38.StoppingFull', WHERE WHAT IT READS IS OF BULK AT MOST 1048576: true; the input reads as it did. -/
def stoppingFullUptoRow : OpenClaim := { program := "ytfchbehmeppckaagreat", sum := "fd902a0454c8d792290c4a2223eb1ccd129d3d353e663348b68aa55b0675054e", func := "examboard/examboardlaw38.StoppingFull", spec := "stoppingFull", unfollowed := true, recurses := true, apart := false, narrowed := true }
def StoppingFullUptoSaid : Prop := stoppingFullUptoRow.holds Tryz.pinned (OpenSpec.upto stoppingFullSpec)

/-- 'examboardlaw38.StoppingPrecision', WHERE WHAT IT READS IS OF BULK AT MOST 1048576: true; the input reads as it did. -/
def stoppingPrecisionUptoRow : OpenClaim := { program := "ytfchbehmeppckaagreat", sum := "fd902a0454c8d792290c4a2223eb1ccd129d3d353e663348b68aa55b0675054e", func := "examboard/examboardlaw38.StoppingPrecision", spec := "stoppingPrecision", unfollowed := true, recurses := true, apart := false, narrowed := true }
def StoppingPrecisionUptoSaid : Prop := stoppingPrecisionUptoRow.holds Tryz.pinned (OpenSpec.upto stoppingPrecisionSpec)

end Rows
end Go.Proofs.YtfchbehmeppckaaGreat
