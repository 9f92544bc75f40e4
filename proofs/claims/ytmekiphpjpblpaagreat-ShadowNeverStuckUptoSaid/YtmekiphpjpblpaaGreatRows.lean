/-
  No cell of these rows narrows 'for every input' (looked for: loops, veiled, ifaces, maps, wideKeys, modest, calm, conditions, laid).
  DERIVED. THE GIVEN ROWS OF THIS SEAT. 7 by the template 'for every input the law returns true; each argument reads behind the call as it read before'; 0 by the template 'total and deterministic' (their statements: YtmekiphpjpblpaaGreatTotals.lean).
  GIVEN WITH THE SEED: the statements are not yours to turn. If you find one false, say at which input.
  Laid BY PROGRAM, IN A SANDBOX (cutbox-rows.mjs): the forced cells as the released guide's own fill.sh prints them over the translation 7021af0880b2afe1… (all of the seat's roots in one cut). By AI agents, Wed Nov 11 2026. No macro, syntax, notation, axiom, sorry.
-/
import Derived.Test.YtmekiphpjpblpaaGreatChecked
import GoSem.Claim
import GoSem.ClaimJoined
import GoSem.ClaimMapViews
import Derived.JoinedTies
import Derived.KernelRfl
namespace Go.Proofs.YtmekiphpjpblpaaGreat
/- THE CELL 'sum', in the pinned program and in every row, IS THE sha256 OF THE DUMP (.gsa) THAT YtmekiphpjpblpaaGreatProg.lean LOADS. Nothing in Lean hashes anything: it is a label: what it is worth is what the hold of that sum in a sandbox is worth. -/
noncomputable def Tryz.pinned : Pinned := { name := "ytmekiphpjpblpaagreat", sum := "7021af0880b2afe1f0541aa007ea2c17b906d071453a962f9e8a52089eb928ef", checked := Tryz.checked }
namespace Rows
def none {H : Type} : Left H := { results := [], args := [] }

/-- 'examboardlaw36.ShadowTests': WHATEVER THE INPUT: true; the input reads as it did. -/
def shadowTestsSpec : ChangeSpec := { name := "shadowTests", fn := fun _ => fun
  | [d1, d2, d3, d4, d5] => { results := [.lit (.bool true)], args := [d1, d2, d3, d4, d5] }
  | _ => none }
def shadowTestsRow : OpenClaim := { program := "ytmekiphpjpblpaagreat", sum := "7021af0880b2afe1f0541aa007ea2c17b906d071453a962f9e8a52089eb928ef", func := "examboard/examboardlaw36.ShadowTests", spec := "shadowTests", inPlace := ["internal/bytealg.IndexByteString", "internal/bytealg.IndexString"], unfollowed := true, recurses := true, named := ["internal/bytealg.MaxLen"], apart := false }
def ShadowTestsSaid : Prop := shadowTestsRow.holds Tryz.pinned (OpenSpec.ofChange shadowTestsSpec)

/-- ITS FALSE NEIGHBOUR: 'it returns false'. Refute it at one input. -/
def shadowTestsWrong : ChangeSpec := { name := "shadowTests", fn := fun _ => fun
  | [d1, d2, d3, d4, d5] => { results := [.lit (.bool false)], args := [d1, d2, d3, d4, d5] }
  | _ => none }
def ShadowTestsWrongFalsely : Prop := shadowTestsRow.holds Tryz.pinned (OpenSpec.ofChange shadowTestsWrong)

/-- 'examboardlaw36.ShadowFree': WHATEVER THE INPUT: true; the input reads as it did. -/
def shadowFreeSpec : ChangeSpec := { name := "shadowFree", fn := fun _ => fun
  | [d1, d2, d3, d4] => { results := [.lit (.bool true)], args := [d1, d2, d3, d4] }
  | _ => none }
def shadowFreeRow : OpenClaim := { program := "ytmekiphpjpblpaagreat", sum := "7021af0880b2afe1f0541aa007ea2c17b906d071453a962f9e8a52089eb928ef", func := "examboard/examboardlaw36.ShadowFree", spec := "shadowFree", inPlace := ["internal/bytealg.IndexByteString", "internal/bytealg.IndexString"], unfollowed := true, recurses := true, named := ["internal/bytealg.MaxLen"], apart := false }
def ShadowFreeSaid : Prop := shadowFreeRow.holds Tryz.pinned (OpenSpec.ofChange shadowFreeSpec)

/-- ITS FALSE NEIGHBOUR: 'it returns false'. Refute it at one input. -/
def shadowFreeWrong : ChangeSpec := { name := "shadowFree", fn := fun _ => fun
  | [d1, d2, d3, d4] => { results := [.lit (.bool false)], args := [d1, d2, d3, d4] }
  | _ => none }
def ShadowFreeWrongFalsely : Prop := shadowFreeRow.holds Tryz.pinned (OpenSpec.ofChange shadowFreeWrong)

/-- 'examboardlaw36.ShadowWalks': WHATEVER THE INPUT: true; the input reads as it did. -/
def shadowWalksSpec : ChangeSpec := { name := "shadowWalks", fn := fun _ => fun
  | [d1, d2, d3, d4] => { results := [.lit (.bool true)], args := [d1, d2, d3, d4] }
  | _ => none }
def shadowWalksRow : OpenClaim := { program := "ytmekiphpjpblpaagreat", sum := "7021af0880b2afe1f0541aa007ea2c17b906d071453a962f9e8a52089eb928ef", func := "examboard/examboardlaw36.ShadowWalks", spec := "shadowWalks", inPlace := ["internal/bytealg.IndexByteString", "internal/bytealg.IndexString"], unfollowed := true, recurses := true, named := ["internal/bytealg.MaxLen"], apart := false }
def ShadowWalksSaid : Prop := shadowWalksRow.holds Tryz.pinned (OpenSpec.ofChange shadowWalksSpec)

/-- ITS FALSE NEIGHBOUR: 'it returns false'. Refute it at one input. -/
def shadowWalksWrong : ChangeSpec := { name := "shadowWalks", fn := fun _ => fun
  | [d1, d2, d3, d4] => { results := [.lit (.bool false)], args := [d1, d2, d3, d4] }
  | _ => none }
def ShadowWalksWrongFalsely : Prop := shadowWalksRow.holds Tryz.pinned (OpenSpec.ofChange shadowWalksWrong)

/-- 'examboardlaw36.ShadowNeverStuck': WHATEVER THE INPUT: true; the input reads as it did. -/
def shadowNeverStuckSpec : ChangeSpec := { name := "shadowNeverStuck", fn := fun _ => fun
  | [d1, d2, d3, d4] => { results := [.lit (.bool true)], args := [d1, d2, d3, d4] }
  | _ => none }
def shadowNeverStuckRow : OpenClaim := { program := "ytmekiphpjpblpaagreat", sum := "7021af0880b2afe1f0541aa007ea2c17b906d071453a962f9e8a52089eb928ef", func := "examboard/examboardlaw36.ShadowNeverStuck", spec := "shadowNeverStuck", inPlace := ["internal/bytealg.IndexByteString", "internal/bytealg.IndexString"], unfollowed := true, recurses := true, named := ["internal/bytealg.MaxLen"], apart := false }
def ShadowNeverStuckSaid : Prop := shadowNeverStuckRow.holds Tryz.pinned (OpenSpec.ofChange shadowNeverStuckSpec)

/-- ITS FALSE NEIGHBOUR: 'it returns false'. Refute it at one input. -/
def shadowNeverStuckWrong : ChangeSpec := { name := "shadowNeverStuck", fn := fun _ => fun
  | [d1, d2, d3, d4] => { results := [.lit (.bool false)], args := [d1, d2, d3, d4] }
  | _ => none }
def ShadowNeverStuckWrongFalsely : Prop := shadowNeverStuckRow.holds Tryz.pinned (OpenSpec.ofChange shadowNeverStuckWrong)

/-- 'examboardlaw36.ShadowComplete': WHATEVER THE INPUT: true; the input reads as it did. -/
def shadowCompleteSpec : ChangeSpec := { name := "shadowComplete", fn := fun _ => fun
  | [d1, d2, d3, d4, d5] => { results := [.lit (.bool true)], args := [d1, d2, d3, d4, d5] }
  | _ => none }
def shadowCompleteRow : OpenClaim := { program := "ytmekiphpjpblpaagreat", sum := "7021af0880b2afe1f0541aa007ea2c17b906d071453a962f9e8a52089eb928ef", func := "examboard/examboardlaw36.ShadowComplete", spec := "shadowComplete", inPlace := ["internal/bytealg.IndexByteString", "internal/bytealg.IndexString"], unfollowed := true, recurses := true, named := ["internal/bytealg.MaxLen"], apart := false }
def ShadowCompleteSaid : Prop := shadowCompleteRow.holds Tryz.pinned (OpenSpec.ofChange shadowCompleteSpec)

/-- ITS FALSE NEIGHBOUR: 'it returns false'. Refute it at one input. -/
def shadowCompleteWrong : ChangeSpec := { name := "shadowComplete", fn := fun _ => fun
  | [d1, d2, d3, d4, d5] => { results := [.lit (.bool false)], args := [d1, d2, d3, d4, d5] }
  | _ => none }
def ShadowCompleteWrongFalsely : Prop := shadowCompleteRow.holds Tryz.pinned (OpenSpec.ofChange shadowCompleteWrong)

/-- 'examboardlaw36.ShadowStable': WHATEVER THE INPUT: true; the input reads as it did. -/
def shadowStableSpec : ChangeSpec := { name := "shadowStable", fn := fun _ => fun
  | [d1, d2, d3, d4, d5, d6] => { results := [.lit (.bool true)], args := [d1, d2, d3, d4, d5, d6] }
  | _ => none }
def shadowStableRow : OpenClaim := { program := "ytmekiphpjpblpaagreat", sum := "7021af0880b2afe1f0541aa007ea2c17b906d071453a962f9e8a52089eb928ef", func := "examboard/examboardlaw36.ShadowStable", spec := "shadowStable", inPlace := ["internal/bytealg.IndexByteString", "internal/bytealg.IndexString"], unfollowed := true, recurses := true, named := ["internal/bytealg.MaxLen"], apart := false }
def ShadowStableSaid : Prop := shadowStableRow.holds Tryz.pinned (OpenSpec.ofChange shadowStableSpec)

/-- ITS FALSE NEIGHBOUR: 'it returns false'. Refute it at one input. -/
def shadowStableWrong : ChangeSpec := { name := "shadowStable", fn := fun _ => fun
  | [d1, d2, d3, d4, d5, d6] => { results := [.lit (.bool false)], args := [d1, d2, d3, d4, d5, d6] }
  | _ => none }
def ShadowStableWrongFalsely : Prop := shadowStableRow.holds Tryz.pinned (OpenSpec.ofChange shadowStableWrong)

/-- 'examboardlaw36.ShadowOrder': WHATEVER THE INPUT: true; the input reads as it did. -/
def shadowOrderSpec : ChangeSpec := { name := "shadowOrder", fn := fun _ => fun
  | [d1, d2, d3, d4] => { results := [.lit (.bool true)], args := [d1, d2, d3, d4] }
  | _ => none }
def shadowOrderRow : OpenClaim := { program := "ytmekiphpjpblpaagreat", sum := "7021af0880b2afe1f0541aa007ea2c17b906d071453a962f9e8a52089eb928ef", func := "examboard/examboardlaw36.ShadowOrder", spec := "shadowOrder", inPlace := ["internal/bytealg.IndexByteString", "internal/bytealg.IndexString"], unfollowed := true, recurses := true, named := ["internal/bytealg.MaxLen"], apart := false }
def ShadowOrderSaid : Prop := shadowOrderRow.holds Tryz.pinned (OpenSpec.ofChange shadowOrderSpec)

/-- ITS FALSE NEIGHBOUR: 'it returns false'. Refute it at one input. -/
def shadowOrderWrong : ChangeSpec := { name := "shadowOrder", fn := fun _ => fun
  | [d1, d2, d3, d4] => { results := [.lit (.bool false)], args := [d1, d2, d3, d4] }
  | _ => none }
def ShadowOrderWrongFalsely : Prop := shadowOrderRow.holds Tryz.pinned (OpenSpec.ofChange shadowOrderWrong)

/- THE SECOND FORM. 'bulk': how many values and letters a reading holds, each counted each time it is reached (what is shared counts as often as it is met; a slice's spare places count too). A statement '..UptoSaid' is the law's where the arguments, and the package variables that the reading takes, are together of bulk at most 1048576: NARROWER than '..Said'. Prove '..Said' where nothing that the law and all that it calls make is longer than what came in: it says more and counts as full. Else prove '..UptoSaid'. A law counts once. -/
mutual
def uptoBulk {H : Type} : DataW H → Nat
  | .lit (.string bytes) => bytes.length + 1
  | .lit _ => 1
  | .nil => 1
  | .ptr d => uptoBulk d + 1
  | .slice elems spare => uptoBulkAll elems + uptoBulkAll spare + 1
  | .agg parts => uptoBulkAll parts + 1
  | .iface _ d => uptoBulk d + 1
  | .map entries => uptoBulkEntries entries + 1
  | .held _ => 1
def uptoBulkAll {H : Type} : List (DataW H) → Nat
  | [] => 0
  | d :: r => uptoBulk d + uptoBulkAll r
def uptoBulkEntries {H : Type} : List (Lit × DataW H) → Nat
  | [] => 0
  | x :: r => uptoBulkEntry x + uptoBulkEntries r
def uptoBulkEntry {H : Type} : Lit × DataW H → Nat
  | (.string bytes, d) => bytes.length + uptoBulk d + 1
  | (_, d) => uptoBulk d + 1
 end
def uptoSmall : (H : Type) → List (DataW H) → Bool := fun _ ds => decide (uptoBulkAll ds ≤ 1048576)
def OpenSpec.upto (s : _root_.Go.ChangeSpec) : _root_.Go.OpenSpec := { _root_.Go.OpenSpec.ofChange s with cond := some uptoSmall }

/-- 'examboardlaw36.ShadowTests', WHERE WHAT IT READS IS OF BULK AT MOST 1048576: true; the input reads as it did. -/
def shadowTestsUptoRow : OpenClaim := { program := "ytmekiphpjpblpaagreat", sum := "7021af0880b2afe1f0541aa007ea2c17b906d071453a962f9e8a52089eb928ef", func := "examboard/examboardlaw36.ShadowTests", spec := "shadowTests", inPlace := ["internal/bytealg.IndexByteString", "internal/bytealg.IndexString"], unfollowed := true, recurses := true, named := ["internal/bytealg.MaxLen"], apart := false, narrowed := true }
def ShadowTestsUptoSaid : Prop := shadowTestsUptoRow.holds Tryz.pinned (OpenSpec.upto shadowTestsSpec)

/-- 'examboardlaw36.ShadowFree', WHERE WHAT IT READS IS OF BULK AT MOST 1048576: true; the input reads as it did. -/
def shadowFreeUptoRow : OpenClaim := { program := "ytmekiphpjpblpaagreat", sum := "7021af0880b2afe1f0541aa007ea2c17b906d071453a962f9e8a52089eb928ef", func := "examboard/examboardlaw36.ShadowFree", spec := "shadowFree", inPlace := ["internal/bytealg.IndexByteString", "internal/bytealg.IndexString"], unfollowed := true, recurses := true, named := ["internal/bytealg.MaxLen"], apart := false, narrowed := true }
def ShadowFreeUptoSaid : Prop := shadowFreeUptoRow.holds Tryz.pinned (OpenSpec.upto shadowFreeSpec)

/-- 'examboardlaw36.ShadowWalks', WHERE WHAT IT READS IS OF BULK AT MOST 1048576: true; the input reads as it did. -/
def shadowWalksUptoRow : OpenClaim := { program := "ytmekiphpjpblpaagreat", sum := "7021af0880b2afe1f0541aa007ea2c17b906d071453a962f9e8a52089eb928ef", func := "examboard/examboardlaw36.ShadowWalks", spec := "shadowWalks", inPlace := ["internal/bytealg.IndexByteString", "internal/bytealg.IndexString"], unfollowed := true, recurses := true, named := ["internal/bytealg.MaxLen"], apart := false, narrowed := true }
def ShadowWalksUptoSaid : Prop := shadowWalksUptoRow.holds Tryz.pinned (OpenSpec.upto shadowWalksSpec)

/-- 'examboardlaw36.ShadowNeverStuck', WHERE WHAT IT READS IS OF BULK AT MOST 1048576: true; the input reads as it did. -/
def shadowNeverStuckUptoRow : OpenClaim := { program := "ytmekiphpjpblpaagreat", sum := "7021af0880b2afe1f0541aa007ea2c17b906d071453a962f9e8a52089eb928ef", func := "examboard/examboardlaw36.ShadowNeverStuck", spec := "shadowNeverStuck", inPlace := ["internal/bytealg.IndexByteString", "internal/bytealg.IndexString"], unfollowed := true, recurses := true, named := ["internal/bytealg.MaxLen"], apart := false, narrowed := true }
def ShadowNeverStuckUptoSaid : Prop := shadowNeverStuckUptoRow.holds Tryz.pinned (OpenSpec.upto shadowNeverStuckSpec)

/-- 'examboardlaw36.ShadowComplete', WHERE WHAT IT READS IS OF BULK AT MOST 1048576: true; the input reads as it did. -/
def shadowCompleteUptoRow : OpenClaim := { program := "ytmekiphpjpblpaagreat", sum := "7021af0880b2afe1f0541aa007ea2c17b906d071453a962f9e8a52089eb928ef", func := "examboard/examboardlaw36.ShadowComplete", spec := "shadowComplete", inPlace := ["internal/bytealg.IndexByteString", "internal/bytealg.IndexString"], unfollowed := true, recurses := true, named := ["internal/bytealg.MaxLen"], apart := false, narrowed := true }
def ShadowCompleteUptoSaid : Prop := shadowCompleteUptoRow.holds Tryz.pinned (OpenSpec.upto shadowCompleteSpec)

/-- 'examboardlaw36.ShadowStable', WHERE WHAT IT READS IS OF BULK AT MOST 1048576: true; the input reads as it did. -/
def shadowStableUptoRow : OpenClaim := { program := "ytmekiphpjpblpaagreat", sum := "7021af0880b2afe1f0541aa007ea2c17b906d071453a962f9e8a52089eb928ef", func := "examboard/examboardlaw36.ShadowStable", spec := "shadowStable", inPlace := ["internal/bytealg.IndexByteString", "internal/bytealg.IndexString"], unfollowed := true, recurses := true, named := ["internal/bytealg.MaxLen"], apart := false, narrowed := true }
def ShadowStableUptoSaid : Prop := shadowStableUptoRow.holds Tryz.pinned (OpenSpec.upto shadowStableSpec)

/-- 'examboardlaw36.ShadowOrder', WHERE WHAT IT READS IS OF BULK AT MOST 1048576: true; the input reads as it did. -/
def shadowOrderUptoRow : OpenClaim := { program := "ytmekiphpjpblpaagreat", sum := "7021af0880b2afe1f0541aa007ea2c17b906d071453a962f9e8a52089eb928ef", func := "examboard/examboardlaw36.ShadowOrder", spec := "shadowOrder", inPlace := ["internal/bytealg.IndexByteString", "internal/bytealg.IndexString"], unfollowed := true, recurses := true, named := ["internal/bytealg.MaxLen"], apart := false, narrowed := true }
def ShadowOrderUptoSaid : Prop := shadowOrderUptoRow.holds Tryz.pinned (OpenSpec.upto shadowOrderSpec)

end Rows
end Go.Proofs.YtmekiphpjpblpaaGreat
