/-
  DERIVED. GIVEN WITH THE SEED: THE CARDS: each row of YtcaahphghaddgaaGreatDoorRows.lean that lists a variable, with what it lists TIED to the program's text (the seventh form; the later family's looks); each row that meets fmt, with fmt's text TOLD by the authors' own Lean function (tested against real Go, not proved from fmt's source: count such statements apart). THE CARD IS WHAT COUNTS. Prove the row's statement (the work); the ties are given (YtcaahphghaddgaaGreatDoorTie.lean); close each card by the builder's one call (the guide's Derived/Test/ToyasCard.lean, 'card_holds'). Laid BY PROGRAM, IN A SANDBOX (cutbox-door.mjs). By AI agents, Wed Nov 11 2026. No macro, syntax, notation, axiom, sorry.
-/
import Derived.Test.YtcaahphghaddgaaGreatDoorRows
import GoSem.ClaimSeven
namespace Go.Proofs.YtcaahphghaddgaaGreatDoor
namespace Rows

/-- THE TIED CARD OF 'examboardlaw33.BlueprintSpecs'. -/
def blueprintSpecsCard : Claim7 := { stood := { row := blueprintSpecsRow, standIns := [], harness := (true, "bc59d2f0dc971d3d06bda42450bd46d779a69d1485c2646fbe1a503e22fb9cab"), looks := true }, kinds := [], alts := [], laidByText := true, laidKinds := [.data, .data, .data, .data, .sentinel, .sentinel, .pinned], laidTests := true, laidLooks := .later }
def BlueprintSpecsCardSaid : Prop := Claim7.holds Tryz.pinned (.plain (OpenSpec.ofChange blueprintSpecsSpec)) blueprintSpecsCard

/-- THE TIED CARD OF 'examboardlaw33.BlueprintPools'. -/
def blueprintPoolsCard : Claim7 := { stood := { row := blueprintPoolsRow, standIns := [], harness := (true, "bc59d2f0dc971d3d06bda42450bd46d779a69d1485c2646fbe1a503e22fb9cab"), looks := true }, kinds := [], alts := [], laidByText := true, laidKinds := [.data, .data, .data, .data, .sentinel, .sentinel, .pinned], laidTests := true, laidLooks := .later }
def BlueprintPoolsCardSaid : Prop := Claim7.holds Tryz.pinned (.plain (OpenSpec.ofChange blueprintPoolsSpec)) blueprintPoolsCard

/-- THE TIED CARD OF 'examboardlaw33.BlueprintProblems'. -/
def blueprintProblemsCard : Claim7 := { stood := { row := blueprintProblemsRow, standIns := [], harness := (true, "bc59d2f0dc971d3d06bda42450bd46d779a69d1485c2646fbe1a503e22fb9cab"), looks := true }, kinds := [], alts := [], laidByText := true, laidKinds := [.data, .data, .data, .data, .sentinel, .sentinel, .pinned], laidTests := true, laidLooks := .later }
def BlueprintProblemsCardSaid : Prop := Claim7.holds Tryz.pinned (.plain (OpenSpec.ofChange blueprintProblemsSpec)) blueprintProblemsCard

/-- THE TIED CARD OF 'examboardlaw33.BlueprintNotation'. -/
def blueprintNotationCard : Claim7 := { stood := { row := blueprintNotationRow, standIns := [], harness := (true, "bc59d2f0dc971d3d06bda42450bd46d779a69d1485c2646fbe1a503e22fb9cab"), looks := true }, kinds := [], alts := [], laidByText := true, laidKinds := [.data, .data, .data, .data, .sentinel, .sentinel, .pinned], laidTests := true, laidLooks := .later }
def BlueprintNotationCardSaid : Prop := Claim7.holds Tryz.pinned (.plain (OpenSpec.ofChange blueprintNotationSpec)) blueprintNotationCard

/-- THE TIED CARD OF 'examboardlaw33.BlueprintRows'. -/
def blueprintRowsCard : Claim7 := { stood := { row := blueprintRowsRow, standIns := [], harness := (true, "bc59d2f0dc971d3d06bda42450bd46d779a69d1485c2646fbe1a503e22fb9cab"), looks := true }, kinds := [], alts := [], laidByText := true, laidKinds := [.data, .data, .data, .data, .sentinel, .sentinel, .pinned], laidTests := true, laidLooks := .later }
def BlueprintRowsCardSaid : Prop := Claim7.holds Tryz.pinned (.plain (OpenSpec.ofChange blueprintRowsSpec)) blueprintRowsCard

/-- THE TIED CARD OF 'examboardlaw33.BlueprintBreaks'. -/
def blueprintBreaksCard : Claim7 := { stood := { row := blueprintBreaksRow, standIns := [], harness := (true, "bc59d2f0dc971d3d06bda42450bd46d779a69d1485c2646fbe1a503e22fb9cab"), looks := true }, kinds := [], alts := [], laidByText := true, laidKinds := [.data, .data, .data, .data, .sentinel, .sentinel, .pinned], laidTests := true, laidLooks := .later }
def BlueprintBreaksCardSaid : Prop := Claim7.holds Tryz.pinned (.plain (OpenSpec.ofChange blueprintBreaksSpec)) blueprintBreaksCard

/-- THE TIED CARD OF 'examboardlaw33.BlueprintGrowth'. -/
def blueprintGrowthCard : Claim7 := { stood := { row := blueprintGrowthRow, standIns := [], harness := (true, "bc59d2f0dc971d3d06bda42450bd46d779a69d1485c2646fbe1a503e22fb9cab"), looks := true }, kinds := [], alts := [], laidByText := true, laidKinds := [.data, .data, .data, .data, .sentinel, .sentinel, .pinned], laidTests := true, laidLooks := .later }
def BlueprintGrowthCardSaid : Prop := Claim7.holds Tryz.pinned (.plain (OpenSpec.ofChange blueprintGrowthSpec)) blueprintGrowthCard

/-- THE SECOND FORM's CARD OF 'examboardlaw33.BlueprintSpecs'. -/
def blueprintSpecsUptoCard : Claim7 := { stood := { row := blueprintSpecsUptoRow, standIns := [], harness := (true, "bc59d2f0dc971d3d06bda42450bd46d779a69d1485c2646fbe1a503e22fb9cab"), looks := true }, kinds := [], alts := [], laidByText := true, laidKinds := [.data, .data, .data, .data, .sentinel, .sentinel, .pinned], laidTests := true, laidLooks := .later }
def BlueprintSpecsUptoCardSaid : Prop := Claim7.holds Tryz.pinned (.plain (OpenSpec.upto blueprintSpecsSpec)) blueprintSpecsUptoCard

/-- THE SECOND FORM's CARD OF 'examboardlaw33.BlueprintPools'. -/
def blueprintPoolsUptoCard : Claim7 := { stood := { row := blueprintPoolsUptoRow, standIns := [], harness := (true, "bc59d2f0dc971d3d06bda42450bd46d779a69d1485c2646fbe1a503e22fb9cab"), looks := true }, kinds := [], alts := [], laidByText := true, laidKinds := [.data, .data, .data, .data, .sentinel, .sentinel, .pinned], laidTests := true, laidLooks := .later }
def BlueprintPoolsUptoCardSaid : Prop := Claim7.holds Tryz.pinned (.plain (OpenSpec.upto blueprintPoolsSpec)) blueprintPoolsUptoCard

/-- THE SECOND FORM's CARD OF 'examboardlaw33.BlueprintProblems'. -/
def blueprintProblemsUptoCard : Claim7 := { stood := { row := blueprintProblemsUptoRow, standIns := [], harness := (true, "bc59d2f0dc971d3d06bda42450bd46d779a69d1485c2646fbe1a503e22fb9cab"), looks := true }, kinds := [], alts := [], laidByText := true, laidKinds := [.data, .data, .data, .data, .sentinel, .sentinel, .pinned], laidTests := true, laidLooks := .later }
def BlueprintProblemsUptoCardSaid : Prop := Claim7.holds Tryz.pinned (.plain (OpenSpec.upto blueprintProblemsSpec)) blueprintProblemsUptoCard

/-- THE SECOND FORM's CARD OF 'examboardlaw33.BlueprintNotation'. -/
def blueprintNotationUptoCard : Claim7 := { stood := { row := blueprintNotationUptoRow, standIns := [], harness := (true, "bc59d2f0dc971d3d06bda42450bd46d779a69d1485c2646fbe1a503e22fb9cab"), looks := true }, kinds := [], alts := [], laidByText := true, laidKinds := [.data, .data, .data, .data, .sentinel, .sentinel, .pinned], laidTests := true, laidLooks := .later }
def BlueprintNotationUptoCardSaid : Prop := Claim7.holds Tryz.pinned (.plain (OpenSpec.upto blueprintNotationSpec)) blueprintNotationUptoCard

/-- THE SECOND FORM's CARD OF 'examboardlaw33.BlueprintRows'. -/
def blueprintRowsUptoCard : Claim7 := { stood := { row := blueprintRowsUptoRow, standIns := [], harness := (true, "bc59d2f0dc971d3d06bda42450bd46d779a69d1485c2646fbe1a503e22fb9cab"), looks := true }, kinds := [], alts := [], laidByText := true, laidKinds := [.data, .data, .data, .data, .sentinel, .sentinel, .pinned], laidTests := true, laidLooks := .later }
def BlueprintRowsUptoCardSaid : Prop := Claim7.holds Tryz.pinned (.plain (OpenSpec.upto blueprintRowsSpec)) blueprintRowsUptoCard

/-- THE SECOND FORM's CARD OF 'examboardlaw33.BlueprintBreaks'. -/
def blueprintBreaksUptoCard : Claim7 := { stood := { row := blueprintBreaksUptoRow, standIns := [], harness := (true, "bc59d2f0dc971d3d06bda42450bd46d779a69d1485c2646fbe1a503e22fb9cab"), looks := true }, kinds := [], alts := [], laidByText := true, laidKinds := [.data, .data, .data, .data, .sentinel, .sentinel, .pinned], laidTests := true, laidLooks := .later }
def BlueprintBreaksUptoCardSaid : Prop := Claim7.holds Tryz.pinned (.plain (OpenSpec.upto blueprintBreaksSpec)) blueprintBreaksUptoCard

/-- THE SECOND FORM's CARD OF 'examboardlaw33.BlueprintGrowth'. -/
def blueprintGrowthUptoCard : Claim7 := { stood := { row := blueprintGrowthUptoRow, standIns := [], harness := (true, "bc59d2f0dc971d3d06bda42450bd46d779a69d1485c2646fbe1a503e22fb9cab"), looks := true }, kinds := [], alts := [], laidByText := true, laidKinds := [.data, .data, .data, .data, .sentinel, .sentinel, .pinned], laidTests := true, laidLooks := .later }
def BlueprintGrowthUptoCardSaid : Prop := Claim7.holds Tryz.pinned (.plain (OpenSpec.upto blueprintGrowthSpec)) blueprintGrowthUptoCard
end Rows
end Go.Proofs.YtcaahphghaddgaaGreatDoor
