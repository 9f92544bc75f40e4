/-
  DERIVED. GIVEN WITH THE SEED: THE CARDS: each row of YtmegoiaijfeilaaGreatDoorRows.lean that lists a variable, with what it lists TIED to the program's text (the seventh form; the later family's looks); each row that meets fmt, with fmt's text TOLD by the authors' own Lean function (tested against real Go, not proved from fmt's source: count such statements apart). THE CARD IS WHAT COUNTS. Prove the row's statement (the work); the ties are given (YtmegoiaijfeilaaGreatDoorTie.lean); close each card by the builder's one call (the guide's Derived/Test/ToyasCard.lean, 'card_holds'). Laid BY PROGRAM, IN A SANDBOX (cutbox-door.mjs). By AI agents, Wed Nov 11 2026. No macro, syntax, notation, axiom, sorry.
-/
import Derived.Test.YtmegoiaijfeilaaGreatDoorRows
import GoSem.ClaimSeven
namespace Go.Proofs.YtmegoiaijfeilaaGreatDoor
namespace Rows

/-- THE TIED CARD OF 'examboardlaw33.BlueprintProblems'. -/
def blueprintProblemsCard : Claim7 := { stood := { row := blueprintProblemsRow, standIns := [], harness := (true, "fc38667889ec9151a70dfcd1017fdf56ff770955a63aab2b9759944fa0100eea"), looks := true }, kinds := [], alts := [], laidByText := true, laidKinds := [.data, .data, .data, .data, .sentinel, .sentinel, .pinned], laidTests := true, laidLooks := .later }
def BlueprintProblemsCardSaid : Prop := Claim7.holds Tryz.pinned (.plain (OpenSpec.ofChange blueprintProblemsSpec)) blueprintProblemsCard

/-- THE TIED CARD OF 'examboardlaw33.BlueprintRows'. -/
def blueprintRowsCard : Claim7 := { stood := { row := blueprintRowsRow, standIns := [], harness := (true, "fc38667889ec9151a70dfcd1017fdf56ff770955a63aab2b9759944fa0100eea"), looks := true }, kinds := [], alts := [], laidByText := true, laidKinds := [.data, .data, .data, .data, .sentinel, .sentinel, .pinned], laidTests := true, laidLooks := .later }
def BlueprintRowsCardSaid : Prop := Claim7.holds Tryz.pinned (.plain (OpenSpec.ofChange blueprintRowsSpec)) blueprintRowsCard

/-- THE TIED CARD OF 'examboardlaw33.BlueprintBreaks'. -/
def blueprintBreaksCard : Claim7 := { stood := { row := blueprintBreaksRow, standIns := [], harness := (true, "fc38667889ec9151a70dfcd1017fdf56ff770955a63aab2b9759944fa0100eea"), looks := true }, kinds := [], alts := [], laidByText := true, laidKinds := [.data, .data, .data, .data, .sentinel, .sentinel, .pinned], laidTests := true, laidLooks := .later }
def BlueprintBreaksCardSaid : Prop := Claim7.holds Tryz.pinned (.plain (OpenSpec.ofChange blueprintBreaksSpec)) blueprintBreaksCard

/-- THE SECOND FORM's CARD OF 'examboardlaw33.BlueprintProblems'. -/
def blueprintProblemsUptoCard : Claim7 := { stood := { row := blueprintProblemsUptoRow, standIns := [], harness := (true, "fc38667889ec9151a70dfcd1017fdf56ff770955a63aab2b9759944fa0100eea"), looks := true }, kinds := [], alts := [], laidByText := true, laidKinds := [.data, .data, .data, .data, .sentinel, .sentinel, .pinned], laidTests := true, laidLooks := .later }
def BlueprintProblemsUptoCardSaid : Prop := Claim7.holds Tryz.pinned (.plain (OpenSpec.upto blueprintProblemsSpec)) blueprintProblemsUptoCard

/-- THE SECOND FORM's CARD OF 'examboardlaw33.BlueprintRows'. -/
def blueprintRowsUptoCard : Claim7 := { stood := { row := blueprintRowsUptoRow, standIns := [], harness := (true, "fc38667889ec9151a70dfcd1017fdf56ff770955a63aab2b9759944fa0100eea"), looks := true }, kinds := [], alts := [], laidByText := true, laidKinds := [.data, .data, .data, .data, .sentinel, .sentinel, .pinned], laidTests := true, laidLooks := .later }
def BlueprintRowsUptoCardSaid : Prop := Claim7.holds Tryz.pinned (.plain (OpenSpec.upto blueprintRowsSpec)) blueprintRowsUptoCard

/-- THE SECOND FORM's CARD OF 'examboardlaw33.BlueprintBreaks'. -/
def blueprintBreaksUptoCard : Claim7 := { stood := { row := blueprintBreaksUptoRow, standIns := [], harness := (true, "fc38667889ec9151a70dfcd1017fdf56ff770955a63aab2b9759944fa0100eea"), looks := true }, kinds := [], alts := [], laidByText := true, laidKinds := [.data, .data, .data, .data, .sentinel, .sentinel, .pinned], laidTests := true, laidLooks := .later }
def BlueprintBreaksUptoCardSaid : Prop := Claim7.holds Tryz.pinned (.plain (OpenSpec.upto blueprintBreaksSpec)) blueprintBreaksUptoCard
end Rows
end Go.Proofs.YtmegoiaijfeilaaGreatDoor
