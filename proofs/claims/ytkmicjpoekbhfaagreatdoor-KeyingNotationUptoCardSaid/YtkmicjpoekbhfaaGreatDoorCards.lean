/-
  DERIVED. GIVEN WITH THE SEED: THE CARDS: each row of YtkmicjpoekbhfaaGreatDoorRows.lean that lists a variable, with what it lists TIED to the program's text (the seventh form; the later family's looks); each row that meets fmt, with fmt's text TOLD by the authors' own Lean function (tested against real Go, not proved from fmt's source: count such statements apart). THE CARD IS WHAT COUNTS. Prove the row's statement (the work); the ties are given (YtkmicjpoekbhfaaGreatDoorTie.lean); close each card by the builder's one call (the guide's Derived/Test/ToyasCard.lean, 'card_holds'). Laid BY PROGRAM, IN A SANDBOX (cutbox-door.mjs). By AI agents, Wed Nov 11 2026. No macro, syntax, notation, axiom, sorry.
-/
import Derived.Test.YtkmicjpoekbhfaaGreatDoorRows
import GoSem.ClaimSeven
namespace Go.Proofs.YtkmicjpoekbhfaaGreatDoor
namespace Rows

/-- THE TIED CARD OF 'examboardlaw40.KeyingScores'. -/
def keyingScoresCard : Claim7 := { stood := { row := keyingScoresRow, standIns := [], harness := (true, "082a628b5d1433978cdf7694ffbaaa430d80fd55f018e46078969afddae3401f"), looks := false }, kinds := [], alts := [], laidByText := true, laidKinds := [.data, .data, .data, .data, .pinned], laidTests := true, laidLooks := .later }
def KeyingScoresCardSaid : Prop := Claim7.holds Tryz.pinned (.plain (OpenSpec.ofChange keyingScoresSpec)) keyingScoresCard

/-- THE TIED CARD OF 'examboardlaw40.KeyingBounds'. -/
def keyingBoundsCard : Claim7 := { stood := { row := keyingBoundsRow, standIns := [], harness := (true, "082a628b5d1433978cdf7694ffbaaa430d80fd55f018e46078969afddae3401f"), looks := false }, kinds := [], alts := [], laidByText := true, laidKinds := [.data, .data, .data, .data, .pinned], laidTests := true, laidLooks := .later }
def KeyingBoundsCardSaid : Prop := Claim7.holds Tryz.pinned (.plain (OpenSpec.ofChange keyingBoundsSpec)) keyingBoundsCard

/-- THE TIED CARD OF 'examboardlaw40.KeyingNotation'. -/
def keyingNotationCard : Claim7 := { stood := { row := keyingNotationRow, standIns := [], harness := (true, "082a628b5d1433978cdf7694ffbaaa430d80fd55f018e46078969afddae3401f"), looks := false }, kinds := [], alts := [], laidByText := true, laidKinds := [.data, .data, .data, .data, .pinned], laidTests := true, laidLooks := .later }
def KeyingNotationCardSaid : Prop := Claim7.holds Tryz.pinned (.plain (OpenSpec.ofChange keyingNotationSpec)) keyingNotationCard

/-- THE TIED CARD OF 'examboardlaw40.KeyingNormal'. -/
def keyingNormalCard : Claim7 := { stood := { row := keyingNormalRow, standIns := [], harness := (true, "082a628b5d1433978cdf7694ffbaaa430d80fd55f018e46078969afddae3401f"), looks := false }, kinds := [], alts := [], laidByText := true, laidKinds := [.data, .data, .data, .data, .pinned], laidTests := true, laidLooks := .later }
def KeyingNormalCardSaid : Prop := Claim7.holds Tryz.pinned (.plain (OpenSpec.ofChange keyingNormalSpec)) keyingNormalCard

/-- THE TIED CARD OF 'examboardlaw40.KeyingPartial'. -/
def keyingPartialCard : Claim7 := { stood := { row := keyingPartialRow, standIns := [], harness := (true, "082a628b5d1433978cdf7694ffbaaa430d80fd55f018e46078969afddae3401f"), looks := false }, kinds := [], alts := [], laidByText := true, laidKinds := [.data, .data, .data, .data, .pinned], laidTests := true, laidLooks := .later }
def KeyingPartialCardSaid : Prop := Claim7.holds Tryz.pinned (.plain (OpenSpec.ofChange keyingPartialSpec)) keyingPartialCard

/-- THE SECOND FORM's CARD OF 'examboardlaw40.KeyingScores'. -/
def keyingScoresUptoCard : Claim7 := { stood := { row := keyingScoresUptoRow, standIns := [], harness := (true, "082a628b5d1433978cdf7694ffbaaa430d80fd55f018e46078969afddae3401f"), looks := false }, kinds := [], alts := [], laidByText := true, laidKinds := [.data, .data, .data, .data, .pinned], laidTests := true, laidLooks := .later }
def KeyingScoresUptoCardSaid : Prop := Claim7.holds Tryz.pinned (.plain (OpenSpec.upto keyingScoresSpec)) keyingScoresUptoCard

/-- THE SECOND FORM's CARD OF 'examboardlaw40.KeyingBounds'. -/
def keyingBoundsUptoCard : Claim7 := { stood := { row := keyingBoundsUptoRow, standIns := [], harness := (true, "082a628b5d1433978cdf7694ffbaaa430d80fd55f018e46078969afddae3401f"), looks := false }, kinds := [], alts := [], laidByText := true, laidKinds := [.data, .data, .data, .data, .pinned], laidTests := true, laidLooks := .later }
def KeyingBoundsUptoCardSaid : Prop := Claim7.holds Tryz.pinned (.plain (OpenSpec.upto keyingBoundsSpec)) keyingBoundsUptoCard

/-- THE SECOND FORM's CARD OF 'examboardlaw40.KeyingNotation'. -/
def keyingNotationUptoCard : Claim7 := { stood := { row := keyingNotationUptoRow, standIns := [], harness := (true, "082a628b5d1433978cdf7694ffbaaa430d80fd55f018e46078969afddae3401f"), looks := false }, kinds := [], alts := [], laidByText := true, laidKinds := [.data, .data, .data, .data, .pinned], laidTests := true, laidLooks := .later }
def KeyingNotationUptoCardSaid : Prop := Claim7.holds Tryz.pinned (.plain (OpenSpec.upto keyingNotationSpec)) keyingNotationUptoCard

/-- THE SECOND FORM's CARD OF 'examboardlaw40.KeyingNormal'. -/
def keyingNormalUptoCard : Claim7 := { stood := { row := keyingNormalUptoRow, standIns := [], harness := (true, "082a628b5d1433978cdf7694ffbaaa430d80fd55f018e46078969afddae3401f"), looks := false }, kinds := [], alts := [], laidByText := true, laidKinds := [.data, .data, .data, .data, .pinned], laidTests := true, laidLooks := .later }
def KeyingNormalUptoCardSaid : Prop := Claim7.holds Tryz.pinned (.plain (OpenSpec.upto keyingNormalSpec)) keyingNormalUptoCard

/-- THE SECOND FORM's CARD OF 'examboardlaw40.KeyingPartial'. -/
def keyingPartialUptoCard : Claim7 := { stood := { row := keyingPartialUptoRow, standIns := [], harness := (true, "082a628b5d1433978cdf7694ffbaaa430d80fd55f018e46078969afddae3401f"), looks := false }, kinds := [], alts := [], laidByText := true, laidKinds := [.data, .data, .data, .data, .pinned], laidTests := true, laidLooks := .later }
def KeyingPartialUptoCardSaid : Prop := Claim7.holds Tryz.pinned (.plain (OpenSpec.upto keyingPartialSpec)) keyingPartialUptoCard
end Rows
end Go.Proofs.YtkmicjpoekbhfaaGreatDoor
