/-
  DERIVED. GIVEN WITH THE SEED: THE CARDS: each row of YtcggnmddcbhchaaGreatDoorRows.lean that lists a variable, with what it lists TIED to the program's text (the seventh form; the later family's looks); each row that meets fmt, with fmt's text TOLD by the authors' own Lean function (tested against real Go, not proved from fmt's source: count such statements apart). THE CARD IS WHAT COUNTS. Prove the row's statement (the work); the ties are given (YtcggnmddcbhchaaGreatDoorTie.lean); close each card by the builder's one call (the guide's Derived/Test/ToyasCard.lean, 'card_holds'). Laid BY PROGRAM, IN A SANDBOX (cutbox-door.mjs). By AI agents, Wed Nov 11 2026. No macro, syntax, notation, axiom, sorry.
-/
import Derived.Test.YtcggnmddcbhchaaGreatDoorRows
import GoSem.ClaimSeven
namespace Go.Proofs.YtcggnmddcbhchaaGreatDoor
namespace Rows

/-- THE TIED CARD OF 'examboardlaw56.ReportTexts'. -/
def reportTextsCard : Claim7 := { stood := { row := reportTextsRow, standIns := [], harness := (true, "3f6eb17a8b43bcc7a8777b18b9c42e24ce8a0caa13f4e8c3a478997ce842e493"), looks := false }, kinds := [], alts := [], laidByText := true, laidKinds := [.data, .data, .data, .data, .data, .pinned], laidTests := true, laidLooks := .later }
def ReportTextsCardSaid : Prop := Claim7.holds Tryz.pinned (.plain (OpenSpec.ofChange reportTextsSpec)) reportTextsCard

/-- THE TIED CARD OF 'examboardlaw56.ReportParses'. -/
def reportParsesCard : Claim7 := { stood := { row := reportParsesRow, standIns := [], harness := (true, "3f6eb17a8b43bcc7a8777b18b9c42e24ce8a0caa13f4e8c3a478997ce842e493"), looks := false }, kinds := [], alts := [], laidByText := true, laidKinds := [.data, .data, .data, .data, .data, .pinned], laidTests := true, laidLooks := .later }
def ReportParsesCardSaid : Prop := Claim7.holds Tryz.pinned (.plain (OpenSpec.ofChange reportParsesSpec)) reportParsesCard

/-- THE TIED CARD OF 'examboardlaw56.ReportExplains'. -/
def reportExplainsCard : Claim7 := { stood := { row := reportExplainsRow, standIns := [], harness := (true, "3f6eb17a8b43bcc7a8777b18b9c42e24ce8a0caa13f4e8c3a478997ce842e493"), looks := false }, kinds := [], alts := [], laidByText := true, laidKinds := [.data, .data, .data, .data, .data, .pinned], laidTests := true, laidLooks := .later }
def ReportExplainsCardSaid : Prop := Claim7.holds Tryz.pinned (.plain (OpenSpec.ofChange reportExplainsSpec)) reportExplainsCard

/-- THE TIED CARD OF 'examboardlaw56.ReportRoundTrip'. -/
def reportRoundTripCard : Claim7 := { stood := { row := reportRoundTripRow, standIns := [], harness := (true, "3f6eb17a8b43bcc7a8777b18b9c42e24ce8a0caa13f4e8c3a478997ce842e493"), looks := false }, kinds := [], alts := [], laidByText := true, laidKinds := [.data, .data, .data, .data, .data, .pinned], laidTests := true, laidLooks := .later }
def ReportRoundTripCardSaid : Prop := Claim7.holds Tryz.pinned (.plain (OpenSpec.ofChange reportRoundTripSpec)) reportRoundTripCard

/-- THE TIED CARD OF 'examboardlaw56.ReportSame'. -/
def reportSameCard : Claim7 := { stood := { row := reportSameRow, standIns := [], harness := (true, "3f6eb17a8b43bcc7a8777b18b9c42e24ce8a0caa13f4e8c3a478997ce842e493"), looks := false }, kinds := [], alts := [], laidByText := true, laidKinds := [.data, .data, .data, .data, .data, .pinned], laidTests := true, laidLooks := .later }
def ReportSameCardSaid : Prop := Claim7.holds Tryz.pinned (.plain (OpenSpec.ofChange reportSameSpec)) reportSameCard

/-- THE TIED CARD OF 'examboardlaw56.ReportSteps'. -/
def reportStepsCard : Claim7 := { stood := { row := reportStepsRow, standIns := [], harness := (true, "3f6eb17a8b43bcc7a8777b18b9c42e24ce8a0caa13f4e8c3a478997ce842e493"), looks := false }, kinds := [], alts := [], laidByText := true, laidKinds := [.data, .data, .data, .data, .data, .pinned], laidTests := true, laidLooks := .later }
def ReportStepsCardSaid : Prop := Claim7.holds Tryz.pinned (.plain (OpenSpec.ofChange reportStepsSpec)) reportStepsCard

/-- THE SECOND FORM's CARD OF 'examboardlaw56.ReportTexts'. -/
def reportTextsUptoCard : Claim7 := { stood := { row := reportTextsUptoRow, standIns := [], harness := (true, "3f6eb17a8b43bcc7a8777b18b9c42e24ce8a0caa13f4e8c3a478997ce842e493"), looks := false }, kinds := [], alts := [], laidByText := true, laidKinds := [.data, .data, .data, .data, .data, .pinned], laidTests := true, laidLooks := .later }
def ReportTextsUptoCardSaid : Prop := Claim7.holds Tryz.pinned (.plain (OpenSpec.upto reportTextsSpec)) reportTextsUptoCard

/-- THE SECOND FORM's CARD OF 'examboardlaw56.ReportParses'. -/
def reportParsesUptoCard : Claim7 := { stood := { row := reportParsesUptoRow, standIns := [], harness := (true, "3f6eb17a8b43bcc7a8777b18b9c42e24ce8a0caa13f4e8c3a478997ce842e493"), looks := false }, kinds := [], alts := [], laidByText := true, laidKinds := [.data, .data, .data, .data, .data, .pinned], laidTests := true, laidLooks := .later }
def ReportParsesUptoCardSaid : Prop := Claim7.holds Tryz.pinned (.plain (OpenSpec.upto reportParsesSpec)) reportParsesUptoCard

/-- THE SECOND FORM's CARD OF 'examboardlaw56.ReportExplains'. -/
def reportExplainsUptoCard : Claim7 := { stood := { row := reportExplainsUptoRow, standIns := [], harness := (true, "3f6eb17a8b43bcc7a8777b18b9c42e24ce8a0caa13f4e8c3a478997ce842e493"), looks := false }, kinds := [], alts := [], laidByText := true, laidKinds := [.data, .data, .data, .data, .data, .pinned], laidTests := true, laidLooks := .later }
def ReportExplainsUptoCardSaid : Prop := Claim7.holds Tryz.pinned (.plain (OpenSpec.upto reportExplainsSpec)) reportExplainsUptoCard

/-- THE SECOND FORM's CARD OF 'examboardlaw56.ReportRoundTrip'. -/
def reportRoundTripUptoCard : Claim7 := { stood := { row := reportRoundTripUptoRow, standIns := [], harness := (true, "3f6eb17a8b43bcc7a8777b18b9c42e24ce8a0caa13f4e8c3a478997ce842e493"), looks := false }, kinds := [], alts := [], laidByText := true, laidKinds := [.data, .data, .data, .data, .data, .pinned], laidTests := true, laidLooks := .later }
def ReportRoundTripUptoCardSaid : Prop := Claim7.holds Tryz.pinned (.plain (OpenSpec.upto reportRoundTripSpec)) reportRoundTripUptoCard

/-- THE SECOND FORM's CARD OF 'examboardlaw56.ReportSame'. -/
def reportSameUptoCard : Claim7 := { stood := { row := reportSameUptoRow, standIns := [], harness := (true, "3f6eb17a8b43bcc7a8777b18b9c42e24ce8a0caa13f4e8c3a478997ce842e493"), looks := false }, kinds := [], alts := [], laidByText := true, laidKinds := [.data, .data, .data, .data, .data, .pinned], laidTests := true, laidLooks := .later }
def ReportSameUptoCardSaid : Prop := Claim7.holds Tryz.pinned (.plain (OpenSpec.upto reportSameSpec)) reportSameUptoCard

/-- THE SECOND FORM's CARD OF 'examboardlaw56.ReportSteps'. -/
def reportStepsUptoCard : Claim7 := { stood := { row := reportStepsUptoRow, standIns := [], harness := (true, "3f6eb17a8b43bcc7a8777b18b9c42e24ce8a0caa13f4e8c3a478997ce842e493"), looks := false }, kinds := [], alts := [], laidByText := true, laidKinds := [.data, .data, .data, .data, .data, .pinned], laidTests := true, laidLooks := .later }
def ReportStepsUptoCardSaid : Prop := Claim7.holds Tryz.pinned (.plain (OpenSpec.upto reportStepsSpec)) reportStepsUptoCard
end Rows
end Go.Proofs.YtcggnmddcbhchaaGreatDoor
