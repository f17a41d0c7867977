/-
  DERIVED. GIVEN WITH THE SEED: THE CARDS: each row of YtfkfficabeclcaaGreatDoorRows.lean that lists a variable, with what it lists TIED to the program's text (the seventh form; the later family's looks); each row that meets fmt, with fmt's text TOLD by the authors' own Lean function (tested against real Go, not proved from fmt's source: count such statements apart). THE CARD IS WHAT COUNTS. Prove the row's statement (the work); the ties are given (YtfkfficabeclcaaGreatDoorTie.lean); close each card by the builder's one call (the guide's Derived/Test/ToyasCard.lean, 'card_holds'). Laid BY PROGRAM, IN A SANDBOX (cutbox-door.mjs). By AI agents, Wed Nov 11 2026. No macro, syntax, notation, axiom, sorry.
-/
import Derived.Test.YtfkfficabeclcaaGreatDoorRows
import GoSem.ClaimSeven
namespace Go.Proofs.YtfkfficabeclcaaGreatDoor
namespace Rows

/-- THE TIED CARD OF 'pelotonlaw45.ReportNames'. -/
def reportNamesCard : Claim7 := { stood := { row := reportNamesRow, standIns := [], harness := (true, "5f62a5922a362d73b36cb9f8836607988f1917c0ad7c47ccabb7ae423bc100c2"), looks := true }, kinds := [], alts := [], laidByText := true, laidKinds := [.data, .data, .data, .data, .sentinel, .sentinel, .pinned], laidTests := true, laidLooks := .later }
def ReportNamesCardSaid : Prop := Claim7.holds Tryz.pinned (.plain (OpenSpec.ofChange reportNamesSpec)) reportNamesCard

/-- THE TIED CARD OF 'pelotonlaw45.ReportTells'. -/
def reportTellsCard : Claim7 := { stood := { row := reportTellsRow, standIns := [], harness := (true, "5f62a5922a362d73b36cb9f8836607988f1917c0ad7c47ccabb7ae423bc100c2"), looks := true }, kinds := [], alts := [], laidByText := true, laidKinds := [.data, .data, .data, .data, .sentinel, .sentinel, .pinned], laidTests := true, laidLooks := .later }
def ReportTellsCardSaid : Prop := Claim7.holds Tryz.pinned (.plain (OpenSpec.ofChange reportTellsSpec)) reportTellsCard

/-- THE TIED CARD OF 'pelotonlaw45.ReportStandings'. -/
def reportStandingsCard : Claim7 := { stood := { row := reportStandingsRow, standIns := [], harness := (true, "5f62a5922a362d73b36cb9f8836607988f1917c0ad7c47ccabb7ae423bc100c2"), looks := true }, kinds := [], alts := [], laidByText := true, laidKinds := [.data, .data, .data, .data, .sentinel, .sentinel, .pinned], laidTests := true, laidLooks := .later }
def ReportStandingsCardSaid : Prop := Claim7.holds Tryz.pinned (.plain (OpenSpec.ofChange reportStandingsSpec)) reportStandingsCard

/-- THE TIED CARD OF 'pelotonlaw45.ReportBack'. -/
def reportBackCard : Claim7 := { stood := { row := reportBackRow, standIns := [], harness := (true, "5f62a5922a362d73b36cb9f8836607988f1917c0ad7c47ccabb7ae423bc100c2"), looks := true }, kinds := [], alts := [], laidByText := true, laidKinds := [.data, .data, .data, .data, .sentinel, .sentinel, .pinned], laidTests := true, laidLooks := .later }
def ReportBackCardSaid : Prop := Claim7.holds Tryz.pinned (.plain (OpenSpec.ofChange reportBackSpec)) reportBackCard

/-- THE TIED CARD OF 'pelotonlaw45.ReportRanks'. -/
def reportRanksCard : Claim7 := { stood := { row := reportRanksRow, standIns := [], harness := (true, "5f62a5922a362d73b36cb9f8836607988f1917c0ad7c47ccabb7ae423bc100c2"), looks := true }, kinds := [], alts := [], laidByText := true, laidKinds := [.data, .data, .data, .data, .sentinel, .sentinel, .pinned], laidTests := true, laidLooks := .later }
def ReportRanksCardSaid : Prop := Claim7.holds Tryz.pinned (.plain (OpenSpec.ofChange reportRanksSpec)) reportRanksCard

/-- THE SECOND FORM's CARD OF 'pelotonlaw45.ReportNames'. -/
def reportNamesUptoCard : Claim7 := { stood := { row := reportNamesUptoRow, standIns := [], harness := (true, "5f62a5922a362d73b36cb9f8836607988f1917c0ad7c47ccabb7ae423bc100c2"), looks := true }, kinds := [], alts := [], laidByText := true, laidKinds := [.data, .data, .data, .data, .sentinel, .sentinel, .pinned], laidTests := true, laidLooks := .later }
def ReportNamesUptoCardSaid : Prop := Claim7.holds Tryz.pinned (.plain (OpenSpec.upto reportNamesSpec)) reportNamesUptoCard

/-- THE SECOND FORM's CARD OF 'pelotonlaw45.ReportTells'. -/
def reportTellsUptoCard : Claim7 := { stood := { row := reportTellsUptoRow, standIns := [], harness := (true, "5f62a5922a362d73b36cb9f8836607988f1917c0ad7c47ccabb7ae423bc100c2"), looks := true }, kinds := [], alts := [], laidByText := true, laidKinds := [.data, .data, .data, .data, .sentinel, .sentinel, .pinned], laidTests := true, laidLooks := .later }
def ReportTellsUptoCardSaid : Prop := Claim7.holds Tryz.pinned (.plain (OpenSpec.upto reportTellsSpec)) reportTellsUptoCard

/-- THE SECOND FORM's CARD OF 'pelotonlaw45.ReportStandings'. -/
def reportStandingsUptoCard : Claim7 := { stood := { row := reportStandingsUptoRow, standIns := [], harness := (true, "5f62a5922a362d73b36cb9f8836607988f1917c0ad7c47ccabb7ae423bc100c2"), looks := true }, kinds := [], alts := [], laidByText := true, laidKinds := [.data, .data, .data, .data, .sentinel, .sentinel, .pinned], laidTests := true, laidLooks := .later }
def ReportStandingsUptoCardSaid : Prop := Claim7.holds Tryz.pinned (.plain (OpenSpec.upto reportStandingsSpec)) reportStandingsUptoCard

/-- THE SECOND FORM's CARD OF 'pelotonlaw45.ReportBack'. -/
def reportBackUptoCard : Claim7 := { stood := { row := reportBackUptoRow, standIns := [], harness := (true, "5f62a5922a362d73b36cb9f8836607988f1917c0ad7c47ccabb7ae423bc100c2"), looks := true }, kinds := [], alts := [], laidByText := true, laidKinds := [.data, .data, .data, .data, .sentinel, .sentinel, .pinned], laidTests := true, laidLooks := .later }
def ReportBackUptoCardSaid : Prop := Claim7.holds Tryz.pinned (.plain (OpenSpec.upto reportBackSpec)) reportBackUptoCard

/-- THE SECOND FORM's CARD OF 'pelotonlaw45.ReportRanks'. -/
def reportRanksUptoCard : Claim7 := { stood := { row := reportRanksUptoRow, standIns := [], harness := (true, "5f62a5922a362d73b36cb9f8836607988f1917c0ad7c47ccabb7ae423bc100c2"), looks := true }, kinds := [], alts := [], laidByText := true, laidKinds := [.data, .data, .data, .data, .sentinel, .sentinel, .pinned], laidTests := true, laidLooks := .later }
def ReportRanksUptoCardSaid : Prop := Claim7.holds Tryz.pinned (.plain (OpenSpec.upto reportRanksSpec)) reportRanksUptoCard
end Rows
end Go.Proofs.YtfkfficabeclcaaGreatDoor
