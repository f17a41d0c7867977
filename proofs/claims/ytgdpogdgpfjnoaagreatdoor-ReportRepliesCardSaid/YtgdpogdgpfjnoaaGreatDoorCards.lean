/-
  DERIVED. GIVEN WITH THE SEED: THE CARDS: each row of YtgdpogdgpfjnoaaGreatDoorRows.lean that lists a variable, with what it lists TIED to the program's text (the seventh form; the later family's looks); each row that meets fmt, with fmt's text TOLD by the authors' own Lean function (tested against real Go, not proved from fmt's source: count such statements apart). THE CARD IS WHAT COUNTS. Prove the row's statement (the work); the ties are given (YtgdpogdgpfjnoaaGreatDoorTie.lean); close each card by the builder's one call (the guide's Derived/Test/ToyasCard.lean, 'card_holds'). Laid BY PROGRAM, IN A SANDBOX (cutbox-door.mjs). By AI agents, Wed Nov 11 2026. No macro, syntax, notation, axiom, sorry.
-/
import Derived.Test.YtgdpogdgpfjnoaaGreatDoorRows
import GoSem.ClaimSeven
namespace Go.Proofs.YtgdpogdgpfjnoaaGreatDoor
namespace Rows

/-- THE TIED CARD OF 'pelotonlaw45.ReportNames'. -/
def reportNamesCard : Claim7 := { stood := { row := reportNamesRow, standIns := [], harness := (true, "f8ae3698126f2eec12dd018b984d116f809e08865fb468df0c989859424dd77b"), looks := true }, kinds := [], alts := [], laidByText := true, laidKinds := [.data, .data, .data, .data, .sentinel, .sentinel, .pinned], laidTests := true, laidLooks := .later }
def ReportNamesCardSaid : Prop := Claim7.holds Tryz.pinned (.plain (OpenSpec.ofChange reportNamesSpec)) reportNamesCard

/-- THE TIED CARD OF 'pelotonlaw45.ReportTells'. -/
def reportTellsCard : Claim7 := { stood := { row := reportTellsRow, standIns := [], harness := (true, "f8ae3698126f2eec12dd018b984d116f809e08865fb468df0c989859424dd77b"), looks := true }, kinds := [], alts := [], laidByText := true, laidKinds := [.data, .data, .data, .data, .sentinel, .sentinel, .pinned], laidTests := true, laidLooks := .later }
def ReportTellsCardSaid : Prop := Claim7.holds Tryz.pinned (.plain (OpenSpec.ofChange reportTellsSpec)) reportTellsCard

/-- THE TIED CARD OF 'pelotonlaw45.ReportReplies'. -/
def reportRepliesCard : Claim7 := { stood := { row := reportRepliesRow, standIns := [], harness := (true, "f8ae3698126f2eec12dd018b984d116f809e08865fb468df0c989859424dd77b"), looks := true }, kinds := [], alts := [], laidByText := true, laidKinds := [.data, .data, .data, .data, .sentinel, .sentinel, .pinned], laidTests := true, laidLooks := .later }
def ReportRepliesCardSaid : Prop := Claim7.holds Tryz.pinned (.plain (OpenSpec.ofChange reportRepliesSpec)) reportRepliesCard

/-- THE TIED CARD OF 'pelotonlaw45.ReportStandings'. -/
def reportStandingsCard : Claim7 := { stood := { row := reportStandingsRow, standIns := [], harness := (true, "f8ae3698126f2eec12dd018b984d116f809e08865fb468df0c989859424dd77b"), looks := true }, kinds := [], alts := [], laidByText := true, laidKinds := [.data, .data, .data, .data, .sentinel, .sentinel, .pinned], laidTests := true, laidLooks := .later }
def ReportStandingsCardSaid : Prop := Claim7.holds Tryz.pinned (.plain (OpenSpec.ofChange reportStandingsSpec)) reportStandingsCard

/-- THE TIED CARD OF 'pelotonlaw45.ReportBack'. -/
def reportBackCard : Claim7 := { stood := { row := reportBackRow, standIns := [], harness := (true, "f8ae3698126f2eec12dd018b984d116f809e08865fb468df0c989859424dd77b"), looks := true }, kinds := [], alts := [], laidByText := true, laidKinds := [.data, .data, .data, .data, .sentinel, .sentinel, .pinned], laidTests := true, laidLooks := .later }
def ReportBackCardSaid : Prop := Claim7.holds Tryz.pinned (.plain (OpenSpec.ofChange reportBackSpec)) reportBackCard

/-- THE TIED CARD OF 'pelotonlaw45.ReportRanks'. -/
def reportRanksCard : Claim7 := { stood := { row := reportRanksRow, standIns := [], harness := (true, "f8ae3698126f2eec12dd018b984d116f809e08865fb468df0c989859424dd77b"), looks := true }, kinds := [], alts := [], laidByText := true, laidKinds := [.data, .data, .data, .data, .sentinel, .sentinel, .pinned], laidTests := true, laidLooks := .later }
def ReportRanksCardSaid : Prop := Claim7.holds Tryz.pinned (.plain (OpenSpec.ofChange reportRanksSpec)) reportRanksCard

/-- THE SECOND FORM's CARD OF 'pelotonlaw45.ReportNames'. -/
def reportNamesUptoCard : Claim7 := { stood := { row := reportNamesUptoRow, standIns := [], harness := (true, "f8ae3698126f2eec12dd018b984d116f809e08865fb468df0c989859424dd77b"), looks := true }, kinds := [], alts := [], laidByText := true, laidKinds := [.data, .data, .data, .data, .sentinel, .sentinel, .pinned], laidTests := true, laidLooks := .later }
def ReportNamesUptoCardSaid : Prop := Claim7.holds Tryz.pinned (.plain (OpenSpec.upto reportNamesSpec)) reportNamesUptoCard

/-- THE SECOND FORM's CARD OF 'pelotonlaw45.ReportTells'. -/
def reportTellsUptoCard : Claim7 := { stood := { row := reportTellsUptoRow, standIns := [], harness := (true, "f8ae3698126f2eec12dd018b984d116f809e08865fb468df0c989859424dd77b"), looks := true }, kinds := [], alts := [], laidByText := true, laidKinds := [.data, .data, .data, .data, .sentinel, .sentinel, .pinned], laidTests := true, laidLooks := .later }
def ReportTellsUptoCardSaid : Prop := Claim7.holds Tryz.pinned (.plain (OpenSpec.upto reportTellsSpec)) reportTellsUptoCard

/-- THE SECOND FORM's CARD OF 'pelotonlaw45.ReportReplies'. -/
def reportRepliesUptoCard : Claim7 := { stood := { row := reportRepliesUptoRow, standIns := [], harness := (true, "f8ae3698126f2eec12dd018b984d116f809e08865fb468df0c989859424dd77b"), looks := true }, kinds := [], alts := [], laidByText := true, laidKinds := [.data, .data, .data, .data, .sentinel, .sentinel, .pinned], laidTests := true, laidLooks := .later }
def ReportRepliesUptoCardSaid : Prop := Claim7.holds Tryz.pinned (.plain (OpenSpec.upto reportRepliesSpec)) reportRepliesUptoCard

/-- THE SECOND FORM's CARD OF 'pelotonlaw45.ReportStandings'. -/
def reportStandingsUptoCard : Claim7 := { stood := { row := reportStandingsUptoRow, standIns := [], harness := (true, "f8ae3698126f2eec12dd018b984d116f809e08865fb468df0c989859424dd77b"), looks := true }, kinds := [], alts := [], laidByText := true, laidKinds := [.data, .data, .data, .data, .sentinel, .sentinel, .pinned], laidTests := true, laidLooks := .later }
def ReportStandingsUptoCardSaid : Prop := Claim7.holds Tryz.pinned (.plain (OpenSpec.upto reportStandingsSpec)) reportStandingsUptoCard

/-- THE SECOND FORM's CARD OF 'pelotonlaw45.ReportBack'. -/
def reportBackUptoCard : Claim7 := { stood := { row := reportBackUptoRow, standIns := [], harness := (true, "f8ae3698126f2eec12dd018b984d116f809e08865fb468df0c989859424dd77b"), looks := true }, kinds := [], alts := [], laidByText := true, laidKinds := [.data, .data, .data, .data, .sentinel, .sentinel, .pinned], laidTests := true, laidLooks := .later }
def ReportBackUptoCardSaid : Prop := Claim7.holds Tryz.pinned (.plain (OpenSpec.upto reportBackSpec)) reportBackUptoCard

/-- THE SECOND FORM's CARD OF 'pelotonlaw45.ReportRanks'. -/
def reportRanksUptoCard : Claim7 := { stood := { row := reportRanksUptoRow, standIns := [], harness := (true, "f8ae3698126f2eec12dd018b984d116f809e08865fb468df0c989859424dd77b"), looks := true }, kinds := [], alts := [], laidByText := true, laidKinds := [.data, .data, .data, .data, .sentinel, .sentinel, .pinned], laidTests := true, laidLooks := .later }
def ReportRanksUptoCardSaid : Prop := Claim7.holds Tryz.pinned (.plain (OpenSpec.upto reportRanksSpec)) reportRanksUptoCard
end Rows
end Go.Proofs.YtgdpogdgpfjnoaaGreatDoor
