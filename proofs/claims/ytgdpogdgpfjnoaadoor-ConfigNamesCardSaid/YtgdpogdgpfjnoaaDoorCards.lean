/-
  DERIVED. GIVEN WITH THE SEED: THE CARDS: each row of YtgdpogdgpfjnoaaDoorRows.lean that lists a variable, with what it lists TIED to the program's text (the seventh form; the later family's looks); each row that meets fmt, with fmt's text TOLD by the authors' own Lean function (tested against real Go, not proved from fmt's source: count such statements apart). THE CARD IS WHAT COUNTS. Prove the row's statement (the work); the ties are given (YtgdpogdgpfjnoaaDoorTie.lean); close each card by the builder's one call (the guide's Derived/Test/ToyasCard.lean, 'card_holds'). Laid BY PROGRAM, IN A SANDBOX (cutbox-door.mjs). By AI agents, Wed Nov 11 2026. No macro, syntax, notation, axiom, sorry.
-/
import Derived.Test.YtgdpogdgpfjnoaaDoorRows
import GoSem.ClaimSeven
namespace Go.Proofs.YtgdpogdgpfjnoaaDoor
namespace Rows

/-- THE TIED CARD OF 'pelotonlaw44.ConfigTexts'. -/
def configTextsCard : Claim7 := { stood := { row := configTextsRow, standIns := [], harness := (true, "6d7e7a6d84c8360bfc271487235a6ac80b21f7ecaa023deea283a274b3caed8b"), looks := false }, kinds := [], alts := [], laidByText := true, laidKinds := [.data, .data, .data, .data, .pinned], laidTests := true, laidLooks := .later }
def ConfigTextsCardSaid : Prop := Claim7.holds Tryd.pinned (.plain (OpenSpec.ofChange configTextsSpec)) configTextsCard

/-- THE TIED CARD OF 'pelotonlaw44.ConfigNames'. -/
def configNamesCard : Claim7 := { stood := { row := configNamesRow, standIns := [], harness := (true, "6d7e7a6d84c8360bfc271487235a6ac80b21f7ecaa023deea283a274b3caed8b"), looks := false }, kinds := [], alts := [], laidByText := true, laidKinds := [.data, .data, .data, .data, .pinned], laidTests := true, laidLooks := .later }
def ConfigNamesCardSaid : Prop := Claim7.holds Tryd.pinned (.plain (OpenSpec.ofChange configNamesSpec)) configNamesCard

/-- THE TIED CARD OF 'pelotonlaw44.ConfigBack'. -/
def configBackCard : Claim7 := { stood := { row := configBackRow, standIns := [], harness := (true, "6d7e7a6d84c8360bfc271487235a6ac80b21f7ecaa023deea283a274b3caed8b"), looks := false }, kinds := [], alts := [], laidByText := true, laidKinds := [.data, .data, .data, .data, .pinned], laidTests := true, laidLooks := .later }
def ConfigBackCardSaid : Prop := Claim7.holds Tryd.pinned (.plain (OpenSpec.ofChange configBackSpec)) configBackCard

/-- THE TIED CARD OF 'pelotonlaw44.ConfigOrders'. -/
def configOrdersCard : Claim7 := { stood := { row := configOrdersRow, standIns := [], harness := (true, "6d7e7a6d84c8360bfc271487235a6ac80b21f7ecaa023deea283a274b3caed8b"), looks := false }, kinds := [], alts := [], laidByText := true, laidKinds := [.data, .data, .data, .data, .pinned], laidTests := true, laidLooks := .later }
def ConfigOrdersCardSaid : Prop := Claim7.holds Tryd.pinned (.plain (OpenSpec.ofChange configOrdersSpec)) configOrdersCard

/-- THE TIED CARD OF 'pelotonlaw44.ConfigRatios'. -/
def configRatiosCard : Claim7 := { stood := { row := configRatiosRow, standIns := [], harness := (true, "6d7e7a6d84c8360bfc271487235a6ac80b21f7ecaa023deea283a274b3caed8b"), looks := false }, kinds := [], alts := [], laidByText := true, laidKinds := [.data, .data, .data, .data, .pinned], laidTests := true, laidLooks := .later }
def ConfigRatiosCardSaid : Prop := Claim7.holds Tryd.pinned (.plain (OpenSpec.ofChange configRatiosSpec)) configRatiosCard

/-- THE SECOND FORM's CARD OF 'pelotonlaw44.ConfigTexts'. -/
def configTextsUptoCard : Claim7 := { stood := { row := configTextsUptoRow, standIns := [], harness := (true, "6d7e7a6d84c8360bfc271487235a6ac80b21f7ecaa023deea283a274b3caed8b"), looks := false }, kinds := [], alts := [], laidByText := true, laidKinds := [.data, .data, .data, .data, .pinned], laidTests := true, laidLooks := .later }
def ConfigTextsUptoCardSaid : Prop := Claim7.holds Tryd.pinned (.plain (OpenSpec.upto configTextsSpec)) configTextsUptoCard

/-- THE SECOND FORM's CARD OF 'pelotonlaw44.ConfigNames'. -/
def configNamesUptoCard : Claim7 := { stood := { row := configNamesUptoRow, standIns := [], harness := (true, "6d7e7a6d84c8360bfc271487235a6ac80b21f7ecaa023deea283a274b3caed8b"), looks := false }, kinds := [], alts := [], laidByText := true, laidKinds := [.data, .data, .data, .data, .pinned], laidTests := true, laidLooks := .later }
def ConfigNamesUptoCardSaid : Prop := Claim7.holds Tryd.pinned (.plain (OpenSpec.upto configNamesSpec)) configNamesUptoCard

/-- THE SECOND FORM's CARD OF 'pelotonlaw44.ConfigBack'. -/
def configBackUptoCard : Claim7 := { stood := { row := configBackUptoRow, standIns := [], harness := (true, "6d7e7a6d84c8360bfc271487235a6ac80b21f7ecaa023deea283a274b3caed8b"), looks := false }, kinds := [], alts := [], laidByText := true, laidKinds := [.data, .data, .data, .data, .pinned], laidTests := true, laidLooks := .later }
def ConfigBackUptoCardSaid : Prop := Claim7.holds Tryd.pinned (.plain (OpenSpec.upto configBackSpec)) configBackUptoCard

/-- THE SECOND FORM's CARD OF 'pelotonlaw44.ConfigOrders'. -/
def configOrdersUptoCard : Claim7 := { stood := { row := configOrdersUptoRow, standIns := [], harness := (true, "6d7e7a6d84c8360bfc271487235a6ac80b21f7ecaa023deea283a274b3caed8b"), looks := false }, kinds := [], alts := [], laidByText := true, laidKinds := [.data, .data, .data, .data, .pinned], laidTests := true, laidLooks := .later }
def ConfigOrdersUptoCardSaid : Prop := Claim7.holds Tryd.pinned (.plain (OpenSpec.upto configOrdersSpec)) configOrdersUptoCard

/-- THE SECOND FORM's CARD OF 'pelotonlaw44.ConfigRatios'. -/
def configRatiosUptoCard : Claim7 := { stood := { row := configRatiosUptoRow, standIns := [], harness := (true, "6d7e7a6d84c8360bfc271487235a6ac80b21f7ecaa023deea283a274b3caed8b"), looks := false }, kinds := [], alts := [], laidByText := true, laidKinds := [.data, .data, .data, .data, .pinned], laidTests := true, laidLooks := .later }
def ConfigRatiosUptoCardSaid : Prop := Claim7.holds Tryd.pinned (.plain (OpenSpec.upto configRatiosSpec)) configRatiosUptoCard
end Rows
end Go.Proofs.YtgdpogdgpfjnoaaDoor
