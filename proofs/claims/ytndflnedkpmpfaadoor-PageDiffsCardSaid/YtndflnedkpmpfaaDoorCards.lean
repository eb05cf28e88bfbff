/-
  DERIVED. GIVEN WITH THE SEED: THE CARDS: each row of YtndflnedkpmpfaaDoorRows.lean that lists a variable, with what it lists TIED to the program's text (the seventh form; the later family's looks); each row that meets fmt, with fmt's text TOLD by the authors' own Lean function (tested against real Go, not proved from fmt's source: count such statements apart). THE CARD IS WHAT COUNTS. Prove the row's statement (the work); the ties are given (YtndflnedkpmpfaaDoorTie.lean); close each card by the builder's one call (the guide's Derived/Test/ToyasCard.lean, 'card_holds'). Laid BY PROGRAM, IN A SANDBOX (cutbox-door.mjs). By AI agents, Wed Nov 11 2026. No macro, syntax, notation, axiom, sorry.
-/
import Derived.Test.YtndflnedkpmpfaaDoorRows
import GoSem.ClaimSeven
namespace Go.Proofs.YtndflnedkpmpfaaDoor
namespace Rows

/-- THE TIED CARD OF 'parchmentlaw09.PageTells'. -/
def pageTellsCard : Claim7 := { stood := { row := pageTellsRow, standIns := [], harness := (true, "3b92fcfd898bb4a6281f05b42bdd104d8b704634afb99696c84e13c51b87177e"), looks := false }, kinds := [], alts := [], laidByText := true, laidKinds := [.data, .pinned], laidTests := true, laidLooks := .later }
def PageTellsCardSaid : Prop := Claim7.holds Tryd.pinned (.plain (OpenSpec.ofChange pageTellsSpec)) pageTellsCard

/-- THE TIED CARD OF 'parchmentlaw09.PageDiffs'. -/
def pageDiffsCard : Claim7 := { stood := { row := pageDiffsRow, standIns := [], harness := (true, "3b92fcfd898bb4a6281f05b42bdd104d8b704634afb99696c84e13c51b87177e"), looks := false }, kinds := [], alts := [], laidByText := true, laidKinds := [.data, .pinned], laidTests := true, laidLooks := .later }
def PageDiffsCardSaid : Prop := Claim7.holds Tryd.pinned (.plain (OpenSpec.ofChange pageDiffsSpec)) pageDiffsCard

/-- THE TIED CARD OF 'parchmentlaw09.PageTurned'. -/
def pageTurnedCard : Claim7 := { stood := { row := pageTurnedRow, standIns := [], harness := (true, "3b92fcfd898bb4a6281f05b42bdd104d8b704634afb99696c84e13c51b87177e"), looks := false }, kinds := [], alts := [], laidByText := true, laidKinds := [.data, .pinned], laidTests := true, laidLooks := .later }
def PageTurnedCardSaid : Prop := Claim7.holds Tryd.pinned (.plain (OpenSpec.ofChange pageTurnedSpec)) pageTurnedCard

/-- THE TIED CARD OF 'parchmentlaw09.PageLives'. -/
def pageLivesCard : Claim7 := { stood := { row := pageLivesRow, standIns := [], harness := (true, "3b92fcfd898bb4a6281f05b42bdd104d8b704634afb99696c84e13c51b87177e"), looks := false }, kinds := [], alts := [], laidByText := true, laidKinds := [.data, .pinned], laidTests := true, laidLooks := .later }
def PageLivesCardSaid : Prop := Claim7.holds Tryd.pinned (.plain (OpenSpec.ofChange pageLivesSpec)) pageLivesCard

/-- THE TIED CARD OF 'parchmentlaw09.PageCells'. -/
def pageCellsCard : Claim7 := { stood := { row := pageCellsRow, standIns := [], harness := (true, "3b92fcfd898bb4a6281f05b42bdd104d8b704634afb99696c84e13c51b87177e"), looks := false }, kinds := [], alts := [], laidByText := true, laidKinds := [.data, .pinned], laidTests := true, laidLooks := .later }
def PageCellsCardSaid : Prop := Claim7.holds Tryd.pinned (.plain (OpenSpec.ofChange pageCellsSpec)) pageCellsCard

/-- THE SECOND FORM's CARD OF 'parchmentlaw09.PageTells'. -/
def pageTellsUptoCard : Claim7 := { stood := { row := pageTellsUptoRow, standIns := [], harness := (true, "3b92fcfd898bb4a6281f05b42bdd104d8b704634afb99696c84e13c51b87177e"), looks := false }, kinds := [], alts := [], laidByText := true, laidKinds := [.data, .pinned], laidTests := true, laidLooks := .later }
def PageTellsUptoCardSaid : Prop := Claim7.holds Tryd.pinned (.plain (OpenSpec.upto pageTellsSpec)) pageTellsUptoCard

/-- THE SECOND FORM's CARD OF 'parchmentlaw09.PageDiffs'. -/
def pageDiffsUptoCard : Claim7 := { stood := { row := pageDiffsUptoRow, standIns := [], harness := (true, "3b92fcfd898bb4a6281f05b42bdd104d8b704634afb99696c84e13c51b87177e"), looks := false }, kinds := [], alts := [], laidByText := true, laidKinds := [.data, .pinned], laidTests := true, laidLooks := .later }
def PageDiffsUptoCardSaid : Prop := Claim7.holds Tryd.pinned (.plain (OpenSpec.upto pageDiffsSpec)) pageDiffsUptoCard

/-- THE SECOND FORM's CARD OF 'parchmentlaw09.PageTurned'. -/
def pageTurnedUptoCard : Claim7 := { stood := { row := pageTurnedUptoRow, standIns := [], harness := (true, "3b92fcfd898bb4a6281f05b42bdd104d8b704634afb99696c84e13c51b87177e"), looks := false }, kinds := [], alts := [], laidByText := true, laidKinds := [.data, .pinned], laidTests := true, laidLooks := .later }
def PageTurnedUptoCardSaid : Prop := Claim7.holds Tryd.pinned (.plain (OpenSpec.upto pageTurnedSpec)) pageTurnedUptoCard

/-- THE SECOND FORM's CARD OF 'parchmentlaw09.PageLives'. -/
def pageLivesUptoCard : Claim7 := { stood := { row := pageLivesUptoRow, standIns := [], harness := (true, "3b92fcfd898bb4a6281f05b42bdd104d8b704634afb99696c84e13c51b87177e"), looks := false }, kinds := [], alts := [], laidByText := true, laidKinds := [.data, .pinned], laidTests := true, laidLooks := .later }
def PageLivesUptoCardSaid : Prop := Claim7.holds Tryd.pinned (.plain (OpenSpec.upto pageLivesSpec)) pageLivesUptoCard

/-- THE SECOND FORM's CARD OF 'parchmentlaw09.PageCells'. -/
def pageCellsUptoCard : Claim7 := { stood := { row := pageCellsUptoRow, standIns := [], harness := (true, "3b92fcfd898bb4a6281f05b42bdd104d8b704634afb99696c84e13c51b87177e"), looks := false }, kinds := [], alts := [], laidByText := true, laidKinds := [.data, .pinned], laidTests := true, laidLooks := .later }
def PageCellsUptoCardSaid : Prop := Claim7.holds Tryd.pinned (.plain (OpenSpec.upto pageCellsSpec)) pageCellsUptoCard
end Rows
end Go.Proofs.YtndflnedkpmpfaaDoor
