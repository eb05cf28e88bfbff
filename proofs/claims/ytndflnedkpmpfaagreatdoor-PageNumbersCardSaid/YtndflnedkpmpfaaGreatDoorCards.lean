/-
  DERIVED. GIVEN WITH THE SEED: THE CARDS: each row of YtndflnedkpmpfaaGreatDoorRows.lean that lists a variable, with what it lists TIED to the program's text (the seventh form; the later family's looks); each row that meets fmt, with fmt's text TOLD by the authors' own Lean function (tested against real Go, not proved from fmt's source: count such statements apart). THE CARD IS WHAT COUNTS. Prove the row's statement (the work); the ties are given (YtndflnedkpmpfaaGreatDoorTie.lean); close each card by the builder's one call (the guide's Derived/Test/ToyasCard.lean, 'card_holds'). Laid BY PROGRAM, IN A SANDBOX (cutbox-door.mjs). By AI agents, Wed Nov 11 2026. No macro, syntax, notation, axiom, sorry.
-/
import Derived.Test.YtndflnedkpmpfaaGreatDoorRows
import GoSem.ClaimSeven
namespace Go.Proofs.YtndflnedkpmpfaaGreatDoor
namespace Rows

/-- THE TIED CARD OF 'parchmentlaw09.PageNumbers'. -/
def pageNumbersCard : Claim7 := { stood := { row := pageNumbersRow, standIns := [], harness := (true, "ce33fac10190487ae05076c0efec3ca4b16887466d75def126fb5bbbd38c1c4e"), looks := false }, kinds := [], alts := [], laidByText := true, laidKinds := [.data, .pinned], laidTests := true, laidLooks := .later }
def PageNumbersCardSaid : Prop := Claim7.holds Tryz.pinned (.plain (OpenSpec.ofChange pageNumbersSpec)) pageNumbersCard

/-- THE SECOND FORM's CARD OF 'parchmentlaw09.PageNumbers'. -/
def pageNumbersUptoCard : Claim7 := { stood := { row := pageNumbersUptoRow, standIns := [], harness := (true, "ce33fac10190487ae05076c0efec3ca4b16887466d75def126fb5bbbd38c1c4e"), looks := false }, kinds := [], alts := [], laidByText := true, laidKinds := [.data, .pinned], laidTests := true, laidLooks := .later }
def PageNumbersUptoCardSaid : Prop := Claim7.holds Tryz.pinned (.plain (OpenSpec.upto pageNumbersSpec)) pageNumbersUptoCard
end Rows
end Go.Proofs.YtndflnedkpmpfaaGreatDoor
