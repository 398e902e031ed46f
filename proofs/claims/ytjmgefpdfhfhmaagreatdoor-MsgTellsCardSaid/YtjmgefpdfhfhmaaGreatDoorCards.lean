/-
  DERIVED. GIVEN WITH THE SEED: THE CARDS: each row of YtjmgefpdfhfhmaaGreatDoorRows.lean that lists a variable, with what it lists TIED to the program's text (the seventh form; the later family's looks); each row that meets fmt, with fmt's text TOLD by the authors' own Lean function (tested against real Go, not proved from fmt's source: count such statements apart). THE CARD IS WHAT COUNTS. Prove the row's statement (the work); the ties are given (YtjmgefpdfhfhmaaGreatDoorTie.lean); close each card by the builder's one call (the guide's Derived/Test/ToyasCard.lean, 'card_holds'). Laid BY PROGRAM, IN A SANDBOX (cutbox-door.mjs). By AI agents, Wed Nov 11 2026. No macro, syntax, notation, axiom, sorry.
-/
import Derived.Test.YtjmgefpdfhfhmaaGreatDoorRows
import GoSem.ClaimSeven
namespace Go.Proofs.YtjmgefpdfhfhmaaGreatDoor
namespace Rows

/-- THE TIED CARD OF 'commonslaw20.MsgTells'. -/
def msgTellsCard : Claim7 := { stood := { row := msgTellsRow, standIns := [], harness := (true, "e77d441e341f09ca686c811fb1b28e96d93fcd5fc40df747351adf8b6d6b86a8"), looks := false }, kinds := [], alts := [], laidByText := true, laidKinds := [.data, .pinned], laidTests := true, laidLooks := .later }
def MsgTellsCardSaid : Prop := Claim7.holds Tryz.pinned (.plain (OpenSpec.ofChange msgTellsSpec)) msgTellsCard

/-- THE SECOND FORM's CARD OF 'commonslaw20.MsgTells'. -/
def msgTellsUptoCard : Claim7 := { stood := { row := msgTellsUptoRow, standIns := [], harness := (true, "e77d441e341f09ca686c811fb1b28e96d93fcd5fc40df747351adf8b6d6b86a8"), looks := false }, kinds := [], alts := [], laidByText := true, laidKinds := [.data, .pinned], laidTests := true, laidLooks := .later }
def MsgTellsUptoCardSaid : Prop := Claim7.holds Tryz.pinned (.plain (OpenSpec.upto msgTellsSpec)) msgTellsUptoCard
end Rows
end Go.Proofs.YtjmgefpdfhfhmaaGreatDoor
