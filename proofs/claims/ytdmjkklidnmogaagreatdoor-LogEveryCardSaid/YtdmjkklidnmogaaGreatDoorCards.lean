/-
  DERIVED. GIVEN WITH THE SEED: THE CARDS: each row of YtdmjkklidnmogaaGreatDoorRows.lean that lists a variable, with what it lists TIED to the program's text (the seventh form; the later family's looks); each row that meets fmt, with fmt's text TOLD by the authors' own Lean function (tested against real Go, not proved from fmt's source: count such statements apart). THE CARD IS WHAT COUNTS. Prove the row's statement (the work); the ties are given (YtdmjkklidnmogaaGreatDoorTie.lean); close each card by the builder's one call (the guide's Derived/Test/ToyasCard.lean, 'card_holds'). Laid BY PROGRAM, IN A SANDBOX (cutbox-door.mjs). By AI agents, Wed Nov 11 2026. No macro, syntax, notation, axiom, sorry.
-/
import Derived.Test.YtdmjkklidnmogaaGreatDoorRows
import GoSem.ClaimSeven
namespace Go.Proofs.YtdmjkklidnmogaaGreatDoor
namespace Rows

/-- THE TIED CARD OF 'commonslaw13.LogEvery'. -/
def logEveryCard : Claim7 := { stood := { row := logEveryRow, standIns := [], harness := (true, "3d242ba6c5745026f3e4e93c0ac1a98e146766ea455c8fa40838f6d7d61ac041"), looks := false }, kinds := [], alts := [], laidByText := true, laidKinds := [.data, .pinned], laidTests := true, laidLooks := .later }
def LogEveryCardSaid : Prop := Claim7.holds Tryz.pinned (.plain (OpenSpec.ofChange logEverySpec)) logEveryCard

/-- THE SECOND FORM's CARD OF 'commonslaw13.LogEvery'. -/
def logEveryUptoCard : Claim7 := { stood := { row := logEveryUptoRow, standIns := [], harness := (true, "3d242ba6c5745026f3e4e93c0ac1a98e146766ea455c8fa40838f6d7d61ac041"), looks := false }, kinds := [], alts := [], laidByText := true, laidKinds := [.data, .pinned], laidTests := true, laidLooks := .later }
def LogEveryUptoCardSaid : Prop := Claim7.holds Tryz.pinned (.plain (OpenSpec.upto logEverySpec)) logEveryUptoCard
end Rows
end Go.Proofs.YtdmjkklidnmogaaGreatDoor
