/-
  DERIVED. GIVEN WITH THE SEED: THE CARDS: each row of YtjffjolopoejlaaGreatDoorRows.lean that lists a variable, with what it lists TIED to the program's text (the seventh form; the later family's looks); each row that meets fmt, with fmt's text TOLD by the authors' own Lean function (tested against real Go, not proved from fmt's source: count such statements apart). THE CARD IS WHAT COUNTS. Prove the row's statement (the work); the ties are given (YtjffjolopoejlaaGreatDoorTie.lean); close each card by the builder's one call (the guide's Derived/Test/ToyasCard.lean, 'card_holds'). Laid BY PROGRAM, IN A SANDBOX (cutbox-door.mjs). By AI agents, Wed Nov 11 2026. No macro, syntax, notation, axiom, sorry.
-/
import Derived.Test.YtjffjolopoejlaaGreatDoorRows
import GoSem.ClaimSeven
namespace Go.Proofs.YtjffjolopoejlaaGreatDoor
namespace Rows

/-- THE TIED CARD OF 'commonslaw13.RedoOther'. -/
def redoOtherCard : Claim7 := { stood := { row := redoOtherRow, standIns := [], harness := (true, "42b6c9d74fcefda2f67d7bb8964f4d273eb42a28c1138c0966cd457d4bdee28e"), looks := false }, kinds := [], alts := [], laidByText := true, laidKinds := [.data, .pinned], laidTests := true, laidLooks := .later }
def RedoOtherCardSaid : Prop := Claim7.holds Tryz.pinned (.plain (OpenSpec.ofChange redoOtherSpec)) redoOtherCard

/-- THE SECOND FORM's CARD OF 'commonslaw13.RedoOther'. -/
def redoOtherUptoCard : Claim7 := { stood := { row := redoOtherUptoRow, standIns := [], harness := (true, "42b6c9d74fcefda2f67d7bb8964f4d273eb42a28c1138c0966cd457d4bdee28e"), looks := false }, kinds := [], alts := [], laidByText := true, laidKinds := [.data, .pinned], laidTests := true, laidLooks := .later }
def RedoOtherUptoCardSaid : Prop := Claim7.holds Tryz.pinned (.plain (OpenSpec.upto redoOtherSpec)) redoOtherUptoCard
end Rows
end Go.Proofs.YtjffjolopoejlaaGreatDoor
