/-
  DERIVED. GIVEN WITH THE SEED: THE CARDS: each row of YtkhieofknglknaaGreatDoorRows.lean that lists a variable, with what it lists TIED to the program's text (the seventh form; the later family's looks); each row that meets fmt, with fmt's text TOLD by the authors' own Lean function (tested against real Go, not proved from fmt's source: count such statements apart). THE CARD IS WHAT COUNTS. Prove the row's statement (the work); the ties are given (YtkhieofknglknaaGreatDoorTie.lean); close each card by the builder's one call (the guide's Derived/Test/ToyasCard.lean, 'card_holds'). Laid BY PROGRAM, IN A SANDBOX (cutbox-door.mjs). By AI agents, Wed Nov 11 2026. No macro, syntax, notation, axiom, sorry.
-/
import Derived.Test.YtkhieofknglknaaGreatDoorRows
import GoSem.ClaimSeven
namespace Go.Proofs.YtkhieofknglknaaGreatDoor
namespace Rows

/-- THE TIED CARD OF 'commonslaw13.RedoPlans'. -/
def redoPlansCard : Claim7 := { stood := { row := redoPlansRow, standIns := [], harness := (true, "c541ec8863446641359ae4900872f2fad8d9b14ee6c39a95db2842e020e407dd"), looks := false }, kinds := [], alts := [], laidByText := true, laidKinds := [.data, .pinned], laidTests := true, laidLooks := .later }
def RedoPlansCardSaid : Prop := Claim7.holds Tryz.pinned (.plain (OpenSpec.ofChange redoPlansSpec)) redoPlansCard

/-- THE SECOND FORM's CARD OF 'commonslaw13.RedoPlans'. -/
def redoPlansUptoCard : Claim7 := { stood := { row := redoPlansUptoRow, standIns := [], harness := (true, "c541ec8863446641359ae4900872f2fad8d9b14ee6c39a95db2842e020e407dd"), looks := false }, kinds := [], alts := [], laidByText := true, laidKinds := [.data, .pinned], laidTests := true, laidLooks := .later }
def RedoPlansUptoCardSaid : Prop := Claim7.holds Tryz.pinned (.plain (OpenSpec.upto redoPlansSpec)) redoPlansUptoCard
end Rows
end Go.Proofs.YtkhieofknglknaaGreatDoor
