/-
  DERIVED. GIVEN WITH THE SEED: THE CARDS: each row of YtllbionkmgpcaaaGreatDoorRows.lean that lists a variable, with what it lists TIED to the program's text (the seventh form; the later family's looks); each row that meets fmt, with fmt's text TOLD by the authors' own Lean function (tested against real Go, not proved from fmt's source: count such statements apart). THE CARD IS WHAT COUNTS. Prove the row's statement (the work); the ties are given (YtllbionkmgpcaaaGreatDoorTie.lean); close each card by the builder's one call (the guide's Derived/Test/ToyasCard.lean, 'card_holds'). Laid BY PROGRAM, IN A SANDBOX (cutbox-door.mjs). By AI agents, Wed Nov 11 2026. No macro, syntax, notation, axiom, sorry.
-/
import Derived.Test.YtllbionkmgpcaaaGreatDoorRows
import GoSem.ClaimSeven
namespace Go.Proofs.YtllbionkmgpcaaaGreatDoor
namespace Rows

/-- THE TIED CARD OF 'commonslaw13.RedoNewer'. -/
def redoNewerCard : Claim7 := { stood := { row := redoNewerRow, standIns := [], harness := (true, "c6562b12814ec5eadf77875483603a9bb69e8c226214fe5bb7147c20fbde9bbc"), looks := false }, kinds := [], alts := [], laidByText := true, laidKinds := [.data, .pinned], laidTests := true, laidLooks := .later }
def RedoNewerCardSaid : Prop := Claim7.holds Tryz.pinned (.plain (OpenSpec.ofChange redoNewerSpec)) redoNewerCard

/-- THE SECOND FORM's CARD OF 'commonslaw13.RedoNewer'. -/
def redoNewerUptoCard : Claim7 := { stood := { row := redoNewerUptoRow, standIns := [], harness := (true, "c6562b12814ec5eadf77875483603a9bb69e8c226214fe5bb7147c20fbde9bbc"), looks := false }, kinds := [], alts := [], laidByText := true, laidKinds := [.data, .pinned], laidTests := true, laidLooks := .later }
def RedoNewerUptoCardSaid : Prop := Claim7.holds Tryz.pinned (.plain (OpenSpec.upto redoNewerSpec)) redoNewerUptoCard
end Rows
end Go.Proofs.YtllbionkmgpcaaaGreatDoor
