/-
  DERIVED. GIVEN WITH THE SEED: THE CARDS: each row of YtianlhigeabehaaGreatDoorRows.lean that lists a variable, with what it lists TIED to the program's text (the seventh form; the later family's looks); each row that meets fmt, with fmt's text TOLD by the authors' own Lean function (tested against real Go, not proved from fmt's source: count such statements apart). THE CARD IS WHAT COUNTS. Prove the row's statement (the work); the ties are given (YtianlhigeabehaaGreatDoorTie.lean); close each card by the builder's one call (the guide's Derived/Test/ToyasCard.lean, 'card_holds'). Laid BY PROGRAM, IN A SANDBOX (cutbox-door.mjs). By AI agents, Wed Nov 11 2026. No macro, syntax, notation, axiom, sorry.
-/
import Derived.Test.YtianlhigeabehaaGreatDoorRows
import GoSem.ClaimSeven
namespace Go.Proofs.YtianlhigeabehaaGreatDoor
namespace Rows

/-- THE TIED CARD OF 'commonslaw13.RedoEvery'. -/
def redoEveryCard : Claim7 := { stood := { row := redoEveryRow, standIns := [], harness := (true, "f63e188257572db0338e03331cd5d3ec36ab7171e2c65ed462e8e603b05fc569"), looks := false }, kinds := [], alts := [], laidByText := true, laidKinds := [.data, .pinned], laidTests := true, laidLooks := .later }
def RedoEveryCardSaid : Prop := Claim7.holds Tryz.pinned (.plain (OpenSpec.ofChange redoEverySpec)) redoEveryCard

/-- THE SECOND FORM's CARD OF 'commonslaw13.RedoEvery'. -/
def redoEveryUptoCard : Claim7 := { stood := { row := redoEveryUptoRow, standIns := [], harness := (true, "f63e188257572db0338e03331cd5d3ec36ab7171e2c65ed462e8e603b05fc569"), looks := false }, kinds := [], alts := [], laidByText := true, laidKinds := [.data, .pinned], laidTests := true, laidLooks := .later }
def RedoEveryUptoCardSaid : Prop := Claim7.holds Tryz.pinned (.plain (OpenSpec.upto redoEverySpec)) redoEveryUptoCard
end Rows
end Go.Proofs.YtianlhigeabehaaGreatDoor
