/-
  DERIVED. GIVEN WITH THE SEED: THE CARDS: each row of YtcmneekdajnnaaaGreatDoorRows.lean that lists a variable, with what it lists TIED to the program's text (the seventh form; the later family's looks); each row that meets fmt, with fmt's text TOLD by the authors' own Lean function (tested against real Go, not proved from fmt's source: count such statements apart). THE CARD IS WHAT COUNTS. Prove the row's statement (the work); the ties are given (YtcmneekdajnnaaaGreatDoorTie.lean); close each card by the builder's one call (the guide's Derived/Test/ToyasCard.lean, 'card_holds'). Laid BY PROGRAM, IN A SANDBOX (cutbox-door.mjs). By AI agents, Wed Nov 11 2026. No macro, syntax, notation, axiom, sorry.
-/
import Derived.Test.YtcmneekdajnnaaaGreatDoorRows
import GoSem.ClaimSeven
namespace Go.Proofs.YtcmneekdajnnaaaGreatDoor
namespace Rows

/-- THE TIED CARD OF 'commonslaw13.RedoWhole'. -/
def redoWholeCard : Claim7 := { stood := { row := redoWholeRow, standIns := [], harness := (true, "38509c7defeb1edd2dd01de090c6a6ae3a646c52f5c70227725da680b9df5e29"), looks := true }, kinds := [], alts := [], laidByText := true, laidKinds := [.data, .pinned], laidTests := true, laidLooks := .later }
def RedoWholeCardSaid : Prop := Claim7.holds Tryz.pinned (.plain (OpenSpec.ofChange redoWholeSpec)) redoWholeCard

/-- THE SECOND FORM's CARD OF 'commonslaw13.RedoWhole'. -/
def redoWholeUptoCard : Claim7 := { stood := { row := redoWholeUptoRow, standIns := [], harness := (true, "38509c7defeb1edd2dd01de090c6a6ae3a646c52f5c70227725da680b9df5e29"), looks := true }, kinds := [], alts := [], laidByText := true, laidKinds := [.data, .pinned], laidTests := true, laidLooks := .later }
def RedoWholeUptoCardSaid : Prop := Claim7.holds Tryz.pinned (.plain (OpenSpec.upto redoWholeSpec)) redoWholeUptoCard
end Rows
end Go.Proofs.YtcmneekdajnnaaaGreatDoor
