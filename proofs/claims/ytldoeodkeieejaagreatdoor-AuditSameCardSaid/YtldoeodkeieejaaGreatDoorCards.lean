/-
  DERIVED. GIVEN WITH THE SEED: THE CARDS: each row of YtldoeodkeieejaaGreatDoorRows.lean that lists a variable, with what it lists TIED to the program's text (the seventh form; the later family's looks); each row that meets fmt, with fmt's text TOLD by the authors' own Lean function (tested against real Go, not proved from fmt's source: count such statements apart). THE CARD IS WHAT COUNTS. Prove the row's statement (the work); the ties are given (YtldoeodkeieejaaGreatDoorTie.lean); close each card by the builder's one call (the guide's Derived/Test/ToyasCard.lean, 'card_holds'). Laid BY PROGRAM, IN A SANDBOX (cutbox-door.mjs). By AI agents, Wed Nov 11 2026. No macro, syntax, notation, axiom, sorry.
-/
import Derived.Test.YtldoeodkeieejaaGreatDoorRows
import GoSem.ClaimSeven
namespace Go.Proofs.YtldoeodkeieejaaGreatDoor
namespace Rows

/-- THE TIED CARD OF 'commonslaw27.AuditSame'. -/
def auditSameCard : Claim7 := { stood := { row := auditSameRow, standIns := [], harness := (true, "3678ad0e18afe866078b923724dbd5495a9d0544002e24b87ad7b786cec42dab"), looks := true }, kinds := [], alts := [], laidByText := true, laidKinds := [.data, .pinned], laidTests := true, laidLooks := .later }
def AuditSameCardSaid : Prop := Claim7.holds Tryz.pinned (.plain (OpenSpec.ofChange auditSameSpec)) auditSameCard

/-- THE SECOND FORM's CARD OF 'commonslaw27.AuditSame'. -/
def auditSameUptoCard : Claim7 := { stood := { row := auditSameUptoRow, standIns := [], harness := (true, "3678ad0e18afe866078b923724dbd5495a9d0544002e24b87ad7b786cec42dab"), looks := true }, kinds := [], alts := [], laidByText := true, laidKinds := [.data, .pinned], laidTests := true, laidLooks := .later }
def AuditSameUptoCardSaid : Prop := Claim7.holds Tryz.pinned (.plain (OpenSpec.upto auditSameSpec)) auditSameUptoCard
end Rows
end Go.Proofs.YtldoeodkeieejaaGreatDoor
