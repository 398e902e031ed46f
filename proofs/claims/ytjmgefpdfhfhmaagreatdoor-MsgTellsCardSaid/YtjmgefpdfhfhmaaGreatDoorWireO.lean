/- The document's writer of bytes: Text, Flag (the same plain functions). -/
import Derived.Test.YtjmgefpdfhfhmaaGreatDoorWireM
namespace Go.Proofs.YtjmgefpdfhfhmaaGreatDoor
open Go.RowKit
section
variable {o : Nat → Nat} {c : Nat} {w : World} {p : Nat} {W : Wr}
end
end Go.Proofs.YtjmgefpdfhfhmaaGreatDoor
