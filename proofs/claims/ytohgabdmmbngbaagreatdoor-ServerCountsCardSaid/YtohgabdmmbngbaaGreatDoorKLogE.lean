import Derived.Test.YtohgabdmmbngbaaGreatDoorKApplyP
import Derived.Test.YtohgabdmmbngbaaGreatDoorKRecB
set_option linter.unusedVariables false
set_option linter.unusedSimpArgs false
namespace Go.Proofs.YtohgabdmmbngbaaGreatDoor
open Go.RowKit
def logL (c:Nat):Nat→Prop:=fun x=>x=c∨x=c+1
theorem logL_log (c:Nat):∀x,only c x→logL c x:=fun _ h => .inl h
theorem logL_ring (c:Nat):∀x,only (c+1) x→logL c x:=fun _ h => .inr h
end Go.Proofs.YtohgabdmmbngbaaGreatDoor
