import Derived.Test.YtohgabdmmbngbaaGreatDoorKMapK
set_option linter.unusedVariables false
set_option linter.unusedSimpArgs false
namespace Go.Proofs.YtohgabdmmbngbaaGreatDoor
open Go.RowKit
theorem sum60 : readE (zer 64)=6:=by decide +kernel
theorem head_zero : lhE (str (zer 64))=6:=by
 unfold lhE
 rw [if_neg (by rw [str_size,zer_len];simp),str_list,sum60]
 rfl
end Go.Proofs.YtohgabdmmbngbaaGreatDoor
