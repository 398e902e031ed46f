/- A writer of bytes: Int, Flag, Text, Pad, Bytes; of nil ones. -/
import Derived.Test.YtjmgefpdfhfhmaaGreatDoorWireB
namespace Go.Proofs.YtjmgefpdfhfhmaaGreatDoor
open Go.RowKit

def Wr.text (W : Wr) (s : ByteArray) (room : Int) : Wr :=
  if W.e ≠ 0 then W else if room < 0 ∨ 60000 < room then { W with e := 1 } else if room < s.size then { W with e := 2 } else { W with bs := W.bs ++ le s.size 2 ++ s.data.toList }
def Wr.flag (W : Wr) (b : Bool) : Wr := W.num (if b then 1 else 0) 1
def Wr.pad (W : Wr) (n : Int) : Wr :=
  if W.e ≠ 0 then W else if 60000 < n then { W with e := 1 } else if n < W.bs.length then { W with e := 2 } else { W with bs := W.bs ++ List.replicate (n.toNat - W.bs.length) 0 }
theorem Wr.num_ok {W : Wr} {v : Nat} {n : Int} (he : W.e = 0) (h : numOk v n) : W.num v n = { W with bs := W.bs ++ le v n.toNat } := by unfold Wr.num; rw [if_neg (by simpa using he), if_pos h]
section
variable {o : Nat → Nat} {c : Nat} {w : World} {p : Nat} {W : Wr}
/-- an int as 64 bits -/
def u64 (v : Int) : Nat := (v % 18446744073709551616).toNat
theorem u64_lt (v : Int) : u64 v < 18446744073709551616 := by unfold u64; omega
end
end Go.Proofs.YtjmgefpdfhfhmaaGreatDoor
