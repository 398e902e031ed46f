/- Digits: a number in decimal digits. -/
import Derived.Test.YtjmgefpdfhfhmaaGreatDoorWireI
import Derived.Outline
namespace Go.Proofs.YtjmgefpdfhfhmaaGreatDoor
open Go.RowKit

/-- the digits of n ahead of acc, f of them at most -/
def digs : Nat → Nat → List UInt8 → List UInt8
  | 0, _, acc => acc
  | f + 1, n, acc => if n / 10 = 0 then UInt8.ofNat (48 + n % 10) :: acc else digs f (n / 10) (UInt8.ofNat (48 + n % 10) :: acc)
def digits (v : Int) : List UInt8 := if v < 0 then 45 :: digs 20 v.natAbs [] else digs 20 v.natAbs []

theorem drop_set {l : List Value} {j : Nat} (h : j < l.length) (u : Value) : (l.set j u).drop j = u :: l.drop (j + 1) := by
  rw [List.drop_eq_getElem_cons (by rw [List.length_set]; exact h)]
  congr 1
  · simp
  · rw [List.drop_set_of_lt (by omega)]
theorem conv_at {w : World} {g j n cap : Nat} {t : TypeId} {cs : Array Value} {l : List UInt8} (hb : Blk w g t cs) (hd : cs.toList.drop j = bvs l) (hn : l.length = n) :
    (convert 69 9 (.slice (some ⟨g, j, none⟩) n cap)).run Tryz.prog w = .ok (.string (str l)) w := by
  subst hn
  refine run_convert_bytes_back w 69 9 5 _ cap l Tryz.underlying69 Tryz.underlying5 Tryz.underlying9 (fun i hi => ?_)
  have e : (⟨g, j, none⟩ : Addr).add i = ⟨g, j + i, none⟩ := by unfold Addr.add; split <;> simp_all
  rw [e, hb.cell, ← Array.getElem?_toList, ← List.getElem?_drop, hd]
  simp [bvs, bv, List.getElem?_eq_getElem hi]

end Go.Proofs.YtjmgefpdfhfhmaaGreatDoor
