/- A reader of bytes: New, Text. -/
import Derived.Test.YtjmgefpdfhfhmaaGreatDoorWireG
namespace Go.Proofs.YtjmgefpdfhfhmaaGreatDoor
open Go.RowKit

theorem clone_any (s : ByteArray) (w : World) (hlim : s.size ≤ 281474976710656) : Calls Tryz.prog 101 #[.string s] w fun e w' => e = .returned (.string s) ∧ Below w.heap.size w w' := by
  go_enter Tryz.func101, Tryz.ntmps101
  go_wp2_with (go_at_call 137; refine (Tryz.stringslite_Clone s _ hlim).mono ?_; rintro e w' ⟨rfl, hb⟩)
  go_ret
  exact ⟨rfl, hb⟩
theorem newreader_any (o : Nat → Nat) (c : Nat) (b : ByteArray) (w : World) (hb : b.size ≤ 1000000000) :
    Calls Tryz.prog 23 #[.string b] w fun e w' => ∃ p o', e = .returned (.pointer (some ⟨p, 0, none⟩)) ∧ RdAt 127 o' c w' p ⟨b, 0⟩ ∧ Below w.heap.size w w' ∧ ∀ C, Step o C w o' w' := by
  go_enter Tryz.func23, Tryz.ntmps23
  go_wp2_with (go_at_call 101; refine (clone_any b _ (by omega)).mono ?_; rintro e w1 ⟨rfl, hb1⟩)
  go_ret
  have hs := hb1.size
  have hbl : Below w.heap.size w (w1.alloc (.cells #[.string b, .int .i64 0] 127)) := hb1.alloc hb1.size _
  have e1 : (w1.alloc (.cells #[.string b, .int .i64 0] 127)).heap.size = w1.heap.size + 1 := by simp
  refine ⟨w1.heap.size, band o w1.heap.size (w1.heap.size + 1) c, rfl, ⟨Blk.new _ _ _, band_in (Nat.le_refl _) (by omega), hb⟩, hbl, fun C => ⟨hbl.os, hbl.tape, hbl.output, hbl.size, fun k hk => band_lt (by omega), fun k hk => band_ge (by omega), fun k hk _ => hbl.block k hk⟩⟩
def Rd.textV (R : Rd) (room : Int) : ByteArray := if room < 0 ∨ 60000 < room then ⟨#[]⟩ else (R.countR room).takeS (R.countV room)
def Rd.textR (R : Rd) (room : Int) : Rd := if room < 0 ∨ 60000 < room then R.fail 1 else (R.countR room).takeR (R.countV room)
theorem countV_bd (R : Rd) (most : Int) : 0 ≤ R.countV most ∧ R.countV most < 65536 := by
  have hv : R.numV 2 < 65536 := numV_lt R 2 (by omega)
  unfold Rd.countV
  split <;> omega
theorem takeS_le (R : Rd) (n : Int) : (R.takeS n).size ≤ R.b.size := by
  unfold Rd.takeS
  split
  · rw [ByteArray.size_extract]; omega
  · exact Nat.zero_le _
section
variable {o : Nat → Nat} {c : Nat} {w : World} {p : Nat} {R : Rd}
end
end Go.Proofs.YtjmgefpdfhfhmaaGreatDoor
