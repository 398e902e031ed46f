/- The law's first call, whose answer the document fixes: alive() returns true. What all laws of chapter 1 share. -/
import Derived.Test.YtjmgefpdfhfhmaaGreatDoorWireK
namespace Go.Proofs.YtjmgefpdfhfhmaaGreatDoor
open Go.RowKit

/-- what lay before the law stays; its colour is 0 -/
structure Env (o : Nat → Nat) (w0 w : World) : Prop where
  low : Below w0.heap.size w0 w
  old : ∀ k, k < w0.heap.size → o k = 0
section
variable {o o' : Nat → Nat} {C : Nat → Prop} {w0 w w' : World}
theorem Env.start (w : World) : Env (fun _ => 0) w w := ⟨Below.refl _ _, fun _ _ => rfl⟩
theorem Env.step (h : Env o w0 w) (hs : Step o C w o' w') (h0 : ¬ C 0) : Env o' w0 w' :=
  ⟨h.low.trans (hs.below (fun k hk => by rw [h.old k hk]; exact h0) h.low.size), fun k hk => (hs.old k (Nat.lt_of_lt_of_le hk h.low.size)).trans (h.old k hk)⟩
theorem Env.below_ (h : Env o w0 w) (hb : Below w.heap.size w w') : Env o w0 w' := h.step (Step.of_below o (fun _ => False) hb) (by simp)
theorem Env.drewN (h : Env o w0 w) (n : Nat) : Env o w0 (w.drewN n) := ⟨⟨h.low.os, h.low.tape, h.low.output, h.low.size, h.low.block⟩, h.old⟩
theorem Env.alloc (h : Env o w0 w) (x : Obj) : Env o w0 (w.alloc x) := h.below_ ((Below.refl _ _).alloc (Nat.le_refl _) x)
end
/-- a writer that was made now -/
theorem wr_new (T : TypeId) (o : Nat → Nat) (c : Nat) (w : World) : ∃ o', WrAt T o' c (w.alloc (.cells #[.slice none 0 0, .int .i64 0] T)) w.heap.size ⟨[], 0⟩ ∧ ∀ C, Step o C w o' (w.alloc (.cells #[.slice none 0 0, .int .i64 0] T)) := by
  refine ⟨band o w.heap.size (w.alloc (.cells #[.slice none 0 0, .int .i64 0] T)).heap.size c, ⟨_, Blk.new _ _ _, band_in (Nat.le_refl _) (by simp), OwnS.nil _ _ _ _ _⟩, fun C => ?_⟩
  exact Step.of_below_band o C c ((Below.refl _ _).alloc (Nat.le_refl _) _)

namespace Al
def A : ByteArray := ⟨#[97]⟩
theorem w1 : ((Wr.num ⟨[], 0⟩ 258 2).text A 9).flag true = ⟨[2, 1, 1, 0, 97, 1], 0⟩ := by kernel_rfl
def B : ByteArray := ⟨#[2, 1, 5]⟩
theorem r1 : Rd.numV ⟨B, 0⟩ 2 = 258 := by kernel_rfl
theorem r2 : (Rd.numR ⟨B, 0⟩ 2).endV = 4 := by kernel_rfl
theorem d7 : str (digits (-7)) = ⟨#[45, 55]⟩ := by kernel_rfl
theorem s1 : (str [2, 1, 1, 0, 97, 1]).toList = [2, 1, 1, 0, 97, 1] := by decide +kernel
theorem s2 : ((str (digits (-7))).toList == [45, 55]) = true := by decide +kernel
theorem l1 : (Wr.num ⟨[], 0⟩ 258 2).bs.length ≤ 1000000000 := by decide +kernel
theorem l2 : ((Wr.num ⟨[], 0⟩ 258 2).text A 9).bs.length ≤ 1000000000 := by decide +kernel
end Al

end Go.Proofs.YtjmgefpdfhfhmaaGreatDoor
