/- The law's first call, whose answer the document fixes: alive() returns true. What all laws of chapter 1 share. -/
import Derived.Test.YtoploimpfhnanaaDoorWireK
namespace Go.Proofs.YtoploimpfhnanaaDoor
open Go.RowKit

/-- what lay before the law stays; its colour is 0 -/
structure Env (o : Nat → Nat) (w0 w : World) : Prop where
  low : Below w0.heap.size w0 w
  old : ∀ k, k < w0.heap.size → o k = 0
section
variable {o o' : Nat → Nat} {C : Nat → Prop} {w0 w w' : World}
theorem Env.start (w : World) : Env (fun _ => 0) w w := ⟨Below.refl _ _, fun _ _ => rfl⟩
theorem Env.step (h : Env o w0 w) (hs : Step o C w o' w') (h0 : ¬ C 0) : Env o' w0 w' :=
  ⟨h.low.trans (hs.below (fun k hk => by rw [h.old k hk]; exact h0) h.low.size), fun k hk => (hs.old k (Nat.lt_of_lt_of_le hk h.low.size)).trans (h.old k hk)⟩
theorem Env.below_ (h : Env o w0 w) (hb : Below w.heap.size w w') : Env o w0 w' := h.step (Step.of_below o (fun _ => False) hb) (by simp)
theorem Env.drewN (h : Env o w0 w) (n : Nat) : Env o w0 (w.drewN n) := ⟨⟨h.low.os, h.low.tape, h.low.output, h.low.size, h.low.block⟩, h.old⟩
theorem Env.alloc (h : Env o w0 w) (x : Obj) : Env o w0 (w.alloc x) := h.below_ ((Below.refl _ _).alloc (Nat.le_refl _) x)
end
/-- a writer that was made now -/
theorem wr_new (T : TypeId) (o : Nat → Nat) (c : Nat) (w : World) : ∃ o', WrAt T o' c (w.alloc (.cells #[.slice none 0 0, .int .i64 0] T)) w.heap.size ⟨[], 0⟩ ∧ ∀ C, Step o C w o' (w.alloc (.cells #[.slice none 0 0, .int .i64 0] T)) := by
  refine ⟨band o w.heap.size (w.alloc (.cells #[.slice none 0 0, .int .i64 0] T)).heap.size c, ⟨_, Blk.new _ _ _, band_in (Nat.le_refl _) (by simp), OwnS.nil _ _ _ _ _⟩, fun C => ?_⟩
  exact Step.of_below_band o C c ((Below.refl _ _).alloc (Nat.le_refl _) _)

namespace Al
def A : ByteArray := ⟨#[97]⟩
theorem w1 : ((Wr.num ⟨[], 0⟩ 258 2).text A 9).flag true = ⟨[2, 1, 1, 0, 97, 1], 0⟩ := by kernel_rfl
def B : ByteArray := ⟨#[2, 1, 5]⟩
theorem r1 : Rd.numV ⟨B, 0⟩ 2 = 258 := by kernel_rfl
theorem r2 : (Rd.numR ⟨B, 0⟩ 2).endV = 4 := by kernel_rfl
theorem d7 : str (digits (-7)) = ⟨#[45, 55]⟩ := by kernel_rfl
theorem s1 : (str [2, 1, 1, 0, 97, 1]).toList = [2, 1, 1, 0, 97, 1] := by decide +kernel
theorem s2 : ((str (digits (-7))).toList == [45, 55]) = true := by decide +kernel
theorem l1 : (Wr.num ⟨[], 0⟩ 258 2).bs.length ≤ 1000000000 := by decide +kernel
theorem l2 : ((Wr.num ⟨[], 0⟩ 258 2).text A 9).bs.length ≤ 1000000000 := by decide +kernel
end Al

set_option maxRecDepth 100000 in
set_option maxHeartbeats 4000000 in
theorem alive1_any (w : World) : Calls Tryd.prog 16 #[] w fun e w' => e = .returned (.bool true) ∧ Below w.heap.size w w' := by
  obtain ⟨o0, hw0, hs0⟩ := wr_new 71 (fun _ => 0) 1 w
  have HW0 := Lib.hid hw0
  have HE0 := Lib.hid ((Env.start w).step (hs0 (fun _ => False)) (by simp))
  clear hw0 hs0
  go_enter Tryd.func16, Tryd.ntmps16
  go_wp2_with fail
  refine (wnum_any HW0.out 258 2 (by omega) (by simp)).mono ?_
  rintro e w1 ⟨rfl, o1, hw1, hs1⟩
  have HW1 := Lib.hid hw1
  have HE1 := Lib.hid (HE0.out.step hs1 (by unfold only; omega))
  clear hw1 hs1
  go_wp2_with fail
  refine (wtext_any HW1.out Al.A 9 (by decide) Al.l1).mono ?_
  rintro e w2 ⟨rfl, o2, hw2, hs2⟩
  have HW2 := Lib.hid hw2
  have HE2 := Lib.hid (HE1.out.step hs2 (by unfold only; omega))
  clear hw2 hs2
  go_wp2_with fail
  refine (wflag_any HW2.out true Al.l2).mono ?_
  rintro e w3 ⟨rfl, o3, hw3, hs3⟩
  rw [Al.w1] at hw3
  have HW3 := Lib.hid hw3
  have HE3 := Lib.hid (HE2.out.step hs3 (by unfold only; omega))
  clear hw3 hs3
  go_wp2_with fail
  refine (wbytes_any HW3.out).mono ?_
  rintro e w4 ⟨rfl, hb4⟩
  rw [if_pos rfl]
  have HE4 := Lib.hid (HE3.out.below_ hb4)
  clear hb4
  go_wp2_with fail
  refine (newreader_any o3 2 Al.B _ (by decide)).mono ?_
  rintro e w5 ⟨p5, o5, rfl, hr5, hb5, hs5⟩
  have HR5 := Lib.hid hr5
  have HE5 := Lib.hid (HE4.out.step (hs5 (fun _ => False)) (by simp))
  clear hr5 hb5 hs5
  have q1 := Al.s1
  go_wp2_with fail
  refine (rnum_any HR5.out 2).mono ?_
  rintro e w6 ⟨rfl, o6, hr6, hs6⟩
  rw [Al.r1]
  have HR6 := Lib.hid hr6
  have HE6 := Lib.hid (HE5.out.step hs6 (by unfold only; omega))
  clear hr6 hs6
  go_wp2_with fail
  refine (rend_any HR6.out).mono ?_
  rintro e w7 ⟨rfl, hb7⟩
  rw [Al.r2]
  have HE7 := Lib.hid (HE6.out.below_ hb7)
  clear hb7
  go_wp2_with fail
  refine (digits_any (-7) ⟨by omega, by omega⟩ _).mono ?_
  rintro e w8 ⟨rfl, hb8⟩
  have HE8 := Lib.hid (HE7.out.below_ hb8)
  clear hb8
  have q2 := Al.s2
  go_wp2_with fail
  go_ret
  exact ⟨rfl, HE8.out.low⟩
end Go.Proofs.YtoploimpfhnanaaDoor
