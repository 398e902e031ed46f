/- The document's writer and reader under way: what the walks of its messages and frames share. -/
import Derived.Test.YtjmgefpdfhfhmaaGreatDoorMsgC
import Derived.Test.YtjmgefpdfhfhmaaGreatDoorWireO
import Derived.Test.YtjmgefpdfhfhmaaGreatDoorWireS
namespace Go.Proofs.YtjmgefpdfhfhmaaGreatDoor
open Go.RowKit

/-- a writer of the document's under way: its bytes; all is well; what lay before stays -/
structure Xg (o : Nat → Nat) (w0 w : World) (p : Nat) (bs : List UInt8) : Prop where
  wr : WrAt 78 o 1 w p ⟨bs, 0⟩
  env : Env o w0 w
  fut : Fut o w
theorem no10 : ¬ only 1 0 := by unfold only; omega
section
variable {o o' : Nat → Nat} {w0 w w' : World} {p : Nat} {bs bs' : List UInt8}
theorem Xg.next (h : Xg o w0 w p bs) (hw : WrAt 78 o' 1 w' p ⟨bs', 0⟩) (hs : Step o (only 1) w o' w') : Xg o' w0 w' p bs' := ⟨hw, h.env.step hs no10, h.fut.step hs⟩
theorem Xg.below_ (h : Xg o w0 w p bs) (hb : Below w.heap.size w w') : Xg o w0 w' p bs := ⟨h.wr.below_ hb, h.env.below_ hb, h.fut.below hb⟩
theorem Xg.alloc (h : Xg o w0 w p bs) (x : Obj) : Xg o w0 (w.alloc x) p bs := ⟨h.wr.alloc x, h.env.alloc x, h.fut.alloc x⟩
theorem Xg.drewN (h : Xg o w0 w p bs) (n : Nat) : Xg o w0 (w.drewN n) p bs := ⟨h.wr.drewN n, h.env.drewN n, h.fut.drewN n⟩
theorem Xg.start {w0 w1 : World} (hb : Below w0.heap.size w0 w1) : ∃ o, Xg o w0 (w1.alloc (.cells #[.slice none 0 0, .int .i64 0] 78)) w1.heap.size [] ∧ ∀ C, Step (fun _ => 0) C w1 o (w1.alloc (.cells #[.slice none 0 0, .int .i64 0] 78)) := by
  obtain ⟨o1, h1, hs⟩ := wr_new 78 (fun _ => 0) 1 w1
  exact ⟨o1, ⟨h1, ((Env.start w0).below_ hb).step (hs (fun _ => False)) (by simp), (show Fut (fun _ => 0) w1 from fun _ _ => rfl).step (hs (fun _ => False))⟩, hs⟩
theorem xnum_ok (h : Xg o w0 w p bs) (v : Nat) (n : Int) (hok : numOk v n) (hv : v < 18446744073709551616) (hb : bs.length ≤ 1000000000) :
    Calls Tryz.prog 22 #[.pointer (some ⟨p, 0, none⟩), .int .u64 v, .int .i64 n] w fun r w' => r = .returned (.tuple #[]) ∧ ∃ o', Xg o' w0 w' p (bs ++ le v n.toNat) ∧ Step o (only 1) w o' w' := by
  refine (xnum_any h.wr v n hv hb).mono ?_
  rintro e w1 ⟨rfl, o1, hw, hs⟩
  rw [Wr.num_ok rfl hok] at hw
  exact ⟨rfl, o1, h.next hw hs, hs⟩
/-- the bytes, as they are loaded and made a string -/
theorem Xg.conv (h : Xg o w0 w p bs) : ∃ A cap, w.cell? ⟨p, 0, none⟩ = some (.slice A bs.length cap) ∧ (convert 69 9 (.slice A bs.length cap)).run Tryz.prog w = .ok (.string (str bs)) w := by
  obtain ⟨A, cap, c0, c1, f0, f1, hc1, hc2, hpl, HB, HC, HV⟩ := h.wr.open_
  exact ⟨A, cap, c0, conv_own 69 9 Tryz.underlying69 Tryz.underlying5 Tryz.underlying9 HV.out⟩
end
section
variable {o : Nat → Nat} {w0 w : World} {p : Nat} {R : Rd}
theorem Gs.startX {w0 w1 : World} (hb : Below w0.heap.size w0 w1) (b : ByteArray) (hs : b.size ≤ 1000000000) : ∃ o, Gs 89 o w0 (w1.alloc (.cells #[.string b, .int .i64 0] 89)) w1.heap.size ⟨b, 0⟩ ∧ ∀ C, Step (fun _ => 0) C w1 o (w1.alloc (.cells #[.string b, .int .i64 0] 89)) := by
  have hst : ∀ C, Step (fun _ => 0) C w1 (band (fun _ => 0) w1.heap.size (w1.alloc (.cells #[.string b, .int .i64 0] 89)).heap.size 1) (w1.alloc (.cells #[.string b, .int .i64 0] 89)) := fun C => Step.of_below_band _ C 1 ((Below.refl _ _).alloc (Nat.le_refl _) _)
  exact ⟨_, ⟨⟨Blk.new _ _ _, band_in (Nat.le_refl _) (by simp), hs⟩, ((Env.start w0).below_ hb).step (hst (fun _ => False)) (by simp), (show Fut (fun _ => 0) w1 from fun _ _ => rfl).step (hst (fun _ => False))⟩, hst⟩
theorem ynum_g (h : Gs 89 o w0 w p R) (n : Int) :
    Calls Tryz.prog 27 #[.pointer (some ⟨p, 0, none⟩), .int .i64 n] w fun r w' => r = .returned (.int .u64 (R.numV n)) ∧ Gs 89 o w0 w' p (R.numR n) ∧ Step o (only 1) w o w' := by
  refine (ynum_any h.rd n).mono ?_
  rintro e w1 ⟨rfl, h1, hs⟩
  exact ⟨rfl, h.next h1 hs, hs⟩
theorem ycount_g (h : Gs 89 o w0 w p R) (n : Int) :
    Calls Tryz.prog 28 #[.pointer (some ⟨p, 0, none⟩), .int .i64 n] w fun r w' => r = .returned (.int .i64 (R.countV n)) ∧ Gs 89 o w0 w' p (R.countR n) ∧ Step o (only 1) w o w' := by
  refine (ycount_any h.rd n).mono ?_
  rintro e w1 ⟨rfl, h1, hs⟩
  exact ⟨rfl, h.next h1 hs, hs⟩
end
end Go.Proofs.YtjmgefpdfhfhmaaGreatDoor
