/- A frame that came in, opened. -/
import Derived.Test.YtoploimpfhnanaaDoorCardBase
import Derived.Test.YtoploimpfhnanaaDoorLeaf
import Derived.Test.YtoploimpfhnanaaDoorFrameA
namespace Go.Proofs.YtoploimpfhnanaaDoor
open Go.ChangeShapes Go.WideShapes Go.ChangeAt Go.RowKit Go.Joins Go.Deep

theorem leaves_frame : leaves Tryd.prog 6 58 = some [.int .i64, .int .i64, .int .i64, .int .i64, .int .i64, .int .i64, .str, .bool] := by kernel_rfl
section
variable {H : Type} {enc : TypeId × Value → H} {w : World} {base : Nat} {spare : Nat → Bool} {held : Bool}
set_option maxRecDepth 100000 in
theorem open_frame {r : Reach} {b0 : Nat} {v : Value} {d : DataW H} {p : List MemPlace} (hv : Value.okWide Tryd.prog w r b0 58 v) (h : DataW.Trod enc Tryd.prog w base spare held 58 v d p) :
    ∃ f : Fr, v = f.agg ∧ f.i64s := by
  obtain ⟨cs, rfl, _⟩ := okWide_struct Tryd.underlying58 hv
  obtain ⟨fuel, hf⟩ := h
  have hl := leaves_ok 6 58 fuel _ _ _ hf leaves_frame
  obtain ⟨l⟩ := cs
  have hl' : LeavesOk enc Tryd.prog w base spare held [.int .i64, .int .i64, .int .i64, .int .i64, .int .i64, .int .i64, .str, .bool] l := hl
  obtain ⟨c0, r0, rfl, ⟨a0, rfl, w0⟩, k0⟩ := hl'.cons
  obtain ⟨c1, r1, rfl, ⟨a1, rfl, w1⟩, k1⟩ := k0.cons
  obtain ⟨c2, r2, rfl, ⟨a2, rfl, w2⟩, k2⟩ := k1.cons
  obtain ⟨c3, r3, rfl, ⟨a3, rfl, w3⟩, k3⟩ := k2.cons
  obtain ⟨c4, r4, rfl, ⟨a4, rfl, w4⟩, k4⟩ := k3.cons
  obtain ⟨c5, r5, rfl, ⟨a5, rfl, w5⟩, k5⟩ := k4.cons
  obtain ⟨c6, r6, rfl, ⟨s6, rfl, h6⟩, k6⟩ := k5.cons
  obtain ⟨c7, r7, rfl, ⟨b7, rfl⟩, k7⟩ := k6.cons
  obtain rfl := k7.nil
  exact ⟨⟨a0, a1, a2, a3, a4, a5, s6, b7⟩, rfl, wf_i64_in w0, wf_i64_in w1, wf_i64_in w2, wf_i64_in w3, wf_i64_in w4, wf_i64_in w5, h6⟩
end
end Go.Proofs.YtoploimpfhnanaaDoor
