/- The document's writer of bytes: fail, Flag, Bytes (the same plain functions). -/
import Derived.Test.YtjmgefpdfhfhmaaGreatDoorWireD
namespace Go.Proofs.YtjmgefpdfhfhmaaGreatDoor
open Go.RowKit
section
variable {o : Nat → Nat} {c : Nat} {w : World} {p : Nat} {W : Wr}
set_option maxHeartbeats 400000 in
theorem xfail_old (h : WrAt 78 o c w p W) (he : W.e ≠ 0) (e : Int) :
    Calls Tryz.prog 100 #[.pointer (some ⟨p, 0, none⟩), .int .i64 e] w fun r w' => r = .returned (.bool true) ∧ w = w' := by
  obtain ⟨A, cap, h0, h1, f0, f1, hc1, hc2, hlt, HB, HC, HV⟩ := h.open_
  have t1 : (W.e == 0) = false := beq_eq_false_iff_ne.2 he
  have t2 : (W.e != 0) = true := bne_iff_ne.2 he
  clear h
  go_enter Tryz.func100, Tryz.ntmps100
  go_wp2
  go_ret
  exact ⟨rfl, rfl⟩
set_option maxHeartbeats 400000 in
theorem xfail_new (h : WrAt 78 o c w p W) (he : W.e = 0) (e : Int) (hne : e ≠ 0) :
    Calls Tryz.prog 100 #[.pointer (some ⟨p, 0, none⟩), .int .i64 e] w fun r w' => r = .returned (.bool true) ∧ WrAt 78 o c w' p { W with e := e } ∧ Step o (only c) w o w' := by
  have HW := Lib.hid h
  obtain ⟨A, cap, h0, h1, f0, f1, hc1, hc2, hlt, HB, HC, HV⟩ := h.open_
  rw [he] at h1
  have t2 : (e != 0) = true := bne_iff_ne.2 hne
  clear h he
  go_enter Tryz.func100, Tryz.ntmps100
  go_wp2
  go_ret
  exact ⟨rfl, HW.out.setE (by decide) e, (Step.refl o (only c) w).setCell (p := ⟨p, 1, none⟩) HC.out _⟩
set_option maxHeartbeats 400000 in
theorem xfail_ok (h : WrAt 78 o c w p W) (he : W.e = 0) :
    Calls Tryz.prog 100 #[.pointer (some ⟨p, 0, none⟩), .int .i64 0] w fun r w' => r = .returned (.bool false) ∧ WrAt 78 o c w' p W ∧ Step o (only c) w o w' := by
  have HW := Lib.hid h
  obtain ⟨A, cap, h0, h1, f0, f1, hc1, hc2, hlt, HB, HC, HV⟩ := h.open_
  rw [he] at h1
  have HE := Lib.hid he
  clear h he
  go_enter Tryz.func100, Tryz.ntmps100
  go_wp2
  go_ret
  have h9 := HW.out.setE (by decide) 0
  have e9 : ({ W with e := 0 } : Wr) = W := by
    have := HE.out
    cases W
    simp at this
    subst this
    rfl
  rw [e9] at h9
  exact ⟨rfl, h9, (Step.refl o (only c) w).setCell (p := ⟨p, 1, none⟩) HC.out _⟩
end
end Go.Proofs.YtjmgefpdfhfhmaaGreatDoor
