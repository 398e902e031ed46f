/- The document's reader of bytes: fail, take, Num, Count, Text, Flag (the same plain functions). -/
import Derived.Test.YtjmgefpdfhfhmaaGreatDoorWireI
import Derived.Test.YtjmgefpdfhfhmaaGreatDoorWireM
namespace Go.Proofs.YtjmgefpdfhfhmaaGreatDoor
open Go.RowKit

theorem numV_err (R : Rd) (h : (R.numR 2).e ≠ 0) : R.numV 2 = 0 := by
  unfold Rd.numV
  rw [if_pos (by omega)]
  have e : R.takeS 2 = ⟨#[]⟩ := by
    unfold Rd.takeS
    rw [if_neg]
    rintro ⟨h1, h2⟩
    unfold Rd.numR at h
    rw [if_pos (by omega)] at h
    unfold Rd.takeR at h
    rw [if_neg (by simpa using h1), if_pos h2] at h
    exact h h1
  rw [e]
  rfl
theorem takeS_err (R : Rd) (h : R.e ≠ 0) (n : Int) : R.takeS n = ⟨#[]⟩ := by
  unfold Rd.takeS
  rw [if_neg (fun x => h x.1)]
theorem takeR_err (R : Rd) (h : R.e ≠ 0) (n : Int) : R.takeR n = R := by
  unfold Rd.takeR
  rw [if_pos h]
def Rd.takeO (R : Rd) (n : Int) : Bool := decide (R.e = 0 ∧ n ≤ R.b.size)
section
variable {o : Nat → Nat} {c : Nat} {w : World} {p : Nat} {R : Rd}
theorem yfail_any (h : RdAt 89 o c w p R) (e : Int) : Calls Tryz.prog 106 #[.pointer (some ⟨p, 0, none⟩), .int .i64 e] w fun r w' => r = .returned (.tuple #[]) ∧ RdAt 89 o c w' p (R.fail e) ∧ Step o (only c) w o w' := by
  have HR := Lib.hid h
  have c1 : w.cell? ⟨p, 1, none⟩ = some (.int .i64 R.e) := h.1.cell 1
  have f1 := h.1.frozen 1
  have hp := h.1.lt
  clear h
  by_cases he : R.e = 0
  · have e1 : R.fail e = { R with e := e } := by unfold Rd.fail; rw [if_pos he]
    have E1 := Lib.hid e1
    rw [he] at c1
    clear e1 he
    go_enter Tryz.func106, Tryz.ntmps106
    go_wp2
    go_end0
    exact ⟨rfl, by rw [E1.out]; exact HR.out.setE e, (Step.refl o (only c) w).setCell (p := ⟨p, 1, none⟩) HR.out.2.1 _⟩
  · have e1 : R.fail e = R := by unfold Rd.fail; rw [if_neg he]
    have E1 := Lib.hid e1
    have t1 : (R.e == 0) = false := beq_eq_false_iff_ne.2 he
    clear e1 he
    go_enter Tryz.func106, Tryz.ntmps106
    go_wp2
    go_end0
    exact ⟨rfl, by rw [E1.out]; exact HR.out, Step.refl _ _ _⟩
set_option maxHeartbeats 400000 in
theorem ytake_any (h : RdAt 89 o c w p R) (n : Int) (hn0 : 0 ≤ n) (hn1 : n ≤ 9223372036854775807) :
    Calls Tryz.prog 107 #[.pointer (some ⟨p, 0, none⟩), .int .i64 n] w fun r w' => r = .returned (.tuple #[.string (R.takeS n), .bool (R.takeO n)]) ∧ RdAt 89 o c w' p (R.takeR n) ∧ Step o (only c) w o w' := by
  have HR := Lib.hid h
  have c0 : w.cell? ⟨p, 0, none⟩ = some (.string R.b) := h.1.cell 0
  have c1 : w.cell? ⟨p, 1, none⟩ = some (.int .i64 R.e) := h.1.cell 1
  have f0 := h.1.frozen 0
  have f1 := h.1.frozen 1
  have hp := h.1.lt
  have hbs := h.2.2
  clear h
  by_cases he : R.e = 0
  · by_cases hl : n ≤ R.b.size
    · have e1 : R.takeR n = { R with b := R.b.extract n.toNat R.b.size } := by unfold Rd.takeR; rw [if_neg (by simpa using he), if_pos hl]
      have e2 : R.takeS n = R.b.extract 0 n.toNat := by unfold Rd.takeS; rw [if_pos ⟨he, hl⟩]
      have E3 := Lib.hid (show R.takeO n = true from decide_eq_true ⟨he, hl⟩)
      have E1 := Lib.hid e1
      have E2 := Lib.hid e2
      clear e1 e2
      obtain ⟨k, rfl⟩ : ∃ k : Nat, n = k := ⟨n.toNat, by omega⟩
      have hk : k ≤ R.b.size := by omega
      rw [he] at c1
      clear he
      go_enter Tryz.func107, Tryz.ntmps107
      go_wp2_with fail
      go_ret2
      refine ⟨by rw [E2.out, E3.out, Int.toNat_natCast]; rfl, ?_, (Step.refl o (only c) w).setCell (p := ⟨p, 0, none⟩) HR.out.2.1 _⟩
      rw [E1.out, Int.toNat_natCast]
      exact HR.out.setB _ (by rw [ByteArray.size_extract]; omega)
    · have e1 : R.takeR n = R.fail 5 := by unfold Rd.takeR Rd.fail; rw [if_neg (by simpa using he), if_neg hl, if_pos he]
      have e2 : R.takeS n = ⟨#[]⟩ := by unfold Rd.takeS; rw [if_neg (fun h => hl h.2)]
      have E3 := Lib.hid (show R.takeO n = false from decide_eq_false (fun h => hl h.2))
      have E1 := Lib.hid e1
      have E2 := Lib.hid e2
      have hl' : (R.b.size : Int) < n := by omega
      rw [he] at c1
      clear e1 e2 he
      go_enter Tryz.func107, Tryz.ntmps107
      go_wp2_with fail
      refine (yfail_any HR.out 5).mono ?_
      rintro e w1 ⟨rfl, h1, s1⟩
      have H1 := Lib.hid h1
      have S1 := Lib.hid s1
      clear h1 s1
      go_wp2_with fail
      go_ret2
      exact ⟨by rw [E2.out, E3.out]; rfl, by rw [E1.out]; exact H1.out, S1.out⟩
  · have e1 : R.takeR n = R := by unfold Rd.takeR; rw [if_pos he]
    have e2 : R.takeS n = ⟨#[]⟩ := by unfold Rd.takeS; rw [if_neg (fun h => he h.1)]
    have E3 := Lib.hid (show R.takeO n = false from decide_eq_false (fun h => he h.1))
    have E1 := Lib.hid e1
    have E2 := Lib.hid e2
    have t1 : (R.e != 0) = true := bne_iff_ne.2 he
    clear e1 e2 he
    go_enter Tryz.func107, Tryz.ntmps107
    go_wp2_with fail
    go_ret2
    exact ⟨by rw [E2.out, E3.out]; rfl, by rw [E1.out]; exact HR.out, Step.refl _ _ _⟩
end
end Go.Proofs.YtjmgefpdfhfhmaaGreatDoor
