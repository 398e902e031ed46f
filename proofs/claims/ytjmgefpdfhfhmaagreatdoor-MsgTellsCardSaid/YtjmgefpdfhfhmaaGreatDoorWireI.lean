/- A reader of bytes: Skip, End. -/
import Derived.Test.YtjmgefpdfhfhmaaGreatDoorWireH
namespace Go.Proofs.YtjmgefpdfhfhmaaGreatDoor
open Go.RowKit

def zeros (b : ByteArray) : Prop := ∀ x ∈ b.data.toList, x = 0
instance (b : ByteArray) : Decidable (zeros b) := inferInstanceAs (Decidable (∀ x ∈ _, _))
def Rd.endV (R : Rd) : Int := if R.e ≠ 0 then R.e else if zeros R.b then 0 else 4
def Rd.skipR (R : Rd) (n : Int) : Rd := if n < 0 then R.fail 1 else if zeros (R.takeS n) then R.takeR n else (R.takeR n).fail 4
theorem zeros_dw (r : List UInt8) : (∀ x ∈ r.dropWhile (· == 0), x = 0) ↔ ∀ x ∈ r, x = 0 := by
  induction r with
  | nil => simp
  | cons a r ih =>
    by_cases h : a = 0
    · subst h
      have e : List.dropWhile (fun x : UInt8 => x == 0) ((0 : UInt8) :: r) = r.dropWhile (· == 0) := by simp [List.dropWhile]
      rw [e, ih]
      simp
    · have e : List.dropWhile (fun x : UInt8 => x == 0) (a :: r) = a :: r := by
        have hb : (a == 0) = false := beq_eq_false_iff_ne.2 h
        simp [List.dropWhile, hb]
      rw [e]
theorem dw_nil (l : List UInt8) : l.dropWhile (· == 0) = [] ↔ ∀ x ∈ l, x = 0 := by
  induction l with
  | nil => simp
  | cons a r ih =>
    by_cases h : a = 0
    · subst h
      have e : List.dropWhile (fun x : UInt8 => x == 0) ((0 : UInt8) :: r) = r.dropWhile (· == 0) := by simp [List.dropWhile]
      rw [e, ih]
      simp
    · have e : List.dropWhile (fun x : UInt8 => x == 0) (a :: r) = a :: r := by
        have hb : (a == 0) = false := beq_eq_false_iff_ne.2 h
        simp [List.dropWhile, hb]
      rw [e]
      simp [h]
theorem trim_nil (l : List UInt8) : Lib.trimB l 0 = [] ↔ ∀ x ∈ l, x = 0 := by
  unfold Lib.trimB Lib.trimLeftB Lib.trimRightB
  rw [dw_nil]
  have h := zeros_dw l.reverse
  simp only [List.mem_reverse] at h
  rw [← h]
  simp
section
variable {o : Nat → Nat} {c : Nat} {w : World} {p : Nat} {R : Rd}
set_option maxHeartbeats 400000 in
theorem rend_any (h : RdAt 127 o c w p R) : Calls Tryz.prog 26 #[.pointer (some ⟨p, 0, none⟩)] w fun r w' => r = .returned (.int .i64 R.endV) ∧ Below w.heap.size w w' := by
  have HR := Lib.hid h
  have c0 : w.cell? ⟨p, 0, none⟩ = some (.string R.b) := h.1.cell 0
  have c1 : w.cell? ⟨p, 1, none⟩ = some (.int .i64 R.e) := h.1.cell 1
  have hbs := h.2.2
  clear h
  by_cases he : R.e = 0
  · have HE := Lib.hid he
    go_enter Tryz.func26, Tryz.ntmps26
    go_wp2_with fail
    refine (rerr_any HR.out).mono ?_
    rintro e w1 ⟨rfl, rfl⟩
    rw [HE.out]
    clear he
    go_wp2_with fail
    refine (Tryz.strings_Trim_one R.b 0 (by decide) _ (by omega)).mono ?_
    rintro e w2 ⟨rfl, hw2⟩
    have hbw : Below w.heap.size w w2 := by
      rcases hw2 with rfl | rfl
      · exact Below.refl _ _
      · exact ⟨rfl, rfl, rfl, Nat.le_refl _, fun _ _ => rfl⟩
    have HBW := Lib.hid hbw
    clear hw2 hbw
    by_cases hz : zeros R.b
    · have e1 : R.endV = 0 := by unfold Rd.endV; rw [if_neg (by simpa using HE.out), if_pos hz]
      have E1 := Lib.hid e1
      have e2 : (Lib.trimB R.b.data.toList 0) = [] := (trim_nil _).2 hz
      rw [e2]
      clear e1 e2 hz
      go_wp2_with fail
      go_ret
      exact ⟨by rw [E1.out]; rfl, HBW.out⟩
    · have e1 : R.endV = 4 := by unfold Rd.endV; rw [if_neg (by simpa using HE.out), if_neg hz]
      have E1 := Lib.hid e1
      have e2 : ¬ (Lib.trimB R.b.data.toList 0) = [] := fun h => hz ((trim_nil _).1 h)
      have e3 : (Lib.trimB R.b.data.toList 0).isEmpty = false := by simpa using e2
      generalize Lib.trimB R.b.data.toList 0 = t at e2 e3 ⊢
      clear e1 hz
      go_wp2_with fail
      go_ret
      exact ⟨by rw [E1.out]; rfl, HBW.out⟩
  · have e1 : R.endV = R.e := by unfold Rd.endV; rw [if_pos he]
    have E1 := Lib.hid e1
    have t1 : (R.e != 0) = true := bne_iff_ne.2 he
    clear e1 he
    go_enter Tryz.func26, Tryz.ntmps26
    go_wp2_with fail
    refine (rerr_any HR.out).mono ?_
    rintro e w1 ⟨rfl, rfl⟩
    go_wp2_with fail
    go_ret
    exact ⟨by rw [E1.out]; rfl, Below.refl _ _⟩
end
end Go.Proofs.YtjmgefpdfhfhmaaGreatDoor
