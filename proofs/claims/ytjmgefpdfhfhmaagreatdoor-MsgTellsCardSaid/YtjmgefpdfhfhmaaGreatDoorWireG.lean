/- A reader of bytes: New, Int, Count, Flag, Text, Skip, End. -/
import Derived.Test.YtjmgefpdfhfhmaaGreatDoorWireF
namespace Go.Proofs.YtjmgefpdfhfhmaaGreatDoor
open Go.RowKit

theorem numV_lt (R : Rd) (n : Int) (h0 : 0 ≤ n) : R.numV n < 256 ^ n.toNat := by
  unfold Rd.numV
  split
  · have h1 := lev_lt (R.takeS n).data.toList
    have h2 := takeS_size R n h0
    have h3 : (R.takeS n).data.toList.length = (R.takeS n).size := rfl
    exact Nat.lt_of_lt_of_le h1 (Nat.pow_le_pow_right (by decide) (by omega))
  · exact Nat.pow_pos (by decide)
def Rd.countV (R : Rd) (most : Int) : Int := if (R.numR 2).e = 0 ∧ most < (R.numV 2 : Int) then (0 : Int) else (R.numV 2 : Int)
def Rd.countR (R : Rd) (most : Int) : Rd := if (R.numR 2).e = 0 ∧ most < R.numV 2 then { R.numR 2 with e := 2 } else R.numR 2
def Rd.flagV (R : Rd) : Bool := decide (R.numV 1 = 1)
def Rd.flagR (R : Rd) : Rd := if 1 < R.numV 1 then (R.numR 1).fail 4 else R.numR 1
section
variable {o : Nat → Nat} {c : Nat} {w : World} {p : Nat} {R : Rd}
set_option maxRecDepth 100000 in
set_option maxHeartbeats 400000 in
theorem rcount_any (h : RdAt 127 o c w p R) (most : Int) :
    Calls Tryz.prog 25 #[.pointer (some ⟨p, 0, none⟩), .int .i64 most] w fun r w' => r = .returned (.int .i64 (R.countV most)) ∧ ∃ o', RdAt 127 o' c w' p (R.countR most) ∧ Step o (only c) w o' w' := by
  have HR := Lib.hid h
  clear h
  have hv : R.numV 2 < 65536 := numV_lt R 2 (by omega)
  go_enter Tryz.func25, Tryz.ntmps25
  go_wp2_with fail
  refine (rnum_any HR.out 2).mono ?_
  rintro e w1 ⟨rfl, o1, h1, s1⟩
  have H1 := Lib.hid h1
  have S1 := Lib.hid s1
  clear h1 s1
  have e1 : R.countV most = if (R.numR 2).e = 0 ∧ most < (R.numV 2 : Int) then (0 : Int) else (R.numV 2 : Int) := rfl
  have e2 : R.countR most = if (R.numR 2).e = 0 ∧ most < (R.numV 2 : Int) then { R.numR 2 with e := 2 } else R.numR 2 := rfl
  generalize R.numV 2 = v at hv e1 e2 ⊢
  generalize R.numR 2 = R2 at H1 e1 e2 ⊢
  have E1 := Lib.hid e1
  have E2 := Lib.hid e2
  clear e1 e2
  have hvI : (v : Int) < 65536 := by omega
  go_wp2_with fail
  refine (rerr_any H1.out).mono ?_
  rintro e w2 ⟨rfl, rfl⟩
  by_cases he : R2.e = 0
  · have t1 : (R2.e == 0) = true := by rw [he]; rfl
    by_cases hm : most < v
    · have e3 : R2.fail 2 = { R2 with e := 2 } := by unfold Rd.fail; rw [if_pos he]
      have E3 := Lib.hid e3
      have HC := Lib.hid (show R2.e = 0 ∧ most < (v : Int) from ⟨he, hm⟩)
      clear he e3
      go_wp2_with fail
      refine (rfail_any H1.out 2).mono ?_
      rintro e w3 ⟨rfl, h3, s3⟩
      have H3 := Lib.hid h3
      have S3 := Lib.hid s3
      clear h3 s3
      go_wp2_with fail
      go_ret
      exact ⟨by rw [E1.out, if_pos HC.out]; rfl, o1, by rw [E2.out, if_pos HC.out, ← E3.out]; exact H3.out, S1.out.trans S3.out⟩
    · have HC := Lib.hid (show ¬ (R2.e = 0 ∧ most < (v : Int)) from fun h => hm h.2)
      have t2 : decide (most < (v : Int)) = false := decide_eq_false hm
      clear he hm hv
      go_wp2_with fail
      go_ret
      exact ⟨by rw [E1.out, if_neg HC.out]; rfl, o1, by rw [E2.out, if_neg HC.out]; exact H1.out, S1.out⟩
  · have t1 : (R2.e == 0) = false := beq_eq_false_iff_ne.2 he
    have HC := Lib.hid (show ¬ (R2.e = 0 ∧ most < (v : Int)) from fun h => he h.1)
    clear he
    go_wp2_with fail
    go_ret
    exact ⟨by rw [E1.out, if_neg HC.out]; rfl, o1, by rw [E2.out, if_neg HC.out]; exact H1.out, S1.out⟩
end
end Go.Proofs.YtjmgefpdfhfhmaaGreatDoor
