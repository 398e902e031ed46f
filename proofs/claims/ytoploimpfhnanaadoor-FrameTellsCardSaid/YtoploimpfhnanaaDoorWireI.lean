/- A reader of bytes: Skip, End. -/
import Derived.Test.YtoploimpfhnanaaDoorWireH
namespace Go.Proofs.YtoploimpfhnanaaDoor
open Go.RowKit

def zeros (b : ByteArray) : Prop := ∀ x ∈ b.data.toList, x = 0
instance (b : ByteArray) : Decidable (zeros b) := inferInstanceAs (Decidable (∀ x ∈ _, _))
def Rd.endV (R : Rd) : Int := if R.e ≠ 0 then R.e else if zeros R.b then 0 else 4
def Rd.skipR (R : Rd) (n : Int) : Rd := if n < 0 then R.fail 1 else if zeros (R.takeS n) then R.takeR n else (R.takeR n).fail 4
theorem zeros_dw (r : List UInt8) : (∀ x ∈ r.dropWhile (· == 0), x = 0) ↔ ∀ x ∈ r, x = 0 := by
  induction r with
  | nil => simp
  | cons a r ih =>
    by_cases h : a = 0
    · subst h
      have e : List.dropWhile (fun x : UInt8 => x == 0) ((0 : UInt8) :: r) = r.dropWhile (· == 0) := by simp [List.dropWhile]
      rw [e, ih]
      simp
    · have e : List.dropWhile (fun x : UInt8 => x == 0) (a :: r) = a :: r := by
        have hb : (a == 0) = false := beq_eq_false_iff_ne.2 h
        simp [List.dropWhile, hb]
      rw [e]
theorem dw_nil (l : List UInt8) : l.dropWhile (· == 0) = [] ↔ ∀ x ∈ l, x = 0 := by
  induction l with
  | nil => simp
  | cons a r ih =>
    by_cases h : a = 0
    · subst h
      have e : List.dropWhile (fun x : UInt8 => x == 0) ((0 : UInt8) :: r) = r.dropWhile (· == 0) := by simp [List.dropWhile]
      rw [e, ih]
      simp
    · have e : List.dropWhile (fun x : UInt8 => x == 0) (a :: r) = a :: r := by
        have hb : (a == 0) = false := beq_eq_false_iff_ne.2 h
        simp [List.dropWhile, hb]
      rw [e]
      simp [h]
theorem trim_nil (l : List UInt8) : Lib.trimB l 0 = [] ↔ ∀ x ∈ l, x = 0 := by
  unfold Lib.trimB Lib.trimLeftB Lib.trimRightB
  rw [dw_nil]
  have h := zeros_dw l.reverse
  simp only [List.mem_reverse] at h
  rw [← h]
  simp
section
variable {o : Nat → Nat} {c : Nat} {w : World} {p : Nat} {R : Rd}
set_option maxHeartbeats 400000 in
theorem rend_any (h : RdAt 47 o c w p R) : Calls Tryd.prog 30 #[.pointer (some ⟨p, 0, none⟩)] w fun r w' => r = .returned (.int .i64 R.endV) ∧ Below w.heap.size w w' := by
  have HR := Lib.hid h
  have c0 : w.cell? ⟨p, 0, none⟩ = some (.string R.b) := h.1.cell 0
  have c1 : w.cell? ⟨p, 1, none⟩ = some (.int .i64 R.e) := h.1.cell 1
  have hbs := h.2.2
  clear h
  by_cases he : R.e = 0
  · have HE := Lib.hid he
    go_enter Tryd.func30, Tryd.ntmps30
    go_wp2_with fail
    refine (rerr_any HR.out).mono ?_
    rintro e w1 ⟨rfl, rfl⟩
    rw [HE.out]
    clear he
    go_wp2_with fail
    refine (Tryd.strings_Trim_one R.b 0 (by decide) _ (by omega)).mono ?_
    rintro e w2 ⟨rfl, hw2⟩
    have hbw : Below w.heap.size w w2 := by
      rcases hw2 with rfl | rfl
      · exact Below.refl _ _
      · exact ⟨rfl, rfl, rfl, Nat.le_refl _, fun _ _ => rfl⟩
    have HBW := Lib.hid hbw
    clear hw2 hbw
    by_cases hz : zeros R.b
    · have e1 : R.endV = 0 := by unfold Rd.endV; rw [if_neg (by simpa using HE.out), if_pos hz]
      have E1 := Lib.hid e1
      have e2 : (Lib.trimB R.b.data.toList 0) = [] := (trim_nil _).2 hz
      rw [e2]
      clear e1 e2 hz
      go_wp2_with fail
      go_ret
      exact ⟨by rw [E1.out]; rfl, HBW.out⟩
    · have e1 : R.endV = 4 := by unfold Rd.endV; rw [if_neg (by simpa using HE.out), if_neg hz]
      have E1 := Lib.hid e1
      have e2 : ¬ (Lib.trimB R.b.data.toList 0) = [] := fun h => hz ((trim_nil _).1 h)
      have e3 : (Lib.trimB R.b.data.toList 0).isEmpty = false := by simpa using e2
      generalize Lib.trimB R.b.data.toList 0 = t at e2 e3 ⊢
      clear e1 hz
      go_wp2_with fail
      go_ret
      exact ⟨by rw [E1.out]; rfl, HBW.out⟩
  · have e1 : R.endV = R.e := by unfold Rd.endV; rw [if_pos he]
    have E1 := Lib.hid e1
    have t1 : (R.e != 0) = true := bne_iff_ne.2 he
    clear e1 he
    go_enter Tryd.func30, Tryd.ntmps30
    go_wp2_with fail
    refine (rerr_any HR.out).mono ?_
    rintro e w1 ⟨rfl, rfl⟩
    go_wp2_with fail
    go_ret
    exact ⟨by rw [E1.out]; rfl, Below.refl _ _⟩
set_option maxHeartbeats 400000 in
theorem rskip_any (h : RdAt 47 o c w p R) (n : Int) (hn1 : n ≤ 9223372036854775807) :
    Calls Tryd.prog 25 #[.pointer (some ⟨p, 0, none⟩), .int .i64 n] w fun r w' => r = .returned (.tuple #[]) ∧ ∃ o', RdAt 47 o' c w' p (R.skipR n) ∧ Step o (only c) w o' w' := by
  have HR := Lib.hid h
  clear h
  by_cases h0 : n < 0
  · have e1 : R.skipR n = R.fail 1 := by unfold Rd.skipR; rw [if_pos h0]
    have E1 := Lib.hid e1
    clear e1 hn1
    go_enter Tryd.func25, Tryd.ntmps25
    go_wp2_with fail
    refine (rfail_any HR.out 1).mono ?_
    rintro e w2 ⟨rfl, h2, s2⟩
    have H2 := Lib.hid h2
    have S2 := Lib.hid s2
    clear h2 s2
    go_wp2_with fail
    first | go_end0 | refine bodyPost_ret (v := .tuple #[]) (by simp [results, Tryd.results25, go_sem]) rfl ?_
    exact ⟨rfl, o, by rw [E1.out]; exact H2.out, S2.out⟩
  · have hsz := Nat.le_trans (takeS_le R n) HR.out.2.2
    have HN1 := Lib.hid hn1
    clear hn1
    by_cases hz : zeros (R.takeS n)
    · have e1 : R.skipR n = R.takeR n := by unfold Rd.skipR; rw [if_neg h0, if_pos hz]
      have E1 := Lib.hid e1
      have HE2 := Lib.hid (show (Lib.trimB (R.takeS n).data.toList 0) = [] from (trim_nil _).2 hz)
      clear e1 hz
      go_enter Tryd.func25, Tryd.ntmps25
      go_wp2_with fail
      refine (rtake_any HR.out n (by omega) HN1.out).mono ?_
      rintro e w3 ⟨rfl, h3, s3⟩
      have H3 := Lib.hid h3
      have S3 := Lib.hid s3
      clear h3 s3
      generalize R.takeS n = S at hsz HE2
      go_wp2_with fail
      refine (Tryd.strings_Trim_one S 0 (by decide) _ (by omega)).mono ?_
      rintro e w2 ⟨rfl, hw2⟩
      have hbw : Below w3.heap.size w3 w2 := by
        rcases hw2 with rfl | rfl
        · exact Below.refl _ _
        · exact ⟨rfl, rfl, rfl, Nat.le_refl _, fun _ _ => rfl⟩
      have HBW := Lib.hid hbw
      clear hw2 hbw
      rw [HE2.out]
      go_wp2_with fail
      first | go_end0 | refine bodyPost_ret (v := .tuple #[]) (by simp [results, Tryd.results25, go_sem]) rfl ?_
      exact ⟨rfl, o, by rw [E1.out]; exact H3.out.below_ HBW.out, S3.out.trans (Step.of_below _ _ HBW.out)⟩
    · have e1 : R.skipR n = (R.takeR n).fail 4 := by unfold Rd.skipR; rw [if_neg h0, if_neg hz]
      have E1 := Lib.hid e1
      have HE2 := Lib.hid (show ¬ (Lib.trimB (R.takeS n).data.toList 0) = [] from fun h => hz ((trim_nil _).1 h))
      clear e1 hz
      go_enter Tryd.func25, Tryd.ntmps25
      go_wp2_with fail
      refine (rtake_any HR.out n (by omega) HN1.out).mono ?_
      rintro e w3 ⟨rfl, h3, s3⟩
      have H3 := Lib.hid h3
      have S3 := Lib.hid s3
      clear h3 s3
      generalize R.takeS n = S at hsz HE2
      go_wp2_with fail
      refine (Tryd.strings_Trim_one S 0 (by decide) _ (by omega)).mono ?_
      rintro e w2 ⟨rfl, hw2⟩
      have hbw : Below w3.heap.size w3 w2 := by
        rcases hw2 with rfl | rfl
        · exact Below.refl _ _
        · exact ⟨rfl, rfl, rfl, Nat.le_refl _, fun _ _ => rfl⟩
      have HBW := Lib.hid hbw
      clear hw2 hbw
      have e2 := HE2.out
      have e3 : (Lib.trimB S.data.toList 0).isEmpty = false := by simpa using e2
      generalize Lib.trimB S.data.toList 0 = t at e2 e3 ⊢
      clear HE2
      go_wp2_with fail
      refine (rfail_any (H3.out.below_ HBW.out) 4).mono ?_
      rintro e w4 ⟨rfl, h4, s4⟩
      have H4 := Lib.hid h4
      have S4 := Lib.hid s4
      clear h4 s4
      go_wp2_with fail
      first | go_end0 | refine bodyPost_ret (v := .tuple #[]) (by simp [results, Tryd.results25, go_sem]) rfl ?_
      exact ⟨rfl, o, by rw [E1.out]; exact H4.out, (S3.out.trans (Step.of_below _ _ HBW.out)).trans S4.out⟩
end
end Go.Proofs.YtoploimpfhnanaaDoor
