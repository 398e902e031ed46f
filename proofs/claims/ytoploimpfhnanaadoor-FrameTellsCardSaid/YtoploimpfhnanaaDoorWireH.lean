/- A reader of bytes: New, Text. -/
import Derived.Test.YtoploimpfhnanaaDoorWireG
namespace Go.Proofs.YtoploimpfhnanaaDoor
open Go.RowKit

theorem clone_any (s : ByteArray) (w : World) (hlim : s.size ≤ 281474976710656) : Calls Tryd.prog 46 #[.string s] w fun e w' => e = .returned (.string s) ∧ Below w.heap.size w w' := by
  go_enter Tryd.func46, Tryd.ntmps46
  go_wp2_with (go_at_call 67; refine (Tryd.stringslite_Clone s _ hlim).mono ?_; rintro e w' ⟨rfl, hb⟩)
  go_ret
  exact ⟨rfl, hb⟩
theorem newreader_any (o : Nat → Nat) (c : Nat) (b : ByteArray) (w : World) (hb : b.size ≤ 1000000000) :
    Calls Tryd.prog 17 #[.string b] w fun e w' => ∃ p o', e = .returned (.pointer (some ⟨p, 0, none⟩)) ∧ RdAt 47 o' c w' p ⟨b, 0⟩ ∧ Below w.heap.size w w' ∧ ∀ C, Step o C w o' w' := by
  go_enter Tryd.func17, Tryd.ntmps17
  go_wp2_with (go_at_call 46; refine (clone_any b _ (by omega)).mono ?_; rintro e w1 ⟨rfl, hb1⟩)
  go_ret
  have hs := hb1.size
  have hbl : Below w.heap.size w (w1.alloc (.cells #[.string b, .int .i64 0] 47)) := hb1.alloc hb1.size _
  have e1 : (w1.alloc (.cells #[.string b, .int .i64 0] 47)).heap.size = w1.heap.size + 1 := by simp
  refine ⟨w1.heap.size, band o w1.heap.size (w1.heap.size + 1) c, rfl, ⟨Blk.new _ _ _, band_in (Nat.le_refl _) (by omega), hb⟩, hbl, fun C => ⟨hbl.os, hbl.tape, hbl.output, hbl.size, fun k hk => band_lt (by omega), fun k hk => band_ge (by omega), fun k hk _ => hbl.block k hk⟩⟩
def Rd.textV (R : Rd) (room : Int) : ByteArray := if room < 0 ∨ 60000 < room then ⟨#[]⟩ else (R.countR room).takeS (R.countV room)
def Rd.textR (R : Rd) (room : Int) : Rd := if room < 0 ∨ 60000 < room then R.fail 1 else (R.countR room).takeR (R.countV room)
theorem countV_bd (R : Rd) (most : Int) : 0 ≤ R.countV most ∧ R.countV most < 65536 := by
  have hv : R.numV 2 < 65536 := numV_lt R 2 (by omega)
  unfold Rd.countV
  split <;> omega
theorem takeS_le (R : Rd) (n : Int) : (R.takeS n).size ≤ R.b.size := by
  unfold Rd.takeS
  split
  · rw [ByteArray.size_extract]; omega
  · exact Nat.zero_le _
section
variable {o : Nat → Nat} {c : Nat} {w : World} {p : Nat} {R : Rd}
set_option maxHeartbeats 400000 in
theorem rtext_any (h : RdAt 47 o c w p R) (room : Int) :
    Calls Tryd.prog 21 #[.pointer (some ⟨p, 0, none⟩), .int .i64 room] w fun r w' => r = .returned (.string (R.textV room)) ∧ ∃ o', RdAt 47 o' c w' p (R.textR room) ∧ Step o (only c) w o' w' := by
  have HR := Lib.hid h
  clear h
  by_cases hr : room < 0 ∨ 60000 < room
  · have e1 : R.textV room = ⟨#[]⟩ := by unfold Rd.textV; rw [if_pos hr]
    have e2 : R.textR room = R.fail 1 := by unfold Rd.textR; rw [if_pos hr]
    have E1 := Lib.hid e1
    have E2 := Lib.hid e2
    have HRR := Lib.hid (show (if room < 0 ∨ 60000 < room then (1 : Int) else 0) = 1 from if_pos hr)
    clear e1 e2 hr
    go_enter Tryd.func21, Tryd.ntmps21
    go_wp2_with fail
    refine (wrongRoom_any room _).mono ?_
    rintro e w1 ⟨rfl, rfl⟩
    rw [HRR.out]
    go_wp2_with fail
    refine (rfail_any HR.out 1).mono ?_
    rintro e w2 ⟨rfl, h2, s2⟩
    have H2 := Lib.hid h2
    have S2 := Lib.hid s2
    clear h2 s2
    go_wp2_with fail
    go_ret
    exact ⟨by rw [E1.out]; rfl, o, by rw [E2.out]; exact H2.out, S2.out⟩
  · have e1 : R.textV room = (R.countR room).takeS (R.countV room) := by unfold Rd.textV; rw [if_neg hr]
    have e2 : R.textR room = (R.countR room).takeR (R.countV room) := by unfold Rd.textR; rw [if_neg hr]
    have E1 := Lib.hid e1
    have E2 := Lib.hid e2
    have HRR := Lib.hid (show (if room < 0 ∨ 60000 < room then (1 : Int) else 0) = 0 from if_neg hr)
    have hcb := countV_bd R room
    clear e1 e2 hr
    go_enter Tryd.func21, Tryd.ntmps21
    go_wp2_with fail
    refine (wrongRoom_any room _).mono ?_
    rintro e w1 ⟨rfl, rfl⟩
    rw [HRR.out]
    go_wp2_with fail
    refine (rcount_any HR.out room).mono ?_
    rintro e w2 ⟨rfl, o2, h2, s2⟩
    have H2 := Lib.hid h2
    have S2 := Lib.hid s2
    have hsz := h2.2.2
    clear h2 s2
    generalize R.countV room = n at hcb E1 E2
    generalize R.countR room = R2 at H2 hsz E1 E2
    go_wp2_with fail
    refine (rtake_any H2.out n (by omega) (by omega)).mono ?_
    rintro e w3 ⟨rfl, h3, s3⟩
    have H3 := Lib.hid h3
    have S3 := Lib.hid s3
    have ht := takeS_le R2 n
    clear h3 s3
    go_wp2_with fail
    refine (clone_any (R2.takeS n) _ (by omega)).mono ?_
    rintro e w4 ⟨rfl, hb4⟩
    go_wp2_with fail
    go_ret
    exact ⟨by rw [E1.out]; rfl, o2, by rw [E2.out]; exact H3.out.below_ hb4, (S2.out.trans S3.out).trans (Step.of_below _ _ hb4)⟩
end
end Go.Proofs.YtoploimpfhnanaaDoor
