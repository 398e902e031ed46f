/- The document's reader of bytes: End (the same plain function). -/
import Derived.Test.YtoploimpfhnanaaDoorWireR
namespace Go.Proofs.YtoploimpfhnanaaDoor
open Go.RowKit
section
variable {o : Nat → Nat} {c : Nat} {w : World} {p : Nat} {R : Rd}
set_option maxRecDepth 100000 in
set_option maxHeartbeats 400000 in
theorem yend_any (h : RdAt 45 o c w p R) : Calls Tryd.prog 31 #[.pointer (some ⟨p, 0, none⟩)] w fun r w' => r = .returned (.int .i64 R.endV) ∧ Below w.heap.size w w' := by
  have HR := Lib.hid h
  have c0 : w.cell? ⟨p, 0, none⟩ = some (.string R.b) := h.1.cell 0
  have c1 : w.cell? ⟨p, 1, none⟩ = some (.int .i64 R.e) := h.1.cell 1
  have hbs := h.2.2
  clear h
  by_cases he : R.e = 0
  · have E1 := Lib.hid (show R.endV = if zeros R.b then 0 else 4 by unfold Rd.endV; rw [if_neg (by simpa using he)])
    rw [he] at c1
    clear he
    have HC0 := Lib.hid c0
    have HC1 := Lib.hid c1
    clear c0 c1
    generalize R.b = S at HC0 hbs E1
    go_enter Tryd.func31, Tryd.ntmps31
    go_wp2_with fail
    go_loopw [3] (fun t3 wr => ∃ k : Nat, k ≤ S.size ∧ t3 = .int .i64 k ∧ zerosTo S k ∧ wr = w) (fun t3 _ => S.size - (intOf t3).toNat)
    case atStart => exact ⟨0, Nat.zero_le _, rfl, zerosTo_zero S, rfl⟩
    case round =>
      obtain ⟨k, hk, rfl, hz, rfl⟩ := hrel
      have c0 : wr.cell? ⟨p, 0, none⟩ = some (.string S) := HC0.out
      have c1 : wr.cell? ⟨p, 1, none⟩ = some (.int .i64 0) := HC1.out
      have HZ := Lib.hid hz
      clear hz
      by_cases hlt : k < S.size
      · have hltI : (k : Int) < (S.size : Int) := by omega
        by_cases hb : S[k] = 0
        · have hbI : ((S[k].toNat : Int) != 0) = false := by rw [hb]; rfl
          have HB := Lib.hid hb
          clear hb
          go_wp2_with fail
          go_roundw
          case rel => exact ⟨k + 1, by omega, by go_num, (zerosTo_succ hlt).2 ⟨HZ.out, HB.out⟩, by trivial⟩
          case measure => simp [intOf]; omega
        · have hbI : ((S[k].toNat : Int) != 0) = true := bne_iff_ne.2 (fun h => hb ((u8_zero _).1 h))
          have HB := Lib.hid hb
          clear hb
          go_wp2_with fail
          go_ret
          refine ⟨?_, Below.refl _ _⟩
          rw [E1.out, if_neg (fun h => HB.out ((zerosTo_succ hlt).1 (fun j hj hs => (zerosTo_all S).2 h j hs hs)).2)]
          rfl
      · have hltI : ¬ (k : Int) < (S.size : Int) := by omega
        obtain rfl : k = S.size := by omega
        go_wp2_with fail
        go_ret
        refine ⟨?_, Below.refl _ _⟩
        rw [E1.out, if_pos ((zerosTo_all S).1 HZ.out)]
        rfl
  · have E1 := Lib.hid (show R.endV = R.e by unfold Rd.endV; rw [if_pos he])
    have t1 : (R.e == 0) = false := beq_eq_false_iff_ne.2 he
    have HC0 := Lib.hid c0
    have HC1 := Lib.hid c1
    clear c0 c1 he
    generalize R.b = S at HC0 hbs
    go_enter Tryd.func31, Tryd.ntmps31
    go_wp2_with fail
    go_loopw [3] (fun t3 wr => t3 = .int .i64 0 ∧ wr = w) (fun _ _ => 0)
    case atStart => exact ⟨rfl, rfl⟩
    case round =>
      obtain ⟨rfl, rfl⟩ := hrel
      have c0 : wr.cell? ⟨p, 0, none⟩ = some (.string S) := HC0.out
      have c1 : wr.cell? ⟨p, 1, none⟩ = some (.int .i64 R.e) := HC1.out
      by_cases hlt : 0 < S.size
      · have hltI : (0 : Int) < (S.size : Int) := by omega
        go_wp2_with fail
        go_ret
        exact ⟨by rw [E1.out]; rfl, Below.refl _ _⟩
      · have hltI : ¬ (0 : Int) < (S.size : Int) := by omega
        go_wp2_with fail
        go_ret
        exact ⟨by rw [E1.out]; rfl, Below.refl _ _⟩
end
end Go.Proofs.YtoploimpfhnanaaDoor
