/- The document's Digits: a number in decimal digits. -/
import Derived.Test.YteoodiffilajgaaDoorWireP
namespace Go.Proofs.YteoodiffilajgaaDoor
open Go.RowKit

theorem str_app (a b : List UInt8) : str a ++ str b = str (a ++ b) := by
  refine str_ext ?_
  simp [str]
set_option maxRecDepth 100000 in
set_option maxHeartbeats 1000000 in
theorem digits1_any (N : Nat) (hN : N ≤ 9223372036854775808) (w : World) : Calls Tryd.prog 51 #[.int .i64 (-(N : Int))] w fun e w' => e = .returned (.string (str (digs 20 N []))) ∧ Below w.heap.size w w' := by
  have HN := Lib.hid (show N < 10 ^ 20 by omega)
  have HN2 := Lib.hid hN
  clear hN
  go_enter Tryd.func51, Tryd.ntmps51
  go_wp2_with fail
  go_loopw [0, 3] (fun t0 t3 wr => ∃ (k u : Nat) (acc : List UInt8), k ≤ 19 ∧ u ≤ N ∧ t0 = .int .i64 (-(u : Int)) ∧ t3 = .string (str acc) ∧ acc.length = k ∧ digs (20 - k) u acc = digs 20 N [] ∧ u < 10 ^ (20 - k) ∧ Below w.heap.size w wr) (fun t0 _ _ => (intOf t0).natAbs)
  case atStart => exact ⟨0, N, [], by omega, Nat.le_refl _, rfl, rfl, rfl, rfl, HN.out, Below.refl _ _⟩
  case round =>
    obtain ⟨k, u, acc, hk, huN, rfl, rfl, hal, hdig, hub, hbw⟩ := hrel
    have HD := Lib.hid hdig
    have HU := Lib.hid hub
    have HB := Lib.hid hbw
    have hu9 : u ≤ 9223372036854775808 := Nat.le_trans huN HN2.out
    clear hdig hub hbw
    obtain ⟨d, hd⟩ : ∃ d, d = UInt8.ofNat (48 + u % 10) := ⟨_, rfl⟩
    have hbv : (d.toNat : Int) = 48 + (u : Int) % 10 := by
      rw [hd]
      simp
      omega
    obtain ⟨S1, hS1⟩ : ∃ S, S = str [d] := ⟨_, rfl⟩
    have hcv : (convert 24 9 (.slice (some ⟨wr.heap.size, 0, none⟩) 1 1)).run Tryd.prog (wr.alloc (.cells #[.int .u8 (48 + (u : Int) % 10)] 5)) = .ok (.string S1) (wr.alloc (.cells #[.int .u8 (48 + (u : Int) % 10)] 5)) := by
      rw [hS1]
      exact conv_at (j := 0) (l := [d]) (Blk.new wr 5 #[.int .u8 (48 + (u : Int) % 10)]) (by simp [bvs, bv, hbv]) rfl
    generalize hA : str acc = A
    have hsum : ¬ 9223372036854775807 < S1.size + A.size := by
      rw [hS1, ← hA, str_size, str_size]
      simp
      omega
    have happ : S1 ++ A = str (d :: acc) := by rw [hS1, ← hA, str_app]; rfl
    have HAPP := Lib.hid happ
    have HDD := Lib.hid hd
    clear hd hbv hS1 happ hA
    by_cases hz : u / 10 = 0
    · have hzI : (-((u : Int) / 10) == 0) = true := by rw [beq_iff_eq]; omega
      go_wp2_with fail
      go_ret
      refine ⟨?_, HB.out.alloc HB.out.size _⟩
      have hd := HD.out
      rw [show 20 - k = (20 - (k + 1)) + 1 by omega, digs, if_pos hz, ← HDD.out] at hd
      rw [HAPP.out, ← hd]
      rfl
    · have hzI : (-((u : Int) / 10) == 0) = false := by rw [beq_eq_false_iff_ne]; omega
      go_wp2_with fail
      go_roundw
      case rel =>
        have hd := HD.out
        have hb := HU.out
        have hk18 : k + 1 ≤ 19 := by
          rcases Nat.lt_or_ge k 19 with h | h
          · omega
          · have e : 20 - k = 1 := by omega
            rw [e] at hb
            omega
        rw [show 20 - k = (20 - (k + 1)) + 1 by omega, digs, if_neg hz, ← HDD.out] at hd
        refine ⟨k + 1, u / 10, d :: acc, hk18, by omega, by go_num, by rw [HAPP.out], by simp [hal], hd, ?_, HB.out.alloc HB.out.size _⟩
        rw [show 20 - k = (20 - (k + 1)) + 1 by omega, Nat.pow_succ] at hb
        omega
      case measure => simp [intOf]; omega
theorem digs_len (f n : Nat) (acc : List UInt8) : (digs f n acc).length ≤ f + acc.length := by
  induction f generalizing n acc with
  | zero => simp [digs]
  | succ f ih =>
    rw [digs]
    split
    · simp
      omega
    · have := ih (n / 10) (UInt8.ofNat (48 + n % 10) :: acc)
      rw [List.length_cons] at this
      omega
theorem xdigits_any (v : Int) (hv : i64' v) (w : World) : Calls Tryd.prog 31 #[.int .i64 v] w fun e w' => e = .returned (.string (str (digits v))) ∧ Below w.heap.size w w' := by
  obtain ⟨hv1, hv2⟩ := hv
  by_cases h0 : 0 ≤ v
  · have eD : digits v = digs 20 v.natAbs [] := if_neg (by omega)
    rw [eD]
    obtain ⟨N, rfl⟩ : ∃ N : Nat, v = N := ⟨v.toNat, by omega⟩
    rw [Int.natAbs_natCast]
    have HN := Lib.hid (show N ≤ 9223372036854775808 by omega)
    have hwN : IntKind.i64.wrap (-(N : Int)) = -(N : Int) := IntWalk.i64_in _ (by omega)
    clear hv1
    go_enter Tryd.func31, Tryd.ntmps31
    go_wp2_with fail
    refine (digits1_any N HN.out _).mono ?_
    rintro e w1 ⟨rfl, hb⟩
    go_wp2_with fail
    go_ret
    exact ⟨rfl, hb⟩
  · have eD : digits v = 45 :: digs 20 v.natAbs [] := if_pos (by omega)
    rw [eD]
    obtain ⟨N, rfl⟩ : ∃ N : Nat, v = -(N : Int) := ⟨v.natAbs, by omega⟩
    rw [Int.natAbs_neg, Int.natAbs_natCast]
    have HN := Lib.hid (show N ≤ 9223372036854775808 by omega)
    have HAPP := Lib.hid (str_app [45] (digs 20 N []))
    have hDs := digs_len 20 N []
    have hDz := str_size (digs 20 N [])
    clear hv1 hv2
    go_enter Tryd.func31, Tryd.ntmps31
    go_wp2_with fail
    refine (digits1_any N HN.out _).mono ?_
    rintro e w1 ⟨rfl, hb⟩
    generalize hD : str (digs 20 N []) = D at HAPP hDz
    have hDs2 : D.size ≤ 20 := by simp at hDs; omega
    have hsum : ¬ 9223372036854775807 < (⟨#[45]⟩ : ByteArray).size + D.size := by
      have : (⟨#[45]⟩ : ByteArray).size = 1 := rfl
      omega
    clear hD hDs hDz
    go_wp2_with fail
    go_ret
    exact ⟨by rw [show (⟨#[45]⟩ : ByteArray) = str [45] from rfl, HAPP.out]; rfl, hb⟩
end Go.Proofs.YteoodiffilajgaaDoor
