/- A reader of bytes: Num, Int. -/
import Derived.Test.YtjmgefpdfhfhmaaGreatDoorWireE
import Derived.Lib.ConvBytes
namespace Go.Proofs.YtjmgefpdfhfhmaaGreatDoor
open Go.RowKit

/-- bytes as a number, the lowest first -/
def lev : List UInt8 → Nat
  | [] => 0
  | b :: r => b.toNat + 256 * lev r
theorem lev_lt (l : List UInt8) : lev l < 256 ^ l.length := by
  induction l with
  | nil => simp [lev]
  | cons b r ih =>
    have := b.toNat_lt
    simp only [lev, List.length_cons, Nat.pow_succ]
    omega
theorem lev_snoc (l : List UInt8) (b : UInt8) : lev (l ++ [b]) = lev l + b.toNat * 256 ^ l.length := by
  induction l with
  | nil => simp [lev]
  | cons c r ih =>
    simp only [List.cons_append, lev, ih, List.length_cons, Nat.pow_succ]
    rw [Nat.mul_add, Nat.mul_left_comm 256 b.toNat, Nat.mul_comm (256 ^ r.length) 256, Nat.add_assoc]
def Rd.numV (R : Rd) (n : Int) : Nat := if 1 ≤ n ∧ n ≤ 8 then lev (R.takeS n).data.toList else 0
def Rd.numR (R : Rd) (n : Int) : Rd := if 1 ≤ n ∧ n ≤ 8 then R.takeR n else R.fail 1
theorem takeS_size (R : Rd) (n : Int) (h0 : 0 ≤ n) : ((R.takeS n).size : Int) ≤ n := by
  unfold Rd.takeS
  split
  · rw [ByteArray.size_extract]; omega
  · exact h0
theorem or_byte (v k : Nat) (b : UInt8) (hv : v < 256 ^ k) (hk : k ≤ 7) : bits BinOp.or IntKind.u64 (v : Int) (IntKind.u64.wrap (IntKind.u64.wrap (b.toNat : Int) * 2 ^ (8 * k))) = ((v + b.toNat * 256 ^ k : Nat) : Int) := by
  have hp : 256 ^ k = 2 ^ (8 * k) := by rw [show 256 = 2 ^ 8 from rfl, ← Nat.pow_mul]
  have hb := b.toNat_lt
  have hle : 2 ^ (8 * k + 8) ≤ 2 ^ 64 := Nat.pow_le_pow_right (by decide) (by omega)
  have hs : 2 ^ (8 * k + 8) = 2 ^ (8 * k) * 256 := by rw [Nat.pow_add]
  rw [hp] at hv ⊢
  have hm : b.toNat * 2 ^ (8 * k) ≤ 255 * 2 ^ (8 * k) := Nat.mul_le_mul_right _ (by omega)
  have h64 : (2 : Nat) ^ 64 = 18446744073709551616 := rfl
  have hsum : v + b.toNat * 2 ^ (8 * k) < 18446744073709551616 := by omega
  have e1 : IntKind.u64.wrap (b.toNat : Int) = (b.toNat : Int) := by rw [IntKind.wrap_u64]; omega
  have e2 : (b.toNat : Int) * 2 ^ (8 * k) = ((b.toNat * 2 ^ (8 * k) : Nat) : Int) := by simp
  have e3 : IntKind.u64.wrap ((b.toNat * 2 ^ (8 * k) : Nat) : Int) = ((b.toNat * 2 ^ (8 * k) : Nat) : Int) := by rw [IntKind.wrap_u64]; omega
  rw [e1, e2, e3]
  have hor : v ||| b.toNat * 2 ^ (8 * k) = v + b.toNat * 2 ^ (8 * k) := by
    rw [Nat.or_comm, Nat.mul_comm, ← Nat.two_pow_add_eq_or_of_lt hv, Nat.add_comm]
  generalize b.toNat * 2 ^ (8 * k) = y at *
  have e4 : (BitVec.ofInt IntKind.u64.bits (v : Int) ||| BitVec.ofInt IntKind.u64.bits (y : Int)).toNat = v + y := by
    rw [BitVec.toNat_or, BitVec.ofInt_natCast, BitVec.ofInt_natCast, BitVec.toNat_ofNat, BitVec.toNat_ofNat]
    have hbits : 2 ^ IntKind.u64.bits = 18446744073709551616 := rfl
    rw [hbits, Nat.mod_eq_of_lt (by omega), Nat.mod_eq_of_lt (by omega), hor]
  unfold bits
  simp only [e4]
  rw [IntKind.wrap_u64]
  omega
theorem below_bytes (w : World) (e : TypeId) (s : ByteArray) : Below w.heap.size w (Lib.bytesWorld w e s) := ⟨rfl, rfl, rfl, by rw [Lib.bytesWorld_size]; omega, fun k hk => Lib.bytesWorld_at_old w e s k hk⟩
section
variable {o : Nat → Nat} {c : Nat} {w : World} {p : Nat} {R : Rd}
set_option maxRecDepth 100000 in
set_option maxHeartbeats 1000000 in
theorem rnum_any (h : RdAt 127 o c w p R) (n : Int) :
    Calls Tryz.prog 24 #[.pointer (some ⟨p, 0, none⟩), .int .i64 n] w fun r w' => r = .returned (.int .u64 (R.numV n)) ∧ ∃ o', RdAt 127 o' c w' p (R.numR n) ∧ Step o (only c) w o' w' := by
  have HR := Lib.hid h
  clear h
  by_cases hn : 1 ≤ n ∧ n ≤ 8
  · have e1 : R.numR n = R.takeR n := by unfold Rd.numR; rw [if_pos hn]
    have e2 : R.numV n = lev (R.takeS n).data.toList := by unfold Rd.numV; rw [if_pos hn]
    have E1 := Lib.hid e1
    have E2 := Lib.hid e2
    have HOK := Lib.hid (show (if numOk 0 n then (0 : Int) else 1) = 0 from if_pos ⟨hn.1, hn.2, Nat.pow_pos (by decide)⟩)
    obtain ⟨hn1, hn8⟩ := hn
    clear e1 e2
    have hsz := takeS_size R n (by omega)
    go_enter Tryz.func24, Tryz.ntmps24
    go_wp2_with fail
    refine (wrongNum_any 0 n (by omega) _).mono ?_
    rintro e w1 ⟨rfl, rfl⟩
    rw [HOK.out]
    go_wp2_with fail
    refine (rtake_any HR.out n (by omega) (by omega)).mono ?_
    rintro e w2 ⟨rfl, h2, s2⟩
    have H2 := Lib.hid h2
    have S2 := Lib.hid s2
    clear h2 s2
    generalize hS : R.takeS n = S at hsz E2
    have HS := Lib.hid hS
    clear hS
    have hcv := fun w => Lib.run_convert_string_bytes (P := Tryz.prog) w 9 69 5 S Tryz.underlying9 Tryz.underlying69 Tryz.underlying5
    go_wp2_with fail
    have hcell : ∀ j, j < S.size → (Lib.bytesWorld w2 5 S).cell? ⟨w2.heap.size, j, none⟩ = some (.int .u8 (S.data.toList.getD j 0).toNat) := fun j hj => Lib.bytesWorld_cell w2 5 S j hj
    have hbw := below_bytes w2 5 S
    have HCELL := Lib.hid hcell
    have HBW := Lib.hid hbw
    clear hcell hbw hcv
    generalize Lib.bytesWorld w2 5 S = W3 at HCELL HBW ⊢
    generalize w2.heap.size = B at HCELL ⊢
    have hs8 : (S.size : Int) ≤ 8 := by omega
    go_loop [6, 21] (fun t6 t21 => ∃ k : Nat, k ≤ S.size ∧ t21 = .int .i64 k ∧ t6 = .int .u64 ((lev (S.data.toList.take k) : Nat) : Int)) (fun _ t21 => S.size - (intOf t21).toNat)
    case atStart => exact ⟨0, Nat.zero_le _, rfl, rfl⟩
    case round =>
      obtain ⟨k, hk, rfl, rfl⟩ := hrel
      by_cases hlt : k < S.size
      · have hltI : (k : Int) < (S.size : Int) := by omega
        have hc := HCELL.out k hlt
        have hk7 : k ≤ 7 := by omega
        have hkl : (S.data.toList.take k).length = k := by rw [List.length_take]; exact Nat.min_eq_left (Nat.le_of_lt hlt)
        have hvl := lev_lt (S.data.toList.take k)
        rw [hkl] at hvl
        have htk : S.data.toList.take (k + 1) = S.data.toList.take k ++ [S.data.toList.getD k 0] := by
          rw [List.take_add_one, List.getElem?_eq_getElem hlt]
          simp [List.getD, List.getElem?_eq_getElem hlt]
        have HKL := Lib.hid hkl
        have HTK := Lib.hid htk
        clear hkl htk
        generalize hv : lev (S.data.toList.take k) = v at hvl
        have HV := Lib.hid hv
        have HVL := Lib.hid hvl
        clear hv hvl
        generalize S.data.toList.getD k 0 = b at hc HTK
        go_wp2_with fail
        go_round
        case rel =>
          refine ⟨k + 1, by omega, by go_num, ?_⟩
          rw [HTK.out, lev_snoc, HV.out, HKL.out, or_byte v k b HVL.out hk7]
        case measure => simp [intOf]; omega
      · have hltI : ¬ (k : Int) < (S.size : Int) := by omega
        go_wp2_with fail
        go_ret
        have hke : k = S.size := by omega
        have htl : S.data.toList.take k = S.data.toList := List.take_of_length_le (by rw [hke]; exact Nat.le_refl _)
        refine ⟨?_, o, ?_, ?_⟩
        · rw [E2.out, htl]; rfl
        · rw [E1.out]; exact H2.out.below_ HBW.out
        · exact S2.out.trans (Step.of_below _ _ HBW.out)
  · have e1 : R.numR n = R.fail 1 := by unfold Rd.numR; rw [if_neg hn]
    have e2 : R.numV n = 0 := by unfold Rd.numV; rw [if_neg hn]
    have E1 := Lib.hid e1
    have E2 := Lib.hid e2
    have HOK := Lib.hid (show (if numOk 0 n then (0 : Int) else 1) = 1 from if_neg (fun h => hn ⟨h.1, h.2.1⟩))
    clear e1 e2 hn
    go_enter Tryz.func24, Tryz.ntmps24
    go_wp2_with fail
    refine (wrongNum_any 0 n (by omega) _).mono ?_
    rintro e w1 ⟨rfl, rfl⟩
    rw [HOK.out]
    go_wp2_with fail
    refine (rfail_any HR.out 1).mono ?_
    rintro e w2 ⟨rfl, h2, s2⟩
    have H2 := Lib.hid h2
    have S2 := Lib.hid s2
    clear h2 s2
    go_wp2_with fail
    go_ret
    exact ⟨by rw [E2.out]; rfl, o, by rw [E1.out]; exact H2.out, S2.out⟩
end
end Go.Proofs.YtjmgefpdfhfhmaaGreatDoor
