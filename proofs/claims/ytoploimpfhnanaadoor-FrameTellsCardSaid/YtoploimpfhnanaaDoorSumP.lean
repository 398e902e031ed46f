/- The check sum of bytes, plain: its steps, that it tells bytes apart that differ at one place. -/
import Derived.Test.YtoploimpfhnanaaDoorWireP
namespace Go.Proofs.YtoploimpfhnanaaDoor
open Go.RowKit

def crcBit (x : Nat) : Nat := if x % 2 = 1 then (x / 2) ^^^ 3988292384 else x / 2
def crcBits (x : Nat) : Nat → Nat
  | 0 => x
  | k + 1 => crcBit (crcBits x k)
def crcByte (x : Nat) (b : UInt8) : Nat := crcBits (x ^^^ b.toNat) 8
def crc (x : Nat) : List UInt8 → Nat
  | [] => x
  | b :: r => crc (crcByte x b) r
def sumOf (l : List UInt8) : Nat := 4294967295 - crc 4294967295 l
theorem crc_snoc (x : Nat) (l : List UInt8) (b : UInt8) : crc x (l ++ [b]) = crcByte (crc x l) b := by
  induction l generalizing x with
  | nil => rfl
  | cons c r ih => exact ih _
theorem crc_app (x : Nat) (l m : List UInt8) : crc x (l ++ m) = crc (crc x l) m := by
  induction l generalizing x with
  | nil => rfl
  | cons c r ih => exact ih _
theorem crcBit_lt {x : Nat} (h : x < 4294967296) : crcBit x < 4294967296 := by
  unfold crcBit
  split
  · exact Nat.xor_lt_two_pow (n := 32) (by omega) (by decide)
  · omega
theorem crcBits_lt {x : Nat} (h : x < 4294967296) (k : Nat) : crcBits x k < 4294967296 := by
  induction k with
  | zero => exact h
  | succ k ih => exact crcBit_lt ih
theorem xb_lt {x : Nat} (h : x < 4294967296) (b : UInt8) : x ^^^ b.toNat < 4294967296 := Nat.xor_lt_two_pow (n := 32) h (by have := b.toNat_lt; omega)
theorem crcByte_lt {x : Nat} (h : x < 4294967296) (b : UInt8) : crcByte x b < 4294967296 := crcBits_lt (xb_lt h b) 8
theorem crc_lt {x : Nat} (h : x < 4294967296) (l : List UInt8) : crc x l < 4294967296 := by
  induction l generalizing x with
  | nil => exact h
  | cons b r ih => exact ih (crcByte_lt h b)
theorem sumOf_lt (l : List UInt8) : sumOf l < 4294967296 := by unfold sumOf; omega
theorem xor_can {a b p : Nat} (h : a ^^^ p = b ^^^ p) : a = b := by
  have h2 := congrArg (· ^^^ p) h
  simpa [Nat.xor_assoc] using h2
theorem top_off {x y : Nat} (hx : x < 2147483648) (hy : y < 2147483648) : x ^^^ 3988292384 ≠ y := by
  intro e
  have h := congrArg (Nat.testBit · 31) e
  simp only [Nat.testBit_xor, Nat.testBit_lt_two_pow (x := x) (i := 31) (by simpa using hx), Nat.testBit_lt_two_pow (x := y) (i := 31) (by simpa using hy)] at h
  revert h
  decide
theorem crcBit_inj {x y : Nat} (hx : x < 4294967296) (hy : y < 4294967296) (h : crcBit x = crcBit y) : x = y := by
  unfold crcBit at h
  split at h <;> split at h
  · have := xor_can h; omega
  · exact absurd h (top_off (by omega) (by omega))
  · exact absurd h.symm (top_off (by omega) (by omega))
  · omega
theorem crcBits_inj {x y : Nat} (hx : x < 4294967296) (hy : y < 4294967296) (k : Nat) (h : crcBits x k = crcBits y k) : x = y := by
  induction k with
  | zero => exact h
  | succ k ih => exact ih (crcBit_inj (crcBits_lt hx k) (crcBits_lt hy k) h)
theorem crcByte_inj {x y : Nat} (hx : x < 4294967296) (hy : y < 4294967296) {b : UInt8} (h : crcByte x b = crcByte y b) : x = y :=
  xor_can (crcBits_inj (xb_lt hx b) (xb_lt hy b) 8 h)
theorem crcByte_byte {x : Nat} (hx : x < 4294967296) {b c : UInt8} (h : crcByte x b = crcByte x c) : b = c := by
  have h2 := crcBits_inj (xb_lt hx b) (xb_lt hx c) 8 h
  rw [Nat.xor_comm, Nat.xor_comm x] at h2
  exact UInt8.toNat_inj.1 (xor_can h2)
theorem crc_inj {x y : Nat} (hx : x < 4294967296) (hy : y < 4294967296) (l : List UInt8) (h : crc x l = crc y l) : x = y := by
  induction l generalizing x y with
  | nil => exact h
  | cons b r ih => exact crcByte_inj hx hy (ih (crcByte_lt hx b) (crcByte_lt hy b) h)
/-- one byte changed changes the sum -/
theorem sumOf_set {l : List UInt8} {k : Nat} (hk : k < l.length) {b : UInt8} (h : sumOf (l.set k b) = sumOf l) : b = l[k] := by
  have e1 : l.set k b = l.take k ++ (b :: l.drop (k + 1)) := by rw [List.set_eq_take_append_cons_drop, if_pos hk]
  have e2 : l = l.take k ++ (l[k] :: l.drop (k + 1)) := by rw [← List.drop_eq_getElem_cons hk, List.take_append_drop]
  have l1 := crc_lt (x := 4294967295) (by decide) (l.set k b)
  have l2 := crc_lt (x := 4294967295) (by decide) l
  have h1 : crc 4294967295 (l.set k b) = crc 4294967295 l := by unfold sumOf at h; omega
  have e3 : crc 4294967295 l = crc 4294967295 (l.take k ++ (l[k] :: l.drop (k + 1))) := congrArg _ e2
  rw [e1, e3, crc_app, crc_app] at h1
  have h0 := crc_lt (x := 4294967295) (by decide) (l.take k)
  exact crcByte_byte h0 (crc_inj (crcByte_lt h0 _) (crcByte_lt h0 _) _ h1)
theorem le_inj {v u k : Nat} (hv : v < 256 ^ k) (hu : u < 256 ^ k) (h : le v k = le u k) : v = u := by
  have := congrArg lev h
  rwa [lev_le, lev_le, Nat.mod_eq_of_lt hv, Nat.mod_eq_of_lt hu] at this
def four (v : Nat) : List UInt8 := le v 4
theorem four_inj {l m : List UInt8} (h : four (sumOf l) = four (sumOf m)) : sumOf l = sumOf m :=
  le_inj (by simpa using sumOf_lt l) (by simpa using sumOf_lt m) h
/-- a text with its sum ahead -/
def sealL (l : List UInt8) : List UInt8 := four (sumOf l) ++ l
/-- what a sealed text has: 0, or the error -/
def openE (b : List UInt8) : Int := if b.length < 4 then 5 else if four (sumOf (b.drop 4)) = b.take 4 then 0 else 6
theorem seal_len (l : List UInt8) : (sealL l).length = 4 + l.length := by simp [sealL, four, le_len]
theorem seal_drop (l : List UInt8) : (sealL l).drop 4 = l := by
  unfold sealL
  rw [List.drop_append_of_le_length (by simp [four, le_len]), List.drop_of_length_le (by simp [four, le_len]), List.nil_append]
theorem seal_take (l : List UInt8) : (sealL l).take 4 = four (sumOf l) := by
  unfold sealL
  rw [List.take_append_of_le_length (by simp [four, le_len]), List.take_of_length_le (by simp [four, le_len])]
theorem open_seal (l : List UInt8) : openE (sealL l) = 0 := by
  unfold openE
  rw [if_neg (by rw [seal_len]; omega), seal_drop, seal_take, if_pos rfl]
theorem open_set (l : List UInt8) {k : Nat} (hk : k < (sealL l).length) {b : UInt8} (hb : b ≠ (sealL l)[k]) : openE ((sealL l).set k b) = 6 := by
  unfold openE
  rw [if_neg (by rw [List.length_set, seal_len]; omega), if_neg]
  intro e
  by_cases h4 : k < 4
  · rw [List.drop_set_of_lt h4, seal_drop, List.take_set, seal_take] at e
    have h5 : k < (four (sumOf l)).length := by simpa [four, le_len] using h4
    have h6 : (four (sumOf l))[k]'h5 = ((four (sumOf l)).set k b)[k]'(by simpa using h5) := by simp only [← e]
    rw [List.getElem_set_self] at h6
    apply hb
    rw [← h6]
    simp only [sealL]
    rw [List.getElem_append_left h5]
  · rw [List.take_set_of_le (by omega), seal_take, List.drop_set, if_neg h4, seal_drop] at e
    have h5 : k - 4 < l.length := by rw [seal_len] at hk; omega
    have h6 := sumOf_set h5 (four_inj e)
    apply hb
    rw [h6]
    have h7 : (sealL l)[k]? = l[k - 4]? := by
      have := congrArg (fun x : List UInt8 => x[k - 4]?) (seal_drop l)
      simp only [List.getElem?_drop] at this
      rwa [show 4 + (k - 4) = k by omega] at this
    rw [List.getElem?_eq_getElem hk, List.getElem?_eq_getElem h5] at h7
    injection h7 with h7
    exact h7.symm
end Go.Proofs.YtoploimpfhnanaaDoor
