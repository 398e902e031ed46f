/- The check sum of bytes, plain: its steps, that it tells bytes apart that differ at one place. -/
import Derived.Test.YtianlhigeabehaaGreatDoorKWireP
import Derived.Test.YtianlhigeabehaaGreatDoorKBase
import Derived.MapKept
namespace Go.Proofs.YtianlhigeabehaaGreatDoor
open Go.RowKit

def crcBit (x : Nat) : Nat := if x % 2 = 1 then (x / 2) ^^^ 3988292384 else x / 2
def crcBits (x : Nat) : Nat → Nat
  | 0 => x
  | k + 1 => crcBit (crcBits x k)
def crcByte (x : Nat) (b : UInt8) : Nat := crcBits (x ^^^ b.toNat) 8
def crc (x : Nat) : List UInt8 → Nat
  | [] => x
  | b :: r => crc (crcByte x b) r
def sumOf (l : List UInt8) : Nat := 4294967295 - crc 4294967295 l
theorem crc_snoc (x : Nat) (l : List UInt8) (b : UInt8) : crc x (l ++ [b]) = crcByte (crc x l) b := by
  induction l generalizing x with
  | nil => rfl
  | cons c r ih => exact ih _
theorem crc_app (x : Nat) (l m : List UInt8) : crc x (l ++ m) = crc (crc x l) m := by
  induction l generalizing x with
  | nil => rfl
  | cons c r ih => exact ih _
theorem crcBit_lt {x : Nat} (h : x < 4294967296) : crcBit x < 4294967296 := by
  unfold crcBit
  split
  · exact Nat.xor_lt_two_pow (n := 32) (by omega) (by decide)
  · omega
theorem crcBits_lt {x : Nat} (h : x < 4294967296) (k : Nat) : crcBits x k < 4294967296 := by
  induction k with
  | zero => exact h
  | succ k ih => exact crcBit_lt ih
theorem xb_lt {x : Nat} (h : x < 4294967296) (b : UInt8) : x ^^^ b.toNat < 4294967296 := Nat.xor_lt_two_pow (n := 32) h (by have := b.toNat_lt; omega)
theorem crcByte_lt {x : Nat} (h : x < 4294967296) (b : UInt8) : crcByte x b < 4294967296 := crcBits_lt (xb_lt h b) 8
theorem crc_lt {x : Nat} (h : x < 4294967296) (l : List UInt8) : crc x l < 4294967296 := by
  induction l generalizing x with
  | nil => exact h
  | cons b r ih => exact ih (crcByte_lt h b)
theorem sumOf_lt (l : List UInt8) : sumOf l < 4294967296 := by unfold sumOf; omega
theorem xor_can {a b p : Nat} (h : a ^^^ p = b ^^^ p) : a = b := by
  have h2 := congrArg (· ^^^ p) h
  simpa [Nat.xor_assoc] using h2
theorem top_off {x y : Nat} (hx : x < 2147483648) (hy : y < 2147483648) : x ^^^ 3988292384 ≠ y := by
  intro e
  have h := congrArg (Nat.testBit · 31) e
  simp only [Nat.testBit_xor, Nat.testBit_lt_two_pow (x := x) (i := 31) (by simpa using hx), Nat.testBit_lt_two_pow (x := y) (i := 31) (by simpa using hy)] at h
  revert h
  decide
theorem crcBit_inj {x y : Nat} (hx : x < 4294967296) (hy : y < 4294967296) (h : crcBit x = crcBit y) : x = y := by
  unfold crcBit at h
  split at h <;> split at h
  · have := xor_can h; omega
  · exact absurd h (top_off (by omega) (by omega))
  · exact absurd h.symm (top_off (by omega) (by omega))
  · omega
theorem crcBits_inj {x y : Nat} (hx : x < 4294967296) (hy : y < 4294967296) (k : Nat) (h : crcBits x k = crcBits y k) : x = y := by
  induction k with
  | zero => exact h
  | succ k ih => exact ih (crcBit_inj (crcBits_lt hx k) (crcBits_lt hy k) h)
theorem crcByte_inj {x y : Nat} (hx : x < 4294967296) (hy : y < 4294967296) {b : UInt8} (h : crcByte x b = crcByte y b) : x = y :=
  xor_can (crcBits_inj (xb_lt hx b) (xb_lt hy b) 8 h)
theorem crcByte_byte {x : Nat} (hx : x < 4294967296) {b c : UInt8} (h : crcByte x b = crcByte x c) : b = c := by
  have h2 := crcBits_inj (xb_lt hx b) (xb_lt hx c) 8 h
  rw [Nat.xor_comm, Nat.xor_comm x] at h2
  exact UInt8.toNat_inj.1 (xor_can h2)
theorem crc_inj {x y : Nat} (hx : x < 4294967296) (hy : y < 4294967296) (l : List UInt8) (h : crc x l = crc y l) : x = y := by
  induction l generalizing x y with
  | nil => exact h
  | cons b r ih => exact crcByte_inj hx hy (ih (crcByte_lt hx b) (crcByte_lt hy b) h)
/-- one byte changed changes the sum -/
theorem sumOf_set {l : List UInt8} {k : Nat} (hk : k < l.length) {b : UInt8} (h : sumOf (l.set k b) = sumOf l) : b = l[k] := by
  have e1 : l.set k b = l.take k ++ (b :: l.drop (k + 1)) := by rw [List.set_eq_take_append_cons_drop, if_pos hk]
  have e2 : l = l.take k ++ (l[k] :: l.drop (k + 1)) := by rw [← List.drop_eq_getElem_cons hk, List.take_append_drop]
  have l1 := crc_lt (x := 4294967295) (by decide) (l.set k b)
  have l2 := crc_lt (x := 4294967295) (by decide) l
  have h1 : crc 4294967295 (l.set k b) = crc 4294967295 l := by unfold sumOf at h; omega
  have e3 : crc 4294967295 l = crc 4294967295 (l.take k ++ (l[k] :: l.drop (k + 1))) := congrArg _ e2
  rw [e1, e3, crc_app, crc_app] at h1
  have h0 := crc_lt (x := 4294967295) (by decide) (l.take k)
  exact crcByte_byte h0 (crc_inj (crcByte_lt h0 _) (crcByte_lt h0 _) _ h1)
theorem le_inj {v u k : Nat} (hv : v < 256 ^ k) (hu : u < 256 ^ k) (h : le v k = le u k) : v = u := by
  have := congrArg lev h
  rwa [lev_le, lev_le, Nat.mod_eq_of_lt hv, Nat.mod_eq_of_lt hu] at this
def four (v : Nat) : List UInt8 := le v 4
theorem four_inj {l m : List UInt8} (h : four (sumOf l) = four (sumOf m)) : sumOf l = sumOf m :=
  le_inj (by simpa using sumOf_lt l) (by simpa using sumOf_lt m) h
/-- a text with its sum ahead -/
def sealL (l : List UInt8) : List UInt8 := four (sumOf l) ++ l
/-- what a sealed text has: 0, or the error -/
def openE (b : List UInt8) : Int := if b.length < 4 then 5 else if four (sumOf (b.drop 4)) = b.take 4 then 0 else 6
theorem seal_len (l : List UInt8) : (sealL l).length = 4 + l.length := by simp [sealL, four, le_len]
theorem seal_drop (l : List UInt8) : (sealL l).drop 4 = l := by
  unfold sealL
  rw [List.drop_append_of_le_length (by simp [four, le_len]), List.drop_of_length_le (by simp [four, le_len]), List.nil_append]
theorem seal_take (l : List UInt8) : (sealL l).take 4 = four (sumOf l) := by
  unfold sealL
  rw [List.take_append_of_le_length (by simp [four, le_len]), List.take_of_length_le (by simp [four, le_len])]
theorem open_seal (l : List UInt8) : openE (sealL l) = 0 := by
  unfold openE
  rw [if_neg (by rw [seal_len]; omega), seal_drop, seal_take, if_pos rfl]
theorem open_set (l : List UInt8) {k : Nat} (hk : k < (sealL l).length) {b : UInt8} (hb : b ≠ (sealL l)[k]) : openE ((sealL l).set k b) = 6 := by
  unfold openE
  rw [if_neg (by rw [List.length_set, seal_len]; omega), if_neg]
  intro e
  by_cases h4 : k < 4
  · rw [List.drop_set_of_lt h4, seal_drop, List.take_set, seal_take] at e
    have h5 : k < (four (sumOf l)).length := by simpa [four, le_len] using h4
    have h6 : (four (sumOf l))[k]'h5 = ((four (sumOf l)).set k b)[k]'(by simpa using h5) := by simp only [← e]
    rw [List.getElem_set_self] at h6
    apply hb
    rw [← h6]
    simp only [sealL]
    rw [List.getElem_append_left h5]
  · rw [List.take_set_of_le (by omega), seal_take, List.drop_set, if_neg h4, seal_drop] at e
    have h5 : k - 4 < l.length := by rw [seal_len] at hk; omega
    have h6 := sumOf_set h5 (four_inj e)
    apply hb
    rw [h6]
    have h7 : (sealL l)[k]? = l[k - 4]? := by
      have := congrArg (fun x : List UInt8 => x[k - 4]?) (seal_drop l)
      simp only [List.getElem?_drop] at this
      rwa [show 4 + (k - 4) = k by omega] at this
    rw [List.getElem?_eq_getElem hk, List.getElem?_eq_getElem h5] at h7
    injection h7 with h7
    exact h7.symm
end Go.Proofs.YtianlhigeabehaaGreatDoor

/- Sectors with their sum behind (Stamp, Read), blocks of two sectors, plain. -/
namespace Go.Proofs.YtianlhigeabehaaGreatDoor
open Go.RowKit

def zer (n : Nat) : List UInt8 := List.replicate n 0
theorem zer_len (n : Nat) : (zer n).length = n := List.length_replicate
theorem four_len (v : Nat) : (four v).length = 4 := le_len _ _
def padL (l : List UInt8) (n : Nat) : List UInt8 := l ++ zer (n - 4 - l.length)
def stampL (l : List UInt8) (n : Nat) : List UInt8 := padL l n ++ four (sumOf (padL l n))
theorem pad_len {l : List UInt8} {n : Nat} (h : l.length ≤ n - 4) : (padL l n).length = n - 4 := by
  unfold padL
  rw [List.length_append, zer_len]
  omega
theorem stamp_len {l : List UInt8} {n : Nat} (h : l.length ≤ n - 4) (h4 : 4 ≤ n) : (stampL l n).length = n := by
  unfold stampL
  rw [List.length_append, pad_len h, four_len]
  omega
/-- what a stamped text has: 0, or the error -/
def readE (b : List UInt8) : Int := if b.length < 4 then 5 else if b.drop (b.length - 4) = four (sumOf (b.take (b.length - 4))) then 0 else 6
def readL (b : List UInt8) : List UInt8 := if readE b = 0 then b.take (b.length - 4) else []
theorem read_stamp {l : List UInt8} {n : Nat} (h : l.length ≤ n - 4) (h4 : 4 ≤ n) : readE (stampL l n) = 0 ∧ readL (stampL l n) = padL l n := by
  have hl := stamp_len h h4
  have hp := pad_len h
  have e1 : (stampL l n).drop (n - 4) = four (sumOf (padL l n)) := by
    unfold stampL
    rw [List.drop_append_of_le_length (by omega), List.drop_of_length_le (by omega), List.nil_append]
  have e2 : (stampL l n).take (n - 4) = padL l n := by
    unfold stampL
    rw [List.take_append_of_le_length (by omega), List.take_of_length_le (by omega)]
  have e3 : readE (stampL l n) = 0 := by
    unfold readE
    rw [if_neg (by omega), hl, e1, e2, if_pos rfl]
  refine ⟨e3, ?_⟩
  unfold readL
  rw [if_pos e3, hl, e2]
theorem readE_cases (b : List UInt8) : readE b = 0 ∨ readE b = 5 ∨ readE b = 6 := by
  unfold readE
  split
  · exact .inr (.inl rfl)
  · split
    · exact .inl rfl
    · exact .inr (.inr rfl)
theorem readL_len {b : List UInt8} (h : readE b = 0) : (readL b).length = b.length - 4 := by
  unfold readL
  rw [if_pos h, List.length_take]
  omega

/-- an image of a block -/
structure Im where
  block : Int
  ver : Nat
  data : ByteArray
deriving DecidableEq
def Im.zero : Im := ⟨0, 0, ⟨#[]⟩⟩
def Im.cells (i : Im) : List Value := [.int .i64 i.block, .int .u64 i.ver, .string i.data]
def Im.agg (i : Im) : Value := .agg #[.int .i64 i.block, .int .u64 i.ver, .string i.data]
def Im.right (i : Im) : Prop := 0 ≤ i.block ∧ i.block < 4096 ∧ i.data.size = 96
instance (i : Im) : Decidable i.right := by unfold Im.right; infer_instance
/-- one sector of a block -/
def secT (i : Im) (k : Nat) : List UInt8 := (i.data.extract (k * 48) ((k + 1) * 48)).data.toList ++ (le i.block.toNat 4 ++ le i.ver 8)
def secL (i : Im) (k : Nat) : List UInt8 := stampL (secT i k) 64
def blkL (i : Im) : List UInt8 := secL i 0 ++ secL i 1
theorem secT_len {i : Im} (h : i.right) {k : Nat} (hk : k ≤ 1) : (secT i k).length = 60 := by
  unfold secT
  rw [List.length_append, List.length_append, le_len, le_len]
  have : ((i.data.extract (k * 48) ((k + 1) * 48)).data.toList).length = (i.data.extract (k * 48) ((k + 1) * 48)).size := rfl
  rw [this, ByteArray.size_extract]
  have := h.2.2
  omega
theorem secL_len {i : Im} (h : i.right) {k : Nat} (hk : k ≤ 1) : (secL i k).length = 64 := stamp_len (by rw [secT_len h hk]; omega) (by omega)
theorem blkL_len {i : Im} (h : i.right) : (blkL i).length = 128 := by
  unfold blkL
  rw [List.length_append, secL_len h (by omega), secL_len h (by omega)]
/-- what one sector of a block tells, where its sum is right -/
def secI (t : List UInt8) : Im := ⟨((⟨str (t.drop 48), 0⟩ : Rd).numV 4 : Nat), ((⟨str (t.drop 48), 0⟩ : Rd).numR 4).numV 8, str (t.take 48)⟩
theorem secI_T {i : Im} (h : i.right) (hv : i.ver < 18446744073709551616) {k : Nat} (hk : k ≤ 1) : secI (secT i k) = ⟨i.block, i.ver, i.data.extract (k * 48) ((k + 1) * 48)⟩ := by
  have hx : ((i.data.extract (k * 48) ((k + 1) * 48)).data.toList).length = 48 := by
    show (i.data.extract (k * 48) ((k + 1) * 48)).size = 48
    rw [ByteArray.size_extract]
    have := h.2.2
    omega
  have e1 : (secT i k).drop 48 = le i.block.toNat (4 : Int).toNat ++ (le i.ver (8 : Int).toNat ++ []) := by
    unfold secT
    rw [List.drop_append_of_le_length (by omega), List.drop_of_length_le (by omega), List.nil_append, List.append_nil]
    rfl
  have e3 : (secT i k).take 48 = (i.data.extract (k * 48) ((k + 1) * 48)).data.toList := by
    unfold secT
    rw [List.take_append_of_le_length (by omega), List.take_of_length_le (by omega)]
  have n1 := num_app (v := i.block.toNat) (n := 4) ⟨by omega, by omega, by have := h.2.1; have := h.1; simp; omega⟩ (le i.ver (8 : Int).toNat ++ [])
  have n2 := num_app (v := i.ver) (n := 8) ⟨by omega, by omega, by simpa using hv⟩ []
  unfold secI
  rw [e1, e3, n1.1, n1.2, n2.1, str_of]
  congr 1
  have := h.1
  omega
/-- what one sector of a block tells -/
def secG (b : ByteArray) (k : Nat) : Im × Int := if readE (b.extract (k * 64) ((k + 1) * 64)).data.toList = 0 then (secI (readL (b.extract (k * 64) ((k + 1) * 64)).data.toList), 0) else (Im.zero, readE (b.extract (k * 64) ((k + 1) * 64)).data.toList)
/-- what a block's bytes tell -/
def getB (block : Int) (b : ByteArray) : Im × Int :=
  if b.size ≠ 128 then (Im.zero, 5) else if b = str (zer 128) then (⟨block, 0, str (zer 96)⟩, 0)
  else if (secG b 0).2 ≠ 0 then (Im.zero, (secG b 0).2) else if (secG b 1).2 ≠ 0 then (Im.zero, (secG b 1).2)
  else if (secG b 0).1.block ≠ block ∨ (secG b 1).1.block ≠ block ∨ 4096 ≤ block then (Im.zero, 4)
  else if (secG b 0).1.ver ≠ (secG b 1).1.ver then (Im.zero, 6)
  else (⟨block, (secG b 0).1.ver, (secG b 0).1.data ++ (secG b 1).1.data⟩, 0)
theorem zer_app (m n : Nat) : zer m ++ zer n = zer (m + n) := List.replicate_append_replicate
theorem extract_str (l : List UInt8) (i j : Nat) : (str l).extract i j = str ((l.take j).drop i) := by
  refine str_ext ?_
  rw [extract_list, str_list, str_list]
/-- the sum of 60 bytes 0 is not 0 -/
theorem sum_zero_ne (n : Nat) (hn : n = 60 ∨ n = 92 ∨ n = 124) : four (sumOf (zer 60)) ≠ zer 4 := by
  decide +kernel
theorem blkL_ne_zero {i : Im} (h : i.right) : str (blkL i) ≠ str (zer 128) := by
  intro e
  have e1 := congrArg (fun b : ByteArray => b.data.toList) e
  simp only [str_list] at e1
  have e2 : secL i 0 = zer 64 := by
    have := congrArg (List.take 64) e1
    unfold blkL at this
    rw [List.take_append_of_le_length (by rw [secL_len h (by omega)]; omega), List.take_of_length_le (by rw [secL_len h (by omega)]; omega)] at this
    rw [this]
    decide +kernel
  have e3 : padL (secT i 0) 64 = zer 60 ∧ four (sumOf (padL (secT i 0) 64)) = zer 4 := by
    have hp : (padL (secT i 0) 64).length = 60 := pad_len (by rw [secT_len h (by omega)]; omega)
    unfold secL stampL at e2
    constructor
    · have := congrArg (List.take 60) e2
      rw [List.take_append_of_le_length (by omega), List.take_of_length_le (by omega)] at this
      rw [this]
      decide +kernel
    · have := congrArg (List.drop 60) e2
      rw [List.drop_append_of_le_length (by omega), List.drop_of_length_le (by omega), List.nil_append] at this
      rw [this]
      decide +kernel
  rw [e3.1] at e3
  exact sum_zero_ne 60 (.inl rfl) e3.2
theorem secG_blk {i : Im} (h : i.right) (hv : i.ver < 18446744073709551616) {k : Nat} (hk : k ≤ 1) : secG (str (blkL i)) k = (⟨i.block, i.ver, i.data.extract (k * 48) ((k + 1) * 48)⟩, 0) := by
  have hl0 := secL_len h (k := 0) (by omega)
  have hl1 := secL_len h (k := 1) (by omega)
  have e1 : ((str (blkL i)).extract (k * 64) ((k + 1) * 64)).data.toList = secL i k := by
    rw [extract_str, str_list]
    unfold blkL
    rcases (show k = 0 ∨ k = 1 by omega) with rfl | rfl
    · rw [Nat.zero_mul, List.drop_zero, List.take_append_of_le_length (by omega), List.take_of_length_le (by omega)]
    · rw [List.take_of_length_le (by rw [List.length_append]; omega), List.drop_append_of_le_length (by omega), List.drop_of_length_le (by omega), List.nil_append]
  have hp : padL (secT i k) 64 = secT i k := by
    unfold padL
    rw [secT_len h hk]
    exact List.append_nil _
  have hr := read_stamp (l := secT i k) (n := 64) (by rw [secT_len h hk]; omega) (by omega)
  unfold secG
  rw [e1]
  unfold secL
  rw [if_pos hr.1, hr.2, hp, secI_T h hv hk]
theorem data_halves {b : ByteArray} (h : b.size = 96) : b.extract 0 48 ++ b.extract 48 96 = b := by
  refine str_ext ?_
  have e : (b.extract 0 48 ++ b.extract 48 96).data.toList = (b.extract 0 48).data.toList ++ (b.extract 48 96).data.toList := by
    rw [ByteArray.data_append, Array.toList_append]
  have hl : b.data.toList.take 96 = b.data.toList := List.take_of_length_le (show b.data.toList.length ≤ 96 by show b.size ≤ 96; omega)
  rw [e, extract_list, extract_list, List.drop_zero, hl, List.take_append_drop]
/-- an image is read as it was put -/
theorem getB_put {i : Im} (h : i.right) (hv : i.ver < 18446744073709551616) : getB i.block (str (blkL i)) = (i, 0) := by
  have g0 := secG_blk h hv (k := 0) (by omega)
  have g1 := secG_blk h hv (k := 1) (by omega)
  unfold getB
  rw [if_neg (by rw [str_size, blkL_len h]; simp), if_neg (blkL_ne_zero h), if_neg (by rw [g0]; simp), if_neg (by rw [g1]; simp), if_neg (by rw [g0, g1]; have := h.2.1; simp; omega), if_neg (by rw [g0, g1]; simp), g0, g1]
  have := data_halves h.2.2
  simp only [Nat.zero_mul, Nat.zero_add, Nat.one_mul] at *
  rw [this]
end Go.Proofs.YtianlhigeabehaaGreatDoor

/- A map with int keys in memory, as a function: look-up, update, a new one; values of whatever form. -/
namespace Go.Proofs.YtianlhigeabehaaGreatDoor
open Go.RowKit Go.MapKept

/-- the entries read as the function f -/
def EsR (es : Array MapEntry) (f : Int → Option Value) : Prop := ∀ k v, f k = some v ↔ ∃ e ∈ es.toList, e.key = .int .i64 k ∧ e.val = v
/-- the map of block m, of colour c, reads as the function f -/
def MapR (o : Nat → Nat) (c : Nat) (w : World) (m : Nat) (f : Int → Option Value) : Prop :=
  o m = c ∧ ∃ es clock, w.heap[m]? = some (.map es clock) ∧ Stamped es clock ∧ (∀ x ∈ es.toList, IsKey (.int .i64) x.key) ∧ EsR es f
def upd {α : Type} (f : Int → Option α) (k : Int) (v : α) : Int → Option α := fun j => if j = k then some v else f j
theorem upd_same {α : Type} (f : Int → Option α) (k : Int) (v : α) : upd f k v k = some v := if_pos rfl
theorem upd_other {α : Type} (f : Int → Option α) {k j : Int} (v : α) (h : j ≠ k) : upd f k v j = f j := if_neg h

theorem nodup_at {l : List Value} (h : l.Nodup) {i j : Nat} {v : Value} (hi : l[i]? = some v) (hj : l[j]? = some v) : i = j := by
  obtain ⟨h1, h2⟩ := List.getElem?_eq_some_iff.1 hi
  obtain ⟨h3, h4⟩ := List.getElem?_eq_some_iff.1 hj
  rcases Nat.lt_trichotomy i j with hlt | he | hlt
  · exact absurd (h2.trans h4.symm) (List.pairwise_iff_getElem.1 h i j h1 h3 hlt)
  · exact he
  · exact absurd (h4.trans h2.symm) (List.pairwise_iff_getElem.1 h j i h3 h1 hlt)
section
variable {o o' : Nat → Nat} {c : Nat} {D : Nat → Prop} {w w' : World} {m : Nat} {f g : Int → Option Value}
theorem MapR.lt (h : MapR o c w m f) : m < w.heap.size := by
  obtain ⟨_, es, clock, h1, _⟩ := h
  exact (Array.getElem?_eq_some_iff.1 h1).1
theorem MapR.heap (h : MapR o c w m f) (hb : w'.heap[m]? = w.heap[m]?) (ho : o' m = o m) : MapR o' c w' m f := by
  obtain ⟨hc, es, clock, h1, h2⟩ := h
  exact ⟨ho.trans hc, es, clock, hb.trans h1, h2⟩
theorem MapR.step (h : MapR o c w m f) (hk : Step o D w o' w') (hne : ¬ D c) : MapR o' c w' m f :=
  h.heap (hk.block m h.lt (by rw [h.1]; exact hne)) (hk.old m h.lt)
theorem MapR.below_ (h : MapR o c w m f) (hb : Below w.heap.size w w') : MapR o c w' m f := h.heap (hb.block m h.lt) rfl
theorem MapR.alloc (h : MapR o c w m f) (x : Obj) : MapR o c (w.alloc x) m f := h.below_ ((Below.refl _ _).alloc (Nat.le_refl _) x)
theorem MapR.drew (h : MapR o c w m f) : MapR o c w.drew m f := h
theorem MapR.drewN (h : MapR o c w m f) (n : Nat) : MapR o c (w.drewN n) m f := h
theorem MapR.new (o : Nat → Nat) (w : World) : MapR o (o w.heap.size) (w.alloc (.map #[] 0)) w.heap.size (fun _ => none) := by
  refine ⟨rfl, #[], 0, heap_alloc_new w _, stamped_empty 0, by simp, fun k v => ?_⟩
  simp
theorem MapR.newAs (o : Nat → Nat) (w : World) (c : Nat) (h : o w.heap.size = c) : MapR o c (w.alloc (.map #[] 0)) w.heap.size (fun _ => none) := by
  subst h
  exact MapR.new o w
section
variable {P : Program} {t kt e : TypeId}
/-- 'm[k]' -/
theorem MapR.look (h : MapR o c w m f) (ht : P.underlying t = some (.map kt e)) (hk : P.underlying kt = some (.int .i64)) {z : Value} (hz : (zeroValue e).run P w = .ok z w) (k : Int) (ok : Bool) :
    (Instr.lookup t (.map (some m)) (.int .i64 k) ok).run P w = .ok (if ok then .tuple #[(f k).getD z, .bool (f k).isSome] else (f k).getD z) w := by
  obtain ⟨_, es, clock, h1, hst, hks, hf⟩ := h
  have hkk : IsKey (.int .i64) (.int .i64 k) := rfl
  rcases findNow_spec hkk es.toList 0 hks with ⟨h3, h4⟩ | ⟨j, x, h3, h4, h5⟩
  · have hn : f k = none := by
      cases hfk : f k with
      | none => rfl
      | some v =>
        obtain ⟨x, hx, e1, _⟩ := (hf k v).1 hfk
        exact absurd e1 (h4 x hx)
    simp [Instr.lookup, run_underlying ht, Go.MapKept.run_getObj_map h1, run_checkKey hk hkk, run_findKey hk h3, Result.andThen, hz, hn]
  · have hs : f k = some x.val := (hf k x.val).2 ⟨x, List.mem_of_getElem? h4, h5, rfl⟩
    simp [Instr.lookup, run_underlying ht, Go.MapKept.run_getObj_map h1, run_checkKey hk hkk, run_findKey hk h3, Result.andThen, hs]
theorem setHeap_step (hc : o m = c) (x : Obj) : Step o (only c) w o { w with heap := w.heap.setIfInBounds m x } :=
  ⟨rfl, rfl, rfl, by simp, fun _ _ => rfl, fun _ _ => rfl, fun k _ hne => by
    have : m ≠ k := by
      rintro rfl
      exact hne hc
    simp [this]⟩
theorem setHeap_blk {es : Array MapEntry} {clock : Nat} (h1 : w.heap[m]? = some (.map es clock)) (x : Obj) : ∀ g t cs, Blk w g t cs → Blk { w with heap := w.heap.setIfInBounds m x } g t cs := by
  intro g t cs h
  unfold Blk at h ⊢
  have : m ≠ g := by
    rintro rfl
    rw [h1] at h
    cases h
  simpa [Array.getElem?_setIfInBounds, this] using h
/-- 'm[k] = v' -/
theorem MapR.put (h : MapR o c w m f) (ht : P.underlying t = some (.map kt e)) (hk : P.underlying kt = some (.int .i64)) (k : Int) (v : Value) :
    ∃ w', (Instr.mapUpdate t (.map (some m)) (.int .i64 k) v).run P w = .ok () w' ∧ MapR o c w' m (upd f k v) ∧ Step o (only c) w o w' ∧ ∀ g t cs, Blk w g t cs → Blk w' g t cs := by
  obtain ⟨hc, es, clock, h1, hst, hks, hf⟩ := h
  have hkk : IsKey (.int .i64) (.int .i64 k) := rfl
  rcases findNow_spec hkk es.toList 0 hks with ⟨h3, h4⟩ | ⟨j, x, h3, h4, h5⟩
  · refine ⟨_, by simp [Instr.mapUpdate, run_underlying ht, Go.MapKept.run_getObj_map h1, run_checkKey hk hkk, run_findKey hk h3, run_setObj_map _ h1, Result.andThen]; rfl, ⟨hc, _, _, (heap_set h1).1, stamped_push hst h4, ?_, fun j u => ?_⟩, setHeap_step hc _, setHeap_blk h1 _⟩
    · intro y hy
      simp only [Array.toList_push, List.mem_append, List.mem_singleton] at hy
      rcases hy with hy | rfl
      · exact hks y hy
      · exact hkk
    · simp only [Array.toList_push, List.mem_append, List.mem_singleton]
      by_cases hj : j = k
      · subst hj
        rw [upd_same]
        constructor
        · intro hh
          injection hh with hh
          exact ⟨_, .inr rfl, rfl, hh⟩
        · rintro ⟨y, hy | rfl, e1, e2⟩
          · exact absurd e1 (h4 y hy)
          · rw [← e2]
      · rw [upd_other f v hj, hf j u]
        constructor
        · rintro ⟨y, hy, e1, e2⟩
          exact ⟨y, .inl hy, e1, e2⟩
        · rintro ⟨y, hy | rfl, e1, e2⟩
          · exact ⟨y, hy, e1, e2⟩
          · injection e1 with _ e1
            exact absurd e1.symm hj
  · have hj : es[j]? = some x := by simpa using h4
    have hkey : ∀ e', es[j]? = some e' → ({ e' with key := .int .i64 k, val := v } : MapEntry).key = e'.key := fun e' he' => by rw [hj] at he'; cases he'; exact h5.symm
    refine ⟨{ w with heap := w.heap.setIfInBounds m (.map (es.modify j fun e' => { e' with key := .int .i64 k, val := v }) clock) }, by simp [Instr.mapUpdate, run_underlying ht, Go.MapKept.run_getObj_map h1, run_checkKey hk hkk, run_findKey hk h3, hj, h5, run_keyThatStays hkk, run_setObj_map _ h1, Result.andThen], ⟨hc, _, _, (heap_set h1).1, stamped_modify hst _ _ (fun _ _ => rfl) (fun e' _ he' => hkey e' he'), isKey_modify hks _ _ hkey, fun i u => ?_⟩, setHeap_step hc _, setHeap_blk h1 _⟩
    have hmem : ∀ y, y ∈ (es.modify j (fun e' => { e' with key := .int .i64 k, val := v })).toList ↔ (y = { x with key := .int .i64 k, val := v } ∨ ∃ i', i' ≠ j ∧ es[i']? = some y) := by
      intro y
      rw [Array.mem_toList_iff, Array.mem_iff_getElem?]
      constructor
      · rintro ⟨i', hi'⟩
        rw [Array.getElem?_modify] at hi'
        by_cases hij : j = i'
        · subst hij
          simp [hj] at hi'
          exact .inl hi'.symm
        · rw [if_neg hij] at hi'
          exact .inr ⟨i', fun e => hij e.symm, hi'⟩
      · rintro (rfl | ⟨i', hne, hi'⟩)
        · exact ⟨j, by simp [Array.getElem?_modify, hj]⟩
        · exact ⟨i', by rw [Array.getElem?_modify, if_neg (fun e => hne e.symm)]; exact hi'⟩
    have huni : ∀ i' y, i' ≠ j → es[i']? = some y → y.key ≠ .int .i64 k := by
      intro i' y hne hi' hky
      refine hne (nodup_at (v := .int .i64 k) hst.2.2 (i := i') (j := j) ?_ ?_)
      · rw [List.getElem?_map, Array.getElem?_toList, hi', Option.map_some, hky]
      · rw [List.getElem?_map, Array.getElem?_toList, hj, Option.map_some, h5]
    by_cases hik : i = k
    · subst hik
      rw [upd_same]
      constructor
      · intro hh
        injection hh with hh
        exact ⟨_, (hmem _).2 (.inl rfl), rfl, hh⟩
      · rintro ⟨y, hy, e1, e2⟩
        rcases (hmem y).1 hy with rfl | ⟨i', hne, hi'⟩
        · rw [← e2]
        · exact absurd e1 (huni i' y hne hi')
    · rw [upd_other f v hik, hf i u]
      constructor
      · rintro ⟨y, hy, e1, e2⟩
        refine ⟨y, (hmem y).2 (.inr ?_), e1, e2⟩
        rw [Array.mem_toList_iff, Array.mem_iff_getElem?] at hy
        obtain ⟨i', hi'⟩ := hy
        refine ⟨i', ?_, hi'⟩
        rintro rfl
        rw [hj] at hi'
        injection hi' with hi'
        subst hi'
        rw [h5] at e1
        injection e1 with _ e1
        exact hik e1.symm
      · rintro ⟨y, hy, e1, e2⟩
        rcases (hmem y).1 hy with rfl | ⟨i', hne, hi'⟩
        · injection e1 with _ e1
          exact absurd e1.symm hik
        · exact ⟨y, by rw [Array.mem_toList_iff, Array.mem_iff_getElem?]; exact ⟨i', hi'⟩, e1, e2⟩
end
end
end Go.Proofs.YtianlhigeabehaaGreatDoor
