/- The law's first call, whose answer the document fixes: alive() returns true. What all laws of chapter 1 share. -/
import Derived.Test.YtllbionkmgpcaaaGreatDoorKWireK
namespace Go.Proofs.YtllbionkmgpcaaaGreatDoor
open Go.RowKit

/-- what lay before the law stays; its colour is 0 -/
structure Env (o : Nat → Nat) (w0 w : World) : Prop where
  low : Below w0.heap.size w0 w
  old : ∀ k, k < w0.heap.size → o k = 0
section
variable {o o' : Nat → Nat} {C : Nat → Prop} {w0 w w' : World}
theorem Env.start (w : World) : Env (fun _ => 0) w w := ⟨Below.refl _ _, fun _ _ => rfl⟩
theorem Env.step (h : Env o w0 w) (hs : Step o C w o' w') (h0 : ¬ C 0) : Env o' w0 w' :=
  ⟨h.low.trans (hs.below (fun k hk => by rw [h.old k hk]; exact h0) h.low.size), fun k hk => (hs.old k (Nat.lt_of_lt_of_le hk h.low.size)).trans (h.old k hk)⟩
theorem Env.below_ (h : Env o w0 w) (hb : Below w.heap.size w w') : Env o w0 w' := h.step (Step.of_below o (fun _ => False) hb) (by simp)
theorem Env.drewN (h : Env o w0 w) (n : Nat) : Env o w0 (w.drewN n) := ⟨⟨h.low.os, h.low.tape, h.low.output, h.low.size, h.low.block⟩, h.old⟩
theorem Env.alloc (h : Env o w0 w) (x : Obj) : Env o w0 (w.alloc x) := h.below_ ((Below.refl _ _).alloc (Nat.le_refl _) x)
end
/-- a writer that was made now -/
theorem wr_new (T : TypeId) (o : Nat → Nat) (c : Nat) (w : World) : ∃ o', WrAt T o' c (w.alloc (.cells #[.slice none 0 0, .int .i64 0] T)) w.heap.size ⟨[], 0⟩ ∧ ∀ C, Step o C w o' (w.alloc (.cells #[.slice none 0 0, .int .i64 0] T)) := by
  refine ⟨band o w.heap.size (w.alloc (.cells #[.slice none 0 0, .int .i64 0] T)).heap.size c, ⟨_, Blk.new _ _ _, band_in (Nat.le_refl _) (by simp), OwnS.nil _ _ _ _ _⟩, fun C => ?_⟩
  exact Step.of_below_band o C c ((Below.refl _ _).alloc (Nat.le_refl _) _)

namespace Al
def A : ByteArray := ⟨#[97]⟩
theorem w1 : ((Wr.num ⟨[], 0⟩ 258 2).text A 9).flag true = ⟨[2, 1, 1, 0, 97, 1], 0⟩ := by kernel_rfl
def B : ByteArray := ⟨#[2, 1, 5]⟩
theorem r1 : Rd.numV ⟨B, 0⟩ 2 = 258 := by kernel_rfl
theorem r2 : (Rd.numR ⟨B, 0⟩ 2).endV = 4 := by kernel_rfl
theorem d7 : str (digits (-7)) = ⟨#[45, 55]⟩ := by kernel_rfl
theorem s1 : (str [2, 1, 1, 0, 97, 1]).toList = [2, 1, 1, 0, 97, 1] := by decide +kernel
theorem s2 : ((str (digits (-7))).toList == [45, 55]) = true := by decide +kernel
theorem l1 : (Wr.num ⟨[], 0⟩ 258 2).bs.length ≤ 1000000000 := by decide +kernel
theorem l2 : ((Wr.num ⟨[], 0⟩ 258 2).text A 9).bs.length ≤ 1000000000 := by decide +kernel
end Al

end Go.Proofs.YtllbionkmgpcaaaGreatDoor

/- Plain laws of a writer and a reader: what was put is read as it was. -/
namespace Go.Proofs.YtllbionkmgpcaaaGreatDoor
open Go.RowKit

theorem str_size (l : List UInt8) : (str l).size = l.length := by simp [str, ByteArray.size]
theorem str_list (l : List UInt8) : (str l).data.toList = l := by simp [str]
theorem str_ext {a b : ByteArray} (h : a.data.toList = b.data.toList) : a = b := by
  cases a; cases b
  congr 1
  exact Array.toList_inj.1 h
theorem str_of (b : ByteArray) : str b.data.toList = b := str_ext (by rw [str_list])
theorem extract_list (b : ByteArray) (i j : Nat) : (b.extract i j).data.toList = (b.data.toList.take j).drop i := by
  rw [ByteArray.data_extract, Array.toList_extract]
  rw [List.drop_take]
theorem lev_le (v k : Nat) : lev (le v k) = v % 256 ^ k := by
  induction k with
  | zero => simp [le, lev, Nat.mod_one]
  | succ k ih =>
    have h1 : (UInt8.ofNat (v / 256 ^ k)).toNat = v / 256 ^ k % 256 := by simp
    rw [le, lev_snoc, ih, le_len, h1, Nat.pow_succ, Nat.mod_mul, Nat.mul_comm (256 ^ k)]
theorem takeS_app (l m : List UInt8) {n : Int} (h : n = l.length) : (⟨str (l ++ m), 0⟩ : Rd).takeS n = str l := by
  subst h
  unfold Rd.takeS
  rw [if_pos ⟨rfl, by rw [str_size, List.length_append]; omega⟩]
  refine str_ext ?_
  rw [extract_list, str_list, str_list]
  simp
theorem takeR_app (l m : List UInt8) {n : Int} (h : n = l.length) : (⟨str (l ++ m), 0⟩ : Rd).takeR n = ⟨str m, 0⟩ := by
  subst h
  unfold Rd.takeR
  rw [if_neg (by simp), if_pos (by rw [str_size, List.length_append]; omega)]
  simp only [Rd.mk.injEq, and_true]
  refine str_ext ?_
  rw [extract_list, str_list, str_list, str_size, Int.toNat_natCast, List.take_of_length_le (Nat.le_refl _), List.drop_left]
theorem num_app {v : Nat} {n : Int} (h : numOk v n) (m : List UInt8) : (⟨str (le v n.toNat ++ m), 0⟩ : Rd).numV n = v ∧ (⟨str (le v n.toNat ++ m), 0⟩ : Rd).numR n = ⟨str m, 0⟩ := by
  obtain ⟨h1, h2, h3⟩ := h
  have e : n = (le v n.toNat).length := by rw [le_len]; omega
  refine ⟨?_, ?_⟩
  · unfold Rd.numV
    rw [if_pos ⟨h1, h2⟩, takeS_app _ _ e, str_list, lev_le, Nat.mod_eq_of_lt h3]
  · unfold Rd.numR
    rw [if_pos ⟨h1, h2⟩, takeR_app _ _ e]
theorem count_app {v : Nat} (h : v < 65536) (m : List UInt8) (most : Int) : (⟨str (le v 2 ++ m), 0⟩ : Rd).countV most = (if most < v then 0 else (v : Int)) ∧ (⟨str (le v 2 ++ m), 0⟩ : Rd).countR most = (if most < v then ⟨str m, 2⟩ else ⟨str m, 0⟩) := by
  obtain ⟨a, b⟩ := num_app (v := v) (n := 2) ⟨by omega, by omega, by simpa using h⟩ m
  simp only [show (2 : Int).toNat = 2 from rfl] at a b
  unfold Rd.countV Rd.countR
  rw [a, b]
  by_cases hc : most < (v : Int)
  · simp [hc]
  · simp [hc]
theorem end_nil : (⟨str [], 0⟩ : Rd).endV = 0 := by
  unfold Rd.endV
  rw [if_neg (by simp), if_pos (by intro x hx; simp [str] at hx)]
theorem text_app (s : ByteArray) (m : List UInt8) {room : Int} (h0 : (s.size : Int) ≤ room) (h1 : room ≤ 60000) : (⟨str (le s.size 2 ++ (s.data.toList ++ m)), 0⟩ : Rd).textV room = s ∧ (⟨str (le s.size 2 ++ (s.data.toList ++ m)), 0⟩ : Rd).textR room = ⟨str m, 0⟩ := by
  obtain ⟨a, b⟩ := count_app (v := s.size) (by omega) (s.data.toList ++ m) room
  rw [if_neg (by omega)] at a b
  have e : (s.size : Int) = (s.data.toList.length : Nat) := rfl
  unfold Rd.textV Rd.textR
  rw [if_neg (by omega), if_neg (by omega), a, b, e, takeS_app _ _ rfl, takeR_app _ _ rfl, str_of]
  exact ⟨rfl, rfl⟩
theorem flag_app (b : Bool) (m : List UInt8) : (⟨str (le (if b then 1 else 0) 1 ++ m), 0⟩ : Rd).flagV = b ∧ (⟨str (le (if b then 1 else 0) 1 ++ m), 0⟩ : Rd).flagR = ⟨str m, 0⟩ := by
  obtain ⟨x, y⟩ := num_app (v := if b then 1 else 0) (n := 1) ⟨by omega, by omega, by cases b <;> decide⟩ m
  simp only [show (1 : Int).toNat = 1 from rfl] at x y
  unfold Rd.flagV Rd.flagR
  rw [x, y]
  cases b <;> exact ⟨rfl, rfl⟩
theorem zeros_rep (k : Nat) : zeros (str (List.replicate k 0)) := by
  unfold zeros
  rw [str_list]
  intro x hx
  exact (List.mem_replicate.1 hx).2
theorem end_rep (k : Nat) : (⟨str (List.replicate k 0), 0⟩ : Rd).endV = 0 := by
  unfold Rd.endV
  rw [if_neg (by simp), if_pos (zeros_rep k)]
theorem wrap_u64 (i : Int) (h : i64' i) : wrap64 (u64 i) = i := by
  obtain ⟨h1, h2⟩ := h
  unfold wrap64 u64
  omega
/-- what WireBack puts -/
def back (v : Nat) (n i : Int) (s : ByteArray) (f : Bool) : List UInt8 := le v n.toNat ++ (le (u64 i) 8 ++ (le s.size 2 ++ (s.data.toList ++ le (if f then 1 else 0) 1)))
theorem back_len (v : Nat) (n i : Int) (s : ByteArray) (f : Bool) : (back v n i s f).length = n.toNat + 11 + s.size := by
  unfold back
  simp only [List.length_append, le_len]
  have : s.data.toList.length = s.size := rfl
  omega
theorem back_put {v : Nat} {n : Int} (h : numOk v n) (i : Int) {s : ByteArray} (hs : s.size ≤ 1000) (f : Bool) :
    (((Wr.num ⟨[], 0⟩ v n).num (u64 i) 8).text s 1000).flag f = ⟨back v n i s f, 0⟩ := by
  rw [Wr.num_ok rfl h, Wr.num_ok rfl ⟨by omega, by omega, u64_lt i⟩]
  unfold Wr.text
  rw [if_neg (by simp), if_neg (by omega), if_neg (by omega)]
  unfold Wr.flag
  rw [Wr.num_ok rfl ⟨by omega, by omega, by cases f <;> decide⟩]
  simp [back]
end Go.Proofs.YtllbionkmgpcaaaGreatDoor

/- The check sum of bytes, plain: its steps, that it tells bytes apart that differ at one place. -/
namespace Go.Proofs.YtllbionkmgpcaaaGreatDoor
open Go.RowKit

def crcBit (x : Nat) : Nat := if x % 2 = 1 then (x / 2) ^^^ 3988292384 else x / 2
def crcBits (x : Nat) : Nat → Nat
  | 0 => x
  | k + 1 => crcBit (crcBits x k)
def crcByte (x : Nat) (b : UInt8) : Nat := crcBits (x ^^^ b.toNat) 8
def crc (x : Nat) : List UInt8 → Nat
  | [] => x
  | b :: r => crc (crcByte x b) r
def sumOf (l : List UInt8) : Nat := 4294967295 - crc 4294967295 l
theorem crc_snoc (x : Nat) (l : List UInt8) (b : UInt8) : crc x (l ++ [b]) = crcByte (crc x l) b := by
  induction l generalizing x with
  | nil => rfl
  | cons c r ih => exact ih _
theorem crc_app (x : Nat) (l m : List UInt8) : crc x (l ++ m) = crc (crc x l) m := by
  induction l generalizing x with
  | nil => rfl
  | cons c r ih => exact ih _
theorem crcBit_lt {x : Nat} (h : x < 4294967296) : crcBit x < 4294967296 := by
  unfold crcBit
  split
  · exact Nat.xor_lt_two_pow (n := 32) (by omega) (by decide)
  · omega
theorem crcBits_lt {x : Nat} (h : x < 4294967296) (k : Nat) : crcBits x k < 4294967296 := by
  induction k with
  | zero => exact h
  | succ k ih => exact crcBit_lt ih
theorem xb_lt {x : Nat} (h : x < 4294967296) (b : UInt8) : x ^^^ b.toNat < 4294967296 := Nat.xor_lt_two_pow (n := 32) h (by have := b.toNat_lt; omega)
theorem crcByte_lt {x : Nat} (h : x < 4294967296) (b : UInt8) : crcByte x b < 4294967296 := crcBits_lt (xb_lt h b) 8
theorem crc_lt {x : Nat} (h : x < 4294967296) (l : List UInt8) : crc x l < 4294967296 := by
  induction l generalizing x with
  | nil => exact h
  | cons b r ih => exact ih (crcByte_lt h b)
theorem sumOf_lt (l : List UInt8) : sumOf l < 4294967296 := by unfold sumOf; omega
theorem xor_can {a b p : Nat} (h : a ^^^ p = b ^^^ p) : a = b := by
  have h2 := congrArg (· ^^^ p) h
  simpa [Nat.xor_assoc] using h2
theorem top_off {x y : Nat} (hx : x < 2147483648) (hy : y < 2147483648) : x ^^^ 3988292384 ≠ y := by
  intro e
  have h := congrArg (Nat.testBit · 31) e
  simp only [Nat.testBit_xor, Nat.testBit_lt_two_pow (x := x) (i := 31) (by simpa using hx), Nat.testBit_lt_two_pow (x := y) (i := 31) (by simpa using hy)] at h
  revert h
  decide
theorem crcBit_inj {x y : Nat} (hx : x < 4294967296) (hy : y < 4294967296) (h : crcBit x = crcBit y) : x = y := by
  unfold crcBit at h
  split at h <;> split at h
  · have := xor_can h; omega
  · exact absurd h (top_off (by omega) (by omega))
  · exact absurd h.symm (top_off (by omega) (by omega))
  · omega
theorem crcBits_inj {x y : Nat} (hx : x < 4294967296) (hy : y < 4294967296) (k : Nat) (h : crcBits x k = crcBits y k) : x = y := by
  induction k with
  | zero => exact h
  | succ k ih => exact ih (crcBit_inj (crcBits_lt hx k) (crcBits_lt hy k) h)
theorem crcByte_inj {x y : Nat} (hx : x < 4294967296) (hy : y < 4294967296) {b : UInt8} (h : crcByte x b = crcByte y b) : x = y :=
  xor_can (crcBits_inj (xb_lt hx b) (xb_lt hy b) 8 h)
theorem crcByte_byte {x : Nat} (hx : x < 4294967296) {b c : UInt8} (h : crcByte x b = crcByte x c) : b = c := by
  have h2 := crcBits_inj (xb_lt hx b) (xb_lt hx c) 8 h
  rw [Nat.xor_comm, Nat.xor_comm x] at h2
  exact UInt8.toNat_inj.1 (xor_can h2)
theorem crc_inj {x y : Nat} (hx : x < 4294967296) (hy : y < 4294967296) (l : List UInt8) (h : crc x l = crc y l) : x = y := by
  induction l generalizing x y with
  | nil => exact h
  | cons b r ih => exact crcByte_inj hx hy (ih (crcByte_lt hx b) (crcByte_lt hy b) h)
/-- one byte changed changes the sum -/
theorem sumOf_set {l : List UInt8} {k : Nat} (hk : k < l.length) {b : UInt8} (h : sumOf (l.set k b) = sumOf l) : b = l[k] := by
  have e1 : l.set k b = l.take k ++ (b :: l.drop (k + 1)) := by rw [List.set_eq_take_append_cons_drop, if_pos hk]
  have e2 : l = l.take k ++ (l[k] :: l.drop (k + 1)) := by rw [← List.drop_eq_getElem_cons hk, List.take_append_drop]
  have l1 := crc_lt (x := 4294967295) (by decide) (l.set k b)
  have l2 := crc_lt (x := 4294967295) (by decide) l
  have h1 : crc 4294967295 (l.set k b) = crc 4294967295 l := by unfold sumOf at h; omega
  have e3 : crc 4294967295 l = crc 4294967295 (l.take k ++ (l[k] :: l.drop (k + 1))) := congrArg _ e2
  rw [e1, e3, crc_app, crc_app] at h1
  have h0 := crc_lt (x := 4294967295) (by decide) (l.take k)
  exact crcByte_byte h0 (crc_inj (crcByte_lt h0 _) (crcByte_lt h0 _) _ h1)
theorem le_inj {v u k : Nat} (hv : v < 256 ^ k) (hu : u < 256 ^ k) (h : le v k = le u k) : v = u := by
  have := congrArg lev h
  rwa [lev_le, lev_le, Nat.mod_eq_of_lt hv, Nat.mod_eq_of_lt hu] at this
def four (v : Nat) : List UInt8 := le v 4
theorem four_inj {l m : List UInt8} (h : four (sumOf l) = four (sumOf m)) : sumOf l = sumOf m :=
  le_inj (by simpa using sumOf_lt l) (by simpa using sumOf_lt m) h
/-- a text with its sum ahead -/
def sealL (l : List UInt8) : List UInt8 := four (sumOf l) ++ l
/-- what a sealed text has: 0, or the error -/
def openE (b : List UInt8) : Int := if b.length < 4 then 5 else if four (sumOf (b.drop 4)) = b.take 4 then 0 else 6
theorem seal_len (l : List UInt8) : (sealL l).length = 4 + l.length := by simp [sealL, four, le_len]
theorem seal_drop (l : List UInt8) : (sealL l).drop 4 = l := by
  unfold sealL
  rw [List.drop_append_of_le_length (by simp [four, le_len]), List.drop_of_length_le (by simp [four, le_len]), List.nil_append]
theorem seal_take (l : List UInt8) : (sealL l).take 4 = four (sumOf l) := by
  unfold sealL
  rw [List.take_append_of_le_length (by simp [four, le_len]), List.take_of_length_le (by simp [four, le_len])]
theorem open_seal (l : List UInt8) : openE (sealL l) = 0 := by
  unfold openE
  rw [if_neg (by rw [seal_len]; omega), seal_drop, seal_take, if_pos rfl]
theorem open_set (l : List UInt8) {k : Nat} (hk : k < (sealL l).length) {b : UInt8} (hb : b ≠ (sealL l)[k]) : openE ((sealL l).set k b) = 6 := by
  unfold openE
  rw [if_neg (by rw [List.length_set, seal_len]; omega), if_neg]
  intro e
  by_cases h4 : k < 4
  · rw [List.drop_set_of_lt h4, seal_drop, List.take_set, seal_take] at e
    have h5 : k < (four (sumOf l)).length := by simpa [four, le_len] using h4
    have h6 : (four (sumOf l))[k]'h5 = ((four (sumOf l)).set k b)[k]'(by simpa using h5) := by simp only [← e]
    rw [List.getElem_set_self] at h6
    apply hb
    rw [← h6]
    simp only [sealL]
    rw [List.getElem_append_left h5]
  · rw [List.take_set_of_le (by omega), seal_take, List.drop_set, if_neg h4, seal_drop] at e
    have h5 : k - 4 < l.length := by rw [seal_len] at hk; omega
    have h6 := sumOf_set h5 (four_inj e)
    apply hb
    rw [h6]
    have h7 : (sealL l)[k]? = l[k - 4]? := by
      have := congrArg (fun x : List UInt8 => x[k - 4]?) (seal_drop l)
      simp only [List.getElem?_drop] at this
      rwa [show 4 + (k - 4) = k by omega] at this
    rw [List.getElem?_eq_getElem hk, List.getElem?_eq_getElem h5] at h7
    injection h7 with h7
    exact h7.symm
end Go.Proofs.YtllbionkmgpcaaaGreatDoor

/- Sectors with their sum behind (Stamp, Read), blocks of two sectors, plain. -/
namespace Go.Proofs.YtllbionkmgpcaaaGreatDoor
open Go.RowKit

def zer (n : Nat) : List UInt8 := List.replicate n 0
theorem zer_len (n : Nat) : (zer n).length = n := List.length_replicate
theorem four_len (v : Nat) : (four v).length = 4 := le_len _ _
def padL (l : List UInt8) (n : Nat) : List UInt8 := l ++ zer (n - 4 - l.length)
def stampL (l : List UInt8) (n : Nat) : List UInt8 := padL l n ++ four (sumOf (padL l n))
theorem pad_len {l : List UInt8} {n : Nat} (h : l.length ≤ n - 4) : (padL l n).length = n - 4 := by
  unfold padL
  rw [List.length_append, zer_len]
  omega
theorem stamp_len {l : List UInt8} {n : Nat} (h : l.length ≤ n - 4) (h4 : 4 ≤ n) : (stampL l n).length = n := by
  unfold stampL
  rw [List.length_append, pad_len h, four_len]
  omega
/-- what a stamped text has: 0, or the error -/
def readE (b : List UInt8) : Int := if b.length < 4 then 5 else if b.drop (b.length - 4) = four (sumOf (b.take (b.length - 4))) then 0 else 6
def readL (b : List UInt8) : List UInt8 := if readE b = 0 then b.take (b.length - 4) else []
theorem read_stamp {l : List UInt8} {n : Nat} (h : l.length ≤ n - 4) (h4 : 4 ≤ n) : readE (stampL l n) = 0 ∧ readL (stampL l n) = padL l n := by
  have hl := stamp_len h h4
  have hp := pad_len h
  have e1 : (stampL l n).drop (n - 4) = four (sumOf (padL l n)) := by
    unfold stampL
    rw [List.drop_append_of_le_length (by omega), List.drop_of_length_le (by omega), List.nil_append]
  have e2 : (stampL l n).take (n - 4) = padL l n := by
    unfold stampL
    rw [List.take_append_of_le_length (by omega), List.take_of_length_le (by omega)]
  have e3 : readE (stampL l n) = 0 := by
    unfold readE
    rw [if_neg (by omega), hl, e1, e2, if_pos rfl]
  refine ⟨e3, ?_⟩
  unfold readL
  rw [if_pos e3, hl, e2]
theorem readE_cases (b : List UInt8) : readE b = 0 ∨ readE b = 5 ∨ readE b = 6 := by
  unfold readE
  split
  · exact .inr (.inl rfl)
  · split
    · exact .inl rfl
    · exact .inr (.inr rfl)
theorem readL_len {b : List UInt8} (h : readE b = 0) : (readL b).length = b.length - 4 := by
  unfold readL
  rw [if_pos h, List.length_take]
  omega

/-- an image of a block -/
structure Im where
  block : Int
  ver : Nat
  data : ByteArray
deriving DecidableEq
def Im.zero : Im := ⟨0, 0, ⟨#[]⟩⟩
def Im.cells (i : Im) : List Value := [.int .i64 i.block, .int .u64 i.ver, .string i.data]
def Im.agg (i : Im) : Value := .agg #[.int .i64 i.block, .int .u64 i.ver, .string i.data]
def Im.right (i : Im) : Prop := 0 ≤ i.block ∧ i.block < 4096 ∧ i.data.size = 96
instance (i : Im) : Decidable i.right := by unfold Im.right; infer_instance
/-- one sector of a block -/
def secT (i : Im) (k : Nat) : List UInt8 := (i.data.extract (k * 48) ((k + 1) * 48)).data.toList ++ (le i.block.toNat 4 ++ le i.ver 8)
def secL (i : Im) (k : Nat) : List UInt8 := stampL (secT i k) 64
def blkL (i : Im) : List UInt8 := secL i 0 ++ secL i 1
theorem secT_len {i : Im} (h : i.right) {k : Nat} (hk : k ≤ 1) : (secT i k).length = 60 := by
  unfold secT
  rw [List.length_append, List.length_append, le_len, le_len]
  have : ((i.data.extract (k * 48) ((k + 1) * 48)).data.toList).length = (i.data.extract (k * 48) ((k + 1) * 48)).size := rfl
  rw [this, ByteArray.size_extract]
  have := h.2.2
  omega
theorem secL_len {i : Im} (h : i.right) {k : Nat} (hk : k ≤ 1) : (secL i k).length = 64 := stamp_len (by rw [secT_len h hk]; omega) (by omega)
theorem blkL_len {i : Im} (h : i.right) : (blkL i).length = 128 := by
  unfold blkL
  rw [List.length_append, secL_len h (by omega), secL_len h (by omega)]
/-- what one sector of a block tells, where its sum is right -/
def secI (t : List UInt8) : Im := ⟨((⟨str (t.drop 48), 0⟩ : Rd).numV 4 : Nat), ((⟨str (t.drop 48), 0⟩ : Rd).numR 4).numV 8, str (t.take 48)⟩
theorem secI_T {i : Im} (h : i.right) (hv : i.ver < 18446744073709551616) {k : Nat} (hk : k ≤ 1) : secI (secT i k) = ⟨i.block, i.ver, i.data.extract (k * 48) ((k + 1) * 48)⟩ := by
  have hx : ((i.data.extract (k * 48) ((k + 1) * 48)).data.toList).length = 48 := by
    show (i.data.extract (k * 48) ((k + 1) * 48)).size = 48
    rw [ByteArray.size_extract]
    have := h.2.2
    omega
  have e1 : (secT i k).drop 48 = le i.block.toNat (4 : Int).toNat ++ (le i.ver (8 : Int).toNat ++ []) := by
    unfold secT
    rw [List.drop_append_of_le_length (by omega), List.drop_of_length_le (by omega), List.nil_append, List.append_nil]
    rfl
  have e3 : (secT i k).take 48 = (i.data.extract (k * 48) ((k + 1) * 48)).data.toList := by
    unfold secT
    rw [List.take_append_of_le_length (by omega), List.take_of_length_le (by omega)]
  have n1 := num_app (v := i.block.toNat) (n := 4) ⟨by omega, by omega, by have := h.2.1; have := h.1; simp; omega⟩ (le i.ver (8 : Int).toNat ++ [])
  have n2 := num_app (v := i.ver) (n := 8) ⟨by omega, by omega, by simpa using hv⟩ []
  unfold secI
  rw [e1, e3, n1.1, n1.2, n2.1, str_of]
  congr 1
  have := h.1
  omega
/-- what one sector of a block tells -/
def secG (b : ByteArray) (k : Nat) : Im × Int := if readE (b.extract (k * 64) ((k + 1) * 64)).data.toList = 0 then (secI (readL (b.extract (k * 64) ((k + 1) * 64)).data.toList), 0) else (Im.zero, readE (b.extract (k * 64) ((k + 1) * 64)).data.toList)
/-- what a block's bytes tell -/
def getB (block : Int) (b : ByteArray) : Im × Int :=
  if b.size ≠ 128 then (Im.zero, 5) else if b = str (zer 128) then (⟨block, 0, str (zer 96)⟩, 0)
  else if (secG b 0).2 ≠ 0 then (Im.zero, (secG b 0).2) else if (secG b 1).2 ≠ 0 then (Im.zero, (secG b 1).2)
  else if (secG b 0).1.block ≠ block ∨ (secG b 1).1.block ≠ block ∨ 4096 ≤ block then (Im.zero, 4)
  else if (secG b 0).1.ver ≠ (secG b 1).1.ver then (Im.zero, 6)
  else (⟨block, (secG b 0).1.ver, (secG b 0).1.data ++ (secG b 1).1.data⟩, 0)
theorem zer_app (m n : Nat) : zer m ++ zer n = zer (m + n) := List.replicate_append_replicate
theorem extract_str (l : List UInt8) (i j : Nat) : (str l).extract i j = str ((l.take j).drop i) := by
  refine str_ext ?_
  rw [extract_list, str_list, str_list]
/-- the sum of 60 bytes 0 is not 0 -/
theorem sum_zero_ne (n : Nat) (hn : n = 60 ∨ n = 92 ∨ n = 124) : four (sumOf (zer 60)) ≠ zer 4 := by
  decide +kernel
theorem blkL_ne_zero {i : Im} (h : i.right) : str (blkL i) ≠ str (zer 128) := by
  intro e
  have e1 := congrArg (fun b : ByteArray => b.data.toList) e
  simp only [str_list] at e1
  have e2 : secL i 0 = zer 64 := by
    have := congrArg (List.take 64) e1
    unfold blkL at this
    rw [List.take_append_of_le_length (by rw [secL_len h (by omega)]; omega), List.take_of_length_le (by rw [secL_len h (by omega)]; omega)] at this
    rw [this]
    decide +kernel
  have e3 : padL (secT i 0) 64 = zer 60 ∧ four (sumOf (padL (secT i 0) 64)) = zer 4 := by
    have hp : (padL (secT i 0) 64).length = 60 := pad_len (by rw [secT_len h (by omega)]; omega)
    unfold secL stampL at e2
    constructor
    · have := congrArg (List.take 60) e2
      rw [List.take_append_of_le_length (by omega), List.take_of_length_le (by omega)] at this
      rw [this]
      decide +kernel
    · have := congrArg (List.drop 60) e2
      rw [List.drop_append_of_le_length (by omega), List.drop_of_length_le (by omega), List.nil_append] at this
      rw [this]
      decide +kernel
  rw [e3.1] at e3
  exact sum_zero_ne 60 (.inl rfl) e3.2
theorem secG_blk {i : Im} (h : i.right) (hv : i.ver < 18446744073709551616) {k : Nat} (hk : k ≤ 1) : secG (str (blkL i)) k = (⟨i.block, i.ver, i.data.extract (k * 48) ((k + 1) * 48)⟩, 0) := by
  have hl0 := secL_len h (k := 0) (by omega)
  have hl1 := secL_len h (k := 1) (by omega)
  have e1 : ((str (blkL i)).extract (k * 64) ((k + 1) * 64)).data.toList = secL i k := by
    rw [extract_str, str_list]
    unfold blkL
    rcases (show k = 0 ∨ k = 1 by omega) with rfl | rfl
    · rw [Nat.zero_mul, List.drop_zero, List.take_append_of_le_length (by omega), List.take_of_length_le (by omega)]
    · rw [List.take_of_length_le (by rw [List.length_append]; omega), List.drop_append_of_le_length (by omega), List.drop_of_length_le (by omega), List.nil_append]
  have hp : padL (secT i k) 64 = secT i k := by
    unfold padL
    rw [secT_len h hk]
    exact List.append_nil _
  have hr := read_stamp (l := secT i k) (n := 64) (by rw [secT_len h hk]; omega) (by omega)
  unfold secG
  rw [e1]
  unfold secL
  rw [if_pos hr.1, hr.2, hp, secI_T h hv hk]
theorem data_halves {b : ByteArray} (h : b.size = 96) : b.extract 0 48 ++ b.extract 48 96 = b := by
  refine str_ext ?_
  have e : (b.extract 0 48 ++ b.extract 48 96).data.toList = (b.extract 0 48).data.toList ++ (b.extract 48 96).data.toList := by
    rw [ByteArray.data_append, Array.toList_append]
  have hl : b.data.toList.take 96 = b.data.toList := List.take_of_length_le (show b.data.toList.length ≤ 96 by show b.size ≤ 96; omega)
  rw [e, extract_list, extract_list, List.drop_zero, hl, List.take_append_drop]
/-- an image is read as it was put -/
theorem getB_put {i : Im} (h : i.right) (hv : i.ver < 18446744073709551616) : getB i.block (str (blkL i)) = (i, 0) := by
  have g0 := secG_blk h hv (k := 0) (by omega)
  have g1 := secG_blk h hv (k := 1) (by omega)
  unfold getB
  rw [if_neg (by rw [str_size, blkL_len h]; simp), if_neg (blkL_ne_zero h), if_neg (by rw [g0]; simp), if_neg (by rw [g1]; simp), if_neg (by rw [g0, g1]; have := h.2.1; simp; omega), if_neg (by rw [g0, g1]; simp), g0, g1]
  have := data_halves h.2.2
  simp only [Nat.zero_mul, Nat.zero_add, Nat.one_mul] at *
  rw [this]
end Go.Proofs.YtllbionkmgpcaaaGreatDoor
