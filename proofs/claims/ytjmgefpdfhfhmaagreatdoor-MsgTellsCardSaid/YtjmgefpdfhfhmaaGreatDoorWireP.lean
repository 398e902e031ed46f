/- Plain laws of a writer and a reader: what was put is read as it was. -/
import Derived.Test.YtjmgefpdfhfhmaaGreatDoorWireL
namespace Go.Proofs.YtjmgefpdfhfhmaaGreatDoor
open Go.RowKit

theorem str_size (l : List UInt8) : (str l).size = l.length := by simp [str, ByteArray.size]
theorem str_list (l : List UInt8) : (str l).data.toList = l := by simp [str]
theorem str_ext {a b : ByteArray} (h : a.data.toList = b.data.toList) : a = b := by
  cases a; cases b
  congr 1
  exact Array.toList_inj.1 h
theorem str_of (b : ByteArray) : str b.data.toList = b := str_ext (by rw [str_list])
theorem extract_list (b : ByteArray) (i j : Nat) : (b.extract i j).data.toList = (b.data.toList.take j).drop i := by
  rw [ByteArray.data_extract, Array.toList_extract]
  rw [List.drop_take]
theorem lev_le (v k : Nat) : lev (le v k) = v % 256 ^ k := by
  induction k with
  | zero => simp [le, lev, Nat.mod_one]
  | succ k ih =>
    have h1 : (UInt8.ofNat (v / 256 ^ k)).toNat = v / 256 ^ k % 256 := by simp
    rw [le, lev_snoc, ih, le_len, h1, Nat.pow_succ, Nat.mod_mul, Nat.mul_comm (256 ^ k)]
theorem takeS_app (l m : List UInt8) {n : Int} (h : n = l.length) : (⟨str (l ++ m), 0⟩ : Rd).takeS n = str l := by
  subst h
  unfold Rd.takeS
  rw [if_pos ⟨rfl, by rw [str_size, List.length_append]; omega⟩]
  refine str_ext ?_
  rw [extract_list, str_list, str_list]
  simp
theorem takeR_app (l m : List UInt8) {n : Int} (h : n = l.length) : (⟨str (l ++ m), 0⟩ : Rd).takeR n = ⟨str m, 0⟩ := by
  subst h
  unfold Rd.takeR
  rw [if_neg (by simp), if_pos (by rw [str_size, List.length_append]; omega)]
  simp only [Rd.mk.injEq, and_true]
  refine str_ext ?_
  rw [extract_list, str_list, str_list, str_size, Int.toNat_natCast, List.take_of_length_le (Nat.le_refl _), List.drop_left]
theorem num_app {v : Nat} {n : Int} (h : numOk v n) (m : List UInt8) : (⟨str (le v n.toNat ++ m), 0⟩ : Rd).numV n = v ∧ (⟨str (le v n.toNat ++ m), 0⟩ : Rd).numR n = ⟨str m, 0⟩ := by
  obtain ⟨h1, h2, h3⟩ := h
  have e : n = (le v n.toNat).length := by rw [le_len]; omega
  refine ⟨?_, ?_⟩
  · unfold Rd.numV
    rw [if_pos ⟨h1, h2⟩, takeS_app _ _ e, str_list, lev_le, Nat.mod_eq_of_lt h3]
  · unfold Rd.numR
    rw [if_pos ⟨h1, h2⟩, takeR_app _ _ e]
theorem count_app {v : Nat} (h : v < 65536) (m : List UInt8) (most : Int) : (⟨str (le v 2 ++ m), 0⟩ : Rd).countV most = (if most < v then 0 else (v : Int)) ∧ (⟨str (le v 2 ++ m), 0⟩ : Rd).countR most = (if most < v then ⟨str m, 2⟩ else ⟨str m, 0⟩) := by
  obtain ⟨a, b⟩ := num_app (v := v) (n := 2) ⟨by omega, by omega, by simpa using h⟩ m
  simp only [show (2 : Int).toNat = 2 from rfl] at a b
  unfold Rd.countV Rd.countR
  rw [a, b]
  by_cases hc : most < (v : Int)
  · simp [hc]
  · simp [hc]
theorem end_nil : (⟨str [], 0⟩ : Rd).endV = 0 := by
  unfold Rd.endV
  rw [if_neg (by simp), if_pos (by intro x hx; simp [str] at hx)]
theorem text_app (s : ByteArray) (m : List UInt8) {room : Int} (h0 : (s.size : Int) ≤ room) (h1 : room ≤ 60000) : (⟨str (le s.size 2 ++ (s.data.toList ++ m)), 0⟩ : Rd).textV room = s ∧ (⟨str (le s.size 2 ++ (s.data.toList ++ m)), 0⟩ : Rd).textR room = ⟨str m, 0⟩ := by
  obtain ⟨a, b⟩ := count_app (v := s.size) (by omega) (s.data.toList ++ m) room
  rw [if_neg (by omega)] at a b
  have e : (s.size : Int) = (s.data.toList.length : Nat) := rfl
  unfold Rd.textV Rd.textR
  rw [if_neg (by omega), if_neg (by omega), a, b, e, takeS_app _ _ rfl, takeR_app _ _ rfl, str_of]
  exact ⟨rfl, rfl⟩
theorem flag_app (b : Bool) (m : List UInt8) : (⟨str (le (if b then 1 else 0) 1 ++ m), 0⟩ : Rd).flagV = b ∧ (⟨str (le (if b then 1 else 0) 1 ++ m), 0⟩ : Rd).flagR = ⟨str m, 0⟩ := by
  obtain ⟨x, y⟩ := num_app (v := if b then 1 else 0) (n := 1) ⟨by omega, by omega, by cases b <;> decide⟩ m
  simp only [show (1 : Int).toNat = 1 from rfl] at x y
  unfold Rd.flagV Rd.flagR
  rw [x, y]
  cases b <;> exact ⟨rfl, rfl⟩
theorem zeros_rep (k : Nat) : zeros (str (List.replicate k 0)) := by
  unfold zeros
  rw [str_list]
  intro x hx
  exact (List.mem_replicate.1 hx).2
theorem end_rep (k : Nat) : (⟨str (List.replicate k 0), 0⟩ : Rd).endV = 0 := by
  unfold Rd.endV
  rw [if_neg (by simp), if_pos (zeros_rep k)]
theorem wrap_u64 (i : Int) (h : i64' i) : wrap64 (u64 i) = i := by
  obtain ⟨h1, h2⟩ := h
  unfold wrap64 u64
  omega
/-- what WireBack puts -/
def back (v : Nat) (n i : Int) (s : ByteArray) (f : Bool) : List UInt8 := le v n.toNat ++ (le (u64 i) 8 ++ (le s.size 2 ++ (s.data.toList ++ le (if f then 1 else 0) 1)))
theorem back_len (v : Nat) (n i : Int) (s : ByteArray) (f : Bool) : (back v n i s f).length = n.toNat + 11 + s.size := by
  unfold back
  simp only [List.length_append, le_len]
  have : s.data.toList.length = s.size := rfl
  omega
theorem back_put {v : Nat} {n : Int} (h : numOk v n) (i : Int) {s : ByteArray} (hs : s.size ≤ 1000) (f : Bool) :
    (((Wr.num ⟨[], 0⟩ v n).num (u64 i) 8).text s 1000).flag f = ⟨back v n i s f, 0⟩ := by
  rw [Wr.num_ok rfl h, Wr.num_ok rfl ⟨by omega, by omega, u64_lt i⟩]
  unfold Wr.text
  rw [if_neg (by simp), if_neg (by omega), if_neg (by omega)]
  unfold Wr.flag
  rw [Wr.num_ok rfl ⟨by omega, by omega, by cases f <;> decide⟩]
  simp [back]
end Go.Proofs.YtjmgefpdfhfhmaaGreatDoor
