/- Plain laws of a writer: how long it may be behind each call; what each call puts. -/
import Derived.Test.YtoploimpfhnanaaDoorLawFirst
namespace Go.Proofs.YtoploimpfhnanaaDoor
open Go.RowKit

theorem Wr.num_len (W : Wr) (v : Nat) (n : Int) : (W.num v n).bs.length ≤ W.bs.length + 8 := by
  unfold Wr.num
  split
  · omega
  · split
    · rename_i h
      have := h.2.1
      rw [List.length_append, le_len]
      omega
    · simp
theorem Wr.text_len (W : Wr) (s : ByteArray) (room : Int) : (W.text s room).bs.length ≤ W.bs.length + 2 + s.size := by
  unfold Wr.text
  have : s.data.toList.length = s.size := rfl
  split
  · omega
  · split
    · simp; omega
    · split
      · simp; omega
      · simp only [List.length_append, le_len]
        omega
theorem Wr.flag_len (W : Wr) (b : Bool) : (W.flag b).bs.length ≤ W.bs.length + 8 := W.num_len _ _
theorem Wr.pad_len (W : Wr) (n : Int) : (W.pad n).bs.length ≤ W.bs.length + 60000 := by
  unfold Wr.pad
  split
  · omega
  · split
    · simp
    · split
      · simp
      · rw [List.length_append, List.length_replicate]
        omega
theorem Wr.pad_long {W : Wr} (h : W.e = 0) {n : Int} (h1 : n ≤ 60000) (h2 : n < W.bs.length) : W.pad n = { W with e := 2 } := by unfold Wr.pad; rw [if_neg (by simpa using h), if_neg (by omega), if_pos h2]
theorem Wr.pad_ok {W : Wr} (h : W.e = 0) {n : Int} (h1 : n ≤ 60000) (h2 : ¬ n < W.bs.length) : W.pad n = { W with bs := W.bs ++ List.replicate (n.toNat - W.bs.length) 0 } := by unfold Wr.pad; rw [if_neg (by simpa using h), if_neg (by omega), if_neg h2]
theorem Wr.num_no {W : Wr} (h : W.e = 0) {v : Nat} {n : Int} (h1 : ¬ numOk v n) : W.num v n = { W with e := 1 } := by unfold Wr.num; rw [if_neg (by simpa using h), if_neg h1]
theorem Wr.text_ok {W : Wr} (h : W.e = 0) {s : ByteArray} {n : Int} (h0 : (s.size : Int) ≤ n) (h1 : n ≤ 60000) : W.text s n = { W with bs := W.bs ++ le s.size 2 ++ s.data.toList } := by unfold Wr.text; rw [if_neg (by simpa using h), if_neg (by omega), if_neg (by omega)]
/-- what was put by WireBack's four calls is read by four calls -/
theorem back_take {v : Nat} {n : Int} (h : numOk v n) (i : Int) {s : ByteArray} (hs : s.size ≤ 1000) (f : Bool) (m : List UInt8) :
    ∃ R1 R2 R3 R4 : Rd, (⟨str (back v n i s f ++ m), 0⟩ : Rd).numV n = v ∧ (⟨str (back v n i s f ++ m), 0⟩ : Rd).numR n = R1 ∧ R1.numV 8 = u64 i ∧ R1.numR 8 = R2 ∧ R2.textV 1000 = s ∧ R2.textR 1000 = R3 ∧ R3.flagV = f ∧ R3.flagR = R4 ∧ R4 = ⟨str m, 0⟩ := by
  have e : back v n i s f ++ m = le v n.toNat ++ (le (u64 i) 8 ++ (le s.size 2 ++ (s.data.toList ++ (le (if f then 1 else 0) 1 ++ m)))) := by simp [back]
  obtain ⟨a1, b1⟩ := num_app h (le (u64 i) 8 ++ (le s.size 2 ++ (s.data.toList ++ (le (if f then 1 else 0) 1 ++ m))))
  obtain ⟨a2, b2⟩ := num_app (v := u64 i) (n := 8) ⟨by omega, by omega, u64_lt i⟩ (le s.size 2 ++ (s.data.toList ++ (le (if f then 1 else 0) 1 ++ m)))
  obtain ⟨a3, b3⟩ := text_app s (le (if f then 1 else 0) 1 ++ m) (room := 1000) (by omega) (by omega)
  obtain ⟨a4, b4⟩ := flag_app f m
  rw [e]
  exact ⟨_, _, _, _, a1, b1, a2, b2, a3, b3, a4, b4, rfl⟩
end Go.Proofs.YtoploimpfhnanaaDoor
