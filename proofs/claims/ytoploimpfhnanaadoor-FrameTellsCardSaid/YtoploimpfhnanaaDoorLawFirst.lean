/- WireFirst: the law's walk. -/
import Derived.Test.YtoploimpfhnanaaDoorWireP
namespace Go.Proofs.YtoploimpfhnanaaDoor
open Go.RowKit

theorem Wr.num_bad {W : Wr} (h : W.e ≠ 0) (v : Nat) (n : Int) : W.num v n = W := by unfold Wr.num; rw [if_pos h]
theorem Wr.flag_bad {W : Wr} (h : W.e ≠ 0) (b : Bool) : W.flag b = W := Wr.num_bad h _ _
theorem Wr.pad_bad {W : Wr} (h : W.e ≠ 0) (n : Int) : W.pad n = W := by unfold Wr.pad; rw [if_pos h]
theorem Wr.text_bad {W : Wr} (h : W.e ≠ 0) (s : ByteArray) (n : Int) : W.text s n = W := by unfold Wr.text; rw [if_pos h]
theorem Wr.text_long {W : Wr} (h : W.e = 0) {s : ByteArray} {n : Int} (h0 : 0 ≤ n) (h1 : n ≤ 60000) (h2 : n < s.size) : W.text s n = { W with e := 2 } := by unfold Wr.text; rw [if_neg (by simpa using h), if_neg (by omega), if_pos h2]
theorem Rd.take_bad {R : Rd} (h : R.e ≠ 0) (n : Int) : R.takeS n = ⟨#[]⟩ ∧ R.takeR n = R := by
  unfold Rd.takeS Rd.takeR
  rw [if_neg (fun x => h x.1), if_pos h]
  exact ⟨rfl, rfl⟩
theorem Rd.fail_bad {R : Rd} (h : R.e ≠ 0) (e : Int) : R.fail e = R := by unfold Rd.fail; rw [if_neg h]
theorem Rd.num_bad {R : Rd} (h : R.e ≠ 0) (n : Int) : R.numV n = 0 ∧ R.numR n = R := by
  unfold Rd.numV Rd.numR
  rw [(Rd.take_bad h n).1, (Rd.take_bad h n).2, Rd.fail_bad h]
  constructor
  · split <;> rfl
  · split <;> rfl
theorem Rd.count_bad {R : Rd} (h : R.e ≠ 0) (most : Int) : R.countV most = 0 ∧ R.countR most = R := by
  unfold Rd.countV Rd.countR
  rw [(Rd.num_bad h 2).1, (Rd.num_bad h 2).2, if_neg (fun x => h x.1), if_neg (fun x => h x.1)]
  exact ⟨rfl, rfl⟩
theorem Rd.text_bad {R : Rd} (h : R.e ≠ 0) (n : Int) : R.textV n = ⟨#[]⟩ ∧ R.textR n = R := by
  unfold Rd.textV Rd.textR
  rw [(Rd.count_bad h n).1, (Rd.count_bad h n).2, (Rd.take_bad h 0).1, (Rd.take_bad h 0).2, Rd.fail_bad h]
  constructor
  · split <;> rfl
  · split <;> rfl
theorem Rd.flag_bad {R : Rd} (h : R.e ≠ 0) : R.flagV = false ∧ R.flagR = R := by
  unfold Rd.flagV Rd.flagR
  rw [(Rd.num_bad h 1).1, (Rd.num_bad h 1).2]
  exact ⟨rfl, rfl⟩
theorem Rd.end_bad {R : Rd} (h : R.e ≠ 0) : R.endV = R.e := by unfold Rd.endV; rw [if_pos h]
theorem Rd.num_nine (b : ByteArray) : (⟨b, 0⟩ : Rd).numR 9 = ⟨b, 1⟩ := rfl

end Go.Proofs.YtoploimpfhnanaaDoor
