/- WireFirst: the law's walk. -/
import Derived.Test.YteoodiffilajgaaDoorWireP
namespace Go.Proofs.YteoodiffilajgaaDoor
open Go.RowKit

theorem Wr.num_bad {W : Wr} (h : W.e ≠ 0) (v : Nat) (n : Int) : W.num v n = W := by unfold Wr.num; rw [if_pos h]
theorem Wr.flag_bad {W : Wr} (h : W.e ≠ 0) (b : Bool) : W.flag b = W := Wr.num_bad h _ _
theorem Wr.pad_bad {W : Wr} (h : W.e ≠ 0) (n : Int) : W.pad n = W := by unfold Wr.pad; rw [if_pos h]
theorem Wr.text_bad {W : Wr} (h : W.e ≠ 0) (s : ByteArray) (n : Int) : W.text s n = W := by unfold Wr.text; rw [if_pos h]
theorem Wr.text_long {W : Wr} (h : W.e = 0) {s : ByteArray} {n : Int} (h0 : 0 ≤ n) (h1 : n ≤ 60000) (h2 : n < s.size) : W.text s n = { W with e := 2 } := by unfold Wr.text; rw [if_neg (by simpa using h), if_neg (by omega), if_pos h2]
theorem Rd.take_bad {R : Rd} (h : R.e ≠ 0) (n : Int) : R.takeS n = ⟨#[]⟩ ∧ R.takeR n = R := by
  unfold Rd.takeS Rd.takeR
  rw [if_neg (fun x => h x.1), if_pos h]
  exact ⟨rfl, rfl⟩
theorem Rd.fail_bad {R : Rd} (h : R.e ≠ 0) (e : Int) : R.fail e = R := by unfold Rd.fail; rw [if_neg h]
theorem Rd.num_bad {R : Rd} (h : R.e ≠ 0) (n : Int) : R.numV n = 0 ∧ R.numR n = R := by
  unfold Rd.numV Rd.numR
  rw [(Rd.take_bad h n).1, (Rd.take_bad h n).2, Rd.fail_bad h]
  constructor
  · split <;> rfl
  · split <;> rfl
theorem Rd.count_bad {R : Rd} (h : R.e ≠ 0) (most : Int) : R.countV most = 0 ∧ R.countR most = R := by
  unfold Rd.countV Rd.countR
  rw [(Rd.num_bad h 2).1, (Rd.num_bad h 2).2, if_neg (fun x => h x.1), if_neg (fun x => h x.1)]
  exact ⟨rfl, rfl⟩
theorem Rd.text_bad {R : Rd} (h : R.e ≠ 0) (n : Int) : R.textV n = ⟨#[]⟩ ∧ R.textR n = R := by
  unfold Rd.textV Rd.textR
  rw [(Rd.count_bad h n).1, (Rd.count_bad h n).2, (Rd.take_bad h 0).1, (Rd.take_bad h 0).2, Rd.fail_bad h]
  constructor
  · split <;> rfl
  · split <;> rfl
theorem Rd.flag_bad {R : Rd} (h : R.e ≠ 0) : R.flagV = false ∧ R.flagR = R := by
  unfold Rd.flagV Rd.flagR
  rw [(Rd.num_bad h 1).1, (Rd.num_bad h 1).2]
  exact ⟨rfl, rfl⟩
theorem Rd.end_bad {R : Rd} (h : R.e ≠ 0) : R.endV = R.e := by unfold Rd.endV; rw [if_pos h]
theorem Rd.num_nine (b : ByteArray) : (⟨b, 0⟩ : Rd).numR 9 = ⟨b, 1⟩ := rfl

set_option maxRecDepth 100000 in
set_option maxHeartbeats 4000000 in
theorem wireFirst_any (s : ByteArray) (v : Nat) (b : ByteArray) (w : World) (hs : s.size ≤ maxLen) (hv : v < 18446744073709551616) (hb : b.size ≤ maxLen) : Calls Tryd.prog 7 #[.string s, .int .u64 v, .string b] w fun e w' => e = .returned (.bool true) ∧ Below w.heap.size w w' := by
  unfold maxLen at hs hb
  have HV := Lib.hid hv
  clear hv
  by_cases h0 : 300 < s.size
  · have h0I : (300 : Int) < (s.size : Int) := by omega
    go_enter Tryd.func7, Tryd.ntmps7
    go_wp2_with fail
    refine (alive1_any _).mono ?_
    rintro e w1 ⟨rfl, hb⟩
    go_wp2_with fail
    go_ret
    exact ⟨rfl, hb⟩
  · have h0I : ¬ (300 : Int) < (s.size : Int) := by omega
    by_cases h1 : s.size < 2
    · have h1I : (s.size : Int) < 2 := by omega
      go_enter Tryd.func7, Tryd.ntmps7
      go_wp2_with fail
      refine (alive1_any _).mono ?_
      rintro e w1 ⟨rfl, hb⟩
      go_wp2_with fail
      go_ret
      exact ⟨rfl, hb⟩
    · have h1I : ¬ (s.size : Int) < 2 := by omega
      by_cases h2 : 300 < b.size
      · have h2I : (300 : Int) < (b.size : Int) := by omega
        go_enter Tryd.func7, Tryd.ntmps7
        go_wp2_with fail
        refine (alive1_any _).mono ?_
        rintro e w1 ⟨rfl, hb⟩
        go_wp2_with fail
        go_ret
        exact ⟨rfl, hb⟩
      · have h2I : ¬ (300 : Int) < (b.size : Int) := by omega
        have E1 := Lib.hid (show Wr.num ⟨[], 0⟩ v 8 = ⟨le v 8, 0⟩ from Wr.num_ok rfl ⟨by omega, by omega, by have := HV.out; simpa using this⟩)
        have E2 := Lib.hid (show Wr.text ⟨le v 8, 0⟩ s 1 = ⟨le v 8, 2⟩ from Wr.text_long rfl (by omega) (by omega) (by omega))
        have E3 := Lib.hid (Wr.num_bad (W := ⟨le v 8, 2⟩) (by simp) 1 1)
        have E4 := Lib.hid (Wr.pad_bad (W := ⟨le v 8, 2⟩) (by simp) (-1))
        have E5 := Lib.hid (Wr.flag_bad (W := ⟨le v 8, 2⟩) (by simp) true)
        have HL := Lib.hid (show (le v 8).length ≤ 1000000000 by rw [le_len]; omega)
        obtain ⟨o0, hw0, hs0⟩ := wr_new 27 (fun _ => 0) 1 w
        have HW0 := Lib.hid hw0
        have HE0 := Lib.hid ((Env.start w).step (hs0 (fun _ => False)) (by simp))
        clear hw0 hs0
        go_enter Tryd.func7, Tryd.ntmps7
        go_wp2_with fail
        refine (wnum_any HW0.out v 8 HV.out (by simp)).mono ?_
        rintro e w1 ⟨rfl, o1, hw1, hs1⟩
        rw [E1.out] at hw1
        have HW1 := Lib.hid hw1
        have HE1 := Lib.hid (HE0.out.step hs1 (by unfold only; omega))
        clear hw1 hs1
        go_wp2_with fail
        refine (wtext_any HW1.out s 1 (by omega) HL.out).mono ?_
        rintro e w2 ⟨rfl, o2, hw2, hs2⟩
        rw [E2.out] at hw2
        have HW2 := Lib.hid hw2
        have HE2 := Lib.hid (HE1.out.step hs2 (by unfold only; omega))
        clear hw2 hs2
        go_wp2_with fail
        refine (wnum_any HW2.out 1 1 (by omega) HL.out).mono ?_
        rintro e w3 ⟨rfl, o3, hw3, hs3⟩
        rw [E3.out] at hw3
        have HW3 := Lib.hid hw3
        have HE3 := Lib.hid (HE2.out.step hs3 (by unfold only; omega))
        clear hw3 hs3
        go_wp2_with fail
        refine (wpad_any HW3.out (-1) (by unfold i64'; omega) HL.out).mono ?_
        rintro e w4 ⟨rfl, o4, hw4, hs4⟩
        rw [E4.out] at hw4
        have HW4 := Lib.hid hw4
        have HE4 := Lib.hid (HE3.out.step hs4 (by unfold only; omega))
        clear hw4 hs4
        go_wp2_with fail
        refine (wflag_any HW4.out true HL.out).mono ?_
        rintro e w5 ⟨rfl, o5, hw5, hs5⟩
        rw [E5.out] at hw5
        have HW5 := Lib.hid hw5
        have HE5 := Lib.hid (HE4.out.step hs5 (by unfold only; omega))
        clear hw5 hs5
        go_wp2_with fail
        refine (wbytes_any HW5.out).mono ?_
        rintro e w6 ⟨rfl, hb6⟩
        rw [if_neg (show ¬ (2 : Int) = 0 by decide)]
        have HE6 := Lib.hid (HE5.out.below_ hb6)
        clear hb6
        go_wp2_with fail
        refine (newreader_any o5 2 b _ (by omega)).mono ?_
        rintro e w7 ⟨p7, o7, rfl, hr7, hb7, hs7⟩
        have HR7 := Lib.hid hr7
        have HE7 := Lib.hid (HE6.out.step (hs7 (fun _ => False)) (by simp))
        clear hr7 hb7 hs7
        go_wp2_with fail
        refine (rnum_any HR7.out 9).mono ?_
        rintro e w8 ⟨rfl, o8, hr8, hs8⟩
        rw [Rd.num_nine] at hr8
        have HR8 := Lib.hid hr8
        have HE8 := Lib.hid (HE7.out.step hs8 (by unfold only; omega))
        clear hr8 hs8
        generalize Rd.numV ⟨b, 0⟩ 9 = junk
        go_wp2_with fail
        refine (rerr_any HR8.out).mono ?_
        rintro e w9 ⟨rfl, rfl⟩
        go_wp2_with fail
        refine (alive1_any _).mono ?_
        rintro e w9 ⟨rfl, hb9⟩
        have HR9 := Lib.hid (HR8.out.below_ hb9)
        have HE9 := Lib.hid (HE8.out.below_ hb9)
        clear hb9
        go_wp2_with fail
        refine (rnum_any HR9.out 1).mono ?_
        rintro e w10 ⟨rfl, o10, hr10, hs10⟩
        rw [(Rd.num_bad (R := ⟨b, 1⟩) (by simp) 1).1]
        rw [(Rd.num_bad (R := ⟨b, 1⟩) (by simp) 1).2] at hr10
        have HR10 := Lib.hid hr10
        have HE10 := Lib.hid (HE9.out.step hs10 (by unfold only; omega))
        clear hr10 hs10
        go_wp2_with fail
        refine (rtext_any HR10.out 300).mono ?_
        rintro e w11 ⟨rfl, o11, hr11, hs11⟩
        rw [(Rd.text_bad (R := ⟨b, 1⟩) (by simp) 300).1]
        rw [(Rd.text_bad (R := ⟨b, 1⟩) (by simp) 300).2] at hr11
        have HR11 := Lib.hid hr11
        have HE11 := Lib.hid (HE10.out.step hs11 (by unfold only; omega))
        clear hr11 hs11
        go_wp2_with fail
        refine (rflag_any HR11.out).mono ?_
        rintro e w12 ⟨rfl, o12, hr12, hs12⟩
        rw [(Rd.flag_bad (R := ⟨b, 1⟩) (by simp)).1]
        rw [(Rd.flag_bad (R := ⟨b, 1⟩) (by simp)).2] at hr12
        have HR12 := Lib.hid hr12
        have HE12 := Lib.hid (HE11.out.step hs12 (by unfold only; omega))
        clear hr12 hs12
        go_wp2_with fail
        refine (rcount_any HR12.out 9).mono ?_
        rintro e w13 ⟨rfl, o13, hr13, hs13⟩
        rw [(Rd.count_bad (R := ⟨b, 1⟩) (by simp) 9).1]
        rw [(Rd.count_bad (R := ⟨b, 1⟩) (by simp) 9).2] at hr13
        have HR13 := Lib.hid hr13
        have HE13 := Lib.hid (HE12.out.step hs13 (by unfold only; omega))
        clear hr13 hs13
        go_wp2_with fail
        refine (rerr_any HR13.out).mono ?_
        rintro e w14 ⟨rfl, rfl⟩
        go_wp2_with fail
        refine (rend_any HR13.out).mono ?_
        rintro e w15 ⟨rfl, hb15⟩
        rw [Rd.end_bad (R := ⟨b, 1⟩) (by simp)]
        go_wp2_with fail
        go_ret
        exact ⟨rfl, (HE13.out.below_ hb15).low⟩
theorem first_u64 (s : ByteArray) (v : Int) (b : ByteArray) (w : World) (hs : s.size ≤ maxLen) (hv : 0 ≤ v ∧ v ≤ 18446744073709551615) (hb : b.size ≤ maxLen) : Calls Tryd.prog 7 #[.string s, .int .u64 v, .string b] w fun e w' => e = .returned (.bool true) ∧ Below w.heap.size w w' := by
  obtain ⟨m, rfl⟩ : ∃ m : Nat, v = m := ⟨v.toNat, by omega⟩
  exact wireFirst_any s m b w hs (by omega) hb
end Go.Proofs.YteoodiffilajgaaDoor
