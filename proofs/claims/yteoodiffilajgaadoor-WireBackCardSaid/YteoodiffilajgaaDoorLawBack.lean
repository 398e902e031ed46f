/- WireBack: the law's walk. -/
import Derived.Test.YteoodiffilajgaaDoorWireU
namespace Go.Proofs.YteoodiffilajgaaDoor
open Go.RowKit

theorem shl_is {n : Int} (h1 : 1 ≤ n) (h8 : n ≤ 8) (hne : n ≠ 8) : IntKind.u64.wrap (2 ^ (8 * n).toNat) = ((256 ^ n.toNat : Nat) : Int) := by
  have hn : n = 1 ∨ n = 2 ∨ n = 3 ∨ n = 4 ∨ n = 5 ∨ n = 6 ∨ n = 7 := by omega
  rcases hn with rfl | rfl | rfl | rfl | rfl | rfl | rfl <;> decide +kernel
set_option maxRecDepth 100000 in
set_option maxHeartbeats 4000000 in
theorem wireBack_any (v : Nat) (n i : Int) (s : ByteArray) (f : Bool) (pad : Int) (w : World) (hv : v < 18446744073709551616) (hi : i64' i) (hs : s.size ≤ maxLen) : Calls Tryd.prog 8 #[.int .u64 v, .int .i64 n, .int .i64 i, .string s, .bool f, .int .i64 pad] w fun e w' => e = .returned (.bool true) ∧ Below w.heap.size w w' := by
  unfold maxLen at hs
  have HV := Lib.hid hv
  have HI := Lib.hid hi
  clear hv hi
  by_cases g0 : 1000 < s.size
  · have g0I : (1000 : Int) < (s.size : Int) := by omega
    go_enter Tryd.func8, Tryd.ntmps8
    go_wp2_with fail
    refine (alive1_any _).mono ?_
    rintro e w1 ⟨rfl, hb⟩
    go_wp2_with fail
    go_ret
    exact ⟨rfl, hb⟩
  have g0I : ¬ (1000 : Int) < (s.size : Int) := by omega
  by_cases g1 : n < 1
  · skip
    go_enter Tryd.func8, Tryd.ntmps8
    go_wp2_with fail
    refine (alive1_any _).mono ?_
    rintro e w1 ⟨rfl, hb⟩
    go_wp2_with fail
    go_ret
    exact ⟨rfl, hb⟩
  by_cases g2 : 8 < n
  · skip
    go_enter Tryd.func8, Tryd.ntmps8
    go_wp2_with fail
    refine (alive1_any _).mono ?_
    rintro e w1 ⟨rfl, hb⟩
    go_wp2_with fail
    go_ret
    exact ⟨rfl, hb⟩
  by_cases g3 : pad < 0
  · skip
    go_enter Tryd.func8, Tryd.ntmps8
    go_wp2_with fail
    refine (alive1_any _).mono ?_
    rintro e w1 ⟨rfl, hb⟩
    go_wp2_with fail
    go_ret
    exact ⟨rfl, hb⟩
  by_cases g4 : 3000 < pad
  · skip
    go_enter Tryd.func8, Tryd.ntmps8
    go_wp2_with fail
    refine (alive1_any _).mono ?_
    rintro e w1 ⟨rfl, hb⟩
    go_wp2_with fail
    go_ret
    exact ⟨rfl, hb⟩
  obtain ⟨o0, hw0, hs0⟩ := wr_new 27 (fun _ => 0) 1 w
  have HW0 := Lib.hid hw0
  have HE0 := Lib.hid ((Env.start w).step (hs0 (fun _ => False)) (by simp))
  clear hw0 hs0
  go_enter Tryd.func8, Tryd.ntmps8
  go_wp2_with fail
  refine (wnum_any HW0.out v n HV.out (by simp)).mono ?_
  rintro e w1 ⟨rfl, o1, hw1, hs1⟩
  have L1 := Lib.hid (show (Wr.num ⟨[], 0⟩ v n).bs.length ≤ 1000000000 by have h9 := Wr.num_len ⟨[], 0⟩ v n; simp at h9; omega)
  have HW1 := Lib.hid hw1
  have HE1 := Lib.hid (HE0.out.step hs1 (by unfold only; omega))
  clear hw1 hs1
  go_wp2_with fail
  refine (wint_any HW1.out i L1.out).mono ?_
  rintro e w2 ⟨rfl, o2, hw2, hs2⟩
  have L2 := Lib.hid (show ((Wr.num ⟨[], 0⟩ v n).num (u64 i) 8).bs.length ≤ 1000000000 by have h9 := Wr.num_len ⟨[], 0⟩ v n; have h8 := Wr.num_len (Wr.num ⟨[], 0⟩ v n) (u64 i) 8; simp at h9; omega)
  have HW2 := Lib.hid hw2
  have HE2 := Lib.hid (HE1.out.step hs2 (by unfold only; omega))
  clear hw2 hs2
  go_wp2_with fail
  refine (wtext_any HW2.out s 1000 (by omega) L2.out).mono ?_
  rintro e w3 ⟨rfl, o3, hw3, hs3⟩
  have L3 := Lib.hid (show (((Wr.num ⟨[], 0⟩ v n).num (u64 i) 8).text s 1000).bs.length ≤ 1000000000 by have h9 := Wr.num_len ⟨[], 0⟩ v n; have h8 := Wr.num_len (Wr.num ⟨[], 0⟩ v n) (u64 i) 8; have h7 := Wr.text_len ((Wr.num ⟨[], 0⟩ v n).num (u64 i) 8) s 1000; simp at h9; omega)
  have HW3 := Lib.hid hw3
  have HE3 := Lib.hid (HE2.out.step hs3 (by unfold only; omega))
  clear hw3 hs3
  go_wp2_with fail
  refine (wflag_any HW3.out f L3.out).mono ?_
  rintro e w4 ⟨rfl, o4, hw4, hs4⟩
  have HE4 := Lib.hid (HE3.out.step hs4 (by unfold only; omega))
  clear hs4
  by_cases hok : numOk v n
  · have HOK := Lib.hid hok
    rw [back_put hok i (by omega) f] at hw4
    have HW4 := Lib.hid hw4
    have HBL := Lib.hid (back_len v n i s f)
    have HBT := Lib.hid (back_take hok i (s := s) (by omega) f)
    have L4 := Lib.hid (show (back v n i s f).length ≤ 1000000000 by rw [back_len]; omega)
    clear hw4 hok
    generalize back v n i s f = B at HW4 HBL HBT L4
    go_wp2_with fail
    refine (wpad_any HW4.out pad ⟨by omega, by omega⟩ L4.out).mono ?_
    rintro e w5 ⟨rfl, o5, hw5, hs5⟩
    have HE5 := Lib.hid (HE4.out.step hs5 (by unfold only; omega))
    clear hs5
    by_cases hp : pad < B.length
    · rw [Wr.pad_long (W := ⟨B, 0⟩) rfl (by omega) hp] at hw5
      have HW5 := Lib.hid hw5
      clear hw5 hp
      go_wp2_with fail
      refine (wbytes_any HW5.out).mono ?_
      rintro e w6 ⟨rfl, hb6⟩
      rw [if_neg (show ¬ (2 : Int) = 0 by decide)]
      have HE6 := Lib.hid (HE5.out.below_ hb6)
      clear hb6
      go_upto_region 5 with (fail)
      go_cut [16] from 56 to 64 (fun t16 wx => t16 = .bool true ∧ wx = w6)
      case first =>
        by_cases h8 : n = 8
        · subst h8
          go_wp2_with fail
          go_meet
          case rel => exact ⟨rfl, rfl⟩
        · have h8I : (n == 8) = false := beq_eq_false_iff_ne.2 h8
          have hsh : (v : Int) < IntKind.u64.wrap (2 ^ (8 * n).toNat) := by rw [shl_is (by omega) (by omega) h8]; have h9 := HOK.out.2.2; omega
          go_wp2_with fail
          go_meet
          case rel => exact ⟨rfl, rfl⟩
      case rest =>
        obtain ⟨rfl, rfl⟩ := hcut
        go_wp2_with fail
        refine (alive1_any _).mono ?_
        rintro e w7 ⟨rfl, hb7⟩
        go_wp2_with fail
        go_ret
        exact ⟨rfl, (HE6.out.below_ hb7).low⟩
    · rw [Wr.pad_ok (W := ⟨B, 0⟩) rfl (by omega) hp] at hw5
      obtain ⟨z, hz⟩ : ∃ z, z = pad.toNat - B.length := ⟨_, rfl⟩
      simp only [← hz] at hw5
      have hbl : ((str (B ++ List.replicate z 0)).size : Int) = pad := by rw [str_size, List.length_append, List.length_replicate]; omega
      have hbl2 : (str (B ++ List.replicate z 0)).size ≤ 1000000000 := by omega
      have HEZ := Lib.hid (end_rep z)
      obtain ⟨R1, R2, R3, R4, q1, q2, q3, q4, q5, q6, q7, q8, q9⟩ := HBT.out (List.replicate z 0)
      obtain ⟨T, hT⟩ : ∃ T, str (B ++ List.replicate z 0) = T := ⟨_, rfl⟩
      rw [hT] at hbl hbl2 q1 q2
      have HT := Lib.hid hT
      subst q9
      have Q1 := Lib.hid q1
      have Q2 := Lib.hid q2
      have Q3 := Lib.hid q3
      have Q4 := Lib.hid q4
      have Q5 := Lib.hid q5
      have Q6 := Lib.hid q6
      have Q7 := Lib.hid q7
      have Q8 := Lib.hid q8
      have HW5 := Lib.hid hw5
      have HBL2 := Lib.hid hbl2
      clear hw5 hp q1 q2 q3 q4 q5 q6 q7 q8 hbl2 hz hT
      go_wp2_with fail
      refine (wbytes_any HW5.out).mono ?_
      rintro e w6 ⟨rfl, hb6⟩
      rw [if_pos rfl, HT.out]
      have HE6 := Lib.hid (HE5.out.below_ hb6)
      clear hb6
      go_upto_region 5 with (fail)
      go_cut [16] from 56 to 64 (fun t16 wx => t16 = .bool true ∧ wx = w6)
      case first =>
        by_cases h8 : n = 8
        · subst h8
          go_wp2_with fail
          go_meet
          case rel => exact ⟨rfl, rfl⟩
        · have h8I : (n == 8) = false := beq_eq_false_iff_ne.2 h8
          have hsh : (v : Int) < IntKind.u64.wrap (2 ^ (8 * n).toNat) := by rw [shl_is (by omega) (by omega) h8]; have h9 := HOK.out.2.2; omega
          go_wp2_with fail
          go_meet
          case rel => exact ⟨rfl, rfl⟩
      case rest =>
        obtain ⟨rfl, rfl⟩ := hcut
        go_wp2_with fail
        refine (newreader_any o5 2 T _ HBL2.out).mono ?_
        rintro e w7 ⟨p7, o7, rfl, hr7, hb7, hs7⟩
        have HR7 := Lib.hid hr7
        have HE7 := Lib.hid (HE6.out.step (hs7 (fun _ => False)) (by simp))
        clear hr7 hb7 hs7
        go_wp2_with fail
        refine (alive1_any _).mono ?_
        rintro e w8 ⟨rfl, hb8⟩
        have HR8 := Lib.hid (HR7.out.below_ hb8)
        have HE8 := Lib.hid (HE7.out.below_ hb8)
        clear hb8
        go_wp2_with fail
        refine (rnum_any HR8.out n).mono ?_
        rintro e w9 ⟨rfl, o9, hr9, hs9⟩
        rw [Q1.out]
        rw [Q2.out] at hr9
        have HR9 := Lib.hid hr9
        have HE9 := Lib.hid (HE8.out.step hs9 (by unfold only; omega))
        clear hr9 hs9
        go_wp2_with fail
        refine (rint_any HR9.out).mono ?_
        rintro e w10 ⟨rfl, o10, hr10, hs10⟩
        rw [Q3.out, wrap_u64 i HI.out]
        rw [Q4.out] at hr10
        have HR10 := Lib.hid hr10
        have HE10 := Lib.hid (HE9.out.step hs10 (by unfold only; omega))
        clear hr10 hs10
        go_wp2_with fail
        refine (rtext_any HR10.out 1000).mono ?_
        rintro e w11 ⟨rfl, o11, hr11, hs11⟩
        rw [Q5.out]
        rw [Q6.out] at hr11
        have HR11 := Lib.hid hr11
        have HE11 := Lib.hid (HE10.out.step hs11 (by unfold only; omega))
        clear hr11 hs11
        go_wp2_with fail
        refine (rflag_any HR11.out).mono ?_
        rintro e w12 ⟨rfl, o12, hr12, hs12⟩
        rw [Q7.out]
        rw [Q8.out] at hr12
        have HR12 := Lib.hid hr12
        have HE12 := Lib.hid (HE11.out.step hs12 (by unfold only; omega))
        clear hr12 hs12
        go_wp2_with fail
        refine (rend_any HR12.out).mono ?_
        rintro e w13 ⟨rfl, hb13⟩
        rw [HEZ.out]
        have HE13 := Lib.hid (HE12.out.below_ hb13)
        clear hb13
        go_wp2_with fail
        go_ret
        exact ⟨rfl, HE13.out.low⟩
  · have HOK := Lib.hid hok
    have E1 := Lib.hid (Wr.num_no (W := ⟨[], 0⟩) rfl hok)
    rw [E1.out, Wr.num_bad (by simp), Wr.text_bad (by simp), Wr.flag_bad (by simp)] at hw4
    have HW4 := Lib.hid hw4
    clear hw4 hok
    go_wp2_with fail
    refine (wpad_any HW4.out pad ⟨by omega, by omega⟩ (by simp)).mono ?_
    rintro e w5 ⟨rfl, o5, hw5, hs5⟩
    rw [Wr.pad_bad (by simp)] at hw5
    have HW5 := Lib.hid hw5
    have HE5 := Lib.hid (HE4.out.step hs5 (by unfold only; omega))
    clear hs5 hw5
    go_wp2_with fail
    refine (wbytes_any HW5.out).mono ?_
    rintro e w6 ⟨rfl, hb6⟩
    rw [if_neg (show ¬ (1 : Int) = 0 by decide)]
    have HE6 := Lib.hid (HE5.out.below_ hb6)
    clear hb6
    go_upto_region 5 with (fail)
    go_cut [16] from 56 to 64 (fun t16 wx => t16 = .bool false ∧ wx = w6)
    case first =>
      have h8 : n ≠ 8 := by
        rintro rfl
        exact HOK.out ⟨by omega, by omega, by have h9 := HV.out; simpa using h9⟩
      have h8I : (n == 8) = false := beq_eq_false_iff_ne.2 h8
      have hsh : ¬ (v : Int) < IntKind.u64.wrap (2 ^ (8 * n).toNat) := by
        rw [shl_is (by omega) (by omega) h8]
        intro h9
        exact HOK.out ⟨by omega, by omega, by omega⟩
      go_wp2_with fail
      go_meet
      case rel => exact ⟨rfl, rfl⟩
    case rest =>
      obtain ⟨rfl, rfl⟩ := hcut
      go_wp2_with fail
      refine (alive1_any _).mono ?_
      rintro e w7 ⟨rfl, hb7⟩
      go_wp2_with fail
      go_ret
      exact ⟨rfl, (HE6.out.below_ hb7).low⟩
theorem back_u64 (v : Int) (n i : Int) (s : ByteArray) (f : Bool) (pad : Int) (w : World) (hv : 0 ≤ v ∧ v ≤ 18446744073709551615) (_ : i64' n) (hi : i64' i) (hs : s.size ≤ maxLen) (_ : i64' pad) : Calls Tryd.prog 8 #[.int .u64 v, .int .i64 n, .int .i64 i, .string s, .bool f, .int .i64 pad] w fun e w' => e = .returned (.bool true) ∧ Below w.heap.size w w' := by
  obtain ⟨m, rfl⟩ : ∃ m : Nat, v = m := ⟨v.toNat, by omega⟩
  exact wireBack_any m n i s f pad w (by omega) hi hs
end Go.Proofs.YteoodiffilajgaaDoor
