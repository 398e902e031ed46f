/- MsgKinds: the law's walk: the kinds that go up, and when a message of a kind and a number can be. -/
import Derived.Test.YtoploimpfhnanaaDoorMsgD
namespace Go.Proofs.YtoploimpfhnanaaDoor
open Go.RowKit

def mk2 (k n : Int) : Mg := ⟨k, n, 0, 0, 0, 0, 0, []⟩
theorem mk2_ok (k n : Int) : (mk2 k n).ok ↔ (1 ≤ k ∧ k ≤ 15) ∧ 0 ≤ n ∧ n ≤ 2147483647 := by
  unfold Mg.ok sm mk2
  simp
theorem mk2_len (k n : Int) : (mk2 k n).locks.length ≤ maxLen := Nat.zero_le _
theorem mk2_ep (k n : Int) : (mk2 k n).epoch < 18446744073709551616 := by show 0 < _; omega
def cnt : Nat → Nat
  | 0 => 0
  | j + 1 => if upB ((j : Int) + 1) then cnt j + 1 else cnt j
theorem cnt_le (j : Nat) : cnt j ≤ j := by
  induction j with
  | zero => simp [cnt]
  | succ j ih => rw [cnt]; split <;> omega
theorem cnt_15 : cnt 15 = 8 := by decide
set_option maxRecDepth 100000 in
set_option maxHeartbeats 4000000 in
theorem msgKinds_any (k n : Int) (w : World) : Calls Tryd.prog 4 #[.int .i64 k, .int .i64 n] w fun e w' => e = .returned (.bool true) ∧ Below w.heap.size w w' := by
  go_enter Tryd.func4, Tryd.ntmps4
  go_wp2_with fail
  go_loop [5, 6] (fun t5 t6 => ∃ j : Nat, j ≤ 15 ∧ t6 = .int .i64 ((j : Int) + 1) ∧ t5 = .int .i64 (cnt j : Int)) (fun _ t6 => 16 - (intOf t6).toNat)
  case atStart => exact ⟨0, by omega, rfl, rfl⟩
  case round =>
    obtain ⟨j, hj, rfl, rfl⟩ := hrel
    have hcl := cnt_le j
    by_cases hlt : j < 15
    · have hltI : (j : Int) + 1 ≤ 15 := by omega
      obtain ⟨c, hc⟩ : ∃ c, c = cnt j := ⟨_, rfl⟩
      rw [← hc] at hcl ⊢
      have HC := Lib.hid hc
      clear hc
      go_wp2_with fail
      refine (up_any ((j : Int) + 1) _).mono ?_
      rintro e w1 ⟨rfl, rfl⟩
      cases hu : upB ((j : Int) + 1) with
      | true =>
        have HU := Lib.hid hu
        clear hu
        go_wp2_with fail
        go_round
        case rel => exact ⟨j + 1, by omega, by go_num, by rw [cnt, if_pos HU.out, ← HC.out]; go_num⟩
        case measure => simp [intOf]; omega
      | false =>
        have HU := Lib.hid hu
        clear hu
        go_wp2_with fail
        go_round
        case rel => exact ⟨j + 1, by omega, by go_num, by rw [cnt, if_neg (by rw [HU.out]; decide), ← HC.out]⟩
        case measure => simp [intOf]; omega
    · have hltI : ¬ (j : Int) + 1 ≤ 15 := by omega
      obtain rfl : j = 15 := by omega
      rw [cnt_15]
      clear hcl hltI hlt hj
      have hmk : (mk2 k n).agg none 0 = .agg #[.int .i64 k, .int .i64 n, .int .i64 0, .int .i64 0, .int .i64 0, .int .u64 0, .int .i64 0, .slice none 0 0] := rfl
      have HMK := Lib.hid hmk
      clear hmk
      by_cases hg : (1 ≤ k ∧ k ≤ 15) ∧ 0 ≤ n ∧ n ≤ 2147483647
      · have hok := (mk2_ok k n).2 hg
        have p1 : (mk2 k n).putS = str (mk2 k n).enc := if_pos hok
        have p2 : (mk2 k n).putE = 0 := if_pos hok
        have P1 := Lib.hid p1
        have P2 := Lib.hid p2
        have HOK := Lib.hid hok
        obtain ⟨⟨g1, g2⟩, g3, g4⟩ := hg
        clear p1 p2 hok
        go_wp2_with fail
        rw [← HMK.out]
        refine (put_any (mk2 k n) _ none 0 (Reads.none_ _ _ _) (mk2_len _ _) (mk2_ep _ _)).mono ?_
        rintro e w1 ⟨rfl, hb1⟩
        rw [P1.out, P2.out, HMK.out]
        have hb0 := (Below.refl w.heap.size w).alloc (Nat.le_refl _) (.cells #[.int .i64 k, .int .i64 n, .int .i64 0, .int .i64 0, .int .i64 0, .int .u64 0, .int .i64 0, .slice none 0 0] 26)
        have HB1 := Lib.hid (hb0.trans (hb1.mono hb0.size))
        have hk1 := (Blk.new w 26 #[.int .i64 k, .int .i64 n, .int .i64 0, .int .i64 0, .int .i64 0, .int .u64 0, .int .i64 0, .slice none 0 0]).below_ hb1
        have HK1 := Lib.hid hk1
        clear hb0 hb1 hk1
        go_wp2_with fail
        refine (alive20_any _).mono ?_
        rintro e w2 ⟨rfl, hb2⟩
        have HB2 := Lib.hid (HB1.out.trans (hb2.mono HB1.out.size))
        obtain ⟨x0, x1, x2, x3, x4, x5, x6, x7⟩ := (HK1.out.below_ hb2).eight
        clear hb2 HK1 HB1
        by_cases hu : k = 1 ∨ k = 3 ∨ k = 5 ∨ k = 9 ∨ k = 11 ∨ k = 13 ∨ k = 14 ∨ k = 15
        · rcases hu with rfl | rfl | rfl | rfl | rfl | rfl | rfl | rfl
          · go_wp2_with fail
            refine (up_any 1 _).mono ?_
            rintro e w3 ⟨rfl, rfl⟩
            rw [show upB 1 = true from rfl]
            go_wp2_with fail
            rw [← HMK.out]
            refine (valid_any (mk2 1 n) _ none 0 (Reads.none_ _ _ _) (mk2_len _ _)).mono ?_
            rintro e w4 ⟨rfl, hb4⟩
            rw [decide_eq_true HOK.out]
            have HB4 := Lib.hid (HB2.out.trans (hb4.mono HB2.out.size))
            clear hb4
            go_wp2_with fail
            go_ret
            exact ⟨rfl, HB4.out⟩
          · go_wp2_with fail
            refine (up_any 3 _).mono ?_
            rintro e w3 ⟨rfl, rfl⟩
            rw [show upB 3 = true from rfl]
            go_wp2_with fail
            rw [← HMK.out]
            refine (valid_any (mk2 3 n) _ none 0 (Reads.none_ _ _ _) (mk2_len _ _)).mono ?_
            rintro e w4 ⟨rfl, hb4⟩
            rw [decide_eq_true HOK.out]
            have HB4 := Lib.hid (HB2.out.trans (hb4.mono HB2.out.size))
            clear hb4
            go_wp2_with fail
            go_ret
            exact ⟨rfl, HB4.out⟩
          · go_wp2_with fail
            refine (up_any 5 _).mono ?_
            rintro e w3 ⟨rfl, rfl⟩
            rw [show upB 5 = true from rfl]
            go_wp2_with fail
            rw [← HMK.out]
            refine (valid_any (mk2 5 n) _ none 0 (Reads.none_ _ _ _) (mk2_len _ _)).mono ?_
            rintro e w4 ⟨rfl, hb4⟩
            rw [decide_eq_true HOK.out]
            have HB4 := Lib.hid (HB2.out.trans (hb4.mono HB2.out.size))
            clear hb4
            go_wp2_with fail
            go_ret
            exact ⟨rfl, HB4.out⟩
          · go_wp2_with fail
            refine (up_any 9 _).mono ?_
            rintro e w3 ⟨rfl, rfl⟩
            rw [show upB 9 = true from rfl]
            go_wp2_with fail
            rw [← HMK.out]
            refine (valid_any (mk2 9 n) _ none 0 (Reads.none_ _ _ _) (mk2_len _ _)).mono ?_
            rintro e w4 ⟨rfl, hb4⟩
            rw [decide_eq_true HOK.out]
            have HB4 := Lib.hid (HB2.out.trans (hb4.mono HB2.out.size))
            clear hb4
            go_wp2_with fail
            go_ret
            exact ⟨rfl, HB4.out⟩
          · go_wp2_with fail
            refine (up_any 11 _).mono ?_
            rintro e w3 ⟨rfl, rfl⟩
            rw [show upB 11 = true from rfl]
            go_wp2_with fail
            rw [← HMK.out]
            refine (valid_any (mk2 11 n) _ none 0 (Reads.none_ _ _ _) (mk2_len _ _)).mono ?_
            rintro e w4 ⟨rfl, hb4⟩
            rw [decide_eq_true HOK.out]
            have HB4 := Lib.hid (HB2.out.trans (hb4.mono HB2.out.size))
            clear hb4
            go_wp2_with fail
            go_ret
            exact ⟨rfl, HB4.out⟩
          · go_wp2_with fail
            refine (up_any 13 _).mono ?_
            rintro e w3 ⟨rfl, rfl⟩
            rw [show upB 13 = true from rfl]
            go_wp2_with fail
            rw [← HMK.out]
            refine (valid_any (mk2 13 n) _ none 0 (Reads.none_ _ _ _) (mk2_len _ _)).mono ?_
            rintro e w4 ⟨rfl, hb4⟩
            rw [decide_eq_true HOK.out]
            have HB4 := Lib.hid (HB2.out.trans (hb4.mono HB2.out.size))
            clear hb4
            go_wp2_with fail
            go_ret
            exact ⟨rfl, HB4.out⟩
          · go_wp2_with fail
            refine (up_any 14 _).mono ?_
            rintro e w3 ⟨rfl, rfl⟩
            rw [show upB 14 = true from rfl]
            go_wp2_with fail
            rw [← HMK.out]
            refine (valid_any (mk2 14 n) _ none 0 (Reads.none_ _ _ _) (mk2_len _ _)).mono ?_
            rintro e w4 ⟨rfl, hb4⟩
            rw [decide_eq_true HOK.out]
            have HB4 := Lib.hid (HB2.out.trans (hb4.mono HB2.out.size))
            clear hb4
            go_wp2_with fail
            go_ret
            exact ⟨rfl, HB4.out⟩
          · go_wp2_with fail
            refine (up_any 15 _).mono ?_
            rintro e w3 ⟨rfl, rfl⟩
            rw [show upB 15 = true from rfl]
            go_wp2_with fail
            rw [← HMK.out]
            refine (valid_any (mk2 15 n) _ none 0 (Reads.none_ _ _ _) (mk2_len _ _)).mono ?_
            rintro e w4 ⟨rfl, hb4⟩
            rw [decide_eq_true HOK.out]
            have HB4 := Lib.hid (HB2.out.trans (hb4.mono HB2.out.size))
            clear hb4
            go_wp2_with fail
            go_ret
            exact ⟨rfl, HB4.out⟩
        · have hU := (show upB k = false from decide_eq_false hu)
          have HU := Lib.hid hU
          have u0 : (k == 1) = false := beq_eq_false_iff_ne.2 (by omega)
          have u1 : (k == 3) = false := beq_eq_false_iff_ne.2 (by omega)
          have u2 : (k == 5) = false := beq_eq_false_iff_ne.2 (by omega)
          have u3 : (k == 9) = false := beq_eq_false_iff_ne.2 (by omega)
          have u4 : (k == 11) = false := beq_eq_false_iff_ne.2 (by omega)
          have u5 : (k == 13) = false := beq_eq_false_iff_ne.2 (by omega)
          have u6 : (k == 14) = false := beq_eq_false_iff_ne.2 (by omega)
          have u7 : (k == 15) = false := beq_eq_false_iff_ne.2 (by omega)
          clear hu hU
          go_wp2_with fail
          refine (up_any k _).mono ?_
          rintro e w3 ⟨rfl, rfl⟩
          rw [show upB k = false from HU.out]
          go_wp2_with fail
          rw [← HMK.out]
          refine (valid_any (mk2 k n) _ none 0 (Reads.none_ _ _ _) (mk2_len _ _)).mono ?_
          rintro e w4 ⟨rfl, hb4⟩
          rw [decide_eq_true HOK.out]
          have HB4 := Lib.hid (HB2.out.trans (hb4.mono HB2.out.size))
          clear hb4
          go_wp2_with fail
          go_ret
          exact ⟨rfl, HB4.out⟩
      · have hok : ¬ (mk2 k n).ok := fun h => hg ((mk2_ok k n).1 h)
        have p1 : (mk2 k n).putS = ⟨#[]⟩ := if_neg hok
        have p2 : (mk2 k n).putE = 1 := if_neg hok
        have P1 := Lib.hid p1
        have P2 := Lib.hid p2
        have HOK := Lib.hid hok
        have hgd : (decide (1 ≤ k) && decide (k ≤ 15) && decide (0 ≤ n) && decide (n ≤ 2147483647)) = false := by
          rw [Bool.eq_false_iff]
          intro h
          simp only [Bool.and_eq_true, decide_eq_true_eq] at h
          exact hg ⟨⟨h.1.1.1, h.1.1.2⟩, h.1.2, h.2⟩
        have HGD := Lib.hid hgd
        have HG := Lib.hid hg
        clear p1 p2 hok hgd hg
        go_wp2_with fail
        rw [← HMK.out]
        refine (put_any (mk2 k n) _ none 0 (Reads.none_ _ _ _) (mk2_len _ _) (mk2_ep _ _)).mono ?_
        rintro e w1 ⟨rfl, hb1⟩
        rw [P1.out, P2.out, HMK.out]
        have hb0 := (Below.refl w.heap.size w).alloc (Nat.le_refl _) (.cells #[.int .i64 k, .int .i64 n, .int .i64 0, .int .i64 0, .int .i64 0, .int .u64 0, .int .i64 0, .slice none 0 0] 26)
        have HB1 := Lib.hid (hb0.trans (hb1.mono hb0.size))
        have hk1 := (Blk.new w 26 #[.int .i64 k, .int .i64 n, .int .i64 0, .int .i64 0, .int .i64 0, .int .u64 0, .int .i64 0, .slice none 0 0]).below_ hb1
        have HK1 := Lib.hid hk1
        clear hb0 hb1 hk1
        go_upto_region 9 with (fail)
        go_cut [10] from 27 to 40 (fun t10 wx => t10 = .bool false ∧ wx = w1)
        case first =>
          by_cases q1 : 1 ≤ k
          · by_cases q2 : k ≤ 15
            · by_cases q3 : 0 ≤ n
              · have q4 : ¬ n ≤ 2147483647 := fun h => HG.out ⟨⟨q1, q2⟩, q3, h⟩
                go_wp2_with fail
                go_meet
                case rel => exact ⟨rfl, rfl⟩
              · go_wp2_with fail
                go_meet
                case rel => exact ⟨rfl, rfl⟩
            · go_wp2_with fail
              go_meet
              case rel => exact ⟨rfl, rfl⟩
          · go_wp2_with fail
            go_meet
            case rel => exact ⟨rfl, rfl⟩
        case rest =>
          obtain ⟨rfl, rfl⟩ := hcut
          go_wp2_with fail
          refine (alive20_any _).mono ?_
          rintro e w2 ⟨rfl, hb2⟩
          have HB2 := Lib.hid (HB1.out.trans (hb2.mono HB1.out.size))
          obtain ⟨x0, x1, x2, x3, x4, x5, x6, x7⟩ := (HK1.out.below_ hb2).eight
          clear hb2 HK1 HB1
          by_cases hu : k = 1 ∨ k = 3 ∨ k = 5 ∨ k = 9 ∨ k = 11 ∨ k = 13 ∨ k = 14 ∨ k = 15
          · rcases hu with rfl | rfl | rfl | rfl | rfl | rfl | rfl | rfl
            · go_wp2_with fail
              refine (up_any 1 _).mono ?_
              rintro e w3 ⟨rfl, rfl⟩
              rw [show upB 1 = true from rfl]
              go_wp2_with fail
              rw [← HMK.out]
              refine (valid_any (mk2 1 n) _ none 0 (Reads.none_ _ _ _) (mk2_len _ _)).mono ?_
              rintro e w4 ⟨rfl, hb4⟩
              rw [decide_eq_false HOK.out]
              have HB4 := Lib.hid (HB2.out.trans (hb4.mono HB2.out.size))
              clear hb4
              go_wp2_with fail
              go_ret
              exact ⟨rfl, HB4.out⟩
            · go_wp2_with fail
              refine (up_any 3 _).mono ?_
              rintro e w3 ⟨rfl, rfl⟩
              rw [show upB 3 = true from rfl]
              go_wp2_with fail
              rw [← HMK.out]
              refine (valid_any (mk2 3 n) _ none 0 (Reads.none_ _ _ _) (mk2_len _ _)).mono ?_
              rintro e w4 ⟨rfl, hb4⟩
              rw [decide_eq_false HOK.out]
              have HB4 := Lib.hid (HB2.out.trans (hb4.mono HB2.out.size))
              clear hb4
              go_wp2_with fail
              go_ret
              exact ⟨rfl, HB4.out⟩
            · go_wp2_with fail
              refine (up_any 5 _).mono ?_
              rintro e w3 ⟨rfl, rfl⟩
              rw [show upB 5 = true from rfl]
              go_wp2_with fail
              rw [← HMK.out]
              refine (valid_any (mk2 5 n) _ none 0 (Reads.none_ _ _ _) (mk2_len _ _)).mono ?_
              rintro e w4 ⟨rfl, hb4⟩
              rw [decide_eq_false HOK.out]
              have HB4 := Lib.hid (HB2.out.trans (hb4.mono HB2.out.size))
              clear hb4
              go_wp2_with fail
              go_ret
              exact ⟨rfl, HB4.out⟩
            · go_wp2_with fail
              refine (up_any 9 _).mono ?_
              rintro e w3 ⟨rfl, rfl⟩
              rw [show upB 9 = true from rfl]
              go_wp2_with fail
              rw [← HMK.out]
              refine (valid_any (mk2 9 n) _ none 0 (Reads.none_ _ _ _) (mk2_len _ _)).mono ?_
              rintro e w4 ⟨rfl, hb4⟩
              rw [decide_eq_false HOK.out]
              have HB4 := Lib.hid (HB2.out.trans (hb4.mono HB2.out.size))
              clear hb4
              go_wp2_with fail
              go_ret
              exact ⟨rfl, HB4.out⟩
            · go_wp2_with fail
              refine (up_any 11 _).mono ?_
              rintro e w3 ⟨rfl, rfl⟩
              rw [show upB 11 = true from rfl]
              go_wp2_with fail
              rw [← HMK.out]
              refine (valid_any (mk2 11 n) _ none 0 (Reads.none_ _ _ _) (mk2_len _ _)).mono ?_
              rintro e w4 ⟨rfl, hb4⟩
              rw [decide_eq_false HOK.out]
              have HB4 := Lib.hid (HB2.out.trans (hb4.mono HB2.out.size))
              clear hb4
              go_wp2_with fail
              go_ret
              exact ⟨rfl, HB4.out⟩
            · go_wp2_with fail
              refine (up_any 13 _).mono ?_
              rintro e w3 ⟨rfl, rfl⟩
              rw [show upB 13 = true from rfl]
              go_wp2_with fail
              rw [← HMK.out]
              refine (valid_any (mk2 13 n) _ none 0 (Reads.none_ _ _ _) (mk2_len _ _)).mono ?_
              rintro e w4 ⟨rfl, hb4⟩
              rw [decide_eq_false HOK.out]
              have HB4 := Lib.hid (HB2.out.trans (hb4.mono HB2.out.size))
              clear hb4
              go_wp2_with fail
              go_ret
              exact ⟨rfl, HB4.out⟩
            · go_wp2_with fail
              refine (up_any 14 _).mono ?_
              rintro e w3 ⟨rfl, rfl⟩
              rw [show upB 14 = true from rfl]
              go_wp2_with fail
              rw [← HMK.out]
              refine (valid_any (mk2 14 n) _ none 0 (Reads.none_ _ _ _) (mk2_len _ _)).mono ?_
              rintro e w4 ⟨rfl, hb4⟩
              rw [decide_eq_false HOK.out]
              have HB4 := Lib.hid (HB2.out.trans (hb4.mono HB2.out.size))
              clear hb4
              go_wp2_with fail
              go_ret
              exact ⟨rfl, HB4.out⟩
            · go_wp2_with fail
              refine (up_any 15 _).mono ?_
              rintro e w3 ⟨rfl, rfl⟩
              rw [show upB 15 = true from rfl]
              go_wp2_with fail
              rw [← HMK.out]
              refine (valid_any (mk2 15 n) _ none 0 (Reads.none_ _ _ _) (mk2_len _ _)).mono ?_
              rintro e w4 ⟨rfl, hb4⟩
              rw [decide_eq_false HOK.out]
              have HB4 := Lib.hid (HB2.out.trans (hb4.mono HB2.out.size))
              clear hb4
              go_wp2_with fail
              go_ret
              exact ⟨rfl, HB4.out⟩
          · have hU := (show upB k = false from decide_eq_false hu)
            have HU := Lib.hid hU
            have u0 : (k == 1) = false := beq_eq_false_iff_ne.2 (by omega)
            have u1 : (k == 3) = false := beq_eq_false_iff_ne.2 (by omega)
            have u2 : (k == 5) = false := beq_eq_false_iff_ne.2 (by omega)
            have u3 : (k == 9) = false := beq_eq_false_iff_ne.2 (by omega)
            have u4 : (k == 11) = false := beq_eq_false_iff_ne.2 (by omega)
            have u5 : (k == 13) = false := beq_eq_false_iff_ne.2 (by omega)
            have u6 : (k == 14) = false := beq_eq_false_iff_ne.2 (by omega)
            have u7 : (k == 15) = false := beq_eq_false_iff_ne.2 (by omega)
            clear hu hU
            go_wp2_with fail
            refine (up_any k _).mono ?_
            rintro e w3 ⟨rfl, rfl⟩
            rw [show upB k = false from HU.out]
            go_wp2_with fail
            rw [← HMK.out]
            refine (valid_any (mk2 k n) _ none 0 (Reads.none_ _ _ _) (mk2_len _ _)).mono ?_
            rintro e w4 ⟨rfl, hb4⟩
            rw [decide_eq_false HOK.out]
            have HB4 := Lib.hid (HB2.out.trans (hb4.mono HB2.out.size))
            clear hb4
            go_wp2_with fail
            go_ret
            exact ⟨rfl, HB4.out⟩
end Go.Proofs.YtoploimpfhnanaaDoor
