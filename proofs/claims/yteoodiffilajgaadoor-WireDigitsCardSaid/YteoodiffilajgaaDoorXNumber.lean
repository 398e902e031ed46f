/- Number: a number from decimal digits, the document's. -/
import Derived.Test.YteoodiffilajgaaDoorNumber
namespace Go.Proofs.YteoodiffilajgaaDoor
open Go.RowKit

set_option maxRecDepth 100000 in
set_option maxHeartbeats 1000000 in
theorem xnumber_any (s : ByteArray) (w : World) (hs : s.size ≤ 300) : Calls Tryd.prog 29 #[.string s] w fun e w' => e = .returned (.tuple #[.int .i64 (numOf (ngD s) (ngB s)).1, .int .i64 (numOf (ngD s) (ngB s)).2]) ∧ w = w' := by
  have hd := Nat.le_trans (ngD_size s) hs
  have HYES := Lib.hid (@ng_yes s)
  have HNO := Lib.hid (@ng_no s)
  generalize ngD s = d at hd HYES HNO ⊢
  generalize ngB s = neg at HYES HNO ⊢
  go_enter Tryd.func29, Tryd.ntmps29
  go_upto_region 1 with (fail)
  go_cut [4] from 7 to 14 (fun t4 wx => t4 = .bool neg ∧ (neg = true → 1 ≤ s.size ∧ d = s.extract 1 s.size) ∧ (neg = false → d = s) ∧ wx = w)
  case first =>
    by_cases h0 : 0 < s.size
    · have h0I : (0 : Int) < (s.size : Int) := by omega
      by_cases h1 : s[0] = 45
      · obtain ⟨rfl, hd2⟩ := HYES.out h0 h1
        have h1I : ((s[0].toNat : Int) == 45) = true := by rw [h1]; rfl
        clear h1
        go_wp2_with fail
        go_meet
        case rel => exact ⟨rfl, fun _ => ⟨by omega, hd2⟩, fun h => absurd h (by decide), by trivial⟩
      · obtain ⟨rfl, hd2⟩ := HNO.out (.inr ⟨h0, h1⟩)
        have h1I : ((s[0].toNat : Int) == 45) = false := by
          rw [beq_eq_false_iff_ne]
          intro h
          have : s[0].toNat = 45 := by omega
          exact h1 (UInt8.toNat_inj.1 this)
        clear h1
        go_wp2_with fail
        go_meet
        case rel => exact ⟨rfl, fun h => absurd h (by decide), fun _ => hd2, by trivial⟩
    · obtain ⟨rfl, hd2⟩ := HNO.out (.inl (by omega))
      have h0I : ¬ (0 : Int) < (s.size : Int) := by omega
      go_wp2_with fail
      go_meet
      case rel => exact ⟨rfl, fun h => absurd h (by decide), fun _ => hd2, by trivial⟩
  case rest =>
    obtain ⟨rfl, hy, hn, rfl⟩ := hcut
    have HYE := Lib.hid hy
    have HNE := Lib.hid hn
    clear HYES HNO hy hn
    go_upto_if 15 with (fail)
    go_cut [0] from 16 to 17 (fun t0 wx => t0 = .string d ∧ wx = wc)
    case first =>
      cases neg with
      | true =>
        obtain ⟨h1, rfl⟩ := HYE.out rfl
        have h1I : (1 : Int) ≤ (s.size : Int) := by omega
        go_wp2_with fail
        go_meet
        case rel => exact ⟨rfl, by trivial⟩
      | false =>
        obtain rfl := HNE.out rfl
        go_wp2_with fail
        go_meet
        case rel => exact ⟨rfl, by trivial⟩
    case rest =>
      obtain ⟨rfl, rfl⟩ := hcut
      clear HYE HNE
      go_upto_region 4 with (fail)
      go_cut [38] from 18 to 38 (fun t38 wx => t38 = .bool (decide (numBad d neg)) ∧ wx = wc)
      case first =>
        by_cases h0 : d.size = 0
        · obtain rfl : d = ⟨#[]⟩ := str_ext (List.eq_nil_of_length_eq_zero h0)
          go_wp2_with fail
          go_meet
          case rel => exact ⟨by rw [decide_eq_true (show numBad _ neg from .inl h0)], rfl⟩
        · have hd1 : 0 < d.size := by omega
          have hte := toList_ne hd1
          have hbi := Lib.hid (numBad_iff hd1 neg)
          go_wp2_with fail
          all_goals
            go_meet
            case rel =>
              refine ⟨?_, rfl⟩
              congr 1
              rw [Bool.eq_iff_iff, decide_eq_true_iff, hbi.out]
              simp_all
              first
                | done
                | (have e1 : ((d.size : Int) < 1) = False := eq_false (by omega)
                   rw [e1, false_or])
                | omega
      case rest =>
        obtain ⟨rfl, rfl⟩ := hcut
        by_cases hb : numBad d neg
        · have E := Lib.hid (show numOf d neg = (0, 1) from if_pos hb)
          rw [decide_eq_true hb]
          clear hb
          go_wp2_with fail
          go_ret2
          exact ⟨by rw [E.out]; rfl, rfl⟩
        · rw [decide_eq_false hb]
          have E := Lib.hid (show numOf d neg = (match numF d.data.toList 0 with | none => (0, 1) | some v => (if neg then -(v : Int) else (v : Int), 0)) from if_neg hb)
          have hd18 : d.size ≤ 18 := by unfold numBad at hb; omega
          clear hb
          go_wp2_with fail
          go_loop [5, 6] (fun t5 t6 => ∃ k v : Nat, k ≤ d.size ∧ t6 = .int .i64 k ∧ t5 = .int .i64 v ∧ numF (d.data.toList.drop k) v = numF d.data.toList 0 ∧ v < 10 ^ k) (fun _ t6 => d.size - (intOf t6).toNat)
          case atStart => exact ⟨0, 0, Nat.zero_le _, rfl, rfl, rfl, by omega⟩
          case round =>
            obtain ⟨k, v, hk, rfl, rfl, hF, hv⟩ := hrel
            have hv18 : v < 1000000000000000000 := Nat.lt_of_lt_of_le hv (show 10 ^ k ≤ 10 ^ 18 from Nat.pow_le_pow_right (by omega) (by omega))
            have HF := Lib.hid hF
            have HV := Lib.hid hv
            clear hF hv
            by_cases hlt : k < d.size
            · have hltI : (k : Int) < (d.size : Int) := by omega
              have HD := Lib.hid (numF_drop (v := v) hlt)
              have hv17 : k + 1 ≤ 18 := by omega
              have hb1 : 48 ≤ d[k].toNat → d[k].toNat ≤ 57 → (v : Int) * 10 + (d[k].toNat - 48) < 1000000000000000000 := by
                intro h1 h2
                have h3 := HV.out
                have h4 : 10 ^ (k + 1) ≤ 10 ^ 18 := Nat.pow_le_pow_right (by omega) hv17
                rw [Nat.pow_succ] at h4
                omega
              by_cases hlo : d[k].toNat < 48
              · have hloI : (d[k].toNat : Int) < 48 := by omega
                have E2 := Lib.hid (show numF d.data.toList 0 = none by rw [← HF.out, HD.out, if_pos (.inl hlo)])
                go_wp2_with fail
                go_ret2
                exact ⟨by rw [E.out, E2.out]; rfl, rfl⟩
              · by_cases hhi : 57 < d[k].toNat
                · have hhiI : (57 : Int) < (d[k].toNat : Int) := by omega
                  have hloI : ¬ (d[k].toNat : Int) < 48 := by omega
                  have E2 := Lib.hid (show numF d.data.toList 0 = none by rw [← HF.out, HD.out, if_pos (.inr hhi)])
                  go_wp2_with fail
                  go_ret2
                  exact ⟨by rw [E.out, E2.out]; rfl, rfl⟩
                · have hhiI : ¬ (57 : Int) < (d[k].toNat : Int) := by omega
                  have hloI : ¬ (d[k].toNat : Int) < 48 := by omega
                  have hb2 := hb1 (by omega) (by omega)
                  clear hb1
                  go_wp2_with fail
                  go_round
                  case rel =>
                    have h3 := HV.out
                    refine ⟨k + 1, v * 10 + (d[k].toNat - 48), by omega, by go_num, ?_, by rw [← HF.out, HD.out, if_neg (by omega)], by rw [Nat.pow_succ]; omega⟩
                    congr 1
                    omega
                  case measure => simp [intOf]; omega
            · have hltI : ¬ (k : Int) < (d.size : Int) := by omega
              have E2 := Lib.hid (show numF d.data.toList 0 = some v by
                rw [← HF.out, List.drop_of_length_le (show d.data.toList.length ≤ k by show d.size ≤ k; omega)]
                rfl)
              cases neg with
              | true =>
                go_wp2_with fail
                go_ret2
                exact ⟨by rw [E.out, E2.out]; rfl, rfl⟩
              | false =>
                go_wp2_with fail
                go_ret2
                exact ⟨by rw [E.out, E2.out]; rfl, rfl⟩
end Go.Proofs.YteoodiffilajgaaDoor
