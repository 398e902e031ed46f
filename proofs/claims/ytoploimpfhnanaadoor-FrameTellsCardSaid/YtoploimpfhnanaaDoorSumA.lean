/- The check sum: Of, and the document's Sum. -/
import Derived.Test.YtoploimpfhnanaaDoorSumP
import Derived.Test.YtoploimpfhnanaaDoorRows0
import Derived.Outline
namespace Go.Proofs.YtoploimpfhnanaaDoor
open Go.RowKit

theorem xor_is {a b : Nat} (ha : a < 4294967296) (hb : b < 4294967296) : bits BinOp.xor IntKind.u32 (a : Int) (b : Int) = ((a ^^^ b : Nat) : Int) := by
  have e4 : (BitVec.ofInt IntKind.u32.bits (a : Int) ^^^ BitVec.ofInt IntKind.u32.bits (b : Int)).toNat = a ^^^ b := by
    rw [BitVec.toNat_xor, BitVec.ofInt_natCast, BitVec.ofInt_natCast, BitVec.toNat_ofNat, BitVec.toNat_ofNat]
    have hbits : 2 ^ IntKind.u32.bits = 4294967296 := rfl
    rw [hbits, Nat.mod_eq_of_lt ha, Nat.mod_eq_of_lt hb]
  have hl : a ^^^ b < 4294967296 := Nat.xor_lt_two_pow (n := 32) ha hb
  unfold bits
  simp only [e4]
  rw [IntKind.wrap_u32]
  omega
theorem and_is {a : Nat} (ha : a < 4294967296) : bits BinOp.and IntKind.u32 (a : Int) 1 = ((a % 2 : Nat) : Int) := by
  have e4 : (BitVec.ofInt IntKind.u32.bits (a : Int) &&& BitVec.ofInt IntKind.u32.bits 1).toNat = a % 2 := by
    rw [BitVec.toNat_and, BitVec.ofInt_natCast, BitVec.toNat_ofNat]
    have hbits : 2 ^ IntKind.u32.bits = 4294967296 := rfl
    rw [hbits, Nat.mod_eq_of_lt ha, show (BitVec.ofInt IntKind.u32.bits 1).toNat = 1 from rfl, Nat.and_one_is_mod]
  unfold bits
  simp only [e4]
  rw [IntKind.wrap_u32]
  omega
theorem nat_not {x : Nat} (h : x < 4294967296) : 4294967295 ^^^ x = 4294967295 - x := by
  have e1 : (~~~(BitVec.ofNat 32 x)).toNat = 4294967295 - x := by
    rw [BitVec.toNat_not, BitVec.toNat_ofNat, Nat.mod_eq_of_lt h]
  rw [BitVec.not_def, BitVec.toNat_xor, BitVec.toNat_allOnes, BitVec.toNat_ofNat, Nat.mod_eq_of_lt h] at e1
  exact e1
theorem xor_max {x : Nat} (h : x < 4294967296) : bits BinOp.xor IntKind.u32 IntKind.u32.max (x : Int) = 4294967295 - (x : Int) := by
  have e := xor_is (a := 4294967295) (by decide) h
  rw [nat_not h] at e
  rw [show IntKind.u32.max = ((4294967295 : Nat) : Int) from rfl, e]
  omega
theorem xor_half {y : Nat} (h : y < 4294967296) : bits BinOp.xor IntKind.u32 ((y : Int) / 2) 3988292384 = ((y / 2 ^^^ 3988292384 : Nat) : Int) := by
  have e := xor_is (a := y / 2) (b := 3988292384) (by omega) (by decide)
  rw [← e, Int.natCast_ediv]
  rfl
theorem take_snoc' (s : ByteArray) (k : Nat) (h : k < s.size) : s.data.toList.take (k + 1) = s.data.toList.take k ++ [s[k]] := by
  rw [List.take_succ_eq_append_getElem (by simpa using h)]; rfl
set_option maxRecDepth 100000 in
set_option maxHeartbeats 2000000 in
theorem of_any (s : ByteArray) (w : World) (g : Nat) (hc : w.cell? ⟨g, 0, none⟩ = some (.string s)) (hs : s.size ≤ maxLen) :
    Calls Tryd.prog 86 #[.slice (some ⟨g, 0, none⟩) 1 1] w fun e w' => e = .returned (.int .u32 (sumOf s.data.toList : Int)) ∧ w = w' := by
  unfold maxLen at hs
  go_enter Tryd.func86, Tryd.ntmps86
  go_wp2_with fail
  go_loop [3, 10] (fun t3 t10 => ∃ k : Nat, k ≤ 1 ∧ t10 = .int .i64 k ∧ t3 = .int .u32 ((if k = 0 then 4294967295 else crc 4294967295 s.data.toList : Nat) : Int)) (fun _ t10 => 1 - (intOf t10).toNat)
  case atStart => exact ⟨0, by omega, rfl, rfl⟩
  case round =>
    obtain ⟨k, hk, rfl, rfl⟩ := hrel
    have hk01 : k = 0 ∨ k = 1 := by omega
    rcases hk01 with rfl | rfl
    · rw [if_pos rfl]
      go_wp2_with fail
      go_loop [3, 16] (fun t3 t16 => ∃ i : Nat, i ≤ s.size ∧ t16 = .int .i64 i ∧ t3 = .int .u32 (crc 4294967295 (s.data.toList.take i) : Int)) (fun _ t16 => s.size - (intOf t16).toNat)
      case atStart => exact ⟨0, by omega, rfl, rfl⟩
      case round =>
        obtain ⟨i, hi, rfl, rfl⟩ := hrel
        by_cases hlt : i < s.size
        · have hltI : (i : Int) < (s.size : Int) := by omega
          obtain ⟨x, hx⟩ : ∃ x, x = crc 4294967295 (s.data.toList.take i) := ⟨_, rfl⟩
          have hxl : x < 4294967296 := by rw [hx]; exact crc_lt (by decide) _
          rw [← hx]
          have hcr : crc 4294967295 (s.data.toList.take (i + 1)) = crcByte x s[i] := by rw [take_snoc' s i hlt, crc_snoc, hx]
          have HCR := Lib.hid hcr
          have hbl : s[i].toNat < 4294967296 := by have := s[i].toNat_lt; omega
          have hxo := xor_is hxl hbl
          have hyl := xb_lt hxl s[i]
          clear hx hcr
          go_wp2_with fail
          go_loop [3, 25] (fun t3 t25 => ∃ j : Nat, j ≤ 8 ∧ t25 = .int .i64 j ∧ t3 = .int .u32 (crcBits (x ^^^ s[i].toNat) j : Int)) (fun _ t25 => 8 - (intOf t25).toNat)
          case atStart => exact ⟨0, by omega, rfl, rfl⟩
          case round =>
            obtain ⟨j, hj, rfl, rfl⟩ := hrel
            obtain ⟨y, hy⟩ : ∃ y, y = crcBits (x ^^^ s[i].toNat) j := ⟨_, rfl⟩
            have hyl2 : y < 4294967296 := by rw [hy]; exact crcBits_lt hyl j
            rw [← hy]
            have hyb : crcBits (x ^^^ s[i].toNat) (j + 1) = crcBit y := by rw [crcBits, hy]
            have HYB := Lib.hid hyb
            clear hyb hxo
            by_cases hlt8 : j < 8
            · have hltI8 : (j : Int) < 8 := by omega
              have han := and_is hyl2
              have hx2 := xor_half hyl2
              clear hy
              by_cases ho : y % 2 = 1
              · have ho' : ((y % 2 : Nat) : Int) = 1 := by omega
                rw [ho'] at han
                have hcb : crcBit y = y / 2 ^^^ 3988292384 := if_pos ho
                have HCB := Lib.hid hcb
                clear hcb ho ho'
                go_wp2_with fail
                go_round
                case rel => exact ⟨j + 1, by omega, by go_num, by rw [HYB.out, HCB.out]⟩
                case measure => simp [intOf]; omega
              · have ho' : ((y % 2 : Nat) : Int) = 0 := by omega
                rw [ho'] at han
                have hcb : crcBit y = y / 2 := if_neg ho
                have HCB := Lib.hid hcb
                clear hcb ho ho' hx2
                go_wp2_with fail
                go_round
                case rel => exact ⟨j + 1, by omega, by go_num, by rw [HYB.out, HCB.out]; go_num⟩
                case measure => simp [intOf]; omega
            · have hltI8 : ¬ (j : Int) < 8 := by omega
              obtain rfl : j = 8 := by omega
              have HY := Lib.hid (show y = crcByte x s[i] from hy)
              clear hy
              go_wp2_with fail
              go_round
              case rel => exact ⟨i + 1, by omega, by go_num, by rw [HCR.out, HY.out]⟩
              case measure => simp [intOf]; omega
        · have hltI : ¬ (i : Int) < (s.size : Int) := by omega
          obtain rfl : i = s.size := by omega
          rw [show s.data.toList.take s.size = s.data.toList from List.take_of_length_le (Nat.le_refl s.data.toList.length)]
          go_wp2_with fail
          go_round
          case rel => exact ⟨1, by omega, by go_num, rfl⟩
          case measure => simp [intOf]
    · rw [if_neg (by decide)]
      have hcl := crc_lt (x := 4294967295) (by decide) s.data.toList
      have hsm : ((sumOf s.data.toList : Nat) : Int) = 4294967295 - (crc 4294967295 s.data.toList : Int) := by unfold sumOf; omega
      have HSM := Lib.hid hsm
      clear hsm
      generalize crc 4294967295 s.data.toList = x at hcl HSM ⊢
      have hxm := xor_max hcl
      go_wp2_with fail
      go_ret
      exact ⟨by rw [HSM.out]; rfl, rfl⟩
set_option maxRecDepth 100000 in
set_option maxHeartbeats 2000000 in
theorem xsum_any (s : ByteArray) (w : World) (hs : s.size ≤ maxLen) :
    Calls Tryd.prog 89 #[.string s] w fun e w' => e = .returned (.int .u32 (sumOf s.data.toList : Int)) ∧ w = w' := by
  unfold maxLen at hs
  go_enter Tryd.func89, Tryd.ntmps89
  go_wp2_with fail
  go_loop [3, 4] (fun t3 t4 => ∃ i : Nat, i ≤ s.size ∧ t4 = .int .i64 i ∧ t3 = .int .u32 (crc 4294967295 (s.data.toList.take i) : Int)) (fun _ t4 => s.size - (intOf t4).toNat)
  case atStart => exact ⟨0, by omega, rfl, rfl⟩
  case round =>
    obtain ⟨i, hi, rfl, rfl⟩ := hrel
    by_cases hlt : i < s.size
    · have hltI : (i : Int) < (s.size : Int) := by omega
      obtain ⟨x, hx⟩ : ∃ x, x = crc 4294967295 (s.data.toList.take i) := ⟨_, rfl⟩
      have hxl : x < 4294967296 := by rw [hx]; exact crc_lt (by decide) _
      rw [← hx]
      have hcr : crc 4294967295 (s.data.toList.take (i + 1)) = crcByte x s[i] := by rw [take_snoc' s i hlt, crc_snoc, hx]
      have HCR := Lib.hid hcr
      have hbl : s[i].toNat < 4294967296 := by have := s[i].toNat_lt; omega
      have hxo := xor_is hxl hbl
      have hyl := xb_lt hxl s[i]
      clear hx hcr
      go_wp2_with fail
      go_loop [3, 5] (fun t3 t5 => ∃ j : Nat, j ≤ 8 ∧ t5 = .int .i64 j ∧ t3 = .int .u32 (crcBits (x ^^^ s[i].toNat) j : Int)) (fun _ t5 => 8 - (intOf t5).toNat)
      case atStart => exact ⟨0, by omega, rfl, rfl⟩
      case round =>
        obtain ⟨j, hj, rfl, rfl⟩ := hrel
        obtain ⟨y, hy⟩ : ∃ y, y = crcBits (x ^^^ s[i].toNat) j := ⟨_, rfl⟩
        have hyl2 : y < 4294967296 := by rw [hy]; exact crcBits_lt hyl j
        rw [← hy]
        have hyb : crcBits (x ^^^ s[i].toNat) (j + 1) = crcBit y := by rw [crcBits, hy]
        have HYB := Lib.hid hyb
        clear hyb hxo
        by_cases hlt8 : j < 8
        · have hltI8 : (j : Int) < 8 := by omega
          have hx2 := xor_half hyl2
          clear hy
          by_cases ho : y % 2 = 1
          · have hb : ((y : Int) % 2 == 1) = true := by rw [beq_iff_eq]; omega
            have hcb : crcBit y = y / 2 ^^^ 3988292384 := if_pos ho
            have HCB := Lib.hid hcb
            clear hcb ho
            go_wp2_with fail
            go_round
            case rel => exact ⟨j + 1, by omega, by go_num, by rw [HYB.out, HCB.out]⟩
            case measure => simp [intOf]; omega
          · have hb : ((y : Int) % 2 == 1) = false := by rw [beq_eq_false_iff_ne]; omega
            have hcb : crcBit y = y / 2 := if_neg ho
            have HCB := Lib.hid hcb
            clear hcb ho hx2
            go_wp2_with fail
            go_round
            case rel => exact ⟨j + 1, by omega, by go_num, by rw [HYB.out, HCB.out]; go_num⟩
            case measure => simp [intOf]; omega
        · have hltI8 : ¬ (j : Int) < 8 := by omega
          obtain rfl : j = 8 := by omega
          have HY := Lib.hid (show y = crcByte x s[i] from hy)
          clear hy
          go_wp2_with fail
          go_round
          case rel => exact ⟨i + 1, by omega, by go_num, by rw [HCR.out, HY.out]⟩
          case measure => simp [intOf]; omega
    · have hltI : ¬ (i : Int) < (s.size : Int) := by omega
      obtain rfl : i = s.size := by omega
      rw [show s.data.toList.take s.size = s.data.toList from List.take_of_length_le (Nat.le_refl s.data.toList.length)]
      have hcl := crc_lt (x := 4294967295) (by decide) s.data.toList
      have hsm : ((sumOf s.data.toList : Nat) : Int) = 4294967295 - (crc 4294967295 s.data.toList : Int) := by unfold sumOf; omega
      have HSM := Lib.hid hsm
      clear hsm
      generalize crc 4294967295 s.data.toList = x at hcl HSM ⊢
      go_wp2_with fail
      go_ret
      exact ⟨by rw [HSM.out]; rfl, rfl⟩
end Go.Proofs.YtoploimpfhnanaaDoor
