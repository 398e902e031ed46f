/- The check sum: Of, and the document's Sum. -/
import Derived.Test.YtianlhigeabehaaGreatDoorKMapR
import Derived.Test.YtianlhigeabehaaGreatDoorKRows0
import Derived.Outline
import Derived.Test.YtianlhigeabehaaGreatDoorKWireP
namespace Go.Proofs.YtianlhigeabehaaGreatDoor
open Go.RowKit

theorem xor_is {a b : Nat} (ha : a < 4294967296) (hb : b < 4294967296) : bits BinOp.xor IntKind.u32 (a : Int) (b : Int) = ((a ^^^ b : Nat) : Int) := by
  have e4 : (BitVec.ofInt IntKind.u32.bits (a : Int) ^^^ BitVec.ofInt IntKind.u32.bits (b : Int)).toNat = a ^^^ b := by
    rw [BitVec.toNat_xor, BitVec.ofInt_natCast, BitVec.ofInt_natCast, BitVec.toNat_ofNat, BitVec.toNat_ofNat]
    have hbits : 2 ^ IntKind.u32.bits = 4294967296 := rfl
    rw [hbits, Nat.mod_eq_of_lt ha, Nat.mod_eq_of_lt hb]
  have hl : a ^^^ b < 4294967296 := Nat.xor_lt_two_pow (n := 32) ha hb
  unfold bits
  simp only [e4]
  rw [IntKind.wrap_u32]
  omega
theorem and_is {a : Nat} (ha : a < 4294967296) : bits BinOp.and IntKind.u32 (a : Int) 1 = ((a % 2 : Nat) : Int) := by
  have e4 : (BitVec.ofInt IntKind.u32.bits (a : Int) &&& BitVec.ofInt IntKind.u32.bits 1).toNat = a % 2 := by
    rw [BitVec.toNat_and, BitVec.ofInt_natCast, BitVec.toNat_ofNat]
    have hbits : 2 ^ IntKind.u32.bits = 4294967296 := rfl
    rw [hbits, Nat.mod_eq_of_lt ha, show (BitVec.ofInt IntKind.u32.bits 1).toNat = 1 from rfl, Nat.and_one_is_mod]
  unfold bits
  simp only [e4]
  rw [IntKind.wrap_u32]
  omega
theorem nat_not {x : Nat} (h : x < 4294967296) : 4294967295 ^^^ x = 4294967295 - x := by
  have e1 : (~~~(BitVec.ofNat 32 x)).toNat = 4294967295 - x := by
    rw [BitVec.toNat_not, BitVec.toNat_ofNat, Nat.mod_eq_of_lt h]
  rw [BitVec.not_def, BitVec.toNat_xor, BitVec.toNat_allOnes, BitVec.toNat_ofNat, Nat.mod_eq_of_lt h] at e1
  exact e1
theorem xor_max {x : Nat} (h : x < 4294967296) : bits BinOp.xor IntKind.u32 IntKind.u32.max (x : Int) = 4294967295 - (x : Int) := by
  have e := xor_is (a := 4294967295) (by decide) h
  rw [nat_not h] at e
  rw [show IntKind.u32.max = ((4294967295 : Nat) : Int) from rfl, e]
  omega
theorem xor_half {y : Nat} (h : y < 4294967296) : bits BinOp.xor IntKind.u32 ((y : Int) / 2) 3988292384 = ((y / 2 ^^^ 3988292384 : Nat) : Int) := by
  have e := xor_is (a := y / 2) (b := 3988292384) (by omega) (by decide)
  rw [← e, Int.natCast_ediv]
  rfl
theorem take_snoc' (s : ByteArray) (k : Nat) (h : k < s.size) : s.data.toList.take (k + 1) = s.data.toList.take k ++ [s[k]] := by
  rw [List.take_succ_eq_append_getElem (by simpa using h)]; rfl
set_option maxRecDepth 100000 in
set_option maxHeartbeats 2000000 in
theorem of_any (s : ByteArray) (w : World) (g : Nat) (hc : w.cell? ⟨g, 0, none⟩ = some (.string s)) (hs : s.size ≤ maxLen) :
    Calls Tryz.prog 120 #[.slice (some ⟨g, 0, none⟩) 1 1] w fun e w' => e = .returned (.int .u32 (sumOf s.data.toList : Int)) ∧ w = w' := by
  unfold maxLen at hs
  go_enter Tryz.func120, Tryz.ntmps120
  go_wp2_with fail
  go_loop [3, 10] (fun t3 t10 => ∃ k : Nat, k ≤ 1 ∧ t10 = .int .i64 k ∧ t3 = .int .u32 ((if k = 0 then 4294967295 else crc 4294967295 s.data.toList : Nat) : Int)) (fun _ t10 => 1 - (intOf t10).toNat)
  case atStart => exact ⟨0, by omega, rfl, rfl⟩
  case round =>
    obtain ⟨k, hk, rfl, rfl⟩ := hrel
    have hk01 : k = 0 ∨ k = 1 := by omega
    rcases hk01 with rfl | rfl
    · rw [if_pos rfl]
      go_wp2_with fail
      go_loop [3, 16] (fun t3 t16 => ∃ i : Nat, i ≤ s.size ∧ t16 = .int .i64 i ∧ t3 = .int .u32 (crc 4294967295 (s.data.toList.take i) : Int)) (fun _ t16 => s.size - (intOf t16).toNat)
      case atStart => exact ⟨0, by omega, rfl, rfl⟩
      case round =>
        obtain ⟨i, hi, rfl, rfl⟩ := hrel
        by_cases hlt : i < s.size
        · have hltI : (i : Int) < (s.size : Int) := by omega
          obtain ⟨x, hx⟩ : ∃ x, x = crc 4294967295 (s.data.toList.take i) := ⟨_, rfl⟩
          have hxl : x < 4294967296 := by rw [hx]; exact crc_lt (by decide) _
          rw [← hx]
          have hcr : crc 4294967295 (s.data.toList.take (i + 1)) = crcByte x s[i] := by rw [take_snoc' s i hlt, crc_snoc, hx]
          have HCR := Lib.hid hcr
          have hbl : s[i].toNat < 4294967296 := by have := s[i].toNat_lt; omega
          have hxo := xor_is hxl hbl
          have hyl := xb_lt hxl s[i]
          clear hx hcr
          go_wp2_with fail
          go_loop [3, 25] (fun t3 t25 => ∃ j : Nat, j ≤ 8 ∧ t25 = .int .i64 j ∧ t3 = .int .u32 (crcBits (x ^^^ s[i].toNat) j : Int)) (fun _ t25 => 8 - (intOf t25).toNat)
          case atStart => exact ⟨0, by omega, rfl, rfl⟩
          case round =>
            obtain ⟨j, hj, rfl, rfl⟩ := hrel
            obtain ⟨y, hy⟩ : ∃ y, y = crcBits (x ^^^ s[i].toNat) j := ⟨_, rfl⟩
            have hyl2 : y < 4294967296 := by rw [hy]; exact crcBits_lt hyl j
            rw [← hy]
            have hyb : crcBits (x ^^^ s[i].toNat) (j + 1) = crcBit y := by rw [crcBits, hy]
            have HYB := Lib.hid hyb
            clear hyb hxo
            by_cases hlt8 : j < 8
            · have hltI8 : (j : Int) < 8 := by omega
              have han := and_is hyl2
              have hx2 := xor_half hyl2
              clear hy
              by_cases ho : y % 2 = 1
              · have ho' : ((y % 2 : Nat) : Int) = 1 := by omega
                rw [ho'] at han
                have hcb : crcBit y = y / 2 ^^^ 3988292384 := if_pos ho
                have HCB := Lib.hid hcb
                clear hcb ho ho'
                go_wp2_with fail
                go_round
                case rel => exact ⟨j + 1, by omega, by go_num, by rw [HYB.out, HCB.out]⟩
                case measure => simp [intOf]; omega
              · have ho' : ((y % 2 : Nat) : Int) = 0 := by omega
                rw [ho'] at han
                have hcb : crcBit y = y / 2 := if_neg ho
                have HCB := Lib.hid hcb
                clear hcb ho ho' hx2
                go_wp2_with fail
                go_round
                case rel => exact ⟨j + 1, by omega, by go_num, by rw [HYB.out, HCB.out]; go_num⟩
                case measure => simp [intOf]; omega
            · have hltI8 : ¬ (j : Int) < 8 := by omega
              obtain rfl : j = 8 := by omega
              have HY := Lib.hid (show y = crcByte x s[i] from hy)
              clear hy
              go_wp2_with fail
              go_round
              case rel => exact ⟨i + 1, by omega, by go_num, by rw [HCR.out, HY.out]⟩
              case measure => simp [intOf]; omega
        · have hltI : ¬ (i : Int) < (s.size : Int) := by omega
          obtain rfl : i = s.size := by omega
          rw [show s.data.toList.take s.size = s.data.toList from List.take_of_length_le (Nat.le_refl s.data.toList.length)]
          go_wp2_with fail
          go_round
          case rel => exact ⟨1, by omega, by go_num, rfl⟩
          case measure => simp [intOf]
    · rw [if_neg (by decide)]
      have hcl := crc_lt (x := 4294967295) (by decide) s.data.toList
      have hsm : ((sumOf s.data.toList : Nat) : Int) = 4294967295 - (crc 4294967295 s.data.toList : Int) := by unfold sumOf; omega
      have HSM := Lib.hid hsm
      clear hsm
      generalize crc 4294967295 s.data.toList = x at hcl HSM ⊢
      have hxm := xor_max hcl
      go_wp2_with fail
      go_ret
      exact ⟨by rw [HSM.out]; rfl, rfl⟩
set_option maxRecDepth 100000 in
set_option maxHeartbeats 2000000 in
theorem xsum_any (s : ByteArray) (w : World) (hs : s.size ≤ maxLen) :
    Calls Tryz.prog 114 #[.string s] w fun e w' => e = .returned (.int .u32 (sumOf s.data.toList : Int)) ∧ w = w' := by
  unfold maxLen at hs
  go_enter Tryz.func114, Tryz.ntmps114
  go_wp2_with fail
  go_loop [3, 4] (fun t3 t4 => ∃ i : Nat, i ≤ s.size ∧ t4 = .int .i64 i ∧ t3 = .int .u32 (crc 4294967295 (s.data.toList.take i) : Int)) (fun _ t4 => s.size - (intOf t4).toNat)
  case atStart => exact ⟨0, by omega, rfl, rfl⟩
  case round =>
    obtain ⟨i, hi, rfl, rfl⟩ := hrel
    by_cases hlt : i < s.size
    · have hltI : (i : Int) < (s.size : Int) := by omega
      obtain ⟨x, hx⟩ : ∃ x, x = crc 4294967295 (s.data.toList.take i) := ⟨_, rfl⟩
      have hxl : x < 4294967296 := by rw [hx]; exact crc_lt (by decide) _
      rw [← hx]
      have hcr : crc 4294967295 (s.data.toList.take (i + 1)) = crcByte x s[i] := by rw [take_snoc' s i hlt, crc_snoc, hx]
      have HCR := Lib.hid hcr
      have hbl : s[i].toNat < 4294967296 := by have := s[i].toNat_lt; omega
      have hxo := xor_is hxl hbl
      have hyl := xb_lt hxl s[i]
      clear hx hcr
      go_wp2_with fail
      go_loop [3, 5] (fun t3 t5 => ∃ j : Nat, j ≤ 8 ∧ t5 = .int .i64 j ∧ t3 = .int .u32 (crcBits (x ^^^ s[i].toNat) j : Int)) (fun _ t5 => 8 - (intOf t5).toNat)
      case atStart => exact ⟨0, by omega, rfl, rfl⟩
      case round =>
        obtain ⟨j, hj, rfl, rfl⟩ := hrel
        obtain ⟨y, hy⟩ : ∃ y, y = crcBits (x ^^^ s[i].toNat) j := ⟨_, rfl⟩
        have hyl2 : y < 4294967296 := by rw [hy]; exact crcBits_lt hyl j
        rw [← hy]
        have hyb : crcBits (x ^^^ s[i].toNat) (j + 1) = crcBit y := by rw [crcBits, hy]
        have HYB := Lib.hid hyb
        clear hyb hxo
        by_cases hlt8 : j < 8
        · have hltI8 : (j : Int) < 8 := by omega
          have hx2 := xor_half hyl2
          clear hy
          by_cases ho : y % 2 = 1
          · have hb : ((y : Int) % 2 == 1) = true := by rw [beq_iff_eq]; omega
            have hcb : crcBit y = y / 2 ^^^ 3988292384 := if_pos ho
            have HCB := Lib.hid hcb
            clear hcb ho
            go_wp2_with fail
            go_round
            case rel => exact ⟨j + 1, by omega, by go_num, by rw [HYB.out, HCB.out]⟩
            case measure => simp [intOf]; omega
          · have hb : ((y : Int) % 2 == 1) = false := by rw [beq_eq_false_iff_ne]; omega
            have hcb : crcBit y = y / 2 := if_neg ho
            have HCB := Lib.hid hcb
            clear hcb ho hx2
            go_wp2_with fail
            go_round
            case rel => exact ⟨j + 1, by omega, by go_num, by rw [HYB.out, HCB.out]; go_num⟩
            case measure => simp [intOf]; omega
        · have hltI8 : ¬ (j : Int) < 8 := by omega
          obtain rfl : j = 8 := by omega
          have HY := Lib.hid (show y = crcByte x s[i] from hy)
          clear hy
          go_wp2_with fail
          go_round
          case rel => exact ⟨i + 1, by omega, by go_num, by rw [HCR.out, HY.out]⟩
          case measure => simp [intOf]; omega
    · have hltI : ¬ (i : Int) < (s.size : Int) := by omega
      obtain rfl : i = s.size := by omega
      rw [show s.data.toList.take s.size = s.data.toList from List.take_of_length_le (Nat.le_refl s.data.toList.length)]
      have hcl := crc_lt (x := 4294967295) (by decide) s.data.toList
      have hsm : ((sumOf s.data.toList : Nat) : Int) = 4294967295 - (crc 4294967295 s.data.toList : Int) := by unfold sumOf; omega
      have HSM := Lib.hid hsm
      clear hsm
      generalize crc 4294967295 s.data.toList = x at hcl HSM ⊢
      go_wp2_with fail
      go_ret
      exact ⟨by rw [HSM.out]; rfl, rfl⟩
end Go.Proofs.YtianlhigeabehaaGreatDoor

/- Messages as plain structures: when one can be, its bytes, the message that bytes are; what is put is got, and bytes that are cut are none. -/
namespace Go.Proofs.YtianlhigeabehaaGreatDoor
open Go.RowKit

/-- a lock: from, to, mode -/
structure Lk where
  a : Int
  b : Int
  m : Int
  deriving DecidableEq
/-- a message -/
structure Mg where
  kind : Int
  id : Int
  node : Int
  gen : Int
  stamp : Int
  epoch : Nat
  err : Int
  locks : List Lk
  deriving DecidableEq
def Mg.zero : Mg := ⟨0, 0, 0, 0, 0, 0, 0, []⟩
def Lk.ok (l : Lk) : Prop := 0 ≤ l.a ∧ l.a < l.b ∧ l.b ≤ 4096 ∧ 0 ≤ l.m ∧ l.m ≤ 2
instance (l : Lk) : Decidable l.ok := inferInstanceAs (Decidable (_ ∧ _))
def sm (n : Int) : Prop := 0 ≤ n ∧ n ≤ 2147483647
instance (n : Int) : Decidable (sm n) := inferInstanceAs (Decidable (_ ∧ _))
def Mg.ok (m : Mg) : Prop := (1 ≤ m.kind ∧ m.kind ≤ 15 ∧ m.locks.length ≤ 200) ∧ (sm m.id ∧ sm m.node ∧ sm m.gen ∧ sm m.stamp ∧ sm m.err) ∧ ∀ l ∈ m.locks, l.ok
instance (m : Mg) : Decidable m.ok := inferInstanceAs (Decidable (_ ∧ _))
def Lk.enc (l : Lk) : List UInt8 := le l.a.toNat 4 ++ (le l.b.toNat 4 ++ le l.m.toNat 1)
def Mg.head (m : Mg) : List UInt8 := le m.kind.toNat 1 ++ (le m.id.toNat 4 ++ (le m.node.toNat 4 ++ (le m.gen.toNat 4 ++ (le m.stamp.toNat 4 ++ (le m.err.toNat 4 ++ le m.epoch 8)))))
def Mg.enc (m : Mg) : List UInt8 := m.head ++ (le m.locks.length 2 ++ m.locks.flatMap Lk.enc)
def Mg.putS (m : Mg) : ByteArray := if m.ok then str m.enc else ⟨#[]⟩
def Mg.putE (m : Mg) : Int := if m.ok then 0 else 1

/-- a lock read, and the reader behind it -/
def lkV (R : Rd) : Lk := ⟨R.numV 4, (R.numR 4).numV 4, ((R.numR 4).numR 4).numV 1⟩
def lkR (R : Rd) : Rd := ((R.numR 4).numR 4).numR 1
def lksR (R : Rd) : Nat → Rd
  | 0 => R
  | k + 1 => lkR (lksR R k)
def lksV (R : Rd) : Nat → List Lk
  | 0 => []
  | k + 1 => lksV R k ++ [lkV (lksR R k)]
theorem lksV_len (R : Rd) (k : Nat) : (lksV R k).length = k := by
  induction k with
  | zero => rfl
  | succ k ih => simp [lksV, ih]
/-- the reader behind the head's numbers -/
def hdR (b : ByteArray) : Rd := ((((((((⟨b, 0⟩ : Rd).numR 1).numR 4).numR 4).numR 4).numR 4).numR 4).numR 8)
def getM (b : ByteArray) : Mg :=
  ⟨(⟨b, 0⟩ : Rd).numV 1, ((⟨b, 0⟩ : Rd).numR 1).numV 4, (((⟨b, 0⟩ : Rd).numR 1).numR 4).numV 4, ((((⟨b, 0⟩ : Rd).numR 1).numR 4).numR 4).numV 4, (((((⟨b, 0⟩ : Rd).numR 1).numR 4).numR 4).numR 4).numV 4,
    (((((((⟨b, 0⟩ : Rd).numR 1).numR 4).numR 4).numR 4).numR 4).numR 4).numV 8, ((((((⟨b, 0⟩ : Rd).numR 1).numR 4).numR 4).numR 4).numR 4).numV 4, lksV ((hdR b).countR 200) ((hdR b).countV 200).toNat⟩
def endE (b : ByteArray) : Int := (lksR ((hdR b).countR 200) ((hdR b).countV 200).toNat).endV
def goodM (b : ByteArray) : Prop := (getM b).ok ∧ str (getM b).enc = b
instance (b : ByteArray) : Decidable (goodM b) := inferInstanceAs (Decidable (_ ∧ _))
def gotM (b : ByteArray) : Mg := if endE b = 0 ∧ goodM b then getM b else Mg.zero
def gotE (b : ByteArray) : Int := if endE b ≠ 0 then endE b else if goodM b then 0 else 4

theorem lk_app {l : Lk} (h : l.ok) (m : List UInt8) : lkV ⟨str (l.enc ++ m), 0⟩ = l ∧ lkR ⟨str (l.enc ++ m), 0⟩ = ⟨str m, 0⟩ := by
  obtain ⟨h0, h1, h2, h3, h4⟩ := h
  obtain ⟨a1, b1⟩ := num_app (v := l.a.toNat) (n := 4) ⟨by omega, by omega, by simp; omega⟩ (le l.b.toNat 4 ++ (le l.m.toNat 1 ++ m))
  obtain ⟨a2, b2⟩ := num_app (v := l.b.toNat) (n := 4) ⟨by omega, by omega, by simp; omega⟩ (le l.m.toNat 1 ++ m)
  obtain ⟨a3, b3⟩ := num_app (v := l.m.toNat) (n := 1) ⟨by omega, by omega, by simp; omega⟩ m
  simp only [show (4 : Int).toNat = 4 from rfl, show (1 : Int).toNat = 1 from rfl] at a1 b1 a2 b2 a3 b3
  have e : l.enc ++ m = le l.a.toNat 4 ++ (le l.b.toNat 4 ++ (le l.m.toNat 1 ++ m)) := by simp [Lk.enc]
  unfold lkV lkR
  rw [e, a1, b1, a2, b2, a3, b3]
  refine ⟨?_, rfl⟩
  cases l
  simp at h0 h1 h2 h3 h4 ⊢
  omega
theorem lks_app {ls : List Lk} (h : ∀ l ∈ ls, l.ok) (m : List UInt8) (k : Nat) (hk : k ≤ ls.length) :
    lksV ⟨str (ls.flatMap Lk.enc ++ m), 0⟩ k = ls.take k ∧ lksR ⟨str (ls.flatMap Lk.enc ++ m), 0⟩ k = ⟨str ((ls.drop k).flatMap Lk.enc ++ m), 0⟩ := by
  induction k with
  | zero => exact ⟨by simp [lksV], by simp [lksR]⟩
  | succ k ih =>
    obtain ⟨a, b⟩ := ih (by omega)
    have hd : ls.drop k = ls[k] :: ls.drop (k + 1) := List.drop_eq_getElem_cons (by omega)
    have e : (ls.drop k).flatMap Lk.enc ++ m = ls[k].enc ++ ((ls.drop (k + 1)).flatMap Lk.enc ++ m) := by rw [hd, List.flatMap_cons, List.append_assoc]
    rw [e] at b
    obtain ⟨a2, b2⟩ := lk_app (h ls[k] (List.getElem_mem _)) ((ls.drop (k + 1)).flatMap Lk.enc ++ m)
    refine ⟨?_, ?_⟩
    · rw [lksV, a, b, a2, List.take_succ_eq_append_getElem (by omega)]
    · rw [lksR, b, b2]
theorem sm_ok {n : Int} (h : sm n) : numOk n.toNat 4 := ⟨by omega, by omega, by obtain ⟨h1, h2⟩ := h; simp; omega⟩
theorem sm_nat {n : Int} (h : sm n) : ((n.toNat : Nat) : Int) = n := by obtain ⟨h1, h2⟩ := h; omega
theorem hd_app {m : Mg} (h : m.ok) (he : m.epoch < 18446744073709551616) (r : List UInt8) :
    hdR (str (m.head ++ r)) = ⟨str r, 0⟩ ∧ getM (str (m.head ++ r)) = { m with locks := lksV ((⟨str r, 0⟩ : Rd).countR 200) ((⟨str r, 0⟩ : Rd).countV 200).toNat } := by
  obtain ⟨⟨h1, h2, h3⟩, ⟨g1, g2, g3, g4, g5⟩, h5⟩ := h
  have e : m.head ++ r = le m.kind.toNat 1 ++ (le m.id.toNat 4 ++ (le m.node.toNat 4 ++ (le m.gen.toNat 4 ++ (le m.stamp.toNat 4 ++ (le m.err.toNat 4 ++ (le m.epoch 8 ++ r)))))) := by simp [Mg.head]
  obtain ⟨a1, b1⟩ := num_app (v := m.kind.toNat) (n := 1) ⟨by omega, by omega, by simp; omega⟩ (le m.id.toNat 4 ++ (le m.node.toNat 4 ++ (le m.gen.toNat 4 ++ (le m.stamp.toNat 4 ++ (le m.err.toNat 4 ++ (le m.epoch 8 ++ r))))))
  obtain ⟨a2, b2⟩ := num_app (sm_ok g1) (le m.node.toNat 4 ++ (le m.gen.toNat 4 ++ (le m.stamp.toNat 4 ++ (le m.err.toNat 4 ++ (le m.epoch 8 ++ r)))))
  obtain ⟨a3, b3⟩ := num_app (sm_ok g2) (le m.gen.toNat 4 ++ (le m.stamp.toNat 4 ++ (le m.err.toNat 4 ++ (le m.epoch 8 ++ r))))
  obtain ⟨a4, b4⟩ := num_app (sm_ok g3) (le m.stamp.toNat 4 ++ (le m.err.toNat 4 ++ (le m.epoch 8 ++ r)))
  obtain ⟨a5, b5⟩ := num_app (sm_ok g4) (le m.err.toNat 4 ++ (le m.epoch 8 ++ r))
  obtain ⟨a6, b6⟩ := num_app (sm_ok g5) (le m.epoch 8 ++ r)
  obtain ⟨a7, b7⟩ := num_app (v := m.epoch) (n := 8) ⟨by omega, by omega, by simpa using he⟩ r
  simp only [show (4 : Int).toNat = 4 from rfl, show (1 : Int).toNat = 1 from rfl, show (8 : Int).toNat = 8 from rfl] at a1 b1 a2 b2 a3 b3 a4 b4 a5 b5 a6 b6 a7 b7
  have hh : hdR (str (m.head ++ r)) = ⟨str r, 0⟩ := by unfold hdR; rw [e, b1, b2, b3, b4, b5, b6, b7]
  refine ⟨hh, ?_⟩
  unfold getM
  rw [hh, e, a1, b1, a2, b2, a3, b3, a4, b4, a5, b5, a6, b6, a7, sm_nat g1, sm_nat g2, sm_nat g3, sm_nat g4, sm_nat g5, show ((m.kind.toNat : Nat) : Int) = m.kind by omega]
/-- what is put is got -/
theorem get_put {m : Mg} (h : m.ok) (he : m.epoch < 18446744073709551616) : getM (str m.enc) = m ∧ endE (str m.enc) = 0 := by
  have hl := h.1.2.2
  have hls := h.2.2
  obtain ⟨a, b⟩ := hd_app h he (le m.locks.length 2 ++ m.locks.flatMap Lk.enc)
  obtain ⟨c1, c2⟩ := count_app (v := m.locks.length) (by omega) (m.locks.flatMap Lk.enc) 200
  rw [if_neg (by omega)] at c1 c2
  obtain ⟨d1, d2⟩ := lks_app hls [] m.locks.length (Nat.le_refl _)
  simp only [List.append_nil, List.take_length, List.drop_length, List.flatMap_nil] at d1 d2
  refine ⟨?_, ?_⟩
  · show getM (str (m.head ++ (le m.locks.length 2 ++ m.locks.flatMap Lk.enc))) = m
    rw [b, c1, c2, Int.toNat_natCast, d1]
  · unfold endE
    show (lksR ((hdR (str (m.head ++ (le m.locks.length 2 ++ m.locks.flatMap Lk.enc)))).countR 200) ((hdR (str (m.head ++ (le m.locks.length 2 ++ m.locks.flatMap Lk.enc)))).countV 200).toNat).endV = 0
    rw [a, c1, c2, Int.toNat_natCast, d2, end_nil]
theorem got_put {m : Mg} (h : m.ok) (he : m.epoch < 18446744073709551616) : gotM (str m.enc) = m ∧ gotE (str m.enc) = 0 := by
  obtain ⟨a, b⟩ := get_put h he
  have g : goodM (str m.enc) := by unfold goodM; rw [a]; exact ⟨h, rfl⟩
  unfold gotM gotE
  rw [if_pos ⟨b, g⟩, if_neg (by simpa using b), if_pos g]
  exact ⟨a, rfl⟩
theorem head_len (m : Mg) : m.head.length = 29 := by simp [Mg.head, le_len]
theorem lkenc_len (l : Lk) : l.enc.length = 9 := by simp [Lk.enc, le_len]
theorem lksenc_len (ls : List Lk) : (ls.flatMap Lk.enc).length = 9 * ls.length := by
  induction ls with
  | nil => rfl
  | cons x r ih => simp only [List.flatMap_cons, List.length_append, lkenc_len, ih, List.length_cons]; omega
theorem enc_len (m : Mg) : m.enc.length = 31 + 9 * m.locks.length := by
  simp only [Mg.enc, List.length_append, head_len, le_len, lksenc_len]; omega
/-- no message's bytes begin as another one's, and end ahead of them -/
theorem enc_cut {m x : Mg} (hm : m.ok) (hx : x.ok) {k : Nat} (hk : k < m.enc.length) : x.enc ≠ m.enc.take k := by
  intro e
  have l1 := enc_len m
  have l2 := enc_len x
  have l3 : x.enc.length = k := by rw [e, List.length_take]; omega
  have c : (x.enc.take 31).drop 29 = (m.enc.take 31).drop 29 := by rw [e, List.take_take, Nat.min_eq_left (by omega)]
  have f : ∀ y : Mg, (y.enc.take 31).drop 29 = le y.locks.length 2 := by
    intro y
    have e1 : y.enc = y.head ++ (le y.locks.length 2 ++ y.locks.flatMap Lk.enc) := rfl
    rw [List.drop_take, e1, List.drop_append_of_le_length (by rw [head_len]; exact Nat.le_refl _), List.drop_of_length_le (by rw [head_len]; exact Nat.le_refl _), List.nil_append, List.take_append_of_le_length (by rw [le_len]; exact Nat.le_refl _), List.take_of_length_le (by rw [le_len]; exact Nat.le_refl _)]
  rw [f, f] at c
  have c2 := congrArg lev c
  rw [lev_le, lev_le, Nat.mod_eq_of_lt (by have := hx.1.2.2; simp; omega), Nat.mod_eq_of_lt (by have := hm.1.2.2; simp; omega)] at c2
  omega
theorem got_cut {m : Mg} (hm : m.ok) {k : Nat} (hk : k < m.enc.length) : gotE ((str m.enc).extract 0 k) ≠ 0 := by
  unfold gotE
  split
  · assumption
  · rw [if_neg]
    · decide
    · rintro ⟨h1, h2⟩
      have h3 := congrArg (fun b : ByteArray => b.data.toList) h2
      simp only [str_list, extract_list, List.drop_zero] at h3
      exact enc_cut hm h1 hk h3
end Go.Proofs.YtianlhigeabehaaGreatDoor

/- Messages: when one can be (span.Valid, mode.Valid, msg.Valid). -/
namespace Go.Proofs.YtianlhigeabehaaGreatDoor
open Go.RowKit

def Lk.cells (l : Lk) : List Value := [.int .i64 l.a, .int .i64 l.b, .int .i64 l.m]
def lkcells (l : List Lk) : List Value := l.flatMap Lk.cells
theorem Lk.cells_len (l : Lk) : l.cells.length = 3 := rfl
theorem Lk.cells_one (l : Lk) : ∀ u ∈ l.cells, u.oneCell' = true := by simp [Lk.cells, Value.oneCell']
def Mg.agg (m : Mg) (A : Option Addr) (cap : Nat) : Value := .agg #[.int .i64 m.kind, .int .i64 m.id, .int .i64 m.node, .int .i64 m.gen, .int .i64 m.stamp, .int .u64 m.epoch, .int .i64 m.err, .slice A m.locks.length cap]
def Mg.row (m : Mg) (A : Option Addr) (cap : Nat) : Array Value := #[.int .i64 m.kind, .int .i64 m.id, .int .i64 m.node, .int .i64 m.gen, .int .i64 m.stamp, .int .u64 m.epoch, .int .i64 m.err, .slice A m.locks.length cap]
theorem Reads.lock {w : World} {A : Option Addr} {l : List Lk} (h : Reads w 3 A l.length (lkcells l)) {k : Nat} {y : Lk} (hy : l[k]? = some y) :
    ∃ ad, A = some ad ∧ w.cell? (ad.add (k * 3)) = some (.int .i64 y.a) ∧ w.cell? ⟨(ad.add (k * 3)).block, (ad.add (k * 3)).off + 1, none⟩ = some (.int .i64 y.b) ∧ w.cell? ⟨(ad.add (k * 3)).block, (ad.add (k * 3)).off + 2, none⟩ = some (.int .i64 y.m) := by
  obtain ⟨ad, rfl, hc⟩ := Reads.row Lk.cells_len h hy
  exact ⟨ad, rfl, hc 0 _ rfl, hc 1 _ rfl, hc 2 _ rfl⟩

/-- the five numbers that are small -/
def Mg.five (m : Mg) : Nat → Int
  | 0 => m.id
  | 1 => m.node
  | 2 => m.gen
  | 3 => m.stamp
  | _ => m.err
theorem Mg.five_ok {m : Mg} (h : m.ok) (k : Nat) : sm (m.five k) := by
  obtain ⟨_, ⟨h1, h2, h3, h4, h5⟩, _⟩ := h
  match k with
  | 0 => exact h1
  | 1 => exact h2
  | 2 => exact h3
  | 3 => exact h4
  | k + 4 => exact h5
theorem five_cell {m : Mg} (w : World) (t : TypeId) {k : Nat} (hk : k < 5) : (w.alloc (.cells #[.int .i64 m.id, .int .i64 m.node, .int .i64 m.gen, .int .i64 m.stamp, .int .i64 m.err] t)).cell? ⟨w.heap.size, k, none⟩ = some (.int .i64 (m.five k)) := by
  rw [(Blk.new w t _).cell k]
  have : k = 0 ∨ k = 1 ∨ k = 2 ∨ k = 3 ∨ k = 4 := by omega
  rcases this with rfl | rfl | rfl | rfl | rfl <;> rfl
end Go.Proofs.YtianlhigeabehaaGreatDoor

/- Messages: Put lays one. -/
namespace Go.Proofs.YtianlhigeabehaaGreatDoor
open Go.RowKit

/-- a block of the call's own, of colour 0, known whole -/
def Keep (o : Nat → Nat) (w : World) (g : Nat) (t : TypeId) (cs : Array Value) : Prop := Blk w g t cs ∧ o g = 0
section
variable {o o' : Nat → Nat} {C : Nat → Prop} {w w' : World} {g : Nat} {t : TypeId} {cs : Array Value}
theorem Keep.step (h : Keep o w g t cs) (hs : Step o C w o' w') (h0 : ¬ C 0) : Keep o' w' g t cs := ⟨h.1.step hs (by rw [h.2]; exact h0), (hs.old g h.1.lt).trans h.2⟩
theorem Keep.below_ (h : Keep o w g t cs) (hb : Below w.heap.size w w') : Keep o w' g t cs := ⟨h.1.below_ hb, h.2⟩
theorem Keep.alloc (h : Keep o w g t cs) (x : Obj) : Keep o (w.alloc x) g t cs := ⟨h.1.alloc x, h.2⟩
theorem Keep.drewN (h : Keep o w g t cs) (n : Nat) : Keep o (w.drewN n) g t cs := h
theorem Keep.drew (h : Keep o w g t cs) : Keep o w.drew g t cs := h
theorem Keep.new (hf : Fut o w) (t : TypeId) (cs : Array Value) : Keep o (w.alloc (.cells cs t)) w.heap.size t cs := ⟨Blk.new _ _ _, hf.at_⟩
end
theorem Blk.eight {w : World} {g : Nat} {t : TypeId} {c0 c1 c2 c3 c4 c5 c6 c7 : Value} (h : Blk w g t #[c0, c1, c2, c3, c4, c5, c6, c7]) : w.cell? ⟨g, 0, none⟩ = some c0 ∧ w.cell? ⟨g, 1, none⟩ = some c1 ∧ w.cell? ⟨g, 2, none⟩ = some c2 ∧ w.cell? ⟨g, 3, none⟩ = some c3 ∧ w.cell? ⟨g, 4, none⟩ = some c4 ∧ w.cell? ⟨g, 5, none⟩ = some c5 ∧ w.cell? ⟨g, 6, none⟩ = some c6 ∧ w.cell? ⟨g, 7, none⟩ = some c7 :=
  ⟨h.cell 0, h.cell 1, h.cell 2, h.cell 3, h.cell 4, h.cell 5, h.cell 6, h.cell 7⟩
theorem Blk.three {w : World} {g : Nat} {t : TypeId} {c0 c1 c2 : Value} (h : Blk w g t #[c0, c1, c2]) : w.cell? ⟨g, 0, none⟩ = some c0 ∧ w.cell? ⟨g, 1, none⟩ = some c1 ∧ w.cell? ⟨g, 2, none⟩ = some c2 := ⟨h.cell 0, h.cell 1, h.cell 2⟩
/-- a writer under way: its bytes; all is well; what lay before stays -/
structure Wg (o : Nat → Nat) (w0 w : World) (p : Nat) (bs : List UInt8) : Prop where
  wr : WrAt 174 o 1 w p ⟨bs, 0⟩
  env : Env o w0 w
  fut : Fut o w
section
variable {o o' : Nat → Nat} {w0 w w' : World} {p : Nat} {bs bs' : List UInt8}
theorem Wg.next (h : Wg o w0 w p bs) (hw : WrAt 174 o' 1 w' p ⟨bs', 0⟩) (hs : Step o (only 1) w o' w') : Wg o' w0 w' p bs' := ⟨hw, h.env.step hs (by unfold only; omega), h.fut.step hs⟩
theorem Wg.below_ (h : Wg o w0 w p bs) (hb : Below w.heap.size w w') : Wg o w0 w' p bs := ⟨h.wr.below_ hb, h.env.below_ hb, h.fut.below hb⟩
theorem Wg.alloc (h : Wg o w0 w p bs) (x : Obj) : Wg o w0 (w.alloc x) p bs := ⟨h.wr.alloc x, h.env.alloc x, h.fut.alloc x⟩
theorem Wg.drewN (h : Wg o w0 w p bs) (n : Nat) : Wg o w0 (w.drewN n) p bs := ⟨h.wr.drewN n, h.env.drewN n, h.fut.drewN n⟩
theorem Wg.drew (h : Wg o w0 w p bs) : Wg o w0 w.drew p bs := h.drewN 1
theorem Wg.start {w0 w1 : World} (hb : Below w0.heap.size w0 w1) : ∃ o, Wg o w0 (w1.alloc (.cells #[.slice none 0 0, .int .i64 0] 174)) w1.heap.size [] ∧ ∀ C, Step (fun _ => 0) C w1 o (w1.alloc (.cells #[.slice none 0 0, .int .i64 0] 174)) := by
  obtain ⟨o1, h1, hs⟩ := wr_new 174 (fun _ => 0) 1 w1
  exact ⟨o1, ⟨h1, ((Env.start w0).below_ hb).step (hs (fun _ => False)) (by simp), (show Fut (fun _ => 0) w1 from fun _ _ => rfl).step (hs (fun _ => False))⟩, hs⟩
theorem wnum_ok (h : Wg o w0 w p bs) (v : Nat) (n : Int) (hok : numOk v n) (hv : v < 18446744073709551616) (hb : bs.length ≤ 1000000000) :
    Calls Tryz.prog 116 #[.pointer (some ⟨p, 0, none⟩), .int .u64 v, .int .i64 n] w fun r w' => r = .returned (.pointer (some ⟨p, 0, none⟩)) ∧ ∃ o', Wg o' w0 w' p (bs ++ le v n.toNat) ∧ Step o (only 1) w o' w' := by
  refine (wnum_any h.wr v n hv hb).mono ?_
  rintro e w1 ⟨rfl, o1, hw, hs⟩
  rw [Wr.num_ok rfl hok] at hw
  exact ⟨rfl, o1, h.next hw hs, hs⟩
theorem wbytes_ok (h : Wg o w0 w p bs) : Calls Tryz.prog 117 #[.pointer (some ⟨p, 0, none⟩)] w fun r w' => r = .returned (.tuple #[.string (str bs), .int .i64 0]) ∧ Wg o w0 w' p bs := by
  refine (wbytes_any h.wr).mono ?_
  rintro e w1 ⟨rfl, hb⟩
  exact ⟨rfl, h.below_ hb⟩
end
def Mg.pre (m : Mg) (k : Nat) : List UInt8 := le m.kind.toNat 1 ++ (List.range k).flatMap (fun j => le (m.five j).toNat 4)
theorem Mg.pre_succ (m : Mg) (k : Nat) : m.pre (k + 1) = m.pre k ++ le (m.five k).toNat 4 := by simp [Mg.pre, List.range_succ]
theorem Mg.pre_five (m : Mg) : m.pre 5 ++ le m.epoch 8 = m.head := by simp [Mg.pre, Mg.head, List.range_succ, Mg.five]
theorem Mg.pre_len (m : Mg) {k : Nat} (hk : k ≤ 5) : (m.pre k).length ≤ 30 := by
  have : ∀ k, (m.pre k).length = 1 + 4 * k := by
    intro k
    induction k with
    | zero => simp [Mg.pre, le_len]
    | succ k ih => rw [Mg.pre_succ, List.length_append, ih, le_len]; omega
  rw [this]
  omega
theorem sm_toNat {n : Int} (h : sm n) : ∃ v : Nat, n = v ∧ v ≤ 2147483647 ∧ n.toNat = v := by
  obtain ⟨h1, h2⟩ := h
  exact ⟨n.toNat, by omega, by omega, rfl⟩
theorem wrapu_nat {v : Nat} (h : v < 4294967296) : IntKind.u64.wrap (v : Int) = (v : Int) := by rw [IntKind.wrap_u64]; omega
theorem five_get (m : Mg) {k : Nat} (hk : k < 5) : (#[.int .i64 m.id, .int .i64 m.node, .int .i64 m.gen, .int .i64 m.stamp, .int .i64 m.err] : Array Value)[k]? = some (.int .i64 (m.five k)) := by
  have : k = 0 ∨ k = 1 ∨ k = 2 ∨ k = 3 ∨ k = 4 := by omega
  rcases this with rfl | rfl | rfl | rfl | rfl <;> rfl
end Go.Proofs.YtianlhigeabehaaGreatDoor
