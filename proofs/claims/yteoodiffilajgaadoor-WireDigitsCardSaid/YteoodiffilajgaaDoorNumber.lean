/- Number: a number from decimal digits, the program's and the document's. -/
import Derived.Test.YteoodiffilajgaaDoorDigits
namespace Go.Proofs.YteoodiffilajgaaDoor
open Go.RowKit

/-- decimal digits behind v; none: another byte is among them -/
def numF : List UInt8 → Nat → Option Nat
  | [], v => some v
  | b :: r, v => if b.toNat < 48 ∨ 57 < b.toNat then none else numF r (v * 10 + (b.toNat - 48))
def numBad (d : ByteArray) (neg : Bool) : Prop := d.size = 0 ∨ 18 < d.size ∨ (d.data.toList.headD 0 = 48 ∧ (1 < d.size ∨ neg = true))
instance (d : ByteArray) (neg : Bool) : Decidable (numBad d neg) := inferInstanceAs (Decidable (_ ∨ _))
def numOf (d : ByteArray) (neg : Bool) : Int × Int :=
  if numBad d neg then (0, 1) else match numF d.data.toList 0 with
    | none => (0, 1)
    | some v => (if neg then -(v : Int) else (v : Int), 0)
def ngB (s : ByteArray) : Bool := Lib.hasPrefix s.data.toList [45]
def ngD (s : ByteArray) : ByteArray := ⟨(Lib.trimPrefix s.data.toList [45]).toArray⟩
theorem headD_of {l : List UInt8} (h2 : 0 < l.length) : l.headD 0 = l[0] := by
  cases l with
  | nil => simp at h2
  | cons a r => rfl
theorem head_of {d : ByteArray} (h : 0 < d.size) : d.data.toList.headD 0 = d[0] := headD_of (l := d.data.toList) h
theorem numBad_iff {d : ByteArray} (h : 0 < d.size) (neg : Bool) : numBad d neg ↔ (18 : Int) < (d.size : Int) ∨ ((d[0].toNat : Int) = 48 ∧ ((1 : Int) < (d.size : Int) ∨ neg = true)) := by
  have e : d[0] = 48 ↔ (d[0].toNat : Int) = 48 := by
    constructor
    · intro h; rw [h]; rfl
    · intro h
      have : d[0].toNat = 48 := by omega
      exact UInt8.toNat_inj.1 this
  unfold numBad
  rw [head_of h, e]
  constructor
  · rintro (h1 | h1 | ⟨h1, h2 | h2⟩)
    · omega
    · exact .inl (by omega)
    · exact .inr ⟨h1, .inl (by omega)⟩
    · exact .inr ⟨h1, .inr h2⟩
  · rintro (h1 | ⟨h1, h2 | h2⟩)
    · exact .inr (.inl (by omega))
    · exact .inr (.inr ⟨h1, .inl (by omega)⟩)
    · exact .inr (.inr ⟨h1, .inr h2⟩)
theorem toList_ne {d : ByteArray} (h : 0 < d.size) : ¬ d.toList = [] := by
  intro e
  rw [toList_nil_iff_emptyBytes] at e
  rw [e] at h
  exact absurd h (by decide)
theorem ng_yes {s : ByteArray} (h : 0 < s.size) (h0 : s[0] = 45) : ngB s = true ∧ ngD s = s.extract 1 s.size := by
  have h1 : s.data.toList = 45 :: s.data.toList.drop 1 := by
    rw [← h0]
    show s.data.toList = s.data.toList[0] :: _
    rw [← List.drop_eq_getElem_cons (l := s.data.toList) (i := 0) h]
    rfl
  have hp : Lib.hasPrefix s.data.toList [45] = true := by
    rw [h1]
    simp [Lib.hasPrefix, List.isPrefixOf]
  refine ⟨hp, ?_⟩
  unfold ngD Lib.trimPrefix
  rw [if_pos hp]
  refine str_ext ?_
  rw [extract_list, List.take_of_length_le (show s.data.toList.length ≤ s.size from Nat.le_refl _)]
  simp
theorem ng_no {s : ByteArray} (h : s.size = 0 ∨ ∃ h : 0 < s.size, s[0] ≠ 45) : ngB s = false ∧ ngD s = s := by
  have hp : Lib.hasPrefix s.data.toList [45] = false := by
    rcases h with h | ⟨h, h0⟩
    · have e : s.data.toList = [] := List.eq_nil_of_length_eq_zero h
      rw [e]
      rfl
    · have h1 : s.data.toList = s[0] :: s.data.toList.drop 1 := by
        show s.data.toList = s.data.toList[0] :: _
        rw [← List.drop_eq_getElem_cons (l := s.data.toList) (i := 0) h]
        rfl
      rw [h1]
      simp [Lib.hasPrefix, List.isPrefixOf]
      exact fun e => h0 e.symm
  refine ⟨hp, ?_⟩
  unfold ngD Lib.trimPrefix
  rw [if_neg (by rw [hp]; decide)]
theorem ngD_size (s : ByteArray) : (ngD s).size ≤ s.size := by
  unfold ngD Lib.trimPrefix
  have e : s.data.toList.length = s.size := rfl
  split
  · show ((List.drop _ _).toArray).size ≤ _
    simp
  · show (s.data.toList.toArray).size ≤ _
    simp
theorem numF_drop {d : ByteArray} {k v : Nat} (hk : k < d.size) : numF (d.data.toList.drop k) v = if d[k].toNat < 48 ∨ 57 < d[k].toNat then none else numF (d.data.toList.drop (k + 1)) (v * 10 + (d[k].toNat - 48)) := by
  rw [List.drop_eq_getElem_cons (l := d.data.toList) (i := k) hk]
  rfl

set_option maxRecDepth 100000 in
set_option maxHeartbeats 1000000 in
theorem number_any (s : ByteArray) (w : World) (hs : s.size ≤ 300) : Calls Tryd.prog 28 #[.string s] w fun e w' => e = .returned (.tuple #[.int .i64 (numOf (ngD s) (ngB s)).1, .int .i64 (numOf (ngD s) (ngB s)).2]) ∧ w = w' := by
  have hd := Nat.le_trans (ngD_size s) hs
  generalize hD : ngD s = d at hd ⊢
  generalize hN : ngB s = neg
  have HDN := Lib.hid (And.intro hD hN)
  clear hD hN
  go_enter Tryd.func28, Tryd.ntmps28
  go_wp2_with fail
  refine (Tryd.strings_CutPrefix s ⟨#[45]⟩ _).mono ?_
  rintro e w1 ⟨rfl, rfl⟩
  rw [show (⟨(Lib.trimPrefix s.data.toList (⟨#[45]⟩ : ByteArray).data.toList).toArray⟩ : ByteArray) = ngD s from rfl, show Lib.hasPrefix s.data.toList (⟨#[45]⟩ : ByteArray).data.toList = ngB s from rfl, HDN.out.1, HDN.out.2]
  go_upto_region 2 with (fail)
  go_cut [32] from 13 to 32 (fun t32 wx => t32 = .bool (decide (numBad d neg)) ∧ wx = w1)
  case first =>
    by_cases h0 : d.size = 0
    · obtain rfl : d = ⟨#[]⟩ := str_ext (List.eq_nil_of_length_eq_zero h0)
      go_wp2_with fail
      go_meet
      case rel => exact ⟨by rw [decide_eq_true (show numBad _ neg from .inl h0)], rfl⟩
    · have hd1 : 0 < d.size := by omega
      have hte := toList_ne hd1
      have hbi := Lib.hid (numBad_iff hd1 neg)
      go_wp2_with fail
      all_goals
        go_meet
        case rel =>
          refine ⟨?_, rfl⟩
          congr 1
          rw [Bool.eq_iff_iff, decide_eq_true_iff, hbi.out]
          simp_all
  case rest =>
    obtain ⟨rfl, rfl⟩ := hcut
    by_cases hb : numBad d neg
    · have E := Lib.hid (show numOf d neg = (0, 1) from if_pos hb)
      rw [decide_eq_true hb]
      clear hb
      go_wp2_with fail
      go_ret2
      exact ⟨by rw [E.out]; rfl, rfl⟩
    · rw [decide_eq_false hb]
      have E := Lib.hid (show numOf d neg = (match numF d.data.toList 0 with | none => (0, 1) | some v => (if neg then -(v : Int) else (v : Int), 0)) from if_neg hb)
      have hd18 : d.size ≤ 18 := by unfold numBad at hb; omega
      clear hb
      go_wp2_with fail
      go_loop [6, 35] (fun t6 t35 => ∃ k v : Nat, k ≤ d.size ∧ t35 = .int .i64 k ∧ t6 = .int .i64 v ∧ numF (d.data.toList.drop k) v = numF d.data.toList 0 ∧ v < 10 ^ k) (fun _ t35 => d.size - (intOf t35).toNat)
      case atStart => exact ⟨0, 0, Nat.zero_le _, rfl, rfl, rfl, by omega⟩
      case round =>
        obtain ⟨k, v, hk, rfl, rfl, hF, hv⟩ := hrel
        have hv18 : v < 1000000000000000000 := Nat.lt_of_lt_of_le hv (show 10 ^ k ≤ 10 ^ 18 from Nat.pow_le_pow_right (by omega) (by omega))
        have HF := Lib.hid hF
        have HV := Lib.hid hv
        clear hF hv
        by_cases hlt : k < d.size
        · have hltI : (k : Int) < (d.size : Int) := by omega
          have HD := Lib.hid (numF_drop (v := v) hlt)
          have hv17 : k + 1 ≤ 18 := by omega
          have hb1 : 48 ≤ d[k].toNat → d[k].toNat ≤ 57 → (v : Int) * 10 + (d[k].toNat - 48) < 1000000000000000000 := by
            intro h1 h2
            have h3 := HV.out
            have h4 : 10 ^ (k + 1) ≤ 10 ^ 18 := Nat.pow_le_pow_right (by omega) hv17
            rw [Nat.pow_succ] at h4
            omega
          by_cases hlo : d[k].toNat < 48
          · have hloI : (d[k].toNat : Int) < 48 := by omega
            have E2 := Lib.hid (show numF d.data.toList 0 = none by rw [← HF.out, HD.out, if_pos (.inl hlo)])
            go_wp2_with fail
            go_ret2
            exact ⟨by rw [E.out, E2.out]; rfl, rfl⟩
          · by_cases hhi : 57 < d[k].toNat
            · have hhiI : (57 : Int) < (d[k].toNat : Int) := by omega
              have hloI : ¬ (d[k].toNat : Int) < 48 := by omega
              have E2 := Lib.hid (show numF d.data.toList 0 = none by rw [← HF.out, HD.out, if_pos (.inr hhi)])
              go_wp2_with fail
              go_ret2
              exact ⟨by rw [E.out, E2.out]; rfl, rfl⟩
            · have hhiI : ¬ (57 : Int) < (d[k].toNat : Int) := by omega
              have hloI : ¬ (d[k].toNat : Int) < 48 := by omega
              have hb2 := hb1 (by omega) (by omega)
              clear hb1
              go_wp2_with fail
              go_round
              case rel =>
                have h3 := HV.out
                refine ⟨k + 1, v * 10 + (d[k].toNat - 48), by omega, by go_num, ?_, by rw [← HF.out, HD.out, if_neg (by omega)], by rw [Nat.pow_succ]; omega⟩
                congr 1
                omega
              case measure => simp [intOf]; omega
        · have hltI : ¬ (k : Int) < (d.size : Int) := by omega
          have E2 := Lib.hid (show numF d.data.toList 0 = some v by
            rw [← HF.out, List.drop_of_length_le (show d.data.toList.length ≤ k by show d.size ≤ k; omega)]
            rfl)
          cases neg with
          | true =>
            go_wp2_with fail
            go_ret2
            exact ⟨by rw [E.out, E2.out]; rfl, rfl⟩
          | false =>
            go_wp2_with fail
            go_ret2
            exact ⟨by rw [E.out, E2.out]; rfl, rfl⟩
end Go.Proofs.YteoodiffilajgaaDoor
