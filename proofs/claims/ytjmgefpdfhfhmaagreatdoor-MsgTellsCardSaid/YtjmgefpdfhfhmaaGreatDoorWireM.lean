/- The document's writer of bytes: Num, Text, Flag (the same plain functions). -/
import Derived.Test.YtjmgefpdfhfhmaaGreatDoorWireJ
namespace Go.Proofs.YtjmgefpdfhfhmaaGreatDoor
open Go.RowKit

theorem numOk_div {v : Nat} {m : Nat} (h1 : 1 ≤ m) (h8 : m ≤ 8) : numOk v (m : Int) ↔ v / 256 ^ m = 0 := by
  unfold numOk
  rw [Int.toNat_natCast, Nat.div_eq_zero_iff_lt (Nat.pow_pos (by decide))]
  exact ⟨fun h => h.2.2, fun h => ⟨by omega, by omega, h⟩⟩
section
variable {o : Nat → Nat} {c : Nat} {w : World} {p : Nat} {W : Wr}
set_option maxRecDepth 100000 in
set_option maxHeartbeats 1000000 in
theorem xnum_any (h : WrAt 78 o c w p W) (v : Nat) (n : Int) (hv : v < 18446744073709551616) (hb : W.bs.length ≤ 1000000000) :
    Calls Tryz.prog 22 #[.pointer (some ⟨p, 0, none⟩), .int .u64 v, .int .i64 n] w fun r w' => r = .returned (.tuple #[]) ∧ ∃ o', WrAt 78 o' c w' p (W.num v n) ∧ Step o (only c) w o' w' := by
  have HW := Lib.hid h
  clear h
  have HV0 := Lib.hid hv
  clear hv
  by_cases he : W.e = 0
  · have HE := Lib.hid he
    by_cases hr : n < 1 ∨ 8 < n
    · have e1 : W.num v n = { W with e := 1 } := by unfold Wr.num; rw [if_neg (by simpa using he), if_neg (by unfold numOk; omega)]
      have E1 := Lib.hid e1
      clear e1 he
      by_cases h1 : n < 1
      · clear hr
        go_enter Tryz.func22, Tryz.ntmps22
        go_wp2_with fail
        refine (xfail_ok HW.out HE.out).mono ?_
        rintro e w1 ⟨rfl, hw1, hs1⟩
        have HW1 := Lib.hid hw1
        have HS1 := Lib.hid hs1
        clear hw1 hs1
        go_wp2_with fail
        refine (xfail_new HW1.out HE.out 1 (by decide)).mono ?_
        rintro e w2 ⟨rfl, hw2, hs2⟩
        have HW2 := Lib.hid hw2
        have HS2 := Lib.hid hs2
        clear hw2 hs2
        go_wp2_with fail
        first | go_end0 | refine bodyPost_ret (v := .tuple #[]) (by simp [results, Tryz.results22, go_sem]) rfl ?_
        exact ⟨rfl, o, by rw [E1.out]; exact HW2.out, HS1.out.trans HS2.out⟩
      · have h8 : 8 < n := by omega
        clear hr
        go_enter Tryz.func22, Tryz.ntmps22
        go_wp2_with fail
        refine (xfail_ok HW.out HE.out).mono ?_
        rintro e w1 ⟨rfl, hw1, hs1⟩
        have HW1 := Lib.hid hw1
        have HS1 := Lib.hid hs1
        clear hw1 hs1
        go_wp2_with fail
        refine (xfail_new HW1.out HE.out 1 (by decide)).mono ?_
        rintro e w2 ⟨rfl, hw2, hs2⟩
        have HW2 := Lib.hid hw2
        have HS2 := Lib.hid hs2
        clear hw2 hs2
        go_wp2_with fail
        first | go_end0 | refine bodyPost_ret (v := .tuple #[]) (by simp [results, Tryz.results22, go_sem]) rfl ?_
        exact ⟨rfl, o, by rw [E1.out]; exact HW2.out, HS1.out.trans HS2.out⟩
    · obtain ⟨m, rfl⟩ : ∃ m : Nat, n = m := ⟨n.toNat, by omega⟩
      have hm1 : ¬ (m : Int) < 1 := by omega
      have hm8 : ¬ (8 : Int) < (m : Int) := by omega
      have E1 := Lib.hid (show v / 256 ^ m = 0 → W.num v m = { W with bs := W.bs ++ le v m } from fun h0 => by
        unfold Wr.num; rw [if_neg (by simpa using he), if_pos ((numOk_div (by omega) (by omega)).2 h0), Int.toNat_natCast])
      have E2 := Lib.hid (show v / 256 ^ m ≠ 0 → W.num v m = { W with e := 1 } from fun h0 => by
        unfold Wr.num; rw [if_neg (by simpa using he), if_neg (fun h1 => h0 ((numOk_div (by omega) (by omega)).1 h1))])
      clear hr he
      obtain ⟨i0, hi0, hz0, hz1, hz2⟩ := info_parts info_u8
      go_enter Tryz.func22, Tryz.ntmps22
      go_wp2_with fail
      refine (xfail_ok HW.out HE.out).mono ?_
      rintro e w1 ⟨rfl, hw1, hs1⟩
      have HW1 := Lib.hid hw1
      have HS1 := Lib.hid hs1
      clear hw1 hs1
      go_wp2_with fail
      go_loopw [1, 6, 7] (fun t1 t6 t7 wr => ∃ (k : Nat) (o' : Nat → Nat), k ≤ m ∧ t7 = .int .i64 k ∧ t1 = .int .u64 ((v / 256 ^ k : Nat) : Int) ∧ OwnS o' (c + 1) wr 5 1 t6 k (bvs (le v k)) ∧ (∀ g, t6.ownBlock = some g → w.heap.size ≤ g) ∧ WrAt 78 o' c wr p W ∧ Step o (only c) w o' wr) (fun _ _ t7 _ => m - (intOf t7).toNat)
      case atStart => exact ⟨0, o, Nat.zero_le _, rfl, by simp, OwnS.nil _ _ _ _ _, by simp [Value.ownBlock], HW1.out, HS1.out⟩
      case round =>
        obtain ⟨k, o1, hk, rfl, rfl, hown6, hblk6, hw, hst⟩ := hrel
        obtain ⟨A6, cap6, rfl, hle6, hcap6⟩ := own_form' hown6
        unfold maxLen at hcap6
        have hu : v / 256 ^ k < 18446744073709551616 := Nat.lt_of_le_of_lt (Nat.div_le_self _ _) HV0.out
        have HNX := Lib.hid (show v / 256 ^ (k + 1) = v / 256 ^ k / 256 by rw [Nat.pow_succ, Nat.div_div_eq_div_mul])
        have HSN := Lib.hid (show le v (k + 1) = le v k ++ [UInt8.ofNat (v / 256 ^ k)] from rfl)
        have HL6 := Lib.hid (le_len v k)
        have HF := Lib.hid (show k = m → v / 256 ^ k = v / 256 ^ m from fun e => by rw [e])
        generalize v / 256 ^ k = u at hu HNX HSN HF
        have HO6 := Lib.hid hown6
        have HB6 := Lib.hid hblk6
        have HWK := Lib.hid hw
        have HST := Lib.hid hst
        clear hown6 hblk6 hw hst
        by_cases hlt : k < m
        · have hltI : (k : Int) < (m : Int) := by omega
          have HU := Lib.hid hu
          clear hu
          go_wp2_with (at_builtin; refine wpList_append_S _ rfl (.tmp 23) (.tmp 27) 69 rfl 5 i0 _ 1 1 Tryz.underlying69 hi0 hz0 hz1 hz2 rfl (by omega) (.slice A6 k cap6) k (bvs (le v k)) rfl (HO6.out.alloc _) (some ⟨wr.heap.size, 0, none⟩) 1 1 [.int .u8 ((u : Int) % 256)] rfl (Reads.newAt wr 5 1 1 [.int .u8 ((u : Int) % 256)] #[.int .u8 ((u : Int) % 256)] wr.heap.size rfl rfl rfl) (by simp [Value.oneCell']) (by unfold maxLen; omega) (by omega) ?_; intro v2 w2 hown hst hg hat; have HO2 := Lib.hid hown; have HS2 := Lib.hid hst; have HG2 := Lib.hid hg; have HA2 := Lib.hid hat; clear hown hst hg hat)
          go_roundw
          case rel =>
            have hbv : bvs (le v k) ++ [.int .u8 ((u : Int) % 256)] = bvs (le v (k + 1)) := by
              rw [HSN.out, bvs_app]
              simp [bvs, bv]
            have hst0 := HST.out.size
            refine ⟨k + 1, _, by omega, by go_num, by rw [HNX.out, IntKind.wrap_u64]; have h9 := HU.out; congr 1; omega, by rw [← hbv]; exact HO2.out, ?_, (HWK.out.alloc _).step HS2.out (by unfold only; omega), (HST.out.alloc _).grownNew (c + 1) HG2.out HB6.out⟩
            intro g hg
            rcases HA2.out with h2 | h2
            · exact HB6.out g (h2 ▸ hg)
            · rw [h2] at hg
              injection hg with hg
              simp at hg
              omega
          case measure => simp [intOf]; omega
        · have hltI : ¬ (k : Int) < (m : Int) := by omega
          obtain rfl : k = m := by omega
          have hum := HF.out rfl
          by_cases hz : u = 0
          · have hzI : ¬ (0 : Int) < (u : Int) := by omega
            have E3 := Lib.hid (E1.out (by rw [← hum]; exact hz))
            clear hum hz E1 E2 HF HNX HSN hu
            obtain ⟨A, cap, c0, c1, f0, f1, hc1, hc2, hpl, HB, HC, HV⟩ := HWK.out.open_
            have HNE := Lib.hid (own_blk_ne HV.out HB.out (by decide))
            go_wp2_with (at_builtin; refine wpList_append_S _ rfl (.tmp 39) (.tmp 40) 69 rfl 5 i0 _ 1 1 Tryz.underlying69 hi0 hz0 hz1 hz2 rfl (by omega) (.slice A W.bs.length cap) W.bs.length (bvs W.bs) rfl HV.out A6 k cap6 (bvs (le v k)) rfl (Reads.of_own HO6.out.1) (bvs_one _) (by unfold maxLen; omega) (by omega) ?_; intro v2 w2 hown hst hg hat; have hb2 : Blk w2 p 78 _ := (hg.block p hpl (fun e => HNE.out e.symm)).trans HB.out; have k0 := hb2.cell 0; have k1 := hb2.frozen 0; simp at k0 k1; obtain ⟨A2, cap2, rfl, _, _⟩ := own_form' hown; have HO2 := Lib.hid hown; have HS2 := Lib.hid hst; have HB2 := Lib.hid hb2; clear hown hst hg hat hb2)
            first | go_end0 | refine bodyPost_ret (v := .tuple #[]) (by simp [results, Tryz.results22, go_sem]) rfl ?_
            have hcol := (HS2.out.old p hpl).trans HC.out
            have hll : (W.bs ++ le v k).length = W.bs.length + k := by rw [List.length_append, le_len]
            have h4 := WrAt.setB (W := W) (l := W.bs ++ le v k) HB2.out hcol (by decide) (by rw [hll, bvs_app]; exact HO2.out)
            refine ⟨rfl, _, ?_, (HST.out.trans HS2.out).setCell (p := ⟨p, 0, none⟩) hcol _⟩
            rw [E3.out]
            rw [hll] at h4
            exact h4
          · have hzI : (0 : Int) < (u : Int) := by omega
            have E3 := Lib.hid (E2.out (by rw [← hum]; exact hz))
            clear hum hz E1 E2 HF HNX HSN hu
            go_wp2_with fail
            refine (xfail_new HWK.out HE.out 1 (by decide)).mono ?_
            rintro e w2 ⟨rfl, hw2, hs2⟩
            have HW2 := Lib.hid hw2
            have HS2 := Lib.hid hs2
            clear hw2 hs2
            go_wp2_with fail
            first | go_end0 | refine bodyPost_ret (v := .tuple #[]) (by simp [results, Tryz.results22, go_sem]) rfl ?_
            exact ⟨rfl, o1, by rw [E3.out]; exact HW2.out, HST.out.trans HS2.out⟩
  · have e1 : W.num v n = W := by unfold Wr.num; rw [if_pos he]
    have E1 := Lib.hid e1
    have HE := Lib.hid he
    clear e1 he
    go_enter Tryz.func22, Tryz.ntmps22
    go_wp2_with fail
    refine (xfail_old HW.out HE.out _).mono ?_
    rintro e w1 ⟨rfl, rfl⟩
    go_wp2_with fail
    first | go_end0 | refine bodyPost_ret (v := .tuple #[]) (by simp [results, Tryz.results22, go_sem]) rfl ?_
    exact ⟨rfl, o, by rw [E1.out]; exact HW.out, Step.refl _ _ _⟩
end
end Go.Proofs.YtjmgefpdfhfhmaaGreatDoor
