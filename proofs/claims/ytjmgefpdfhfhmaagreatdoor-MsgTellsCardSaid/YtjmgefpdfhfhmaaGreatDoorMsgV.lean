/- MsgTells' book: growMsgs (printed by gen/mkgrow.py). -/
import Derived.Test.YtjmgefpdfhfhmaaGreatDoorMsgU
import Derived.Test.YtjmgefpdfhfhmaaGreatDoorMsgT
namespace Go.Proofs.YtjmgefpdfhfhmaaGreatDoor
open Go.RowKit

set_option maxRecDepth 100000 in
set_option maxHeartbeats 4000000 in
theorem growmsgs_any (o : Nat → Nat) (w : World) (p : Nat) (cs : Array Value) (v : Value) (S : List (Nat × List Value)) (vs : List Value) (hb : BookAt o w p cs) (h8 : cs[26]? = some v)
    (k8 : Kept 58 26 8 23 3000 o w v S vs) (hl : ∀ (i n : Nat) xs, S[i]? = some (n, xs) → n ≤ 1000 ∧ xs = rowsF (mgM i) 0 n) (hL : S.length ≤ 250) :
    Calls Tryz.prog 81 #[.pointer (some ⟨p, 0, none⟩)] w fun e w' => ∃ V us o', e = .returned V ∧ GrowO 58 26 8 23 26 3000 mgM o o' w w' p cs v S vs V us S.length := by
  obtain ⟨i0, hi0, hz0, hz1, hz2⟩ := info_parts info_msg
  obtain ⟨i1, hi1, hy0, hy1, hy2⟩ := info_parts info_msgs
  have HB := Lib.hid hb
  have HL := Lib.hid hl
  have H8 := Lib.hid k8
  have C8 := Lib.hid h8
  obtain ⟨A8, cap8, e8, _, _⟩ := k8.outer.form
  have E8 := Lib.hid e8
  clear hb hl k8 h8 e8
  go_enter Tryz.func81, Tryz.ntmps81
  go_wp2_with fail
  go_loopw [3, 4] (fun t3 t4 wr => ∃ (i : Nat) (V : Value) (us : List Value) (o' : Nat → Nat), i ≤ S.length ∧ t3 = V ∧ t4 = .int .i64 i ∧ GrowO 58 26 8 23 26 3000 mgM o o' w wr p cs v S vs V us i) (fun _ t4 _ => S.length - (intOf t4).toNat)
  case atStart => exact ⟨0, _, [], o, by omega, rfl, rfl, H8.out, Kept.nil _ _ _ _ _ _ _, Step.refl _ _ _, HB.out⟩
  case round =>
    obtain ⟨i, V, us, o1, hi, rfl, rfl, hG⟩ := hrel
    have h8 : wr.cell? ⟨p, 26, none⟩ = some (.slice A8 S.length cap8) := by rw [← E8.out]; exact (hG.book.1.cell 26).trans C8.out
    have HG := Lib.hid hG
    clear hG
    by_cases hlt : i < S.length
    · have hltI : (i : Int) < (S.length : Int) := by omega
      obtain ⟨ad, cap, A, c, u, n, xs, e1, _, hu, hS, e2, _, hc, how⟩ := HG.out.kept.at_ (i := i) hlt
      obtain ⟨hn, rfl⟩ := HL.out i n xs hS
      rw [E8.out] at e1
      injection e1 with e1 _ e3
      subst e1 e3
      have HU := Lib.hid hu
      have HSS := Lib.hid hS
      have HS0 := Lib.hid (HG.out.start hu hS)
      clear how hu hS
      go_wp2_with fail
      go_loopw [5, 6] (fun t5 t6 wr => ∃ (k q : Nat) (A : Option Addr) (cap : Nat) (o' : Nat → Nat), k ≤ 12 ∧ q = n + k ∧ t5 = .slice A q cap ∧ t6 = .int .i64 k ∧ GrowAt 58 26 8 23 26 3000 mgM o o' w wr p cs v S vs u3 us i n k u (.slice A q cap)) (fun _ t6 _ => 12 - (intOf t6).toNat)
      case atStart => exact ⟨0, n, A, c, o1, by omega, rfl, rfl, rfl, by have := HS0.out; rw [e2] at this ⊢; exact this⟩
      case round =>
        obtain ⟨k, q, A1, c1, o2, hk, hq, rfl, rfl, hga⟩ := hrel
        have hqn : q ≤ 1012 := by omega
        have hrow := hga.row
        rw [← hq] at hrow
        have HGA := Lib.hid hga
        have HROW := Lib.hid hrow
        have HQ := Lib.hid hq
        clear hga hrow hq
        by_cases hlt2 : k < 12
        · have hltI2 : (k : Int) < 12 := by omega
          go_wp2_with fail
          refine (markmsgs_1 o2 40 wr i q (by omega) (by omega)).mono ?_
          rintro e w3 ⟨A2, c2, o3, rfl, hm3, hs3⟩
          have HG3 := Lib.hid (HGA.out.marks hs3 (by omega) (by omega) (by omega))
          have HR3 := Lib.hid (HROW.out.step hs3 (by unfold only; omega))
          have HM3 := Lib.hid hm3
          clear hm3 hs3
          go_wp2_with (at_builtin; refine wpList_append_K _ rfl (.tmp 27) (.tmp 31) 58 rfl 26 i0 _ 8 80 Tryz.underlying58 hi0 hz0 hz1 hz2 rfl (by omega) (.slice A1 q c1) q (rowsF (mgM i) 0 q) rfl HR3.out A2 1 c2 (rowsF (mgM i) q 1) rfl (Reads.of_own HM3.out.1) (mgM_one i q 1) (by unfold maxLen; omega) (by omega) ?_; intro v' w4 hown hst hK hnw; obtain ⟨A4, c4, rfl, _, _⟩ := hown.form; have HG4 := Lib.hid (HG3.out.more hst HQ.out hown hK hnw (by omega) hlt (by omega) HU.out HSS.out (by omega) (by omega) (by omega)); clear hown hst hK hnw)
          go_roundw
          case rel => exact ⟨k + 1, q + 1, A4, c4, _, by omega, by have := HQ.out; omega, by go_num, by go_num, HG4.out⟩
          case measure => simp [intOf]; omega
        · have hltI2 : ¬ (k : Int) < 12 := by omega
          obtain rfl : k = 12 := by omega
          go_wp2_with fail
          refine (markmsgs_60 o2 40 wr i q (by omega) (by omega)).mono ?_
          rintro e w3 ⟨A2, c2, o3, rfl, hm3, hs3⟩
          have HG3 := Lib.hid (HGA.out.marks hs3 (by omega) (by omega) (by omega))
          have HR3 := Lib.hid (HROW.out.step hs3 (by unfold only; omega))
          have HM3 := Lib.hid hm3
          clear hm3 hs3
          go_wp2_with (first | (at_builtin; refine wpList_append_K _ rfl (.tmp 34) (.tmp 38) 58 rfl 26 i0 _ 8 80 Tryz.underlying58 hi0 hz0 hz1 hz2 rfl (by omega) (.slice A1 q c1) q (rowsF (mgM i) 0 q) rfl HR3.out A2 60 c2 (rowsF (mgM i) q 60) rfl (Reads.of_own HM3.out.1) (mgM_one i q 60) (by unfold maxLen; omega) (by omega) ?_; intro v' w4 hown hst hK hnw; obtain ⟨A4, c4, rfl, _, _⟩ := hown.form; have HG4 := Lib.hid (HG3.out.more hst HQ.out hown hK hnw (by omega) hlt (by omega) HU.out HSS.out (by omega) (by omega) (by omega)); clear hown hst hK hnw; have HO4 := Lib.hid (HG4.out.outer hi)) | (at_builtin; refine wpList_append_W _ rfl (.tmp 33) (.tmp 40) 42 rfl 58 i1 _ 1 24 Tryz.underlying42 hi1 hy0 hy1 hy2 rfl (by omega) u3 i us rfl (HO4.out.alloc (.cells #[.slice A4 (q + 60) c4] 58)) _ 1 1 [.slice A4 (q + 60) c4] rfl (Reads.newAt _ 58 1 1 _ _ _ rfl rfl rfl) (by simp [Value.oneCell']) (by unfold maxLen; omega) (by omega) ?_; intro v5 w5 hown5 hst5; obtain ⟨A5, cap5, rfl, _, _⟩ := hown5.form; have HF5 := Lib.hid ((HG4.out.alloc (.cells #[.slice A4 (q + 60) c4] 58)).finish hst5 hown5 hlt HSS.out (by omega) (by omega) (by omega)); clear hown5 hst5))
          go_roundw
          case rel => exact ⟨i + 1, _, _, _, by omega, by go_num, by go_num, HF5.out⟩
          case measure => simp [intOf]; omega
    · have hltI : ¬ (i : Int) < (S.length : Int) := by omega
      obtain rfl : i = S.length := by omega
      go_wp2_with fail
      go_ret
      exact ⟨u3, rfl, us, o1, HG.out⟩
end Go.Proofs.YtjmgefpdfhfhmaaGreatDoor
