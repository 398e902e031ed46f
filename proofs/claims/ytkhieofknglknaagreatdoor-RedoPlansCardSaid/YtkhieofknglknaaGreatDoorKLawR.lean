/- commonslaw10.Ready: a disk that is formatted, and the document's. -/
import Derived.Test.YtkhieofknglknaaGreatDoorKReadyP
import Derived.Test.YtkhieofknglknaaGreatDoorKApplyP
import Derived.Test.YtkhieofknglknaaGreatDoorKLogP
namespace Go.Proofs.YtkhieofknglknaaGreatDoor
open Go.RowKit

set_option maxRecDepth 100000 in
theorem ready_now : readyD.now = (Dk.fresh 37).formatF.now := by
  obtain ⟨f1, f2, f3⟩ := format_facts calm_fresh fresh_last
  have e1 : readyD = ((Dk.fresh 37).formatF.admit (1 : Nat) 9).2 := rfl
  rw [e1]
  generalize (Dk.fresh 37).formatF = F at f1 f2
  exact admit_now f1 (by omega) (by rw [f2]; omega)
set_option maxRecDepth 100000 in
theorem format_sec0 : (Dk.fresh 37).formatF.sec 0 = str superL := by
  rw [← sec_congr ready_now 0, ready_facts.2.2.2 0]
  rfl
def refR0 : RK := ⟨37, [], fun _ => 0, fun _ => 0, 0⟩
def refR1 : RK := (refR0.admit 0 1).write (0 : Nat) 0 (str superL) 1
def readyR : RK := ((refR1.keep (0 : Nat)).fence 0).admit 1 9
def readyC (cd cr : Nat) : Nat → Prop := fun x => six cd x ∨ logL cr x
set_option maxRecDepth 100000 in
set_option maxHeartbeats 8000000 in
theorem ready_any {o : Nat → Nat} {cd cr : Nat} {w : World} (hf : Fut o w) (hcd : 1 ≤ cd) (hcr : cd + 5 < cr) : Calls Tryz.prog 6 #[] w fun e w' => ∃ p r, e = .returned (.tuple #[.pointer (some ⟨p, 0, none⟩), .pointer (some ⟨r, 0, none⟩), .agg #[.int .i64 2, .int .i64 10, .int .i64 8, .int .i64 4, .int .i64 32], .bool true]) ∧ ∃ o', DiskAt o' cd w' p readyD ∧ RefAt o' cr w' r readyR ∧ Step o (readyC cd cr) w o' w' := by
  have HX := Lib.hid (Keep.new hf 36 #[.int .i64 0, .int .i64 0, .int .i64 0, .int .i64 0, .int .i64 0])
  have HF := Lib.hid (hf.alloc (.cells #[.int .i64 0, .int .i64 0, .int .i64 0, .int .i64 0, .int .i64 0] 36))
  have HS := Lib.hid ((Step.refl o (readyC cd cr) w).alloc (.cells #[.int .i64 0, .int .i64 0, .int .i64 0, .int .i64 0, .int .i64 0] 36))
  have HCD := Lib.hid hcd
  have HCR := Lib.hid hcr
  have HN := Lib.hid (no_six hcd)
  clear hf hcd hcr
  go_enter Tryz.func6, Tryz.ntmps6
  go_wp2_with fail
  generalize w.alloc (.cells #[.int .i64 0, .int .i64 0, .int .i64 0, .int .i64 0, .int .i64 0] 36) = W at HX HF HS ⊢
  refine (shape9_any W).mono ?_
  rintro e w1 ⟨rfl, hb1⟩
  have HS1 := Lib.hid (Keep.new (HF.out.below hb1) 34 #[.int .i64 2, .int .i64 10, .int .i64 8, .int .i64 4, .int .i64 32])
  have HX1 := Lib.hid ((HX.out.below_ hb1).alloc (.cells #[.int .i64 2, .int .i64 10, .int .i64 8, .int .i64 4, .int .i64 32] 34))
  have HF1 := Lib.hid ((HF.out.below hb1).alloc (.cells #[.int .i64 2, .int .i64 10, .int .i64 8, .int .i64 4, .int .i64 32] 34))
  have HT1 := Lib.hid ((HS.out.trans (Step.of_below o (readyC cd cr) hb1)).alloc (.cells #[.int .i64 2, .int .i64 10, .int .i64 8, .int .i64 4, .int .i64 32] 34))
  clear hb1
  go_upto_region 2 with (fail)
  generalize w1.alloc (.cells #[.int .i64 2, .int .i64 10, .int .i64 8, .int .i64 4, .int .i64 32] 34) = W1 at HS1 HX1 HF1 HT1 ⊢
  generalize w1.heap.size = gS at HS1 ⊢
  obtain ⟨s0, s1, s2, s3, s4⟩ := HS1.out.1.five
  go_wp2_with fail
  refine (refsize_any W1).mono ?_
  rintro e w2 ⟨rfl, hb2⟩
  have HS2 := Lib.hid (HS1.out.below_ hb2)
  have HX2 := Lib.hid (HX1.out.below_ hb2)
  have HF2 := Lib.hid (HF1.out.below hb2)
  have HT2 := Lib.hid (HT1.out.trans (Step.of_below o (readyC cd cr) hb2))
  clear hb2 s0 s1 s2 s3 s4
  go_wp2_with fail
  refine (dnew_any o cd HCD.out w2).mono ?_
  rintro e w3 ⟨p, rfl, o3, hd3, hs3⟩
  have HD3 := Lib.hid hd3
  have HS3 := Lib.hid (HS2.out.step (hs3 (fun _ => False)) id)
  have HX3 := Lib.hid (HX2.out.step (hs3 (fun _ => False)) id)
  have HF3 := Lib.hid (HF2.out.step (hs3 (fun _ => False)))
  have HT3 := Lib.hid (HT2.out.trans (hs3 (readyC cd cr)))
  clear hd3 hs3
  obtain ⟨s0, s1, s2, s3, s4⟩ := HS3.out.1.five
  go_wp2_with fail
  refine (uformat_any HD3.out calm_fresh (by omega) (by rw [fresh_last]; omega) HCD.out HF3.out).mono ?_
  rintro e w4 ⟨rfl, o4, hd4, hs4⟩
  have HD4 := Lib.hid hd4
  have HS4 := Lib.hid (HS3.out.step hs4 HN.out)
  have HX4 := Lib.hid (HX3.out.step hs4 HN.out)
  have HF4 := Lib.hid (HF3.out.step hs4)
  have HT4 := Lib.hid (HT3.out.trans (hs4.mono (fun _ h => .inl h)))
  clear hd4 hs4 s0 s1 s2 s3 s4
  obtain ⟨ff1, ff2, _⟩ := format_facts calm_fresh fresh_last
  have HC4 := Lib.hid ff1
  have HL4 := Lib.hid ff2
  have HS0 := Lib.hid format_sec0
  have HRD := Lib.hid (show ((Dk.fresh 37).formatF.admit (1 : Nat) 9).2 = readyD from rfl)
  clear ff1 ff2
  generalize (Dk.fresh 37).formatF = F at HD4 HC4 HL4 HS0 HRD
  go_wp2_with fail
  refine (uload_any HD4.out HC4.out HS0.out).mono ?_
  rintro e w5 ⟨rfl, hb5⟩
  have HD5 := Lib.hid ((HD4.out.below_ hb5).alloc (.cells #[.int .i64 2, .int .i64 10, .int .i64 8, .int .i64 4, .int .i64 32] 36))
  have HS5 := Lib.hid ((HS4.out.below_ hb5).alloc (.cells #[.int .i64 2, .int .i64 10, .int .i64 8, .int .i64 4, .int .i64 32] 36))
  have HX5 := Lib.hid ((HX4.out.below_ hb5).alloc (.cells #[.int .i64 2, .int .i64 10, .int .i64 8, .int .i64 4, .int .i64 32] 36))
  have HY5 := Lib.hid (Keep.new (HF4.out.below hb5) 36 #[.int .i64 2, .int .i64 10, .int .i64 8, .int .i64 4, .int .i64 32])
  have HF5 := Lib.hid ((HF4.out.below hb5).alloc (.cells #[.int .i64 2, .int .i64 10, .int .i64 8, .int .i64 4, .int .i64 32] 36))
  have HT5 := Lib.hid ((HT4.out.trans (Step.of_below o4 (readyC cd cr) hb5)).alloc (.cells #[.int .i64 2, .int .i64 10, .int .i64 8, .int .i64 4, .int .i64 32] 36))
  clear hb5
  go_upto_region 5 with (fail)
  generalize w5.alloc (.cells #[.int .i64 2, .int .i64 10, .int .i64 8, .int .i64 4, .int .i64 32] 36) = W5 at HD5 HS5 HX5 HY5 HF5 HT5 ⊢
  generalize w5.heap.size = gY at HY5 ⊢
  go_wp2_with fail
  refine (dadmit_k (n := 1) (e := 9) HD5.out HC4.out (by omega) (by rw [HL4.out]; omega)).mono ?_
  rintro e w6 ⟨rfl, o6, hd6, hs6⟩
  rw [HRD.out] at hd6
  have HD6 := Lib.hid hd6
  have HS6 := Lib.hid (HS5.out.step hs6 HN.out)
  have HX6 := Lib.hid (HX5.out.step hs6 HN.out)
  have HY6 := Lib.hid (HY5.out.step hs6 HN.out)
  have HF6 := Lib.hid (HF5.out.step hs6)
  have HT6 := Lib.hid (HT5.out.trans (hs6.mono (fun _ h => .inl h)))
  clear hd6 hs6
  obtain ⟨s0, s1, s2, s3, s4⟩ := HS6.out.1.five
  go_wp2_with fail
  refine (refsize_any w6).mono ?_
  rintro e w7 ⟨rfl, hb7⟩
  obtain ⟨o8, hq8, hs8⟩ := alloc_as o6 w7 (.cells #[.int .i64 37, .slice none 0 0, .bool false, .int .u64 0, .int .u64 0, .int .u64 0, .int .u64 0, .int .u64 0, .int .u64 0, .int .u64 0, .int .u64 0, .int .u64 0, .int .u64 0, .int .u64 0, .int .u64 0, .int .u64 0, .int .u64 0, .int .u64 0, .int .u64 0, .int .u64 0, .int .u64 0, .int .u64 0, .int .u64 0, .int .u64 0, .int .u64 0, .int .u64 0, .int .u64 0, .int .u64 0, .int .u64 0, .int .u64 0, .int .u64 0, .int .u64 0, .int .u64 0, .int .u64 0, .int .u64 0, .int .u64 0, .int .u64 0, .int .u64 0, .bool false, .int .i64 0, .slice none 0 0] 95) cr
  have hb8 : Step o6 (fun _ => False) w6 o8 (w7.alloc (.cells #[.int .i64 37, .slice none 0 0, .bool false, .int .u64 0, .int .u64 0, .int .u64 0, .int .u64 0, .int .u64 0, .int .u64 0, .int .u64 0, .int .u64 0, .int .u64 0, .int .u64 0, .int .u64 0, .int .u64 0, .int .u64 0, .int .u64 0, .int .u64 0, .int .u64 0, .int .u64 0, .int .u64 0, .int .u64 0, .int .u64 0, .int .u64 0, .int .u64 0, .int .u64 0, .int .u64 0, .int .u64 0, .int .u64 0, .int .u64 0, .int .u64 0, .int .u64 0, .int .u64 0, .int .u64 0, .int .u64 0, .int .u64 0, .int .u64 0, .int .u64 0, .bool false, .int .i64 0, .slice none 0 0] 95)) := (Step.of_below o6 _ hb7).trans hs8
  have HD8 := Lib.hid (HD6.out.step hb8 (fun _ _ _ => id))
  have HS8 := Lib.hid (HS6.out.step hb8 id)
  have HX8 := Lib.hid (HX6.out.step hb8 id)
  have HY8 := Lib.hid (HY6.out.step hb8 id)
  have HF8 := Lib.hid (HF6.out.step hb8)
  have HT8 := Lib.hid (HT6.out.trans (hb8.mono (fun _ h => h.elim)))
  have HR8 := Lib.hid (show RefAt o8 cr (w7.alloc (.cells #[.int .i64 37, .slice none 0 0, .bool false, .int .u64 0, .int .u64 0, .int .u64 0, .int .u64 0, .int .u64 0, .int .u64 0, .int .u64 0, .int .u64 0, .int .u64 0, .int .u64 0, .int .u64 0, .int .u64 0, .int .u64 0, .int .u64 0, .int .u64 0, .int .u64 0, .int .u64 0, .int .u64 0, .int .u64 0, .int .u64 0, .int .u64 0, .int .u64 0, .int .u64 0, .int .u64 0, .int .u64 0, .int .u64 0, .int .u64 0, .int .u64 0, .int .u64 0, .int .u64 0, .int .u64 0, .int .u64 0, .int .u64 0, .int .u64 0, .int .u64 0, .bool false, .int .i64 0, .slice none 0 0] 95)) w7.heap.size refR0 from ⟨.slice none 0 0, Blk.new _ _ _, hq8, OwnS.nil _ _ _ _ _⟩)
  clear hb7 hq8 hs8 hb8 s0 s1 s2 s3 s4
  go_upto_region 8 with (fail)
  generalize w7.alloc (.cells #[.int .i64 37, .slice none 0 0, .bool false, .int .u64 0, .int .u64 0, .int .u64 0, .int .u64 0, .int .u64 0, .int .u64 0, .int .u64 0, .int .u64 0, .int .u64 0, .int .u64 0, .int .u64 0, .int .u64 0, .int .u64 0, .int .u64 0, .int .u64 0, .int .u64 0, .int .u64 0, .int .u64 0, .int .u64 0, .int .u64 0, .int .u64 0, .int .u64 0, .int .u64 0, .int .u64 0, .int .u64 0, .int .u64 0, .int .u64 0, .int .u64 0, .int .u64 0, .int .u64 0, .int .u64 0, .int .u64 0, .int .u64 0, .int .u64 0, .int .u64 0, .bool false, .int .i64 0, .slice none 0 0] 95) = W8 at HD8 HS8 HX8 HY8 HF8 HT8 HR8 ⊢
  generalize w7.heap.size = r at HR8 ⊢
  obtain ⟨s0, s1, s2, s3, s4⟩ := HS8.out.1.five
  go_wp2_with fail
  refine (refputshape_any W8).mono ?_
  rintro e w9 ⟨rfl, hb9⟩
  have HD9 := Lib.hid (HD8.out.below_ hb9)
  have HX9 := Lib.hid (HX8.out.below_ hb9)
  have HY9 := Lib.hid (HY8.out.below_ hb9)
  have HF9 := Lib.hid (HF8.out.below hb9)
  have HT9 := Lib.hid (HT8.out.trans (Step.of_below o8 (readyC cd cr) hb9))
  have HR9 := Lib.hid (HR8.out.below_ hb9)
  clear hb9 s0 s1 s2 s3 s4
  go_wp2_with fail
  refine (refadmit_ok HR9.out 0 1 (by omega) (by show (0 : Nat) < 1; omega)).mono ?_
  rintro e w10 ⟨rfl, hr, hs⟩
  have hsl : Step o8 (logL cr) w9 o8 w10 := hs.mono (logL_log cr)
  obtain ⟨oN10, hoN⟩ : ∃ oo, oo = o8 := ⟨_, rfl⟩
  rw [← hoN] at hr
  have hsl : Step o8 (logL cr) w9 oN10 w10 := hoN ▸ hsl
  clear hs hoN
  have HR10 := Lib.hid hr
  have HD10 := Lib.hid (HD9.out.step hsl (by have := HCR.out; unfold logL; omega))
  have HX10 := Lib.hid (HX9.out.step hsl (by have := HCR.out; unfold logL; omega))
  have HY10 := Lib.hid (HY9.out.step hsl (by have := HCR.out; unfold logL; omega))
  have HT10 := Lib.hid (HT9.out.trans (hsl.mono (fun _ h => .inr h)))
  clear hr hsl
  go_wp2_with fail
  refine (refwrite_ok HR10.out 0 1 0 (str superL) 1 (by omega) rfl (by omega) (by rw [str_size, superL_len]) (by omega) (by omega) (by omega) (by show (0 : Int) + 1 ≤ 37; omega) (by show (37 : Nat) ≤ 100000; omega) (by show (0 : Nat) ≤ 90000; omega)).mono ?_
  rintro e w11 ⟨rfl, oN11, hr, hsl⟩
  have HR11 := Lib.hid hr
  have HD11 := Lib.hid (HD10.out.step hsl (by have := HCR.out; unfold logL; omega))
  have HX11 := Lib.hid (HX10.out.step hsl (by have := HCR.out; unfold logL; omega))
  have HY11 := Lib.hid (HY10.out.step hsl (by have := HCR.out; unfold logL; omega))
  have HT11 := Lib.hid (HT10.out.trans (hsl.mono (fun _ h => .inr h)))
  clear hr hsl
  go_wp2_with fail
  refine (refbarrier_ok HR11.out 0 1 (by omega) rfl (by omega) (by show (1 : Nat) ≤ 100000; omega)).mono ?_
  rintro e w12 ⟨rfl, oN12, hr, hsl⟩
  have HR12 := Lib.hid hr
  have HD12 := Lib.hid (HD11.out.step hsl (by have := HCR.out; unfold logL; omega))
  have HX12 := Lib.hid (HX11.out.step hsl (by have := HCR.out; unfold logL; omega))
  have HY12 := Lib.hid (HY11.out.step hsl (by have := HCR.out; unfold logL; omega))
  have HT12 := Lib.hid (HT11.out.trans (hsl.mono (fun _ h => .inr h)))
  clear hr hsl
  go_wp2_with fail
  refine (reffence_ok HR12.out 0 (by omega) (by show (1 : Nat) ≤ 100000; omega)).mono ?_
  rintro e w13 ⟨rfl, oN13, hr, hsl⟩
  have HR13 := Lib.hid hr
  have HD13 := Lib.hid (HD12.out.step hsl (by have := HCR.out; unfold logL; omega))
  have HX13 := Lib.hid (HX12.out.step hsl (by have := HCR.out; unfold logL; omega))
  have HY13 := Lib.hid (HY12.out.step hsl (by have := HCR.out; unfold logL; omega))
  have HT13 := Lib.hid (HT12.out.trans (hsl.mono (fun _ h => .inr h)))
  clear hr hsl
  go_wp2_with fail
  refine (refadmit_ok HR13.out 1 9 (by omega) (by show (1 : Nat) < 9; omega)).mono ?_
  rintro e w14 ⟨rfl, hr, hs⟩
  have hsl : Step oN13 (logL cr) w13 oN13 w14 := hs.mono (logL_log cr)
  obtain ⟨oN14, hoN⟩ : ∃ oo, oo = oN13 := ⟨_, rfl⟩
  rw [← hoN] at hr
  have hsl : Step oN13 (logL cr) w13 oN14 w14 := hoN ▸ hsl
  clear hs hoN
  have HR14 := Lib.hid hr
  have HD14 := Lib.hid (HD13.out.step hsl (by have := HCR.out; unfold logL; omega))
  have HX14 := Lib.hid (HX13.out.step hsl (by have := HCR.out; unfold logL; omega))
  have HY14 := Lib.hid (HY13.out.step hsl (by have := HCR.out; unfold logL; omega))
  have HT14 := Lib.hid (HT13.out.trans (hsl.mono (fun _ h => .inr h)))
  clear hr hsl
  go_wp2_with fail
  obtain ⟨y0, y1, y2, y3, y4⟩ := HY14.out.1.five
  obtain ⟨x0, x1, x2, x3, x4⟩ := HX14.out.1.five
  have f0 := HX14.out.1.frozen 0
  have f1 := HX14.out.1.frozen 1
  have f2 := HX14.out.1.frozen 2
  have f3 := HX14.out.1.frozen 3
  have f4 := HX14.out.1.frozen 4
  go_region
  have S5 := ((((((Step.refl oN14 (only 0) w14).setCell (p := ⟨w.heap.size, 0, none⟩) HX14.out.2 (.int .i64 2)).setCell (p := ⟨w.heap.size, 1, none⟩) HX14.out.2 (.int .i64 10)).setCell (p := ⟨w.heap.size, 2, none⟩) HX14.out.2 (.int .i64 8)).setCell (p := ⟨w.heap.size, 3, none⟩) HX14.out.2 (.int .i64 4)).setCell (p := ⟨w.heap.size, 4, none⟩) HX14.out.2 (.int .i64 32)).drew
  have HX15 := Lib.hid ((HX14.out.1.put5 (.int .i64 2) (.int .i64 10) (.int .i64 8) (.int .i64 4) (.int .i64 32)).drew)
  have HD15 := Lib.hid (HD14.out.step S5 (by have := HCD.out; unfold only; omega))
  have HR15 := Lib.hid (HR14.out.step S5 (by have := HCR.out; unfold only; omega) (by have := HCR.out; unfold only; omega))
  have HT15 := Lib.hid (((((((HT14.out).setNew (p := ⟨w.heap.size, 0, none⟩) (Nat.le_refl _) (.int .i64 2)).setNew (p := ⟨w.heap.size, 1, none⟩) (Nat.le_refl _) (.int .i64 10)).setNew (p := ⟨w.heap.size, 2, none⟩) (Nat.le_refl _) (.int .i64 8)).setNew (p := ⟨w.heap.size, 3, none⟩) (Nat.le_refl _) (.int .i64 4)).setNew (p := ⟨w.heap.size, 4, none⟩) (Nat.le_refl _) (.int .i64 32)).drew)
  clear S5 x0 x1 x2 x3 x4 y0 y1 y2 y3 y4 f0 f1 f2 f3 f4
  generalize ((((((w14).setCell ⟨w.heap.size, 0, none⟩ (.int .i64 2)).setCell ⟨w.heap.size, 1, none⟩ (.int .i64 10)).setCell ⟨w.heap.size, 2, none⟩ (.int .i64 8)).setCell ⟨w.heap.size, 3, none⟩ (.int .i64 4)).setCell ⟨w.heap.size, 4, none⟩ (.int .i64 32)).drew = WE at HX15 HD15 HR15 HT15 ⊢
  obtain ⟨q0, q1, q2, q3, q4⟩ := HX15.out.five
  go_wp2_with fail
  exact bodyPost_ret (v := .tuple #[.pointer (some ⟨p, 0, none⟩), .pointer (some ⟨r, 0, none⟩), .agg #[.int .i64 2, .int .i64 10, .int .i64 8, .int .i64 4, .int .i64 32], .bool true]) (by simp [results, Tryz.results6, go_sem, q0, q1, q2, q3, q4]) rfl ⟨p, r, rfl, oN14, HD15.out, HR15.out, HT15.out⟩
end Go.Proofs.YtkhieofknglknaaGreatDoor

/- The law's One: an image of a block. -/
namespace Go.Proofs.YtkhieofknglknaaGreatDoor
open Go.RowKit

def oneL (n : Nat) : List UInt8 := UInt8.ofNat n :: zer 95
def oneI (n v : Nat) : Im := ⟨n, v, str (oneL n)⟩
theorem oneL_len (n : Nat) : (oneL n).length = 96 := by unfold oneL; rw [List.length_cons, zer_len]
/-- the bytes that are made, the first one written -/
theorem mkone (w : World) (n : Nat) (hn : n < 256) : ∃ w', (Instr.makeSlice 164 (.int .i64 96) (.int .i64 96)).run Tryz.prog w = .ok (.slice (some ⟨w.heap.size, 0, none⟩) 96 96) w' ∧ Below w.heap.size w w' ∧ w.heap.size < w'.heap.size ∧
    w'.cell? ⟨w.heap.size, 0, none⟩ = some (.int .u8 0) ∧ w'.frozen? ⟨w.heap.size, 0, none⟩ = false ∧
    (convert 164 9 (.slice (some ⟨w.heap.size, 0, none⟩) 96 96)).run Tryz.prog (w'.setCell ⟨w.heap.size, 0, none⟩ (.int .u8 n)) = .ok (.string (str (oneL n))) (w'.setCell ⟨w.heap.size, 0, none⟩ (.int .u8 n)) := by
  obtain ⟨w', h1, h2, h3, h4⟩ := mkbytes w 96 (by omega)
  have ho : OwnS (fun _ => 0) 0 w' 5 1 (.slice (some ⟨w.heap.size, 0, none⟩) 96 96) 96 (bvs (zer 96)) := own_from h2 (fun _ _ => rfl)
  obtain ⟨g, cur, e, hb, hg, hc1, hcm, hsz, htk⟩ := ho.blk (by omega)
  injection e with e
  injection e with e _ _
  subst e
  have hcur : cur.toList = bvs (zer 96) := by
    rw [← htk, List.take_of_length_le (by rw [Array.length_toList, hsz]; omega)]
  have c0 : w'.cell? ⟨w.heap.size, 0, none⟩ = some (.int .u8 0) := by
    rw [hb.cell, ← Array.getElem?_toList, hcur]
    rfl
  refine ⟨w', h1, h3, hb.lt, c0, hb.frozen 0, ?_⟩
  refine conv_at (cap := 96) (l := oneL n) (hb.set_ 0 (.int .u8 n)) ?_ (oneL_len n)
  rw [List.drop_zero, Array.toList_setIfInBounds, hcur]
  have hbv : bv (UInt8.ofNat n) = .int .u8 n := by
    unfold bv
    have : ((UInt8.ofNat n).toNat : Int) = (n : Int) := by rw [UInt8.toNat_ofNat']; omega
    rw [this]
  show _ :: _ = bv (UInt8.ofNat n) :: List.map bv (zer 95)
  rw [hbv]
  rfl
set_option maxRecDepth 100000 in
set_option maxHeartbeats 2000000 in
theorem one11_any (n v : Nat) (hn : n < 256) (w : World) : Calls Tryz.prog 21 #[.int .i64 (n : Int), .int .u64 (v : Int)] w fun e w' => e = .returned (.agg #[.int .i64 (n : Int), .int .u64 (v : Int), .string (str (oneL n))]) ∧ Below w.heap.size w w' := by
  obtain ⟨w1, h1, h2, h3, c0, f0, hcv⟩ := mkone (w.alloc (.cells #[.int .i64 0, .int .u64 0, .string ⟨#[]⟩] 72)) n hn
  have hz := Blk.new w 72 #[.int .i64 0, .int .u64 0, .string ⟨#[]⟩]
  have hB := (Below.refl w.heap.size w).alloc (Nat.le_refl _) (.cells #[.int .i64 0, .int .u64 0, .string ⟨#[]⟩] 72)
  have z0 : (w.alloc (.cells #[.int .i64 0, .int .u64 0, .string ⟨#[]⟩] 72)).heap.size = w.heap.size + 1 := by simp
  rw [z0] at h1 h2 h3 c0 f0 hcv
  have HZ := Lib.hid ((hz.below_ (by rw [z0]; exact h2)).far (p := ⟨w.heap.size + 1, 0, none⟩) (by simp) (.int .u8 n))
  have HB := Lib.hid ((hB.trans (h2.mono (by omega))).setCell (p := ⟨w.heap.size + 1, 0, none⟩) (by simp) (.int .u8 n))
  have hw8 : IntKind.u8.wrap (n : Int) = (n : Int) := by rw [IntKind.wrap_u8]; omega
  have hzc := z0
  obtain ⟨S, hS⟩ : ∃ S, str (oneL n) = S := ⟨_, rfl⟩
  rw [hS] at hcv ⊢
  obtain ⟨y0, y1, y2⟩ := HZ.out.three
  have f0' := HZ.out.frozen 0
  have f1 := HZ.out.frozen 1
  have f2 := HZ.out.frozen 2
  clear hz hB h2 h3 hS
  go_enter Tryz.func21, Tryz.ntmps21
  go_wp2_with fail
  have HZ2 := Lib.hid (HZ.out.put3 (.int .i64 (n : Int)) (.int .u64 (v : Int)) (.string S))
  have HB2 := Lib.hid (below_put3 HB.out (Nat.le_refl _) (.int .i64 (n : Int)) (.int .u64 (v : Int)) (.string S))
  clear y0 y1 y2 f0' f1 f2 c0 f0 hcv
  generalize (((w1.setCell ⟨w.heap.size + 1, 0, none⟩ (.int .u8 n)).setCell ⟨w.heap.size, 0, none⟩ (.int .i64 (n : Int))).setCell ⟨w.heap.size, 1, none⟩ (.int .u64 (v : Int))).setCell ⟨w.heap.size, 2, none⟩ (.string S) = WE at HZ2 HB2 ⊢
  obtain ⟨q0, q1, q2⟩ := HZ2.out.three
  exact bodyPost_ret (v := .agg #[.int .i64 (n : Int), .int .u64 (v : Int), .string S]) (by simp [results, Tryz.results21, go_sem, q0, q1, q2]) rfl ⟨rfl, HB2.out⟩
end Go.Proofs.YtkhieofknglknaaGreatDoor

/- The law, plain: what stands in the disk's sectors behind writes. -/
namespace Go.Proofs.YtkhieofknglknaaGreatDoor
open Go.RowKit

theorem writeN_sec (D : Dk) (n a : Int) (data : ByteArray) : ∀ (m : Nat) (k : Int), (D.writeN n a data m).sec k = if a ≤ k ∧ k < a + m then sect data (k - a).toNat else D.sec k
  | 0, k => by
    rw [if_neg (by omega)]
    rfl
  | m + 1, k => by
    show ((D.writeN n a data m).write1 n (a + m) (sect data m)).sec k = _
    rw [sec_write1]
    by_cases h : k = a + m
    · rw [if_pos h, if_pos (by omega)]
      have : (k - a).toNat = m := by omega
      rw [this]
    · rw [if_neg h, writeN_sec D n a data m k]
      by_cases h2 : a ≤ k ∧ k < a + m
      · rw [if_pos h2, if_pos (by omega)]
      · rw [if_neg h2, if_neg (by omega)]
theorem settle_sec (D : Dk) (n k : Int) : (D.settle n).sec k = D.sec k := sec_congr (settle_now D n) k
theorem readL_two (D : Dk) (a : Int) : D.readL a 2 = (D.sec a).data.toList ++ (D.sec (a + 1)).data.toList := by
  rw [readL_succ, readL_one]
  rfl
theorem sect_two {l : List UInt8} (h : l.length = 128) : (sect (str l) 0).data.toList ++ (sect (str l) 1).data.toList = l := by
  unfold sect
  rw [extract_str, extract_str, str_list, str_list]
  have e1 : (l.take ((0 + 1) * 64)).drop (0 * 64) = l.take 64 := by rw [Nat.zero_mul, List.drop_zero]
  have e2 : (l.take ((1 + 1) * 64)).drop (1 * 64) = l.drop 64 := by rw [List.take_of_length_le (by omega)]
  rw [e1, e2]
  exact List.take_append_drop 64 l
/-- what Load tells of a block whose two sectors hold an image -/
theorem load_of {D : Dk} (hc : Live D) {i : Im} (hr : i.right) (hv : i.ver < 18446744073709551616) {b : Nat} (hb : b ≤ 9) (hi : i.block = b) (h1 : D.sec (17 + 2 * (b : Int)) = sect (str (blkL i)) 0) (h2 : D.sec (17 + 2 * (b : Int) + 1) = sect (str (blkL i)) 1) : D.load b = (i, 0) := by
  have hba : blockAt (b : Int) = (17 + 2 * (b : Int), 0) := if_neg (by omega)
  obtain ⟨r1, r2⟩ := hc.read (at_ := 17 + 2 * (b : Int)) (n := 2) (by omega) (by omega) (by omega)
  have e1 : D.loadE1 b = 0 := by
    unfold Dk.loadE1
    rw [hba]
    exact r1
  unfold Dk.load
  rw [if_neg (by rw [e1]; simp), hba]
  show getB b (D.readS (17 + 2 * (b : Int)) 2) = _
  have r2' : D.readS (17 + 2 * (b : Int)) 2 = str (D.readL (17 + 2 * (b : Int)) 2) := r2
  rw [r2', readL_two, h1, h2, sect_two (blkL_len hr), ← hi]
  exact getB_put hr hv
theorem load_blank {D : Dk} (hc : Live D) {b : Nat} (hb : b ≤ 9) (h1 : D.sec (17 + 2 * (b : Int)) = str (zer 64)) (h2 : D.sec (17 + 2 * (b : Int) + 1) = str (zer 64)) : D.load b = (⟨b, 0, str (zer 96)⟩, 0) := by
  have hba : blockAt (b : Int) = (17 + 2 * (b : Int), 0) := if_neg (by omega)
  obtain ⟨r1, r2⟩ := hc.read (at_ := 17 + 2 * (b : Int)) (n := 2) (by omega) (by omega) (by omega)
  have e1 : D.loadE1 b = 0 := by
    unfold Dk.loadE1
    rw [hba]
    exact r1
  unfold Dk.load
  rw [if_neg (by rw [e1]; simp), hba]
  show getB b (D.readS (17 + 2 * (b : Int)) 2) = _
  have r2' : D.readS (17 + 2 * (b : Int)) 2 = str (D.readL (17 + 2 * (b : Int)) 2) := r2
  rw [r2', readL_two, h1, h2, str_list, zer_app]
  unfold getB
  rw [if_neg (by rw [str_size, zer_len]; omega), if_pos rfl]
theorem store_ok {D : Dk} {k : Nat} (hc : Calm D k) {n e : Nat} (hn : n ≤ 16) (he : D.table n = e) (h0 : e ≠ 0) {i : Im} (hr : i.right) {b : Nat} (hb : b ≤ 9) (hi : i.block = b) : D.store n e i = (0, D.writeN n (17 + 2 * (b : Int)) (str (blkL i)) 2) ∧ Calm (D.store n e i).2 (k + 2) := by
  have hba : blockAt i.block = (17 + 2 * (b : Int), 0) := by rw [hi]; exact if_neg (by omega)
  have e1 : D.store n e i = D.write n e (17 + 2 * (b : Int)) (str (blkL i)) := by
    unfold Dk.store
    rw [hba, if_neg (by simp), if_neg (by simp [hr])]
  have h := hc.write hn he h0 (at_ := 17 + 2 * (b : Int)) (data := str (blkL i)) (m := 2) (by rw [str_size, blkL_len hr]) (by omega) (by omega) (by omega) (by omega)
  rw [e1]
  exact h
/-- a record of three sectors that does not go round: one write -/
theorem put_one {D : Dk} {k : Nat} (hc : Calm D k) {g : Lg} (hn : g.node ≤ 16) (he : D.table g.node = g.epoch) (h0 : g.epoch ≠ 0) (hb : g.base ≤ 17) {x : En} (h3 : x.n = 3) (ha : x.at_ ≤ 4) (hs : x.bytes.size = 192) :
    D.put_ g x = (0, D.writeN g.node ((g.base + 1 + x.at_ : Nat) : Int) x.bytes 3) ∧ Calm (D.put_ g x).2 (k + 3) := by
  have hx : x.bytes.extract (0 * 64) ((0 + 3) * 64) = x.bytes := by
    refine ByteArray.ext ?_
    apply Array.toList_inj.1
    rw [extract_list]
    have : x.bytes.data.toList.length = 192 := hs
    rw [Nat.zero_mul, List.drop_zero, List.take_of_length_le (by omega)]
  have hmod : (x.at_ + 0) % 7 = x.at_ := by omega
  have hmin : min (x.n - 0) (7 - x.at_) = 3 := by omega
  have hw := hc.write hn he h0 (at_ := ((g.base + 1 + x.at_ : Nat) : Int)) (data := x.bytes) (m := 3) (by omega) (by omega) (by omega) (by omega) (by omega)
  have e : D.put_ g x = D.write g.node g.epoch ((g.base + 1 + x.at_ : Nat) : Int) x.bytes := by
    unfold Dk.put_
    rw [h3]
    have e1 : putGo g x 3 0 D = if x.n ≤ 0 then (0, D) else
      if (D.write g.node g.epoch ((g.base + 1 + (x.at_ + 0) % 7 : Nat) : Int) (x.bytes.extract (0 * 64) ((0 + min (x.n - 0) (7 - (x.at_ + 0) % 7)) * 64))).1 ≠ 0 then D.write g.node g.epoch ((g.base + 1 + (x.at_ + 0) % 7 : Nat) : Int) (x.bytes.extract (0 * 64) ((0 + min (x.n - 0) (7 - (x.at_ + 0) % 7)) * 64))
      else putGo g x 2 (0 + min (x.n - 0) (7 - (x.at_ + 0) % 7)) (D.write g.node g.epoch ((g.base + 1 + (x.at_ + 0) % 7 : Nat) : Int) (x.bytes.extract (0 * 64) ((0 + min (x.n - 0) (7 - (x.at_ + 0) % 7)) * 64))).2 := rfl
    rw [e1, if_neg (by omega), hmod, hmin, hx, if_neg (by rw [hw.1]; simp), putGo_le (by omega), hw.1]
  rw [e]
  exact hw
/-- the head of a log is laid -/
theorem lhead_ok {D : Dk} {k : Nat} (hc : Calm D k) {g : Lg} (hn : g.node ≤ 16) (he : D.table g.node = g.epoch) (h0 : g.epoch ≠ 0) (hb : g.base ≤ 17) {h : Hd} (hh : ¬ h.bad) :
    D.lhead g h = (0, (D.writeN g.node g.base (str (headL h)) 1).settle g.node) ∧ Calm (D.lhead g h).2 (k + 1) := by
  have e1 : h.putE = 0 := if_neg hh
  have e2 : h.putS = str (headL h) := if_neg hh
  have hw := hc.write hn he h0 (at_ := (g.base : Int)) (data := str (headL h)) (m := 1) (by rw [str_size, headL_len]) (by omega) (by omega) (by omega) (by omega)
  have ht : (D.writeN g.node g.base (str (headL h)) 1).table g.node = g.epoch := by rw [(writeN_same _ _ _ _ _).2.2.2.2.2.1]; exact he
  have hcw : Calm (D.writeN g.node g.base (str (headL h)) 1) (k + 1) := by have := hw.2; rw [hw.1] at this; exact this
  have hba := hcw.barrier hn ht h0
  have e : D.lhead g h = (D.writeN g.node g.base (str (headL h)) 1).barrier g.node g.epoch := by
    unfold Dk.lhead
    rw [e1, e2, if_neg (by simp), hw.1, if_neg (by simp)]
  rw [e]
  exact hba
/-- a record that is found, and what stands behind it -/
theorem scanL_one {r : Rc} (h : r.Good) {ep lsn f : Nat} (he : r.epoch = ep) (hl : r.lsn = lsn) (rest : List UInt8) : scanL ep (f + 1) lsn (str (recL r ++ rest)) = r :: scanL ep f ((lsn + 1) % 18446744073709551616) (str rest) := by
  obtain ⟨g1, g2, g3⟩ := rec_get_put (rest := rest) h
  rw [scanL_succ ep (by rw [g1, g2]; simp [he, hl]), g2, g3, rest_str]
  have : (recL r ++ rest).drop (secsOf r.images.length * 64) = rest := by
    rw [← recL_len r]
    exact List.drop_left
  rw [this]
theorem scanL_end {ep lsn f : Nat} {b : ByteArray} (h : getE b ≠ 0) : scanL ep (f + 1) lsn b = [] := if_pos (.inl h)
/-- one image, of a block, as a record -/
def rc1 (ep lsn n v : Nat) : Rc := ⟨ep, lsn, [⟨n, v, str (UInt8.ofNat n :: zer 95)⟩]⟩
theorem rc1_good {ep lsn n v : Nat} (h1 : ep ≠ 0) (_h2 : ep < 18446744073709551616) (h3 : lsn ≠ 0) (_h4 : lsn < 18446744073709551616) (hr : (⟨n, v, str (UInt8.ofNat n :: zer 95)⟩ : Im).right) (_hv : v < 18446744073709551616) : (rc1 ep lsn n v).wrongE = 0 := by
  unfold Rc.wrongE rc1
  rw [if_neg (by simp [h1, h3]), if_neg, if_neg (by simp)]
  simp only [List.mem_singleton, rise]
  rintro (⟨i, rfl, h⟩ | h)
  · exact h hr
  · exact absurd h (by decide)
/-- a head is there, and is read -/
theorem head_of {D : Dk} (hc : Live D) {h : Hd} (hb : ¬ h.bad) (he : h.epoch < 18446744073709551616) (hl : h.lsn < 18446744073709551616) (ha : h.at_ < 7) (hs : D.sec 1 = str (headL h)) : D.headE1 1 = 0 ∧ D.headH 1 = h ∧ D.headI 1 = true ∧ D.headE 1 = 0 := by
  have hla : logAt 1 = (1, 0) := rfl
  obtain ⟨r1, r2⟩ := hc.read (at_ := 1) (n := 1) (by omega) (by omega) (by omega)
  have e1 : D.headE1 1 = 0 := by
    unfold Dk.headE1
    rw [hla]
    exact r1
  have r2' : D.readS 1 1 = str (D.readL 1 1) := r2
  have hB : D.headB 1 = str (headL h) := by
    unfold Dk.headB
    rw [hla]
    show D.readS 1 1 = _
    rw [r2', readL_one, hs, str_list]
  obtain ⟨p1, p2⟩ := hd_put hb he hl
  have e2 : D.headH 1 = h := by
    unfold Dk.headH
    rw [hB, if_pos ⟨e1, p1⟩, p2]
  refine ⟨e1, e2, ?_, ?_⟩
  · unfold Dk.headI
    rw [hB]
    exact decide_eq_true ⟨e1, p1, by rw [p2]; exact ha⟩
  · unfold Dk.headE
    rw [e1, if_neg (by decide), hB, if_pos p1]
/-- no head: nothing is done, and nothing is found -/
theorem head_none {D : Dk} (hc : Live D) (hs : D.sec 1 = str (zer 64)) : D.headE 1 = 0 ∧ D.headI 1 = false := by
  have hla : logAt 1 = (1, 0) := rfl
  obtain ⟨r1, r2⟩ := hc.read (at_ := 1) (n := 1) (by omega) (by omega) (by omega)
  have e1 : D.headE1 1 = 0 := by
    unfold Dk.headE1
    rw [hla]
    exact r1
  have r2' : D.readS 1 1 = str (D.readL 1 1) := r2
  have hB : D.headB 1 = str (zer 64) := by
    unfold Dk.headB
    rw [hla]
    show D.readS 1 1 = _
    rw [r2', readL_one, hs, str_list]
  refine ⟨?_, ?_⟩
  · unfold Dk.headE
    rw [e1, if_neg (by decide), hB, if_neg (by rw [head_zero]; decide), if_pos]
    intro x hx
    rw [str_list] at hx
    exact List.eq_of_mem_replicate hx
  · unfold Dk.headI
    rw [hB, head_zero]
    simp
theorem run_none {D : Dk} (hc : Live D) (hs : D.sec 1 = str (zer 64)) (of_ : Nat) (by_ : Int) (e : Nat) : runR D 1 of_ by_ e = ⟨0, 0, D⟩ ∧ D.scan 1 = [] ∧ D.scanE 1 = 0 := by
  obtain ⟨h1, h2⟩ := head_none hc hs
  refine ⟨?_, ?_, ?_⟩
  · unfold runR
    rw [h1, h2]
    simp
  · unfold Dk.scan
    rw [h2]
    simp
  · unfold Dk.scanE
    rw [h1, h2]
    simp
end Go.Proofs.YtkhieofknglknaaGreatDoor

/- The law, plain: what Add makes of one image; what Apply makes of images of blocks that rise. -/
namespace Go.Proofs.YtkhieofknglknaaGreatDoor
open Go.RowKit

/-- what a block's sectors hold: nothing, or an image -/
def Holds (D : Dk) (b : Nat) (i : Im) : Prop := D.load b = (i, 0)
/-- Apply at one image whose block holds another -/
theorem apply_one {D : Dk} {node : Int} {epoch : Nat} {i was : Im} (h : D.load i.block = (was, 0)) (l : List Im) (n : Nat) : applyGo node epoch (i :: l) n D = if i.ver ≤ was.ver then applyGo node epoch l n D else if (D.store node epoch i).1 ≠ 0 then ⟨0, (D.store node epoch i).1, (D.store node epoch i).2⟩ else applyGo node epoch l (n + 1) (D.store node epoch i).2 := by
  rw [applyGo_cons, h]
  simp only [tornE]
  by_cases hv : i.ver ≤ was.ver
  · simp [hv]
  · simp [hv]
/-- other sectors are as they were -/
theorem store_sec {D : Dk} {n : Int} {b : Nat} {data : ByteArray} {k : Int} (h : k < 17 + 2 * (b : Int) ∨ 17 + 2 * (b : Int) + 2 ≤ k) : (D.writeN n (17 + 2 * (b : Int)) data 2).sec k = D.sec k := by
  rw [writeN_sec, if_neg (by omega)]
theorem store_load {D : Dk} {k : Nat} (hc : Calm D k) {n e : Nat} (hn : n ≤ 16) (he : D.table n = e) (h0 : e ≠ 0) {i : Im} (hr : i.right) (hv : i.ver < 18446744073709551616) {b : Nat} (hb : b ≤ 9) (hi : i.block = b) : (D.store n e i).2.load b = (i, 0) := by
  obtain ⟨s1, s2⟩ := store_ok hc hn he h0 hr hb hi
  refine load_of s2.live hr hv hb hi ?_ ?_
  · rw [s1, writeN_sec, if_pos (by omega)]
    have : (17 + 2 * (b : Int) - (17 + 2 * (b : Int))).toNat = 0 := by omega
    rw [this]
  · rw [s1, writeN_sec, if_pos (by omega)]
    have : (17 + 2 * (b : Int) + 1 - (17 + 2 * (b : Int))).toNat = 1 := by omega
    rw [this]
theorem load_eq {D : Dk} (hc : Live D) {b : Nat} (hb : b ≤ 9) : D.load b = getB b (str ((D.sec (17 + 2 * (b : Int))).data.toList ++ (D.sec (17 + 2 * (b : Int) + 1)).data.toList)) := by
  have hba : blockAt (b : Int) = (17 + 2 * (b : Int), 0) := if_neg (by omega)
  obtain ⟨r1, r2⟩ := hc.read (at_ := 17 + 2 * (b : Int)) (n := 2) (by omega) (by omega) (by omega)
  have e1 : D.loadE1 b = 0 := by
    unfold Dk.loadE1
    rw [hba]
    exact r1
  unfold Dk.load
  rw [if_neg (by rw [e1]; simp), hba]
  show getB b (D.readS (17 + 2 * (b : Int)) 2) = _
  have r2' : D.readS (17 + 2 * (b : Int)) 2 = str (D.readL (17 + 2 * (b : Int)) 2) := r2
  rw [r2', readL_two]
/-- Load hangs on the block's two sectors alone -/
theorem load_congr {D E : Dk} (hc : Live D) (he : Live E) {b : Nat} (hb : b ≤ 9) (h1 : D.sec (17 + 2 * (b : Int)) = E.sec (17 + 2 * (b : Int))) (h2 : D.sec (17 + 2 * (b : Int) + 1) = E.sec (17 + 2 * (b : Int) + 1)) : D.load b = E.load b := by
  rw [load_eq hc hb, load_eq he hb, h1, h2]
theorem bestOf_nil : bestOf [] = fun _ => none := rfl
theorem plan_nil : planOf [] = [] := by
  rw [plan_eq]
  simp [keysOf]
/-- the plan of one record of one image -/
theorem plan_one (r : Rc) (i : Im) (h : r.images = [i]) : planOf [r] = [i] := by
  have e : ([r] : List Rc).flatMap (·.images) = [i] := by simp [h]
  rw [plan_eq, e]
  have hk : keysOf [i] = [i.block] := by
    unfold keysOf
    simp [List.eraseDups_cons]
  rw [hk]
  show [keyG (bestOf [i]) i.block] = [i]
  have : bestOf [i] i.block = some i := by
    have h1 : bestOf ([] ++ [i]) = bestStep (bestOf []) i := bestOf_add [] i
    rw [List.nil_append] at h1
    rw [h1, best_none (by rfl), upd_same]
  unfold keyG
  rw [this]
  rfl
/-- the plan of two records, of one image each, of blocks that rise -/
theorem plan_two (r t : Rc) (i j : Im) (hr : r.images = [i]) (ht : t.images = [j]) (h : i.block < j.block) : planOf [r, t] = [i, j] := by
  have e : ([r, t] : List Rc).flatMap (·.images) = [i, j] := by simp [hr, ht]
  rw [plan_eq, e]
  have hne : j.block ≠ i.block := by omega
  have hk : keysOf [i, j] = [i.block, j.block] := by
    unfold keysOf
    have h1 : ([i, j].map (fun i : Im => i.block)).eraseDups = [i.block, j.block] := by
      simp [List.eraseDups_cons, hne]
    rw [h1]
    exact List.mergeSort_of_pairwise (by simp; omega)
  rw [hk]
  have h1 : bestOf ([] ++ [i]) = bestStep (bestOf []) i := bestOf_add [] i
  rw [List.nil_append, best_none (by rfl)] at h1
  have h2 : bestOf ([i] ++ [j]) = bestStep (bestOf [i]) j := bestOf_add [i] j
  have h3 : bestOf [i] j.block = none := by rw [h1, upd_other _ _ hne]; rfl
  rw [best_none h3] at h2
  have h4 : bestOf [i, j] = upd (bestOf [i]) j.block j := h2
  show [keyG (bestOf [i, j]) i.block, keyG (bestOf [i, j]) j.block] = [i, j]
  unfold keyG
  rw [h4, upd_same, upd_other _ _ (Ne.symm hne), h1, upd_same]
  rfl
end Go.Proofs.YtkhieofknglknaaGreatDoor

/- The law, plain: a view of the disk, and what each step leaves of it. -/
namespace Go.Proofs.YtkhieofknglknaaGreatDoor
open Go.RowKit

/-- what is told of a disk: whom it admits, its last epoch, the head of log 1, the sectors of its records, and each block -/
structure View (D : Dk) (k t1 t2 ls : Nat) (h l1 l2 l3 : List UInt8) (f : Nat → Im) : Prop where
  calm : Calm D k
  t1 : D.table 1 = t1
  t2 : D.table 2 = t2
  last : D.last = ls
  head : D.sec 1 = str h
  l1 : D.readL 2 3 = l1
  l2 : D.readL 5 3 = l2
  l3 : D.readL 8 1 = l3
  blk : ∀ b : Nat, b ≤ 9 → D.load b = (f b, 0)
theorem readL_add (D : Dk) (a : Int) (m : Nat) : ∀ n : Nat, D.readL a (m + n) = D.readL a m ++ D.readL (a + m) n
  | 0 => by
    show D.readL a m = D.readL a m ++ []
    rw [List.append_nil]
  | n + 1 => by
    have e : a + ((m + n : Nat) : Int) = a + m + n := by omega
    rw [← Nat.add_assoc, readL_succ, readL_succ, readL_add D a m n, List.append_assoc, e]
theorem readL_congr {D E : Dk} {a : Int} {n : Nat} (h : ∀ j, a ≤ j → j < a + n → D.sec j = E.sec j) : D.readL a n = E.readL a n := by
  induction n with
  | zero => rfl
  | succ n ih =>
    rw [readL_succ, readL_succ, ih (fun j h1 h2 => h j h1 (by omega)), h _ (by omega) (by omega)]
theorem readL_wrote (D : Dk) (n a : Int) (data : ByteArray) (m : Nat) (hd : data.size = m * 64) : (D.writeN n a data m).readL a m = data.data.toList := by
  have key : ∀ j : Nat, j ≤ m → (D.writeN n a data m).readL a j = data.data.toList.take (j * 64) := by
    intro j
    induction j with
    | zero => intro _; simp [Dk.readL]
    | succ j ih =>
      intro hj
      rw [readL_succ, ih (by omega), writeN_sec, if_pos (by omega)]
      have : (a + (j : Int) - a).toNat = j := by omega
      rw [this]
      unfold sect
      rw [extract_list]
      have h2 : data.data.toList.take (j * 64) = (data.data.toList.take ((j + 1) * 64)).take (j * 64) := by
        rw [List.take_take]
        congr 1
        omega
      rw [h2]
      exact List.take_append_drop _ _
  rw [key m (Nat.le_refl _), List.take_of_length_le]
  have : data.data.toList.length = data.size := rfl
  omega
section
variable {D E : Dk} {k m t1 t2 u1 u2 ls lt : Nat} {h l1 l2 l3 : List UInt8} {f : Nat → Im}
/-- the same sectors -/
theorem View.sects (v : View D k t1 t2 ls h l1 l2 l3 f) (hc : Calm E m) (h1 : E.table 1 = u1) (h2 : E.table 2 = u2) (h3 : E.last = lt) (hs : ∀ j, E.sec j = D.sec j) : View E m u1 u2 lt h l1 l2 l3 f :=
  ⟨hc, h1, h2, h3, (hs 1).trans v.head, (readL_congr (fun j _ _ => hs j)).trans v.l1, (readL_congr (fun j _ _ => hs j)).trans v.l2, (readL_congr (fun j _ _ => hs j)).trans v.l3, fun b hb => (load_congr hc.live v.calm.live hb (hs _) (hs _)).trans (v.blk b hb)⟩
theorem View.mono (v : View D k t1 t2 ls h l1 l2 l3 f) {j : Nat} (hj : k ≤ j) : View D j t1 t2 ls h l1 l2 l3 f := ⟨v.calm.mono hj, v.t1, v.t2, v.last, v.head, v.l1, v.l2, v.l3, v.blk⟩
theorem View.settle (v : View D k t1 t2 ls h l1 l2 l3 f) (n : Int) : View (D.settle n) k t1 t2 ls h l1 l2 l3 f :=
  v.sects (v.calm.settle n) (by rw [(settle_tab D n).1]; exact v.t1) (by rw [(settle_tab D n).1]; exact v.t2) (by rw [(settle_tab D n).2]; exact v.last) (settle_sec D n)
theorem View.barrier (v : View D k t1 t2 ls h l1 l2 l3 f) {n e : Nat} (hn : n ≤ 16) (he : D.table n = e) (h0 : e ≠ 0) : (D.barrier n e).1 = 0 ∧ View (D.barrier n e).2 k t1 t2 ls h l1 l2 l3 f := by
  obtain ⟨b1, _⟩ := v.calm.barrier hn he h0
  rw [b1]
  exact ⟨rfl, v.settle n⟩
theorem View.fence1 (v : View D k t1 t2 ls h l1 l2 l3 f) : (D.fence (1 : Nat)).1 = 0 ∧ View (D.fence (1 : Nat)).2 k 0 t2 ls h l1 l2 l3 f := by
  obtain ⟨b1, b2⟩ := v.calm.fence (n := 1) (by omega)
  refine ⟨by rw [b1], v.sects b2 (by rw [b1]; rfl) ?_ ?_ ?_⟩
  · rw [b1]
    show (if 2 = 1 then 0 else D.table 2) = t2
    rw [if_neg (by decide)]
    exact v.t2
  · rw [b1]
    exact (settle_tab D (1 : Nat)).2.trans v.last
  · exact sec_congr (fence_now v.calm (by omega))
theorem View.admit2 (v : View D k t1 t2 ls h l1 l2 l3 f) {e : Nat} (he : ls < e) : (D.admit (2 : Nat) e).1 = 0 ∧ View (D.admit (2 : Nat) e).2 k t1 e e h l1 l2 l3 f := by
  obtain ⟨b1, b2⟩ := v.calm.admit (n := 2) (by omega) (e := e) (by rw [v.last]; exact he)
  refine ⟨by rw [b1], v.sects b2 ?_ ?_ ?_ ?_⟩
  · rw [b1]
    show (if 1 = 2 then e else D.table 1) = t1
    rw [if_neg (by decide)]
    exact v.t1
  · rw [b1]
    rfl
  · rw [b1]
  · exact sec_congr (admit_now v.calm (by omega) (by rw [v.last]; exact he))
/-- sectors are written, somewhere -/
theorem View.writes (v : View D k t1 t2 ls h l1 l2 l3 f) {n e : Nat} (hn : n ≤ 16) (he : D.table n = e) (h0 : e ≠ 0) {a : Int} {data : ByteArray} {j : Nat} (hd : data.size = j * 64) (j1 : 1 ≤ j) (j2 : j ≤ 16) (a1 : 0 ≤ a) (a2 : a + j ≤ 37)
    {h' l1' l2' l3' : List UInt8} {f' : Nat → Im} (hh : (D.writeN n a data j).sec 1 = str h') (r1 : (D.writeN n a data j).readL 2 3 = l1') (r2 : (D.writeN n a data j).readL 5 3 = l2') (r3 : (D.writeN n a data j).readL 8 1 = l3')
    (hf : ∀ b : Nat, b ≤ 9 → Calm (D.writeN n a data j) (k + j) → (D.writeN n a data j).load b = (f' b, 0)) :
    D.write n e a data = (0, D.writeN n a data j) ∧ View (D.writeN n a data j) (k + j) t1 t2 ls h' l1' l2' l3' f' := by
  obtain ⟨w1, w2⟩ := v.calm.write hn he h0 hd j1 j2 a1 a2
  rw [w1] at w2
  have s := writeN_same D n a data j
  exact ⟨w1, w2, by rw [s.2.2.2.2.2.1]; exact v.t1, by rw [s.2.2.2.2.2.1]; exact v.t2, by rw [s.2.2.2.1]; exact v.last, hh, r1, r2, r3, fun b hb => hf b hb w2⟩
theorem View.keepL (h : ∀ j, (2 : Int) ≤ j → j < 9 → E.sec j = D.sec j) : E.readL 2 3 = D.readL 2 3 ∧ E.readL 5 3 = D.readL 5 3 ∧ E.readL 8 1 = D.readL 8 1 :=
  ⟨readL_congr (fun j _ _ => h j (by omega) (by omega)), readL_congr (fun j _ _ => h j (by omega) (by omega)), readL_congr (fun j _ _ => h j (by omega) (by omega))⟩
/-- the head is written -/
theorem View.headW (v : View D k t1 t2 ls h l1 l2 l3 f) {n e : Nat} (hn : n ≤ 16) (he : D.table n = e) (h0 : e ≠ 0) {h' : List UInt8} (hl : h'.length = 64) : D.write n e 1 (str h') = (0, D.writeN n 1 (str h') 1) ∧ View (D.writeN n 1 (str h') 1) (k + 1) t1 t2 ls h' l1 l2 l3 f := by
  have hs : ∀ j : Int, j ≠ 1 → (D.writeN n 1 (str h') 1).sec j = D.sec j := fun j hj => by rw [writeN_sec, if_neg (by omega)]
  obtain ⟨q1, q2, q3⟩ := View.keepL (D := D) (E := D.writeN n 1 (str h') 1) (fun j _ _ => hs j (by omega))
  refine v.writes hn he h0 (by rw [str_size, hl]) (by omega) (by omega) (by omega) (by omega) ?_ (q1.trans v.l1) (q2.trans v.l2) (q3.trans v.l3) (fun b hb hc => (load_congr hc.live v.calm.live hb (hs _ (by omega)) (hs _ (by omega))).trans (v.blk b hb))
  rw [writeN_sec, if_pos (by omega)]
  show (str h').extract (0 * 64) ((0 + 1) * 64) = _
  rw [extract_str, List.take_of_length_le (by omega), Nat.zero_mul, List.drop_zero]
/-- the first record is written -/
theorem View.recA (v : View D k t1 t2 ls h l1 l2 l3 f) {n e : Nat} (hn : n ≤ 16) (he : D.table n = e) (h0 : e ≠ 0) {r : List UInt8} (hl : r.length = 192) : View (D.writeN n 2 (str r) 3) (k + 3) t1 t2 ls h r l2 l3 f := by
  have hs : ∀ j : Int, j < 2 ∨ 5 ≤ j → (D.writeN n 2 (str r) 3).sec j = D.sec j := fun j hj => by rw [writeN_sec, if_neg (by omega)]
  refine (v.writes hn he h0 (a := 2) (data := str r) (j := 3) (by rw [str_size, hl]) (by omega) (by omega) (by omega) (by omega) ((hs _ (by omega)).trans v.head) ?_ ((readL_congr (fun j _ _ => hs j (by omega))).trans v.l2) ((readL_congr (fun j _ _ => hs j (by omega))).trans v.l3) (fun b hb hc => (load_congr hc.live v.calm.live hb (hs _ (by omega)) (hs _ (by omega))).trans (v.blk b hb))).2
  rw [readL_wrote _ _ _ _ _ (by rw [str_size, hl]), str_list]
/-- the second record is written -/
theorem View.recB (v : View D k t1 t2 ls h l1 l2 l3 f) {n e : Nat} (hn : n ≤ 16) (he : D.table n = e) (h0 : e ≠ 0) {r : List UInt8} (hl : r.length = 192) : View (D.writeN n 5 (str r) 3) (k + 3) t1 t2 ls h l1 r l3 f := by
  have hs : ∀ j : Int, j < 5 ∨ 8 ≤ j → (D.writeN n 5 (str r) 3).sec j = D.sec j := fun j hj => by rw [writeN_sec, if_neg (by omega)]
  refine (v.writes hn he h0 (a := 5) (data := str r) (j := 3) (by rw [str_size, hl]) (by omega) (by omega) (by omega) (by omega) ((hs _ (by omega)).trans v.head) ((readL_congr (fun j _ _ => hs j (by omega))).trans v.l1) ?_ ((readL_congr (fun j _ _ => hs j (by omega))).trans v.l3) (fun b hb hc => (load_congr hc.live v.calm.live hb (hs _ (by omega)) (hs _ (by omega))).trans (v.blk b hb))).2
  rw [readL_wrote _ _ _ _ _ (by rw [str_size, hl]), str_list]
def setIm (f : Nat → Im) (b : Nat) (i : Im) : Nat → Im := fun x => if x = b then i else f x
/-- a block is stored -/
theorem View.store (v : View D k t1 t2 ls h l1 l2 l3 f) {n e : Nat} (hn : n ≤ 16) (he : D.table n = e) (h0 : e ≠ 0) {i : Im} (hr : i.right) (hv : i.ver < 18446744073709551616) {b : Nat} (hb : b ≤ 9) (hi : i.block = b) : (D.store n e i).1 = 0 ∧ View (D.store n e i).2 (k + 2) t1 t2 ls h l1 l2 l3 (setIm f b i) := by
  obtain ⟨s1, s2⟩ := store_ok v.calm hn he h0 hr hb hi
  have sl := store_load v.calm hn he h0 hr hv hb hi
  rw [s1] at s2 sl ⊢
  have hs : ∀ j : Int, j < 17 + 2 * (b : Int) ∨ 17 + 2 * (b : Int) + 2 ≤ j → (D.writeN n (17 + 2 * (b : Int)) (str (blkL i)) 2).sec j = D.sec j := fun j hj => store_sec hj
  refine ⟨rfl, (v.writes hn he h0 (a := 17 + 2 * (b : Int)) (data := str (blkL i)) (j := 2) (by rw [str_size, blkL_len hr]) (by omega) (by omega) (by omega) (by omega) ((hs _ (by omega)).trans v.head) ((readL_congr (fun j _ _ => hs j (by omega))).trans v.l1) ((readL_congr (fun j _ _ => hs j (by omega))).trans v.l2) ((readL_congr (fun j _ _ => hs j (by omega))).trans v.l3) (fun c hc' hcal => ?_)).2⟩
  unfold setIm
  by_cases hcb : c = b
  · rw [if_pos hcb, hcb]
    exact sl
  · rw [if_neg hcb]
    exact (load_congr hcal.live v.calm.live hc' (hs _ (by omega)) (hs _ (by omega))).trans (v.blk c hc')
end
/-- a block that was never written -/
def blank (b : Nat) : Im := ⟨b, 0, str (zer 96)⟩
theorem readyV : View readyD 49 9 (readyD.table 2) 9 (zer 64) (zer 192) (zer 192) (zer 64) blank := by
  obtain ⟨c, l, t, s⟩ := ready_facts
  generalize readyD = R at c l t s ⊢
  have hs : ∀ j : Int, j ≠ 0 → R.sec j = str (zer 64) := fun j hj => by rw [s, if_neg hj]
  have hz : ∀ (a : Int) (n : Nat), 1 ≤ a → R.readL a n = zer (n * 64) := by
    intro a n ha
    induction n with
    | zero => rfl
    | succ n ih =>
      rw [readL_succ, ih, hs _ (by omega), str_list, zer_app]
      congr 1
      omega
  exact ⟨c, t, rfl, l, hs _ (by omega), hz _ _ (by omega), hz _ _ (by omega), hz _ _ (by omega), fun b hb => load_blank c.live hb (hs _ (by omega)) (hs _ (by omega))⟩
end Go.Proofs.YtkhieofknglknaaGreatDoor
