/- commonslaw10.Ready: a disk that is formatted, and the document's. -/
import Derived.Test.YtjffjolopoejlaaGreatDoorKReadyP
import Derived.Test.YtjffjolopoejlaaGreatDoorKRefG
import Derived.Test.YtjffjolopoejlaaGreatDoorKEveP
import Derived.Test.YtjffjolopoejlaaGreatDoorKLeaf
import Derived.Test.YtjffjolopoejlaaGreatDoorKDiskC
import Derived.Test.YtjffjolopoejlaaGreatDoorKOpenRecs
namespace Go.Proofs.YtjffjolopoejlaaGreatDoor
open Go.RowKit

set_option maxRecDepth 100000 in
theorem ready_now : readyD.now = (Dk.fresh 37).formatF.now := by
  obtain ⟨f1, f2, f3⟩ := format_facts calm_fresh fresh_last
  have e1 : readyD = ((Dk.fresh 37).formatF.admit (1 : Nat) 9).2 := rfl
  rw [e1]
  generalize (Dk.fresh 37).formatF = F at f1 f2
  exact admit_now f1 (by omega) (by rw [f2]; omega)
set_option maxRecDepth 100000 in
theorem format_sec0 : (Dk.fresh 37).formatF.sec 0 = str superL := by
  rw [← sec_congr ready_now 0, ready_facts.2.2.2 0]
  rfl
def refR0 : RK := ⟨37, [], fun _ => 0, fun _ => 0, 0⟩
def refR1 : RK := (refR0.admit 0 1).write (0 : Nat) 0 (str superL) 1
def readyR : RK := ((refR1.keep (0 : Nat)).fence 0).admit 1 9
def readyC (cd cr : Nat) : Nat → Prop := fun x => six cd x ∨ logL cr x
set_option maxRecDepth 100000 in
set_option maxHeartbeats 8000000 in
theorem ready_any {o : Nat → Nat} {cd cr : Nat} {w : World} (hf : Fut o w) (hcd : 1 ≤ cd) (hcr : cd + 5 < cr) : Calls Tryz.prog 16 #[] w fun e w' => ∃ p r, e = .returned (.tuple #[.pointer (some ⟨p, 0, none⟩), .pointer (some ⟨r, 0, none⟩), .agg #[.int .i64 2, .int .i64 10, .int .i64 8, .int .i64 4, .int .i64 32], .bool true]) ∧ ∃ o', DiskAt o' cd w' p readyD ∧ RefAt o' cr w' r readyR ∧ Step o (readyC cd cr) w o' w' := by
  have HX := Lib.hid (Keep.new hf 37 #[.int .i64 0, .int .i64 0, .int .i64 0, .int .i64 0, .int .i64 0])
  have HF := Lib.hid (hf.alloc (.cells #[.int .i64 0, .int .i64 0, .int .i64 0, .int .i64 0, .int .i64 0] 37))
  have HS := Lib.hid ((Step.refl o (readyC cd cr) w).alloc (.cells #[.int .i64 0, .int .i64 0, .int .i64 0, .int .i64 0, .int .i64 0] 37))
  have HCD := Lib.hid hcd
  have HCR := Lib.hid hcr
  have HN := Lib.hid (no_six hcd)
  clear hf hcd hcr
  go_enter Tryz.func16, Tryz.ntmps16
  go_wp2_with fail
  generalize w.alloc (.cells #[.int .i64 0, .int .i64 0, .int .i64 0, .int .i64 0, .int .i64 0] 37) = W at HX HF HS ⊢
  refine (shape9_any W).mono ?_
  rintro e w1 ⟨rfl, hb1⟩
  have HS1 := Lib.hid (Keep.new (HF.out.below hb1) 35 #[.int .i64 2, .int .i64 10, .int .i64 8, .int .i64 4, .int .i64 32])
  have HX1 := Lib.hid ((HX.out.below_ hb1).alloc (.cells #[.int .i64 2, .int .i64 10, .int .i64 8, .int .i64 4, .int .i64 32] 35))
  have HF1 := Lib.hid ((HF.out.below hb1).alloc (.cells #[.int .i64 2, .int .i64 10, .int .i64 8, .int .i64 4, .int .i64 32] 35))
  have HT1 := Lib.hid ((HS.out.trans (Step.of_below o (readyC cd cr) hb1)).alloc (.cells #[.int .i64 2, .int .i64 10, .int .i64 8, .int .i64 4, .int .i64 32] 35))
  clear hb1
  go_upto_region 2 with (fail)
  generalize w1.alloc (.cells #[.int .i64 2, .int .i64 10, .int .i64 8, .int .i64 4, .int .i64 32] 35) = W1 at HS1 HX1 HF1 HT1 ⊢
  generalize w1.heap.size = gS at HS1 ⊢
  obtain ⟨s0, s1, s2, s3, s4⟩ := HS1.out.1.five
  go_wp2_with fail
  refine (refsize_any W1).mono ?_
  rintro e w2 ⟨rfl, hb2⟩
  have HS2 := Lib.hid (HS1.out.below_ hb2)
  have HX2 := Lib.hid (HX1.out.below_ hb2)
  have HF2 := Lib.hid (HF1.out.below hb2)
  have HT2 := Lib.hid (HT1.out.trans (Step.of_below o (readyC cd cr) hb2))
  clear hb2 s0 s1 s2 s3 s4
  go_wp2_with fail
  refine (dnew_any o cd HCD.out w2).mono ?_
  rintro e w3 ⟨p, rfl, o3, hd3, hs3⟩
  have HD3 := Lib.hid hd3
  have HS3 := Lib.hid (HS2.out.step (hs3 (fun _ => False)) id)
  have HX3 := Lib.hid (HX2.out.step (hs3 (fun _ => False)) id)
  have HF3 := Lib.hid (HF2.out.step (hs3 (fun _ => False)))
  have HT3 := Lib.hid (HT2.out.trans (hs3 (readyC cd cr)))
  clear hd3 hs3
  obtain ⟨s0, s1, s2, s3, s4⟩ := HS3.out.1.five
  go_wp2_with fail
  refine (uformat_any HD3.out calm_fresh (by omega) (by rw [fresh_last]; omega) HCD.out HF3.out).mono ?_
  rintro e w4 ⟨rfl, o4, hd4, hs4⟩
  have HD4 := Lib.hid hd4
  have HS4 := Lib.hid (HS3.out.step hs4 HN.out)
  have HX4 := Lib.hid (HX3.out.step hs4 HN.out)
  have HF4 := Lib.hid (HF3.out.step hs4)
  have HT4 := Lib.hid (HT3.out.trans (hs4.mono (fun _ h => .inl h)))
  clear hd4 hs4 s0 s1 s2 s3 s4
  obtain ⟨ff1, ff2, _⟩ := format_facts calm_fresh fresh_last
  have HC4 := Lib.hid ff1
  have HL4 := Lib.hid ff2
  have HS0 := Lib.hid format_sec0
  have HRD := Lib.hid (show ((Dk.fresh 37).formatF.admit (1 : Nat) 9).2 = readyD from rfl)
  clear ff1 ff2
  generalize (Dk.fresh 37).formatF = F at HD4 HC4 HL4 HS0 HRD
  go_wp2_with fail
  refine (uload_any HD4.out HC4.out HS0.out).mono ?_
  rintro e w5 ⟨rfl, hb5⟩
  have HD5 := Lib.hid ((HD4.out.below_ hb5).alloc (.cells #[.int .i64 2, .int .i64 10, .int .i64 8, .int .i64 4, .int .i64 32] 37))
  have HS5 := Lib.hid ((HS4.out.below_ hb5).alloc (.cells #[.int .i64 2, .int .i64 10, .int .i64 8, .int .i64 4, .int .i64 32] 37))
  have HX5 := Lib.hid ((HX4.out.below_ hb5).alloc (.cells #[.int .i64 2, .int .i64 10, .int .i64 8, .int .i64 4, .int .i64 32] 37))
  have HY5 := Lib.hid (Keep.new (HF4.out.below hb5) 37 #[.int .i64 2, .int .i64 10, .int .i64 8, .int .i64 4, .int .i64 32])
  have HF5 := Lib.hid ((HF4.out.below hb5).alloc (.cells #[.int .i64 2, .int .i64 10, .int .i64 8, .int .i64 4, .int .i64 32] 37))
  have HT5 := Lib.hid ((HT4.out.trans (Step.of_below o4 (readyC cd cr) hb5)).alloc (.cells #[.int .i64 2, .int .i64 10, .int .i64 8, .int .i64 4, .int .i64 32] 37))
  clear hb5
  go_upto_region 5 with (fail)
  generalize w5.alloc (.cells #[.int .i64 2, .int .i64 10, .int .i64 8, .int .i64 4, .int .i64 32] 37) = W5 at HD5 HS5 HX5 HY5 HF5 HT5 ⊢
  generalize w5.heap.size = gY at HY5 ⊢
  go_wp2_with fail
  refine (dadmit_k (n := 1) (e := 9) HD5.out HC4.out (by omega) (by rw [HL4.out]; omega)).mono ?_
  rintro e w6 ⟨rfl, o6, hd6, hs6⟩
  rw [HRD.out] at hd6
  have HD6 := Lib.hid hd6
  have HS6 := Lib.hid (HS5.out.step hs6 HN.out)
  have HX6 := Lib.hid (HX5.out.step hs6 HN.out)
  have HY6 := Lib.hid (HY5.out.step hs6 HN.out)
  have HF6 := Lib.hid (HF5.out.step hs6)
  have HT6 := Lib.hid (HT5.out.trans (hs6.mono (fun _ h => .inl h)))
  clear hd6 hs6
  obtain ⟨s0, s1, s2, s3, s4⟩ := HS6.out.1.five
  go_wp2_with fail
  refine (refsize_any w6).mono ?_
  rintro e w7 ⟨rfl, hb7⟩
  obtain ⟨o8, hq8, hs8⟩ := alloc_as o6 w7 (.cells #[.int .i64 37, .slice none 0 0, .bool false, .int .u64 0, .int .u64 0, .int .u64 0, .int .u64 0, .int .u64 0, .int .u64 0, .int .u64 0, .int .u64 0, .int .u64 0, .int .u64 0, .int .u64 0, .int .u64 0, .int .u64 0, .int .u64 0, .int .u64 0, .int .u64 0, .int .u64 0, .int .u64 0, .int .u64 0, .int .u64 0, .int .u64 0, .int .u64 0, .int .u64 0, .int .u64 0, .int .u64 0, .int .u64 0, .int .u64 0, .int .u64 0, .int .u64 0, .int .u64 0, .int .u64 0, .int .u64 0, .int .u64 0, .int .u64 0, .int .u64 0, .bool false, .int .i64 0, .slice none 0 0] 108) cr
  have hb8 : Step o6 (fun _ => False) w6 o8 (w7.alloc (.cells #[.int .i64 37, .slice none 0 0, .bool false, .int .u64 0, .int .u64 0, .int .u64 0, .int .u64 0, .int .u64 0, .int .u64 0, .int .u64 0, .int .u64 0, .int .u64 0, .int .u64 0, .int .u64 0, .int .u64 0, .int .u64 0, .int .u64 0, .int .u64 0, .int .u64 0, .int .u64 0, .int .u64 0, .int .u64 0, .int .u64 0, .int .u64 0, .int .u64 0, .int .u64 0, .int .u64 0, .int .u64 0, .int .u64 0, .int .u64 0, .int .u64 0, .int .u64 0, .int .u64 0, .int .u64 0, .int .u64 0, .int .u64 0, .int .u64 0, .int .u64 0, .bool false, .int .i64 0, .slice none 0 0] 108)) := (Step.of_below o6 _ hb7).trans hs8
  have HD8 := Lib.hid (HD6.out.step hb8 (fun _ _ _ => id))
  have HS8 := Lib.hid (HS6.out.step hb8 id)
  have HX8 := Lib.hid (HX6.out.step hb8 id)
  have HY8 := Lib.hid (HY6.out.step hb8 id)
  have HF8 := Lib.hid (HF6.out.step hb8)
  have HT8 := Lib.hid (HT6.out.trans (hb8.mono (fun _ h => h.elim)))
  have HR8 := Lib.hid (show RefAt o8 cr (w7.alloc (.cells #[.int .i64 37, .slice none 0 0, .bool false, .int .u64 0, .int .u64 0, .int .u64 0, .int .u64 0, .int .u64 0, .int .u64 0, .int .u64 0, .int .u64 0, .int .u64 0, .int .u64 0, .int .u64 0, .int .u64 0, .int .u64 0, .int .u64 0, .int .u64 0, .int .u64 0, .int .u64 0, .int .u64 0, .int .u64 0, .int .u64 0, .int .u64 0, .int .u64 0, .int .u64 0, .int .u64 0, .int .u64 0, .int .u64 0, .int .u64 0, .int .u64 0, .int .u64 0, .int .u64 0, .int .u64 0, .int .u64 0, .int .u64 0, .int .u64 0, .int .u64 0, .bool false, .int .i64 0, .slice none 0 0] 108)) w7.heap.size refR0 from ⟨.slice none 0 0, Blk.new _ _ _, hq8, OwnS.nil _ _ _ _ _⟩)
  clear hb7 hq8 hs8 hb8 s0 s1 s2 s3 s4
  go_upto_region 8 with (fail)
  generalize w7.alloc (.cells #[.int .i64 37, .slice none 0 0, .bool false, .int .u64 0, .int .u64 0, .int .u64 0, .int .u64 0, .int .u64 0, .int .u64 0, .int .u64 0, .int .u64 0, .int .u64 0, .int .u64 0, .int .u64 0, .int .u64 0, .int .u64 0, .int .u64 0, .int .u64 0, .int .u64 0, .int .u64 0, .int .u64 0, .int .u64 0, .int .u64 0, .int .u64 0, .int .u64 0, .int .u64 0, .int .u64 0, .int .u64 0, .int .u64 0, .int .u64 0, .int .u64 0, .int .u64 0, .int .u64 0, .int .u64 0, .int .u64 0, .int .u64 0, .int .u64 0, .int .u64 0, .bool false, .int .i64 0, .slice none 0 0] 108) = W8 at HD8 HS8 HX8 HY8 HF8 HT8 HR8 ⊢
  generalize w7.heap.size = r at HR8 ⊢
  obtain ⟨s0, s1, s2, s3, s4⟩ := HS8.out.1.five
  go_wp2_with fail
  refine (refputshape_any W8).mono ?_
  rintro e w9 ⟨rfl, hb9⟩
  have HD9 := Lib.hid (HD8.out.below_ hb9)
  have HX9 := Lib.hid (HX8.out.below_ hb9)
  have HY9 := Lib.hid (HY8.out.below_ hb9)
  have HF9 := Lib.hid (HF8.out.below hb9)
  have HT9 := Lib.hid (HT8.out.trans (Step.of_below o8 (readyC cd cr) hb9))
  have HR9 := Lib.hid (HR8.out.below_ hb9)
  clear hb9 s0 s1 s2 s3 s4
  go_wp2_with fail
  refine (refadmit_ok HR9.out 0 1 (by omega) (by show (0 : Nat) < 1; omega)).mono ?_
  rintro e w10 ⟨rfl, hr, hs⟩
  have hsl : Step o8 (logL cr) w9 o8 w10 := hs.mono (logL_log cr)
  obtain ⟨oN10, hoN⟩ : ∃ oo, oo = o8 := ⟨_, rfl⟩
  rw [← hoN] at hr
  have hsl : Step o8 (logL cr) w9 oN10 w10 := hoN ▸ hsl
  clear hs hoN
  have HR10 := Lib.hid hr
  have HD10 := Lib.hid (HD9.out.step hsl (by have := HCR.out; unfold logL; omega))
  have HX10 := Lib.hid (HX9.out.step hsl (by have := HCR.out; unfold logL; omega))
  have HY10 := Lib.hid (HY9.out.step hsl (by have := HCR.out; unfold logL; omega))
  have HT10 := Lib.hid (HT9.out.trans (hsl.mono (fun _ h => .inr h)))
  clear hr hsl
  go_wp2_with fail
  refine (refwrite_ok HR10.out 0 1 0 (str superL) 1 (by omega) rfl (by omega) (by rw [str_size, superL_len]) (by omega) (by omega) (by omega) (by show (0 : Int) + 1 ≤ 37; omega) (by show (37 : Nat) ≤ 100000; omega) (by show (0 : Nat) ≤ 90000; omega)).mono ?_
  rintro e w11 ⟨rfl, oN11, hr, hsl⟩
  have HR11 := Lib.hid hr
  have HD11 := Lib.hid (HD10.out.step hsl (by have := HCR.out; unfold logL; omega))
  have HX11 := Lib.hid (HX10.out.step hsl (by have := HCR.out; unfold logL; omega))
  have HY11 := Lib.hid (HY10.out.step hsl (by have := HCR.out; unfold logL; omega))
  have HT11 := Lib.hid (HT10.out.trans (hsl.mono (fun _ h => .inr h)))
  clear hr hsl
  go_wp2_with fail
  refine (refbarrier_ok HR11.out 0 1 (by omega) rfl (by omega) (by show (1 : Nat) ≤ 100000; omega)).mono ?_
  rintro e w12 ⟨rfl, oN12, hr, hsl⟩
  have HR12 := Lib.hid hr
  have HD12 := Lib.hid (HD11.out.step hsl (by have := HCR.out; unfold logL; omega))
  have HX12 := Lib.hid (HX11.out.step hsl (by have := HCR.out; unfold logL; omega))
  have HY12 := Lib.hid (HY11.out.step hsl (by have := HCR.out; unfold logL; omega))
  have HT12 := Lib.hid (HT11.out.trans (hsl.mono (fun _ h => .inr h)))
  clear hr hsl
  go_wp2_with fail
  refine (reffence_ok HR12.out 0 (by omega) (by show (1 : Nat) ≤ 100000; omega)).mono ?_
  rintro e w13 ⟨rfl, oN13, hr, hsl⟩
  have HR13 := Lib.hid hr
  have HD13 := Lib.hid (HD12.out.step hsl (by have := HCR.out; unfold logL; omega))
  have HX13 := Lib.hid (HX12.out.step hsl (by have := HCR.out; unfold logL; omega))
  have HY13 := Lib.hid (HY12.out.step hsl (by have := HCR.out; unfold logL; omega))
  have HT13 := Lib.hid (HT12.out.trans (hsl.mono (fun _ h => .inr h)))
  clear hr hsl
  go_wp2_with fail
  refine (refadmit_ok HR13.out 1 9 (by omega) (by show (1 : Nat) < 9; omega)).mono ?_
  rintro e w14 ⟨rfl, hr, hs⟩
  have hsl : Step oN13 (logL cr) w13 oN13 w14 := hs.mono (logL_log cr)
  obtain ⟨oN14, hoN⟩ : ∃ oo, oo = oN13 := ⟨_, rfl⟩
  rw [← hoN] at hr
  have hsl : Step oN13 (logL cr) w13 oN14 w14 := hoN ▸ hsl
  clear hs hoN
  have HR14 := Lib.hid hr
  have HD14 := Lib.hid (HD13.out.step hsl (by have := HCR.out; unfold logL; omega))
  have HX14 := Lib.hid (HX13.out.step hsl (by have := HCR.out; unfold logL; omega))
  have HY14 := Lib.hid (HY13.out.step hsl (by have := HCR.out; unfold logL; omega))
  have HT14 := Lib.hid (HT13.out.trans (hsl.mono (fun _ h => .inr h)))
  clear hr hsl
  go_wp2_with fail
  obtain ⟨y0, y1, y2, y3, y4⟩ := HY14.out.1.five
  obtain ⟨x0, x1, x2, x3, x4⟩ := HX14.out.1.five
  have f0 := HX14.out.1.frozen 0
  have f1 := HX14.out.1.frozen 1
  have f2 := HX14.out.1.frozen 2
  have f3 := HX14.out.1.frozen 3
  have f4 := HX14.out.1.frozen 4
  go_region
  have S5 := ((((((Step.refl oN14 (only 0) w14).setCell (p := ⟨w.heap.size, 0, none⟩) HX14.out.2 (.int .i64 2)).setCell (p := ⟨w.heap.size, 1, none⟩) HX14.out.2 (.int .i64 10)).setCell (p := ⟨w.heap.size, 2, none⟩) HX14.out.2 (.int .i64 8)).setCell (p := ⟨w.heap.size, 3, none⟩) HX14.out.2 (.int .i64 4)).setCell (p := ⟨w.heap.size, 4, none⟩) HX14.out.2 (.int .i64 32)).drew
  have HX15 := Lib.hid ((HX14.out.1.put5 (.int .i64 2) (.int .i64 10) (.int .i64 8) (.int .i64 4) (.int .i64 32)).drew)
  have HD15 := Lib.hid (HD14.out.step S5 (by have := HCD.out; unfold only; omega))
  have HR15 := Lib.hid (HR14.out.step S5 (by have := HCR.out; unfold only; omega) (by have := HCR.out; unfold only; omega))
  have HT15 := Lib.hid (((((((HT14.out).setNew (p := ⟨w.heap.size, 0, none⟩) (Nat.le_refl _) (.int .i64 2)).setNew (p := ⟨w.heap.size, 1, none⟩) (Nat.le_refl _) (.int .i64 10)).setNew (p := ⟨w.heap.size, 2, none⟩) (Nat.le_refl _) (.int .i64 8)).setNew (p := ⟨w.heap.size, 3, none⟩) (Nat.le_refl _) (.int .i64 4)).setNew (p := ⟨w.heap.size, 4, none⟩) (Nat.le_refl _) (.int .i64 32)).drew)
  clear S5 x0 x1 x2 x3 x4 y0 y1 y2 y3 y4 f0 f1 f2 f3 f4
  generalize ((((((w14).setCell ⟨w.heap.size, 0, none⟩ (.int .i64 2)).setCell ⟨w.heap.size, 1, none⟩ (.int .i64 10)).setCell ⟨w.heap.size, 2, none⟩ (.int .i64 8)).setCell ⟨w.heap.size, 3, none⟩ (.int .i64 4)).setCell ⟨w.heap.size, 4, none⟩ (.int .i64 32)).drew = WE at HX15 HD15 HR15 HT15 ⊢
  obtain ⟨q0, q1, q2, q3, q4⟩ := HX15.out.five
  go_wp2_with fail
  exact bodyPost_ret (v := .tuple #[.pointer (some ⟨p, 0, none⟩), .pointer (some ⟨r, 0, none⟩), .agg #[.int .i64 2, .int .i64 10, .int .i64 8, .int .i64 4, .int .i64 32], .bool true]) (by simp [results, Tryz.results16, go_sem, q0, q1, q2, q3, q4]) rfl ⟨p, r, rfl, oN14, HD15.out, HR15.out, HT15.out⟩
end Go.Proofs.YtjffjolopoejlaaGreatDoor

/- The law's One: an image of a block. -/
namespace Go.Proofs.YtjffjolopoejlaaGreatDoor
open Go.RowKit

def oneL (n : Nat) : List UInt8 := UInt8.ofNat n :: zer 95
theorem oneL_len (n : Nat) : (oneL n).length = 96 := by unfold oneL; rw [List.length_cons, zer_len]
/-- the bytes that are made, the first one written -/
theorem mkone (w : World) (n : Nat) (hn : n < 256) : ∃ w', (Instr.makeSlice 79 (.int .i64 96) (.int .i64 96)).run Tryz.prog w = .ok (.slice (some ⟨w.heap.size, 0, none⟩) 96 96) w' ∧ Below w.heap.size w w' ∧ w.heap.size < w'.heap.size ∧
    w'.cell? ⟨w.heap.size, 0, none⟩ = some (.int .u8 0) ∧ w'.frozen? ⟨w.heap.size, 0, none⟩ = false ∧
    (convert 79 9 (.slice (some ⟨w.heap.size, 0, none⟩) 96 96)).run Tryz.prog (w'.setCell ⟨w.heap.size, 0, none⟩ (.int .u8 n)) = .ok (.string (str (oneL n))) (w'.setCell ⟨w.heap.size, 0, none⟩ (.int .u8 n)) := by
  obtain ⟨w', h1, h2, h3, h4⟩ := mkbytes w 96 (by omega)
  have ho : OwnS (fun _ => 0) 0 w' 5 1 (.slice (some ⟨w.heap.size, 0, none⟩) 96 96) 96 (bvs (zer 96)) := own_from h2 (fun _ _ => rfl)
  obtain ⟨g, cur, e, hb, hg, hc1, hcm, hsz, htk⟩ := ho.blk (by omega)
  injection e with e
  injection e with e _ _
  subst e
  have hcur : cur.toList = bvs (zer 96) := by
    rw [← htk, List.take_of_length_le (by rw [Array.length_toList, hsz]; omega)]
  have c0 : w'.cell? ⟨w.heap.size, 0, none⟩ = some (.int .u8 0) := by
    rw [hb.cell, ← Array.getElem?_toList, hcur]
    rfl
  refine ⟨w', h1, h3, hb.lt, c0, hb.frozen 0, ?_⟩
  refine conv_at (cap := 96) (l := oneL n) (hb.set_ 0 (.int .u8 n)) ?_ (oneL_len n)
  rw [List.drop_zero, Array.toList_setIfInBounds, hcur]
  have hbv : bv (UInt8.ofNat n) = .int .u8 n := by
    unfold bv
    have : ((UInt8.ofNat n).toNat : Int) = (n : Int) := by rw [UInt8.toNat_ofNat']; omega
    rw [this]
  show _ :: _ = bv (UInt8.ofNat n) :: List.map bv (zer 95)
  rw [hbv]
  rfl
set_option maxRecDepth 100000 in
set_option maxHeartbeats 2000000 in
theorem one11_any (n v : Nat) (hn : n < 256) (w : World) : Calls Tryz.prog 19 #[.int .i64 (n : Int), .int .u64 (v : Int)] w fun e w' => e = .returned (.agg #[.int .i64 (n : Int), .int .u64 (v : Int), .string (str (oneL n))]) ∧ Below w.heap.size w w' := by
  obtain ⟨w1, h1, h2, h3, c0, f0, hcv⟩ := mkone (w.alloc (.cells #[.int .i64 0, .int .u64 0, .string ⟨#[]⟩] 54)) n hn
  have hz := Blk.new w 54 #[.int .i64 0, .int .u64 0, .string ⟨#[]⟩]
  have hB := (Below.refl w.heap.size w).alloc (Nat.le_refl _) (.cells #[.int .i64 0, .int .u64 0, .string ⟨#[]⟩] 54)
  have z0 : (w.alloc (.cells #[.int .i64 0, .int .u64 0, .string ⟨#[]⟩] 54)).heap.size = w.heap.size + 1 := by simp
  rw [z0] at h1 h2 h3 c0 f0 hcv
  have HZ := Lib.hid ((hz.below_ (by rw [z0]; exact h2)).far (p := ⟨w.heap.size + 1, 0, none⟩) (by simp) (.int .u8 n))
  have HB := Lib.hid ((hB.trans (h2.mono (by omega))).setCell (p := ⟨w.heap.size + 1, 0, none⟩) (by simp) (.int .u8 n))
  have hw8 : IntKind.u8.wrap (n : Int) = (n : Int) := by rw [IntKind.wrap_u8]; omega
  have hzc := z0
  obtain ⟨S, hS⟩ : ∃ S, str (oneL n) = S := ⟨_, rfl⟩
  rw [hS] at hcv ⊢
  obtain ⟨y0, y1, y2⟩ := HZ.out.three
  have f0' := HZ.out.frozen 0
  have f1 := HZ.out.frozen 1
  have f2 := HZ.out.frozen 2
  clear hz hB h2 h3 hS
  go_enter Tryz.func19, Tryz.ntmps19
  go_wp2_with fail
  have HZ2 := Lib.hid (HZ.out.put3 (.int .i64 (n : Int)) (.int .u64 (v : Int)) (.string S))
  have HB2 := Lib.hid (below_put3 HB.out (Nat.le_refl _) (.int .i64 (n : Int)) (.int .u64 (v : Int)) (.string S))
  clear y0 y1 y2 f0' f1 f2 c0 f0 hcv
  generalize (((w1.setCell ⟨w.heap.size + 1, 0, none⟩ (.int .u8 n)).setCell ⟨w.heap.size, 0, none⟩ (.int .i64 (n : Int))).setCell ⟨w.heap.size, 1, none⟩ (.int .u64 (v : Int))).setCell ⟨w.heap.size, 2, none⟩ (.string S) = WE at HZ2 HB2 ⊢
  obtain ⟨q0, q1, q2⟩ := HZ2.out.three
  exact bodyPost_ret (v := .agg #[.int .i64 (n : Int), .int .u64 (v : Int), .string S]) (by simp [results, Tryz.results19, go_sem, q0, q1, q2]) rfl ⟨rfl, HB2.out⟩
end Go.Proofs.YtjffjolopoejlaaGreatDoor

/- commonslaw13.alive: a record is added, synced, done again, and read. -/
namespace Go.Proofs.YtjffjolopoejlaaGreatDoor
open Go.RowKit

theorem plan_alive : planOf (scanL 9 10 1 (str (recL (rcI 1 (oneIm 3 1)) ++ zer 192 ++ zer 64))) = [oneIm 3 1] := by
  rw [scan_one (oneIm_right (by decide) _) (by decide)]
  exact plan_one _ _ rfl
theorem right_alive : ∀ i ∈ [oneIm 3 1], i.right ∧ i.ver < 18446744073709551616 ∧ i.block ≤ 9 := by
  intro i hi
  rw [List.mem_singleton.1 hi]
  exact ⟨oneIm_right (by decide) _, by decide, by decide⟩
def nz : Nat → Prop := fun x => x ≠ 0
theorem nz_six (c : Nat) (h : 1 ≤ c) : ∀ x, six c x → nz x := fun x hx => by unfold six at hx; unfold nz; omega
theorem nz_logL (c : Nat) (h : 1 ≤ c) : ∀ x, logL c x → nz x := fun x hx => by unfold logL at hx; unfold nz; omega
theorem nz_logC (c d : Nat) (h : 1 ≤ c) (h2 : 1 ≤ d) : ∀ x, logC c d x → nz x := fun x hx => by unfold logC six at hx; unfold nz; omega
theorem nz_ready : ∀ x, readyC 1 10 x → nz x := fun x hx => by unfold readyC six logL at hx; unfold nz; omega
set_option maxRecDepth 100000 in
set_option maxHeartbeats 8000000 in
theorem alive13_any {o : Nat → Nat} {w : World} (hf : Fut o w) : Calls Tryz.prog 5 #[] w fun e w' => e = .returned (.bool true) ∧ ∃ o', Step o nz w o' w' := by
  have HF := Lib.hid hf
  clear hf
  go_enter Tryz.func5, Tryz.ntmps5
  go_wp2_with fail
  refine (ready_any (cd := 1) (cr := 10) HF.out (by omega) (by omega)).mono ?_
  rintro e w1 ⟨p, r, rfl, o1, hd, _, hs⟩
  have HV := Lib.hid readyV
  generalize readyD = D0 at hd HV
  generalize D0.table 2 = T2 at HV
  have hf1 := HF.out.step hs
  have HX := Lib.hid (Keep.new hf1 37 #[.int .i64 2, .int .i64 10, .int .i64 8, .int .i64 4, .int .i64 32])
  have HD := Lib.hid (hd.alloc (.cells #[.int .i64 2, .int .i64 10, .int .i64 8, .int .i64 4, .int .i64 32] 37))
  have HF1 := Lib.hid (hf1.alloc (.cells #[.int .i64 2, .int .i64 10, .int .i64 8, .int .i64 4, .int .i64 32] 37))
  have HS1 := Lib.hid ((hs.mono nz_ready).alloc (.cells #[.int .i64 2, .int .i64 10, .int .i64 8, .int .i64 4, .int .i64 32] 37))
  clear hd hs hf1 HF
  go_upto_region 4 with (fail)
  generalize w1.alloc (.cells #[.int .i64 2, .int .i64 10, .int .i64 8, .int .i64 4, .int .i64 32] 37) = W1 at HX HD HF1 HS1 ⊢
  generalize w1.heap.size = g at HX ⊢
  obtain ⟨s0, s1, s2, s3, s4⟩ := HX.out.1.five
  go_wp2_with fail
  refine (gopen_any (c := 20) HD.out HV.out.calm.tame (by omega) (by omega) (by omega) HF1.out 1 9 1 rfl (by omega) HV.out.openV.1).mono ?_
  rintro e w2 ⟨q, rfl, o2, hd, hl, hs⟩
  have hv := HV.out.openV.2
  change DiskAt o2 1 w2 p (D0.lhead lg0 ⟨9, 1, 0⟩).2 at hd
  change LogAt o2 20 w2 q lg0 p at hl
  generalize (D0.lhead lg0 ⟨9, 1, 0⟩).2 = D1 at hd hv
  have HV2 := Lib.hid hv
  have HD2 := Lib.hid hd
  have HL2 := Lib.hid hl
  have HX2 := Lib.hid (HX.out.step hs (no_six (by omega)))
  have HF2 := Lib.hid (HF1.out.step hs)
  have HS2 := Lib.hid (HS1.out.trans (hs.mono (nz_six 1 (by omega))))
  clear hd hl hs hv HV HD HX HF1 HS1 s0 s1 s2 s3 s4
  go_wp2_with fail
  refine (one11_any 3 1 (by omega) w2).mono ?_
  rintro e w3 ⟨rfl, hb⟩
  have HR := Lib.hid (Reads.newAt w3 54 3 1 (imcells [oneIm 3 1]) #[.int .i64 3, .int .u64 1, .string (str (oneL 3))] w3.heap.size rfl rfl rfl)
  have HD3 := Lib.hid ((HD2.out.below_ hb).alloc (.cells #[.int .i64 3, .int .u64 1, .string (str (oneL 3))] 54))
  have HL3 := Lib.hid ((HL2.out.below_ hb).alloc (.cells #[.int .i64 3, .int .u64 1, .string (str (oneL 3))] 54))
  have HX3 := Lib.hid ((HX2.out.below_ hb).alloc (.cells #[.int .i64 3, .int .u64 1, .string (str (oneL 3))] 54))
  have HF3 := Lib.hid ((HF2.out.below hb).alloc (.cells #[.int .i64 3, .int .u64 1, .string (str (oneL 3))] 54))
  have HS3 := Lib.hid ((HS2.out.trans (Step.of_below o2 nz hb)).alloc (.cells #[.int .i64 3, .int .u64 1, .string (str (oneL 3))] 54))
  clear hb HD2 HL2 HX2 HF2 HS2
  go_wp2_with fail
  generalize w3.alloc (.cells #[.int .i64 3, .int .u64 1, .string (str (oneL 3))] 54) = W3 at HR HD3 HL3 HX3 HF3 HS3 ⊢
  generalize w3.heap.size = gI at HR ⊢
  have hadd := gadd_any HL3.out [oneIm 3 1] (some ⟨gI, 0, none⟩) 1 HR.out (by decide) (by decide) (by decide) (by intro i hi; rw [List.mem_singleton.1 hi]; show (str (UInt8.ofNat 3 :: zer 95)).size ≤ maxLen; rw [str_size, List.length_cons, zer_len]; decide) (by intro i hi; rw [List.mem_singleton.1 hi]; decide) (by decide) (by decide) (by decide) (by decide) (by decide) (by omega) HF3.out
  obtain ⟨ha1, ha2⟩ := add0 (oneIm_right (n := 3) (by decide) 1)
  have hn : lg0.addN [oneIm 3 1] = 1 := by unfold Lg.addN; rw [ha1, if_pos rfl]; rfl
  rw [ha1, ha2, hn] at hadd
  refine hadd.mono ?_
  clear hadd ha1 ha2 hn
  rintro e w4 ⟨rfl, o4, hl, hs⟩
  have HL4 := Lib.hid hl
  have HD4 := Lib.hid (HD3.out.step hs (by unfold logL; omega))
  have HX4 := Lib.hid (HX3.out.step hs (by unfold logL; omega))
  have HF4 := Lib.hid (HF3.out.step hs)
  have HS4 := Lib.hid (HS3.out.trans (hs.mono (nz_logL 20 (by omega))))
  clear hl hs HR HL3 HD3 HX3 HF3 HS3
  go_wp2_with fail
  obtain ⟨hy1, hy2⟩ := HV2.out.sync1 (oneIm 3 1)
  have hsy := gsync_any HL4.out HD4.out HV2.out.calm.tame (by omega) (by omega) (by omega) HF4.out (by decide) (by decide) (ens1 (oneIm 3 1))
  rw [hy1] at hsy
  generalize (syncR D1 (lg1 (oneIm 3 1))).D = D5 at hsy hy2
  generalize (syncR D1 (lg1 (oneIm 3 1))).g = g5 at hsy
  refine hsy.mono ?_
  clear hsy hy1
  rintro e w5 ⟨rfl, o5, hd, hl, _, hs⟩
  have HV5 := Lib.hid hy2
  have HD5 := Lib.hid hd
  have HX5 := Lib.hid (HX4.out.step hs (by unfold logC six; omega))
  have HF5 := Lib.hid (HF4.out.step hs)
  have HS5 := Lib.hid (HS4.out.trans (hs.mono (nz_logC 1 20 (by omega) (by omega))))
  clear hd hl hs hy2 HL4 HD4 HX4 HF4 HS4 HV2
  go_wp2_with fail
  refine (dfence_k (n := 1) HD5.out HV5.out.calm (by omega) (by omega)).mono ?_
  rintro e w6 ⟨rfl, o6, hd, hs⟩
  have hv := HV5.out.fence1.2
  generalize (D5.fence ((1 : Nat) : Int)).2 = D6 at hd hv
  have HV6 := Lib.hid hv
  have HD6 := Lib.hid hd
  have HX6 := Lib.hid (HX5.out.step hs (no_six (by omega)))
  have HF6 := Lib.hid (HF5.out.step hs)
  have HS6 := Lib.hid (HS5.out.trans (hs.mono (nz_six 1 (by omega))))
  clear hd hs hv HD5 HX5 HF5 HS5 HV5
  go_wp2_with fail
  refine (dadmit_k (n := 2) (e := 10) HD6.out HV6.out.calm (by omega) (by rw [HV6.out.last]; omega)).mono ?_
  rintro e w7 ⟨rfl, o7, hd, hs⟩
  have hv := (HV6.out.admit2 (e := 10) (by omega)).2
  generalize (D6.admit ((2 : Nat) : Int) 10).2 = D7 at hd hv
  have HV7 := Lib.hid hv
  have HD7 := Lib.hid hd
  have HX7 := Lib.hid (HX6.out.step hs (no_six (by omega)))
  have HF7 := Lib.hid (HF6.out.step hs)
  have HS7 := Lib.hid (HS6.out.trans (hs.mono (nz_six 1 (by omega))))
  clear hd hs hv HD6 HX6 HF6 HS6 HV6
  obtain ⟨s0, s1, s2, s3, s4⟩ := HX7.out.1.five
  go_wp2_with fail
  obtain ⟨hr1, hr2, hr3⟩ := HV7.out.run (by omega) plan_alive right_alive
  have hrn : appN blank [oneIm 3 1] = 1 := rfl
  rw [hrn] at hr2
  have hrun := erun_any HD7.out HV7.out.calm.tame (by omega) (by omega) HF7.out 1 9 ((2 : Nat) : Int) 10
  rw [hr1, hr2] at hrun
  generalize (runR D7 1 9 ((2 : Nat) : Int) 10).D = D8 at hrun hr3
  refine hrun.mono ?_
  clear hrun hr1 hr2 hrn
  rintro e w8 ⟨rfl, o8, hd, _, hs⟩
  have HV8 := Lib.hid (hr3.mono (j := 100) (by simp))
  have HD8 := Lib.hid hd
  have HX8 := Lib.hid (HX7.out.step hs (no_six (by omega)))
  have HF8 := Lib.hid (HF7.out.step hs)
  have HS8 := Lib.hid (HS7.out.trans (hs.mono (nz_six 1 (by omega))))
  clear hd hs hr3 HD7 HX7 HF7 HS7 HV7 s0 s1 s2 s3 s4
  obtain ⟨s0, s1, s2, s3, s4⟩ := HX8.out.1.five
  go_wp2_with fail
  have hld := kload_any HD8.out (by rw [HV8.out.calm.sectors]; omega) HV8.out.calm.wf ((3 : Nat) : Int)
  have hb3 : appF blank [oneIm 3 1] 3 = oneIm 3 1 := rfl
  rw [HV8.out.blk 3 (by omega), hb3] at hld
  have hag : (oneIm 3 1).agg = .agg #[.int .i64 3, .int .u64 1, .string (str (oneL 3))] := rfl
  simp only at hld
  rw [hag] at hld
  refine hld.mono ?_
  clear hld hb3 hag
  rintro e w9 ⟨rfl, hb⟩
  have HI := Lib.hid (Keep.new (HF8.out.below hb) 54 #[.int .i64 3, .int .u64 1, .string (str (oneL 3))])
  have HD9 := Lib.hid ((HD8.out.below_ hb).alloc (.cells #[.int .i64 3, .int .u64 1, .string (str (oneL 3))] 54))
  have HX9 := Lib.hid ((HX8.out.below_ hb).alloc (.cells #[.int .i64 3, .int .u64 1, .string (str (oneL 3))] 54))
  have HF9 := Lib.hid ((HF8.out.below hb).alloc (.cells #[.int .i64 3, .int .u64 1, .string (str (oneL 3))] 54))
  have HS9 := Lib.hid ((HS8.out.trans (Step.of_below o8 nz hb)).alloc (.cells #[.int .i64 3, .int .u64 1, .string (str (oneL 3))] 54))
  clear hb HD8 HX8 HF8 HS8 s0 s1 s2 s3 s4
  go_upto_region 12 with (fail)
  generalize w9.alloc (.cells #[.int .i64 3, .int .u64 1, .string (str (oneL 3))] 54) = W9 at HI HD9 HX9 HF9 HS9 ⊢
  generalize w9.heap.size = gJ at HI ⊢
  obtain ⟨s0, s1, s2, s3, s4⟩ := HX9.out.1.five
  go_wp2_with fail
  obtain ⟨hr1, _, _⟩ := run_none HV8.out.calm.live HV8.out.head 9 ((2 : Nat) : Int) 10
  have hrun := erun_any HD9.out HV8.out.calm.tame (by omega) (by omega) HF9.out 1 9 ((2 : Nat) : Int) 10
  have e1 : (runR D8 1 9 ((2 : Nat) : Int) 10).e = 0 := by rw [hr1]
  have e2 : (runR D8 1 9 ((2 : Nat) : Int) 10).n = 0 := by rw [hr1]
  rw [e1, e2] at hrun
  generalize (runR D8 1 9 ((2 : Nat) : Int) 10).D = D9 at hrun
  refine hrun.mono ?_
  clear hrun hr1 e1 e2
  rintro e w10 ⟨rfl, o10, _, _, hs⟩
  have HI10 := Lib.hid (HI.out.step hs (no_six (by omega)))
  have HS10 := Lib.hid (HS9.out.trans (hs.mono (nz_six 1 (by omega))))
  clear hs HI HD9 HX9 HF9 HS9 s0 s1 s2 s3 s4
  obtain ⟨i0, i1, i2⟩ := HI10.out.1.three
  go_wp2_with fail
  go_ret
  exact ⟨rfl, o10, HS10.out⟩
end Go.Proofs.YtjffjolopoejlaaGreatDoor

/- The statements' own helpers on lists of texts: Room (of one size), Short, SameTexts (of equal lists). -/
namespace Go.Proofs.YtjffjolopoejlaaGreatDoor
open Go.RowKit

def room1 (left n : Int) : Int := if left < 0 ∨ left < n then -1 else left - n
set_option maxHeartbeats 400000 in
theorem room_one (w : World) (left n : Int) (g : Nat) (hc : w.cell? ⟨g, 0, none⟩ = some (.int .i64 n)) (hl : -1 ≤ left ∧ left ≤ 1000000000) (hn : 0 ≤ n ∧ n ≤ 9223372036854775807) :
    Calls Tryz.prog 14 #[.int .i64 left, .slice (some ⟨g, 0, none⟩) 1 1] w fun e w' => e = .returned (.int .i64 (room1 left n)) ∧ w = w' := by
  obtain ⟨l1, l2⟩ := hl
  obtain ⟨n1, n2⟩ := hn
  by_cases h0 : left < 0
  · have e1 : room1 left n = -1 := by unfold room1; rw [if_pos (.inl h0)]
    have E1 := Lib.hid e1
    clear e1
    go_enter Tryz.func14, Tryz.ntmps14
    go_wp2_with fail
    go_loop [0, 5] (fun l i => l = .int .i64 left ∧ i = .int .i64 0) (fun _ i => 2 - (intOf i).toNat)
    case atStart => exact ⟨rfl, rfl⟩
    case round =>
      obtain ⟨rfl, rfl⟩ := hrel
      go_wp2_with fail
      go_ret
      rw [E1.out]
      exact ⟨rfl, rfl⟩
  · by_cases h1 : left < n
    · have e1 : room1 left n = -1 := by unfold room1; rw [if_pos (.inr h1)]
      have E1 := Lib.hid e1
      clear e1
      go_enter Tryz.func14, Tryz.ntmps14
      go_wp2_with fail
      go_loop [0, 5] (fun l i => l = .int .i64 left ∧ i = .int .i64 0) (fun _ i => 2 - (intOf i).toNat)
      case atStart => exact ⟨rfl, rfl⟩
      case round =>
        obtain ⟨rfl, rfl⟩ := hrel
        go_wp2_with fail
        go_ret
        rw [E1.out]
        exact ⟨rfl, rfl⟩
    · have e1 : room1 left n = left - n := by unfold room1; rw [if_neg (by omega)]
      have E1 := Lib.hid e1
      clear e1
      go_enter Tryz.func14, Tryz.ntmps14
      go_wp2_with fail
      go_loop [0, 5] (fun l i => (l = .int .i64 left ∧ i = .int .i64 0) ∨ (l = .int .i64 (left - n) ∧ i = .int .i64 1)) (fun _ i => 2 - (intOf i).toNat)
      case atStart => exact .inl ⟨rfl, rfl⟩
      case round =>
        rcases hrel with ⟨rfl, rfl⟩ | ⟨rfl, rfl⟩
        · go_wp2_with fail
          go_round
          case rel => exact .inr ⟨rfl, rfl⟩
          case measure => simp [intOf]
        · go_wp2_with fail
          go_ret
          rw [E1.out]
          exact ⟨rfl, rfl⟩
end Go.Proofs.YtjffjolopoejlaaGreatDoor

/- What RedoEvery calls besides: Restore; Light of images. -/
namespace Go.Proofs.YtjffjolopoejlaaGreatDoor
open Go.RowKit

theorem drestore_any {o : Nat → Nat} {c p : Nat} {w : World} {D : Dk} (h : DiskAt o c w p D) (hs : 0 < D.sectors) : Calls Tryz.prog 125 #[.pointer (some ⟨p, 0, none⟩)] w fun e w' => e = .returned (.tuple #[]) ∧ ∃ o', DiskAt o' c w' p D.restore ∧ Step o (only c) w o' w' := by
  obtain ⟨mn, ml, wv, sv, h1⟩ := h
  have c0 : w.cell? ⟨p, 0, none⟩ = some (.int .i64 D.sectors) := h1.blk.cell 0
  have c1 : w.cell? ⟨p, 1, none⟩ = some (.bool D.on) := h1.blk.cell 1
  have f1 := h1.blk.frozen 1
  have hsI : (0 : Int) < (D.sectors : Int) := by omega
  obtain ⟨h2, h3⟩ := h1.set_ (D2 := D.restore) 1 (.bool true) rfl rfl rfl rfl rfl
  have HF := Lib.hid (show ∃ o', DiskAt o' c (w.setCell ⟨p, 1, none⟩ (.bool true)) p D.restore ∧ Step o (only c) w o' (w.setCell ⟨p, 1, none⟩ (.bool true)) from ⟨o, ⟨mn, ml, wv, sv, h2⟩, h3⟩)
  clear h1 h2 h3
  go_enter Tryz.func125, Tryz.ntmps125
  go_wp2_with fail
  go_end0
  exact ⟨rfl, HF.out⟩
theorem room1_le {left n : Int} (hl : -1 ≤ left ∧ left ≤ 1000000000) (hn : 0 ≤ n) : -1 ≤ room1 left n ∧ room1 left n ≤ 1000000000 := by
  unfold room1
  split <;> omega
/-- what Light tells: not more than few, where it is so -/
def LightPost (w : World) (ok : Prop) (e : Ending) (w' : World) : Prop := ∃ b, e = .returned (.bool b) ∧ (b = true → ok) ∧ Below w.heap.size w w'
set_option maxRecDepth 100000 in
set_option maxHeartbeats 2000000 in
theorem light_im (l : List Im) (w : World) (A : Option Addr) (cap : Nat) (few room : Int) (hrd : Reads w 3 A l.length (imcells l)) (hln : l.length ≤ maxLen) (hs : ∀ i ∈ l, i.data.size ≤ maxLen) (hr : -1 ≤ room ∧ room ≤ 1000000000) :
    Calls Tryz.prog 13 #[.int .i64 few, .int .i64 room, .slice A l.length cap] w (LightPost w ((l.length : Int) ≤ few)) := by
  have HR := Lib.hid hrd
  have HS := Lib.hid hs
  have hlI : (l.length : Int) ≤ 9223372036854775807 := by unfold maxLen at hln; omega
  clear hrd hs hln
  by_cases hf : few < (l.length : Int)
  · go_enter Tryz.func13, Tryz.ntmps13
    go_wp2_with fail
    go_ret
    exact ⟨false, rfl, by simp, Below.refl _ _⟩
  · have HFL := Lib.hid (show (l.length : Int) ≤ few by omega)
    go_enter Tryz.func13, Tryz.ntmps13
    go_wp2_with fail
    go_loopw [1, 7] (fun t1 t7 wr => ∃ (k : Nat) (r : Int), k ≤ l.length ∧ -1 ≤ r ∧ r ≤ 1000000000 ∧ t1 = .int .i64 r ∧ t7 = .int .i64 k ∧ Below w.heap.size w wr) (fun _ t7 _ => l.length - (intOf t7).toNat)
    case atStart => exact ⟨0, room, by omega, hr.1, hr.2, rfl, rfl, Below.refl _ _⟩
    case round =>
      obtain ⟨k, r, hk, hr1, hr2, rfl, rfl, hb⟩ := hrel
      have HB := Lib.hid hb
      clear hb
      by_cases hlt : k < l.length
      · have hltI : (k : Int) < (l.length : Int) := by omega
        by_cases h0 : 0 ≤ r
        · obtain ⟨x, hx⟩ : ∃ x, l[k]? = some x := ⟨_, List.getElem?_eq_getElem hlt⟩
          have hxs : (x.data.size : Int) ≤ 9223372036854775807 := by have := HS.out x (List.mem_of_getElem? hx); unfold maxLen at this; omega
          obtain ⟨ad, rfl, y0, y1, y2⟩ := (HR.out.below' (by omega) HB.out).imrow hx
          clear hx
          go_wp2_with fail
          have hc0 : (wr.alloc (.cells #[.int .i64 x.data.size] 3)).cell? ⟨wr.heap.size, 0, none⟩ = some (.int .i64 x.data.size) := (Blk.new wr 3 #[.int .i64 x.data.size]).cell 0
          have HB2 := Lib.hid (HB.out.alloc HB.out.size (.cells #[.int .i64 x.data.size] 3))
          have hrm := room1_le (left := r) (n := (x.data.size : Int)) ⟨hr1, hr2⟩ (by omega)
          refine (room_one _ r x.data.size wr.heap.size hc0 ⟨hr1, hr2⟩ ⟨by omega, hxs⟩).mono ?_
          rintro e w2 ⟨rfl, rfl⟩
          generalize room1 r (x.data.size : Int) = r2 at hrm ⊢
          clear y0 y1 y2 hc0
          go_wp2_with fail
          go_roundw
          case rel => exact ⟨k + 1, r2, by omega, hrm.1, hrm.2, rfl, by go_num, HB2.out⟩
          case measure => simp [intOf]; omega
        · go_wp2_with fail
          go_ret
          exact ⟨_, rfl, (fun _ => by first | trivial | exact HFL.out), HB.out⟩
      · have hltI : ¬ (k : Int) < (l.length : Int) := by omega
        go_wp2_with fail
        go_ret
        exact ⟨_, rfl, (fun _ => by first | trivial | exact HFL.out), HB.out⟩
end Go.Proofs.YtjffjolopoejlaaGreatDoor
