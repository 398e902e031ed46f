import Derived.Test.YtldoeodkeieejaaGreatDoorKLawQ
import Derived.Test.YtldoeodkeieejaaGreatDoorKRefG
import Derived.Test.YtldoeodkeieejaaGreatDoorKEveP
import Derived.Test.YtldoeodkeieejaaGreatDoorKLeaf
import Derived.Test.YtldoeodkeieejaaGreatDoorKDiskC
import Derived.Test.YtldoeodkeieejaaGreatDoorKOpenRecs
import Derived.Test.YtldoeodkeieejaaGreatDoorKRecE
import Derived.Test.YtldoeodkeieejaaGreatDoorKMapR
namespace Go.Proofs.YtldoeodkeieejaaGreatDoor
open Go.RowKit
set_option maxRecDepth 100000 in
theorem ready_now : readyD.now=(Dk.fresh 37).formatF.now:=by
 obtain ⟨f1,f2,f3⟩:=format_facts calm_fresh fresh_last
 have e1:readyD=((Dk.fresh 37).formatF.admit (1:Nat) 9).2:=rfl
 rw [e1]
 generalize (Dk.fresh 37).formatF=F at f1 f2
 exact admit_now f1 (by omega) (by rw [f2];omega)
set_option maxRecDepth 100000 in
theorem format_sec0 : (Dk.fresh 37).formatF.sec 0=str superL:=by
 rw [←sec_congr ready_now 0,ready_facts.2.2.2 0]
 rfl
def refR0 : RK:=⟨37,[],fun _=>0,fun _=>0,0⟩
def refR1 : RK:=(refR0.admit 0 1).write (0:Nat) 0 (str superL) 1
def readyR : RK:=((refR1.keep (0:Nat)).fence 0).admit 1 9
def readyC (cd cr:Nat):Nat→Prop:=fun x=>six cd x∨logL cr x
set_option maxRecDepth 100000 in
set_option maxHeartbeats 8000000 in
theorem ready_any {o:Nat→Nat} {cd cr:Nat} {w:World} (hf:Fut o w) (hcd:1≤cd) (hcr:cd+5<cr):Calls Tryz.prog 16 #[] w fun e w'=>∃p r,e = .returned (.tuple #[.pointer (some ⟨p,0,none⟩), .pointer (some ⟨r,0,none⟩), .agg #[.int .i64 2, .int .i64 10, .int .i64 8, .int .i64 4, .int .i64 32], .bool true])∧∃o',DiskAt o' cd w' p readyD∧RefAt o' cr w' r readyR∧Step o (readyC cd cr) w o' w':=by
 have HX:=Lib.hid (Keep.new hf 30 #[.int .i64 0, .int .i64 0, .int .i64 0, .int .i64 0, .int .i64 0])
 have HF:=Lib.hid (hf.alloc (.cells #[.int .i64 0, .int .i64 0, .int .i64 0, .int .i64 0, .int .i64 0] 30))
 have HS:=Lib.hid ((Step.refl o (readyC cd cr) w).alloc (.cells #[.int .i64 0, .int .i64 0, .int .i64 0, .int .i64 0, .int .i64 0] 30))
 have HCD:=Lib.hid hcd
 have HCR:=Lib.hid hcr
 have HN:=Lib.hid (no_six hcd)
 clear hf hcd hcr
 go_enter Tryz.func16,Tryz.ntmps16
 go_wp2_with fail
 generalize w.alloc (.cells #[.int .i64 0, .int .i64 0, .int .i64 0, .int .i64 0, .int .i64 0] 30)=W at HX HF HS ⊢
 refine (shape9_any W).mono ?_
 rintro e w1 ⟨rfl,hb1⟩
 have HS1:=Lib.hid (Keep.new (HF.out.below hb1) 28 #[.int .i64 2, .int .i64 10, .int .i64 8, .int .i64 4, .int .i64 32])
 have HX1:=Lib.hid ((HX.out.below_ hb1).alloc (.cells #[.int .i64 2, .int .i64 10, .int .i64 8, .int .i64 4, .int .i64 32] 28))
 have HF1:=Lib.hid ((HF.out.below hb1).alloc (.cells #[.int .i64 2, .int .i64 10, .int .i64 8, .int .i64 4, .int .i64 32] 28))
 have HT1:=Lib.hid ((HS.out.trans (Step.of_below o (readyC cd cr) hb1)).alloc (.cells #[.int .i64 2, .int .i64 10, .int .i64 8, .int .i64 4, .int .i64 32] 28))
 clear hb1
 go_upto_region 2 with (fail)
 generalize w1.alloc (.cells #[.int .i64 2, .int .i64 10, .int .i64 8, .int .i64 4, .int .i64 32] 28)=W1 at HS1 HX1 HF1 HT1 ⊢
 generalize w1.heap.size=gS at HS1 ⊢
 obtain ⟨s0,s1,s2,s3,s4⟩:=HS1.out.1.five
 go_wp2_with fail
 refine (refsize_any W1).mono ?_
 rintro e w2 ⟨rfl,hb2⟩
 have HS2:=Lib.hid (HS1.out.below_ hb2)
 have HX2:=Lib.hid (HX1.out.below_ hb2)
 have HF2:=Lib.hid (HF1.out.below hb2)
 have HT2:=Lib.hid (HT1.out.trans (Step.of_below o (readyC cd cr) hb2))
 clear hb2 s0 s1 s2 s3 s4
 go_wp2_with fail
 refine (dnew_any o cd HCD.out w2).mono ?_
 rintro e w3 ⟨p,rfl,o3,hd3,hs3⟩
 have HD3:=Lib.hid hd3
 have HS3:=Lib.hid (HS2.out.step (hs3 (fun _=>False)) id)
 have HX3:=Lib.hid (HX2.out.step (hs3 (fun _=>False)) id)
 have HF3:=Lib.hid (HF2.out.step (hs3 (fun _=>False)))
 have HT3:=Lib.hid (HT2.out.trans (hs3 (readyC cd cr)))
 clear hd3 hs3
 obtain ⟨s0,s1,s2,s3,s4⟩:=HS3.out.1.five
 go_wp2_with fail
 refine (uformat_any HD3.out calm_fresh (by omega) (by rw [fresh_last];omega) HCD.out HF3.out).mono ?_
 rintro e w4 ⟨rfl,o4,hd4,hs4⟩
 have HD4:=Lib.hid hd4
 have HS4:=Lib.hid (HS3.out.step hs4 HN.out)
 have HX4:=Lib.hid (HX3.out.step hs4 HN.out)
 have HF4:=Lib.hid (HF3.out.step hs4)
 have HT4:=Lib.hid (HT3.out.trans (hs4.mono (fun _ h => .inl h)))
 clear hd4 hs4 s0 s1 s2 s3 s4
 obtain ⟨ff1,ff2,_⟩:=format_facts calm_fresh fresh_last
 have HC4:=Lib.hid ff1
 have HL4:=Lib.hid ff2
 have HS0:=Lib.hid format_sec0
 have HRD:=Lib.hid (show ((Dk.fresh 37).formatF.admit (1:Nat) 9).2=readyD from rfl)
 clear ff1 ff2
 generalize (Dk.fresh 37).formatF=F at HD4 HC4 HL4 HS0 HRD
 go_wp2_with fail
 refine (uload_any HD4.out HC4.out HS0.out).mono ?_
 rintro e w5 ⟨rfl,hb5⟩
 have HD5:=Lib.hid ((HD4.out.below_ hb5).alloc (.cells #[.int .i64 2, .int .i64 10, .int .i64 8, .int .i64 4, .int .i64 32] 30))
 have HS5:=Lib.hid ((HS4.out.below_ hb5).alloc (.cells #[.int .i64 2, .int .i64 10, .int .i64 8, .int .i64 4, .int .i64 32] 30))
 have HX5:=Lib.hid ((HX4.out.below_ hb5).alloc (.cells #[.int .i64 2, .int .i64 10, .int .i64 8, .int .i64 4, .int .i64 32] 30))
 have HY5:=Lib.hid (Keep.new (HF4.out.below hb5) 30 #[.int .i64 2, .int .i64 10, .int .i64 8, .int .i64 4, .int .i64 32])
 have HF5:=Lib.hid ((HF4.out.below hb5).alloc (.cells #[.int .i64 2, .int .i64 10, .int .i64 8, .int .i64 4, .int .i64 32] 30))
 have HT5:=Lib.hid ((HT4.out.trans (Step.of_below o4 (readyC cd cr) hb5)).alloc (.cells #[.int .i64 2, .int .i64 10, .int .i64 8, .int .i64 4, .int .i64 32] 30))
 clear hb5
 go_upto_region 5 with (fail)
 generalize w5.alloc (.cells #[.int .i64 2, .int .i64 10, .int .i64 8, .int .i64 4, .int .i64 32] 30)=W5 at HD5 HS5 HX5 HY5 HF5 HT5 ⊢
 generalize w5.heap.size=gY at HY5 ⊢
 go_wp2_with fail
 refine (dadmit_k (n:=1) (e:=9) HD5.out HC4.out (by omega) (by rw [HL4.out];omega)).mono ?_
 rintro e w6 ⟨rfl,o6,hd6,hs6⟩
 rw [HRD.out] at hd6
 have HD6:=Lib.hid hd6
 have HS6:=Lib.hid (HS5.out.step hs6 HN.out)
 have HX6:=Lib.hid (HX5.out.step hs6 HN.out)
 have HY6:=Lib.hid (HY5.out.step hs6 HN.out)
 have HF6:=Lib.hid (HF5.out.step hs6)
 have HT6:=Lib.hid (HT5.out.trans (hs6.mono (fun _ h => .inl h)))
 clear hd6 hs6
 obtain ⟨s0,s1,s2,s3,s4⟩:=HS6.out.1.five
 go_wp2_with fail
 refine (refsize_any w6).mono ?_
 rintro e w7 ⟨rfl,hb7⟩
 obtain ⟨o8,hq8,hs8⟩:=alloc_as o6 w7 (.cells #[.int .i64 37, .slice none 0 0, .bool false, .int .u64 0, .int .u64 0, .int .u64 0, .int .u64 0, .int .u64 0, .int .u64 0, .int .u64 0, .int .u64 0, .int .u64 0, .int .u64 0, .int .u64 0, .int .u64 0, .int .u64 0, .int .u64 0, .int .u64 0, .int .u64 0, .int .u64 0, .int .u64 0, .int .u64 0, .int .u64 0, .int .u64 0, .int .u64 0, .int .u64 0, .int .u64 0, .int .u64 0, .int .u64 0, .int .u64 0, .int .u64 0, .int .u64 0, .int .u64 0, .int .u64 0, .int .u64 0, .int .u64 0, .int .u64 0, .int .u64 0, .bool false, .int .i64 0, .slice none 0 0] 111) cr
 have hb8:Step o6 (fun _=>False) w6 o8 (w7.alloc (.cells #[.int .i64 37, .slice none 0 0, .bool false, .int .u64 0, .int .u64 0, .int .u64 0, .int .u64 0, .int .u64 0, .int .u64 0, .int .u64 0, .int .u64 0, .int .u64 0, .int .u64 0, .int .u64 0, .int .u64 0, .int .u64 0, .int .u64 0, .int .u64 0, .int .u64 0, .int .u64 0, .int .u64 0, .int .u64 0, .int .u64 0, .int .u64 0, .int .u64 0, .int .u64 0, .int .u64 0, .int .u64 0, .int .u64 0, .int .u64 0, .int .u64 0, .int .u64 0, .int .u64 0, .int .u64 0, .int .u64 0, .int .u64 0, .int .u64 0, .int .u64 0, .bool false, .int .i64 0, .slice none 0 0] 111)):=(Step.of_below o6 _ hb7).trans hs8
 have HD8:=Lib.hid (HD6.out.step hb8 (fun _ _ _=>id))
 have HS8:=Lib.hid (HS6.out.step hb8 id)
 have HX8:=Lib.hid (HX6.out.step hb8 id)
 have HY8:=Lib.hid (HY6.out.step hb8 id)
 have HF8:=Lib.hid (HF6.out.step hb8)
 have HT8:=Lib.hid (HT6.out.trans (hb8.mono (fun _ h=>h.elim)))
 have HR8:=Lib.hid (show RefAt o8 cr (w7.alloc (.cells #[.int .i64 37, .slice none 0 0, .bool false, .int .u64 0, .int .u64 0, .int .u64 0, .int .u64 0, .int .u64 0, .int .u64 0, .int .u64 0, .int .u64 0, .int .u64 0, .int .u64 0, .int .u64 0, .int .u64 0, .int .u64 0, .int .u64 0, .int .u64 0, .int .u64 0, .int .u64 0, .int .u64 0, .int .u64 0, .int .u64 0, .int .u64 0, .int .u64 0, .int .u64 0, .int .u64 0, .int .u64 0, .int .u64 0, .int .u64 0, .int .u64 0, .int .u64 0, .int .u64 0, .int .u64 0, .int .u64 0, .int .u64 0, .int .u64 0, .int .u64 0, .bool false, .int .i64 0, .slice none 0 0] 111)) w7.heap.size refR0 from ⟨.slice none 0 0,Blk.new _ _ _,hq8,OwnS.nil _ _ _ _ _⟩)
 clear hb7 hq8 hs8 hb8 s0 s1 s2 s3 s4
 go_upto_region 8 with (fail)
 generalize w7.alloc (.cells #[.int .i64 37, .slice none 0 0, .bool false, .int .u64 0, .int .u64 0, .int .u64 0, .int .u64 0, .int .u64 0, .int .u64 0, .int .u64 0, .int .u64 0, .int .u64 0, .int .u64 0, .int .u64 0, .int .u64 0, .int .u64 0, .int .u64 0, .int .u64 0, .int .u64 0, .int .u64 0, .int .u64 0, .int .u64 0, .int .u64 0, .int .u64 0, .int .u64 0, .int .u64 0, .int .u64 0, .int .u64 0, .int .u64 0, .int .u64 0, .int .u64 0, .int .u64 0, .int .u64 0, .int .u64 0, .int .u64 0, .int .u64 0, .int .u64 0, .int .u64 0, .bool false, .int .i64 0, .slice none 0 0] 111)=W8 at HD8 HS8 HX8 HY8 HF8 HT8 HR8 ⊢
 generalize w7.heap.size=r at HR8 ⊢
 obtain ⟨s0,s1,s2,s3,s4⟩:=HS8.out.1.five
 go_wp2_with fail
 refine (refputshape_any W8).mono ?_
 rintro e w9 ⟨rfl,hb9⟩
 have HD9:=Lib.hid (HD8.out.below_ hb9)
 have HX9:=Lib.hid (HX8.out.below_ hb9)
 have HY9:=Lib.hid (HY8.out.below_ hb9)
 have HF9:=Lib.hid (HF8.out.below hb9)
 have HT9:=Lib.hid (HT8.out.trans (Step.of_below o8 (readyC cd cr) hb9))
 have HR9:=Lib.hid (HR8.out.below_ hb9)
 clear hb9 s0 s1 s2 s3 s4
 go_wp2_with fail
 refine (refadmit_ok HR9.out 0 1 (by omega) (by show (0:Nat)<1;omega)).mono ?_
 rintro e w10 ⟨rfl,hr,hs⟩
 have hsl:Step o8 (logL cr) w9 o8 w10:=hs.mono (logL_log cr)
 obtain ⟨oN10,hoN⟩:∃oo,oo=o8:=⟨_,rfl⟩
 rw [←hoN] at hr
 have hsl:Step o8 (logL cr) w9 oN10 w10:=hoN▸hsl
 clear hs hoN
 have HR10:=Lib.hid hr
 have HD10:=Lib.hid (HD9.out.step hsl (by have:=HCR.out;unfold logL;omega))
 have HX10:=Lib.hid (HX9.out.step hsl (by have:=HCR.out;unfold logL;omega))
 have HY10:=Lib.hid (HY9.out.step hsl (by have:=HCR.out;unfold logL;omega))
 have HT10:=Lib.hid (HT9.out.trans (hsl.mono (fun _ h => .inr h)))
 clear hr hsl
 go_wp2_with fail
 refine (refwrite_ok HR10.out 0 1 0 (str superL) 1 (by omega) rfl (by omega) (by rw [str_size,superL_len]) (by omega) (by omega) (by omega) (by show (0:Int)+1≤37;omega) (by show (37:Nat)≤100000;omega) (by show (0:Nat)≤90000;omega)).mono ?_
 rintro e w11 ⟨rfl,oN11,hr,hsl⟩
 have HR11:=Lib.hid hr
 have HD11:=Lib.hid (HD10.out.step hsl (by have:=HCR.out;unfold logL;omega))
 have HX11:=Lib.hid (HX10.out.step hsl (by have:=HCR.out;unfold logL;omega))
 have HY11:=Lib.hid (HY10.out.step hsl (by have:=HCR.out;unfold logL;omega))
 have HT11:=Lib.hid (HT10.out.trans (hsl.mono (fun _ h => .inr h)))
 clear hr hsl
 go_wp2_with fail
 refine (refbarrier_ok HR11.out 0 1 (by omega) rfl (by omega) (by show (1:Nat)≤100000;omega)).mono ?_
 rintro e w12 ⟨rfl,oN12,hr,hsl⟩
 have HR12:=Lib.hid hr
 have HD12:=Lib.hid (HD11.out.step hsl (by have:=HCR.out;unfold logL;omega))
 have HX12:=Lib.hid (HX11.out.step hsl (by have:=HCR.out;unfold logL;omega))
 have HY12:=Lib.hid (HY11.out.step hsl (by have:=HCR.out;unfold logL;omega))
 have HT12:=Lib.hid (HT11.out.trans (hsl.mono (fun _ h => .inr h)))
 clear hr hsl
 go_wp2_with fail
 refine (reffence_ok HR12.out 0 (by omega) (by show (1:Nat)≤100000;omega)).mono ?_
 rintro e w13 ⟨rfl,oN13,hr,hsl⟩
 have HR13:=Lib.hid hr
 have HD13:=Lib.hid (HD12.out.step hsl (by have:=HCR.out;unfold logL;omega))
 have HX13:=Lib.hid (HX12.out.step hsl (by have:=HCR.out;unfold logL;omega))
 have HY13:=Lib.hid (HY12.out.step hsl (by have:=HCR.out;unfold logL;omega))
 have HT13:=Lib.hid (HT12.out.trans (hsl.mono (fun _ h => .inr h)))
 clear hr hsl
 go_wp2_with fail
 refine (refadmit_ok HR13.out 1 9 (by omega) (by show (1:Nat)<9;omega)).mono ?_
 rintro e w14 ⟨rfl,hr,hs⟩
 have hsl:Step oN13 (logL cr) w13 oN13 w14:=hs.mono (logL_log cr)
 obtain ⟨oN14,hoN⟩:∃oo,oo=oN13:=⟨_,rfl⟩
 rw [←hoN] at hr
 have hsl:Step oN13 (logL cr) w13 oN14 w14:=hoN▸hsl
 clear hs hoN
 have HR14:=Lib.hid hr
 have HD14:=Lib.hid (HD13.out.step hsl (by have:=HCR.out;unfold logL;omega))
 have HX14:=Lib.hid (HX13.out.step hsl (by have:=HCR.out;unfold logL;omega))
 have HY14:=Lib.hid (HY13.out.step hsl (by have:=HCR.out;unfold logL;omega))
 have HT14:=Lib.hid (HT13.out.trans (hsl.mono (fun _ h => .inr h)))
 clear hr hsl
 go_wp2_with fail
 obtain ⟨y0,y1,y2,y3,y4⟩:=HY14.out.1.five
 obtain ⟨x0,x1,x2,x3,x4⟩:=HX14.out.1.five
 have f0:=HX14.out.1.frozen 0
 have f1:=HX14.out.1.frozen 1
 have f2:=HX14.out.1.frozen 2
 have f3:=HX14.out.1.frozen 3
 have f4:=HX14.out.1.frozen 4
 go_region
 have S5:=((((((Step.refl oN14 (only 0) w14).setCell (p:=⟨w.heap.size,0,none⟩) HX14.out.2 (.int .i64 2)).setCell (p:=⟨w.heap.size,1,none⟩) HX14.out.2 (.int .i64 10)).setCell (p:=⟨w.heap.size,2,none⟩) HX14.out.2 (.int .i64 8)).setCell (p:=⟨w.heap.size,3,none⟩) HX14.out.2 (.int .i64 4)).setCell (p:=⟨w.heap.size,4,none⟩) HX14.out.2 (.int .i64 32)).drew
 have HX15:=Lib.hid ((HX14.out.1.put5 (.int .i64 2) (.int .i64 10) (.int .i64 8) (.int .i64 4) (.int .i64 32)).drew)
 have HD15:=Lib.hid (HD14.out.step S5 (by have:=HCD.out;unfold only;omega))
 have HR15:=Lib.hid (HR14.out.step S5 (by have:=HCR.out;unfold only;omega) (by have:=HCR.out;unfold only;omega))
 have HT15:=Lib.hid (((((((HT14.out).setNew (p:=⟨w.heap.size,0,none⟩) (Nat.le_refl _) (.int .i64 2)).setNew (p:=⟨w.heap.size,1,none⟩) (Nat.le_refl _) (.int .i64 10)).setNew (p:=⟨w.heap.size,2,none⟩) (Nat.le_refl _) (.int .i64 8)).setNew (p:=⟨w.heap.size,3,none⟩) (Nat.le_refl _) (.int .i64 4)).setNew (p:=⟨w.heap.size,4,none⟩) (Nat.le_refl _) (.int .i64 32)).drew)
 clear S5 x0 x1 x2 x3 x4 y0 y1 y2 y3 y4 f0 f1 f2 f3 f4
 generalize ((((((w14).setCell ⟨w.heap.size,0,none⟩ (.int .i64 2)).setCell ⟨w.heap.size,1,none⟩ (.int .i64 10)).setCell ⟨w.heap.size,2,none⟩ (.int .i64 8)).setCell ⟨w.heap.size,3,none⟩ (.int .i64 4)).setCell ⟨w.heap.size,4,none⟩ (.int .i64 32)).drew=WE at HX15 HD15 HR15 HT15 ⊢
 obtain ⟨q0,q1,q2,q3,q4⟩:=HX15.out.five
 go_wp2_with fail
 exact bodyPost_ret (v := .tuple #[.pointer (some ⟨p,0,none⟩), .pointer (some ⟨r,0,none⟩), .agg #[.int .i64 2, .int .i64 10, .int .i64 8, .int .i64 4, .int .i64 32], .bool true]) (by simp [results,Tryz.results16,go_sem,q0,q1,q2,q3,q4]) rfl ⟨p,r,rfl,oN14,HD15.out,HR15.out,HT15.out⟩
def nz : Nat→Prop:=fun x=>x≠0
theorem nz_six (c:Nat) (h:1≤c):∀x,six c x→nz x:=fun x hx=>by unfold six at hx;unfold nz;omega
theorem nz_logL (c:Nat) (h:1≤c):∀x,logL c x→nz x:=fun x hx=>by unfold logL at hx;unfold nz;omega
theorem nz_logC (c d:Nat) (h:1≤c) (h2:1≤d):∀x,logC c d x→nz x:=fun x hx=>by unfold logC six at hx;unfold nz;omega
theorem nz_ready : ∀x,readyC 1 10 x→nz x:=fun x hx=>by unfold readyC six logL at hx;unfold nz;omega
def room1 (left n:Int):Int:=if left<0∨left<n then -1 else left - n
set_option maxHeartbeats 400000 in
theorem room_one (w:World) (left n:Int) (g:Nat) (hc:w.cell? ⟨g,0,none⟩=some (.int .i64 n)) (hl : -1≤left∧left≤1000000000) (hn:0≤n∧n≤9223372036854775807) :
 Calls Tryz.prog 14 #[.int .i64 left, .slice (some ⟨g,0,none⟩) 1 1] w fun e w'=>e = .returned (.int .i64 (room1 left n))∧w=w':=by
 obtain ⟨l1,l2⟩:=hl
 obtain ⟨n1,n2⟩:=hn
 by_cases h0:left<0
 ·have e1:room1 left n = -1:=by unfold room1;rw [if_pos (.inl h0)]
  have E1:=Lib.hid e1
  clear e1
  go_enter Tryz.func14,Tryz.ntmps14
  go_wp2_with fail
  go_loop [0,5] (fun l i=>l = .int .i64 left∧i = .int .i64 0) (fun _ i=>2 - (intOf i).toNat)
  case atStart=>exact ⟨rfl,rfl⟩
  case round =>
   obtain ⟨rfl,rfl⟩:=hrel
   go_wp2_with fail
   go_ret
   rw [E1.out]
   exact ⟨rfl,rfl⟩
 ·by_cases h1:left<n
  ·have e1:room1 left n = -1:=by unfold room1;rw [if_pos (.inr h1)]
   have E1:=Lib.hid e1
   clear e1
   go_enter Tryz.func14,Tryz.ntmps14
   go_wp2_with fail
   go_loop [0,5] (fun l i=>l = .int .i64 left∧i = .int .i64 0) (fun _ i=>2 - (intOf i).toNat)
   case atStart=>exact ⟨rfl,rfl⟩
   case round =>
    obtain ⟨rfl,rfl⟩:=hrel
    go_wp2_with fail
    go_ret
    rw [E1.out]
    exact ⟨rfl,rfl⟩
  ·have e1:room1 left n=left - n:=by unfold room1;rw [if_neg (by omega)]
   have E1:=Lib.hid e1
   clear e1
   go_enter Tryz.func14,Tryz.ntmps14
   go_wp2_with fail
   go_loop [0,5] (fun l i=>(l = .int .i64 left∧i = .int .i64 0)∨(l = .int .i64 (left - n)∧i = .int .i64 1)) (fun _ i=>2 - (intOf i).toNat)
   case atStart=>exact .inl ⟨rfl,rfl⟩
   case round =>
    rcases hrel with ⟨rfl,rfl⟩ | ⟨rfl,rfl⟩
    ·go_wp2_with fail
     go_round
     case rel=>exact .inr ⟨rfl,rfl⟩
     case measure=>simp [intOf]
    ·go_wp2_with fail
     go_ret
     rw [E1.out]
     exact ⟨rfl,rfl⟩
theorem drestore_any {o:Nat→Nat} {c p:Nat} {w:World} {D:Dk} (h:DiskAt o c w p D) (hs:0<D.sectors):Calls Tryz.prog 135 #[.pointer (some ⟨p,0,none⟩)] w fun e w'=>e = .returned (.tuple #[])∧∃o',DiskAt o' c w' p D.restore∧Step o (only c) w o' w':=by
 obtain ⟨mn,ml,wv,sv,h1⟩:=h
 have c0:w.cell? ⟨p,0,none⟩=some (.int .i64 D.sectors):=h1.blk.cell 0
 have c1:w.cell? ⟨p,1,none⟩=some (.bool D.on):=h1.blk.cell 1
 have f1:=h1.blk.frozen 1
 have hsI:(0:Int)<(D.sectors:Int):=by omega
 obtain ⟨h2,h3⟩:=h1.set_ (D2:=D.restore) 1 (.bool true) rfl rfl rfl rfl rfl
 have HF:=Lib.hid (show ∃o',DiskAt o' c (w.setCell ⟨p,1,none⟩ (.bool true)) p D.restore∧Step o (only c) w o' (w.setCell ⟨p,1,none⟩ (.bool true)) from ⟨o,⟨mn,ml,wv,sv,h2⟩,h3⟩)
 clear h1 h2 h3
 go_enter Tryz.func135,Tryz.ntmps135
 go_wp2_with fail
 go_end0
 exact ⟨rfl,HF.out⟩
theorem room1_le {left n:Int} (hl : -1≤left∧left≤1000000000) (hn:0≤n) : -1≤room1 left n∧room1 left n≤1000000000:=by
 unfold room1
 split <;> omega
def LightPost (w:World) (ok:Prop) (e:Ending) (w':World):Prop:=∃b,e = .returned (.bool b)∧(b=true→ok)∧Below w.heap.size w w'
set_option maxRecDepth 100000 in
set_option maxHeartbeats 2000000 in
theorem light_im (l:List Im) (w:World) (A:Option Addr) (cap:Nat) (few room:Int) (hrd:Reads w 3 A l.length (imcells l)) (hln:l.length≤maxLen) (hs:∀i∈l,i.data.size≤maxLen) (hr : -1≤room∧room≤1000000000) :
 Calls Tryz.prog 13 #[.int .i64 few, .int .i64 room, .slice A l.length cap] w (LightPost w ((l.length:Int)≤few)):=by
 have HR:=Lib.hid hrd
 have HS:=Lib.hid hs
 have hlI:(l.length:Int)≤9223372036854775807:=by unfold maxLen at hln;omega
 clear hrd hs hln
 by_cases hf:few<(l.length:Int)
 ·go_enter Tryz.func13,Tryz.ntmps13
  go_wp2_with fail
  go_ret
  exact ⟨false,rfl,by simp,Below.refl _ _⟩
 ·have HFL:=Lib.hid (show (l.length:Int)≤few by omega)
  go_enter Tryz.func13,Tryz.ntmps13
  go_wp2_with fail
  go_loopw [1,7] (fun t1 t7 wr=>∃(k:Nat) (r:Int),k≤l.length ∧ -1≤r∧r≤1000000000∧t1 = .int .i64 r∧t7 = .int .i64 k∧Below w.heap.size w wr) (fun _ t7 _=>l.length - (intOf t7).toNat)
  case atStart=>exact ⟨0,room,by omega,hr.1,hr.2,rfl,rfl,Below.refl _ _⟩
  case round =>
   obtain ⟨k,r,hk,hr1,hr2,rfl,rfl,hb⟩:=hrel
   have HB:=Lib.hid hb
   clear hb
   by_cases hlt:k<l.length
   ·have hltI:(k:Int)<(l.length:Int):=by omega
    by_cases h0:0≤r
    ·obtain ⟨x,hx⟩:∃x,l[k]? = some x:=⟨_,List.getElem?_eq_getElem hlt⟩
     have hxs:(x.data.size:Int)≤9223372036854775807:=by have:=HS.out x (List.mem_of_getElem? hx);unfold maxLen at this;omega
     obtain ⟨ad,rfl,y0,y1,y2⟩:=(HR.out.below' (by omega) HB.out).imrow hx
     clear hx
     go_wp2_with fail
     have hc0:(wr.alloc (.cells #[.int .i64 x.data.size] 3)).cell? ⟨wr.heap.size,0,none⟩=some (.int .i64 x.data.size):=(Blk.new wr 3 #[.int .i64 x.data.size]).cell 0
     have HB2:=Lib.hid (HB.out.alloc HB.out.size (.cells #[.int .i64 x.data.size] 3))
     have hrm:=room1_le (left:=r) (n:=(x.data.size:Int)) ⟨hr1,hr2⟩ (by omega)
     refine (room_one _ r x.data.size wr.heap.size hc0 ⟨hr1,hr2⟩ ⟨by omega,hxs⟩).mono ?_
     rintro e w2 ⟨rfl,rfl⟩
     generalize room1 r (x.data.size:Int)=r2 at hrm ⊢
     clear y0 y1 y2 hc0
     go_wp2_with fail
     go_roundw
     case rel=>exact ⟨k+1,r2,by omega,hrm.1,hrm.2,rfl,by go_num,HB2.out⟩
     case measure=>simp [intOf];omega
    ·go_wp2_with fail
     go_ret
     exact ⟨_,rfl,(fun _=>by first | trivial | exact HFL.out),HB.out⟩
   ·have hltI:¬(k:Int)<(l.length:Int):=by omega
    go_wp2_with fail
    go_ret
    exact ⟨_,rfl,(fun _=>by first | trivial | exact HFL.out),HB.out⟩
def roomN (left:Int) (ns:List Int):Int:=ns.foldl room1 left
theorem roomN_neg : ∀ns:List Int,roomN (-1) ns = -1
 | []=>rfl
 | n :: ns=>by
   show roomN (room1 (-1) n) ns = -1
   rw [show room1 (-1) n = -1 from if_pos (.inl (by decide))]
   exact roomN_neg ns
theorem roomN_drop {left:Int} {ns:List Int} {j:Nat} {n:Int} (h:ns[j]? = some n):roomN left (ns.drop j)=roomN (room1 left n) (ns.drop (j+1)):=by
 obtain ⟨hj,e⟩:=List.getElem?_eq_some_iff.1 h
 rw [List.drop_eq_getElem_cons hj,e]
 rfl
set_option maxRecDepth 100000 in
set_option maxHeartbeats 1000000 in
theorem rooms_any (w:World) (left:Int) (A:Option Addr) (cap:Nat) (ns:List Int) (hrd:Reads w 1 A ns.length (intcells ns)) (hl : -1≤left∧left≤1000000000) (hn:∀n∈ns,0≤n∧n≤9223372036854775807) (hlen:ns.length≤1000000) :
 Calls Tryz.prog 14 #[.int .i64 left, .slice A ns.length cap] w fun e w'=>e = .returned (.int .i64 (roomN left ns))∧w=w':=by
 have HR:=Lib.hid hrd
 have HN:=Lib.hid hn
 have hlenI:(ns.length:Int)≤1000000:=by omega
 have HE:=Lib.hid (show roomN left ns=roomN left (ns.drop 0) from rfl)
 generalize roomN left ns=E at HE ⊢
 obtain ⟨l1,l2⟩:=hl
 clear hrd hn hlen
 go_enter Tryz.func14,Tryz.ntmps14
 go_wp2_with fail
 go_loopw [0,5] (fun l i wr=>∃(j:Nat) (x:Int),j≤ns.length∧l = .int .i64 x∧i = .int .i64 j∧wr=w ∧ -1≤x∧x≤1000000000∧E=roomN x (ns.drop j)) (fun _ i _=>ns.length - (intOf i).toNat)
 case atStart=>exact ⟨0,left,by omega,rfl,rfl,rfl,l1,l2,HE.out⟩
 case round =>
  obtain ⟨j,x,hj,rfl,rfl,rfl,x1,x2,he⟩:=hrel
  have HX:=Lib.hid he
  clear he HE
  by_cases hlt:j<ns.length
  ·have hltI:(j:Int)<(ns.length:Int):=by omega
   obtain ⟨n,hnj⟩:∃n,ns[j]? = some n:=⟨_,List.getElem?_eq_getElem hlt⟩
   obtain ⟨n1,n2⟩:=HN.out n (List.mem_of_getElem? hnj)
   have HX2:=Lib.hid (HX.out.trans (roomN_drop hnj))
   have hgd:ns.getD j 0=n:=by rw [List.getD_eq_getElem?_getD,hnj];rfl
   obtain ⟨ad,rfl,c0⟩:=HR.out.int hlt
   rw [hgd] at c0
   clear hnj hgd HX
   by_cases h0:x<0
   ·have HF:=Lib.hid (show E = -1 by rw [HX2.out,show room1 x n = -1 from if_pos (.inl h0),roomN_neg])
    go_wp2_with fail
    go_ret
    exact ⟨by rw [HF.out];first | done | rfl,rfl⟩
   ·by_cases h1:x<n
    ·have HF:=Lib.hid (show E = -1 by rw [HX2.out,show room1 x n = -1 from if_pos (.inr h1),roomN_neg])
     go_wp2_with fail
     go_ret
     exact ⟨by rw [HF.out];first | done | rfl,rfl⟩
    ·have HF:=Lib.hid (show E=roomN (x - n) (ns.drop (j+1)) by rw [HX2.out,show room1 x n=x - n from if_neg (by omega)])
     go_wp2_with fail
     go_roundw
     case rel=>exact ⟨j+1,x - n,by omega,by go_num,by go_num,trivial,by omega,by omega,HF.out⟩
     case measure=>simp [intOf];omega
  ·have hltI:¬(j:Int)<(ns.length:Int):=by omega
   have HF:=Lib.hid (show E=x by rw [HX.out,List.drop_of_length_le (by omega)];rfl)
   go_wp2_with fail
   go_ret
   exact ⟨by rw [HF.out];first | done | rfl,rfl⟩
theorem rooms_two (w:World) (left a b:Int) (g:Nat) (hrd:Reads w 1 (some ⟨g,0,none⟩) 2 (intcells [a,b])) (hl : -1≤left∧left≤1000000000) (ha:0≤a∧a≤9223372036854775807) (hb:0≤b∧b≤9223372036854775807) :
 Calls Tryz.prog 14 #[.int .i64 left, .slice (some ⟨g,0,none⟩) 2 2] w fun e w'=>e = .returned (.int .i64 (room1 (room1 left a) b))∧w=w' :=
 rooms_any w left (some ⟨g,0,none⟩) 2 [a,b] hrd hl (fun n hn=>by
  rcases List.mem_cons.1 hn with rfl | hn
  ·exact ha
  ·rw [List.mem_singleton.1 hn]
   exact hb) (show 2≤1000000 by decide)
theorem room1_ok {x n:Int} (h:0≤room1 x n):0≤x∧n≤x∧room1 x n=x - n:=by
 unfold room1 at h ⊢
 split at h
 ·omega
 ·rename_i h1
  rw [if_neg h1]
  exact ⟨by omega,by omega,rfl⟩
def dcells (l:List (DOp×Value)):List Value:=l.flatMap (fun x=>x.1.cells x.2)
def DOp.Lt (o:DOp):Prop:=o.data.size≤20000∧o.keep.length≤20000
set_option maxRecDepth 100000 in
set_option maxHeartbeats 4000000 in
theorem light8_any (w:World) (A:Option Addr) (cap:Nat) (l:List (DOp×Value)) (hrd:Reads w 8 A l.length (dcells l)) (hlen:l.length≤100) (hk:∀x∈l,(∃B cp,x.2 = .slice B x.1.keep.length cp)∧x.1.data.size≤maxLen∧x.1.keep.length≤maxLen) :
 Calls Tryz.prog 15 #[.slice A l.length cap] w (LightPost w (∀x∈l,x.1.Lt)):=by
 have HR:=Lib.hid hrd
 have HK:=Lib.hid hk
 have hlenI:(l.length:Int)≤100:=by omega
 clear hrd hk hlen
 go_enter Tryz.func15,Tryz.ntmps15
 go_wp2_with fail
 go_loopw [3,4] (fun t3 t4 wr=>∃(j:Nat) (x:Int),j≤l.length∧t3 = .int .i64 x∧t4 = .int .i64 j ∧ -1≤x∧x≤20000∧(0≤x→∀y∈l.take j,y.1.Lt)∧Below w.heap.size w wr) (fun _ t4 _=>l.length - (intOf t4).toNat)
 case atStart=>exact ⟨0,20000,by omega,rfl,rfl,by omega,by omega,(fun _ y hy=>by simp at hy),Below.refl _ _⟩
 case round =>
  obtain ⟨j,x,hj,rfl,rfl,x1,x2,hx,hb⟩:=hrel
  have HX:=Lib.hid hx
  have HB:=Lib.hid hb
  clear hx hb
  by_cases hlt:j<l.length
  ·have hltI:(j:Int)<(l.length:Int):=by omega
   have h200:(j:Int)<200:=by omega
   by_cases h0:0≤x
   ·obtain ⟨⟨o,v⟩,ho⟩:∃y,l[j]? = some y:=⟨_,List.getElem?_eq_getElem hlt⟩
    have HKO:=Lib.hid (HK.out _ (List.mem_of_getElem? ho))
    obtain ⟨⟨B,cp,hv⟩,hk1,hk2⟩:=HKO.out
    simp only at hv
    subst hv
    obtain ⟨ad,rfl,hc⟩:=Reads.row (f:=fun x:DOp×Value=>x.1.cells x.2) (fun _=>rfl) (HR.out.below' (by omega) HB.out) ho
    have c5:wr.cell? ⟨(ad.add (j*8)).block,(ad.add (j*8)).off+5,none⟩=some (.string o.data):=hc 5 _ rfl
    have c6:wr.cell? ⟨(ad.add (j*8)).block,(ad.add (j*8)).off+6,none⟩=some (.slice B o.keep.length cp):=hc 6 _ rfl
    have HO:=Lib.hid ho
    clear hc ho
    have dn5:=World.new_ne wr _ c5
    have dn6:=World.new_ne wr _ c6
    obtain ⟨a,ha⟩:∃a:Int,(o.data.size:Int)=a:=⟨_,rfl⟩
    obtain ⟨b,hb⟩:∃b:Int,(o.keep.length:Int)=b:=⟨_,rfl⟩
    have hab:0≤a∧a≤9223372036854775807∧0≤b∧b≤9223372036854775807:=by unfold maxLen at hk1 hk2;simp only at hk1 hk2;omega
    have HLF:=Lib.hid (show -1≤x∧x≤1000000000 by omega)
    have HNA:=Lib.hid (show 0≤a∧a≤9223372036854775807 by omega)
    have HNB:=Lib.hid (show 0≤b∧b≤9223372036854775807 by omega)
    have HRD:=Lib.hid (Reads.newAt wr 3 1 2 (intcells [a,b]) #[.int .i64 a, .int .i64 b] wr.heap.size rfl rfl rfl)
    go_upto_region 5 with (fail)
    go_region_held3 (fun w'=>w'.cell? ⟨(ad.add (j*8)).block,(ad.add (j*8)).off+5,none⟩=some (.string o.data)∧w'.cell? ⟨(ad.add (j*8)).block,(ad.add (j*8)).off+6,none⟩=some (.slice B o.keep.length cp))
     (first | exact ⟨c5,c6⟩ | go_keep)
     (first | (go_at_call 14;((with_reducible refine (rooms_two _ x a b wr.heap.size HRD.out.drew HLF.out HNA.out HNB.out).mono ?_);rintro e2 w2 ⟨rfl,rfl⟩)))
    have hab2:=hab
    obtain ⟨X,hX⟩:∃X,room1 (room1 x a) b=X:=⟨_,rfl⟩
    have hX1 : -1≤X∧X≤20000∧(0≤X→o.Lt):=by
     have e:room1 (room1 x a) b=X:=hX
     have q1:=room1_le (left:=x) (n:=a) ⟨x1,by omega⟩ (by omega)
     have q2:=room1_le (left:=room1 x a) (n:=b) q1 (by omega)
     rw [e] at q2
     refine ⟨q2.1,?_,fun h => ?_⟩
     ·have u1:room1 x a≤20000:=by unfold room1;split <;> omega
      rw [←e]
      unfold room1 at u1 ⊢
      split <;> omega
     ·rw [←e] at h
      obtain ⟨r1,r2,r3⟩:=room1_ok h
      obtain ⟨r4,r5,r6⟩:=room1_ok r1
      unfold DOp.Lt
      omega
    rw [hX]
    clear hX
    have HB2:=Lib.hid (HB.out.alloc HB.out.size (.cells #[.int .i64 a, .int .i64 b] 3))
    have HT:=Lib.hid (show 0≤X→∀y∈l.take (j+1),y.1.Lt from fun h y hy=>by
     rw [List.take_add_one,HO.out] at hy
     rcases List.mem_append.1 hy with hy | hy
     ·exact HX.out h0 y hy
     ·rw [List.mem_singleton.1 (show y∈[(o,Value.slice B o.keep.length cp)] from hy)]
      exact hX1.2.2 h)
    clear c5 c6 dn5 dn6
    go_wp2_with fail
    go_roundw
    case rel=>exact ⟨j+1,X,by omega,by go_num,by go_num,hX1.1,hX1.2.1,HT.out,HB2.out.drew⟩
    case measure=>simp [intOf];omega
   ·by_cases h80:(l.length:Int)≤80
    ·go_wp2_with fail
     go_ret
     exact ⟨_,rfl,by simp,HB.out⟩
    ·go_wp2_with fail
     go_ret
     exact ⟨_,rfl,by simp,HB.out⟩
  ·have hltI:¬(j:Int)<(l.length:Int):=by omega
   have hall:l.take j=l:=List.take_of_length_le (by omega)
   have HXA:=Lib.hid (show 0≤x→∀y∈l,y.1.Lt by rw [←hall];exact HX.out)
   clear HX hall
   by_cases h80:(l.length:Int)≤80
   ·by_cases h0:0≤x
    ·go_wp2_with fail
     go_ret
     exact ⟨_,rfl,(fun _=>by first | exact HXA.out h0 | exact fun a b hab=>HXA.out h0 (a,b) hab),HB.out⟩
    ·go_wp2_with fail
     go_ret
     exact ⟨_,rfl,by simp,HB.out⟩
   ·go_wp2_with fail
    go_ret
    exact ⟨_,rfl,by simp,HB.out⟩
theorem info_dop : (Tryz.prog.info? 51).map (fun i=>(i.zero,i.size,i.bytes))=some (some (.agg #[.int .i64 0, .int .i64 0, .int .i64 0, .int .i64 0, .int .u64 0, .string ⟨#[]⟩, .slice none 0 0, .bool false]),8,88):=by kernel_rfl
def dsOf (l:List LOp) (vs:List (Value×Value)):List (DOp×Value):=(l.zip vs).map (fun x=>(x.1.d,x.2.2))
theorem ds_get {l:List LOp} {vs:List (Value×Value)} {j:Nat} {o:LOp} {lv kv:Value} (ho:l[j]? = some o) (hv:vs[j]? = some (lv,kv)):(dsOf l vs)[j]? = some (o.d,kv):=by
 unfold dsOf
 rw [List.getElem?_map,(List.getElem?_zip_eq_some (l₁:=l) (l₂:=vs) (z:=(o,(lv,kv)))).2 ⟨ho,hv⟩]
 rfl
theorem ds_len {W:World} {A:Option Addr} {l:List LOp} {vs:List (Value×Value)} (h:OpsRd W A l vs):(dsOf l vs).length=l.length:=by
 unfold dsOf
 rw [List.length_map,List.length_zip,h.len,Nat.min_self]
theorem dcells_succ {ds:List (DOp×Value)} {j:Nat} {x:DOp×Value} (h:ds[j]? = some x):dcells (ds.take (j+1))=dcells (ds.take j)++x.1.cells x.2:=by
 unfold dcells
 rw [List.take_add_one,h,Option.toList_some,List.flatMap_append,List.flatMap_singleton]
def LightL (l:List LOp):Prop:=l.length≤60∧∀o∈l,o.l.length≤70∧o.d.Lt
set_option maxRecDepth 100000 in
set_option maxHeartbeats 8000000 in
theorem light12_any (w:World) (A:Option Addr) (cap:Nat) (l:List LOp) (vs:List (Value×Value)) (hrd:OpsRd w A l vs) (hln:l.length≤maxLen) (hin:∀o∈l,o.InB) :
 Calls Tryz.prog 4 #[.slice A l.length cap] w (LightPost w (LightL l)):=by
 have HR:=Lib.hid hrd
 have HI:=Lib.hid hin
 have HDL:=Lib.hid (ds_len hrd)
 have hlnI:(l.length:Int)≤9223372036854775807:=by unfold maxLen at hln;omega
 obtain ⟨i0,hi0,hz0,hz1,hz2⟩:=info_parts info_dop
 have HI0:=Lib.hid hi0
 have HZ0:=Lib.hid hz0
 have HZ1:=Lib.hid hz1
 have HZ2:=Lib.hid hz2
 clear hrd hln hin hi0 hz0 hz1 hz2
 go_enter Tryz.func4,Tryz.ntmps4
 go_wp2_with fail
 go_loopw [3,4,5] (fun t3 t4 t5 wr=>∃(j:Nat) (x:Int) (D:Option Addr) (cp:Nat) (o:Nat→Nat),j≤l.length∧j≤200∧t3 = .slice D j cp∧t4 = .int .i64 x∧t5 = .int .i64 j ∧ -1≤x∧x≤30000∧(∀y∈l.take j,y.l.length≤70)∧OwnS o 1 wr 51 8 (.slice D j cp) j (dcells ((dsOf l vs).take j))∧Env o w wr) (fun _ _ t5 _=>l.length - (intOf t5).toNat)
 case atStart=>exact ⟨0,30000,none,0,fun _=>0,by omega,by omega,rfl,rfl,rfl,by omega,by omega,(fun y hy=>by simp at hy),OwnS.nil _ _ _ _ _,Env.start w⟩
 case round =>
  obtain ⟨j,x,D,cp,o,hj,hj2,rfl,rfl,rfl,x1,x2,hx,how,hen⟩:=hrel
  have HX:=Lib.hid hx
  have HO:=Lib.hid how
  have HE:=Lib.hid hen
  clear hx how hen
  by_cases hlt:j<l.length∧j<200
  ·obtain ⟨hlt,h200⟩:=hlt
   have hltI:(j:Int)<(l.length:Int):=by omega
   have h200I:(j:Int)<200:=by omega
   obtain ⟨y,hy⟩:∃y,l[j]? = some y:=⟨_,List.getElem?_eq_getElem hlt⟩
   have HY:=Lib.hid hy
   have HX1:=Lib.hid (show y.l.length≤70→∀z∈l.take (j+1),z.l.length≤70 from fun h z hz=>by
    rw [List.take_add_one,hy] at hz
    rcases List.mem_append.1 hz with hz | hz
    ·exact HX.out z hz
    ·rw [List.mem_singleton.1 (show z∈[y] from hz)]
     exact h)
   have HYI:=Lib.hid (HI.out y (List.mem_of_getElem? hy))
   obtain ⟨B,cb,C,cc,hv,hrim,hrk⟩:=HR.out.at_ hy
   obtain ⟨ad,rfl,hc⟩:=(HR.out.below_ HE.out.low).row hy hv
   have HV:=Lib.hid hv
   have HRIM:=Lib.hid hrim
   have c3:wr.cell? ⟨(ad.add (j*12)).block,(ad.add (j*12)).off+3,none⟩=some (.slice B y.l.length cb):=hc 3 _ rfl
   clear hrim hrk hc hy hv
   go_wp2_with fail
   refine (light_im y.l wr B cb 70 8000 (HRIM.out.1.below' (by omega) HE.out.low) (Nat.le_trans HRIM.out.2.1 HRIM.out.2.2) (fun i hi=>(HYI.out.ims i hi).2.1) (by omega)).mono ?_
   rintro e w2 ⟨b,rfl,hb4,hb2⟩
   have HB2:=Lib.hid hb2
   clear hb2
   cases b with
   | false =>
     go_wp2_with fail
     go_ret
     exact ⟨_,rfl,by simp,HE.out.low.trans (HB2.out.mono HE.out.low.size)⟩
   | true =>
   have HN3:=Lib.hid (show y.l.length≤70 by have:=hb4 rfl;omega)
   have HO2:=Lib.hid (HO.out.below_ HB2.out)
   have HE2:=Lib.hid (HE.out.below_ HB2.out)
   clear hb4 c3 HO HE HB2
   go_wp2_with fail
   go_loopw [4,6] (fun t4 t6 wq=>∃(k:Nat) (z:Int),k≤y.l.length∧t4 = .int .i64 z∧t6 = .int .i64 k ∧ -1≤z∧z≤30000∧OwnS o 1 wq 51 8 (.slice D j cp) j (dcells ((dsOf l vs).take j))∧Env o w wq) (fun _ t6 _=>y.l.length - (intOf t6).toNat)
   case atStart=>exact ⟨0,x,by omega,rfl,rfl,x1,x2,HO2.out,HE2.out⟩
   case round =>
    obtain ⟨k,z,hk,rfl,rfl,z1,z2,how,hen⟩:=hrel
    have HO3:=Lib.hid how
    have HE3:=Lib.hid hen
    clear how hen HO2 HE2
    obtain ⟨ad',had',hc'⟩:=(HR.out.below_ HE3.out.low).row HY.out HV.out
    injection had' with had'
    subst had'
    have c3:wr.cell? ⟨(ad.add (j*12)).block,(ad.add (j*12)).off+3,none⟩=some (.slice B y.l.length cb):=hc' 3 _ rfl
    have HC:=Lib.hid hc'
    clear hc'
    have hk70:k≤70:=by have:=HN3.out;omega
    by_cases hkl:k<y.l.length∧0≤z
    ·obtain ⟨hkl,hz0⟩:=hkl
     have hklI:(k:Int)<(y.l.length:Int):=by omega
     obtain ⟨im,him⟩:∃im,y.l[k]? = some im:=⟨_,List.getElem?_eq_getElem hkl⟩
     have hsz:=(HYI.out.ims im (List.mem_of_getElem? him)).2.1
     unfold maxLen at hsz
     obtain ⟨ai,hai,y0,y1,y2⟩:=(HRIM.out.1.below' (by omega) HE3.out.low).imrow him
     subst hai
     clear him y0 y1
     go_wp2_with fail
     refine (rooms_any _ z (some ⟨wr.heap.size,0,none⟩) 1 [(im.data.size:Int)] (Reads.newAt wr 3 1 1 _ #[.int .i64 im.data.size] wr.heap.size rfl rfl rfl) (by omega) (by intro n hn;rw [List.mem_singleton.1 hn];omega) (show 1≤1000000 by decide)).mono ?_
     rintro e w3 ⟨rfl,rfl⟩
     have hr1:=room1_le (left:=z) (n:=(im.data.size:Int)) ⟨z1,by omega⟩ (by omega)
     have hr2:room1 z (im.data.size:Int)≤30000:=by unfold room1;split <;> omega
     have HO4:=Lib.hid (HO3.out.alloc (.cells #[.int .i64 im.data.size] 3))
     have HE4:=Lib.hid (HE3.out.alloc (.cells #[.int .i64 im.data.size] 3))
     rw [show roomN z [(im.data.size:Int)]=room1 z (im.data.size:Int) from rfl]
     generalize room1 z (im.data.size:Int)=Z at hr1 hr2 ⊢
     clear c3 y2
     go_wp2_with fail
     go_roundw
     case rel=>exact ⟨k+1,Z,by omega,by go_num,by go_num,hr1.1,hr2,HO4.out,HE4.out⟩
     case measure=>simp [intOf];omega
    ·have d0:wr.cell? ⟨(ad.add (j*12)).block,(ad.add (j*12)).off+4,none⟩=some (.int .i64 y.d.kind):=HC.out 4 _ rfl
     have d1:wr.cell? ⟨(ad.add (j*12)).block,(ad.add (j*12)).off+4+1,none⟩=some (.int .i64 y.d.node):=HC.out 5 _ rfl
     have d2:wr.cell? ⟨(ad.add (j*12)).block,(ad.add (j*12)).off+4+2,none⟩=some (.int .i64 y.d.at_):=HC.out 6 _ rfl
     have d3:wr.cell? ⟨(ad.add (j*12)).block,(ad.add (j*12)).off+4+3,none⟩=some (.int .i64 y.d.n):=HC.out 7 _ rfl
     have d4:wr.cell? ⟨(ad.add (j*12)).block,(ad.add (j*12)).off+4+4,none⟩=some (.int .u64 y.d.epoch):=HC.out 8 _ rfl
     have d5:wr.cell? ⟨(ad.add (j*12)).block,(ad.add (j*12)).off+4+5,none⟩=some (.string y.d.data):=HC.out 9 _ rfl
     have d6:wr.cell? ⟨(ad.add (j*12)).block,(ad.add (j*12)).off+4+6,none⟩=some (.slice C y.d.keep.length cc):=HC.out 10 _ rfl
     have d7:wr.cell? ⟨(ad.add (j*12)).block,(ad.add (j*12)).off+4+7,none⟩=some (.bool y.d.own):=HC.out 11 _ rfl
     by_cases hkl2:k<y.l.length
     ·have hklI:(k:Int)<(y.l.length:Int):=by omega
      have hz0:¬0≤z:=fun h=>hkl ⟨hkl2,h⟩
      have HO4:=Lib.hid (HO3.out.alloc (.cells #[.int .i64 y.d.kind, .int .i64 y.d.node, .int .i64 y.d.at_, .int .i64 y.d.n, .int .u64 y.d.epoch, .string y.d.data, .slice C y.d.keep.length cc, .bool y.d.own] 51))
      have HE4:=Lib.hid (HE3.out.alloc (.cells #[.int .i64 y.d.kind, .int .i64 y.d.node, .int .i64 y.d.at_, .int .i64 y.d.n, .int .u64 y.d.epoch, .string y.d.data, .slice C y.d.keep.length cc, .bool y.d.own] 51))
      go_wp2_with (at_builtin;refine wpList_append_S _ rfl (.tmp 51) (.tmp 57) 48 rfl 51 i0 _ 8 88 Tryz.underlying48 HI0.out HZ0.out HZ1.out HZ2.out rfl (by omega) (.slice D j cp) j (dcells ((dsOf l vs).take j)) rfl HO4.out (some ⟨wr.heap.size,0,none⟩) 1 1 (y.d.cells (.slice C y.d.keep.length cc)) rfl (Reads.newAt wr 51 8 1 _ #[.int .i64 y.d.kind, .int .i64 y.d.node, .int .i64 y.d.at_, .int .i64 y.d.n, .int .u64 y.d.epoch, .string y.d.data, .slice C y.d.keep.length cc, .bool y.d.own] _ rfl rfl rfl) (by simp [Value.oneCell',DOp.cells]) (by unfold maxLen;omega) (by omega) ?_;intro v7 w7 hown7 hst7 hgr7 hat7)
      obtain ⟨A7,cap7,rfl,_,_⟩:=own_form' hown7
      refine ⟨⟨j+1,z,A7,cap7,_,by omega,by omega,rfl,rfl,by go_num,z1,z2,HX1.out HN3.out,?_,HE4.out.step hst7 (by unfold only;omega)⟩,?_⟩
      ·rw [dcells_succ (ds_get HY.out HV.out)]
       exact hown7
      ·simp [intOf];omega
     ·have hklI:¬(k:Int)<(y.l.length:Int):=by omega
      have HO4:=Lib.hid (HO3.out.alloc (.cells #[.int .i64 y.d.kind, .int .i64 y.d.node, .int .i64 y.d.at_, .int .i64 y.d.n, .int .u64 y.d.epoch, .string y.d.data, .slice C y.d.keep.length cc, .bool y.d.own] 51))
      have HE4:=Lib.hid (HE3.out.alloc (.cells #[.int .i64 y.d.kind, .int .i64 y.d.node, .int .i64 y.d.at_, .int .i64 y.d.n, .int .u64 y.d.epoch, .string y.d.data, .slice C y.d.keep.length cc, .bool y.d.own] 51))
      go_wp2_with (at_builtin;refine wpList_append_S _ rfl (.tmp 51) (.tmp 57) 48 rfl 51 i0 _ 8 88 Tryz.underlying48 HI0.out HZ0.out HZ1.out HZ2.out rfl (by omega) (.slice D j cp) j (dcells ((dsOf l vs).take j)) rfl HO4.out (some ⟨wr.heap.size,0,none⟩) 1 1 (y.d.cells (.slice C y.d.keep.length cc)) rfl (Reads.newAt wr 51 8 1 _ #[.int .i64 y.d.kind, .int .i64 y.d.node, .int .i64 y.d.at_, .int .i64 y.d.n, .int .u64 y.d.epoch, .string y.d.data, .slice C y.d.keep.length cc, .bool y.d.own] _ rfl rfl rfl) (by simp [Value.oneCell',DOp.cells]) (by unfold maxLen;omega) (by omega) ?_;intro v7 w7 hown7 hst7 hgr7 hat7)
      obtain ⟨A7,cap7,rfl,_,_⟩:=own_form' hown7
      refine ⟨⟨j+1,z,A7,cap7,_,by omega,by omega,rfl,rfl,by go_num,z1,z2,HX1.out HN3.out,?_,HE4.out.step hst7 (by unfold only;omega)⟩,?_⟩
      ·rw [dcells_succ (ds_get HY.out HV.out)]
       exact hown7
      ·simp [intOf];omega
  ·by_cases h60:l.length≤60
   ·have h60I:(l.length:Int)≤60:=by omega
    obtain rfl:j=l.length:=by omega
    have hltI:¬(l.length:Int)<(l.length:Int):=by omega
    have hall:l.take l.length=l:=List.take_of_length_le (Nat.le_refl _)
    have hall2:(dsOf l vs).take l.length=dsOf l vs:=List.take_of_length_le (by rw [HDL.out];exact Nat.le_refl _)
    rw [hall2] at HO
    have HXA:=Lib.hid (show ∀y∈l,y.l.length≤70 from fun y hy=>HX.out y (by rw [hall];exact hy))
    clear hall hall2 HX
    by_cases h0:0≤x
    ·have hdl:=HDL.out
     have HL8:=Lib.hid (light8_any wr D cp (dsOf l vs) (by rw [hdl];exact Reads.of_own HO.out.1) (by rw [hdl];omega) (fun z hz=>by
      obtain ⟨k,hk,e⟩:=List.getElem_of_mem hz
      have hk2:k<l.length:=by rw [HDL.out] at hk;exact hk
      obtain ⟨y,hy⟩:∃y,l[k]? = some y:=⟨_,List.getElem?_eq_getElem hk2⟩
      obtain ⟨B,cb,C,cc,hv,_,_⟩:=HR.out.at_ hy
      have e2:(dsOf l vs)[k]? = some z:=by rw [←e];exact List.getElem?_eq_getElem hk
      rw [ds_get hy hv] at e2
      injection e2 with e2
      subst e2
      have hin:=HI.out y (List.mem_of_getElem? hy)
      exact ⟨⟨C,cc,rfl⟩,hin.ddata,hin.dkeep.1⟩))
     rw [hdl] at HL8
     clear hdl
     go_wp2_with fail
     refine HL8.out.mono ?_
     rintro e w8 ⟨b,rfl,hb8,hw8⟩
     have HF:=Lib.hid (show b=true→LightL l from fun h=>⟨h60,fun o ho=>⟨HXA.out o ho,by
      obtain ⟨k,hk,e⟩:=List.getElem_of_mem ho
      have hy:l[k]? = some o:=by rw [←e];exact List.getElem?_eq_getElem hk
      obtain ⟨B,cb,C,cc,hv,_,_⟩:=HR.out.at_ hy
      exact hb8 h _ (List.mem_of_getElem? (ds_get hy hv))⟩⟩)
     have HB8:=Lib.hid (HE.out.low.trans (hw8.mono HE.out.low.size))
     clear hb8 hw8
     go_wp2_with fail
     go_ret
     exact ⟨_,rfl,HF.out,HB8.out⟩
    ·go_wp2_with fail
     go_ret
     exact ⟨_,rfl,by simp,HE.out.low⟩
   ·have h60I:¬(l.length:Int)≤60:=by omega
    by_cases hlt2:j<l.length
    ·have hltI:(j:Int)<(l.length:Int):=by omega
     have h200I:¬(j:Int)<200:=by omega
     go_wp2_with fail
     go_ret
     exact ⟨_,rfl,by simp,HE.out.low⟩
    ·have hltI:¬(j:Int)<(l.length:Int):=by omega
     go_wp2_with fail
     go_ret
     exact ⟨_,rfl,by simp,HE.out.low⟩
end Go.Proofs.YtldoeodkeieejaaGreatDoor
