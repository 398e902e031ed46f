import Derived.Test.YtldoeodkeieejaaGreatDoorKMadB
import Derived.Test.YtldoeodkeieejaaGreatDoorKRecH
import Derived.Test.YtldoeodkeieejaaGreatDoorKRecE
import Derived.Test.YtldoeodkeieejaaGreatDoorKLawQ
namespace Go.Proofs.YtldoeodkeieejaaGreatDoor
open Go.RowKit
theorem rf_setT (R:RF) (lv kv:Value) (k:Nat) (hk:k≤16) (v:Nat):(R.cells lv kv).setIfInBounds (3+k) (.int .u64 v)=({R with table:=fun j=>if j=k then v else R.table j}:RF).cells lv kv:=by
 rcases k with _ | _ | _ | _ | _ | _ | _ | _ | _ | _ | _ | _ | _ | _ | _ | _ | _ | k <;> first | rfl | omega
theorem rf_setW (R:RF) (lv kv:Value) (k:Nat) (hk:k≤16) (v:Nat):(R.cells lv kv).setIfInBounds (20+k) (.int .u64 v)=({R with words:=fun j=>if j=k then v else R.words j}:RF).cells lv kv:=by
 rcases k with _ | _ | _ | _ | _ | _ | _ | _ | _ | _ | _ | _ | _ | _ | _ | _ | _ | k <;> first | rfl | omega
section
variable {o o':Nat→Nat} {c p:Nat} {w w':World} {R:RF}
set_option maxRecDepth 100000 in
set_option maxHeartbeats 2000000 in
theorem rfadmit_any (h:RFAt o c w p R) (n:Int) (e:Nat) (hlo:R.leftIn) (hkl:R.keep.length≤1000000) (hl:R.ws.length≤100000):Calls Tryz.prog 41 #[.pointer (some ⟨p,0,none⟩), .int .i64 n, .int .u64 (e:Int)] w fun r w'=>r = .returned (.int .i64 (R.admit8 n e).1)∧∃o',RFAt o' c w' p (R.admit8 n e).2∧Step o (cutF c) w o' w':=by
 have H:=Lib.hid h
 obtain ⟨kv,⟨lv,hb,hc,ho⟩,hk2⟩:=h
 have x2:w.cell? ⟨p,2,none⟩=some (.bool R.off):=hb.cell 2
 have x37:w.cell? ⟨p,37,none⟩=some (.int .u64 R.last):=hb.cell 37
 have HL:=Lib.hid hl
 have HLO:=Lib.hid hlo
 have HKL:=Lib.hid hkl
 clear hb hc ho hk2 hl hlo hkl
 by_cases hof:R.off=true
 ·rw [show R.admit8 n e=(14,R) from if_pos hof]
  rw [hof] at x2
  clear x37
  go_enter Tryz.func41,Tryz.ntmps41
  go_wp2_with fail
  go_ret
  exact ⟨rfl,o,H.out,Step.refl _ _ _⟩
 have hof2:R.off=false:=by simpa using hof
 rw [hof2] at x2
 by_cases hn:nodeOk n=false
 ·rw [show R.admit8 n e=(1,R) from (if_neg hof).trans (if_pos hn)]
  clear x37
  go_enter Tryz.func41,Tryz.ntmps41
  go_wp2_with fail
  refine (rfnode_any n w).mono ?_
  rintro r w1 ⟨rfl,rfl⟩
  rw [hn]
  go_wp2_with fail
  go_ret
  exact ⟨rfl,o,H.out,Step.refl _ _ _⟩
 have hn2:nodeOk n=true:=by simpa using hn
 have hnn:0≤n∧n≤16:=of_decide_eq_true hn2
 obtain ⟨k,rfl⟩:∃k:Nat,n=k:=⟨n.toNat,by omega⟩
 have HK:=Lib.hid (show k≤16 by omega)
 have hkI:(k:Int)<17:=by omega
 clear hnn
 by_cases he:e≤R.last
 ·have heI:(e:Int)≤(R.last:Int):=by omega
  rw [show R.admit8 (k:Int) e=(8,R) from (if_neg hof).trans ((if_neg hn).trans (if_pos he))]
  go_enter Tryz.func41,Tryz.ntmps41
  go_wp2_with fail
  refine (rfnode_any k w).mono ?_
  rintro r w1 ⟨rfl,rfl⟩
  rw [hn2]
  go_wp2_with fail
  go_ret
  exact ⟨rfl,o,H.out,Step.refl _ _ _⟩
 have heI:¬(e:Int)≤(R.last:Int):=by omega
 by_cases hsp:R.spend.1=0
 rotate_left
 ·rw [show R.admit8 (k:Int) e=(14,R.spend.2) from (if_neg hof).trans ((if_neg hn).trans ((if_neg he).trans (if_pos hsp)))]
  obtain ⟨sv,hsv⟩:∃sv,R.spend.1=sv:=⟨_,rfl⟩
  have HSV:=Lib.hid hsv
  rw [hsv] at hsp
  clear hsv
  go_enter Tryz.func41,Tryz.ntmps41
  go_wp2_with fail
  refine (rfnode_any k w).mono ?_
  rintro r w1 ⟨rfl,rfl⟩
  rw [hn2]
  go_wp2_with fail
  refine (rfspend_any H.out HLO.out HL.out HKL.out).mono ?_
  rintro r w1 ⟨rfl,o1,hr1,hs1⟩
  rw [HSV.out]
  have HR1:=Lib.hid hr1
  have HS1:=Lib.hid hs1
  clear hr1 hs1
  go_wp2_with fail
  go_ret
  exact ⟨rfl,o1,HR1.out,HS1.out⟩
 have HSP:=Lib.hid hsp
 have HE:=Lib.hid (show R.admit8 (k:Int) e=(0,{R.spend.2 with table:=fun j=>if j=k then e else R.spend.2.table j,last:=e}) from (if_neg hof).trans ((if_neg hn).trans ((if_neg he).trans (if_neg (fun x=>x hsp)))))
 clear hsp
 go_enter Tryz.func41,Tryz.ntmps41
 go_wp2_with fail
 refine (rfnode_any k w).mono ?_
 rintro r w1 ⟨rfl,rfl⟩
 rw [hn2]
 go_wp2_with fail
 refine (rfspend_any H.out HLO.out HL.out HKL.out).mono ?_
 rintro r w1 ⟨rfl,o1,hr1,hs1⟩
 rw [HSP.out]
 have hlen:=(spend_len R).1
 obtain ⟨R1,hR1⟩:∃R1,R.spend.2=R1:=⟨_,rfl⟩
 rw [hR1] at hr1 HE hlen
 have HL1:=Lib.hid (show R1.ws.length≤100000 by have:=HL.out;omega)
 clear hR1 hlen
 obtain ⟨kv1,hr1,hk1⟩:=hr1
 obtain ⟨lv1,hb1,hc1,ho1⟩:=hr1
 have ct:w1.cell? ⟨p,3+k,none⟩=some (.int .u64 (R1.table k:Int)):=by rw [hb1.cell,rf_table R1 lv1 kv1 k HK.out]
 have ft:=hb1.frozen (3+k)
 have hne:¬3+k=37:=by have:=HK.out;omega
 have hb2:=hb1.set_ (3+k) (.int .u64 e)
 rw [rf_setT R1 lv1 kv1 k HK.out e] at hb2
 have y37:(w1.setCell ⟨p,3+k,none⟩ (.int .u64 e)).cell? ⟨p,37,none⟩=some (.int .u64 R1.last):=hb2.cell 37
 have z37:w1.cell? ⟨p,37,none⟩=some (.int .u64 R1.last):=hb1.cell 37
 have f37:=hb1.frozen 37
 have g37:=hb2.frozen 37
 have S2:=((Step.refl o1 (only c) w1).setCell (p:=⟨p,3+k,none⟩) hc1 (.int .u64 e)).setCell (p:=⟨p,37,none⟩) hc1 (.int .u64 e)
 have HF:=Lib.hid (show RFAt o1 c ((w1.setCell ⟨p,3+k,none⟩ (.int .u64 e)).setCell ⟨p,37,none⟩ (.int .u64 e)) p {R1 with table:=fun j=>if j=k then e else R1.table j,last:=e}∧Step o (cutF c) w o1 ((w1.setCell ⟨p,3+k,none⟩ (.int .u64 e)).setCell ⟨p,37,none⟩ (.int .u64 e)) from
  ⟨⟨kv1,⟨lv1,hb2.set_ 37 (.int .u64 e),hc1,ho1.step S2 (by unfold only;omega)⟩,hk1.step S2 (by unfold only;omega)⟩,hs1.trans (S2.mono (fun y hy => .inl hy))⟩)
 clear hb1 hb2 hc1 ho1 hk1 hs1 S2 x2 x37
 go_wp2_with fail
 go_ret
 rw [HE.out]
 exact ⟨rfl,o1,HF.out.1,HF.out.2⟩
set_option maxRecDepth 100000 in
set_option maxHeartbeats 2000000 in
theorem rfput_any (h:RFAt o c w p R) (n:Int) (v:Nat) (hlo:R.leftIn) (hkl:R.keep.length≤1000000) (hl:R.ws.length≤100000):Calls Tryz.prog 131 #[.pointer (some ⟨p,0,none⟩), .int .i64 n, .int .u64 (v:Int)] w fun r w'=>r = .returned (.int .i64 (R.put n v).1)∧∃o',RFAt o' c w' p (R.put n v).2∧Step o (cutF c) w o' w':=by
 have H:=Lib.hid h
 obtain ⟨kv,⟨lv,hb,hc,ho⟩,hk2⟩:=h
 have x2:w.cell? ⟨p,2,none⟩=some (.bool R.off):=hb.cell 2
 have HL:=Lib.hid hl
 have HLO:=Lib.hid hlo
 have HKL:=Lib.hid hkl
 clear hb hc ho hk2 hl hlo hkl
 by_cases hof:R.off=true
 ·rw [show R.put n v=(14,R) from if_pos hof]
  rw [hof] at x2
  go_enter Tryz.func131,Tryz.ntmps131
  go_wp2_with fail
  go_ret
  exact ⟨rfl,o,H.out,Step.refl _ _ _⟩
 have hof2:R.off=false:=by simpa using hof
 rw [hof2] at x2
 by_cases hn:nodeOk n=false
 ·rw [show R.put n v=(1,R) from (if_neg hof).trans (if_pos hn)]
  go_enter Tryz.func131,Tryz.ntmps131
  go_wp2_with fail
  refine (rfnode_any n w).mono ?_
  rintro r w1 ⟨rfl,rfl⟩
  rw [hn]
  go_wp2_with fail
  go_ret
  exact ⟨rfl,o,H.out,Step.refl _ _ _⟩
 have hn2:nodeOk n=true:=by simpa using hn
 have hnn:0≤n∧n≤16:=of_decide_eq_true hn2
 obtain ⟨k,rfl⟩:∃k:Nat,n=k:=⟨n.toNat,by omega⟩
 have HK:=Lib.hid (show k≤16 by omega)
 have hkI:(k:Int)<17:=by omega
 clear hnn
 by_cases hsp:R.spend.1=0
 rotate_left
 ·rw [show R.put (k:Int) v=(14,R.spend.2) from (if_neg hof).trans ((if_neg hn).trans (if_pos hsp))]
  obtain ⟨sv,hsv⟩:∃sv,R.spend.1=sv:=⟨_,rfl⟩
  have HSV:=Lib.hid hsv
  rw [hsv] at hsp
  clear hsv
  go_enter Tryz.func131,Tryz.ntmps131
  go_wp2_with fail
  refine (rfnode_any k w).mono ?_
  rintro r w1 ⟨rfl,rfl⟩
  rw [hn2]
  go_wp2_with fail
  refine (rfspend_any H.out HLO.out HL.out HKL.out).mono ?_
  rintro r w1 ⟨rfl,o1,hr1,hs1⟩
  rw [HSV.out]
  have HR1:=Lib.hid hr1
  have HS1:=Lib.hid hs1
  clear hr1 hs1
  go_wp2_with fail
  go_ret
  exact ⟨rfl,o1,HR1.out,HS1.out⟩
 have HSP:=Lib.hid hsp
 have HE:=Lib.hid (show R.put (k:Int) v=(0,{R.spend.2 with words:=fun j=>if j=k then v else R.spend.2.words j}) from (if_neg hof).trans ((if_neg hn).trans (if_neg (fun x=>x hsp))))
 clear hsp
 go_enter Tryz.func131,Tryz.ntmps131
 go_wp2_with fail
 refine (rfnode_any k w).mono ?_
 rintro r w1 ⟨rfl,rfl⟩
 rw [hn2]
 go_wp2_with fail
 refine (rfspend_any H.out HLO.out HL.out HKL.out).mono ?_
 rintro r w1 ⟨rfl,o1,hr1,hs1⟩
 rw [HSP.out]
 have hlen:=(spend_len R).1
 obtain ⟨R1,hR1⟩:∃R1,R.spend.2=R1:=⟨_,rfl⟩
 rw [hR1] at hr1 HE hlen
 have HL1:=Lib.hid (show R1.ws.length≤100000 by have:=HL.out;omega)
 clear hR1 hlen
 obtain ⟨kv1,hr1,hk1⟩:=hr1
 obtain ⟨lv1,hb1,hc1,ho1⟩:=hr1
 have ct:w1.cell? ⟨p,20+k,none⟩=some (.int .u64 (R1.words k:Int)):=by rw [hb1.cell,rf_word R1 lv1 kv1 k HK.out]
 have ft:=hb1.frozen (20+k)
 have hb2:=hb1.set_ (20+k) (.int .u64 v)
 rw [rf_setW R1 lv1 kv1 k HK.out v] at hb2
 have S2:=(Step.refl o1 (only c) w1).setCell (p:=⟨p,20+k,none⟩) hc1 (.int .u64 v)
 have HF:=Lib.hid (show RFAt o1 c (w1.setCell ⟨p,20+k,none⟩ (.int .u64 v)) p {R1 with words:=fun j=>if j=k then v else R1.words j}∧Step o (cutF c) w o1 (w1.setCell ⟨p,20+k,none⟩ (.int .u64 v)) from
  ⟨⟨kv1,⟨lv1,hb2,hc1,ho1.step S2 (by unfold only;omega)⟩,hk1.step S2 (by unfold only;omega)⟩,hs1.trans (S2.mono (fun y hy => .inl hy))⟩)
 clear hb1 hb2 hc1 ho1 hk1 hs1 S2 x2
 go_wp2_with fail
 go_ret
 rw [HE.out]
 exact ⟨rfl,o1,HF.out.1,HF.out.2⟩
set_option maxRecDepth 100000 in
set_option maxHeartbeats 2000000 in
theorem rffence_any (h:RFAt o c w p R) (n:Int) (hlo:R.leftIn) (hkl:R.keep.length≤1000000) (hl:R.ws.length≤100000):Calls Tryz.prog 44 #[.pointer (some ⟨p,0,none⟩), .int .i64 n] w fun r w'=>r = .returned (.int .i64 (R.fence n).1)∧∃o',RFAt o' c w' p (R.fence n).2∧Step o (cutF c) w o' w':=by
 have H:=Lib.hid h
 obtain ⟨kv,⟨lv,hb,hc,ho⟩,hk2⟩:=h
 have x2:w.cell? ⟨p,2,none⟩=some (.bool R.off):=hb.cell 2
 have HL:=Lib.hid hl
 have HLO:=Lib.hid hlo
 have HKL:=Lib.hid hkl
 clear hb hc ho hk2 hl hlo hkl
 by_cases hof:R.off=true
 ·rw [show R.fence n=(14,R) from if_pos hof]
  rw [hof] at x2
  go_enter Tryz.func44,Tryz.ntmps44
  go_wp2_with fail
  go_ret
  exact ⟨rfl,o,H.out,Step.refl _ _ _⟩
 have hof2:R.off=false:=by simpa using hof
 rw [hof2] at x2
 by_cases hn:nodeOk n=false
 ·rw [show R.fence n=(1,R) from (if_neg hof).trans (if_pos hn)]
  go_enter Tryz.func44,Tryz.ntmps44
  go_wp2_with fail
  refine (rfnode_any n w).mono ?_
  rintro r w1 ⟨rfl,rfl⟩
  rw [hn]
  go_wp2_with fail
  go_ret
  exact ⟨rfl,o,H.out,Step.refl _ _ _⟩
 have hn2:nodeOk n=true:=by simpa using hn
 have hnn:0≤n∧n≤16:=of_decide_eq_true hn2
 obtain ⟨k,rfl⟩:∃k:Nat,n=k:=⟨n.toNat,by omega⟩
 have HK:=Lib.hid (show k≤16 by omega)
 have hkI:(k:Int)<17:=by omega
 clear hnn
 by_cases hsp:R.spend.1=0
 rotate_left
 ·rw [show R.fence (k:Int)=(14,R.spend.2) from (if_neg hof).trans ((if_neg hn).trans (if_pos hsp))]
  obtain ⟨sv,hsv⟩:∃sv,R.spend.1=sv:=⟨_,rfl⟩
  have HSV:=Lib.hid hsv
  rw [hsv] at hsp
  clear hsv
  go_enter Tryz.func44,Tryz.ntmps44
  go_wp2_with fail
  refine (rfnode_any k w).mono ?_
  rintro r w1 ⟨rfl,rfl⟩
  rw [hn2]
  go_wp2_with fail
  refine (rfspend_any H.out HLO.out HL.out HKL.out).mono ?_
  rintro r w1 ⟨rfl,o1,hr1,hs1⟩
  rw [HSV.out]
  have HR1:=Lib.hid hr1
  have HS1:=Lib.hid hs1
  clear hr1 hs1
  go_wp2_with fail
  go_ret
  exact ⟨rfl,o1,HR1.out,HS1.out⟩
 have HSP:=Lib.hid hsp
 have HE:=Lib.hid (show R.fence (k:Int)=(0,{R.spend.2.settle (k:Int) with table:=fun j=>if j=k then 0 else R.spend.2.table j}) from (if_neg hof).trans ((if_neg hn).trans (if_neg (fun x=>x hsp))))
 clear hsp
 go_enter Tryz.func44,Tryz.ntmps44
 go_wp2_with fail
 refine (rfnode_any k w).mono ?_
 rintro r w1 ⟨rfl,rfl⟩
 rw [hn2]
 go_wp2_with fail
 refine (rfspend_any H.out HLO.out HL.out HKL.out).mono ?_
 rintro r w1 ⟨rfl,o1,hr1,hs1⟩
 rw [HSP.out]
 have hlen:=(spend_len R).1
 obtain ⟨R1,hR1⟩:∃R1,R.spend.2=R1:=⟨_,rfl⟩
 rw [hR1] at hr1 HE hlen
 have HL1:=Lib.hid (show R1.ws.length≤100000 by have:=HL.out;omega)
 clear hR1 hlen
 obtain ⟨kv1,hr1,hk1⟩:=hr1
 have HI1:=Lib.hid hr1
 have HK1:=Lib.hid hk1
 have HS1:=Lib.hid hs1
 clear hr1 hk1 hs1 x2
 go_wp2_with fail
 refine (rfkeep_in HI1.out k HL1.out).mono ?_
 rintro r w2 ⟨rfl,o2,hr2,hs2⟩
 obtain ⟨lv1,hb1,hc1,ho1⟩:=hr2
 have ct:w2.cell? ⟨p,3+k,none⟩=some (.int .u64 ((R1.settle k).table k:Int)):=by rw [hb1.cell,rf_table (R1.settle k) lv1 kv1 k HK.out]
 have ft:=hb1.frozen (3+k)
 have hb2:=hb1.set_ (3+k) (.int .u64 (0:Nat))
 rw [rf_setT (R1.settle k) lv1 kv1 k HK.out 0] at hb2
 have S2:=(Step.refl o2 (only c) w2).setCell (p:=⟨p,3+k,none⟩) hc1 (.int .u64 (0:Nat))
 have hkv:OwnW o2 (c+2) w2 3 1 kv1 R1.keep.length (intcells R1.keep):=HK1.out.step hs2 (by unfold logL;omega)
 have HF:=Lib.hid (show RFAt o2 c (w2.setCell ⟨p,3+k,none⟩ (.int .u64 0)) p {R1.settle (k:Int) with table:=fun j=>if j=k then 0 else R1.table j}∧Step o (cutF c) w o2 (w2.setCell ⟨p,3+k,none⟩ (.int .u64 0)) from
  ⟨⟨kv1,⟨lv1,hb2,hc1,ho1.step S2 (by unfold only;omega)⟩,hkv.step S2 (by unfold only;omega)⟩,(HS1.out.trans (hs2.mono (logL_cutF c))).trans (S2.mono (fun y hy => .inl hy))⟩)
 clear hb1 hb2 hc1 ho1 hkv hs2 S2
 go_wp2_with fail
 go_ret
 rw [HE.out]
 exact ⟨rfl,o2,HF.out.1,HF.out.2⟩
end
def bs4 : List UInt8 := [72,69,65,68]
set_option maxRecDepth 100000 in
set_option maxHeartbeats 2000000 in
theorem xnum_head {o:Nat→Nat} {c p g:Nat} {w:World} (hb:Blk w p 177 #[.slice (some ⟨g,0,none⟩) 4 4, .int .i64 0]) (hc:o p=c) (hgl:g<w.heap.size) (hog:o g≠c) (hrd:∀j u,(bvs bs4)[j]? = some u→w.cell? ((⟨g,0,none⟩:Addr).add j)=some u) (v:Nat) (hv:v<18446744073709551616) :
 Calls Tryz.prog 91 #[.pointer (some ⟨p,0,none⟩), .int .u64 v, .int .i64 8] w fun r w'=>r = .returned (.tuple #[])∧∃o',WrAt 177 o' c w' p ⟨bs4++le v 8,0⟩∧Step o (only c) w o' w':=by
 obtain ⟨i0,hi0,hz0,hz1,hz2⟩:=info_parts info_u8
 have HB0:=Lib.hid hb
 have HC:=Lib.hid hc
 have HGL:=Lib.hid hgl
 have HOG:=Lib.hid hog
 have HRD:=Lib.hid hrd
 have HV0:=Lib.hid hv
 have HB1:=Lib.hid (hb.set_ 1 (.int .i64 0))
 have HS1:=Lib.hid ((Step.refl o (only c) w).setCell (p:=⟨p,1,none⟩) hc (.int .i64 0))
 have HPL:=Lib.hid hb.lt
 clear hb hc hgl hog hrd hv
 go_enter Tryz.func91,Tryz.ntmps91
 go_wp2_with fail
 refine (xfail_blk HB0.out).mono ?_
 rintro e w1 ⟨rfl,rfl⟩
 generalize w.setCell ⟨p,1,none⟩ (.int .i64 0)=W1 at HB1 HS1 ⊢
 go_wp2_with fail
 go_loopw [1,6,7] (fun t1 t6 t7 wr=>∃(k:Nat) (o':Nat→Nat),k≤8∧t7 = .int .i64 k∧t1 = .int .u64 ((v / 256 ^ k:Nat):Int)∧OwnS o' (c+1) wr 5 1 t6 k (bvs (le v k))∧(∀g,t6.ownBlock=some g→w.heap.size≤g)∧Blk wr p 177 #[.slice (some ⟨g,0,none⟩) 4 4, .int .i64 0]∧Step o (only c) w o' wr) (fun _ _ t7 _=>8 - (intOf t7).toNat)
 case atStart=>exact ⟨0,o,Nat.zero_le _,rfl,by simp,OwnS.nil _ _ _ _ _,by simp [Value.ownBlock],HB1.out,HS1.out⟩
 case round =>
  obtain ⟨k,o1,hk,rfl,rfl,hown6,hblk6,hw,hst⟩:=hrel
  obtain ⟨A6,cap6,rfl,hle6,hcap6⟩:=own_form' hown6
  unfold maxLen at hcap6
  have hu:v / 256 ^ k<18446744073709551616:=Nat.lt_of_le_of_lt (Nat.div_le_self _ _) (by have:=HV0.out;omega)
  have HNX:=Lib.hid (show v / 256 ^ (k+1)=v / 256 ^ k / 256 by rw [Nat.pow_succ,Nat.div_div_eq_div_mul])
  have HSN:=Lib.hid (show le v (k+1)=le v k ++ [UInt8.ofNat (v / 256 ^ k)] from rfl)
  have HZ4:=Lib.hid (show k=8→v / 256 ^ k=0 from fun e=>by rw [e];exact Nat.div_eq_of_lt (by have:=HV0.out;simpa using this))
  generalize v / 256 ^ k=u at hu HNX HSN HZ4
  have HO6:=Lib.hid hown6
  have HB6:=Lib.hid hblk6
  have HWK:=Lib.hid hw
  have HST:=Lib.hid hst
  clear hown6 hblk6 hw hst
  by_cases hlt:k<8
  ·have hltI:(k:Int)<8:=by omega
   have HU:=Lib.hid hu
   clear hu
   go_wp2_with (at_builtin;refine wpList_append_S _ rfl (.tmp 23) (.tmp 27) 84 rfl 5 i0 _ 1 1 Tryz.underlying84 hi0 hz0 hz1 hz2 rfl (by omega) (.slice A6 k cap6) k (bvs (le v k)) rfl (HO6.out.alloc _) (some ⟨wr.heap.size,0,none⟩) 1 1 [.int .u8 ((u:Int) % 256)] rfl (Reads.newAt wr 5 1 1 [.int .u8 ((u:Int) % 256)] #[.int .u8 ((u:Int) % 256)] wr.heap.size rfl rfl rfl) (by simp [Value.oneCell']) (by unfold maxLen;omega) (by omega) ?_;intro v2 w2 hown hst hg hat;have HO2:=Lib.hid hown;have HS2:=Lib.hid hst;have HG2:=Lib.hid hg;have HA2:=Lib.hid hat;clear hown hst hg hat)
   go_roundw
   case rel =>
    have hbv:bvs (le v k) ++ [.int .u8 ((u:Int) % 256)]=bvs (le v (k+1)):=by
     rw [HSN.out,bvs_app]
     simp [bvs,bv]
    have hst0:=HST.out.size
    refine ⟨k+1,_,by omega,by go_num,by rw [HNX.out,IntKind.wrap_u64];have h9:=HU.out;congr 1;omega,by rw [←hbv];exact HO2.out,?_,(HWK.out.alloc _).step HS2.out (by rw [HST.out.old p HPL.out,HC.out];unfold only;omega),(HST.out.alloc _).grownNew (c+1) HG2.out HB6.out⟩
    intro g hg
    rcases HA2.out with h2 | h2
    ·exact HB6.out g (h2▸hg)
    ·rw [h2] at hg
     injection hg with hg
     simp at hg
     omega
   case measure=>simp [intOf];omega
  ·have hltI:¬(k:Int)<8:=by omega
   obtain rfl:k=8:=by omega
   obtain rfl:u=0:=HZ4.out rfl
   have hbg:wr.heap[g]? = w.heap[g]? := HST.out.block g HGL.out HOG.out
   have HCL:=Lib.hid (show ∀b,some (⟨g,0,none⟩:Addr)=some b→∀j u,(bvs bs4)[j]? = some u→wr.cell? (b.add j)=some u from fun b e j u hj=>by
    injection e with e
    subst e
    have h1:wr.cell? ((⟨g,0,none⟩:Addr).add j)=w.cell? ((⟨g,0,none⟩:Addr).add j):=World.cell?_of_block (by rw [block_of_add];exact hbg)
    exact h1.trans (HRD.out j u hj))
   obtain ⟨ax,rfl,hrx⟩:=(Reads.of_own HO6.out.1).2 (by omega)
   have HRX:=Lib.hid hrx
   have y0:wr.cell? ⟨p,0,none⟩=some (.slice (some ⟨g,0,none⟩) 4 4):=HWK.out.cell 0
   have y1:wr.cell? ⟨p,1,none⟩=some (.int .i64 0):=HWK.out.cell 1
   have f0:=HWK.out.frozen 0
   clear hbg hrx
   go_wp2_with (at_builtin;refine wpList_append_grows _ rfl (.tmp 39) (.tmp 40) 84 rfl 5 i0 _ 1 1 Tryz.underlying84 hi0 hz0 hz1 hz2 rfl (by omega) (some ⟨g,0,none⟩) 4 4 (bvs bs4) rfl (fun e=>by cases e) rfl HCL.out ax 8 cap6 (bvs (le v 8)) rfl (by rw [bvs_len,le_len]) HRX.out (bvs_one _) (by omega) (by unfold maxLen;omega) (by omega) ?_;intro v2 w2 hrow hg;obtain ⟨A2,cap2,rfl,_,_⟩:=own_form' (own_band (o:=o1) (c:=c) hrow);have hb2:Blk w2 p 177 #[.slice (some ⟨g,0,none⟩) 4 4, .int .i64 0]:=(hg.block p HWK.out.lt (by simp)).trans HWK.out;have z0:=hb2.cell 0;have z1:=hb2.frozen 0;simp at z0;have HRW:=Lib.hid hrow;have HG2:=Lib.hid hg;have HB2:=Lib.hid hb2;clear hrow hg hb2)
   first | go_end0 | refine bodyPost_ret (v := .tuple #[]) (by simp [results,Tryz.results91,go_sem]) rfl ?_
   have hs2:Step o (only c) w (band o1 wr.heap.size w2.heap.size c) w2:=HST.out.grown HG2.out (fun k e=>by cases e)
   have hcol:band o1 wr.heap.size w2.heap.size c p=c:=(hs2.old p HPL.out).trans HC.out
   have hll:(bs4++le v 8).length=4+8:=by rw [List.length_append,le_len];rfl
   have ho2:=own_band (o:=o1) (c:=c) HRW.out
   have h4:=WrAt.setB (W:=⟨bs4,0⟩) (l:=bs4++le v 8) HB2.out hcol (by decide) (by rw [hll,bvs_app];exact ho2)
   refine ⟨rfl,_,?_,hs2.setCell (p:=⟨p,0,none⟩) hcol _⟩
   rw [hll] at h4
   exact h4
theorem head_start {w w1:World} {q:Nat} {cs:Array Value} (hb:Below w.heap.size w w1) (hk:Blk w1 q 198 cs):∃o,Blk ((w1.alloc (.cells #[.int .u8 72, .int .u8 69, .int .u8 65, .int .u8 68] 5 (4,5))).alloc (.cells #[.slice (some ⟨w1.heap.size,0,none⟩) 4 4, .int .i64 0] 177)) (w1.heap.size+1) 177 #[.slice (some ⟨w1.heap.size,0,none⟩) 4 4, .int .i64 0]∧o (w1.heap.size+1)=1∧w1.heap.size<((w1.alloc (.cells #[.int .u8 72, .int .u8 69, .int .u8 65, .int .u8 68] 5 (4,5))).alloc (.cells #[.slice (some ⟨w1.heap.size,0,none⟩) 4 4, .int .i64 0] 177)).heap.size∧o w1.heap.size≠1∧(∀j u,(bvs bs4)[j]? = some u→((w1.alloc (.cells #[.int .u8 72, .int .u8 69, .int .u8 65, .int .u8 68] 5 (4,5))).alloc (.cells #[.slice (some ⟨w1.heap.size,0,none⟩) 4 4, .int .i64 0] 177)).cell? ((⟨w1.heap.size,0,none⟩:Addr).add j)=some u)∧Env o w ((w1.alloc (.cells #[.int .u8 72, .int .u8 69, .int .u8 65, .int .u8 68] 5 (4,5))).alloc (.cells #[.slice (some ⟨w1.heap.size,0,none⟩) 4 4, .int .i64 0] 177))∧Fut o ((w1.alloc (.cells #[.int .u8 72, .int .u8 69, .int .u8 65, .int .u8 68] 5 (4,5))).alloc (.cells #[.slice (some ⟨w1.heap.size,0,none⟩) 4 4, .int .i64 0] 177))∧Keep o ((w1.alloc (.cells #[.int .u8 72, .int .u8 69, .int .u8 65, .int .u8 68] 5 (4,5))).alloc (.cells #[.slice (some ⟨w1.heap.size,0,none⟩) 4 4, .int .i64 0] 177)) q 198 cs:=by
 have z1:(w1.alloc (.cells #[.int .u8 72, .int .u8 69, .int .u8 65, .int .u8 68] 5 (4,5))).heap.size=w1.heap.size+1:=by simp
 obtain ⟨o2,h2,s2⟩:=alloc_as (fun _=>0) w1 (.cells #[.int .u8 72, .int .u8 69, .int .u8 65, .int .u8 68] 5 (4,5)) 0
 obtain ⟨o3,h3,s3⟩:=alloc_as o2 (w1.alloc (.cells #[.int .u8 72, .int .u8 69, .int .u8 65, .int .u8 68] 5 (4,5))) (.cells #[.slice (some ⟨w1.heap.size,0,none⟩) 4 4, .int .i64 0] 177) 1
 have s:=s2.trans s3
 have b2:=Blk.new (w1.alloc (.cells #[.int .u8 72, .int .u8 69, .int .u8 65, .int .u8 68] 5 (4,5))) 177 #[.slice (some ⟨w1.heap.size,0,none⟩) 4 4, .int .i64 0]
 rw [z1] at h3 b2
 have c1:o3 w1.heap.size=0:=(s3.old _ (by rw [z1];omega)).trans h2
 have hg:((w1.alloc (.cells #[.int .u8 72, .int .u8 69, .int .u8 65, .int .u8 68] 5 (4,5))).alloc (.cells #[.slice (some ⟨w1.heap.size,0,none⟩) 4 4, .int .i64 0] 177)).heap[w1.heap.size]? = some (.cells #[.int .u8 72, .int .u8 69, .int .u8 65, .int .u8 68] 5 (4,5)):=(Below.heap_alloc _ _ _ (by rw [z1];omega)).trans (heap_alloc_new w1 _)
 exact ⟨o3,b2,h3,by simp;omega,by rw [c1];decide,marked_cell hg rfl,((Env.start w).below_ hb).step s id,(show Fut (fun _=>0) w1 from fun _ _=>rfl).step s,hk.step s id,s.old q hk.lt⟩
set_option maxRecDepth 100000 in
set_option maxHeartbeats 4000000 in
theorem refputhead_any (h:Hd) (w:World) (he:h.epoch<18446744073709551616) (hl:h.lsn<18446744073709551616) :
 Calls Tryz.prog 113 #[.agg #[.int .u64 h.epoch, .int .u64 h.lsn, .int .i64 h.at_]] w fun e w'=>e = .returned (.tuple #[.string h.putS, .int .i64 h.putE])∧Below w.heap.size w w':=by
 obtain ⟨ep,ls,a⟩:=h
 simp only at he hl ⊢
 have HB:=Lib.hid ((Below.refl w.heap.size w).alloc (Nat.le_refl _) (.cells #[.int .u64 ep, .int .u64 ls, .int .i64 a] 198))
 have bad:Hd.bad ⟨ep,ls,a⟩→Hd.putS ⟨ep,ls,a⟩=⟨#[]⟩∧Hd.putE ⟨ep,ls,a⟩=1:=fun h=>⟨if_pos h,if_pos h⟩
 by_cases z0:ep=0
 ·obtain ⟨e1,e2⟩:=bad (.inl z0)
  have zI:((ep:Int) == 0)=true:=by simp [z0]
  rw [e1,e2]
  clear e1 e2 bad z0 he hl
  go_enter Tryz.func113,Tryz.ntmps113
  go_wp2_with fail
  go_ret2
  exact ⟨rfl,HB.out⟩
 ·have zI:((ep:Int) == 0)=false:=by simp [z0]
  by_cases z1:ls=0
  ·obtain ⟨e1,e2⟩:=bad (.inr (.inl z1))
   have yI:((ls:Int) == 0)=true:=by simp [z1]
   rw [e1,e2]
   clear e1 e2 bad z0 z1 he hl
   go_enter Tryz.func113,Tryz.ntmps113
   go_wp2_with fail
   go_ret2
   exact ⟨rfl,HB.out⟩
  ·have yI:((ls:Int) == 0)=false:=by simp [z1]
   by_cases z2:a<0
   ·obtain ⟨e1,e2⟩:=bad (.inr (.inr (.inl z2)))
    rw [e1,e2]
    clear e1 e2 bad z0 z1 he hl
    go_enter Tryz.func113,Tryz.ntmps113
    go_wp2_with fail
    go_ret2
    exact ⟨rfl,HB.out⟩
   ·by_cases z3:256<a
    ·obtain ⟨e1,e2⟩:=bad (.inr (.inr (.inr z3)))
     rw [e1,e2]
     clear e1 e2 bad z0 z1 he hl
     go_enter Tryz.func113,Tryz.ntmps113
     go_wp2_with fail
     go_ret2
     exact ⟨rfl,HB.out⟩
    ·have hnb:¬Hd.bad ⟨ep,ls,a⟩:=by unfold Hd.bad;simp only;omega
     obtain ⟨n,rfl⟩:∃n:Nat,a=n:=⟨a.toNat,by omega⟩
     have e1:Hd.putS ⟨ep,ls,n⟩=str (headL ⟨ep,ls,n⟩):=if_neg hnb
     have e2:Hd.putE ⟨ep,ls,n⟩=0:=if_neg hnb
     rw [e1,e2]
     have hn:n≤256:=by omega
     have HNA:=Lib.hid (show numOk ep 8 from ⟨by omega,by omega,by simpa using he⟩)
     have HNB:=Lib.hid (show numOk ls 8 from ⟨by omega,by omega,by simpa using hl⟩)
     have HNC:=Lib.hid (show numOk n 4 from ⟨by omega,by omega,by simp;omega⟩)
     have HA6:=Lib.hid he
     have HB6:=Lib.hid hl
     have HC6:=Lib.hid (show n<18446744073709551616 by omega)
     have wn:=wrapu_n (v:=n) (by omega)
     have HF:=Lib.hid (show str (stampL (str (bs4++le ep 8++le ls (8:Int).toNat++le n (4:Int).toNat)).data.toList 64)=str (headL ⟨ep,ls,n⟩) by
      rw [str_list]
      have:bs4++le ep 8++le ls (8:Int).toNat++le n (4:Int).toNat=headT ⟨ep,ls,n⟩:=by
       rw [List.append_assoc,List.append_assoc]
       rfl
      rw [this]
      rfl)
     have HZ:=Lib.hid (show (str (bs4++le ep 8++le ls (8:Int).toNat++le n (4:Int).toNat)).size≤60 by rw [str_size];simp [le_len,bs4])
     have HL1:=Lib.hid (show (bs4++le ep 8).length≤1000000000 by simp [le_len,bs4])
     have HL2:=Lib.hid (show (bs4++le ep 8++le ls (8:Int).toNat).length≤1000000000 by simp [le_len,bs4])
     have z3I:¬(256:Int)<(n:Int):=z3
     have hblk:=Blk.new w 198 #[.int .u64 (ep:Int), .int .u64 (ls:Int), .int .i64 (n:Int)]
     obtain ⟨o0,hwb,hwc,hgl,hog,hrd,henv,hfut,hk⟩:=head_start HB.out hblk
     have hsz:(w.alloc (.cells #[.int .u64 (ep:Int), .int .u64 (ls:Int), .int .i64 (n:Int)] 198)).heap.size=w.heap.size+1:=by simp
     rw [hsz] at hwb hwc hgl hog hrd henv hfut hk
     have HF1:=Lib.hid (xnum_head hwb hwc hgl hog hrd ep HA6.out)
     have HEN:=Lib.hid henv
     have HFU:=Lib.hid hfut
     have HK0:=Lib.hid hk
     clear e1 e2 bad z0 z1 z2 z3 he hl hnb hwb hwc hgl hog hrd henv hfut hk hblk HB
     have kc:=Lib.run_convert_bytes_const (P:=Tryz.prog) (w.alloc (.cells #[.int .u64 (ep:Int), .int .u64 (ls:Int), .int .i64 (n:Int)] 198)) 84 5 #[.int .u8 72, .int .u8 69, .int .u8 65, .int .u8 68] 4 4 Tryz.underlying84 Tryz.underlying5
     rw [hsz] at kc
     clear hsz
     go_enter Tryz.func113,Tryz.ntmps113
     go_upto_region 4 with (fail)
     clear kc
     generalize (w.alloc (.cells #[.int .u64 (ep:Int), .int .u64 (ls:Int), .int .i64 (n:Int)] 198))=w1 at HF1 HEN HFU HK0 ⊢
     generalize ((w1.alloc (.cells #[.int .u8 72, .int .u8 69, .int .u8 65, .int .u8 68] 5 (4,5))).alloc (.cells #[.slice (some ⟨w.heap.size+1,0,none⟩) 4 4, .int .i64 0] 177))=W0 at HF1 HEN HFU HK0 ⊢
     generalize w.heap.size+1+1=p at HF1 ⊢
     generalize w.heap.size=q at HK0 ⊢
     obtain ⟨x0,x1,x2⟩:=HK0.out.1.three
     go_wp2_with fail
     refine HF1.out.mono ?_
     rintro e w2 ⟨rfl,o1,hx,hs⟩
     have HX1:=Lib.hid (show Xg o1 w w2 p (bs4++le ep 8) from ⟨hx,HEN.out.step hs no10,HFU.out.step hs⟩)
     have HK1:=Lib.hid (HK0.out.step hs no10)
     clear hx hs x0 x1 x2
     obtain ⟨x0,x1,x2⟩:=HK1.out.1.three
     go_wp2_with fail
     refine (xnum_ok HX1.out ls 8 HNB.out HB6.out HL1.out).mono ?_
     rintro e w3 ⟨rfl,o2,hx,hs⟩
     have HX2:=Lib.hid hx
     have HK2:=Lib.hid (HK1.out.step hs no10)
     clear hx hs x0 x1 x2
     obtain ⟨x0,x1,x2⟩:=HK2.out.1.three
     go_wp2_with fail
     refine (xnum_ok HX2.out n 4 HNC.out HC6.out HL2.out).mono ?_
     rintro e w4 ⟨rfl,o3,hx,hs⟩
     have HX3:=Lib.hid hx
     clear hx hs x0 x1 x2
     obtain ⟨A,cap,c0,hcv⟩:=HX3.out.conv
     have HEL:=Lib.hid HX3.out.env.low
     clear HX1 HX2 HX3
     generalize (bs4++le ep 8++le ls (8:Int).toNat++le n (4:Int).toNat).length=L at c0 hcv
     generalize str (bs4++le ep 8++le ls (8:Int).toNat++le n (4:Int).toNat)=Q at hcv HZ HF
     go_wp2_with fail
     refine (xstamp_any Q HZ.out w4).mono ?_
     rintro e w5 ⟨rfl,hb5⟩
     rw [HF.out]
     have HB5:=Lib.hid (HEL.out.trans (hb5.mono HEL.out.size))
     clear hb5
     go_wp2_with fail
     go_ret2
     exact ⟨rfl,HB5.out⟩
set_option maxHeartbeats 400000 in
theorem edrop_zero {o:Nat→Nat} {c:Nat} {w:World} {r:Nat} {most:Int} {l:List En} (h:EringAt o c w r most l) :
 Calls Tryz.prog 129 #[.pointer (some ⟨r,0,none⟩), .int .i64 0] w fun e w'=>e = .returned (.int .i64 0)∧w=w':=by
 have HR:=Lib.hid h
 clear h
 go_enter Tryz.func129,Tryz.ntmps129
 go_wp2_with (go_at_call 130;refine (elen_any HR.out).mono ?_;rintro e w' ⟨rfl,rfl⟩)
 all_goals go_ret
 all_goals exact ⟨by simp <;> omega,rfl⟩
theorem encells_drop : ∀(l:List En) (k:Nat),encells (l.drop k)=(encells l).drop (k*5)
 | l,0=>by simp
 | [],k+1=>by simp [encells]
 | y :: l,k+1=>by
   rw [show (k+1)*5=k*5+1+1+1+1+1 from by omega]
   simp only [List.drop_succ_cons,encells_cons]
   exact encells_drop l k
set_option maxRecDepth 100000 in
set_option maxHeartbeats 400000 in
theorem edrop_some {o:Nat→Nat} {c:Nat} {w:World} {r:Nat} {most:Int} {l:List En} (h:EringAt o c w r most l) (hm:l.length≤100000) (k:Nat) (hk:0<k) (hk2:k≤l.length) :
 Calls Tryz.prog 129 #[.pointer (some ⟨r,0,none⟩), .int .i64 k] w fun e w'=>e = .returned (.int .i64 k)∧∃o',EringAt o' c w' r most (l.drop k)∧Step o (only c) w o' w':=by
 have HR:=Lib.hid h
 obtain ⟨A0,cap0,h0,h1,hfz,hc1,hc2,HB,HV,HO,HNE⟩:=h.open_
 clear h
 obtain ⟨i0,hi,hz0,hz1,hz2⟩:=info_parts info_en
 have hrl:=HB.out.lt
 have hkI:(0:Int)<(k:Int):=by omega
 have hkI2:(k:Int)≤(l.length:Int):=by omega
 have hcapI:(k:Int)≤(cap0:Int):=by omega
 have hmax:(cap0:Int)≤9223372036854775807:=by omega
 have hmin:min (k:Int) (l.length:Int)=k:=by omega
 have hmx:max (k:Int) 0=k:=by omega
 go_enter Tryz.func129,Tryz.ntmps129
 go_wp2_with (first | (go_at_call 130;refine (elen_any HR.out).mono ?_;rintro e w' ⟨rfl,rfl⟩) | (at_builtin;refine wpList_append_S _ rfl (.const (.slice none 0 0)) (.tmp 18) 193 rfl 126 i0 _ 5 48 Tryz.underlying193 hi hz0 hz1 hz2 rfl (by omega) (.slice none 0 0) 0 [] rfl (OwnS.nil o c _ _ _) _ (l.length - k) (cap0 - k) ((encells l).drop (k*5)) rfl (Reads.cut (Reads.of_own HV.out.1) hk2 hc1) (fun u hu=>encells_one l u (List.mem_of_mem_drop hu)) (by unfold maxLen;omega) (by omega) ?_;intro v' w1 hown hk' hg hat;have hbl:Below w.heap.size w w1:=⟨hg.os,hg.tape,hg.output,hg.size,fun k hk=>hg.block k hk (by simp [Value.ownBlock])⟩;simp only [Nat.zero_add,List.nil_append] at hown;obtain ⟨A1,cap1,rfl,_,_⟩:=own_form_e hown;have HOWN:=Lib.hid hown;have HBL:=Lib.hid hbl;have HB1:=Lib.hid (HB.out.below_ hbl);have k0:=HB1.out.cell 0;have k1:=HB1.out.frozen 0;simp at k0 k1;clear hown hk' hg hat hbl))
 all_goals
  go_ret
  have hor:(band o w.heap.size w1.heap.size c) r=c:=(band_lt HB.out.lt).trans HO.out
  refine ⟨rfl,_,⟨_,HB1.out.set_ 0 _,hor,?_⟩,(Step.of_below_band o (only c) c HBL.out).setCell (p:=⟨r,0,none⟩) hor _⟩
  rw [encells_drop,List.length_drop]
  exact HOWN.out.setCell (p:=⟨r,0,none⟩) (own_blk_ne HOWN.out HB1.out (by decide)) _
theorem edrop_any {o:Nat→Nat} {c:Nat} {w:World} {r:Nat} {most:Int} {l:List En} (h:EringAt o c w r most l) (hm:l.length≤100000) (k:Nat) (hk2:k≤l.length) :
 Calls Tryz.prog 129 #[.pointer (some ⟨r,0,none⟩), .int .i64 k] w fun e w'=>e = .returned (.int .i64 k)∧∃o',EringAt o' c w' r most (l.drop k)∧Step o (only c) w o' w':=by
 by_cases hk:0<k
 ·exact edrop_some h hm k hk hk2
 ·obtain rfl:k=0:=by omega
  refine (edrop_zero h).mono ?_
  rintro e w' ⟨rfl,rfl⟩
  exact ⟨rfl,o,h,Step.refl _ _ _⟩
def Lg.left (g:Lg) (b:Nat):List En:=g.live.dropWhile (fun x:En=>decide (x.lsn<b))
def Lg.leftAt (g:Lg) (b:Nat):Nat:=match g.left b with
 | []=>g.at_
 | x :: _=>x.at_
def Lg.freed (g:Lg) (b:Nat):Lg := {g with live:=g.left b,first:=b,synced:=max g.synced g.written}
def freeR (D:Dk) (g:Lg) (b:Nat):LgR :=
 if g.mayE≠0 then ⟨0,g.mayE,D,g⟩ else if g.synced+1<b then ⟨0,1,D,g⟩ else if b≤g.first then ⟨0,0,D,g⟩
 else if (D.lhead g ⟨g.epoch,b,(g.leftAt b:Int)⟩).1≠0 then ⟨0,(D.lhead g ⟨g.epoch,b,(g.leftAt b:Int)⟩).1,(D.lhead g ⟨g.epoch,b,(g.leftAt b:Int)⟩).2,g.failG (D.lhead g ⟨g.epoch,b,(g.leftAt b:Int)⟩).1⟩
 else ⟨0,0,(D.lhead g ⟨g.epoch,b,(g.leftAt b:Int)⟩).2,g.freed b⟩
section
variable {o:Nat→Nat} {c cd p q k:Nat} {w:World} {g:Lg} {D:Dk}
theorem drop_while_len (f:En→Bool):∀l:List En,l.drop (l.length - (l.dropWhile f).length)=l.dropWhile f∧(l.dropWhile f).length≤l.length
 | []=>by simp
 | x :: l=>by
   obtain ⟨h1,h2⟩:=drop_while_len f l
   by_cases hx:f x=true
   ·rw [List.dropWhile_cons_of_pos hx]
    refine ⟨?_,by simp;omega⟩
    rw [List.length_cons,show l.length+1 - (l.dropWhile f).length=(l.length - (l.dropWhile f).length)+1 by omega]
    exact h1
   ·rw [List.dropWhile_cons_of_neg hx]
    simp
def lenOf : Value→Nat
 | .slice _ n _=>n
 | _=>0
theorem Reads.entail2 {w:World} {ad:Addr} {x:En} {l:List En} {cap:Nat} (h:Reads w 5 (some ad) (x :: l).length (encells (x :: l))) (hc:l.length+1≤cap) :
 Reads w 5 (if cap=1 then some ad else some ⟨ad.block,ad.off+5,none⟩) l.length (encells l):=by
 have h1:=h.cut (k:=1) (cap:=cap) (by simp) hc
 have e:ad.add (1*5)=⟨ad.block,ad.off+5,none⟩:=by unfold Addr.add;simp
 rw [show (some ad).map (·.add (1*5))=some (ad.add (1*5)) from rfl,e] at h1
 exact h1
theorem edrop_w {o:Nat→Nat} {c:Nat} {w:World} {r:Nat} {most:Int} {l:List En} (h:EringAt o c w r most l) (hm:l.length≤100000) (n:Nat) (hn:n≤l.length) (hw:IntKind.i64.wrap ((l.length:Int) - (n:Int))=(l.length:Int) - (n:Int)) :
 Calls Tryz.prog 129 #[.pointer (some ⟨r,0,none⟩), .int .i64 ((l.length:Int) - (n:Int))] w fun e w'=>e = .returned (.int .i64 ((l.length:Int) - (n:Int)))∧∃o',EringAt o' c w' r most (l.drop (l.length - n))∧Step o (only c) w o' w':=by
 have h1:=edrop_any h hm (l.length - n) (by omega)
 rw [show ((l.length - n:Nat):Int)=(l.length:Int) - (n:Int) by omega] at h1
 exact h1
set_option maxRecDepth 100000 in
set_option maxHeartbeats 8000000 in
theorem gfree_any (h:LogAt o c w q g p) (hd:DiskAt o cd w p D) (ht:Tame D k) (hk:k≤600000) (hcd:1≤cd) (hc:cd+5<c) (hep:g.epoch<18446744073709551616) (hl:g.live.length≤1000) (hsy:g.synced≤1000000) (b:Nat) (hb:b<18446744073709551616) :
 Calls Tryz.prog 64 #[.pointer (some ⟨q,0,none⟩), .int .u64 b] w fun e w'=>e = .returned (.int .i64 (freeR D g b).e)∧∃o',DiskAt o' cd w' p (freeR D g b).D∧LogAt o' c w' q (freeR D g b).g p∧Tame (freeR D g b).D (k+1)∧Step o (logC cd c) w o' w':=by
 have H:=Lib.hid h
 have HD:=Lib.hid hd
 have HT:=Lib.hid ht
 have HN1:=Lib.hid (show ¬six cd c by unfold six;omega)
 have HN2:=Lib.hid (show ¬six cd (c+1) by unfold six;omega)
 have HCX:=Lib.hid hc
 have HK:=Lib.hid hk
 have HCD:=Lib.hid hcd
 have HEP:=Lib.hid hep
 have HL:=Lib.hid hl
 have HBB:=Lib.hid hb
 have HFE:=Lib.hid (show freeR D g b=if g.mayE≠0 then ⟨0,g.mayE,D,g⟩ else if g.synced+1<b then ⟨0,1,D,g⟩ else if b≤g.first then ⟨0,0,D,g⟩
  else if (D.lhead g ⟨g.epoch,b,(g.leftAt b:Int)⟩).1≠0 then ⟨0,(D.lhead g ⟨g.epoch,b,(g.leftAt b:Int)⟩).1,(D.lhead g ⟨g.epoch,b,(g.leftAt b:Int)⟩).2,g.failG (D.lhead g ⟨g.epoch,b,(g.leftAt b:Int)⟩).1⟩
  else ⟨0,0,(D.lhead g ⟨g.epoch,b,(g.leftAt b:Int)⟩).2,g.freed b⟩ from rfl)
 generalize freeR D g b=R at HFE ⊢
 obtain ⟨M,hM⟩:∃M,g.mayE=M:=⟨_,rfl⟩
 rw [hM] at HFE
 have HMM:=Lib.hid hM
 obtain ⟨r,hb',hc',hr⟩:=h
 have x13:w.cell? ⟨q,13,none⟩=some (.int .u64 g.synced):=hb'.cell 13
 have x10:w.cell? ⟨q,10,none⟩=some (.int .u64 g.first):=hb'.cell 10
 have HB:=Lib.hid hb'
 have HC:=Lib.hid hc'
 have HR:=Lib.hid hr
 have hw1:IntKind.u64.wrap ((g.synced:Int)+1)=(g.synced:Int)+1:=by rw [IntWalk.u64_in _ (by omega)]
 clear hd ht hk hcd hc hep hl hb hM hb' hc' hr hsy
 by_cases h0:M=0
 ·subst h0
  by_cases h1:g.synced+1<b
  ·have HR2:=Lib.hid (show R=⟨0,1,D,g⟩ by rw [HFE.out];simp [h1])
   have h1I:(g.synced:Int)+1<(b:Int):=by omega
   clear HFE h1
   go_enter Tryz.func64,Tryz.ntmps64
   go_wp2_with fail
   refine (gmay_any H.out).mono ?_
   rintro e w1 ⟨rfl,rfl⟩
   rw [HMM.out]
   go_wp2_with fail
   go_ret
   exact ⟨by rw [HR2.out];rfl,o,by rw [HR2.out];exact HD.out,by rw [HR2.out];exact H.out,by rw [HR2.out];exact HT.out.mono (by omega),Step.refl _ _ _⟩
  ·have h1I:¬(g.synced:Int)+1<(b:Int):=by omega
   by_cases h2:b≤g.first
   ·have HR2:=Lib.hid (show R=⟨0,0,D,g⟩ by rw [HFE.out];simp [h1,h2])
    have h2I:(b:Int)≤(g.first:Int):=by omega
    clear HFE h1 h2
    go_enter Tryz.func64,Tryz.ntmps64
    go_wp2_with fail
    refine (gmay_any H.out).mono ?_
    rintro e w1 ⟨rfl,rfl⟩
    rw [HMM.out]
    go_wp2_with fail
    go_ret
    exact ⟨by rw [HR2.out];rfl,o,by rw [HR2.out];exact HD.out,by rw [HR2.out];exact H.out,by rw [HR2.out];exact HT.out.mono (by omega),Step.refl _ _ _⟩
   ·have HR2:=Lib.hid (show R=if (D.lhead g ⟨g.epoch,b,(g.leftAt b:Int)⟩).1≠0 then ⟨0,(D.lhead g ⟨g.epoch,b,(g.leftAt b:Int)⟩).1,(D.lhead g ⟨g.epoch,b,(g.leftAt b:Int)⟩).2,g.failG (D.lhead g ⟨g.epoch,b,(g.leftAt b:Int)⟩).1⟩ else ⟨0,0,(D.lhead g ⟨g.epoch,b,(g.leftAt b:Int)⟩).2,g.freed b⟩ by rw [HFE.out];simp [h1,h2])
    have h2I:¬(b:Int)≤(g.first:Int):=by omega
    clear HFE h1 h2
    go_enter Tryz.func64,Tryz.ntmps64
    go_wp2_with fail
    refine (gmay_any H.out).mono ?_
    rintro e w1 ⟨rfl,rfl⟩
    rw [HMM.out]
    go_upto_region 8 with (fail)
    have z2:w.drew.cell? ⟨q,14,none⟩=some (.pointer (some ⟨r,0,none⟩))∧w.drew.cell? ⟨q,11,none⟩=some (.int .i64 g.at_):=⟨HB.out.cell 14,HB.out.cell 11⟩
    go_region_held3 (fun w'=>w'.cell? ⟨q,14,none⟩=some (.pointer (some ⟨r,0,none⟩))∧w'.cell? ⟨q,11,none⟩=some (.int .i64 g.at_))
     (first | exact z2 | exact ⟨hbb.cell 14,hbb.cell 11⟩ | go_keep)
     (first | (go_at_call 125;((with_reducible refine (elist_any 0 HR.out.drew (by have:=HL.out;omega)).mono ?_);rintro e2 w2 ⟨A,cap,rfl,hv2,hb2⟩;have hbb:=HB.out.drew.below_ hb2)))
    have HB2:=Lib.hid hbb
    have HD2:=Lib.hid ((HD.out.drewN 1).below_ hb2)
    have H2:=Lib.hid (H.out.drew.below_ hb2)
    have HS2:=Lib.hid ((Step.of_below o (logC cd c) hb2).of_drew)
    obtain ⟨A0,cap0,e0,hcn,hcm⟩:=own_form_e hv2
    injection e0 with e1 e2 e3
    subst e1
    subst e3
    have HV2:=Lib.hid (Reads.of_own hv2.1)
    have HCN:=Lib.hid hcn
    have HCM:=Lib.hid hcm
    clear hbb hb2 hv2 e2 hcn hcm z2 x13 x10 HB HC HR
    go_wp2_with fail
    go_loopw [6] (fun t6 wr=>∃(l:List En) (A':Option Addr) (cap':Nat),wr=w2∧t6 = .slice A' l.length cap'∧l.length≤cap'∧cap'≤maxLen∧l.length≤g.live.length∧Reads w2 5 A' l.length (encells l)∧g.left b=l.dropWhile (fun x:En=>decide (x.lsn<b))) (fun t6 _=>lenOf t6)
    case atStart=>exact ⟨g.live,A,cap,rfl,rfl,HCN.out,HCM.out,by omega,HV2.out,rfl⟩
    case round =>
     obtain ⟨l,A',cap',rfl,rfl,hcn,hcm,hll,hrd,hlf⟩:=hrel
     have hcmI:(cap':Int)≤9223372036854775807:=by unfold maxLen at hcm;omega
     have hcnI:(l.length:Int)≤(cap':Int):=by omega
     have HRD:=Lib.hid hrd
     have HLF:=Lib.hid hlf
     have HCM2:=Lib.hid hcm
     clear hrd hlf hcm
     cases l with
     | nil =>
       have HLE:=Lib.hid (show g.left b = [] by rw [HLF.out];rfl)
       obtain ⟨atv,hatv⟩:∃n:Nat,n=g.at_:=⟨_,rfl⟩
       have HAT:=Lib.hid (show g.leftAt b=atv by unfold Lg.leftAt;rw [HLE.out,hatv])
       have hatI:(g.at_:Int)=(atv:Int):=by rw [hatv]
       obtain ⟨n,hn⟩:∃n:Nat,([]:List En).length=n:=⟨_,rfl⟩
       have HNL:=Lib.hid (show (g.left b).length=n by rw [HLE.out,hn])
       rw [hn] at hcn hcnI hll ⊢
       have hnz:¬(0:Int)<(n:Int):=by simp at hn;omega
       have hn:=Lib.hid hn
       go_upto_region 13 with (fail)
       clear hatI hatv hn hcn hcnI hnz
       clear HRD HLF HCM2
       have HAB:Hid (n≤g.live.length):=Lib.hid hll
       have hnI:(n:Int)≤(g.live.length:Int):=by omega
       have hLI:(g.live.length:Int)≤1000:=by have:=HL.out;omega
       have hwd:IntKind.i64.wrap ((g.live.length:Int) - (n:Int))=(g.live.length:Int) - (n:Int):=by rw [IntWalk.i64_in _ (by omega)]
       have HH:=Lib.hid (ghead_any H2.out HD2.out HT.out (by have:=HK.out;omega) HCD.out HCX.out HEP.out b HBB.out (atv:Int))
       rw [HAT.out] at HR2
       go_wp2_with fail
       refine HH.out.mono ?_
       rintro e w3 ⟨rfl,o3,hd3,hs3⟩
       have HD3:=Lib.hid hd3
       have HS3:=Lib.hid (HS2.out.trans (hs3.mono (logC_six cd c)))
       have H3:=Lib.hid (H2.out.step hs3 HN1.out HN2.out)
       have HT3:=Lib.hid (HT.out.lhead g ⟨g.epoch,b,(atv:Int)⟩)
       clear hd3 hs3 HH
       obtain ⟨F,hF⟩:∃F,D.lhead g ⟨g.epoch,b,(atv:Int)⟩=F:=⟨_,rfl⟩
       rw [hF] at HR2 HD3 HT3 ⊢
       obtain ⟨F,D3⟩:=F
       simp only at HD3 HT3 HR2 ⊢
       clear hF
       by_cases hF0:F=0
       ·subst hF0
        have HR4:=Lib.hid (show R=⟨0,0,D3,g.freed b⟩ by rw [HR2.out];simp)
        clear HR2
        obtain ⟨r3,HB3,HC3,HR3,v14,_⟩:=H3.out.out_
        go_upto_region 16 with (fail)
        have z14:w3.drew.cell? ⟨q,14,none⟩=some (.pointer (some ⟨r3,0,none⟩)):=v14
        have HDR:=Lib.hid (edrop_w HR3.out.drew (by have:=HL.out;omega) n HAB.out hwd)
        clear v14
        go_region_held3 (fun w'=>w'.cell? ⟨q,14,none⟩=some (.pointer (some ⟨r3,0,none⟩)))
         (first | exact z14 | exact hb5.cell 14 | go_keep)
         (first | (go_at_call 130;((with_reducible refine (elen_any HR3.out.drew).mono ?_);rintro e4 w4 ⟨rfl,rfl⟩)) | (go_at_call 129;((with_reducible refine HDR.out.mono ?_);rintro e5 w5 ⟨rfl,o5,hr5,hs5⟩;have hb5:=HB3.out.drew.step hs5 (by rw [HC3.out];unfold only;omega))))
        have hc5:o5 q=c:=(hs5.old q HB3.out.lt).trans HC3.out
        have hle:g.live.drop (g.live.length - n)=g.left b:=by rw [←HNL.out];exact (drop_while_len _ g.live).1
        rw [hle] at hr5
        have HB5:=Lib.hid hb5
        have HR5:=Lib.hid hr5
        have HC5:=Lib.hid hc5
        have HS5:=Lib.hid (HS3.out.trans (hs5.of_drew.mono (logC_ring cd c)))
        have HD5:=Lib.hid (HD3.out.step hs5.of_drew (by have:=HCX.out;unfold only;omega))
        have x10:w5.cell? ⟨q,10,none⟩=some (.int .u64 g.first):=hb5.cell 10
        have x12:w5.cell? ⟨q,12,none⟩=some (.int .u64 g.written):=hb5.cell 12
        have x13:w5.cell? ⟨q,13,none⟩=some (.int .u64 g.synced):=hb5.cell 13
        have f10:=hb5.frozen 10
        have f13:=hb5.frozen 13
        have HMX:=Lib.hid (show ((max g.synced g.written:Nat):Int)=max (g.synced:Int) (g.written:Int) by omega)
        clear hc5 hle hr5 hb5 hs5 z14
        go_upto_region 17 with (fail)
        go_region
        go_wp2_with fail
        go_ret
        rw [←HMX.out]
        have S6:=((Step.refl o5 (only c) w5).setCell (p:=⟨q,10,none⟩) HC5.out (.int .u64 (b:Int))).setCell (p:=⟨q,13,none⟩) HC5.out (.int .u64 ((max g.synced g.written:Nat):Int))
        have H6:LogAt o5 c ((w5.setCell ⟨q,10,none⟩ (.int .u64 (b:Int))).setCell ⟨q,13,none⟩ (.int .u64 ((max g.synced g.written:Nat):Int))) q (g.freed b) p:=⟨r3,(HB5.out.set_ 10 (.int .u64 (b:Int))).set_ 13 (.int .u64 ((max g.synced g.written:Nat):Int)),HC5.out,HR5.out.step S6 (by unfold only;omega)⟩
        exact ⟨by rw [HR4.out];rfl,o5,by rw [HR4.out];exact (HD5.out.step S6 (by have:=HCX.out;unfold only;omega)).drewN 1,by rw [HR4.out];exact H6.drew,by rw [HR4.out];exact HT3.out,(HS5.out.trans (S6.mono (logC_log cd c))).drewN 1⟩
       ·have t1:(F != 0)=true:=bne_iff_ne.2 hF0
        have HR4:=Lib.hid (show R=⟨0,F,D3,g.failG F⟩ by rw [HR2.out,if_pos hF0])
        clear HR2 hF0
        go_wp2_with fail
        refine (gfail_any H3.out F).mono ?_
        rintro e w4 ⟨rfl,hl4,hs4⟩
        have HL4:=Lib.hid hl4
        have HS4:=Lib.hid (HS3.out.trans (hs4.mono (logC_log cd c)))
        have HD4:=Lib.hid (HD3.out.step hs4 (by have:=HCX.out;unfold only;omega))
        clear hl4 hs4
        go_wp2_with fail
        go_ret
        exact ⟨by rw [HR4.out];rfl,o3,by rw [HR4.out];exact HD4.out,by rw [HR4.out];exact HL4.out,by rw [HR4.out];exact HT3.out,HS4.out⟩
     | cons x l =>
       obtain ⟨ad,rfl,y0,y1,_,_,_⟩:=Reads.enrow (k:=0) HRD.out rfl
       have ez:ad.add (0*5)=ad:=by unfold Addr.add;split <;> simp_all
       rw [ez] at y0 y1
       have hpos:(0:Int)<(l.length:Int)+1:=by omega
       simp only [List.length_cons] at hcn hcnI hll
       by_cases hlt:x.lsn<b
       ·have hltI:(x.lsn:Int)<(b:Int):=by omega
        have HLT:=Lib.hid hlt
        clear ez hlt
        go_wp2_with fail
        go_roundw
        case rel =>
         refine ⟨l,_,cap' - 1,trivial,rfl,by omega,by have:=HCM2.out;omega,by omega,?_,?_⟩
         ·exact HRD.out.entail2 hcn
         ·rw [HLF.out,List.dropWhile_cons_of_pos (by simpa using HLT.out)]
        case measure=>simp [lenOf]
       ·have hltI:¬(x.lsn:Int)<(b:Int):=by omega
        have HLE:=Lib.hid (show g.left b=x :: l by rw [HLF.out,List.dropWhile_cons_of_neg (by simpa using hlt)])
        have HAT:=Lib.hid (show g.leftAt b=x.at_ by unfold Lg.leftAt;rw [HLE.out])
        have HNL:=Lib.hid (show (g.left b).length=l.length+1 by rw [HLE.out];rfl)
        clear ez hlt
        go_upto_region 13 with (fail)
        obtain ⟨atv,hatv⟩:∃n:Nat,x.at_=n:=⟨_,rfl⟩
        rw [hatv] at HAT ⊢
        rw [List.length_cons]
        obtain ⟨n,hn⟩:∃n:Nat,l.length+1=n:=⟨_,rfl⟩
        rw [hn] at HNL hll ⊢
        clear hatv hn hpos hcn hcnI y0 y1 hltI
        clear HRD HLF HCM2
        have HAB:Hid (n≤g.live.length):=Lib.hid hll
        have hnI:(n:Int)≤(g.live.length:Int):=by omega
        have hLI:(g.live.length:Int)≤1000:=by have:=HL.out;omega
        have hwd:IntKind.i64.wrap ((g.live.length:Int) - (n:Int))=(g.live.length:Int) - (n:Int):=by rw [IntWalk.i64_in _ (by omega)]
        have HH:=Lib.hid (ghead_any H2.out HD2.out HT.out (by have:=HK.out;omega) HCD.out HCX.out HEP.out b HBB.out (atv:Int))
        rw [HAT.out] at HR2
        go_wp2_with fail
        refine HH.out.mono ?_
        rintro e w3 ⟨rfl,o3,hd3,hs3⟩
        have HD3:=Lib.hid hd3
        have HS3:=Lib.hid (HS2.out.trans (hs3.mono (logC_six cd c)))
        have H3:=Lib.hid (H2.out.step hs3 HN1.out HN2.out)
        have HT3:=Lib.hid (HT.out.lhead g ⟨g.epoch,b,(atv:Int)⟩)
        clear hd3 hs3 HH
        obtain ⟨F,hF⟩:∃F,D.lhead g ⟨g.epoch,b,(atv:Int)⟩=F:=⟨_,rfl⟩
        rw [hF] at HR2 HD3 HT3 ⊢
        obtain ⟨F,D3⟩:=F
        simp only at HD3 HT3 HR2 ⊢
        clear hF
        by_cases hF0:F=0
        ·subst hF0
         have HR4:=Lib.hid (show R=⟨0,0,D3,g.freed b⟩ by rw [HR2.out];simp)
         clear HR2
         obtain ⟨r3,HB3,HC3,HR3,v14,_⟩:=H3.out.out_
         go_upto_region 16 with (fail)
         have z14:w3.drew.cell? ⟨q,14,none⟩=some (.pointer (some ⟨r3,0,none⟩)):=v14
         have HDR:=Lib.hid (edrop_w HR3.out.drew (by have:=HL.out;omega) n HAB.out hwd)
         clear v14
         go_region_held3 (fun w'=>w'.cell? ⟨q,14,none⟩=some (.pointer (some ⟨r3,0,none⟩)))
          (first | exact z14 | exact hb5.cell 14 | go_keep)
          (first | (go_at_call 130;((with_reducible refine (elen_any HR3.out.drew).mono ?_);rintro e4 w4 ⟨rfl,rfl⟩)) | (go_at_call 129;((with_reducible refine HDR.out.mono ?_);rintro e5 w5 ⟨rfl,o5,hr5,hs5⟩;have hb5:=HB3.out.drew.step hs5 (by rw [HC3.out];unfold only;omega))))
         have hc5:o5 q=c:=(hs5.old q HB3.out.lt).trans HC3.out
         have hle:g.live.drop (g.live.length - n)=g.left b:=by rw [←HNL.out];exact (drop_while_len _ g.live).1
         rw [hle] at hr5
         have HB5:=Lib.hid hb5
         have HR5:=Lib.hid hr5
         have HC5:=Lib.hid hc5
         have HS5:=Lib.hid (HS3.out.trans (hs5.of_drew.mono (logC_ring cd c)))
         have HD5:=Lib.hid (HD3.out.step hs5.of_drew (by have:=HCX.out;unfold only;omega))
         have x10:w5.cell? ⟨q,10,none⟩=some (.int .u64 g.first):=hb5.cell 10
         have x12:w5.cell? ⟨q,12,none⟩=some (.int .u64 g.written):=hb5.cell 12
         have x13:w5.cell? ⟨q,13,none⟩=some (.int .u64 g.synced):=hb5.cell 13
         have f10:=hb5.frozen 10
         have f13:=hb5.frozen 13
         have HMX:=Lib.hid (show ((max g.synced g.written:Nat):Int)=max (g.synced:Int) (g.written:Int) by omega)
         clear hc5 hle hr5 hb5 hs5 z14
         go_upto_region 17 with (fail)
         go_region
         go_wp2_with fail
         go_ret
         rw [←HMX.out]
         have S6:=((Step.refl o5 (only c) w5).setCell (p:=⟨q,10,none⟩) HC5.out (.int .u64 (b:Int))).setCell (p:=⟨q,13,none⟩) HC5.out (.int .u64 ((max g.synced g.written:Nat):Int))
         have H6:LogAt o5 c ((w5.setCell ⟨q,10,none⟩ (.int .u64 (b:Int))).setCell ⟨q,13,none⟩ (.int .u64 ((max g.synced g.written:Nat):Int))) q (g.freed b) p:=⟨r3,(HB5.out.set_ 10 (.int .u64 (b:Int))).set_ 13 (.int .u64 ((max g.synced g.written:Nat):Int)),HC5.out,HR5.out.step S6 (by unfold only;omega)⟩
         exact ⟨by rw [HR4.out];rfl,o5,by rw [HR4.out];exact (HD5.out.step S6 (by have:=HCX.out;unfold only;omega)).drewN 1,by rw [HR4.out];exact H6.drew,by rw [HR4.out];exact HT3.out,(HS5.out.trans (S6.mono (logC_log cd c))).drewN 1⟩
        ·have t1:(F != 0)=true:=bne_iff_ne.2 hF0
         have HR4:=Lib.hid (show R=⟨0,F,D3,g.failG F⟩ by rw [HR2.out,if_pos hF0])
         clear HR2 hF0
         go_wp2_with fail
         refine (gfail_any H3.out F).mono ?_
         rintro e w4 ⟨rfl,hl4,hs4⟩
         have HL4:=Lib.hid hl4
         have HS4:=Lib.hid (HS3.out.trans (hs4.mono (logC_log cd c)))
         have HD4:=Lib.hid (HD3.out.step hs4 (by have:=HCX.out;unfold only;omega))
         clear hl4 hs4
         go_wp2_with fail
         go_ret
         exact ⟨by rw [HR4.out];rfl,o3,by rw [HR4.out];exact HD4.out,by rw [HR4.out];exact HL4.out,by rw [HR4.out];exact HT3.out,HS4.out⟩
 ·have HR2:=Lib.hid (show R=⟨0,M,D,g⟩ by rw [HFE.out,if_pos h0])
  have t1:(M != 0)=true:=bne_iff_ne.2 h0
  clear HFE h0
  go_enter Tryz.func64,Tryz.ntmps64
  go_wp2_with fail
  refine (gmay_any H.out).mono ?_
  rintro e w1 ⟨rfl,rfl⟩
  rw [HMM.out]
  go_wp2_with fail
  go_ret
  exact ⟨by rw [HR2.out];rfl,o,by rw [HR2.out];exact HD.out,by rw [HR2.out];exact H.out,by rw [HR2.out];exact HT.out.mono (by omega),Step.refl _ _ _⟩
end
end Go.Proofs.YtldoeodkeieejaaGreatDoor
