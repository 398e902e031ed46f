import Derived.Test.YtldoeodkeieejaaGreatDoorKBlkB
import Derived.Test.YtldoeodkeieejaaGreatDoorKShelf
import Derived.Test.YtldoeodkeieejaaGreatDoorKSumA
namespace Go.Proofs.YtldoeodkeieejaaGreatDoor
open Go.RowKit
def preB (i:Im):Nat→List UInt8
 | 0 => []
 | k+1=>preB i k++secL i k
theorem preB_two (i:Im):preB i 2=blkL i:=by simp [preB,blkL]
theorem preB_len {i:Im} (h:i.right):∀k,k≤2→(preB i k).length=k*64
 | 0,_=>rfl
 | k+1,hk=>by
   have ih:=preB_len h k (by omega)
   show (preB i k++secL i k).length=_
   rw [List.length_append,ih,secL_len h (by omega)]
   omega
set_option maxRecDepth 100000 in
set_option maxHeartbeats 2000000 in
theorem kput_ok (n v:Nat) (d:ByteArray) (w:World) (hn:n<4096) (hv:v<18446744073709551616) (hd:d.size=96) :
 Calls Tryz.prog 151 #[.agg #[.int .i64 (n:Int), .int .u64 (v:Int), .string d]] w fun e w'=>e = .returned (.tuple #[.string (str (blkL ⟨n,v,d⟩)), .int .i64 0])∧Below w.heap.size w w':=by
 have hr:Im.right ⟨n,v,d⟩:=⟨by simp,by simp;omega,hd⟩
 have HR:=Lib.hid hr
 have HDT:=Lib.hid (decide_eq_true hr)
 have HML:=Lib.hid (show d.size≤maxLen by unfold maxLen;omega)
 have HN:=Lib.hid hn
 have HV:=Lib.hid hv
 have HD:=Lib.hid hd
 have hb0:=(Below.refl w.heap.size w).alloc (Nat.le_refl _) (.cells #[.int .i64 (n:Int), .int .u64 (v:Int), .string d] 47)
 have HB0:=Lib.hid hb0
 have HK0:=Lib.hid (Blk.new w 47 #[.int .i64 (n:Int), .int .u64 (v:Int), .string d])
 clear hr hn hv hd hb0
 go_enter Tryz.func151,Tryz.ntmps151
 go_wp2_with fail
 generalize w.alloc (.cells #[.int .i64 (n:Int), .int .u64 (v:Int), .string d] 47)=W at HB0 HK0 ⊢
 refine (right_any ⟨n,v,d⟩ W HML.out).mono ?_
 rintro e w1 ⟨rfl,hb1⟩
 rw [HDT.out]
 have HB1:=Lib.hid (HB0.out.trans (hb1.mono HB0.out.size))
 have HK1:=Lib.hid (HK0.out.below_ hb1)
 clear hb1
 go_wp2_with fail
 go_loopw [4,11] (fun t4 t11 wr=>∃k:Nat,k≤2∧t11 = .int .i64 k∧t4 = .string (str (preB ⟨n,v,d⟩ k))∧Below w.heap.size w wr∧Blk wr w.heap.size 47 #[.int .i64 (n:Int), .int .u64 (v:Int), .string d]) (fun _ t11 _=>2 - (intOf t11).toNat)
 case atStart=>exact ⟨0,by omega,rfl,rfl,HB1.out,HK1.out⟩
 case round =>
  obtain ⟨k,hk,rfl,rfl,hb,hblk⟩:=hrel
  have HB:=Lib.hid hb
  have HK:=Lib.hid hblk
  clear hb hblk
  by_cases hlt:k<2
  ·have hltI:(k:Int)<2:=by omega
   obtain ⟨x0,x1,x2⟩:=HK.out.three
   have hk1:k≤1:=by omega
   have HC:=Lib.hid (show str (preB ⟨n,v,d⟩ k)++str (secL ⟨n,v,d⟩ k)=str (preB ⟨n,v,d⟩ (k+1)) from str_append _ _)
   have hl:=preB_len HR.out k hk
   have hcat:(str (preB ⟨n,v,d⟩ k)).size+(str (secL ⟨n,v,d⟩ k)).size≤9223372036854775807:=by rw [str_size,str_size,hl,secL_len HR.out hk1];omega
   clear hl
   go_wp2_with fail
   refine (sector_any n v d k _ HN.out HV.out HD.out hk1).mono ?_
   rintro e w2 ⟨rfl,hb2⟩
   have HB2:=Lib.hid (HB.out.trans (hb2.mono HB.out.size))
   have HK2:=Lib.hid (HK.out.below_ hb2)
   clear hb2
   go_wp2_with fail
   go_roundw
   case rel=>exact ⟨k+1,by omega,by go_num,by rw [←HC.out],HB2.out,HK2.out⟩
   case measure=>simp [intOf];omega
  ·have hltI:¬(k:Int)<2:=by omega
   obtain rfl:k=2:=by omega
   have HE:=Lib.hid (preB_two ⟨n,v,d⟩)
   go_wp2_with fail
   go_ret2
   exact ⟨by rw [←HE.out];rfl,HB.out⟩
theorem Blk.put3 {w:World} {g:Nat} {t:TypeId} {a b c:Value} (h:Blk w g t #[a,b,c]) (x y z:Value):Blk (((w.setCell ⟨g,0,none⟩ x).setCell ⟨g,1,none⟩ y).setCell ⟨g,2,none⟩ z) g t #[x,y,z]:=((h.set_ 0 x).set_ 1 y).set_ 2 z
theorem below_put3 {B g:Nat} {w0 w:World} (h:Below B w0 w) (hg:B≤g) (x y z:Value):Below B w0 (((w.setCell ⟨g,0,none⟩ x).setCell ⟨g,1,none⟩ y).setCell ⟨g,2,none⟩ z) :=
 ((h.setCell (p:=⟨g,0,none⟩) hg x).setCell (p:=⟨g,1,none⟩) hg y).setCell (p:=⟨g,2,none⟩) hg z
theorem wrap_small {v:Nat} (h:v<4294967296):IntKind.i64.wrap (v:Int)=(v:Int):=IntWalk.i64_in _ (by omega)
theorem rest_str (l:List UInt8) (k:Nat):(str l).extract k (str l).size=str (l.drop k):=by rw [extract_str,str_size,List.take_length]
set_option maxRecDepth 100000 in
set_option maxHeartbeats 2000000 in
theorem kread_any (b:ByteArray) (k:Nat) (w:World) (hb:b.size=128) (hk:k≤1) :
 Calls Tryz.prog 143 #[.string b, .int .i64 (k:Int)] w fun e w'=>e = .returned (.tuple #[(secG b k).1.agg, .int .i64 (secG b k).2])∧Below w.heap.size w w':=by
 obtain ⟨lo,hlo⟩:∃lo,k*64=lo:=⟨_,rfl⟩
 obtain ⟨hi,hhi⟩:∃hi,(k+1)*64=hi:=⟨_,rfl⟩
 have e1:(k:Int)*64=(lo:Int):=by omega
 have e2:((k:Int)+1)*64=(hi:Int):=by omega
 have b0:(0:Int)≤(lo:Int):=by omega
 have b1:(lo:Int)≤(hi:Int):=by omega
 have b2:(hi:Int)≤(b.size:Int):=by omega
 have kI0:(0:Int)≤(k:Int):=by omega
 have kI1:(k:Int)≤1:=by omega
 have hxs:(b.extract lo hi).size=64:=by rw [ByteArray.size_extract];omega
 have HXS:=Lib.hid (show (b.extract lo hi).size≤1000000000 by omega)
 have hG:secG b k=if readE (b.extract lo hi).data.toList=0 then (secI (readL (b.extract lo hi).data.toList),0) else (Im.zero,readE (b.extract lo hi).data.toList):=by unfold secG;rw [hlo,hhi]
 have HG:=Lib.hid hG
 have HL:=Lib.hid (show (b.extract lo hi).data.toList.length=64 from hxs)
 have HB0:=Lib.hid ((Below.refl w.heap.size w).alloc (Nat.le_refl _) (.cells #[.int .i64 0, .int .u64 0, .string ⟨#[]⟩] 47))
 have HZ0:=Lib.hid (Blk.new w 47 #[.int .i64 0, .int .u64 0, .string ⟨#[]⟩])
 have HW0:=Lib.hid (Nat.le_refl w.heap.size)
 clear hlo hhi hxs hG hb hk
 go_enter Tryz.func143,Tryz.ntmps143
 go_wp2_with fail
 generalize w.alloc (.cells #[.int .i64 0, .int .u64 0, .string ⟨#[]⟩] 47)=W at HB0 HZ0 ⊢
 obtain ⟨q,hq⟩:∃q,q=w.heap.size:=⟨_,rfl⟩
 have HQ:=Lib.hid (show w.heap.size≤q by omega)
 rw [←hq] at HZ0 ⊢
 clear hq
 refine (sread_any (b.extract lo hi) HXS.out W).mono ?_
 rintro e w1 ⟨rfl,hb1⟩
 have hlt0:=HB0.out.size
 have HB1:=Lib.hid (show Below w.heap.size w w1 from HB0.out.trans (hb1.mono hlt0))
 have HZ1:=Lib.hid (HZ0.out.below_ hb1)
 clear hb1 hlt0
 by_cases he:readE (b.extract lo hi).data.toList=0
 ·have HR:=Lib.hid (show secG b k=(secI (readL (b.extract lo hi).data.toList),0) by rw [HG.out,if_pos he])
  rw [he]
  have ht:=readL_len he
  rw [HL.out] at ht
  have HE:=Lib.hid he
  clear he
  generalize readL (b.extract lo hi).data.toList=t at HR ht ⊢
  have hsz:(str t).size=60:=by rw [str_size,ht]
  have HT:=Lib.hid ht
  have s1:(48:Int)≤((str t).size:Int):=by rw [hsz];omega
  have hfst:(str t).extract 0 48=str (t.take 48):=by rw [extract_str,List.drop_zero]
  have HRS:=Lib.hid (rest_str t 48)
  have HFS:=Lib.hid hfst
  have HN:=Lib.hid (show (str (t.drop 48)).size≤1000000000 by rw [str_size,List.length_drop,ht];omega)
  clear hsz ht hfst
  go_upto_region 4 with (fail)
  go_wp2_with fail
  rw [HRS.out]
  refine (newreader_any (fun _=>0) 1 (str (t.drop 48)) w1 HN.out).mono ?_
  rintro e w2 ⟨p,o2,rfl,hrd,hb2,hst2⟩
  have henv:=((Env.start w).below_ HB1.out).step (hst2 (fun _=>False)) (by simp)
  have HS2:=Lib.hid (show Gs 262 o2 w w2 p ⟨str (t.drop 48),0⟩ from ⟨hrd,henv,(show Fut (fun _=>0) w1 from fun _ _=>rfl).step (hst2 (fun _=>False))⟩)
  have HK2:=Lib.hid (Keep.step (o:=fun _=>0) (show Keep (fun _=>0) w1 q 47 _ from ⟨HZ1.out,rfl⟩) (hst2 (fun _=>False)) (by simp))
  clear hrd hb2 hst2 henv
  obtain ⟨a,ha⟩:∃a,a=(⟨str (t.drop 48),0⟩:Rd).numV 4:=⟨_,rfl⟩
  obtain ⟨v,hv⟩:∃v,v=((⟨str (t.drop 48),0⟩:Rd).numR 4).numV 8:=⟨_,rfl⟩
  have hal:a<4294967296:=by rw [ha];exact numV_lt _ 4 (by omega)
  have hwa:=wrap_small hal
  have HA:=Lib.hid ha
  have HV:=Lib.hid hv
  clear ha hv hal
  have HN0:=Lib.hid (show ¬only 1 0 by unfold only;omega)
  go_wp2_with fail
  go_region_held3 (fun _=>True) (first | exact trivial)
   (first | (go_at_call 161;((with_reducible refine (rnum_g HS2.out.drew 4).mono ?_);rintro e3 w3 ⟨rfl,o3,hg3,hs3⟩;have hk3:=HK2.out.drew.step hs3 HN0.out;rw [←HA.out])) | (go_at_call 161;((with_reducible refine (rnum_g hg3 8).mono ?_);rintro e4 w4 ⟨rfl,o4,hg4,hs4⟩;have hk4:=hk3.step hs4 HN0.out;have y0:=hk4.1.cell 0;have y1:=hk4.1.cell 1;have y2:=hk4.1.cell 2;have f0:=hk4.1.frozen 0;have f1:=hk4.1.frozen 1;have f2:=hk4.1.frozen 2;rw [←HV.out])))
  have HI:=Lib.hid (show (secI t).agg = .agg #[.int .i64 (a:Int), .int .u64 (v:Int), .string ((str t).extract 0 48)] by unfold secI Im.agg;rw [HA.out,HV.out,HFS.out])
  have hz:=hk4.1.put3 (.int .i64 (a:Int)) (.int .u64 (v:Int)) (.string ((str t).extract 0 48))
  have hbz:=below_put3 hg4.env.low HQ.out (.int .i64 (a:Int)) (.int .u64 (v:Int)) (.string ((str t).extract 0 48))
  clear hg3 hs3 hk3 hg4 hs4 hk4 y0 y1 y2 f0 f1 f2 hwa
  generalize ((w4.setCell ⟨q,0,none⟩ (.int .i64 (a:Int))).setCell ⟨q,1,none⟩ (.int .u64 (v:Int))).setCell ⟨q,2,none⟩ (.string ((str t).extract 0 48))=W5 at hz hbz ⊢
  generalize (str t).extract 0 48=F at HI hz ⊢
  have HZ:=Lib.hid hz
  have HBZ:=Lib.hid hbz
  clear hz hbz
  go_wp2_with fail
  obtain ⟨q0,q1,q2⟩:=HZ.out.three
  rw [HR.out]
  refine bodyPost_ret (v := .tuple #[.agg #[.int .i64 (a:Int), .int .u64 (v:Int), .string F], .int .i64 0]) (by simp [results,Tryz.results143,go_sem,q0,q1,q2]) rfl ⟨by rw [←HI.out],HBZ.out⟩
 ·have HR:=Lib.hid (show secG b k=(Im.zero,readE (b.extract lo hi).data.toList) by rw [HG.out,if_neg he])
  have t1:(readE (b.extract lo hi).data.toList != 0)=true:=bne_iff_ne.2 he
  have h2:str (readL (b.extract lo hi).data.toList)=⟨#[]⟩:=by unfold readL;rw [if_neg he];rfl
  rw [h2]
  clear he h2
  generalize readE (b.extract lo hi).data.toList=E at HR t1 ⊢
  have y0:=HZ1.out.cell 0
  have y1:=HZ1.out.cell 1
  have y2:=HZ1.out.cell 2
  have f0:=HZ1.out.frozen 0
  have f1:=HZ1.out.frozen 1
  have f2:=HZ1.out.frozen 2
  simp at y0 y1 y2
  go_wp2_with fail
  have hz:=HZ1.out.put3 (.int .i64 0) (.int .u64 0) (.string ⟨#[]⟩)
  have hbz:=below_put3 HB1.out HQ.out (.int .i64 0) (.int .u64 0) (.string ⟨#[]⟩)
  generalize ((w1.setCell ⟨q,0,none⟩ (.int .i64 0)).setCell ⟨q,1,none⟩ (.int .u64 0)).setCell ⟨q,2,none⟩ (.string ⟨#[]⟩)=W3 at hz hbz ⊢
  obtain ⟨q0,q1,q2⟩:=hz.three
  rw [HR.out]
  refine bodyPost_ret (v := .tuple #[.agg #[.int .i64 0, .int .u64 0, .string ⟨#[]⟩], .int .i64 E]) (by simp [results,Tryz.results143,go_sem,q0,q1,q2]) rfl ⟨rfl,hbz⟩
theorem secG_size (b:ByteArray) (k:Nat) (_hb:b.size=128):(secG b k).1.data.size≤128:=by
 unfold secG
 split
 ·show (str ((readL (b.extract (k*64) ((k+1)*64)).data.toList).take 48)).size≤128
  rw [str_size,List.length_take]
  omega
 ·exact Nat.zero_le _
set_option maxRecDepth 100000 in
set_option maxHeartbeats 4000000 in
theorem kget_any (block:Int) (b:ByteArray) (w:World) (_hb:b.size≤1000000000) :
 Calls Tryz.prog 73 #[.int .i64 block, .string b] w fun e w'=>e = .returned (.tuple #[(getB block b).1.agg, .int .i64 (getB block b).2])∧Below w.heap.size w w':=by
 have HB0:=Lib.hid ((Below.refl w.heap.size w).alloc (Nat.le_refl _) (.cells #[.int .i64 0, .int .u64 0, .string ⟨#[]⟩] 47))
 have HZ0:=Lib.hid (Blk.new w 47 #[.int .i64 0, .int .u64 0, .string ⟨#[]⟩])
 have fin:∀(W:World) (x:Im) (e:Int),Blk W w.heap.size 47 #[.int .i64 x.block, .int .u64 x.ver, .string x.data]→Below w.heap.size w W→getB block b=(x,e) →
  Blk W w.heap.size 47 #[.int .i64 x.block, .int .u64 x.ver, .string x.data]∧Below w.heap.size w W∧Ending.returned (.tuple #[.agg #[.int .i64 x.block, .int .u64 x.ver, .string x.data], .int .i64 e]) = .returned (.tuple #[(getB block b).1.agg, .int .i64 (getB block b).2]):=fun W x e h1 h2 h3=>⟨h1,h2,by rw [h3];rfl⟩
 have FIN:=Lib.hid fin
 clear fin
 by_cases hs:b.size=128
 ·have hsI:((b.size:Int) != 128)=false:=by simp;omega
  by_cases hz:b=str (zer 128)
  ·have HG:=Lib.hid (show getB block b=(⟨block,0,str (zer 96)⟩,0) by unfold getB;rw [if_neg (by omega),if_pos hz])
   have HZ:=Lib.hid hz
   clear hz hs
   go_enter Tryz.func73,Tryz.ntmps73
   go_wp2_with fail
   generalize w.alloc (.cells #[.int .i64 0, .int .u64 0, .string ⟨#[]⟩] 47)=W at HB0 HZ0 ⊢
   refine (zero_any 128 (by omega) (by omega) W).mono ?_
   rintro e w1 ⟨rfl,hb1⟩
   have HB1:=Lib.hid (HB0.out.trans (hb1.mono HB0.out.size))
   have HZ1:=Lib.hid (HZ0.out.below_ hb1)
   clear hb1
   rw [show ((128:Int)).toNat=128 from rfl,←HZ.out]
   have t1:(b.toList == b.toList)=true:=beq_self_eq_true _
   go_wp2_with fail
   refine (zero_any 96 (by omega) (by omega) w1).mono ?_
   rintro e w2 ⟨rfl,hb2⟩
   have HB2:=Lib.hid (HB1.out.trans (hb2.mono HB1.out.size))
   have HZ2:=Lib.hid (HZ1.out.below_ hb2)
   clear hb2
   rw [show ((96:Int)).toNat=96 from rfl]
   have y0:=HZ2.out.cell 0
   have y1:=HZ2.out.cell 1
   have y2:=HZ2.out.cell 2
   have f0:=HZ2.out.frozen 0
   have f1:=HZ2.out.frozen 1
   have f2:=HZ2.out.frozen 2
   simp at y0 y1 y2
   go_wp2_with fail
   obtain ⟨hz3,hb3,he⟩:=FIN.out _ ⟨block,0,str (zer 96)⟩ 0 (HZ2.out.put3 (.int .i64 block) (.int .u64 0) (.string (str (zer 96)))) (below_put3 HB2.out (Nat.le_refl _) _ _ _) HG.out
   rw [←he]
   clear y0 y1 y2 f0 f1 f2
   generalize ((w2.setCell ⟨w.heap.size,0,none⟩ (.int .i64 block)).setCell ⟨w.heap.size,1,none⟩ (.int .u64 0)).setCell ⟨w.heap.size,2,none⟩ (.string (str (zer 96)))=W3 at hz3 hb3 ⊢
   obtain ⟨q0,q1,q2⟩:=hz3.three
   exact bodyPost_ret (v := .tuple #[.agg #[.int .i64 block, .int .u64 0, .string (str (zer 96))], .int .i64 0]) (by simp [results,Tryz.results73,go_sem,q0,q1,q2]) rfl ⟨rfl,hb3⟩
  ·have t1:=str_neq hz
   have T1:=Lib.hid t1
   have HS:=Lib.hid hs
   obtain ⟨G0,hG0⟩:∃G,secG b 0=G:=⟨_,rfl⟩
   obtain ⟨G1,hG1⟩:∃G,secG b 1=G:=⟨_,rfl⟩
   have HG:Hid (getB block b=if G0.2≠0 then (Im.zero,G0.2) else if G1.2≠0 then (Im.zero,G1.2) else if G0.1.block≠block∨G1.1.block≠block∨4096≤block then (Im.zero,4) else if G0.1.ver≠G1.1.ver then (Im.zero,6) else (⟨block,G0.1.ver,G0.1.data++G1.1.data⟩,0)):=Lib.hid (by unfold getB;rw [if_neg (by omega),if_neg hz,hG0,hG1])
   have HG0:=Lib.hid hG0
   have HG1:=Lib.hid hG1
   clear hz hs t1 hG0 hG1
   go_enter Tryz.func73,Tryz.ntmps73
   go_wp2_with fail
   generalize w.alloc (.cells #[.int .i64 0, .int .u64 0, .string ⟨#[]⟩] 47)=W at HB0 HZ0 ⊢
   refine (zero_any 128 (by omega) (by omega) W).mono ?_
   rintro e w1 ⟨rfl,hb1⟩
   have HB1:=Lib.hid (HB0.out.trans (hb1.mono HB0.out.size))
   have HZ1:=Lib.hid (HZ0.out.below_ hb1)
   clear hb1
   rw [show ((128:Int)).toNat=128 from rfl]
   have t1:=T1.out
   generalize str (zer 128)=Z at t1 ⊢
   go_wp2_with fail
   clear t1
   refine (kread_any b 0 w1 HS.out (by omega)).mono ?_
   rintro e w2 ⟨rfl,hb2⟩
   rw [HG0.out]
   obtain ⟨⟨n0,v0,d0⟩,E0⟩:=G0
   obtain ⟨⟨n1,v1,d1⟩,E1⟩:=G1
   simp only at HG
   unfold Im.agg
   have HB2:=Lib.hid ((HB1.out.trans (hb2.mono HB1.out.size)).alloc (Nat.le_trans HB1.out.size hb2.size) (.cells #[.int .i64 n0, .int .u64 v0, .string d0] 47))
   have HZ2:=Lib.hid ((HZ1.out.below_ hb2).alloc (.cells #[.int .i64 n0, .int .u64 v0, .string d0] 47))
   have HX2:=Lib.hid (Blk.new w2 47 #[.int .i64 n0, .int .u64 v0, .string d0])
   clear hb2
   by_cases h0:E0=0
   ·subst h0
    go_wp2_with fail
    generalize w2.alloc (.cells #[.int .i64 n0, .int .u64 v0, .string d0] 47)=W2 at HB2 HZ2 HX2 ⊢
    generalize w2.heap.size=X at HX2 ⊢
    refine (kread_any b 1 W2 HS.out (by omega)).mono ?_
    rintro e w3 ⟨rfl,hb3⟩
    rw [HG1.out]
    unfold Im.agg
    have HB3:=Lib.hid ((HB2.out.trans (hb3.mono HB2.out.size)).alloc (Nat.le_trans HB2.out.size hb3.size) (.cells #[.int .i64 n1, .int .u64 v1, .string d1] 47))
    have HZ3:=Lib.hid ((HZ2.out.below_ hb3).alloc (.cells #[.int .i64 n1, .int .u64 v1, .string d1] 47))
    have HX3:=Lib.hid ((HX2.out.below_ hb3).alloc (.cells #[.int .i64 n1, .int .u64 v1, .string d1] 47))
    have HY3:=Lib.hid (Blk.new w3 47 #[.int .i64 n1, .int .u64 v1, .string d1])
    clear hb3
    have y0:=HZ3.out.cell 0
    have y1:=HZ3.out.cell 1
    have y2:=HZ3.out.cell 2
    have f0:=HZ3.out.frozen 0
    have f1:=HZ3.out.frozen 1
    have f2:=HZ3.out.frozen 2
    by_cases h1:E1=0
    ·subst h1
     have x0:=HX3.out.cell 0
     have x1:=HX3.out.cell 1
     have x2:=HX3.out.cell 2
     simp at x0 x1 x2 y0 y1 y2
     by_cases c0:n0=block
     ·by_cases c1:n1=block
      ·by_cases c2:4096≤block
       ·have t0:(n0 != block)=false:=by simp [c0]
        have t1:(n1 != block)=false:=by simp [c1]
        have HE:=Lib.hid (show getB block b=(Im.zero,4) by rw [HG.out,if_neg (by simp),if_neg (by simp),if_pos (.inr (.inr c2))])
        clear c0 c1
        go_wp2_with fail
        obtain ⟨hz3,hb3,he⟩:=FIN.out _ Im.zero 4 (HZ3.out.put3 (.int .i64 0) (.int .u64 0) (.string ⟨#[]⟩)) (below_put3 HB3.out (Nat.le_refl _) _ _ _) HE.out
        rw [←he]
        clear y0 y1 y2 f0 f1 f2
        generalize (((w3.alloc (.cells #[.int .i64 n1, .int .u64 v1, .string d1] 47)).setCell ⟨w.heap.size,0,none⟩ (.int .i64 0)).setCell ⟨w.heap.size,1,none⟩ (.int .u64 0)).setCell ⟨w.heap.size,2,none⟩ (.string ⟨#[]⟩)=WE at hz3 hb3 ⊢
        obtain ⟨q0,q1,q2⟩:=hz3.three
        exact bodyPost_ret (v := .tuple #[.agg #[.int .i64 0, .int .u64 0, .string ⟨#[]⟩], .int .i64 4]) (by simp [results,Tryz.results73,go_sem,q0,q1,q2,Im.zero]) rfl ⟨rfl,hb3⟩
       ·have hno:¬(n0≠block∨n1≠block∨4096≤block):=fun h=>by omega
        by_cases c3:v0=v1
        ·have t3:((v0:Int) != (v1:Int))=false:=by simp [c3]
         have HE:=Lib.hid (show getB block b=(⟨block,v0,d0++d1⟩,0) by rw [HG.out,if_neg (by simp),if_neg (by simp),if_neg hno,if_neg (by simp [c3])])
         have t0:(n0 != block)=false:=by simp [c0]
         have t1:(n1 != block)=false:=by simp [c1]
         have hcat:d0.size+d1.size≤9223372036854775807:=by
          have k0:d0=(secG b 0).1.data:=by rw [HG0.out]
          have k1:d1=(secG b 1).1.data:=by rw [HG1.out]
          have s0:=secG_size b 0 HS.out
          have s1:=secG_size b 1 HS.out
          rw [k0,k1]
          omega
         clear c0 c1 c3 hno
         go_wp2_with fail
         obtain ⟨hz3,hb3,he⟩:=FIN.out _ ⟨block,v0,d0++d1⟩ 0 (HZ3.out.put3 (.int .i64 block) (.int .u64 v0) (.string (d0++d1))) (below_put3 HB3.out (Nat.le_refl _) _ _ _) HE.out
         rw [←he]
         clear y0 y1 y2 f0 f1 f2 x0 x1 x2
         generalize (((w3.alloc (.cells #[.int .i64 n1, .int .u64 v1, .string d1] 47)).setCell ⟨w.heap.size,0,none⟩ (.int .i64 block)).setCell ⟨w.heap.size,1,none⟩ (.int .u64 v0)).setCell ⟨w.heap.size,2,none⟩ (.string (d0++d1))=WE at hz3 hb3 ⊢
         obtain ⟨q0,q1,q2⟩:=hz3.three
         exact bodyPost_ret (v := .tuple #[.agg #[.int .i64 block, .int .u64 v0, .string (d0++d1)], .int .i64 0]) (by simp [results,Tryz.results73,go_sem,q0,q1,q2]) rfl ⟨rfl,hb3⟩
        ·have t3:((v0:Int) != (v1:Int))=true:=by simp;omega
         have HE:=Lib.hid (show getB block b=(Im.zero,6) by rw [HG.out,if_neg (by simp),if_neg (by simp),if_neg hno,if_pos c3])
         have t0:(n0 != block)=false:=by simp [c0]
         have t1:(n1 != block)=false:=by simp [c1]
         clear c0 c1 c3 hno
         go_wp2_with fail
         obtain ⟨hz3,hb3,he⟩:=FIN.out _ Im.zero 6 (HZ3.out.put3 (.int .i64 0) (.int .u64 0) (.string ⟨#[]⟩)) (below_put3 HB3.out (Nat.le_refl _) _ _ _) HE.out
         rw [←he]
         clear y0 y1 y2 f0 f1 f2
         generalize (((w3.alloc (.cells #[.int .i64 n1, .int .u64 v1, .string d1] 47)).setCell ⟨w.heap.size,0,none⟩ (.int .i64 0)).setCell ⟨w.heap.size,1,none⟩ (.int .u64 0)).setCell ⟨w.heap.size,2,none⟩ (.string ⟨#[]⟩)=WE at hz3 hb3 ⊢
         obtain ⟨q0,q1,q2⟩:=hz3.three
         exact bodyPost_ret (v := .tuple #[.agg #[.int .i64 0, .int .u64 0, .string ⟨#[]⟩], .int .i64 6]) (by simp [results,Tryz.results73,go_sem,q0,q1,q2,Im.zero]) rfl ⟨rfl,hb3⟩
      ·have t0:(n0 != block)=false:=by simp [c0]
       have t1:(n1 != block)=true:=by simp [c1]
       have HE:=Lib.hid (show getB block b=(Im.zero,4) by rw [HG.out,if_neg (by simp),if_neg (by simp),if_pos (.inr (.inl c1))])
       clear c0 c1
       go_wp2_with fail
       obtain ⟨hz3,hb3,he⟩:=FIN.out _ Im.zero 4 (HZ3.out.put3 (.int .i64 0) (.int .u64 0) (.string ⟨#[]⟩)) (below_put3 HB3.out (Nat.le_refl _) _ _ _) HE.out
       rw [←he]
       clear y0 y1 y2 f0 f1 f2
       generalize (((w3.alloc (.cells #[.int .i64 n1, .int .u64 v1, .string d1] 47)).setCell ⟨w.heap.size,0,none⟩ (.int .i64 0)).setCell ⟨w.heap.size,1,none⟩ (.int .u64 0)).setCell ⟨w.heap.size,2,none⟩ (.string ⟨#[]⟩)=WE at hz3 hb3 ⊢
       obtain ⟨q0,q1,q2⟩:=hz3.three
       exact bodyPost_ret (v := .tuple #[.agg #[.int .i64 0, .int .u64 0, .string ⟨#[]⟩], .int .i64 4]) (by simp [results,Tryz.results73,go_sem,q0,q1,q2,Im.zero]) rfl ⟨rfl,hb3⟩
     ·have t0:(n0 != block)=true:=by simp [c0]
      have HE:=Lib.hid (show getB block b=(Im.zero,4) by rw [HG.out,if_neg (by simp),if_neg (by simp),if_pos (.inl c0)])
      clear c0
      go_wp2_with fail
      obtain ⟨hz3,hb3,he⟩:=FIN.out _ Im.zero 4 (HZ3.out.put3 (.int .i64 0) (.int .u64 0) (.string ⟨#[]⟩)) (below_put3 HB3.out (Nat.le_refl _) _ _ _) HE.out
      rw [←he]
      clear y0 y1 y2 f0 f1 f2
      generalize (((w3.alloc (.cells #[.int .i64 n1, .int .u64 v1, .string d1] 47)).setCell ⟨w.heap.size,0,none⟩ (.int .i64 0)).setCell ⟨w.heap.size,1,none⟩ (.int .u64 0)).setCell ⟨w.heap.size,2,none⟩ (.string ⟨#[]⟩)=WE at hz3 hb3 ⊢
      obtain ⟨q0,q1,q2⟩:=hz3.three
      exact bodyPost_ret (v := .tuple #[.agg #[.int .i64 0, .int .u64 0, .string ⟨#[]⟩], .int .i64 4]) (by simp [results,Tryz.results73,go_sem,q0,q1,q2,Im.zero]) rfl ⟨rfl,hb3⟩
    ·have t1:(E1 != 0)=true:=bne_iff_ne.2 h1
     have HE:=Lib.hid (show getB block b=(Im.zero,E1) by rw [HG.out,if_neg (by simp),if_pos h1])
     simp at y0 y1 y2
     clear h1
     go_wp2_with fail
     obtain ⟨hz3,hb3,he⟩:=FIN.out _ Im.zero E1 (HZ3.out.put3 (.int .i64 0) (.int .u64 0) (.string ⟨#[]⟩)) (below_put3 HB3.out (Nat.le_refl _) _ _ _) HE.out
     rw [←he]
     clear y0 y1 y2 f0 f1 f2
     generalize (((w3.alloc (.cells #[.int .i64 n1, .int .u64 v1, .string d1] 47)).setCell ⟨w.heap.size,0,none⟩ (.int .i64 0)).setCell ⟨w.heap.size,1,none⟩ (.int .u64 0)).setCell ⟨w.heap.size,2,none⟩ (.string ⟨#[]⟩)=WE at hz3 hb3 ⊢
     obtain ⟨q0,q1,q2⟩:=hz3.three
     exact bodyPost_ret (v := .tuple #[.agg #[.int .i64 0, .int .u64 0, .string ⟨#[]⟩], .int .i64 E1]) (by simp [results,Tryz.results73,go_sem,q0,q1,q2,Im.zero]) rfl ⟨rfl,hb3⟩
   ·have t0:(E0 != 0)=true:=bne_iff_ne.2 h0
    have HE:=Lib.hid (show getB block b=(Im.zero,E0) by rw [HG.out,if_pos h0])
    have y0:=HZ2.out.cell 0
    have y1:=HZ2.out.cell 1
    have y2:=HZ2.out.cell 2
    have f0:=HZ2.out.frozen 0
    have f1:=HZ2.out.frozen 1
    have f2:=HZ2.out.frozen 2
    simp at y0 y1 y2
    clear h0
    go_wp2_with fail
    obtain ⟨hz3,hb3,he⟩:=FIN.out _ Im.zero E0 (HZ2.out.put3 (.int .i64 0) (.int .u64 0) (.string ⟨#[]⟩)) (below_put3 HB2.out (Nat.le_refl _) _ _ _) HE.out
    rw [←he]
    clear y0 y1 y2 f0 f1 f2
    generalize (((w2.alloc (.cells #[.int .i64 n0, .int .u64 v0, .string d0] 47)).setCell ⟨w.heap.size,0,none⟩ (.int .i64 0)).setCell ⟨w.heap.size,1,none⟩ (.int .u64 0)).setCell ⟨w.heap.size,2,none⟩ (.string ⟨#[]⟩)=WE at hz3 hb3 ⊢
    obtain ⟨q0,q1,q2⟩:=hz3.three
    exact bodyPost_ret (v := .tuple #[.agg #[.int .i64 0, .int .u64 0, .string ⟨#[]⟩], .int .i64 E0]) (by simp [results,Tryz.results73,go_sem,q0,q1,q2,Im.zero]) rfl ⟨rfl,hb3⟩
 ·have hsI:((b.size:Int) != 128)=true:=by simp;omega
  have HG:=Lib.hid (show getB block b=(Im.zero,5) by unfold getB;rw [if_pos hs])
  clear hs
  go_enter Tryz.func73,Tryz.ntmps73
  go_wp2_with fail
  obtain ⟨hz,hb,he⟩:=FIN.out _ Im.zero 5 HZ0.out HB0.out HG.out
  rw [←he]
  exact bodyPost_ret (v := .tuple #[.agg #[.int .i64 0, .int .u64 0, .string ⟨#[]⟩], .int .i64 5]) (by simp [results,Tryz.results73,go_sem]) rfl ⟨rfl,hb⟩
end Go.Proofs.YtldoeodkeieejaaGreatDoor
namespace Go.Proofs
open Go.Shelf
def Tryz.lays166_ren : Go.Shelf.Ren:=⟨fun | 166=>28 | 240=>71 | 276=>141 | n=>n,fun | 70=>83 | 9=>9 | 0=>0 | 72=>86 | 37=>84 | 3=>3 | 5=>5 | 4=>4 | 20=>20 | 75=>90 | 80=>93 | 164=>217 | n=>n,fun | n=>n⟩
theorem Tryz.lays166 : Go.Proofs.Lays.n166 Tryz.prog Tryz.lays166_ren := {
 mixed:=by kernel_rfl
 f166:=Tryz.func28.trans (congrArg some (by kernel_rfl))
 f240:=Tryz.func71.trans (congrArg some (by kernel_rfl))
 f276:=Tryz.func141.trans (congrArg some (by kernel_rfl))
 t0:=Tryz.underlying0
 a0:=Tryz.isAgg0
 z0:=Tryz.sizeOf0
 v0:=Tryz.zeroValue0
 t3:=Tryz.underlying3
 a3:=Tryz.isAgg3
 z3:=Tryz.sizeOf3
 v3:=Tryz.zeroValue3
 t4:=Tryz.underlying4
 a4:=Tryz.isAgg4
 z4:=Tryz.sizeOf4
 v4:=Tryz.zeroValue4
 t9:=Tryz.underlying9
 a9:=Tryz.isAgg9
 z9:=Tryz.sizeOf9
 v9:=Tryz.zeroValue9
 t20:=Tryz.underlying20
 a20:=Tryz.isAgg20
 z20:=Tryz.sizeOf20
 v20:=Tryz.zeroValue20
 t37:=Tryz.underlying84
 a37:=Tryz.isAgg84
 z37:=Tryz.sizeOf84
 v37:=Tryz.zeroValue84
 t70:=Tryz.underlying83
 a70:=Tryz.isAgg83
 z70:=Tryz.sizeOf83
 v70:=Tryz.zeroValue83
 t72:=Tryz.underlying86
 a72:=Tryz.isAgg86
 z72:=Tryz.sizeOf86
 v72:=Tryz.zeroValue86
 t75:=Tryz.underlying90
 a75:=Tryz.isAgg90
 z75:=Tryz.sizeOf90
 v75:=Tryz.zeroValue90
 t164:=Tryz.underlying217
 a164:=Tryz.isAgg217
 z164:=Tryz.sizeOf217
 v164:=Tryz.zeroValue217}
theorem Tryz.Builder_Extra_166 : Builder.Extra Tryz.prog Tryz.lays166_ren := {
 sizeBuilder:=by kernel_rfl
 liesBuilder:=by kernel_rfl
 t5:=Tryz.underlying5
 a5:=Tryz.isAgg5
 z5:=Tryz.sizeOf5
 v5:=Tryz.zeroValue5
 infoByte:=by kernel_rfl
 cellsByte:=by kernel_rfl
 sizeByte:=by kernel_rfl
 neB5:=by decide}
end Go.Proofs
namespace Go.Proofs.YtldoeodkeieejaaGreatDoor
open Go.RowKit
theorem bwrite_any (B b:Nat) (l:List UInt8) (s:ByteArray) (w:World) (h:Lib.IsBuilder 86 5 B b (Lib.byteCells l) w) (hlen:l.length+s.size≤140737488355328) (hB:B≤w.heap.size) :
 Calls Tryz.prog 28 #[.pointer (some ⟨b,0,none⟩), .string s] w fun e w'=>e = .returned (.tuple #[.int .i64 s.size, .nilIface])∧Lib.IsBuilder 86 5 B b (Lib.byteCells (l++s.data.toList)) w'∧Below B w w':=by
 refine (Any.Builder_WriteString Tryz.lays166 Tryz.Builder_Extra_166 B b (Lib.byteCells l) s w h (by rw [Lib.byteCells_length];exact hlen) hB).mono ?_
 rintro e w' ⟨rfl,hb,hbl⟩
 refine ⟨rfl, .inr ?_,hbl⟩
 rw [Lib.byteCells_append]
 exact hb
theorem isBuilder_below {B b:Nat} {bs:List Value} {w w':World} (h:Lib.IsBuilder 86 5 B b bs w) (_hs:B≤w.heap.size) (hb:Below w.heap.size w w'):Lib.IsBuilder 86 5 B b bs w':=by
 have aux:∀p,Lib.BuilderAt 86 5 B b p bs w→Lib.BuilderAt 86 5 B b p bs w':=by
  rintro p ⟨h1,v,h2,h3,h4⟩
  have hlt:b<w.heap.size:=(Array.getElem?_eq_some_iff.1 h2).1
  refine ⟨h1,v,(hb.block b hlt).trans h2,⟨h3.1,?_⟩,h4⟩
  rcases h3.2 with hn | ⟨g,cap,cur,rfl,h0,hgg,rest⟩
  ·exact .inl hn
  ·exact .inr ⟨g,cap,cur,rfl,h0,(hb.block g (Array.getElem?_eq_some_iff.1 hgg).1).trans hgg,rest⟩
 exact h.imp (aux _) (aux _)
theorem builder_new (w:World):Lib.IsBuilder 86 5 w.heap.size w.heap.size (Lib.byteCells []) (w.alloc (.cells #[.pointer none, .slice none 0 0] 86)) :=
 .inl ⟨Nat.le_refl _, .slice none 0 0,heap_alloc_new w _,World.ownsRow_nil _ _ _ _,by simp [Value.ownBlock]⟩
theorem readL_succ (D:Dk) (at_:Int) (n:Nat):D.readL at_ (n+1)=D.readL at_ n++(D.sec (at_+n)).data.toList:=by simp [Dk.readL,List.range_succ]
theorem zero_str (w:World):(zeroValue 9).run Tryz.prog w = .ok (.string ⟨#[]⟩) w:=Tryz.zeroValue9 w
set_option maxRecDepth 100000 in
set_option maxHeartbeats 2000000 in
theorem dread_any {o:Nat→Nat} {c p:Nat} {w:World} {D:Dk} (h:DiskAt o c w p D) (at_ n:Int) (hsec:D.sectors≤20000) (hwf:D.wf) :
 Calls Tryz.prog 8 #[.pointer (some ⟨p,0,none⟩), .int .i64 at_, .int .i64 n] w fun e w'=>e = .returned (.tuple #[.string (D.readS at_ n), .int .i64 (D.readE at_ n)])∧Below w.heap.size w w':=by
 have H:=Lib.hid h
 have HWF:=Lib.hid hwf
 clear h hwf
 cases hon:D.on with
 | false =>
   have e1:D.readE at_ n=14:=if_pos hon
   have e2:D.readS at_ n=⟨#[]⟩:=if_neg (by rw [e1];decide)
   rw [e1,e2]
   clear e1 e2
   go_enter Tryz.func8,Tryz.ntmps8
   go_wp2_with fail
   refine (don_any H.out).mono ?_
   rintro e w1 ⟨rfl,rfl⟩
   rw [hon]
   go_wp2_with fail
   go_ret2
   exact ⟨rfl,Below.refl _ _⟩
 | true =>
   have HON:=Lib.hid hon
   by_cases h0:n<1
   ·have e1:D.readE at_ n=30:=by unfold Dk.readE;rw [if_neg (by rw [hon];decide),if_pos (.inl h0)]
    have e2:D.readS at_ n=⟨#[]⟩:=if_neg (by rw [e1];decide)
    rw [e1,e2]
    clear e1 e2 hon
    go_enter Tryz.func8,Tryz.ntmps8
    go_wp2_with fail
    refine (don_any H.out).mono ?_
    rintro e w1 ⟨rfl,rfl⟩
    rw [HON.out]
    go_wp2_with fail
    go_ret2
    exact ⟨rfl,Below.refl _ _⟩
   ·by_cases h1:400<n
    ·have e1:D.readE at_ n=30:=by unfold Dk.readE;rw [if_neg (by rw [hon];decide),if_pos (.inr (.inl h1))]
     have e2:D.readS at_ n=⟨#[]⟩:=if_neg (by rw [e1];decide)
     rw [e1,e2]
     clear e1 e2 hon
     go_enter Tryz.func8,Tryz.ntmps8
     go_wp2_with fail
     refine (don_any H.out).mono ?_
     rintro e w1 ⟨rfl,rfl⟩
     rw [HON.out]
     go_wp2_with fail
     go_ret2
     exact ⟨rfl,Below.refl _ _⟩
    ·cases hth:D.there at_ n with
     | false =>
       have e1:D.readE at_ n=30:=by unfold Dk.readE;rw [if_neg (by rw [hon];decide),if_pos (.inr (.inr hth))]
       have e2:D.readS at_ n=⟨#[]⟩:=if_neg (by rw [e1];decide)
       have HTH:=Lib.hid hth
       rw [e1,e2]
       clear e1 e2 hon hth
       go_enter Tryz.func8,Tryz.ntmps8
       go_wp2_with fail
       refine (don_any H.out).mono ?_
       rintro e w1 ⟨rfl,rfl⟩
       rw [HON.out]
       go_wp2_with fail
       refine (dthere_any H.out at_ n hsec).mono ?_
       rintro e w1 ⟨rfl,rfl⟩
       rw [HTH.out]
       go_wp2_with fail
       go_ret2
       exact ⟨rfl,Below.refl _ _⟩
     | true =>
       obtain ⟨m,rfl⟩:∃m:Nat,n=m:=⟨n.toNat,by omega⟩
       have e1:D.readE at_ m=0:=by unfold Dk.readE;rw [if_neg (by rw [hon];decide),if_neg (by rw [hth];simp;omega)]
       have e2:D.readS at_ m=str (D.readL at_ m):=by unfold Dk.readS;rw [if_pos e1];rfl
       have hat:0≤at_∧at_≤D.sectors∧(m:Int)≤D.sectors - at_:=of_decide_eq_true hth
       obtain ⟨ha0,ha1,ha2⟩:=hat
       have HTH:=Lib.hid hth
       rw [e1,e2]
       clear e1 e2 hon hth
       obtain ⟨mn,ml,wv,sv,hin⟩:=H.out
       have HIN:=Lib.hid hin
       clear hin
       go_enter Tryz.func8,Tryz.ntmps8
       go_wp2_with fail
       refine (don_any H.out).mono ?_
       rintro e w1 ⟨rfl,rfl⟩
       rw [HON.out]
       go_wp2_with fail
       refine (dthere_any H.out at_ m hsec).mono ?_
       rintro e w1 ⟨rfl,rfl⟩
       rw [HTH.out]
       go_wp2_with fail
       have HW0:=Lib.hid ((Below.refl w.heap.size w).alloc (Nat.le_refl _) (.cells #[.pointer none, .slice none 0 0] 86))
       have HBN:=Lib.hid (builder_new w)
       generalize w.alloc (.cells #[.pointer none, .slice none 0 0] 86)=W at HW0 HBN ⊢
       go_loopw [31] (fun t31 wr=>∃i:Nat,i≤m∧t31 = .int .i64 i∧Below w.heap.size w wr∧Lib.IsBuilder 86 5 w.heap.size w.heap.size (Lib.byteCells (D.readL at_ i)) wr) (fun t31 _=>m - (intOf t31).toNat)
       case atStart=>exact ⟨0,by omega,rfl,HW0.out,HBN.out⟩
       case round =>
        obtain ⟨i,hi,rfl,hb,hbd⟩:=hrel
        have HB:=Lib.hid hb
        have HBD:=Lib.hid hbd
        clear hb hbd
        by_cases hlt:i<m
        ·have hltI:(i:Int)<(m:Int):=by omega
         have HI:=Lib.hid (HIN.out.step (Step.of_below o (fun _=>False) HB.out) (fun _ _ _=>id))
         have c3:wr.cell? ⟨p,3,none⟩=some (.map (some mn)):=HI.out.blk.cell 3
         have hw:IntKind.i64.wrap (at_+(i:Int))=at_+i:=IntWalk.i64_in _ (by omega)
         have hl:=Dk.readL_len HWF.out at_ i
         have HLS:=Lib.hid (readL_succ D at_ i)
         have HSB:=Lib.hid HB.out.size
         have hlk:=HI.out.now.look Tryz.underlying76 Tryz.underlying3 (zero_str wr) (at_+i) true
         cases hnow:D.now (at_+i) with
         | none =>
           simp only [hnow,Option.map_none,Option.getD_none,Option.isSome_none,if_true] at hlk
           have hs:D.sec (at_+i)=str (zer 64):=by unfold Dk.sec;rw [hnow];rfl
           have HS:=Lib.hid hs
           have HL:=Lib.hid (show (D.readL at_ i).length+(str (zer 64)).size≤140737488355328 by rw [hl,str_size,zer_len];omega)
           clear hs hnow hl
           go_wp2_with fail
           refine (rep0_any 64 (by omega) (by omega) wr).mono ?_
           rintro e w2 ⟨rfl,hb2⟩
           rw [show ((64:Int)).toNat=64 from rfl]
           have HB2:=Lib.hid (HB.out.trans (hb2.mono HSB.out))
           have HBD2:=Lib.hid (isBuilder_below HBD.out HSB.out hb2)
           clear hb2 c3 hlk
           go_wp2_with fail
           refine (bwrite_any _ _ _ (str (zer 64)) w2 HBD2.out HL.out HB2.out.size).mono ?_
           rintro e w3 ⟨rfl,hbd3,hb3⟩
           have HB3:=Lib.hid (HB2.out.trans hb3)
           rw [←HS.out,←HLS.out] at hbd3
           have HBD3:=Lib.hid hbd3
           clear hbd3 hb3
           go_wp2_with fail
           go_roundw
           case rel=>exact ⟨i+1,by omega,by go_num,HB3.out,HBD3.out⟩
           case measure=>simp [intOf];omega
         | some s =>
           simp only [hnow,Option.map_some,Option.getD_some,Option.isSome_some,if_true] at hlk
           have hs:D.sec (at_+i)=s:=by unfold Dk.sec;rw [hnow];rfl
           have HS:=Lib.hid hs
           have hsz:=HWF.out.1 _ _ hnow
           have HL:=Lib.hid (show (D.readL at_ i).length+s.size≤140737488355328 by rw [hl,hsz];omega)
           clear hs hnow hl hsz
           go_wp2_with fail
           clear c3 hlk
           refine (bwrite_any _ _ _ s wr HBD.out HL.out HB.out.size).mono ?_
           rintro e w3 ⟨rfl,hbd3,hb3⟩
           have HB3:=Lib.hid (HB.out.trans hb3)
           rw [←HS.out,←HLS.out] at hbd3
           have HBD3:=Lib.hid hbd3
           clear hbd3 hb3
           go_wp2_with fail
           go_roundw
           case rel=>exact ⟨i+1,by omega,by go_num,HB3.out,HBD3.out⟩
           case measure=>simp [intOf];omega
        ·have hltI:¬(i:Int)<(m:Int):=by omega
         obtain rfl:i=m:=by omega
         go_wp2_with fail
         refine (Tryz.Builder_String_any w.heap.size w.heap.size (D.readL at_ i) wr HBD.out HB.out.size).mono ?_
         rintro e w2 ⟨rfl,hb2⟩
         have HB2:=Lib.hid (HB.out.trans hb2)
         clear hb2
         go_wp2_with fail
         go_ret2
         exact ⟨rfl,HB2.out⟩
def Dk.fresh (n:Nat):Dk:=⟨n,true,0,fun _=>none,fun _=>none,[],fun _=>0,fun _=>0,0,false,0,[]⟩
structure Calm (D:Dk) (k:Nat):Prop where
 on:D.on=true
 armed:D.armed=false
 sectors:D.sectors=37
 waits:D.waits.length≤k
 seq:D.seq≤k
 wf:D.wf
section
variable {D:Dk} {k:Nat}
theorem Calm.mono (h:Calm D k) {m:Nat} (hm:k≤m):Calm D m:=⟨h.on,h.armed,h.sectors,Nat.le_trans h.waits hm,Nat.le_trans h.seq hm,h.wf⟩
theorem Calm.may (h:Calm D k) {n:Nat} (hn:n≤16):D.may n=0:=by
 unfold Dk.may
 rw [if_neg (by rw [h.on];decide),if_neg (by omega)]
theorem keep_wf {D:Dk} (h:D.wf) {x:Ws} (hx:x.data.size=64):(D.keep x).wf:=by
 unfold Dk.keep
 split
 ·refine ⟨h.1,fun k y hy => ?_,h.2.2⟩
  have hy:upd D.lasts x.at_ x k=some y:=hy
  unfold upd at hy
  split at hy
  ·injection hy with hy
   exact hy▸hx
  ·exact h.2.1 k y hy
 ·exact h
theorem keeps_wf : ∀(l:List Ws) (D:Dk),D.wf→(∀x∈l,x.data.size=64)→(l.foldl Dk.keep D).wf
 | [],_,h,_=>h
 | x :: l,D,h,hl=>keeps_wf l (D.keep x) (keep_wf h (hl x (List.mem_cons_self ..))) (fun y hy=>hl y (List.mem_cons_of_mem _ hy))
theorem settle_wf {D:Dk} (h:D.wf) (n:Int):(D.settle n).wf:=by
 have h1:=keeps_wf (D.waits.filter (fun x=>x.node=n)) D h (fun x hx=>h.2.2 x (List.mem_filter.1 hx).1)
 exact ⟨h1.1,h1.2.1,fun x hx=>h.2.2 x (List.mem_filter.1 hx).1⟩
theorem cutN_wf {D:Dk} (h:D.wf) (keep:List Int):∀k,(D.cutN keep k).wf
 | 0=>h
 | k+1=>by
   unfold Dk.cutN
   cases hx:D.waits[k]? with
   | none=>exact cutN_wf h keep k
   | some x =>
     simp only
     split
     ·exact keep_wf (cutN_wf h keep k) (h.2.2 x (List.mem_of_getElem? hx))
     ·exact cutN_wf h keep k
theorem off_wf {E:Dk} (h:E.wf):E.off.wf:=by
 refine ⟨fun k s hs => ?_,h.2.1,fun x hx=>by cases hx⟩
 have hs:(E.lasts k).map (fun x:Ws=>x.data)=some s:=hs
 cases hl:E.lasts k with
 | none=>rw [hl] at hs;cases hs
 | some x =>
   rw [hl] at hs
   injection hs with hs
   exact hs▸h.2.1 k x hl
theorem cut_wf {D:Dk} (h:D.wf) (keep:List Int):(D.cut keep).2.wf:=by
 have ha:(D.arm (-1) []).wf:=h
 unfold Dk.cut
 split
 ·exact ha
 ·exact off_wf (cutN_wf ha keep _)
theorem goes_wf {D:Dk} (h:D.wf):D.goes.2.wf:=by
 unfold Dk.goes
 split
 ·exact h
 ·split
  ·exact h
  ·exact cut_wf h _
theorem keep_same (D:Dk) (x:Ws):(D.keep x).sectors=D.sectors∧(D.keep x).seq=D.seq∧(D.keep x).table=D.table∧(D.keep x).words=D.words∧(D.keep x).last=D.last∧(D.keep x).on=D.on∧(D.keep x).armed=D.armed:=by
 unfold Dk.keep
 split <;> exact ⟨rfl,rfl,rfl,rfl,rfl,rfl,rfl⟩
theorem cutN_same (D:Dk) (keep:List Int):∀k,(D.cutN keep k).sectors=D.sectors∧(D.cutN keep k).seq=D.seq∧(D.cutN keep k).table=D.table∧(D.cutN keep k).words=D.words∧(D.cutN keep k).last=D.last∧(D.cutN keep k).on=D.on∧(D.cutN keep k).armed=D.armed
 | 0=>⟨rfl,rfl,rfl,rfl,rfl,rfl,rfl⟩
 | k+1=>by
   have ih:=cutN_same D keep k
   unfold Dk.cutN
   cases hx:D.waits[k]? with
   | none=>exact ih
   | some x =>
     simp only
     split
     ·obtain ⟨a1,a2,a3,a4,a5,a6,a7⟩:=keep_same (D.cutN keep k) x
      obtain ⟨b1,b2,b3,b4,b5,b6,b7⟩:=ih
      exact ⟨a1.trans b1,a2.trans b2,a3.trans b3,a4.trans b4,a5.trans b5,a6.trans b6,a7.trans b7⟩
     ·exact ih
theorem cut_same (D:Dk) (keep:List Int):(D.cut keep).2.sectors=D.sectors∧(D.cut keep).2.seq=D.seq∧(D.cut keep).2.table=D.table∧(D.cut keep).2.words=D.words∧(D.cut keep).2.last=D.last∧(D.cut keep).2.waits.length≤D.waits.length∧(D.cut keep).2.on=false∧(D.cut keep).2.armed=false:=by
 unfold Dk.cut
 split
 ·rename_i h
  exact ⟨rfl,rfl,rfl,rfl,rfl,Nat.le_refl _,h,rfl⟩
 ·obtain ⟨a1,a2,a3,a4,a5,a6,a7⟩:=cutN_same (D.arm (-1) []) keep D.waits.length
  exact ⟨a1,a2,a3,a4,a5,Nat.zero_le _,rfl,a7⟩
theorem goes_keeps (D:Dk):D.goes.2.sectors=D.sectors∧D.goes.2.seq=D.seq∧D.goes.2.table=D.table∧D.goes.2.words=D.words∧D.goes.2.last=D.last∧D.goes.2.waits.length≤D.waits.length:=by
 unfold Dk.goes
 split
 ·exact ⟨rfl,rfl,rfl,rfl,rfl,Nat.le_refl _⟩
 ·split
  ·exact ⟨rfl,rfl,rfl,rfl,rfl,Nat.le_refl _⟩
  ·obtain ⟨a1,a2,a3,a4,a5,a6,_⟩:=cut_same D D.stays
   exact ⟨a1,a2,a3,a4,a5,a6⟩
theorem settle_waits (D:Dk) (n:Int):(D.settle n).waits.length≤D.waits.length:=List.length_filter_le _ _
theorem Calm.settle (h:Calm D k) (n:Int):Calm (D.settle n) k:=by
 obtain ⟨a1,a2,a3,a4,a5,a6,a7⟩:=settle_same D n
 refine ⟨a1.trans h.on,a2.trans h.armed,a3.trans h.sectors,Nat.le_trans (settle_waits D n) h.waits,a7▸h.seq,settle_wf h.wf n⟩
theorem Calm.fence (h:Calm D k) {n:Nat} (hn:n≤16):D.fence n=(0,{D.settle n with table:=fun j=>if j=n then 0 else D.table j})∧Calm (D.fence n).2 k:=by
 have e:D.fence n=(0,{D.settle n with table:=fun j=>if j=n then 0 else D.table j}):=by
  unfold Dk.fence
  rw [if_neg (by rw [h.may hn];simp),goes_calm h.armed]
  rfl
 refine ⟨e,?_⟩
 rw [e]
 have:=h.settle n
 exact ⟨this.on,this.armed,this.sectors,this.waits,this.seq,this.wf⟩
theorem Calm.put (h:Calm D k) {n:Nat} (hn:n≤16) (v:Nat):D.put n v=(0,{D with words:=fun j=>if j=n then v else D.words j})∧Calm (D.put n v).2 k:=by
 have e:D.put n v=(0,{D with words:=fun j=>if j=n then v else D.words j}):=by
  unfold Dk.put
  rw [if_neg (by rw [h.may hn];simp),goes_calm h.armed]
  rfl
 refine ⟨e,?_⟩
 rw [e]
 exact ⟨h.on,h.armed,h.sectors,h.waits,h.seq,h.wf⟩
theorem Calm.admit (h:Calm D k) {n:Nat} (hn:n≤16) {e:Nat} (he:D.last<e):D.admit n e=(0,{D with table:=fun j=>if j=n then e else D.table j,last:=e})∧Calm (D.admit n e).2 k:=by
 have e1:D.admit n e=(0,{D with table:=fun j=>if j=n then e else D.table j,last:=e}):=by
  unfold Dk.admit
  rw [if_neg (by rw [h.may hn];simp),if_neg (by omega),goes_calm h.armed]
  rfl
 refine ⟨e1,?_⟩
 rw [e1]
 exact ⟨h.on,h.armed,h.sectors,h.waits,h.seq,h.wf⟩
theorem Calm.barrier (h:Calm D k) {n:Nat} (hn:n≤16) {e:Nat} (he:D.table n=e) (h0:e≠0):D.barrier n e=(0,D.settle n)∧Calm (D.barrier n e).2 k:=by
 have e1:D.barrier n e=(0,D.settle n):=by
  unfold Dk.barrier
  rw [if_neg (by rw [h.may hn];simp),Int.toNat_natCast,if_neg,goes_calm h.armed]
  ·rfl
  ·unfold Dk.admits
   rw [if_neg (by simp [h0,he])]
   simp
 refine ⟨e1,?_⟩
 rw [e1]
 exact h.settle n
theorem write1_wf (h:D.wf) (n at_:Int) {t:ByteArray} (ht:t.size=64):(D.write1 n at_ t).wf:=by
 refine ⟨fun k y hy => ?_,h.2.1,fun x hx => ?_⟩
 ·have hy:upd D.now at_ t k=some y:=hy
  unfold upd at hy
  split at hy
  ·injection hy with hy
   exact hy▸ht
  ·exact h.1 k y hy
 ·have hx:x∈D.waits ++ [⟨n,at_,(D.seq+1:Nat),t⟩]:=hx
  rcases List.mem_append.1 hx with hx | hx
  ·exact h.2.2 x hx
  ·rw [List.mem_singleton.1 hx]
   exact ht
theorem writeN_wf (h:D.wf) (n at_:Int) (data:ByteArray):∀m,m*64≤data.size→(D.writeN n at_ data m).wf
 | 0,_=>h
 | m+1,hm=>write1_wf (writeN_wf h n at_ data m (by omega)) n _ (sect_size (by omega))
theorem Calm.writeN (h:Calm D k) (n at_:Int) (data:ByteArray) (m:Nat) (hm:m*64≤data.size):Calm (D.writeN n at_ data m) (k+m):=by
 obtain ⟨a1,a2,a3,_,_,_,_,a8,a9⟩:=writeN_same D n at_ data m
 exact ⟨a1.trans h.on,a2.trans h.armed,a3.trans h.sectors,by have:=h.waits;omega,by have:=h.seq;omega,writeN_wf h.wf n at_ data m hm⟩
theorem Calm.write (h:Calm D k) {n:Nat} (hn:n≤16) {e:Nat} (he:D.table n=e) (h0:e≠0) {at_:Int} {data:ByteArray} {m:Nat} (hd:data.size=m*64) (h1:1≤m) (h2:m≤16) (h3:0≤at_) (h4:at_+m≤37) :
 D.write n e at_ data=(0,D.writeN n at_ data m)∧Calm (D.write n e at_ data).2 (k+m):=by
 have hq:data.size / 64=m:=by omega
 have hr:data.size % 64=0:=by omega
 have e1:D.write n e at_ data=(0,D.writeN n at_ data m):=by
  unfold Dk.write
  rw [if_neg (by rw [h.may hn];simp),if_neg (by omega),Int.toNat_natCast,if_neg,if_neg,goes_calm h.armed,hq]
  ·rfl
  ·have:D.there at_ (data.size / 64:Nat)=true:=by
    unfold Dk.there
    rw [hq,h.sectors]
    exact decide_eq_true ⟨h3,by omega,by omega⟩
   rw [this]
   decide
  ·unfold Dk.admits
   rw [if_neg (by simp [h0,he])]
   simp
 refine ⟨e1,?_⟩
 rw [e1]
 exact h.writeN n at_ data m (by omega)
structure Live (D:Dk):Prop where
 on:D.on=true
 sectors:D.sectors=37
theorem Calm.live (h:Calm D k):Live D:=⟨h.on,h.sectors⟩
theorem Live.read (h:Live D) {at_:Int} {n:Nat} (h1:1≤n) (h2:0≤at_) (h3:at_+n≤37):D.readE at_ n=0∧D.readS at_ n=str (D.readL at_ n):=by
 have e:D.readE at_ n=0:=by
  unfold Dk.readE
  rw [if_neg (by rw [h.on];decide),if_neg]
  have:D.there at_ n=true:=by
   unfold Dk.there
   rw [h.sectors]
   exact decide_eq_true ⟨h2,by omega,by omega⟩
  rw [this]
  simp
  omega
 refine ⟨e,?_⟩
 unfold Dk.readS
 rw [if_pos e,Int.toNat_natCast]
theorem Calm.read (h:Calm D k) {at_:Int} {n:Nat} (h1:1≤n) (h2:0≤at_) (h3:at_+n≤37):D.readE at_ n=0∧D.readS at_ n=str (D.readL at_ n):=h.live.read h1 h2 h3
end
theorem calm_fresh : Calm (Dk.fresh 37) 0:=⟨rfl,rfl,rfl,Nat.le_refl _,Nat.le_refl _,⟨(fun _ _ h=>by cases h),(fun _ _ h=>by cases h),(fun _ h=>by cases h)⟩⟩
theorem cells_fresh (n mn ml:Nat):(Dk.fresh n).cells mn ml (.slice none 0 0) (.slice none 0 0) =
 #[.int .i64 n, .bool true, .int .i64 0, .map (some mn), .map (some ml), .slice none 0 0,
  .int .u64 0, .int .u64 0, .int .u64 0, .int .u64 0, .int .u64 0, .int .u64 0, .int .u64 0, .int .u64 0, .int .u64 0, .int .u64 0, .int .u64 0, .int .u64 0, .int .u64 0, .int .u64 0, .int .u64 0, .int .u64 0, .int .u64 0,
  .int .u64 0, .int .u64 0, .int .u64 0, .int .u64 0, .int .u64 0, .int .u64 0, .int .u64 0, .int .u64 0, .int .u64 0, .int .u64 0, .int .u64 0, .int .u64 0, .int .u64 0, .int .u64 0, .int .u64 0, .int .u64 0, .int .u64 0,
  .int .u64 0, .bool false, .int .i64 0, .slice none 0 0]:=rfl
theorem fresh_in (o:Nat→Nat) (c:Nat) (w:World) (n:Nat) (_hc:1≤c):∃o',DiskAt o' c (((w.alloc (.map #[] 0)).alloc (.map #[] 0)).alloc (.cells ((Dk.fresh n).cells w.heap.size (w.heap.size+1) (.slice none 0 0) (.slice none 0 0)) 81)) (w.heap.size+2) (Dk.fresh n) ∧
 ∀C,Step o C w o' (((w.alloc (.map #[] 0)).alloc (.map #[] 0)).alloc (.cells ((Dk.fresh n).cells w.heap.size (w.heap.size+1) (.slice none 0 0) (.slice none 0 0)) 81)):=by
 obtain ⟨o1,h1,s1⟩:=alloc_as o w (.map #[] 0) (c+1)
 obtain ⟨o2,h2,s2⟩:=alloc_as o1 (w.alloc (.map #[] 0)) (.map #[] 0) (c+2)
 obtain ⟨o3,h3,s3⟩:=alloc_as o2 ((w.alloc (.map #[] 0)).alloc (.map #[] 0)) (.cells ((Dk.fresh n).cells w.heap.size (w.heap.size+1) (.slice none 0 0) (.slice none 0 0)) 81) c
 have hs1:(w.alloc (.map #[] 0)).heap.size=w.heap.size+1:=by simp
 have hs2:((w.alloc (.map #[] 0)).alloc (.map #[] 0)).heap.size=w.heap.size+2:=by simp
 have m1:=(MapR.newAs o1 w (c+1) h1).step s2 id
 have m2:=(MapR.newAs o2 (w.alloc (.map #[] 0)) (c+2) h2).step s3 id
 rw [hs1] at m2
 have m1':=m1.step s3 id
 have b:=Blk.new ((w.alloc (.map #[] 0)).alloc (.map #[] 0)) 81 ((Dk.fresh n).cells w.heap.size (w.heap.size+1) (.slice none 0 0) (.slice none 0 0))
 rw [hs2] at b h3
 refine ⟨o3,⟨w.heap.size,w.heap.size+1, .slice none 0 0, .slice none 0 0,⟨b,h3,m1',m2,OwnW.nil _ _ _ _ _,OwnW.nil _ _ _ _ _⟩⟩,fun C => ?_⟩
 exact ((s1.mono (fun _ h=>h.elim)).trans (s2.mono (fun _ h=>h.elim))).trans (s3.mono (fun _ h=>h.elim))
set_option maxRecDepth 100000 in
set_option maxHeartbeats 2000000 in
theorem dnew_any (o:Nat→Nat) (c:Nat) (hc:1≤c) (w:World) :
 Calls Tryz.prog 36 #[.int .i64 37] w fun e w'=>∃p,e = .returned (.pointer (some ⟨p,0,none⟩))∧∃o',DiskAt o' c w' p (Dk.fresh 37)∧∀C,Step o C w o' w':=by
 have HF:=Lib.hid (fresh_in o c w 37 hc)
 rw [cells_fresh] at HF
 have hmm := @run_makeMap Tryz.prog
 go_enter Tryz.func36,Tryz.ntmps36
 go_wp2_with fail
 go_ret
 exact ⟨w.heap.size+2,rfl,HF.out.choose,HF.out.choose_spec.1,HF.out.choose_spec.2⟩
end Go.Proofs.YtldoeodkeieejaaGreatDoor
