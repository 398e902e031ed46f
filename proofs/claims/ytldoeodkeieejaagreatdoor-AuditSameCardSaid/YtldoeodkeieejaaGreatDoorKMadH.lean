import Derived.Test.YtldoeodkeieejaaGreatDoorKMadE
namespace Go.Proofs.YtldoeodkeieejaaGreatDoor
open Go.RowKit
def xusedN (l:List Kp) (k:Nat):Nat:=(l.take k).foldl (fun n x=>n+x.n) 0
theorem xusedN_succ {l:List Kp} {k:Nat} {x:Kp} (h:l[k]? = some x):xusedN l (k+1)=xusedN l k+x.n:=by
 unfold xusedN
 rw [List.take_add_one,h]
 simp [List.foldl_append]
theorem xfoldl_ge (l:List Kp):∀a:Nat,a≤l.foldl (fun n x=>n+x.n) a:=by
 induction l with
 | nil=>exact fun a=>Nat.le_refl _
 | cons x l ih=>exact fun a=>Nat.le_trans (Nat.le_add_right a x.n) (ih (a+x.n))
theorem xusedN_le (l:List Kp) (k:Nat):xusedN l k≤xusedN l l.length:=by
 unfold xusedN
 rw [List.take_length]
 conv=>rhs;rw [←List.take_append_drop k l]
 rw [List.foldl_append]
 exact xfoldl_ge _ _
theorem Reads.kprow {w:World} {A:Option Addr} {l:List Kp} (h:Reads w 4 A l.length (kpcells l)) {k:Nat} {x:Kp} (hx:l[k]? = some x) :
 ∃ad,A=some ad∧w.cell? (ad.add (k*4))=some (.int .u64 x.lsn)∧w.cell? ⟨(ad.add (k*4)).block,(ad.add (k*4)).off+1,none⟩=some (.int .i64 x.at_)∧w.cell? ⟨(ad.add (k*4)).block,(ad.add (k*4)).off+2,none⟩=some (.int .i64 x.n)∧w.cell? ⟨(ad.add (k*4)).block,(ad.add (k*4)).off+3,none⟩=some (.string x.b):=by
 obtain ⟨ad,rfl,hc⟩:=Reads.row (f:=Kp.cells) (fun _=>rfl) h hx
 exact ⟨ad,rfl,hc 0 _ rfl,hc 1 _ rfl,hc 2 _ rfl,hc 3 _ rfl⟩
theorem kpcells_drop : ∀(l:List Kp) (k:Nat),kpcells (l.drop k)=(kpcells l).drop (k*4)
 | l,0=>by simp
 | [],k+1=>by simp [kpcells]
 | y :: l,k+1=>by
   rw [show (k+1)*4=k*4+1+1+1+1 from by omega]
   show kpcells (l.drop k)=(kpcells l).drop (k*4)
   exact kpcells_drop l k
theorem kpcells_one (l:List Kp):∀u∈kpcells l,u.oneCell'=true:=by
 intro u hu
 unfold kpcells at hu
 obtain ⟨x,_,hx⟩:=List.mem_flatMap.1 hu
 simp [Kp.cells] at hx
 rcases hx with rfl | rfl | rfl | rfl <;> rfl
theorem info_kp : (Tryz.prog.info? 204).map (fun i=>(i.zero,i.size,i.bytes))=some (some (.agg #[.int .u64 0, .int .i64 0, .int .i64 0, .string ⟨#[]⟩]),4,40):=by kernel_rfl
theorem drop_at {f:Kp→Bool}:∀ {l:List Kp} {i:Nat},i≤l.length→(∀j y,j<i→l[j]? = some y→f y=true)→(∀y,l[i]? = some y→f y=false)→l.dropWhile f=l.drop i
 | [],i,_,_,_=>by simp
 | x :: l,0,_,_,h2=>by rw [List.dropWhile_cons_of_neg (by rw [h2 x rfl];decide)];rfl
 | x :: l,i+1,h0,h1,h2=>by
   rw [List.dropWhile_cons_of_pos (h1 0 x (by omega) rfl)]
   exact drop_at (by simpa using h0) (fun j y hj hy=>h1 (j+1) y (by omega) hy) (fun y hy=>h2 y hy)
section
variable {o o':Nat→Nat} {c cr p q k:Nat} {C:Nat→Prop} {w w':World} {x:XL} {R:RF}
theorem XLAt.row (h:XLAt o c w q x p):∃A cap,Hid (Blk w q 132 (x.cells p (.slice A x.l.length cap)))∧Hid (o q=c)∧Hid (OwnS o (c+1) w 204 4 (.slice A x.l.length cap) x.l.length (kpcells x.l))∧w.cell? ⟨q,8,none⟩=some (.slice A x.l.length cap)∧x.l.length≤cap∧cap≤maxLen:=by
 obtain ⟨lv,hb,hc,ho⟩:=h
 obtain ⟨A,cap,rfl,h1,h2⟩:=own_form' ho
 exact ⟨A,cap,hb,hc,ho,hb.cell 8,h1,h2⟩
set_option maxRecDepth 100000 in
set_option maxHeartbeats 2000000 in
theorem xlused_any (h:XLAt o c w q x p) (hl:x.l.length≤100000) (hu:x.used≤1000000):Calls Tryz.prog 124 #[.pointer (some ⟨q,0,none⟩)] w fun e w'=>e = .returned (.int .i64 x.used)∧w'=w:=by
 obtain ⟨A,cap,HB,HC,HO,x8,hcap,hcm⟩:=h.row
 have hlI:(x.l.length:Int)≤100000:=by omega
 have hcmI:(cap:Int)≤9223372036854775807:=by unfold maxLen at hcm;omega
 have HU:=Lib.hid hu
 have HL:=Lib.hid hl
 have HR:=Lib.hid (Reads.of_own HO.out.1)
 have HUE:=Lib.hid (show xusedN x.l x.l.length=x.used by unfold xusedN XL.used;rw [List.take_length])
 clear h hl hu hcap hcm HB HC HO
 go_enter Tryz.func124,Tryz.ntmps124
 go_wp2_with fail
 go_loopg [3,4] x.l.length (fun n t3 t4 wr=>∃i:Nat,n+i=x.l.length∧t3 = .int .i64 (xusedN x.l i:Nat)∧t4 = .int .i64 (i:Nat)∧wr=w)
 case atStart=>exact ⟨0,by omega,rfl,rfl,rfl⟩
 case round =>
  obtain ⟨i,hni,rfl,rfl,rfl⟩:=hrel
  have HNI:=Lib.hid hni
  clear hni
  by_cases hlt:i<x.l.length
  ·have hltI:(i:Int)<(x.l.length:Int):=by omega
   obtain ⟨y,hy⟩:∃y,x.l[i]? = some y:=⟨_,List.getElem?_eq_getElem hlt⟩
   obtain ⟨ad,rfl,y0,y1,y2,y3⟩:=HR.out.kprow hy
   have HUS:=Lib.hid (xusedN_succ hy)
   have HUB:=Lib.hid (show xusedN x.l (i+1)≤1000000 from Nat.le_trans (xusedN_le _ _) (by rw [HUE.out];exact HU.out))
   have hw0:IntKind.i64.wrap ((xusedN x.l i:Int)+(y.n:Int))=((xusedN x.l (i+1):Nat):Int):=by rw [IntWalk.i64_in _ (by have:=HUS.out;have:=HUB.out;omega)];have:=HUS.out;omega
   clear hy y0 y1 y3
   go_wp2_with fail
   go_roundg (x.l.length - (i+1))
   case measure=>have:=HNI.out;omega
   case rel=>exact ⟨i+1,by omega,by first | rfl | rw [hw0],by go_num,rfl⟩
  ·have hltI:¬(i:Int)<(x.l.length:Int):=by omega
   obtain rfl:i=x.l.length:=by have:=HNI.out;omega
   rw [HUE.out]
   go_wp2_with fail
   go_ret
   exact ⟨rfl,rfl⟩
def xlC (cr c:Nat):Nat→Prop:=fun y=>cutF cr y∨y=c∨y=c+1
theorem xlC_disk (cr c:Nat):∀y,cutF cr y→xlC cr c y:=fun _ h => .inl h
theorem xlC_log (cr c:Nat):∀y,only c y→xlC cr c y:=fun _ h => .inr (.inl h)
theorem xlC_row (cr c:Nat):∀y,only (c+1) y→xlC cr c y:=fun _ h => .inr (.inr h)
def apart2 (cr c:Nat):Prop:=cr+3<c
theorem XLAt.setB (h:XLAt o c w q x p) (_hc:apart2 cr c):XLAt o c (w.setCell ⟨q,16,none⟩ (.bool true)) q {x with broken:=true} p∧Step o (xlC cr c) w o (w.setCell ⟨q,16,none⟩ (.bool true)):=by
 obtain ⟨lv,hb,hc,ho⟩:=h
 have hs:Step o (only c) w o (w.setCell ⟨q,16,none⟩ (.bool true)):=(Step.refl o (only c) w).setCell (p:=⟨q,16,none⟩) hc _
 exact ⟨⟨lv,hb.set_ 16 _,hc,ho.step hs (by unfold only;omega)⟩,hs.mono (xlC_log cr c)⟩
set_option maxRecDepth 100000 in
set_option maxHeartbeats 4000000 in
theorem xlfree_any (h:XLAt o c w q x p) (hd:RFAt o cr w p R) (hf:Fit R k) (hk:k≤80000) (hap:apart2 cr c) (hx:x.node=1) (he:x.epoch<18446744073709551616) (hl:x.l.length≤1000) (hsy:x.sync≤1000000) (b:Nat) (hb:b<18446744073709551616) :
 Calls Tryz.prog 65 #[.pointer (some ⟨q,0,none⟩), .int .u64 b] w fun e w'=>e = .returned (.int .i64 (xfreeR 1 R x b).e)∧∃o',RFAt o' cr w' p (xfreeR 1 R x b).R∧XLAt o' c w' q (xfreeR 1 R x b).x p∧Fit (xfreeR 1 R x b).R (k+1)∧Step o (xlC cr c) w o' w':=by
 obtain ⟨A,cap,HB,HC,HO,x8,hcap,hcm⟩:=h.row
 have H:=Lib.hid h
 have HD:=Lib.hid hd
 have HF:=Lib.hid hf
 have HK:=Lib.hid hk
 have HAP:=Lib.hid hap
 have HE:=Lib.hid he
 have HBB:=Lib.hid hb
 have HL:=Lib.hid hl
 have HR:=Lib.hid (Reads.of_own HO.out.1)
 have hlI:(x.l.length:Int)≤1000:=by omega
 have hcmI:(cap:Int)≤9223372036854775807:=by unfold maxLen at hcm;omega
 have x16:w.cell? ⟨q,16,none⟩=some (.bool x.broken):=HB.out.cell 16
 have x13:w.cell? ⟨q,13,none⟩=some (.int .u64 x.sync):=HB.out.cell 13
 have x11:w.cell? ⟨q,11,none⟩=some (.int .u64 x.first):=HB.out.cell 11
 have x14:w.cell? ⟨q,14,none⟩=some (.int .i64 x.place):=HB.out.cell 14
 obtain ⟨i0,hi,hz0,hz1,hz2⟩:=info_parts info_kp
 clear h hd hf hk hap he hb hl
 by_cases hbr:x.broken=true
 ·rw [show xfreeR 1 R x b=⟨13,R,x⟩ from if_pos hbr]
  rw [hbr] at x16
  clear x8 x13 x11 x14
  go_enter Tryz.func65,Tryz.ntmps65
  go_wp2_with fail
  go_ret
  exact ⟨rfl,o,HD.out,H.out,HF.out.more (by omega),Step.refl _ _ _⟩
 have hbr2:x.broken=false:=by simpa using hbr
 rw [hbr2] at x16
 have hsw:IntKind.u64.wrap ((x.sync:Int)+1)=((x.sync+1:Nat):Int):=by rw [IntWalk.u64_in _ (by omega)];omega
 by_cases c1:x.sync+1<b
 ·rw [show xfreeR 1 R x b=⟨1,R,x⟩ from (if_neg hbr).trans (if_pos c1)]
  have c1I:((x.sync+1:Nat):Int)<(b:Int):=by omega
  clear x8 x11 x14
  go_enter Tryz.func65,Tryz.ntmps65
  go_wp2_with fail
  go_ret
  exact ⟨rfl,o,HD.out,H.out,HF.out.more (by omega),Step.refl _ _ _⟩
 have c1I:¬((x.sync+1:Nat):Int)<(b:Int):=by omega
 by_cases c2:b≤x.first
 ·rw [show xfreeR 1 R x b=⟨0,R,x⟩ from (if_neg hbr).trans ((if_neg c1).trans (if_pos c2))]
  have c2I:(b:Int)≤(x.first:Int):=by omega
  clear x8 x14
  go_enter Tryz.func65,Tryz.ntmps65
  go_wp2_with fail
  go_ret
  exact ⟨rfl,o,HD.out,H.out,HF.out.more (by omega),Step.refl _ _ _⟩
 have c2I:¬(b:Int)≤(x.first:Int):=by omega
 have HXE:=Lib.hid (show xfreeR 1 R x b=if (R.lhead 1 x.epoch 1 ⟨x.epoch,b,(x.leftAt b:Int)⟩).1≠0 then ⟨(R.lhead 1 x.epoch 1 ⟨x.epoch,b,(x.leftAt b:Int)⟩).1,(R.lhead 1 x.epoch 1 ⟨x.epoch,b,(x.leftAt b:Int)⟩).2,{x with broken:=true}⟩
  else ⟨0,(R.lhead 1 x.epoch 1 ⟨x.epoch,b,(x.leftAt b:Int)⟩).2,{x with l:=x.left b,first:=b,dirty:=false,sync:=x.wrote}⟩ from by
  rw [←hx]
  exact (if_neg hbr).trans ((if_neg c1).trans (if_neg c2)))
 have HLH:=Lib.hid (HF.out.lhead 1 x.epoch 1 ⟨x.epoch,b,(x.leftAt b:Int)⟩)
 go_enter Tryz.func65,Tryz.ntmps65
 go_upto_block 0 with (fail)
 clear x16 x13 x11 hsw c1I c2I hbr c1 c2
 go_cut [5] from 8 (fun t5 wx=>∃i:Nat,i≤x.l.length∧x.left b=x.l.drop i∧t5 = .int .i64 (i:Nat)∧wx=w)
 case first =>
  go_wp2_with fail
  go_loopg [5] x.l.length (fun n t5 wr=>∃i:Nat,n+i=x.l.length∧(∀j y,j<i→x.l[j]? = some y→decide (y.lsn<b)=true)∧t5 = .int .i64 (i:Nat)∧wr=w)
  case atStart=>exact ⟨0,by omega,fun j y hj=>by omega,rfl,rfl⟩
  case round =>
   obtain ⟨i,hni,hbe,rfl,rfl⟩:=hrel
   have HNI:=Lib.hid hni
   have HBE:=Lib.hid hbe
   clear hni hbe
   by_cases hlt:i<x.l.length
   ·have hltI:(i:Int)<(x.l.length:Int):=by omega
    obtain ⟨y,hy⟩:∃y,x.l[i]? = some y:=⟨_,List.getElem?_eq_getElem hlt⟩
    obtain ⟨ad,rfl,y0,y1,y2,y3⟩:=HR.out.kprow hy
    have HY:=Lib.hid hy
    clear hy y1 y2 y3
    by_cases hq:y.lsn<b
    ·have hqI:(y.lsn:Int)<(b:Int):=by omega
     go_wp2_with fail
     go_roundg (x.l.length - (i+1))
     case measure=>have:=HNI.out;omega
     case rel =>
      refine ⟨i+1,by omega,fun j z hj hz => ?_,by go_num,rfl⟩
      by_cases hji:j<i
      ·exact HBE.out j z hji hz
      ·obtain rfl:j=i:=by omega
       rw [HY.out] at hz
       injection hz with hz
       subst hz
       exact decide_eq_true hq
    ·have hqI:¬(y.lsn:Int)<(b:Int):=by omega
     have hdr:=drop_at (f:=fun k:Kp=>decide (k.lsn<b)) (Nat.le_of_lt hlt) HBE.out (fun z hz=>by rw [HY.out] at hz;injection hz with hz;subst hz;exact decide_eq_false hq)
     have HDR:=Lib.hid hdr
     clear hdr
     go_wp2_with fail
     go_meet
     case rel=>exact ⟨i,by omega,HDR.out,rfl,rfl⟩
   ·have hltI:¬(i:Int)<(x.l.length:Int):=by omega
    obtain rfl:i=x.l.length:=by have:=HNI.out;omega
    have hdr:=drop_at (f:=fun k:Kp=>decide (k.lsn<b)) (Nat.le_refl _) HBE.out (fun z hz=>by rw [List.getElem?_eq_none (Nat.le_refl _)] at hz;cases hz)
    have HDR:=Lib.hid hdr
    clear hdr
    go_wp2_with fail
    go_meet
    case rel=>exact ⟨x.l.length,Nat.le_refl _,HDR.out,rfl,rfl⟩
 case rest =>
  obtain ⟨i,hil,hdl,rfl,rfl⟩:=hcut
  have HIL:=Lib.hid hil
  have HDL:=Lib.hid hdl
  have hilI:(i:Int)≤(x.l.length:Int):=by omega
  clear hil hdl
  by_cases hlt:i<x.l.length
  ·have hltI:(i:Int)<(x.l.length:Int):=by omega
   obtain ⟨y,hy⟩:∃y,x.l[i]? = some y:=⟨_,List.getElem?_eq_getElem hlt⟩
   obtain ⟨ad,rfl,y0,y1,y2,y3⟩:=HR.out.kprow hy
   have ha:x.leftAt b=y.at_:=by
    unfold XL.leftAt
    rw [HDL.out,List.drop_eq_getElem_cons hlt]
    have:=(List.getElem?_eq_some_iff.1 hy).2
    simp only [this]
   obtain ⟨a6,ha6⟩:∃a6,y.at_=a6:=⟨_,rfl⟩
   rw [ha6] at ha y1
   have HA6:=Lib.hid ha
   clear ha ha6 hy y0 y2 y3
   go_upto_region 13 with (fail)
   all_goals (
    have hxe:=HXE.out
    have hlh:=HLH.out
    rw [HA6.out] at hxe hlh
    go_wp2_with fail
    refine (xlhead_any H.out HD.out HF.out HK.out (by have:=HAP.out;unfold apart2 at this;omega) (by have:=HAP.out;unfold apart2 at this;omega) HE.out b HBB.out (a6:Int)).mono ?_
    rintro e w1 ⟨rfl,o1,hd1,hs1⟩
    have HN1:=Lib.hid (show ¬cutF cr c by have:=HAP.out;unfold apart2 at this;unfold cutF;omega)
    have HN2:=Lib.hid (show ¬cutF cr (c+1) by have:=HAP.out;unfold apart2 at this;unfold cutF;omega)
    have h1:=H.out.step hs1 HN1.out HN2.out
    generalize R.lhead 1 x.epoch 1 ⟨x.epoch,b,(a6:Int)⟩=F at hxe hlh hd1 ⊢
    obtain ⟨E,R1⟩:=F
    simp only at hxe hlh hd1 ⊢
    have HD1:=Lib.hid hd1
    have HS1:=Lib.hid hs1
    have HLF:=Lib.hid hlh
    obtain ⟨A9,cap9,HB9,HC9,HO9,y8,hcap9,hcm9⟩:=h1.row
    have H1:=Lib.hid h1
    clear hd1 hs1 hlh h1
    by_cases h0:E=0
    ·subst h0
     have HXF:=Lib.hid (show xfreeR 1 R x b=⟨0,R1,{x with l:=x.left b,first:=b,dirty:=false,sync:=x.wrote}⟩ by rw [hxe];rfl)
     have hcm9I:(cap9:Int)≤9223372036854775807:=by unfold maxLen at hcm9;omega
     have hc9I:(i:Int)≤(cap9:Int):=by omega
     have f8:=HB9.out.frozen 8
     clear hxe hcm9
     have hrc:=Reads.cut (Reads.of_own HO9.out.1) HIL.out hcap9
     by_cases hci:cap9=i
     ·have hle:x.l.length=i:=by have:=HIL.out;omega
      rw [hle,hci] at y8
      have HLE:=Lib.hid hle
      clear hrc hle hci hcap9 hc9I hilI hltI
      go_wp2_with (at_builtin;refine wpList_append_S _ rfl (.const (.slice none 0 0)) (.tmp 82) 130 rfl 204 i0 _ 4 40 Tryz.underlying130 hi hz0 hz1 hz2 rfl (by omega) (.slice none 0 0) 0 [] rfl (OwnS.nil o1 (c+1) _ _ _) _ 0 0 [] rfl (Reads.none_ _ _ _) (by simp) (by unfold maxLen;omega) (by omega) ?_;intro v7 w7 hown hst hg hat;simp only [Nat.zero_add,List.nil_append] at hown;obtain ⟨A7,cap7,rfl,_,_⟩:=own_form' hown;have hb7:=HB9.out.step hst (by rw [HC9.out];unfold only;omega);have z8:w7.cell? ⟨q,8,none⟩=some (.slice A9 x.l.length cap9):=hb7.cell 8;have z11:w7.cell? ⟨q,11,none⟩=some (.int .u64 x.first):=hb7.cell 11;have z12:w7.cell? ⟨q,12,none⟩=some (.int .u64 x.wrote):=hb7.cell 12;have z13:w7.cell? ⟨q,13,none⟩=some (.int .u64 x.sync):=hb7.cell 13;have z15:w7.cell? ⟨q,15,none⟩=some (.bool x.dirty):=hb7.cell 15;have g8:=hb7.frozen 8;have g11:=hb7.frozen 11;have g13:=hb7.frozen 13;have g15:=hb7.frozen 15;have HB7:=Lib.hid hb7;have HO7:=Lib.hid hown;have HS7:=Lib.hid hst;clear hown hst hg hat hb7)
      go_ret
      have hc7:=(HS7.out.old q HB9.out.lt).trans HC9.out
      have hsx:Step (band o1 w1.heap.size w7.heap.size (c+1)) (only c) w7 (band o1 w1.heap.size w7.heap.size (c+1)) ((((w7.setCell ⟨q,8,none⟩ (.slice A7 (0) cap7)).setCell ⟨q,11,none⟩ (.int .u64 b)).setCell ⟨q,15,none⟩ (.bool false)).setCell ⟨q,13,none⟩ (.int .u64 x.wrote)):=((((Step.refl _ (only c) w7).setCell (p:=⟨q,8,none⟩) hc7 _).setCell (p:=⟨q,11,none⟩) hc7 _).setCell (p:=⟨q,15,none⟩) hc7 _).setCell (p:=⟨q,13,none⟩) hc7 _
      refine ⟨by rw [HXF.out];first | done | rfl,_,?_,?_,?_,((HS1.out.mono (xlC_disk cr c)).trans (HS7.out.mono (xlC_row cr c))).trans (hsx.mono (xlC_log cr c))⟩
      ·rw [HXF.out]
       exact (HD1.out.step HS7.out (by have:=HAP.out;unfold apart2 at this;unfold three only;omega)).step hsx (by have:=HAP.out;unfold apart2 at this;unfold three only;omega)
      ·rw [HXF.out]
       refine ⟨.slice A7 (0) cap7,(((HB7.out.set_ 8 _).set_ 11 _).set_ 15 _).set_ 13 _,hc7,?_⟩
       show OwnS _ _ _ _ _ _ (x.left b).length (kpcells (x.left b))
       rw [HDL.out,List.drop_of_length_le (Nat.le_of_eq HLE.out)]
       exact HO7.out.step hsx (by unfold only;omega)
      ·rw [HXF.out]
       exact HLF.out
     ·rw [if_neg hci] at hrc
      go_wp2_with (at_builtin;refine wpList_append_S _ rfl (.const (.slice none 0 0)) (.tmp 82) 130 rfl 204 i0 _ 4 40 Tryz.underlying130 hi hz0 hz1 hz2 rfl (by omega) (.slice none 0 0) 0 [] rfl (OwnS.nil o1 (c+1) _ _ _) _ (x.l.length - i) (cap9 - i) ((kpcells x.l).drop (i*4)) rfl hrc (fun u hu=>kpcells_one x.l u (List.mem_of_mem_drop hu)) (by unfold maxLen;have:=HL.out;omega) (by have:=HL.out;omega) ?_;intro v7 w7 hown hst hg hat;simp only [Nat.zero_add,List.nil_append] at hown;obtain ⟨A7,cap7,rfl,_,_⟩:=own_form' hown;have hb7:=HB9.out.step hst (by rw [HC9.out];unfold only;omega);have z8:w7.cell? ⟨q,8,none⟩=some (.slice A9 x.l.length cap9):=hb7.cell 8;have z11:w7.cell? ⟨q,11,none⟩=some (.int .u64 x.first):=hb7.cell 11;have z12:w7.cell? ⟨q,12,none⟩=some (.int .u64 x.wrote):=hb7.cell 12;have z13:w7.cell? ⟨q,13,none⟩=some (.int .u64 x.sync):=hb7.cell 13;have z15:w7.cell? ⟨q,15,none⟩=some (.bool x.dirty):=hb7.cell 15;have g8:=hb7.frozen 8;have g11:=hb7.frozen 11;have g13:=hb7.frozen 13;have g15:=hb7.frozen 15;have HB7:=Lib.hid hb7;have HO7:=Lib.hid hown;have HS7:=Lib.hid hst;clear hown hst hg hat hb7)
      go_ret
      have hc7:=(HS7.out.old q HB9.out.lt).trans HC9.out
      have hsx:Step (band o1 w1.heap.size w7.heap.size (c+1)) (only c) w7 (band o1 w1.heap.size w7.heap.size (c+1)) ((((w7.setCell ⟨q,8,none⟩ (.slice A7 (x.l.length - i) cap7)).setCell ⟨q,11,none⟩ (.int .u64 b)).setCell ⟨q,15,none⟩ (.bool false)).setCell ⟨q,13,none⟩ (.int .u64 x.wrote)):=((((Step.refl _ (only c) w7).setCell (p:=⟨q,8,none⟩) hc7 _).setCell (p:=⟨q,11,none⟩) hc7 _).setCell (p:=⟨q,15,none⟩) hc7 _).setCell (p:=⟨q,13,none⟩) hc7 _
      refine ⟨by rw [HXF.out];first | done | rfl,_,?_,?_,?_,((HS1.out.mono (xlC_disk cr c)).trans (HS7.out.mono (xlC_row cr c))).trans (hsx.mono (xlC_log cr c))⟩
      ·rw [HXF.out]
       exact (HD1.out.step HS7.out (by have:=HAP.out;unfold apart2 at this;unfold three only;omega)).step hsx (by have:=HAP.out;unfold apart2 at this;unfold three only;omega)
      ·rw [HXF.out]
       refine ⟨.slice A7 (x.l.length - i) cap7,(((HB7.out.set_ 8 _).set_ 11 _).set_ 15 _).set_ 13 _,hc7,?_⟩
       show OwnS _ _ _ _ _ _ (x.left b).length (kpcells (x.left b))
       rw [HDL.out,List.length_drop,kpcells_drop]
       exact HO7.out.step hsx (by unfold only;omega)
      ·rw [HXF.out]
       exact HLF.out
    ·have t1:(E != 0)=true:=bne_iff_ne.2 h0
     have HXF:=Lib.hid (show xfreeR 1 R x b=⟨E,R1,{x with broken:=true}⟩ by rw [hxe,if_pos h0])
     have y16:w1.cell? ⟨q,16,none⟩=some (.bool x.broken):=HB9.out.cell 16
     have f16:=HB9.out.frozen 16
     have HXB:=Lib.hid (H1.out.setB HAP.out)
     clear hxe h0 y8 hcap9 hcm9
     go_wp2_with fail
     go_ret
     refine ⟨by rw [HXF.out];first | done | rfl,o1,?_,?_,?_,(HS1.out.mono (xlC_disk cr c)).trans HXB.out.2⟩
     ·rw [HXF.out]
      exact HD1.out.step ((Step.refl o1 (only c) w1).setCell (p:=⟨q,16,none⟩) HC9.out _) (by have:=HAP.out;unfold apart2 at this;unfold three only;omega)
     ·rw [HXF.out]
      exact HXB.out.1
     ·rw [HXF.out]
      exact HLF.out)
  ·have hltI:¬(i:Int)<(x.l.length:Int):=by omega
   have ha:x.leftAt b=x.place:=by
    unfold XL.leftAt
    rw [HDL.out,List.drop_of_length_le (by omega)]
   obtain ⟨a6,ha6⟩:∃a6,x.place=a6:=⟨_,rfl⟩
   rw [ha6] at ha x14
   have HA6:=Lib.hid ha
   clear ha ha6
   go_upto_region 13 with (fail)
   all_goals (
    have hxe:=HXE.out
    have hlh:=HLH.out
    rw [HA6.out] at hxe hlh
    go_wp2_with fail
    refine (xlhead_any H.out HD.out HF.out HK.out (by have:=HAP.out;unfold apart2 at this;omega) (by have:=HAP.out;unfold apart2 at this;omega) HE.out b HBB.out (a6:Int)).mono ?_
    rintro e w1 ⟨rfl,o1,hd1,hs1⟩
    have HN1:=Lib.hid (show ¬cutF cr c by have:=HAP.out;unfold apart2 at this;unfold cutF;omega)
    have HN2:=Lib.hid (show ¬cutF cr (c+1) by have:=HAP.out;unfold apart2 at this;unfold cutF;omega)
    have h1:=H.out.step hs1 HN1.out HN2.out
    generalize R.lhead 1 x.epoch 1 ⟨x.epoch,b,(a6:Int)⟩=F at hxe hlh hd1 ⊢
    obtain ⟨E,R1⟩:=F
    simp only at hxe hlh hd1 ⊢
    have HD1:=Lib.hid hd1
    have HS1:=Lib.hid hs1
    have HLF:=Lib.hid hlh
    obtain ⟨A9,cap9,HB9,HC9,HO9,y8,hcap9,hcm9⟩:=h1.row
    have H1:=Lib.hid h1
    clear hd1 hs1 hlh h1
    by_cases h0:E=0
    ·subst h0
     have HXF:=Lib.hid (show xfreeR 1 R x b=⟨0,R1,{x with l:=x.left b,first:=b,dirty:=false,sync:=x.wrote}⟩ by rw [hxe];rfl)
     have hcm9I:(cap9:Int)≤9223372036854775807:=by unfold maxLen at hcm9;omega
     have hc9I:(i:Int)≤(cap9:Int):=by omega
     have f8:=HB9.out.frozen 8
     clear hxe hcm9
     have hrc:=Reads.cut (Reads.of_own HO9.out.1) HIL.out hcap9
     by_cases hci:cap9=i
     ·have hle:x.l.length=i:=by have:=HIL.out;omega
      rw [hle,hci] at y8
      have HLE:=Lib.hid hle
      clear hrc hle hci hcap9 hc9I hilI hltI
      go_wp2_with (at_builtin;refine wpList_append_S _ rfl (.const (.slice none 0 0)) (.tmp 82) 130 rfl 204 i0 _ 4 40 Tryz.underlying130 hi hz0 hz1 hz2 rfl (by omega) (.slice none 0 0) 0 [] rfl (OwnS.nil o1 (c+1) _ _ _) _ 0 0 [] rfl (Reads.none_ _ _ _) (by simp) (by unfold maxLen;omega) (by omega) ?_;intro v7 w7 hown hst hg hat;simp only [Nat.zero_add,List.nil_append] at hown;obtain ⟨A7,cap7,rfl,_,_⟩:=own_form' hown;have hb7:=HB9.out.step hst (by rw [HC9.out];unfold only;omega);have z8:w7.cell? ⟨q,8,none⟩=some (.slice A9 x.l.length cap9):=hb7.cell 8;have z11:w7.cell? ⟨q,11,none⟩=some (.int .u64 x.first):=hb7.cell 11;have z12:w7.cell? ⟨q,12,none⟩=some (.int .u64 x.wrote):=hb7.cell 12;have z13:w7.cell? ⟨q,13,none⟩=some (.int .u64 x.sync):=hb7.cell 13;have z15:w7.cell? ⟨q,15,none⟩=some (.bool x.dirty):=hb7.cell 15;have g8:=hb7.frozen 8;have g11:=hb7.frozen 11;have g13:=hb7.frozen 13;have g15:=hb7.frozen 15;have HB7:=Lib.hid hb7;have HO7:=Lib.hid hown;have HS7:=Lib.hid hst;clear hown hst hg hat hb7)
      go_ret
      have hc7:=(HS7.out.old q HB9.out.lt).trans HC9.out
      have hsx:Step (band o1 w1.heap.size w7.heap.size (c+1)) (only c) w7 (band o1 w1.heap.size w7.heap.size (c+1)) ((((w7.setCell ⟨q,8,none⟩ (.slice A7 (0) cap7)).setCell ⟨q,11,none⟩ (.int .u64 b)).setCell ⟨q,15,none⟩ (.bool false)).setCell ⟨q,13,none⟩ (.int .u64 x.wrote)):=((((Step.refl _ (only c) w7).setCell (p:=⟨q,8,none⟩) hc7 _).setCell (p:=⟨q,11,none⟩) hc7 _).setCell (p:=⟨q,15,none⟩) hc7 _).setCell (p:=⟨q,13,none⟩) hc7 _
      refine ⟨by rw [HXF.out];first | done | rfl,_,?_,?_,?_,((HS1.out.mono (xlC_disk cr c)).trans (HS7.out.mono (xlC_row cr c))).trans (hsx.mono (xlC_log cr c))⟩
      ·rw [HXF.out]
       exact (HD1.out.step HS7.out (by have:=HAP.out;unfold apart2 at this;unfold three only;omega)).step hsx (by have:=HAP.out;unfold apart2 at this;unfold three only;omega)
      ·rw [HXF.out]
       refine ⟨.slice A7 (0) cap7,(((HB7.out.set_ 8 _).set_ 11 _).set_ 15 _).set_ 13 _,hc7,?_⟩
       show OwnS _ _ _ _ _ _ (x.left b).length (kpcells (x.left b))
       rw [HDL.out,List.drop_of_length_le (Nat.le_of_eq HLE.out)]
       exact HO7.out.step hsx (by unfold only;omega)
      ·rw [HXF.out]
       exact HLF.out
     ·rw [if_neg hci] at hrc
      go_wp2_with (at_builtin;refine wpList_append_S _ rfl (.const (.slice none 0 0)) (.tmp 82) 130 rfl 204 i0 _ 4 40 Tryz.underlying130 hi hz0 hz1 hz2 rfl (by omega) (.slice none 0 0) 0 [] rfl (OwnS.nil o1 (c+1) _ _ _) _ (x.l.length - i) (cap9 - i) ((kpcells x.l).drop (i*4)) rfl hrc (fun u hu=>kpcells_one x.l u (List.mem_of_mem_drop hu)) (by unfold maxLen;have:=HL.out;omega) (by have:=HL.out;omega) ?_;intro v7 w7 hown hst hg hat;simp only [Nat.zero_add,List.nil_append] at hown;obtain ⟨A7,cap7,rfl,_,_⟩:=own_form' hown;have hb7:=HB9.out.step hst (by rw [HC9.out];unfold only;omega);have z8:w7.cell? ⟨q,8,none⟩=some (.slice A9 x.l.length cap9):=hb7.cell 8;have z11:w7.cell? ⟨q,11,none⟩=some (.int .u64 x.first):=hb7.cell 11;have z12:w7.cell? ⟨q,12,none⟩=some (.int .u64 x.wrote):=hb7.cell 12;have z13:w7.cell? ⟨q,13,none⟩=some (.int .u64 x.sync):=hb7.cell 13;have z15:w7.cell? ⟨q,15,none⟩=some (.bool x.dirty):=hb7.cell 15;have g8:=hb7.frozen 8;have g11:=hb7.frozen 11;have g13:=hb7.frozen 13;have g15:=hb7.frozen 15;have HB7:=Lib.hid hb7;have HO7:=Lib.hid hown;have HS7:=Lib.hid hst;clear hown hst hg hat hb7)
      go_ret
      have hc7:=(HS7.out.old q HB9.out.lt).trans HC9.out
      have hsx:Step (band o1 w1.heap.size w7.heap.size (c+1)) (only c) w7 (band o1 w1.heap.size w7.heap.size (c+1)) ((((w7.setCell ⟨q,8,none⟩ (.slice A7 (x.l.length - i) cap7)).setCell ⟨q,11,none⟩ (.int .u64 b)).setCell ⟨q,15,none⟩ (.bool false)).setCell ⟨q,13,none⟩ (.int .u64 x.wrote)):=((((Step.refl _ (only c) w7).setCell (p:=⟨q,8,none⟩) hc7 _).setCell (p:=⟨q,11,none⟩) hc7 _).setCell (p:=⟨q,15,none⟩) hc7 _).setCell (p:=⟨q,13,none⟩) hc7 _
      refine ⟨by rw [HXF.out];first | done | rfl,_,?_,?_,?_,((HS1.out.mono (xlC_disk cr c)).trans (HS7.out.mono (xlC_row cr c))).trans (hsx.mono (xlC_log cr c))⟩
      ·rw [HXF.out]
       exact (HD1.out.step HS7.out (by have:=HAP.out;unfold apart2 at this;unfold three only;omega)).step hsx (by have:=HAP.out;unfold apart2 at this;unfold three only;omega)
      ·rw [HXF.out]
       refine ⟨.slice A7 (x.l.length - i) cap7,(((HB7.out.set_ 8 _).set_ 11 _).set_ 15 _).set_ 13 _,hc7,?_⟩
       show OwnS _ _ _ _ _ _ (x.left b).length (kpcells (x.left b))
       rw [HDL.out,List.length_drop,kpcells_drop]
       exact HO7.out.step hsx (by unfold only;omega)
      ·rw [HXF.out]
       exact HLF.out
    ·have t1:(E != 0)=true:=bne_iff_ne.2 h0
     have HXF:=Lib.hid (show xfreeR 1 R x b=⟨E,R1,{x with broken:=true}⟩ by rw [hxe,if_pos h0])
     have y16:w1.cell? ⟨q,16,none⟩=some (.bool x.broken):=HB9.out.cell 16
     have f16:=HB9.out.frozen 16
     have HXB:=Lib.hid (H1.out.setB HAP.out)
     clear hxe h0 y8 hcap9 hcm9
     go_wp2_with fail
     go_ret
     refine ⟨by rw [HXF.out];first | done | rfl,o1,?_,?_,?_,(HS1.out.mono (xlC_disk cr c)).trans HXB.out.2⟩
     ·rw [HXF.out]
      exact HD1.out.step ((Step.refl o1 (only c) w1).setCell (p:=⟨q,16,none⟩) HC9.out _) (by have:=HAP.out;unfold apart2 at this;unfold three only;omega)
     ·rw [HXF.out]
      exact HXB.out.1
     ·rw [HXF.out]
      exact HLF.out)
end
theorem xputGo_le {node epoch base f i:Nat} {y:Kp} {R:RF} (h:y.n≤i):xputGo node epoch base y f i R=(0,R):=by
 cases f with
 | zero=>rfl
 | succ f=>exact if_pos h
theorem xwrGo_cons (base:Nat) (y:Kp) (l:List Kp) (R:RF) (x:XL):xwrGo base (y :: l) R x=if (R.put_ x.node x.epoch base y).1≠0 then ⟨(R.put_ x.node x.epoch base y).1,(R.put_ x.node x.epoch base y).2,{x with broken:=true}⟩
 else xwrGo base l (R.put_ x.node x.epoch base y).2 {x with wrote:=y.lsn,dirty:=true,wait:=x.wait - 1}:=rfl
def Kps (l:List Kp):Prop:=∀y∈l,y.at_<7∧y.n≤7∧y.b.size=y.n*64
section
variable {o o':Nat→Nat} {c cr p q k:Nat} {C:Nat→Prop} {w w':World} {x:XL} {R:RF}
theorem XLAt.alloc (h:XLAt o c w q x p) (y:Obj):XLAt o c (w.alloc y) q x p:=h.below_ ((Below.refl _ _).alloc (Nat.le_refl _) y)
theorem cutF_0 (h:1≤cr):¬cutF cr 0:=by unfold cutF;omega
theorem XLAt.wrote_ {n:Int} {l v:Nat} (h:XLAt o c w q x p) (hw:n=(v:Nat)) :
 XLAt o c (((w.setCell ⟨q,12,none⟩ (.int .u64 l)).setCell ⟨q,15,none⟩ (.bool true)).setCell ⟨q,9,none⟩ (.int .i64 n)) q {x with wrote:=l,dirty:=true,wait:=v} p∧Step o (only c) w o (((w.setCell ⟨q,12,none⟩ (.int .u64 l)).setCell ⟨q,15,none⟩ (.bool true)).setCell ⟨q,9,none⟩ (.int .i64 n)):=by
 subst hw
 obtain ⟨lv,hb,hc,ho⟩:=h
 have hs:Step o (only c) w o (((w.setCell ⟨q,12,none⟩ (.int .u64 l)).setCell ⟨q,15,none⟩ (.bool true)).setCell ⟨q,9,none⟩ (.int .i64 (v:Nat))):=(((Step.refl o (only c) w).setCell (p:=⟨q,12,none⟩) hc _).setCell (p:=⟨q,15,none⟩) hc _).setCell (p:=⟨q,9,none⟩) hc _
 exact ⟨⟨lv,((hb.set_ 12 _).set_ 15 _).set_ 9 _,hc,ho.step hs (by unfold only;omega)⟩,hs⟩
structure WrS (o:Nat→Nat) (c cr:Nat) (w:World) (q p:Nat) (x:XL) (k i:Nat) (R1:RF) (x1:XL) (o1:Nat→Nat) (wr:World):Prop where
 disk:RFAt o1 cr wr p R1
 log:XLAt o1 c wr q x1 p
 fit:Fit R1 (k+7*i)
 step:Step o (xlC cr c) w o1 wr
 fut:Fut o1 wr
 same:x1.l=x.l∧x1.node=1∧x1.epoch=x.epoch
 wait:x1.wait+i=x.l.length
set_option maxRecDepth 100000 in
set_option maxHeartbeats 8000000 in
theorem xlwrite_any (h:XLAt o c w q x p) (hd:RFAt o cr w p R) (hf:Fit R k) (hk:k≤60000) (hcr:1≤cr) (hap:apart2 cr c) (hfu:Fut o w) (hx:x.node=1) (hl:x.l.length≤1000) (hwl:x.wait≤x.l.length) (hkp:Kps x.l) :
 Calls Tryz.prog 61 #[.pointer (some ⟨q,0,none⟩)] w fun e w'=>∃N:Int,e = .returned (.tuple #[.int .i64 N, .int .i64 (xwriteR 1 R x).e])∧∃o',RFAt o' cr w' p (xwriteR 1 R x).R∧XLAt o' c w' q (xwriteR 1 R x).x p∧Fit (xwriteR 1 R x).R (k+7*x.l.length)∧Step o (xlC cr c) w o' w':=by
 have H:=Lib.hid h
 have HD:=Lib.hid hd
 have HF:=Lib.hid hf
 have HK:=Lib.hid hk
 have HCR:=Lib.hid hcr
 have HAP:=Lib.hid hap
 have HFU:=Lib.hid hfu
 have HL:=Lib.hid hl
 have HKP:=Lib.hid hkp
 have HN1:=Lib.hid (show ¬cutF cr c by unfold apart2 at hap;unfold cutF;omega)
 have HN2:=Lib.hid (show ¬cutF cr (c+1) by unfold apart2 at hap;unfold cutF;omega)
 have x16:w.cell? ⟨q,16,none⟩=some (.bool x.broken):=by
  obtain ⟨lv,hb,_,_⟩:=h
  exact hb.cell 16
 clear h hd hf hk hcr hap hfu hkp
 by_cases hbr:x.broken=true
 ·rw [show xwriteR 1 R x=⟨13,R,x⟩ from if_pos hbr]
  rw [hbr] at x16
  go_enter Tryz.func61,Tryz.ntmps61
  go_wp2_with fail
  go_ret2
  exact ⟨_,rfl,o,HD.out,H.out,HF.out.more (by omega),Step.refl _ _ _⟩
 have hbr2:x.broken=false:=by simpa using hbr
 rw [hbr2] at x16
 obtain ⟨RES,hres⟩:∃RES,xwriteR 1 R x=RES:=⟨_,rfl⟩
 have HRE:=Lib.hid (show RES=xwrGo 1 (x.l.drop (x.l.length - x.wait)) R x from by rw [←hres];exact if_neg hbr)
 rw [hres]
 clear hres hbr
 go_enter Tryz.func61,Tryz.ntmps61
 go_upto_region 3 with (fail)
 have x4:=H.out.drew.six
 go_region_held3 (fun w'=>w'.cell? ⟨q,1,none⟩=some (.int .i64 2)∧w'.cell? ⟨q,2,none⟩=some (.int .i64 10)∧w'.cell? ⟨q,3,none⟩=some (.int .i64 8)∧w'.cell? ⟨q,4,none⟩=some (.int .i64 4)∧w'.cell? ⟨q,5,none⟩=some (.int .i64 32)∧w'.cell? ⟨q,6,none⟩=some (.int .i64 1))
  (first | exact x4 | exact hx2.six | go_keep)
  (first | (go_at_call 56;((with_reducible refine (reflogat_one _).mono ?_);rintro e2 w2 ⟨rfl,hb2⟩;have hx2:=H.out.drew.below_ hb2)))
 have H2:=Lib.hid hx2
 have HD2:=Lib.hid (HD.out.drew.below_ hb2)
 have HS2:=Lib.hid (Step.of_drew (Step.of_below o (xlC cr c) hb2))
 have HFU2:=Lib.hid (HFU.out.drew.below hb2)
 clear hx2 hb2 x4 x16
 obtain ⟨A9,cap9,HB9,HC9,HO9,y8,hcap9,hcm9⟩:=H2.out.row
 have y3:w2.cell? ⟨q,3,none⟩=some (.int .i64 8):=HB9.out.cell 3
 have y9:w2.cell? ⟨q,9,none⟩=some (.int .i64 x.wait):=HB9.out.cell 9
 have e0:IntKind.i64.wrap ((x.l.length:Int) - (x.wait:Int))=((x.l.length - x.wait:Nat):Int):=by rw [IntWalk.i64_in _ (by omega)];omega
 clear HB9 HC9 HO9 hcap9 hcm9
 go_wp2_with fail
 clear y3 y8 y9 e0
 go_loopg [8,9,10,11,12,13] x.wait (fun n t8 _ _ _ _ _ wr=>∃(i:Nat) (R1:RF) (x1:XL) (o1:Nat→Nat),n+i=x.l.length∧t8 = .int .i64 (i:Nat)∧WrS o c cr w q p x k i R1 x1 o1 wr∧RES=xwrGo 1 (x.l.drop i) R1 x1)
 case atStart=>exact ⟨x.l.length - x.wait,R,x,o,by omega,rfl,⟨HD2.out,H2.out,HF.out.more (by omega),HS2.out,HFU2.out,⟨rfl,hx,rfl⟩,by omega⟩,HRE.out⟩
 case round =>
  obtain ⟨i,R1,x1,o1,hni,rfl,hwr,hres⟩:=hrel
  have HNI:=Lib.hid hni
  have HW:=Lib.hid hwr
  have HRS:=Lib.hid hres
  clear hni hwr hres HRE HS2 HD2 H2 HFU2
  obtain ⟨A9,cap9,HB9,HC9,HO9,y8,hcap9,hcm9⟩:=HW.out.log.row
  rw [HW.out.same.1] at y8 hcap9
  have hcm9I:(cap9:Int)≤9223372036854775807:=by unfold maxLen at hcm9;omega
  have HR9:=Lib.hid (show Reads wr 4 A9 x.l.length (kpcells x.l) from by
   have:=Reads.of_own HO9.out.1
   rw [HW.out.same.1] at this
   exact this)
  clear hcm9 HB9 HC9 HO9
  by_cases hlt:i<x.l.length
  ·have hltI:(i:Int)<(x.l.length:Int):=by omega
   obtain ⟨y,hy⟩:∃y,x.l[i]? = some y:=⟨_,List.getElem?_eq_getElem hlt⟩
   obtain ⟨ad,rfl,v0,v1,v2,v3⟩:=HR9.out.kprow hy
   have HKY:=Lib.hid (HKP.out y (List.mem_of_getElem? hy))
   obtain ⟨PUT,hput⟩:∃PUT,R1.put_ x1.node x1.epoch 1 y=PUT:=⟨_,rfl⟩
   have HRS2:=Lib.hid (show RES=if PUT.1≠0 then ⟨PUT.1,PUT.2,{x1 with broken:=true}⟩ else xwrGo 1 (x.l.drop (i+1)) PUT.2 {x1 with wrote:=y.lsn,dirty:=true,wait:=x1.wait - 1} from by
    rw [HRS.out,List.drop_eq_getElem_cons hlt,(List.getElem?_eq_some_iff.1 hy).2]
    rw [xwrGo_cons,hput])
   have HPE:=Lib.hid (show PUT=xputGo 1 x.epoch 1 y y.n 0 R1 from by rw [←hput,HW.out.same.2.1,HW.out.same.2.2];rfl)
   have HX0:=Lib.hid (Keep.new HW.out.fut 204 #[.int .u64 y.lsn, .int .i64 y.at_, .int .i64 y.n, .string y.b])
   have HLG:=Lib.hid (HW.out.log.alloc (.cells #[.int .u64 y.lsn, .int .i64 y.at_, .int .i64 y.n, .string y.b] 204))
   have HDK:=Lib.hid (HW.out.disk.alloc (.cells #[.int .u64 y.lsn, .int .i64 y.at_, .int .i64 y.n, .string y.b] 204))
   have HSA:=Lib.hid (HW.out.step.alloc (.cells #[.int .u64 y.lsn, .int .i64 y.at_, .int .i64 y.n, .string y.b] 204))
   have HFA:=Lib.hid (HW.out.fut.alloc (.cells #[.int .u64 y.lsn, .int .i64 y.at_, .int .i64 y.n, .string y.b] 204))
   clear hy hput HRS
   go_upto_block 2 with (fail)
   generalize wr.alloc (.cells #[.int .u64 y.lsn, .int .i64 y.at_, .int .i64 y.n, .string y.b] 204)=W at HX0 HLG HDK HSA HFA ⊢
   generalize wr.heap.size=X at HX0 ⊢
   clear y8 v0 v1 v2 v3
   go_cut [10,11,12,13] from 63 to 115 (fun _ _ _ _ wx=>∃(R2:RF) (o2:Nat→Nat),PUT=(0,R2)∧RFAt o2 cr wx p R2∧Fit R2 (k+7*i+7)∧Step o (xlC cr c) w o2 wx∧XLAt o2 c wx q x1 p∧Keep o2 wx X 204 #[.int .u64 y.lsn, .int .i64 y.at_, .int .i64 y.n, .string y.b]∧Fut o2 wx)
   case first =>
    go_wp2_with fail
    go_loopg [10,11,12,13] y.n (fun n t10 _ _ _ wx=>∃(j f:Nat) (R2:RF) (o2:Nat→Nat),n+j=y.n∧t10 = .int .i64 (j:Nat)∧RFAt o2 cr wx p R2∧Fit R2 (k+7*i+j)∧Step o (xlC cr c) w o2 wx∧XLAt o2 c wx q x1 p∧Keep o2 wx X 204 #[.int .u64 y.lsn, .int .i64 y.at_, .int .i64 y.n, .string y.b]∧Fut o2 wx∧y.n≤j+f∧PUT=xputGo 1 x.epoch 1 y f j R2)
    case atStart=>exact ⟨0,y.n,R1,o1,by omega,rfl,HDK.out,HW.out.fit,HSA.out,HLG.out,HX0.out,HFA.out,by omega,HPE.out⟩
    case round =>
     obtain ⟨j,f,R2,o2,hnj,rfl,hd2,hf2,hs2,hx2,hk2,hfu2,hjf,hpe⟩:=hrel
     have HNJ:=Lib.hid hnj
     have HD2:=Lib.hid hd2
     have HT2:=Lib.hid hf2
     have HS2:=Lib.hid hs2
     have HX2:=Lib.hid hx2
     have HK2:=Lib.hid hk2
     have HF2:=Lib.hid hfu2
     have HJF:=Lib.hid hjf
     have HP2:=Lib.hid hpe
     have y1:=hk2.1.cell 1
     have y2:=hk2.1.cell 2
     have y3:=hk2.1.cell 3
     simp at y1 y2 y3
     clear hnj hd2 hf2 hs2 hx2 hk2 hfu2 hjf hpe HDK HLG HSA HFA HX0
     by_cases hjt:j<y.n
     ·have hjI:(j:Int)<(y.n:Int):=by omega
      obtain ⟨s,hs⟩:∃s,y.at_+j=s:=⟨_,rfl⟩
      obtain ⟨a,ha⟩:∃a,s % 7=a:=⟨_,rfl⟩
      obtain ⟨ky1,ky2,ky3⟩:=HKY.out
      have e1:IntKind.i64.wrap ((y.at_:Int)+(j:Int))=(s:Int):=by rw [IntWalk.i64_in _ (by omega)];omega
      have e2:((s:Int)).tmod 7=(a:Int):=by rw [Int.tmod_eq_emod_of_nonneg (by omega)];omega
      have ea:IntKind.i64.wrap (a:Int)=(a:Int):=IntWalk.i64_in _ (by omega)
      have hal:a<7:=by omega
      obtain ⟨rr,hrr⟩:∃rr,y.n - j=rr:=⟨_,rfl⟩
      obtain ⟨b,hbb⟩:∃b,7 - a=b:=⟨_,rfl⟩
      have e3:IntKind.i64.wrap ((y.n:Int) - (j:Int))=(rr:Int):=by rw [IntWalk.i64_in _ (by omega)];omega
      have e4:IntKind.i64.wrap (7 - (a:Int))=(b:Int):=by rw [IntWalk.i64_in _ (by omega)];omega
      obtain ⟨n,hn⟩:∃n,min rr b=n:=⟨_,rfl⟩
      have e5:min (min 16 (rr:Int)) (b:Int)=(n:Int):=by omega
      have e6:(if (b:Int)<if (rr:Int)<16 then (rr:Int) else 16 then (b:Int) else if (rr:Int)<16 then (rr:Int) else 16)=(n:Int):=by
       rw [if_pos (show (rr:Int)<16 by omega)]
       split <;> omega
      have HAA:=Lib.hid ha
      have HAS:=Lib.hid hs
      have HRR:=Lib.hid hrr
      have HB_:=Lib.hid hbb
      have HNN:=Lib.hid hn
      have HAL:=Lib.hid hal
      clear ha hs hrr hbb hn hal
      go_upto_region 14 with (fail)
      clear e1 e2 e3 e4 e5 e6 ea y1 y2
      obtain ⟨lo,hlo⟩:∃lo,j*64=lo:=⟨_,rfl⟩
      obtain ⟨hi',hhi⟩:∃hi',(j+n)*64=hi':=⟨_,rfl⟩
      obtain ⟨m,hm⟩:∃m,j+n=m:=⟨_,rfl⟩
      obtain ⟨B,hB⟩:∃B,2+a=B:=⟨_,rfl⟩
      have hmn:m≤y.n:=by have:=HNN.out;have:=HRR.out;omega
      have b0:(0:Int)≤(lo:Int):=by omega
      have b1:(lo:Int)≤(hi':Int):=by omega
      have b2:(hi':Int)≤(y.b.size:Int):=by omega
      have w1:IntKind.i64.wrap (64*(j:Int))=(lo:Int):=by rw [IntWalk.i64_in _ (by omega)];omega
      have w2:IntKind.i64.wrap ((j:Int)+(n:Int))=(m:Int):=by rw [IntWalk.i64_in _ (by omega)];omega
      have w3:IntKind.i64.wrap (64*(m:Int))=(hi':Int):=by rw [IntWalk.i64_in _ (by omega)];omega
      have w5:IntKind.i64.wrap (2+(a:Int))=(B:Int):=by rw [IntWalk.i64_in _ (by have:=HAL.out;omega)];omega
      have w4:IntKind.i64.wrap 2=2:=IntWalk.i64_in _ (by omega)
      have w6:IntKind.i64.wrap (IntKind.i64.wrap 2+(a:Int))=(B:Int):=by rw [w4];exact w5
      have HMN:=Lib.hid hmn
      have HMI:=Lib.hid (show j<m by have:=HNN.out;have:=HRR.out;have:=HB_.out;have:=HAL.out;omega)
      have hds:(y.b.extract lo hi').size=n*64:=by rw [ByteArray.size_extract];omega
      obtain ⟨S,hS⟩:∃S,y.b.extract lo hi'=S:=⟨_,rfl⟩
      rw [hS] at hds
      obtain ⟨f',hf'⟩:∃f',f=f'+1:=⟨f - 1,by have:=HJF.out;omega⟩
      have HRP:=Lib.hid (show PUT=if (R2.write 1 x.epoch (B:Int) S).1≠0 then R2.write 1 x.epoch (B:Int) S else xputGo 1 x.epoch 1 y f' m (R2.write 1 x.epoch (B:Int) S).2 by
       have h1:=HP2.out
       rw [hf'] at h1
       have h2:xputGo 1 x.epoch 1 y (f'+1) j R2=if y.n≤j then (0,R2) else if (R2.write ((1:Nat):Int) x.epoch ((1+1+(y.at_+j) % 7:Nat):Int) (y.b.extract (j*64) ((j+min (y.n - j) (7 - (y.at_+j) % 7))*64))).1≠0 then R2.write ((1:Nat):Int) x.epoch ((1+1+(y.at_+j) % 7:Nat):Int) (y.b.extract (j*64) ((j+min (y.n - j) (7 - (y.at_+j) % 7))*64))
        else xputGo 1 x.epoch 1 y f' (j+min (y.n - j) (7 - (y.at_+j) % 7)) (R2.write ((1:Nat):Int) x.epoch ((1+1+(y.at_+j) % 7:Nat):Int) (y.b.extract (j*64) ((j+min (y.n - j) (7 - (y.at_+j) % 7))*64))).2:=rfl
       rw [h2,if_neg (by omega),HAS.out,HAA.out,HRR.out,HB_.out,HNN.out,hlo,hhi,hS,hm,show 1+1+a=B from hB] at h1
       exact h1)
      have HFF:=Lib.hid (show y.n≤m+f' by have:=HJF.out;have:=HMI.out;omega)
      have HDS:=Lib.hid hds
      have HME:=Lib.hid hm
      have HWL:=HT2.out
      have x4:=HX2.out.drew.three
      have z3:wr.drew.cell? ⟨X,3,none⟩=some (.string y.b):=y3
      have HIX:=Lib.hid (show k+7*i+j≤80000 by have:=HK.out;have:=HL.out;omega)
      clear hlo hhi hm hB hmn hds hf' y3 ky1 ky2 ky3 HWL
      go_region_held3 (fun w'=>w'.cell? ⟨q,0,none⟩=some (.pointer (some ⟨p,0,none⟩))∧w'.cell? ⟨q,6,none⟩=some (.int .i64 1)∧w'.cell? ⟨q,7,none⟩=some (.int .u64 x1.epoch)∧w'.cell? ⟨X,3,none⟩=some (.string y.b))
       (first | exact ⟨x4.1,x4.2.1,x4.2.2,z3⟩ | exact ⟨hx3.three.1,hx3.three.2.1,hx3.three.2.2,hk3.1.cell 3⟩ | go_keep)
       (first | (go_at_call 42;((with_reducible refine (rfwrite_any HD2.out.drew 1 x1.epoch (B:Int) S HT2.out.left HT2.out.keep (by rw [HT2.out.room];omega) (by have:=HT2.out.len;have:=HIX.out;omega) (by have:=HDS.out;have:=HKY.out;have:=HMN.out;have:=HNN.out;have:=HRR.out;unfold maxLen;omega)).mono ?_);rintro e2 w2 ⟨rfl,o3,hd3,hs3⟩;have hx3:=HX2.out.drew.step hs3 HN1.out HN2.out;have hk3:=HK2.out.drew.step hs3 (cutF_0 HCR.out);have hu3:=HF2.out.drew.step hs3)))
      have H3:=Lib.hid hx3
      have HK3:=Lib.hid hk3
      have HU3:=Lib.hid hu3
      have HD3:=Lib.hid hd3
      have HS3:=Lib.hid (HS2.out.trans ((Step.of_drew hs3).mono (xlC_disk cr c)))
      have HT3:=Lib.hid ((HT2.out.write 1 x1.epoch (B:Int) S).more (k':=k+7*i+m) (by rw [HDS.out,Nat.mul_div_cancel _ (by omega),←HME.out];omega))
      rw [HW.out.same.2.2] at HD3 HT3
      clear hx3 hk3 hu3 hd3 hs3 x4 z3 w1 w3 w4 w5 w6 b0 b1 b2 hS
      obtain ⟨F,hF⟩:∃F,R2.write 1 x.epoch (B:Int) S=F:=⟨_,rfl⟩
      rw [HW.out.same.2.2]
      rw [hF] at HRP HD3 HT3 ⊢
      obtain ⟨F,R3⟩:=F
      simp only at HD3 HT3 ⊢
      clear hF
      by_cases h1:F=0
      ·subst h1
       have HRP2:=Lib.hid (show PUT=xputGo 1 x.epoch 1 y f' m R3 by rw [HRP.out];simp)
       clear HRP
       go_wp2_with fail
       go_roundg (y.n - m)
       case measure=>have:=HMI.out;have:=HNJ.out;omega
       case rel=>exact ⟨m,f',R3,o3,by have:=HMN.out;omega,by go_num,HD3.out,HT3.out,HS3.out,H3.out,HK3.out,HU3.out,HFF.out,HRP2.out⟩
      ·have t1:(F != 0)=true:=bne_iff_ne.2 h1
       have HRR2:=Lib.hid (show RES=⟨F,R3,{x1 with broken:=true}⟩ by rw [HRS2.out,HRP.out,if_pos h1,if_pos h1])
       have hsb:=H3.out.setB HAP.out
       have HB5:=Lib.hid hsb
       obtain ⟨lv,hb5,hc5,_⟩:=H3.out
       have HC5:=Lib.hid hc5
       have z16:=hb5.cell 16
       have g16:=hb5.frozen 16
       clear h1 HRP HRS2 hb5 hsb hc5
       go_wp2_with fail
       go_ret2
       exact ⟨_,by rw [HRR2.out];rfl,o3,by rw [HRR2.out];exact HD3.out.step ((Step.refl o3 (only c) _).setCell (p:=⟨q,16,none⟩) HC5.out _) (by have:=HAP.out;unfold apart2 at this;unfold three only;omega),by rw [HRR2.out];exact HB5.out.1,by rw [HRR2.out];exact HT3.out.more (by have:=HMN.out;have:=HKY.out;have:=HW.out.wait;omega),HS3.out.trans HB5.out.2⟩
     ·have hjI:¬(j:Int)<(y.n:Int):=by omega
      have HP3:=Lib.hid (show PUT=(0,R2) by rw [HP2.out,xputGo_le (by omega)])
      go_wp2_with fail
      go_meet
      case rel=>exact ⟨R2,o2,HP3.out,HD2.out,HT2.out.more (by have:=HKY.out.2.1;have:=HNJ.out;omega),HS2.out,HX2.out,HK2.out,HF2.out⟩
   case rest =>
    obtain ⟨R2,o2,hpt,hd2,hf2,hs2,hx2,hk2,hfu2⟩:=hcut
    have hw1:=HW.out.wait
    have hxw:IntKind.i64.wrap ((x1.wait:Int) - 1)=((x1.wait - 1:Nat):Int):=by rw [IntWalk.i64_in _ (by have:=HL.out;omega)];omega
    have HRN:=Lib.hid (show RES=xwrGo 1 (x.l.drop (i+1)) R2 {x1 with wrote:=y.lsn,dirty:=true,wait:=x1.wait - 1} by rw [HRS2.out,hpt];rfl)
    have hxx:=hx2.wrote_ (n:=((x1.wait - 1:Nat):Int)) (l:=y.lsn) (v:=x1.wait - 1) rfl
    obtain ⟨lv,hb2,hc2,_⟩:=hx2
    have z12:wc.cell? ⟨q,12,none⟩=some (.int .u64 x1.wrote):=hb2.cell 12
    have z15:wc.cell? ⟨q,15,none⟩=some (.bool x1.dirty):=hb2.cell 15
    have z9:wc.cell? ⟨q,9,none⟩=some (.int .i64 x1.wait):=hb2.cell 9
    have g12:=hb2.frozen 12
    have g15:=hb2.frozen 15
    have g9:=hb2.frozen 9
    have y0:wc.cell? ⟨X,0,none⟩=some (.int .u64 y.lsn):=hk2.1.cell 0
    have HDN:=Lib.hid (hd2.step hxx.2 (by have:=HAP.out;unfold apart2 at this;unfold three only;omega))
    have HXN:=Lib.hid hxx.1
    have HSN:=Lib.hid (hs2.trans (hxx.2.mono (xlC_log cr c)))
    have HFN:=Lib.hid (hfu2.step hxx.2)
    have HTN:=Lib.hid hf2
    have HWT:=Lib.hid (show x1.wait - 1+(i+1)=x.l.length by omega)
    clear hxx hb2 hc2 hd2 hf2 hs2 hk2 hfu2 hpt hw1 HRS2 HPE
    go_wp2_with fail
    go_roundg (x.l.length - (i+1))
    case measure=>have:=HNI.out;omega
    case rel=>exact ⟨i+1,R2,_,o2,by omega,by go_num,⟨HDN.out,HXN.out,HTN.out.more (by omega),HSN.out,HFN.out,⟨HW.out.same.1,HW.out.same.2.1,HW.out.same.2.2⟩,HWT.out⟩,HRN.out⟩
  ·have hltI:¬(i:Int)<(x.l.length:Int):=by omega
   obtain rfl:i=x.l.length:=by have:=HW.out.wait;omega
   have HRN:=Lib.hid (show RES=⟨0,R1,x1⟩ by rw [HRS.out,List.drop_length];rfl)
   go_wp2_with fail
   go_ret2
   exact ⟨⟨_,by rw [HRN.out];rfl⟩,o1,by rw [HRN.out];exact HW.out.disk,by rw [HRN.out];exact HW.out.log,by rw [HRN.out];exact HW.out.fit,HW.out.step⟩
end
theorem xwrGo_same (base:Nat):∀(l:List Kp) (R:RF) (x:XL),(xwrGo base l R x).x.node=x.node∧(xwrGo base l R x).x.epoch=x.epoch∧(xwrGo base l R x).x.l=x.l
 | [],_,_=>⟨rfl,rfl,rfl⟩
 | y :: l,R,x=>by
   rw [xwrGo_cons]
   split
   ·exact ⟨rfl,rfl,rfl⟩
   ·exact xwrGo_same base l _ _
theorem xwriteR_same (base:Nat) (R:RF) (x:XL):(xwriteR base R x).x.node=x.node∧(xwriteR base R x).x.epoch=x.epoch∧(xwriteR base R x).x.l=x.l:=by
 unfold xwriteR
 split
 ·exact ⟨rfl,rfl,rfl⟩
 ·exact xwrGo_same base _ _ _
section
variable {o o':Nat→Nat} {c cr p q k:Nat} {C:Nat→Prop} {w w':World} {x:XL} {R:RF}
theorem XLAt.synced_ {l:Nat} (h:XLAt o c w q x p) (hw:l=x.wrote) :
 XLAt o c ((w.setCell ⟨q,15,none⟩ (.bool false)).setCell ⟨q,13,none⟩ (.int .u64 l)) q {x with dirty:=false,sync:=x.wrote} p∧Step o (only c) w o ((w.setCell ⟨q,15,none⟩ (.bool false)).setCell ⟨q,13,none⟩ (.int .u64 l)):=by
 subst hw
 obtain ⟨lv,hb,hc,ho⟩:=h
 have hs:Step o (only c) w o ((w.setCell ⟨q,15,none⟩ (.bool false)).setCell ⟨q,13,none⟩ (.int .u64 x.wrote)):=((Step.refl o (only c) w).setCell (p:=⟨q,15,none⟩) hc _).setCell (p:=⟨q,13,none⟩) hc _
 exact ⟨⟨lv,(hb.set_ 15 _).set_ 13 _,hc,ho.step hs (by unfold only;omega)⟩,hs⟩
set_option maxRecDepth 100000 in
set_option maxHeartbeats 4000000 in
theorem xlsync_any (h:XLAt o c w q x p) (hd:RFAt o cr w p R) (hf:Fit R k) (hk:k≤60000) (hcr:1≤cr) (hap:apart2 cr c) (hfu:Fut o w) (hx:x.node=1) (hl:x.l.length≤1000) (hwl:x.wait≤x.l.length) (hkp:Kps x.l) :
 Calls Tryz.prog 63 #[.pointer (some ⟨q,0,none⟩)] w fun e w'=>e = .returned (.int .i64 (xsyncR 1 R x).e)∧∃o',RFAt o' cr w' p (xsyncR 1 R x).R∧XLAt o' c w' q (xsyncR 1 R x).x p∧Fit (xsyncR 1 R x).R (k+7*x.l.length)∧Step o (xlC cr c) w o' w':=by
 have HAP:=Lib.hid hap
 have HCR:=Lib.hid hcr
 have HKL:=Lib.hid (show k+7*x.l.length≤80000 by omega)
 have HN1:=Lib.hid (show ¬cutF cr c by unfold apart2 at hap;unfold cutF;omega)
 have HN2:=Lib.hid (show ¬cutF cr (c+1) by unfold apart2 at hap;unfold cutF;omega)
 have HWR:=Lib.hid (xlwrite_any h hd hf hk hcr hap hfu hx hl hwl hkp)
 have HSM:=Lib.hid (xwriteR_same 1 R x)
 have HSE:=Lib.hid (show xsyncR 1 R x=if (xwriteR 1 R x).e≠0 then xwriteR 1 R x
  else if (xwriteR 1 R x).x.dirty=false then ⟨0,(xwriteR 1 R x).R,{(xwriteR 1 R x).x with dirty:=false,sync:=(xwriteR 1 R x).x.wrote}⟩
  else if ((xwriteR 1 R x).R.barrier (xwriteR 1 R x).x.node (xwriteR 1 R x).x.epoch).1≠0 then ⟨((xwriteR 1 R x).R.barrier (xwriteR 1 R x).x.node (xwriteR 1 R x).x.epoch).1,((xwriteR 1 R x).R.barrier (xwriteR 1 R x).x.node (xwriteR 1 R x).x.epoch).2,{(xwriteR 1 R x).x with broken:=true}⟩
  else ⟨0,((xwriteR 1 R x).R.barrier (xwriteR 1 R x).x.node (xwriteR 1 R x).x.epoch).2,{(xwriteR 1 R x).x with dirty:=false,sync:=(xwriteR 1 R x).x.wrote}⟩ from rfl)
 rw [hx] at HSM
 generalize xwriteR 1 R x=V at HWR HSM HSE
 generalize xsyncR 1 R x=S at HSE ⊢
 clear h hd hf hk hcr hap hfu hl hwl hkp
 go_enter Tryz.func63,Tryz.ntmps63
 go_wp2_with fail
 refine HWR.out.mono ?_
 rintro e w1 ⟨N,rfl,o1,hd1,hx1,hf1,hs1⟩
 have HD1:=Lib.hid hd1
 have HX1:=Lib.hid hx1
 have HF1:=Lib.hid hf1
 have HS1:=Lib.hid hs1
 clear hd1 hx1 hf1 hs1 HWR
 obtain ⟨lv,hb1,hc1,_⟩:=HX1.out
 have HC1:=Lib.hid hc1
 have y15:w1.cell? ⟨q,15,none⟩=some (.bool V.x.dirty):=hb1.cell 15
 have y12:w1.cell? ⟨q,12,none⟩=some (.int .u64 V.x.wrote):=hb1.cell 12
 have y13:w1.cell? ⟨q,13,none⟩=some (.int .u64 V.x.sync):=hb1.cell 13
 have g15:=hb1.frozen 15
 have g13:=hb1.frozen 13
 clear hc1 hb1
 obtain ⟨E1,hE1⟩:∃E1,V.e=E1:=⟨_,rfl⟩
 rw [hE1] at HSE ⊢
 have HE1:=Lib.hid hE1
 clear hE1
 by_cases h0:E1=0
 ·subst h0
  obtain ⟨dt,hdt⟩:∃dt,V.x.dirty=dt:=⟨_,rfl⟩
  rw [hdt] at y15
  by_cases hd0:dt=false
  ·subst hd0
   have HSV:=Lib.hid (show S=⟨0,V.R,{V.x with dirty:=false,sync:=V.x.wrote}⟩ by rw [HSE.out,if_neg (by simp),if_pos hdt])
   clear HSE hdt
   have hsy:=HX1.out.synced_ (l:=V.x.wrote) rfl
   have HSY:=Lib.hid hsy
   clear hsy
   go_wp2_with fail
   go_ret
   rw [HSV.out]
   exact ⟨rfl,o1,HD1.out.step HSY.out.2 (by have:=HAP.out;unfold apart2 at this;unfold three only;omega),HSY.out.1,HF1.out,HS1.out.trans (HSY.out.2.mono (xlC_log cr c))⟩
  ·obtain rfl:dt=true:=by simpa using hd0
   clear hd0
   have HSV:=Lib.hid (show S=if (V.R.barrier 1 V.x.epoch).1≠0 then ⟨(V.R.barrier 1 V.x.epoch).1,(V.R.barrier 1 V.x.epoch).2,{V.x with broken:=true}⟩
   else ⟨0,(V.R.barrier 1 V.x.epoch).2,{V.x with dirty:=false,sync:=V.x.wrote}⟩ by
    have h1:=HSE.out
    rw [if_neg (by simp),if_neg (by rw [hdt];simp),show V.R.barrier V.x.node V.x.epoch=V.R.barrier 1 V.x.epoch from by rw [HSM.out.1];rfl] at h1
    exact h1)
   have HFB:=Lib.hid (HF1.out.barrier 1 V.x.epoch)
   clear HSE hdt y12 y13 g13 g15
   go_upto_region 5 with (fail)
   have x4:=HX1.out.drew.three
   go_region_held3 (fun w'=>w'.cell? ⟨q,0,none⟩=some (.pointer (some ⟨p,0,none⟩))∧w'.cell? ⟨q,6,none⟩=some (.int .i64 1)∧w'.cell? ⟨q,7,none⟩=some (.int .u64 V.x.epoch))
    (first | exact x4 | exact hx2.three | go_keep)
    (first | (go_at_call 43;((with_reducible refine (rfbarrier_any HD1.out.drew 1 V.x.epoch HF1.out.left HF1.out.keep (by have:=HF1.out.len;have:=HKL.out;omega)).mono ?_);rintro e2 w2 ⟨rfl,o2,hd2,hs2⟩;have hx2:=HX1.out.drew.step hs2 HN1.out HN2.out)))
   have HD2:=Lib.hid hd2
   have HX2:=Lib.hid hx2
   have HS2:=Lib.hid (HS1.out.trans ((Step.of_drew hs2).mono (xlC_disk cr c)))
   obtain ⟨lv,hb2,hc2,_⟩:=HX2.out
   have HC2:=Lib.hid hc2
   have y16:w2.cell? ⟨q,16,none⟩=some (.bool V.x.broken):=hb2.cell 16
   have y15:w2.cell? ⟨q,15,none⟩=some (.bool V.x.dirty):=hb2.cell 15
   have y12:w2.cell? ⟨q,12,none⟩=some (.int .u64 V.x.wrote):=hb2.cell 12
   have y13:w2.cell? ⟨q,13,none⟩=some (.int .u64 V.x.sync):=hb2.cell 13
   have g15:=hb2.frozen 15
   have g13:=hb2.frozen 13
   have g16:=hb2.frozen 16
   clear hd2 hx2 hs2 x4 hc2 hb2
   generalize V.R.barrier 1 V.x.epoch=B at HSV HFB HD2 ⊢
   obtain ⟨F,R2⟩:=B
   simp only at HSV HFB HD2 ⊢
   by_cases h1:F=0
   ·subst h1
    have HSW:=Lib.hid (show S=⟨0,R2,{V.x with dirty:=false,sync:=V.x.wrote}⟩ by rw [HSV.out,if_neg (by simp)])
    have hsy:=HX2.out.synced_ (l:=V.x.wrote) rfl
    have HSY:=Lib.hid hsy
    clear hsy HSV
    go_wp2_with fail
    go_ret
    rw [HSW.out]
    exact ⟨rfl,o2,HD2.out.step HSY.out.2 (by have:=HAP.out;unfold apart2 at this;unfold three only;omega),HSY.out.1,HFB.out,HS2.out.trans (HSY.out.2.mono (xlC_log cr c))⟩
   ·have t1:(F != 0)=true:=bne_iff_ne.2 h1
    have HSW:=Lib.hid (show S=⟨F,R2,{V.x with broken:=true}⟩ by rw [HSV.out,if_pos h1])
    have hsb:=HX2.out.setB HAP.out
    have HSB:=Lib.hid hsb
    clear hsb HSV h1
    go_wp2_with fail
    go_ret
    rw [HSW.out]
    exact ⟨rfl,o2,HD2.out.step ((Step.refl o2 (only c) _).setCell (p:=⟨q,16,none⟩) HC2.out _) (by have:=HAP.out;unfold apart2 at this;unfold three only;omega),HSB.out.1,HFB.out,HS2.out.trans HSB.out.2⟩
 ·have t1:(E1 != 0)=true:=bne_iff_ne.2 h0
  have HSV:=Lib.hid (show S=V by rw [HSE.out,if_pos h0])
  clear h0 HSE y15 y12 y13 g15 g13
  go_wp2_with fail
  go_ret
  rw [HSV.out]
  exact ⟨by rw [HE1.out];rfl,o1,HD1.out,HX1.out,HF1.out,HS1.out⟩
end
theorem refsectors_any {w:World} (n:Nat) (h1:1≤n) (h2:n≤60):Calls Tryz.prog 123 #[.int .i64 n] w fun e w'=>e = .returned (.int .i64 (secsOf n:Nat))∧w'=w:=by
 have e1:IntKind.i64.wrap (108*(n:Int))=108*(n:Int):=IntWalk.i64_in _ (by omega)
 have e2:IntKind.i64.wrap (108*(n:Int)+41)=108*(n:Int)+41:=IntWalk.i64_in _ (by omega)
 have e0:secsOf n=(108*n+41) / 42:=by unfold secsOf;rw [if_neg (by omega),Int.toNat_natCast]
 have e3:(108*(n:Int)+41).tdiv 42=(secsOf n:Nat):=by rw [Int.tdiv_eq_ediv_of_nonneg (by omega),e0];omega
 have e4:IntKind.i64.wrap ((secsOf n:Nat):Int)=((secsOf n:Nat):Int):=IntWalk.i64_in _ (by rw [e0];omega)
 have c1:¬(n:Int)<1:=by omega
 have c2:¬60<(n:Int):=by omega
 go_enter Tryz.func123,Tryz.ntmps123
 go_wp2_with fail
 go_ret
 exact ⟨rfl,rfl⟩
end Go.Proofs.YtldoeodkeieejaaGreatDoor
