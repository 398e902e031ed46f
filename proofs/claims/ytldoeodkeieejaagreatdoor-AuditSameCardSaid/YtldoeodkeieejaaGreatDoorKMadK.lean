import Derived.Test.YtldoeodkeieejaaGreatDoorKMadH
import Derived.Test.YtldoeodkeieejaaGreatDoorKRefN
import Derived.Test.YtldoeodkeieejaaGreatDoorKLogE
import Derived.BigQuiet
namespace Go.Proofs.YtldoeodkeieejaaGreatDoor
open Go.RowKit
set_option maxRecDepth 100000 in
theorem Xg.conv_at {o:Nat→Nat} {w0 w:World} {p:Nat} {bs:List UInt8} (h:Xg o w0 w p bs) {A:Option Addr} {cap:Nat} (hz:w.cell? ⟨p,0,none⟩=some (.slice A bs.length cap)):(convert 84 9 (.slice A bs.length cap)).run Tryz.prog w = .ok (.string (str bs)) w:=by
 obtain ⟨A',cap',h1,h2⟩:=h.conv
 rw [hz] at h1
 injection h1 with h1
 injection h1 with e1 e2 e3
 subst e1 e3
 exact h2
theorem chunk_zer (B:List UInt8) (z k:Nat):∃m,((B++zer z).take (k*42+42)).drop (k*42)=chunk B k++zer m:=by
 unfold chunk zer
 rw [List.take_append,List.drop_append,List.take_replicate,List.drop_replicate,show (k+1)*42=k*42+42 by omega]
 exact ⟨_,rfl⟩
theorem stamp_zer (l:List UInt8) (m:Nat) (h:l.length+m≤60):stampL (l++zer m) 64=stampL l 64:=by
 have:padL (l++zer m) 64=padL l 64:=by
  unfold padL
  rw [List.append_assoc,List.length_append,zer_len]
  unfold zer
  rw [List.replicate_append_replicate]
  congr 2
  omega
 unfold stampL
 rw [this]
theorem okTo_take {l:List Im} {k:Nat} (h:okTo l k):∀i∈l.take k,i.right:=by
 intro i hi
 obtain ⟨j,hj,rfl⟩:=List.mem_iff_getElem.1 hi
 rw [List.length_take] at hj
 exact (h j _ (by omega) (by rw [List.getElem_take];exact List.getElem?_eq_getElem (by omega))).1
theorem body_take {l:List Im} {k:Nat} (h:okTo l k) (hk:k≤l.length):(bodyL (l.take k)).length=108*k:=by
 rw [bodyL_len (okTo_take h),List.length_take,Nat.min_eq_left hk]
set_option maxRecDepth 100000 in
set_option maxHeartbeats 1000000 in
theorem refputrecord_none (r:Rc) (w:World) (A:Option Addr) (cap:Nat) (hz:r.epoch=0∨r.lsn=0∨r.images = []) :
 Calls Tryz.prog 121 #[.agg #[.int .u64 r.epoch, .int .u64 r.lsn, .slice A r.images.length cap]] w fun e w'=>e = .returned (.tuple #[.string ⟨#[]⟩, .int .i64 1])∧Below w.heap.size w w':=by
 obtain ⟨ep,ls,l⟩:=r
 simp only at hz ⊢
 have HB:=Lib.hid ((Below.refl w.heap.size w).alloc (Nat.le_refl _) (.cells #[.int .u64 ep, .int .u64 ls, .slice A l.length cap] 202))
 by_cases z0:ep=0
 ·have zI:((ep:Int) == 0)=true:=by simp [z0]
  clear z0 hz
  go_enter Tryz.func121,Tryz.ntmps121
  go_wp2_with fail
  go_ret2
  exact ⟨rfl,HB.out⟩
 ·have zI:((ep:Int) == 0)=false:=by simp [z0]
  by_cases z1:ls=0
  ·have yI:((ls:Int) == 0)=true:=by simp [z1]
   clear z0 z1 hz
   go_enter Tryz.func121,Tryz.ntmps121
   go_wp2_with fail
   go_ret2
   exact ⟨rfl,HB.out⟩
  ·have yI:((ls:Int) == 0)=false:=by simp [z1]
   have z2:l = []:=by rcases hz with h | h | h <;> first | contradiction | exact h
   have xI:((l.length:Int) == 0)=true:=by simp [z2]
   clear z0 z1 z2 hz
   go_enter Tryz.func121,Tryz.ntmps121
   go_wp2_with fail
   go_ret2
   exact ⟨rfl,HB.out⟩
set_option maxRecDepth 100000 in
set_option maxHeartbeats 4000000 in
theorem refputrecord_any (r:Rc) (w:World) (A:Option Addr) (cap:Nat) (h:Reads w 3 A r.images.length (imcells r.images)) (hl:r.images.length≤100000) (hcap:r.images.length≤cap) (hcm:cap≤maxLen) (hv:∀i∈r.images,i.ver<18446744073709551616) (he:r.epoch<18446744073709551616) (hls:r.lsn<18446744073709551616) :
 Calls Tryz.prog 121 #[.agg #[.int .u64 r.epoch, .int .u64 r.lsn, .slice A r.images.length cap]] w fun e w'=>e = .returned (.tuple #[.string r.putS, .int .i64 r.wrongE])∧Below w.heap.size w w':=by
 have HPS:=Lib.hid (show r.putS=if r.wrongE=0 then str (recL r) else ⟨#[]⟩ from rfl)
 by_cases hz:r.epoch=0∨r.lsn=0∨r.images = []
 ·have e1:r.wrongE=1:=if_pos hz
  rw [HPS.out,e1,if_neg (by decide)]
  exact refputrecord_none r w A cap hz
 have HW0:=Lib.hid (fun (ho:okTo r.images r.images.length) (hn:r.images.length≤60)=>(show r.wrongE=0 by rw [wrong_end (r:=r) hz ho,if_neg (by omega)]))
 have HW60:=Lib.hid (fun (ho:okTo r.images r.images.length) (hn:60<r.images.length)=>(show r.wrongE=2 by rw [wrong_end (r:=r) hz ho,if_pos hn]))
 have HWB:=Lib.hid (fun k x hx hh=>wrong_bad (r:=r) (k:=k) (x:=x) hz hx hh)
 have HRS:=Lib.hid (recS_eq r)
 have HRL:=Lib.hid (show recTo r (secsOf r.images.length)=recL r from rfl)
 have HTL:=Lib.hid (fun k=>(show (recTo r k).length=k*64 from recs_len r k))
 have HTS:=Lib.hid (recTo_succ r)
 have HR0:=Lib.hid (show recTo r 0 = [] from rfl)
 have HRZ:=Lib.hid (fun k=>recS_len r k)
 obtain ⟨ep,ls,l⟩:=r
 simp only at h hz hl hcap hcm hv he hls HRS HRL HW0 HW60 HWB ⊢
 obtain ⟨R,hR⟩:∃R:Rc,R=⟨ep,ls,l⟩:=⟨_,rfl⟩
 rw [←hR] at HRS HRL HPS HTL HTS HR0 HRZ HW0 HW60 HWB ⊢
 have zI:((ep:Int) == 0)=false:=by simp;omega
 have yI:((ls:Int) == 0)=false:=by simp;omega
 have hn1:1≤l.length:=List.length_pos_iff.2 (fun e=>hz (.inr (.inr e)))
 have xI:((l.length:Int) == 0)=false:=beq_eq_false_iff_ne.2 (by omega)
 have HR:=Lib.hid h
 have HV:=Lib.hid hv
 have HE:=Lib.hid he
 have HLS:=Lib.hid hls
 have HLL:=Lib.hid hl
 have HCP:=Lib.hid hcap
 have hcmI:(cap:Int)≤9223372036854775807:=by unfold maxLen at hcm;omega
 have HN1:=Lib.hid hn1
 obtain ⟨i0,hi0,hz0,hz1,hz2⟩:=info_parts info_u8
 obtain ⟨o2,hw2,hs2⟩:=Xg.start (w0:=w) ((Below.refl w.heap.size w).alloc (Nat.le_refl _) (.cells #[.int .u64 ep, .int .u64 ls, .slice A l.length cap] 202))
 have hk2:Keep o2 _ w.heap.size 202 _:=Keep.step (o:=fun _=>0) ⟨Blk.new w 202 #[.int .u64 ep, .int .u64 ls, .slice A l.length cap],rfl⟩ (hs2 (fun _=>False)) (by simp)
 rw [show (w.alloc (.cells #[.int .u64 ep, .int .u64 ls, .slice A l.length cap] 202)).heap.size=w.heap.size+1 by simp] at hw2
 have HW2:=Lib.hid hw2
 have HK2:=Lib.hid hk2
 clear h hz hl hcap hcm hv he hls hR hn1 hw2 hs2 hk2
 go_enter Tryz.func121,Tryz.ntmps121
 go_wp2_with fail
 clear xI yI zI
 generalize (w.alloc (.cells #[.int .u64 ep, .int .u64 ls, .slice A l.length cap] 202)).alloc (.cells #[.slice none 0 0, .int .i64 0] 177)=W at HW2 HK2 ⊢
 obtain ⟨p,hp⟩:∃p,w.heap.size+1=p:=⟨_,rfl⟩
 rw [hp] at HW2 ⊢
 obtain ⟨q,hq⟩:∃q,w.heap.size=q:=⟨_,rfl⟩
 rw [hq] at HK2 ⊢
 have HQP:=Lib.hid hq
 clear hp hq
 go_loopg [5,6,7,8] l.length (fun n t5 _ _ _ wr=>∃(k:Nat) (o1:Nat→Nat),n+k=l.length∧t5 = .int .i64 (k:Nat)∧Xg o1 w wr p (bodyL (l.take k))∧Keep o1 wr q 202 #[.int .u64 ep, .int .u64 ls, .slice A l.length cap]∧Hid (okTo l k))
 case atStart=>exact ⟨0,o2,by omega,rfl,by simpa [bodyL] using HW2.out,HK2.out,Lib.hid (fun j x hj=>absurd hj (by omega))⟩
 case round =>
  obtain ⟨k,o1,hnk,rfl,hx1,hk1,HOK⟩:=hrel
  have HNK:=Lib.hid hnk
  have HX1:=Lib.hid hx1
  have HK1:=Lib.hid hk1
  clear hnk hx1 hk1 HW2 HK2
  have y2:wr.cell? ⟨q,2,none⟩=some (.slice A l.length cap):=HK1.out.1.cell 2
  by_cases hlt:k<l.length
  ·have hltI:(k:Int)<(l.length:Int):=by omega
   have hkI:(0:Int)≤(k:Int):=by omega
   obtain ⟨x,hx⟩:∃x,l[k]? = some x:=⟨_,List.getElem?_eq_getElem hlt⟩
   have HXM:=Lib.hid hx
   have HXV:=Lib.hid (HV.out x (List.mem_of_getElem? hx))
   have hrd:=HR.out.below' (by omega) HX1.out.env.low
   obtain ⟨ad,rfl,c0,c1,c2⟩:=hrd.imrow hx
   have HRD:=Lib.hid hrd
   have HY:=Lib.hid (Keep.new HX1.out.fut 47 #[.int .i64 x.block, .int .u64 x.ver, .string x.data])
   have HX2:=Lib.hid (HX1.out.alloc (.cells #[.int .i64 x.block, .int .u64 x.ver, .string x.data] 47))
   have HK2:=Lib.hid (HK1.out.alloc (.cells #[.int .i64 x.block, .int .u64 x.ver, .string x.data] 47))
   clear hx hrd
   by_cases hr:x.right
   ·have HRR:=Lib.hid hr
    clear hr
    go_upto_region 8 with (fail)
    clear c0 c1 c2 y2
    generalize wr.alloc (.cells #[.int .i64 x.block, .int .u64 x.ver, .string x.data] 47)=W3 at HY HX2 HK2 ⊢
    generalize wr.heap.size=Y at HY ⊢
    obtain ⟨x0,x1,x2⟩:=HY.out.1.three
    go_wp2_with fail
    refine (refputblock_ok x HRR.out HXV.out _).mono ?_
    rintro e w4 ⟨rfl,hb4⟩
    have HX4:=Lib.hid (HX2.out.below_ hb4)
    have HK4:=Lib.hid (HK2.out.below_ hb4)
    have HY4:=Lib.hid (HY.out.below_ hb4)
    clear hb4 x0 x1 x2
    obtain ⟨x0,x1,x2⟩:=HY4.out.1.three
    have y2:w4.cell? ⟨q,2,none⟩=some (.slice (some ad) l.length cap):=HK4.out.1.cell 2
    by_cases hk0:k=0
    ·subst hk0
     go_upto_region 9 with (fail)
     go_quiet (fail)
     clear x0 x1 x2 y2
     have HX5:=Lib.hid (HX4.out.drewN nq)
     have HK5:=Lib.hid (HK4.out.drewN nq)
     have HY5:=Lib.hid (HY4.out.drewN nq)
     have HO5:=Lib.hid (okTo_succ HOK.out HXM.out HRR.out (fun _ h=>absurd h (by omega)))
     generalize w4.drewN nq=w5 at HX5 HK5 HY5 ⊢
     obtain ⟨x0,x1,x2⟩:=HY5.out.1.three
     obtain ⟨bn,hbn⟩:∃bn:Nat,x.block=bn:=⟨x.block.toNat,by have:=HRR.out.1;omega⟩
     have HBN:=Lib.hid hbn
     have hb4:bn<4096:=by have:=HRR.out.2.1;omega
     have wa:IntKind.u64.wrap x.block=(bn:Int):=by rw [hbn];exact wrapu_n (by omega)
     have HNA:=Lib.hid (show numOk bn 4 from ⟨by omega,by omega,by simp;omega⟩)
     have HNB:=Lib.hid (show numOk x.ver 8 from ⟨by omega,by omega,by have:=HXV.out;simpa using this⟩)
     have hlb:(bodyL (l.take 0)).length≤10800000:=by rw [body_take HOK.out (by omega)];have:=HLL.out;omega
     obtain ⟨b0,hb0⟩:∃b0,bodyL (l.take 0)=b0:=⟨_,rfl⟩
     have HB0:=Lib.hid hb0
     rw [hb0] at hlb HX5
     have HLB:=Lib.hid hlb
     clear hbn hlb hb0
     go_wp2_with fail
     refine (xnum_ok HX5.out bn 4 HNA.out (by omega) (by have:=HLB.out;omega)).mono ?_
     rintro e w6 ⟨rfl,o6,hx6,hs6⟩
     have HX6:=Lib.hid hx6
     have HK6:=Lib.hid (HK5.out.step hs6 no10)
     have HY6:=Lib.hid (HY5.out.step hs6 no10)
     clear hx6 hs6 x0 x1 x2 wa hb4
     obtain ⟨x0,x1,x2⟩:=HY6.out.1.three
     go_wp2_with fail
     refine (xnum_ok HX6.out x.ver 8 HNB.out HXV.out (by rw [List.length_append,le_len];have:=HLB.out;simp;omega)).mono ?_
     rintro e w7 ⟨rfl,o7,hx7,hs7⟩
     have HX7:=Lib.hid hx7
     have HK7:=Lib.hid (HK6.out.step hs7 no10)
     have HY7:=Lib.hid (HY6.out.step hs7 no10)
     have hop:=hx7.wr.open_
     simp only at hop
     have HBS:=Lib.hid (show (b0++le bn (4:Int).toNat++le x.ver (8:Int).toNat)++x.data.data.toList=bodyL (l.take (0+1)) by
      rw [bodyL_snoc l 0 x HXM.out,HB0.out]
      unfold imL
      rw [HBN.out]
      simp)
     have hbl:(b0++le bn (4:Int).toNat++le x.ver (8:Int).toNat).length≤11000000:=by rw [List.length_append,List.length_append,le_len,le_len];have:=HLB.out;simp;omega
     generalize b0++le bn (4:Int).toNat++le x.ver (8:Int).toNat=bs at HX7 HBS hop hbl
     obtain ⟨A7,cap7,z0,z1,f0,f1,hc1,hc2,hpl,HB7,HC7,HV7⟩:=hop
     have hne:=own_blk_ne HV7.out HB7.out (by decide)
     have HNE:=Lib.hid hne
     have hds:x.data.size=96:=HRR.out.2.2
     clear hx7 hs7 x0 x1 x2 hne
     obtain ⟨x0,x1,x2⟩:=HY7.out.1.three
     have x2d:w7.drew.cell? ⟨Y,2,none⟩=some (.string x.data):=x2
     have z0d:w7.drew.cell? ⟨p,0,none⟩=some (.slice A7 bs.length cap7):=z0
     have HV8:=Lib.hid HV7.out.drew
     have HB8:=Lib.hid HB7.out.drew
     go_upto_region 13 with (fail)
     go_region_law ((refine step_append_str_S _ rfl (.tmp 80) (.tmp 82) 84 9 rfl 5 i0 Tryz.underlying84 Tryz.underlying9 hi0 hz0 hz1 hz2 (.slice A7 bs.length cap7) bs.length (bvs bs) rfl HV8.out x.data rfl (by omega) ?_;intro v9 w9 hown hst hg;have hb9:Blk w9 p 177 _:=(hg.block p hpl (fun e=>HNE.out e.symm)).trans HB8.out;have k0:=hb9.cell 0;have k1:=hb9.frozen 0;simp at k0 k1;obtain ⟨A9,cap9,rfl,_,_⟩:=own_form' hown;have HO9:=Lib.hid hown;have HS9:=Lib.hid hst;have HB9:=Lib.hid hb9;clear hown hst hg hb9))
     all_goals
      have hsl:(bs++x.data.data.toList).length=bs.length+96:=by rw [List.length_append,←hds];rfl
      have ho9:=HO9.out
      rw [hds] at ho9
      have hcol:=(HS9.out.old p HB8.out.lt).trans HC7.out
      have hxw:=WrAt.setB (W:=⟨bs,0⟩) (l:=bs++x.data.data.toList) HB9.out hcol (by decide) (by rw [hsl,bvs_app];exact ho9)
      rw [hsl] at hxw
      have hst:=(Step.of_drew HS9.out).setCell (p:=⟨p,0,none⟩) hcol (.slice A9 (bs.length+96) cap9)
      have hxn:=HX7.out.next hxw hst
      rw [HBS.out] at hxn
      have HXN:=Lib.hid hxn
      have HKN:=Lib.hid (HK7.out.step hst no10)
      clear ho9 hxw hst hxn hcol hsl k0 k1 HB9 HO9 HS9
      go_wp2_with fail
      go_roundg (l.length - (0+1))
      case measure=>have:=HNK.out;omega
      case rel=>exact ⟨0+1,_,by omega,by first | go_num | rw [(round_up hlt (by have:=HLL.out;omega)).1],HXN.out,HKN.out,HO5⟩
    ·obtain ⟨m,hm⟩:∃m,k=m+1:=⟨k - 1,by omega⟩
     have HMM:=Lib.hid hm
     obtain ⟨y,hy⟩:∃y,l[m]? = some y:=⟨_,List.getElem?_eq_getElem (by omega)⟩
     have HY9:=Lib.hid hy
     obtain ⟨ad',e',c0,_,_⟩:=(HR.out.below' (by omega) HX4.out.env.low).imrow hy
     injection e' with e'
     subst e'
     have he:IntKind.i64.wrap ((k:Int) - 1)=(m:Int):=by rw [IntWalk.i64_in _ (by have:=HLL.out;omega)];omega
     have hm0:(0:Int)≤(m:Int):=by omega
     have hm1:(m:Int)<(l.length:Int):=by omega
     have hkd:decide (0<k)=true:=decide_eq_true (by omega)
     by_cases hle:x.block≤y.block
     ·have HWE:=Lib.hid (HWB.out k x HXM.out (.inr ⟨y,by omega,by rw [hm];exact hy,hle⟩))
      have hd1:decide (x.block≤y.block)=true:=decide_eq_true hle
      clear hm hy hk0
      go_upto_region 9 with (fail)
      go_quiet (fail)
      go_wp2_with fail
      go_ret2
      exact ⟨by rw [HPS.out,HWE.out];rfl,(HX4.out.drewN _).env.low⟩
     ·have hd1:decide (x.block≤y.block)=false:=decide_eq_false hle
      have HLE:=Lib.hid hle
      clear hm hy hk0 hle
      go_upto_region 9 with (fail)
      go_quiet (fail)
      clear x0 x1 x2 y2 c0 he hkd hd1
      have HX5:=Lib.hid (HX4.out.drewN nq)
      have HK5:=Lib.hid (HK4.out.drewN nq)
      have HY5:=Lib.hid (HY4.out.drewN nq)
      have HO5:=Lib.hid (okTo_succ HOK.out HXM.out HRR.out (fun z _ hz=>by rw [show k - 1=m by have:=HMM.out;omega,HY9.out] at hz;injection hz with hz;subst hz;have:=HLE.out;omega))
      generalize w4.drewN nq=w5 at HX5 HK5 HY5 ⊢
      obtain ⟨x0,x1,x2⟩:=HY5.out.1.three
      obtain ⟨bn,hbn⟩:∃bn:Nat,x.block=bn:=⟨x.block.toNat,by have:=HRR.out.1;omega⟩
      have HBN:=Lib.hid hbn
      have hb4:bn<4096:=by have:=HRR.out.2.1;omega
      have wa:IntKind.u64.wrap x.block=(bn:Int):=by rw [hbn];exact wrapu_n (by omega)
      have HNA:=Lib.hid (show numOk bn 4 from ⟨by omega,by omega,by simp;omega⟩)
      have HNB:=Lib.hid (show numOk x.ver 8 from ⟨by omega,by omega,by have:=HXV.out;simpa using this⟩)
      have hlb:(bodyL (l.take k)).length≤10800000:=by rw [body_take HOK.out (by omega)];have:=HLL.out;omega
      obtain ⟨b0,hb0⟩:∃b0,bodyL (l.take k)=b0:=⟨_,rfl⟩
      have HB0:=Lib.hid hb0
      rw [hb0] at hlb HX5
      have HLB:=Lib.hid hlb
      clear hbn hlb hb0
      go_wp2_with fail
      refine (xnum_ok HX5.out bn 4 HNA.out (by omega) (by have:=HLB.out;omega)).mono ?_
      rintro e w6 ⟨rfl,o6,hx6,hs6⟩
      have HX6:=Lib.hid hx6
      have HK6:=Lib.hid (HK5.out.step hs6 no10)
      have HY6:=Lib.hid (HY5.out.step hs6 no10)
      clear hx6 hs6 x0 x1 x2 wa hb4
      obtain ⟨x0,x1,x2⟩:=HY6.out.1.three
      go_wp2_with fail
      refine (xnum_ok HX6.out x.ver 8 HNB.out HXV.out (by rw [List.length_append,le_len];have:=HLB.out;simp;omega)).mono ?_
      rintro e w7 ⟨rfl,o7,hx7,hs7⟩
      have HX7:=Lib.hid hx7
      have HK7:=Lib.hid (HK6.out.step hs7 no10)
      have HY7:=Lib.hid (HY6.out.step hs7 no10)
      have hop:=hx7.wr.open_
      simp only at hop
      have HBS:=Lib.hid (show (b0++le bn (4:Int).toNat++le x.ver (8:Int).toNat)++x.data.data.toList=bodyL (l.take (k+1)) by
       rw [bodyL_snoc l k x HXM.out,HB0.out]
       unfold imL
       rw [HBN.out]
       simp)
      have hbl:(b0++le bn (4:Int).toNat++le x.ver (8:Int).toNat).length≤11000000:=by rw [List.length_append,List.length_append,le_len,le_len];have:=HLB.out;simp;omega
      generalize b0++le bn (4:Int).toNat++le x.ver (8:Int).toNat=bs at HX7 HBS hop hbl
      obtain ⟨A7,cap7,z0,z1,f0,f1,hc1,hc2,hpl,HB7,HC7,HV7⟩:=hop
      have hne:=own_blk_ne HV7.out HB7.out (by decide)
      have HNE:=Lib.hid hne
      have hds:x.data.size=96:=HRR.out.2.2
      clear hx7 hs7 x0 x1 x2 hne
      obtain ⟨x0,x1,x2⟩:=HY7.out.1.three
      have x2d:w7.drew.cell? ⟨Y,2,none⟩=some (.string x.data):=x2
      have z0d:w7.drew.cell? ⟨p,0,none⟩=some (.slice A7 bs.length cap7):=z0
      have HV8:=Lib.hid HV7.out.drew
      have HB8:=Lib.hid HB7.out.drew
      go_upto_region 13 with (fail)
      go_region_law ((refine step_append_str_S _ rfl (.tmp 80) (.tmp 82) 84 9 rfl 5 i0 Tryz.underlying84 Tryz.underlying9 hi0 hz0 hz1 hz2 (.slice A7 bs.length cap7) bs.length (bvs bs) rfl HV8.out x.data rfl (by omega) ?_;intro v9 w9 hown hst hg;have hb9:Blk w9 p 177 _:=(hg.block p hpl (fun e=>HNE.out e.symm)).trans HB8.out;have k0:=hb9.cell 0;have k1:=hb9.frozen 0;simp at k0 k1;obtain ⟨A9,cap9,rfl,_,_⟩:=own_form' hown;have HO9:=Lib.hid hown;have HS9:=Lib.hid hst;have HB9:=Lib.hid hb9;clear hown hst hg hb9))
      all_goals
       have hsl:(bs++x.data.data.toList).length=bs.length+96:=by rw [List.length_append,←hds];rfl
       have ho9:=HO9.out
       rw [hds] at ho9
       have hcol:=(HS9.out.old p HB8.out.lt).trans HC7.out
       have hxw:=WrAt.setB (W:=⟨bs,0⟩) (l:=bs++x.data.data.toList) HB9.out hcol (by decide) (by rw [hsl,bvs_app];exact ho9)
       rw [hsl] at hxw
       have hst:=(Step.of_drew HS9.out).setCell (p:=⟨p,0,none⟩) hcol (.slice A9 (bs.length+96) cap9)
       have hxn:=HX7.out.next hxw hst
       rw [HBS.out] at hxn
       have HXN:=Lib.hid hxn
       have HKN:=Lib.hid (HK7.out.step hst no10)
       clear ho9 hxw hst hxn hcol hsl k0 k1 HB9 HO9 HS9
       go_wp2_with fail
       go_roundg (l.length - (k+1))
       case measure=>have:=HNK.out;omega
       case rel=>exact ⟨k+1,_,by omega,by first | go_num | rw [(round_up hlt (by have:=HLL.out;omega)).1],HXN.out,HKN.out,HO5⟩
   ·have HWE:=Lib.hid (HWB.out k x HXM.out (.inl hr))
    have HRR:=Lib.hid hr
    clear hr
    go_upto_region 8 with (fail)
    clear c0 c1 c2 y2
    generalize wr.alloc (.cells #[.int .i64 x.block, .int .u64 x.ver, .string x.data] 47)=W3 at HY HX2 HK2 ⊢
    generalize wr.heap.size=Y at HY ⊢
    obtain ⟨x0,x1,x2⟩:=HY.out.1.three
    go_wp2_with fail
    refine (refputblock_bad x HRR.out _).mono ?_
    rintro e w4 ⟨rfl,hb4⟩
    have HX4:=Lib.hid (HX2.out.below_ hb4)
    clear hb4 x0 x1 x2
    go_upto_region 9 with (fail)
    go_quiet (fail)
    go_wp2_with fail
    go_ret2
    exact ⟨by rw [HPS.out,HWE.out];rfl,(HX4.out.drewN _).env.low⟩
  ·have hltI:¬(k:Int)<(l.length:Int):=by omega
   obtain rfl:k=l.length:=by have:=HNK.out;omega
   by_cases h60:60<l.length
   ·have HWE:=Lib.hid (HW60.out HOK.out h60)
    have h60I:(60:Int)<(l.length:Int):=by omega
    go_wp2_with fail
    go_ret2
    exact ⟨by rw [HPS.out,HWE.out];rfl,HX1.out.env.low⟩
   ·have HWE:=Lib.hid (HW0.out HOK.out (by omega))
    have h60I:¬(60:Int)<(l.length:Int):=by omega
    have HSN:=Lib.hid (secs_pos HN1.out (by omega:l.length≤60))
    have HL60:=Lib.hid (show l.length≤60 by omega)
    have HBL:=Lib.hid (show (bodyL l).length=108*l.length by have:=body_take HOK.out (Nat.le_refl _);rwa [List.take_length] at this)
    have hx9:=HX1.out
    rw [List.take_length] at hx9
    have HX9:=Lib.hid hx9
    clear h60 hx9
    go_upto_region 17 with (fail)
    obtain ⟨A7,cap7,hz7,hcv7⟩:=HX9.out.conv
    rw [HBL.out] at hz7 hcv7
    obtain ⟨sc,hsc⟩:∃sc,(108*l.length+41) / 42=sc:=⟨_,rfl⟩
    have HSC:=Lib.hid (show secsOf (l.length:Int)=sc by rw [HSN.out,hsc])
    obtain ⟨zn,hzn⟩:∃zn,42*sc - 108*l.length=zn:=⟨_,rfl⟩
    have hl6:=HL60.out
    obtain ⟨tz,htz⟩:∃tz,42*sc=tz:=⟨_,rfl⟩
    have e1:IntKind.i64.wrap (42*(sc:Int))=(tz:Int):=by rw [IntWalk.i64_in _ (by omega)];omega
    have e2:IntKind.i64.wrap ((tz:Int) - 108*(l.length:Int))=(zn:Int):=by rw [IntWalk.i64_in _ (by omega)];omega
    obtain ⟨wm,hmk,_,hbm,hcz⟩:=mkbytes wr.drew zn (by omega)
    have hcz2:(convert 84 9 (.slice (some ⟨wr.heap.size,0,none⟩) zn zn)).run Tryz.prog wm = .ok (.string (str (zer zn))) wm:=hcz
    have hz7d:wr.drew.cell? ⟨p,0,none⟩=some (.slice A7 (108*l.length) cap7):=hz7
    have HXD:=Lib.hid (show Xg o1 w wr.drew p (bodyL l) from HX9.out.drewN 1)
    have HXM:=Lib.hid (HXD.out.below_ hbm)
    have hcv7d:=HXD.out.conv_at (A:=A7) (cap:=cap7) (by rw [HBL.out];exact hz7d)
    have hz7m:wm.cell? ⟨p,0,none⟩=some (.slice A7 (108*l.length) cap7):=by
     exact (hbm.cell (World.block_lt_of_cell? _ _ hz7d)).trans hz7d
    have hcv7m:=HXM.out.conv_at (A:=A7) (cap:=cap7) (by rw [HBL.out];exact hz7m)
    rw [HBL.out] at hcv7d hcv7m
    have hcat:¬9223372036854775807<(str (bodyL l)).size+(str (zer zn)).size:=by rw [str_size,str_size,zer_len,HBL.out];omega
    go_cut [10] from 91 (fun t10 wx=>t10 = .string (str (bodyL l++zer zn))∧wx=wm)
    case first =>
     clear HPS HTS HR0 HTL HRS HRL HR HV HE HLS HWB HW60 HW0 HRZ HLL HCP HQP HNK HOK HWE HBL HX9 HX1 HK1 HXD HXM HSN y2
     go_region_law (go_simp;go_at_call 123;((with_reducible refine (refsectors_any l.length HN1.out HL60.out).mono ?_);rintro e6 w6 ⟨rfl,rfl⟩;rw [HSC.out]))
     all_goals
      go_wp2_with fail
      go_meet
      case rel=>exact ⟨by rw [str_append],rfl⟩
    case rest =>
     obtain ⟨rfl,rfl⟩:=hcut
     have HBK:=Lib.hid ((HK1.out.drewN 1).1.below_ hbm)
     have HBB:=Lib.hid ((HX9.out.drewN 1).env.low.trans (hbm.mono (HX9.out.drewN 1).env.low.size))
     have HLF:=Lib.hid (show (bodyL l++zer zn).length=sc*42 by rw [List.length_append,zer_len,HBL.out];omega)
     have HCH:=Lib.hid (fun k (hk:k<sc)=>show ∃t:List UInt8,(str (bodyL l++zer zn)).extract (k*42) (k*42+42)=str t∧t.length=42∧stampL ((le ep 8++(le ls 8++(le k 1++le l.length 1)))++t) 64=recS R k from by
      obtain ⟨m,hm⟩:=chunk_zer (bodyL l) zn k
      have h1:(((bodyL l++zer zn).take (k*42+42)).drop (k*42)).length=42:=by
       rw [List.length_drop,List.length_take,HLF.out]
       omega
      refine ⟨_,extract_str _ _ _,h1,?_⟩
      rw [hm] at h1 ⊢
      rw [←List.append_assoc,stamp_zer _ _ (by rw [List.length_append] at h1 ⊢;rw [zer_len] at h1;simp only [List.length_append,le_len];omega),HRS.out k])
     rw [HSC.out] at HRL
     have hsc6:sc≤155:=by omega
     have HSS:=Lib.hid (show (str (bodyL l++zer zn)).size=sc*42 by rw [str_size,HLF.out])
     generalize str (bodyL l++zer zn)=S at HSS HCH ⊢
     clear HLF
     clear hz7 hcv7 hz7d hcv7d hz7m hcv7m hcz hcz2 hmk hcat e1 e2 htz hzn hsc HX9 HX1 HK1 hbm HXD HXM HBL
     go_wp2_with fail
     go_loopg [11,12,13,14,15] sc (fun n t11 t12 _ _ _ wx=>∃k:Nat,n+k=sc∧t12 = .int .i64 (k:Nat)∧t11 = .string (str (recTo R k))∧Below w.heap.size w wx∧Blk wx q 202 #[.int .u64 ep, .int .u64 ls, .slice A l.length cap])
     case atStart=>exact ⟨0,by omega,rfl,by rw [HR0.out];rfl,HBB.out,HBK.out⟩
     case round =>
      obtain ⟨k,hnk,rfl,rfl,hb,hbk⟩:=hrel
      have HNK:=Lib.hid hnk
      have HB:=Lib.hid hb
      have HBQ:=Lib.hid hbk
      clear hnk hb hbk HBB HBK
      go_wp2_with fail
      refine (refsectors_any l.length HN1.out HL60.out).mono ?_
      rintro e3 w3 ⟨rfl,rfl⟩
      rw [HSC.out]
      by_cases hlt:k<sc
      ·have hltI:(k:Int)<(sc:Int):=by omega
       obtain ⟨o2,hw2,hs2⟩:=Xg.start (w0:=w) HB.out
       have hk2:Keep o2 _ q 202 _:=Keep.step (o:=fun _=>0) ⟨HBQ.out,rfl⟩ (hs2 (fun _=>False)) (by simp)
       have HW2:=Lib.hid hw2
       have HK2:=Lib.hid hk2
       clear hw2 hk2 hs2
       go_upto_region 23 with (fail)
       generalize w3.alloc (.cells #[.slice none 0 0, .int .i64 0] 177)=W2 at HW2 HK2 ⊢
       generalize w3.heap.size=P at HW2 ⊢
       have HNA:=Lib.hid (show numOk ep 8 from ⟨by omega,by omega,by simpa using HE.out⟩)
       have HNB:=Lib.hid (show numOk ls 8 from ⟨by omega,by omega,by simpa using HLS.out⟩)
       have HNC:=Lib.hid (show numOk k 1 from ⟨by omega,by omega,by simp;omega⟩)
       have HND:=Lib.hid (show numOk l.length 1 from ⟨by omega,by omega,by have:=HL60.out;simp;omega⟩)
       have HKL:=Lib.hid (show k<18446744073709551616 by omega)
       have HNL:=Lib.hid (show l.length<18446744073709551616 by have:=HL60.out;omega)
       have wk:=wrapu_n (v:=k) (by omega)
       have wl:=wrapu_n (v:=l.length) (by have:=HL60.out;omega)
       have x0:W2.cell? ⟨q,0,none⟩=some (.int .u64 ep):=HK2.out.1.cell 0
       go_wp2_with fail
       refine (xnum_ok HW2.out ep 8 HNA.out HE.out (by simp)).mono ?_
       rintro e4 w4 ⟨rfl,o4,hx4,hs4⟩
       have HX4:=Lib.hid hx4
       have HK4:=Lib.hid (HK2.out.step hs4 no10)
       clear hx4 hs4 x0
       have x1:w4.cell? ⟨q,1,none⟩=some (.int .u64 ls):=HK4.out.1.cell 1
       go_wp2_with fail
       refine (xnum_ok HX4.out ls 8 HNB.out HLS.out (by simp [le_len])).mono ?_
       rintro e5 w5 ⟨rfl,o5,hx5,hs5⟩
       have HX5:=Lib.hid hx5
       have HK5:=Lib.hid (HK4.out.step hs5 no10)
       clear hx5 hs5 x1
       go_wp2_with fail
       refine (xnum_ok HX5.out k 1 HNC.out HKL.out (by simp [le_len])).mono ?_
       rintro e6 w6 ⟨rfl,o6,hx6,hs6⟩
       have HX6:=Lib.hid hx6
       have HK6:=Lib.hid (HK5.out.step hs6 no10)
       clear hx6 hs6
       go_wp2_with fail
       refine (xnum_ok HX6.out l.length 1 HND.out HNL.out (by simp [le_len])).mono ?_
       rintro e7 w7 ⟨rfl,o7,hx7,hs7⟩
       have HK7:=Lib.hid (HK6.out.step hs7 no10)
       obtain ⟨L,hL⟩:∃L,le ep 8++(le ls 8++(le k 1++le l.length 1))=L:=⟨_,rfl⟩
       have hLL:L.length=18:=by rw [←hL];simp [le_len]
       rw [show []++le ep (8:Int).toNat++le ls (8:Int).toNat++le k (1:Int).toNat++le l.length (1:Int).toNat=L by rw [←hL];simp] at hx7
       have HX7:=Lib.hid hx7
       obtain ⟨t,ht,htl,hts⟩:=HCH.out k hlt
       rw [hL] at hts
       have HTS2:=Lib.hid hts
       obtain ⟨A8,cap8,z0,_⟩:=HX7.out.conv
       rw [hLL] at z0
       have z0d:w7.drew.cell? ⟨P,0,none⟩=some (.slice A8 18 cap8):=z0
       have hcv:=(show Xg o7 w w7.drew P L from HX7.out.drewN 1).conv_at (A:=A8) (cap:=cap8) (by rw [hLL];exact z0)
       rw [hLL] at hcv
       obtain ⟨lo,hlo⟩:∃lo,k*42=lo:=⟨_,rfl⟩
       obtain ⟨hi',hhi⟩:∃hi',lo+42=hi':=⟨_,rfl⟩
       rw [hlo,hhi] at ht
       have hSZ:S.size=sc*42:=HSS.out
       have e1:IntKind.i64.wrap (42*(k:Int))=(lo:Int):=by rw [IntWalk.i64_in _ (by omega)];omega
       have e2:IntKind.i64.wrap ((lo:Int)+42)=(hi':Int):=by rw [IntWalk.i64_in _ (by omega)];omega
       have b0:(0:Int)≤(lo:Int):=by omega
       have b1:(lo:Int)≤(hi':Int):=by omega
       have b2:(hi':Int)≤(S.size:Int):=by rw [hSZ];omega
       obtain ⟨T1,hT1⟩:∃T1,str L=T1:=⟨_,rfl⟩
       obtain ⟨T2,hT2⟩:∃T2,str t=T2:=⟨_,rfl⟩
       have hs1:T1.size=18:=by rw [←hT1,str_size,hLL]
       have hs2:T2.size=42:=by rw [←hT2,str_size,htl]
       rw [hT1] at hcv
       rw [hT2] at ht
       have hcat:¬9223372036854775807<T1.size+T2.size:=by omega
       have HZ:=Lib.hid (show (T1++T2).size≤60 by rw [ByteArray.size_append];omega)
       have HFX:=Lib.hid (show str (stampL (T1++T2).data.toList 64)=str (recS R k) by rw [←hT1,←hT2,str_append,str_list,HTS2.out])
       have HCC:=Lib.hid (show str (recTo R k)++str (recS R k)=str (recTo R (k+1)) by rw [str_append,HTS.out])
       have HC2:=Lib.hid (show ¬9223372036854775807<(str (recTo R k)).size+(str (recS R k)).size by rw [str_size,str_size,HTL.out,HRZ.out];omega)
       clear hSZ hx7 hs7 hts hL hLL htl hlo hhi hs1 hs2 hT1 hT2 wk wl z0
       go_upto_region 27 with (fail)
       go_region_law (go_simp;go_at_call 92;((with_reducible refine (xstamp_any (T1++T2) HZ.out _).mono ?_);rintro e8 w8 ⟨rfl,hb8⟩;rw [HFX.out]))
       all_goals
        have hb9:=(HX7.out.drewN 1).env.low.trans (hb8.mono (HX7.out.drewN 1).env.low.size)
        have HB9:=Lib.hid hb9
        have HK9:=Lib.hid ((HK7.out.drewN 1).1.below_ hb8)
        have hc2:=HC2.out
        clear hb8 hb9 e1 e2 b0 b1 b2 hcat hcv z0d
        go_wp2_with fail
        go_roundg (sc - (k+1))
        case measure=>have:=HNK.out;omega
        case rel=>exact ⟨k+1,by omega,by go_num,by rw [←HCC.out],HB9.out,HK9.out⟩
      ·have hltI:¬(k:Int)<(sc:Int):=by omega
       obtain rfl:k=sc:=by have:=HNK.out;omega
       go_wp2_with fail
       go_ret2
       exact ⟨by rw [HPS.out,HWE.out,if_pos rfl,←HRL.out];rfl,HB.out⟩
set_option maxRecDepth 100000 in
set_option maxHeartbeats 1000000 in
theorem refmost_any {w:World}:Calls Tryz.prog 122 #[.int .i64 8] w fun e w'=>e = .returned (.int .i64 1)∧w'=w:=by
 go_enter Tryz.func122,Tryz.ntmps122
 go_wp2_with fail
 go_loopg [3,4] 60 (fun n t3 t4 wr=>∃(i m:Nat),n+i=61∧1≤i∧m=(if i=1 then 0 else 1)∧t3 = .int .i64 (m:Nat)∧t4 = .int .i64 (i:Nat)∧wr=w)
 case atStart=>exact ⟨1,0,by omega,by omega,rfl,rfl,rfl,rfl⟩
 case round =>
  obtain ⟨i,m,hni,hi1,hm,rfl,rfl,rfl⟩:=hrel
  have HNI:=Lib.hid hni
  have HI1:=Lib.hid hi1
  have HM:=Lib.hid hm
  clear hni hi1 hm
  by_cases hlt:i≤60
  ·have hd1:decide (i≤60)=true:=decide_eq_true hlt
   have hltI:(i:Int)≤60:=by omega
   obtain ⟨sc,hsc⟩:∃sc,secsOf (i:Int)=sc:=⟨_,rfl⟩
   have HSC:=Lib.hid hsc
   have HSN:=Lib.hid (show sc=(108*i+41) / 42 by rw [←hsc,secs_pos HI1.out hlt])
   clear hsc
   go_wp2_with fail
   refine (refsectors_any i HI1.out hlt).mono ?_
   rintro e2 w2 ⟨rfl,rfl⟩
   rw [HSC.out]
   by_cases h1:i=1
   ·subst h1
    have hs3:sc=3:=HSN.out
    subst hs3
    go_wp2_with fail
    go_roundg 59
    case measure=>have:=HNI.out;omega
    case rel=>exact ⟨2,1,by omega,by omega,rfl,rfl,by go_num,rfl⟩
   ·have hs3:¬(sc:Int)≤3:=by have:=HSN.out;have:=HI1.out;omega
    go_wp2_with fail
    go_roundg (61 - (i+1))
    case measure=>have:=HNI.out;omega
    case rel=>exact ⟨i+1,m,by omega,by omega,by rw [HM.out,if_neg h1,if_neg (by have:=HI1.out;omega)],rfl,by go_num,rfl⟩
  ·have hd1:decide (i≤60)=false:=decide_eq_false hlt
   have hltI:¬(i:Int)≤60:=by omega
   obtain rfl:m=1:=by rw [HM.out,if_neg (by omega)]
   go_wp2_with fail
   go_ret
   exact ⟨rfl,rfl⟩
theorem reads_kept {w:World} {X:Nat} {c0 c1 c2 c3:Value} (h:Blk w X 204 #[c0,c1,c2,c3]):Reads w 4 (some ⟨X,0,none⟩) 1 [c0,c1,c2,c3]:=by
 refine ⟨rfl,fun _=>⟨_,rfl,fun j u hj => ?_⟩⟩
 rcases j with _ | _ | _ | _ | j
 ·injection hj with hj;subst hj;exact h.cell 0
 ·injection hj with hj;subst hj;exact h.cell 1
 ·injection hj with hj;subst hj;exact h.cell 2
 ·injection hj with hj;subst hj;exact h.cell 3
 ·simp at hj
theorem kpcells_app (l:List Kp) (y:Kp):kpcells (l ++ [y])=kpcells l++y.cells:=by simp [kpcells]
section
variable {o o':Nat→Nat} {c p q:Nat} {w:World} {x:XL}
set_option maxRecDepth 100000 in
set_option maxHeartbeats 8000000 in
theorem xladd_any (h:XLAt o c w q x p) (l:List Im) (A:Option Addr) (cap:Nat) (hrd:Reads w 3 A l.length (imcells l)) (hll:l.length≤100000) (hcap:l.length≤cap) (hcm:cap≤maxLen) (hv:∀i∈l,i.ver<18446744073709551616)
 (he:x.epoch<18446744073709551616) (hn:x.next<1000000) (hl:x.l.length≤1000) (hwt:x.wait≤1000) (hu:x.used≤1000000) (hat:x.place<7) (hc:1≤c) (hf:Fut o w) :
 Calls Tryz.prog 59 #[.pointer (some ⟨q,0,none⟩), .slice A l.length cap] w fun e w'=>∃N:Nat,e = .returned (.tuple #[.int .u64 N, .int .i64 (x.addE l)])∧∃o',XLAt o' c w' q (x.addX l) p∧Step o (logL c) w o' w':=by
 have H:=Lib.hid h
 have HPR:=Lib.hid (fun W (hr:Reads W 3 A l.length (imcells l))=>refputrecord_any ⟨x.epoch,x.next,l⟩ W A cap hr hll hcap hcm hv he (show x.next<18446744073709551616 by omega))
 have HAE:=Lib.hid (show x.addE l=if x.broken then 13 else if (Rc.mk x.epoch x.next l).wrongE≠0 then (Rc.mk x.epoch x.next l).wrongE else if 1<l.length then 31 else if 7<secsOf l.length+x.used then 10 else 0 from rfl)
 have HAX:=Lib.hid (show x.addX l=if x.addE l≠0 then x else {x with l:=x.l ++ [x.entry l],place:=(x.place+secsOf l.length) % 7,wait:=x.wait+1,next:=x.next+1} from rfl)
 have HEN:=Lib.hid (show x.entry l=⟨x.next,x.place,secsOf l.length,(Rc.mk x.epoch x.next l).putS⟩ from rfl)
 have HWN:=Lib.hid (fun (e:(Rc.mk x.epoch x.next l).wrongE=0)=>(wrong_zero e).2.2.1)
 obtain ⟨E,hE⟩:∃E,(Rc.mk x.epoch x.next l).wrongE=E:=⟨_,rfl⟩
 obtain ⟨PS,hPS⟩:∃PS,(Rc.mk x.epoch x.next l).putS=PS:=⟨_,rfl⟩
 rw [hE] at HPR HAE HWN
 rw [hPS] at HPR HEN
 have HRD:=Lib.hid (show Reads w.drew 3 A l.length (imcells l) from hrd)
 have HL:=Lib.hid hl
 have HU:=Lib.hid hu
 have HN:=Lib.hid hn
 have HWT:=Lib.hid hwt
 have HAT:=Lib.hid hat
 have HC:=Lib.hid hc
 have HF:=Lib.hid hf
 have HLL:=Lib.hid hll
 obtain ⟨i0,hi,hz0,hz1,hz2⟩:=info_parts info_kp
 obtain ⟨A0,cap0,HB0,HC0,HO0,x8,hcap0,hcm0⟩:=h.row
 have x16:w.cell? ⟨q,16,none⟩=some (.bool x.broken):=HB0.out.cell 16
 clear x8 hcap0 hcm0 HO0 HC0
 clear h hrd hll hcap hcm hv he hn hl hwt hu hat hc hf hE hPS
 by_cases hbr:x.broken=true
 ·have h13:=Lib.hid (show x.addE l=13 by rw [HAE.out,if_pos hbr])
  have hax:=Lib.hid (show x.addX l=x by rw [HAX.out,if_pos (by rw [h13.out];decide)])
  rw [hbr] at x16
  go_enter Tryz.func59,Tryz.ntmps59
  go_wp2_with fail
  go_ret2
  first | exact ⟨⟨0,by rw [h13.out];rfl⟩,o,by rw [hax.out];exact H.out,Step.refl _ _ _⟩ | exact ⟨0,by rw [h13.out];rfl,o,by rw [hax.out];exact H.out,Step.refl _ _ _⟩
 have hbr2:x.broken=false:=by simpa using hbr
 rw [hbr2] at x16
 have HA1:=Lib.hid (show x.addE l=if E≠0 then E else if 1<l.length then 31 else if 7<secsOf l.length+x.used then 10 else 0 by rw [HAE.out,if_neg hbr])
 clear hbr HAE
 have y7:w.drew.cell? ⟨q,7,none⟩=some (.int .u64 x.epoch):=HB0.out.cell 7
 have y10:w.drew.cell? ⟨q,10,none⟩=some (.int .u64 x.next):=HB0.out.cell 10
 go_enter Tryz.func59,Tryz.ntmps59
 go_upto_region 3 with (fail)
 go_region_held3 (fun w'=>w'.cell? ⟨q,7,none⟩=some (.int .u64 x.epoch)∧w'.cell? ⟨q,10,none⟩=some (.int .u64 x.next))
  (first | exact ⟨y7,y10⟩ | exact ⟨hb3.cell 7,hb3.cell 10⟩ | go_keep)
  (first | (go_at_call 121;((with_reducible refine (HPR.out _ HRD.out).mono ?_);rintro e3 w3 ⟨rfl,hbl3⟩;have hb3:=HB0.out.drew.below_ hbl3)))
 have H3:=Lib.hid (H.out.drew.below_ hbl3)
 have HS3:=Lib.hid (Step.of_drew (Step.of_below o (logL c) hbl3))
 have HF3:=Lib.hid (HF.out.drew.below hbl3)
 clear hbl3 hb3 y7 y10 x16 HB0 HRD HPR
 by_cases hE0:E=0
 ·subst hE0
  obtain ⟨A3,cap3,HB3,HC3,HO3,y8,hcap3,hcm3⟩:=H3.out.row
  have y3:w3.cell? ⟨q,3,none⟩=some (.int .i64 8):=HB3.out.cell 3
  have hle1:1≤l.length:=List.length_pos_iff.2 (HWN.out rfl)
  have HA2:=Lib.hid (show x.addE l=if 1<l.length then 31 else if 7<secsOf l.length+x.used then 10 else 0 by rw [HA1.out];simp)
  go_wp2_with fail
  refine refmost_any.mono ?_
  rintro e4 w4 ⟨rfl,rfl⟩
  by_cases h1:1<l.length
  ·have h1I:(1:Int)<(l.length:Int):=by omega
   have h31:=Lib.hid (show x.addE l=31 by rw [HA2.out,if_pos h1])
   have hax:=Lib.hid (show x.addX l=x by rw [HAX.out,if_pos (by rw [h31.out];decide)])
   go_wp2_with fail
   go_ret2
   first | exact ⟨⟨0,by rw [h31.out];rfl⟩,o,by rw [hax.out];exact H3.out,HS3.out⟩ | exact ⟨0,by rw [h31.out];rfl,o,by rw [hax.out];exact H3.out,HS3.out⟩
  ·have hlen:l.length=1:=by omega
   have hs3:secsOf ((1:Nat):Int)=3:=by decide
   have HA3:=Lib.hid (show x.addE l=if 7<3+x.used then 10 else 0 by rw [HA2.out,if_neg h1,hlen,hs3])
   rw [hlen]
   go_wp2_with fail
   refine (refsectors_any 1 (by omega) (by omega)).mono ?_
   rintro e5 w5 ⟨rfl,rfl⟩
   rw [hs3]
   go_wp2_with fail
   refine (xlused_any H3.out (by have:=HL.out;omega) HU.out).mono ?_
   rintro e6 w6 ⟨rfl,rfl⟩
   have hw6:IntKind.i64.wrap ((x.used:Int)+3)=(x.used:Int)+3:=IntWalk.i64_in _ (by have:=HU.out;omega)
   by_cases h7:7<3+x.used
   ·have h7I:(7:Int)<(x.used:Int)+3:=by omega
    have h10:=Lib.hid (show x.addE l=10 by rw [HA3.out,if_pos h7])
    have hax:=Lib.hid (show x.addX l=x by rw [HAX.out,if_pos (by rw [h10.out];decide)])
    go_wp2_with fail
    go_ret2
    first | exact ⟨⟨0,by rw [h10.out];rfl⟩,o,by rw [hax.out];exact H3.out,HS3.out⟩ | exact ⟨0,by rw [h10.out];rfl,o,by rw [hax.out];exact H3.out,HS3.out⟩
   ·have h7I:¬(7:Int)<(x.used:Int)+3:=by omega
    have h0:=Lib.hid (show x.addE l=0 by rw [HA3.out,if_neg h7])
    have hax:=Lib.hid (show x.addX l = {x with l:=x.l ++ [⟨x.next,x.place,3,PS⟩],place:=(x.place+3) % 7,wait:=x.wait+1,next:=x.next+1} by rw [HAX.out,if_neg (by rw [h0.out];decide),HEN.out,hlen,hs3])
    go_upto_region 12 with (fail)
    clear h7 h7I hw6 h1 hlen hle1 y3 hs3 HA1 HA2 HA3 HAX HEN HWN hbr2
    obtain ⟨n,hn⟩:∃n,x.l.length=n:=⟨_,rfl⟩
    have HLN:=Lib.hid (show n≤1000 by rw [←hn];exact HL.out)
    rw [hn] at y8 hcap3 HB3 HO3
    have HNE:=Lib.hid hn
    have hcm3I:(cap3:Int)≤9223372036854775807:=by unfold maxLen at hcm3;omega
    have HBD:=Lib.hid HB3.out.drew
    have HBA:=Lib.hid (HB3.out.alloc (.cells #[.int .u64 x.next, .int .i64 x.place, .int .i64 3, .string PS] 204)).drew
    have HRA:=Lib.hid (show Reads w6.drew 4 A3 n (kpcells x.l) from Reads.of_own HO3.out.1)
    have HRB:=Lib.hid (show Reads (w6.alloc (.cells #[.int .u64 x.next, .int .i64 x.place, .int .i64 3, .string PS] 204)).drew 4 A3 n (kpcells x.l) from (Reads.of_own HO3.out.1).alloc' (by omega) (.cells #[.int .u64 x.next, .int .i64 x.place, .int .i64 3, .string PS] 204))
    have HSD:=Lib.hid HS3.out.drew
    have HSA:=Lib.hid (HS3.out.alloc (.cells #[.int .u64 x.next, .int .i64 x.place, .int .i64 3, .string PS] 204)).drew
    have HKA:=Lib.hid (Keep.new HF3.out 204 #[.int .u64 x.next, .int .i64 x.place, .int .i64 3, .string PS]).drew
    have HC1:=Lib.hid (show ¬only (c+1) c by unfold only;omega)
    have HC00:=Lib.hid (show ¬only (c+1) 0 by unfold only;omega)
    have HKO:=Lib.hid (kpcells_one x.l)
    have HLB:=Lib.hid (show n≤maxLen∧n+1≤maxLen by have:=HLN.out;unfold maxLen;omega)
    have y8d:w6.drew.cell? ⟨q,8,none⟩=some (.slice A3 n cap3):=y8
    have y10d:w6.drew.cell? ⟨q,10,none⟩=some (.int .u64 x.next):=HBD.out.cell 10
    have y14d:w6.drew.cell? ⟨q,14,none⟩=some (.int .i64 x.place):=HBD.out.cell 14
    have y8a:(w6.alloc (.cells #[.int .u64 x.next, .int .i64 x.place, .int .i64 3, .string PS] 204)).cell? ⟨q,8,none⟩=some (.slice A3 n cap3):=HBA.out.cell 8
    clear y8 hcap3 hcm3 HO3 H3
    go_cut [] from 55 (fun wx=>∃(o9:Nat→Nat) (A9:Option Addr) (cap9:Nat),Blk wx q 132 (x.cells p (.slice A9 (n+1) cap9))∧o9 q=c∧OwnS o9 (c+1) wx 204 4 (.slice A9 (n+1) cap9) (n+1) (kpcells x.l ++ [.int .u64 x.next, .int .i64 x.place, .int .i64 3, .string PS])∧Step o (logL c) w o9 wx)
    case first =>
     go_region_law (first
      | (refine step_append_S _ rfl (.const (.slice none 0 0)) (.tmp 59) 130 rfl 204 i0 _ 4 40 Tryz.underlying130 hi hz0 hz1 hz2 rfl (by omega) (.slice none 0 0) 0 [] rfl (OwnS.nil o (c+1) _ _ _) A3 n cap3 (kpcells x.l) rfl HRA.out HKO.out (by have:=HLB.out;omega) (by have:=HLN.out;omega) ?_;intro v7 w7 hown hst hg hat;simp only [Nat.zero_add,List.nil_append] at hown;obtain ⟨A7,cap7,rfl,_,_⟩:=own_form' hown;have hb7:=HBD.out.step hst (by rw [show o q=c from HC3.out];exact HC1.out);have z10:=hb7.cell 10;have z14:=hb7.cell 14;simp [XL.cells] at z10 z14;have HO8:=Lib.hid (hown.alloc (.cells #[.int .u64 x.next, .int .i64 x.place, .int .i64 3, .string PS] 204));have HB8:=Lib.hid (hb7.alloc (.cells #[.int .u64 x.next, .int .i64 x.place, .int .i64 3, .string PS] 204));have HS8:=Lib.hid ((HSD.out.trans (hst.mono (logL_ring c))).alloc (.cells #[.int .u64 x.next, .int .i64 x.place, .int .i64 3, .string PS] 204));have HR8:=Lib.hid (reads_kept (Blk.new w7 204 #[.int .u64 x.next, .int .i64 x.place, .int .i64 3, .string PS]));have HQ8:=Lib.hid ((hst.old q HBD.out.lt).trans HC3.out);clear hown hst hg hat hb7)
      | (refine step_append_S _ rfl (.const (.slice none 0 0)) (.tmp 59) 130 rfl 204 i0 _ 4 40 Tryz.underlying130 hi hz0 hz1 hz2 rfl (by omega) (.slice none 0 0) 0 [] rfl (OwnS.nil o (c+1) _ _ _) A3 n cap3 (kpcells x.l) rfl HRB.out HKO.out (by have:=HLB.out;omega) (by have:=HLN.out;omega) ?_;intro v7 w7 hown hst hg hat;simp only [Nat.zero_add,List.nil_append] at hown;obtain ⟨A7,cap7,rfl,_,_⟩:=own_form' hown;have HO8:=Lib.hid hown;have HB8:=Lib.hid (HBA.out.step hst (by rw [show o q=c from HC3.out];exact HC1.out));have HS8:=Lib.hid (HSA.out.trans (hst.mono (logL_ring c)));have HR8:=Lib.hid (reads_kept (HKA.out.step hst HC00.out).1);have HQ8:=Lib.hid ((hst.old q HBA.out.lt).trans HC3.out);clear hown hst hg hat)
      | (refine step_append_S _ rfl (.tmp 60) (.tmp 72) 130 rfl 204 i0 _ 4 40 Tryz.underlying130 hi hz0 hz1 hz2 rfl (by omega) (.slice A7 n cap7) n (kpcells x.l) rfl HO8.out (some ⟨_,0,none⟩) 1 1 [.int .u64 x.next, .int .i64 x.place, .int .i64 3, .string PS] rfl HR8.out (by simp [Value.oneCell']) (by have:=HLB.out;omega) (by have:=HLN.out;omega) ?_;intro v9 w9 hown hst hg hat;obtain ⟨A9,cap9,rfl,_,_⟩:=own_form' hown;have hb9:=HB8.out.step hst (by rw [HQ8.out];exact HC1.out);have k8:=hb9.cell 8;have g8:=hb9.frozen 8;simp [XL.cells] at k8;have HB9:=Lib.hid hb9;have HO9:=Lib.hid hown;have HS9:=Lib.hid (HS8.out.trans (hst.mono (logL_ring c)));have HQ9:=Lib.hid ((hst.old q HB8.out.lt).trans HQ8.out);clear hown hst hg hat hb9))
     all_goals
      have hne:=own_blk_ne HO9.out HB9.out (by decide)
      have HF9:=Lib.hid (show ∃(o9:Nat→Nat) (B9:Option Addr) (bap9:Nat),Blk (w9.setCell ⟨q,8,none⟩ (.slice A9 (n+1) cap9)) q 132 (x.cells p (.slice B9 (n+1) bap9))∧o9 q=c∧OwnS o9 (c+1) (w9.setCell ⟨q,8,none⟩ (.slice A9 (n+1) cap9)) 204 4 (.slice B9 (n+1) bap9) (n+1) (kpcells x.l ++ [.int .u64 x.next, .int .i64 x.place, .int .i64 3, .string PS])∧Step o (logL c) w o9 (w9.setCell ⟨q,8,none⟩ (.slice A9 (n+1) cap9)) from
       ⟨_,A9,cap9,HB9.out.set_ 8 _,HQ9.out,HO9.out.setCell (p:=⟨q,8,none⟩) hne _,HS9.out.setCell (p:=⟨q,8,none⟩) (.inl HQ9.out) _⟩)
      clear hne HB9 HO9 HS9 HQ9
      go_wp2_with fail
      go_meet
      case rel=>exact HF9.out
    case rest =>
     obtain ⟨o9,A9,cap9,hb9,hq9,ho9,hs9⟩:=hcut
     have HQ9:=Lib.hid hq9
     have HO9:=Lib.hid ho9
     have HB9:=Lib.hid hb9
     have HS9:=Lib.hid hs9
     have z14:wc.cell? ⟨q,14,none⟩=some (.int .i64 x.place):=hb9.cell 14
     have z9:wc.cell? ⟨q,9,none⟩=some (.int .i64 x.wait):=hb9.cell 9
     have z10:wc.cell? ⟨q,10,none⟩=some (.int .u64 x.next):=hb9.cell 10
     have g14:=hb9.frozen 14
     have g9:=hb9.frozen 9
     have g10:=hb9.frozen 10
     obtain ⟨m,hm⟩:∃m,(x.place+3) % 7=m:=⟨_,rfl⟩
     obtain ⟨wt,hwt⟩:∃wt,x.wait+1=wt:=⟨_,rfl⟩
     obtain ⟨nn,hnn⟩:∃nn,x.next+1=nn:=⟨_,rfl⟩
     have e1:IntKind.i64.wrap ((x.place:Int)+3)=(x.place:Int)+3:=IntWalk.i64_in _ (by have:=HAT.out;omega)
     have e2:((x.place:Int)+3).tmod 7=(m:Int):=by rw [Int.tmod_eq_emod_of_nonneg (by omega)];omega
     have e3:IntKind.i64.wrap (m:Int)=(m:Int):=IntWalk.i64_in _ (by omega)
     have e4:IntKind.i64.wrap ((x.wait:Int)+1)=(wt:Int):=by rw [IntWalk.i64_in _ (by have:=HWT.out;omega)];omega
     have e5:IntKind.u64.wrap ((x.next:Int)+1)=(nn:Int):=by rw [IntWalk.u64_in _ (by have:=HN.out;omega)];omega
     have e6:IntKind.u64.wrap ((nn:Int) - 1)=(x.next:Int):=by rw [IntWalk.u64_in _ (by have:=HN.out;omega)];omega
     have e7:wrap64 ((x.wait:Int)+1)=(wt:Int):=by rw [IntWalk.wrap64_in _ (by have:=HWT.out;omega)];omega
     have HAX2:=Lib.hid (show x.addX l = {x with l:=x.l ++ [⟨x.next,x.place,3,PS⟩],place:=m,wait:=wt,next:=nn} by rw [hax.out,hm,hwt,hnn])
     clear hm hwt hnn hb9 hq9 ho9 hs9
     have hS:=((Step.refl o9 (only c) wc).setCell (p:=⟨q,14,none⟩) HQ9.out (.int .i64 (m:Nat))).setCell (p:=⟨q,9,none⟩) HQ9.out (.int .i64 (wt:Nat)) |>.setCell (p:=⟨q,10,none⟩) HQ9.out (.int .u64 (nn:Nat))
     have HSN:=Lib.hid (HS9.out.trans (hS.mono (logL_log c)))
     have HXN:=Lib.hid (show XLAt o9 c (((wc.setCell ⟨q,14,none⟩ (.int .i64 (m:Nat))).setCell ⟨q,9,none⟩ (.int .i64 (wt:Nat))).setCell ⟨q,10,none⟩ (.int .u64 (nn:Nat))) q (x.addX l) p by
      rw [HAX2.out]
      refine ⟨.slice A9 (n+1) cap9,((HB9.out.set_ 14 _).set_ 9 _).set_ 10 _,HQ9.out,?_⟩
      show OwnS o9 (c+1) _ 204 4 (.slice A9 (n+1) cap9) (x.l ++ [_]).length (kpcells (x.l ++ [_]))
      rw [kpcells_app,List.length_append,HNE.out]
      exact HO9.out.step hS (by unfold only;omega))
     clear hS
     go_wp2_with fail
     go_ret2
     first | exact ⟨⟨x.next,by rw [h0.out];rfl⟩,o9,HXN.out,HSN.out⟩ | exact ⟨x.next,by rw [h0.out];rfl,o9,HXN.out,HSN.out⟩
 ·have t1:(E != 0)=true:=bne_iff_ne.2 hE0
  have hee:=Lib.hid (show x.addE l=E by rw [HA1.out,if_pos hE0])
  have hax:=Lib.hid (show x.addX l=x by rw [HAX.out,if_pos (by rw [hee.out];exact hE0)])
  go_wp2_with fail
  go_ret2
  first | exact ⟨⟨0,by rw [hee.out];rfl⟩,o,by rw [hax.out];exact H3.out,HS3.out⟩ | exact ⟨0,by rw [hee.out];rfl,o,by rw [hax.out];exact H3.out,HS3.out⟩
end
def XL.new (epoch:Nat):XL:=⟨1,epoch,[],0,1,1,0,0,0,false,false⟩
section
variable {o o':Nat→Nat} {c cr p k:Nat} {w:World} {R:RF}
set_option maxRecDepth 100000 in
set_option maxHeartbeats 4000000 in
theorem xlopen_any (hd:RFAt o cr w p R) (hf:Fit R k) (hk:k≤80000) (hc:apart2 cr c) (ep:Nat) (he:ep<18446744073709551616) (hE:(R.lhead 1 ep 1 ⟨ep,1,0⟩).1=0) :
 Calls Tryz.prog 21 #[.pointer (some ⟨p,0,none⟩), .agg #[.int .i64 2, .int .i64 10, .int .i64 8, .int .i64 4, .int .i64 32], .int .i64 1, .int .u64 ep] w fun e w'=>∃q,e = .returned (.tuple #[.pointer (some ⟨q,0,none⟩), .int .i64 0])∧w.heap.size≤q∧∃o',RFAt o' cr w' p (R.lhead 1 ep 1 ⟨ep,1,0⟩).2∧XLAt o' c w' q (XL.new ep) p∧Step o (cutF cr) w o' w':=by
 have HF:=Lib.hid hf
 have HK:=Lib.hid hk
 have HC:=Lib.hid hc
 have HE:=Lib.hid he
 have HE0:=Lib.hid hE
 have hb1:=(Below.refl w.heap.size w).alloc (Nat.le_refl _) (.cells #[.int .i64 2, .int .i64 10, .int .i64 8, .int .i64 4, .int .i64 32] 28)
 have hk1:=Blk.new w 28 #[.int .i64 2, .int .i64 10, .int .i64 8, .int .i64 4, .int .i64 32]
 have hd1:=hd.below_ hb1
 have hs1:=Step.of_below o (cutF cr) hb1
 have HSZ:=Lib.hid (show (w.alloc (.cells #[.int .i64 2, .int .i64 10, .int .i64 8, .int .i64 4, .int .i64 32] 28)).heap.size=w.heap.size+1 by simp)
 have x5:=hk1.five
 have HLT:=Lib.hid hk1.lt
 go_enter Tryz.func21,Tryz.ntmps21
 go_upto_region 2 with (fail)
 have hb2:Below (w.alloc (.cells #[.int .i64 2, .int .i64 10, .int .i64 8, .int .i64 4, .int .i64 32] 28)).heap.size (w.alloc (.cells #[.int .i64 2, .int .i64 10, .int .i64 8, .int .i64 4, .int .i64 32] 28)) ((w.alloc (.cells #[.int .i64 2, .int .i64 10, .int .i64 8, .int .i64 4, .int .i64 32] 28)).alloc (.cells #[.pointer (some ⟨p,0,none⟩), .int .i64 2, .int .i64 10, .int .i64 8, .int .i64 4, .int .i64 32, .int .i64 1, .int .u64 (ep:Nat), .slice none 0 0, .int .i64 0, .int .u64 1, .int .u64 1, .int .u64 0, .int .u64 0, .int .i64 0, .bool false, .bool false, .bool true] 132)):=(Below.refl _ _).alloc (Nat.le_refl _) _
 have hst:=fun C=>Step.of_below_band o C c hb2
 have HD2:=Lib.hid (hd1.step (hst (fun _=>False)) (fun _ _=>id))
 have HS2:=Lib.hid (hs1.trans (hst (cutF cr)))
 have HB2:=Lib.hid (hk1.step (hst (fun _=>False)) id)
 have HX2:=Lib.hid (show XLAt (band o (w.alloc (.cells #[.int .i64 2, .int .i64 10, .int .i64 8, .int .i64 4, .int .i64 32] 28)).heap.size ((w.alloc (.cells #[.int .i64 2, .int .i64 10, .int .i64 8, .int .i64 4, .int .i64 32] 28)).alloc (.cells #[.pointer (some ⟨p,0,none⟩), .int .i64 2, .int .i64 10, .int .i64 8, .int .i64 4, .int .i64 32, .int .i64 1, .int .u64 (ep:Nat), .slice none 0 0, .int .i64 0, .int .u64 1, .int .u64 1, .int .u64 0, .int .u64 0, .int .i64 0, .bool false, .bool false, .bool true] 132)).heap.size c) c ((w.alloc (.cells #[.int .i64 2, .int .i64 10, .int .i64 8, .int .i64 4, .int .i64 32] 28)).alloc (.cells #[.pointer (some ⟨p,0,none⟩), .int .i64 2, .int .i64 10, .int .i64 8, .int .i64 4, .int .i64 32, .int .i64 1, .int .u64 (ep:Nat), .slice none 0 0, .int .i64 0, .int .u64 1, .int .u64 1, .int .u64 0, .int .u64 0, .int .i64 0, .bool false, .bool false, .bool true] 132)) (w.heap.size+1) (XL.new ep) p from by
  rw [←HSZ.out]
  exact ⟨.slice none 0 0,Blk.new _ _ _,band_in (Nat.le_refl _) (by simp),OwnS.nil _ _ _ _ _⟩)
 clear hb2 hst hb1 hk1 hd1 hs1 x5
 generalize band o (w.alloc (.cells #[.int .i64 2, .int .i64 10, .int .i64 8, .int .i64 4, .int .i64 32] 28)).heap.size ((w.alloc (.cells #[.int .i64 2, .int .i64 10, .int .i64 8, .int .i64 4, .int .i64 32] 28)).alloc (.cells #[.pointer (some ⟨p,0,none⟩), .int .i64 2, .int .i64 10, .int .i64 8, .int .i64 4, .int .i64 32, .int .i64 1, .int .u64 (ep:Nat), .slice none 0 0, .int .i64 0, .int .u64 1, .int .u64 1, .int .u64 0, .int .u64 0, .int .i64 0, .bool false, .bool false, .bool true] 132)).heap.size c=o2 at HD2 HS2 HX2
 generalize ((w.alloc (.cells #[.int .i64 2, .int .i64 10, .int .i64 8, .int .i64 4, .int .i64 32] 28)).alloc (.cells #[.pointer (some ⟨p,0,none⟩), .int .i64 2, .int .i64 10, .int .i64 8, .int .i64 4, .int .i64 32, .int .i64 1, .int .u64 (ep:Nat), .slice none 0 0, .int .i64 0, .int .u64 1, .int .u64 1, .int .u64 0, .int .u64 0, .int .i64 0, .bool false, .bool false, .bool true] 132))=W at HD2 HS2 HB2 HX2 ⊢
 obtain ⟨q,hq⟩:∃q,w.heap.size+1=q:=⟨_,rfl⟩
 rw [hq] at HX2 ⊢
 obtain ⟨x0,x1,x2,x3,x4⟩:=HB2.out.five
 go_wp2_with fail
 refine (reflogat_one W).mono ?_
 rintro e3 w3 ⟨rfl,hb3⟩
 have HD3:=Lib.hid (HD2.out.below_ hb3)
 have HX3:=Lib.hid (HX2.out.below_ hb3)
 have HS3:=Lib.hid (HS2.out.trans (Step.of_below o2 (cutF cr) hb3))
 clear hb3 x0 x1 x2 x3 x4
 go_wp2_with fail
 refine (xlhead_any HX3.out HD3.out HF.out HK.out (by have:=HC.out;unfold apart2 at this;omega) (by have:=HC.out;unfold apart2 at this;omega) HE.out 1 (by omega) 0).mono ?_
 rintro e4 w4 ⟨rfl,o4,hd4,hs4⟩
 have HX4:=Lib.hid (HX3.out.step hs4 (by have:=HC.out;unfold apart2 at this;unfold cutF;omega) (by have:=HC.out;unfold apart2 at this;unfold cutF;omega))
 have HD4:=Lib.hid hd4
 have HS4:=Lib.hid (HS3.out.trans hs4)
 have h0:(R.lhead 1 (XL.new ep).epoch 1 ⟨(XL.new ep).epoch,1,0⟩).1=0:=HE0.out
 rw [h0]
 clear hd4 hs4 h0
 go_wp2_with fail
 go_ret2
 first | exact ⟨q,rfl,by omega,o4,HD4.out,HX4.out,HS4.out⟩ | exact ⟨⟨q,rfl⟩,by omega,o4,HD4.out,HX4.out,HS4.out⟩
end
end Go.Proofs.YtldoeodkeieejaaGreatDoor
