import Derived.Test.YtohgabdmmbngbaaGreatDoorKLtabA
import Derived.Test.YtohgabdmmbngbaaGreatDoorKSortK
set_option linter.unusedVariables false
set_option linter.unusedSimpArgs false
namespace Go.Proofs.YtohgabdmmbngbaaGreatDoor
open Go.RowKit
theorem wq_size (x:Wq):x.cells.length=5:=rfl
def hindF (l:Lk) (f:Int) (p:Lk):Int:=if fitB p.m l.m=true then f else min f p.a
theorem hindH_eq (l:Lk) (f:Int) (L:List Lk):hindH l f L=(partsL L l.sp).foldl (hindF l) f:=rfl
theorem Reads.wait {w:World} {A:Option Addr} {l:List Wq} (h:Reads w 5 A l.length (wqcells l)) {k:Nat} {y:Wq} (hy:l[k]? = some y) :
 ∃ad,A=some ad∧w.cell? (ad.add (k*5))=some (.int .i64 y.id)∧w.cell? ⟨(ad.add (k*5)).block,(ad.add (k*5)).off+1,none⟩=some (.int .i64 y.node)∧w.cell? ⟨(ad.add (k*5)).block,(ad.add (k*5)).off+2,none⟩=some (.int .i64 y.l.a) ∧
  w.cell? ⟨(ad.add (k*5)).block,(ad.add (k*5)).off+3,none⟩=some (.int .i64 y.l.b)∧w.cell? ⟨(ad.add (k*5)).block,(ad.add (k*5)).off+4,none⟩=some (.int .i64 y.l.m):=by
 obtain ⟨ad,rfl,hc⟩:=Reads.row (f:=Wq.cells) wq_size h hy
 exact ⟨ad,rfl,hc 0 _ rfl,hc 1 _ rfl,hc 2 _ rfl,hc 3 _ rfl,hc 4 _ rfl⟩
theorem below_of_drew {B:Nat} {w w':World} (h:Below B w.drew w'):Below B w w':=⟨h.os,h.tape,h.output,h.size,h.block⟩
theorem own_from' {o:Nat→Nat} {c B n size:Nat} {w:World} {e:TypeId} {v:Value} {xs:List Value} (h:w.ownsRow B e size v n xs) (hz:∀g,B≤g→o g=c):OwnS o c w e size v n xs:=by
 obtain ⟨h1,h2⟩:=h
 rcases h2 with ⟨rfl,rfl⟩ | ⟨g,cap,cur,rfl,hb,hrest⟩
 ·exact ⟨⟨h1, .inl ⟨rfl,rfl⟩⟩,fun g hg=>by simp [Value.ownBlock] at hg⟩
 ·exact ⟨⟨h1, .inr ⟨g,cap,cur,rfl,Nat.zero_le _,hrest⟩⟩,fun g' hg=>by
   simp [Value.ownBlock] at hg
   subst hg
   exact hz _ hb⟩
section
variable {o o':Nat→Nat} {c:Nat} {C:Nat→Prop} {w w':World} {t:Nat} {T:Tb} {hp:Nat→Nat} {A:Option Addr} {cap:Nat}
set_option maxRecDepth 100000 in
set_option maxHeartbeats 8000000 in
theorem thinders_any (h:TbIn o c w t T hp A cap) (wf:TbWf T) (node:Int) (l:Lk) (ahead:List Wq) (B:Option Addr) (capB:Nat) (hr:Reads w 5 B ahead.length (wqcells ahead)) (hal:ahead.length≤100000) :
 Calls Tryz.prog 205 #[.pointer (some ⟨t,0,none⟩), .int .i64 node, .agg #[.int .i64 l.a, .int .i64 l.b, .int .i64 l.m], .slice B ahead.length capB] w fun e w'=>e = .returned (.tuple #[.int .i64 (T.hinders node l ahead), .bool (decide (T.hinders node l ahead<l.b))])∧Below w.heap.size w w':=by
 have HW:=Lib.hid wf
 have hn16:=wf.nodes.2
 have hnI:(T.nodes:Int)≤16:=by omega
 have haI:(ahead.length:Int)≤100000:=by omega
 have HR:=Lib.hid hr
 have HH:=Lib.hid (show T.hinders node l ahead=ahead.foldl (hindW node l) (T.hind1 node l T.nodes) from rfl)
 have HT0:=Lib.hid (h.alloc (.cells #[.int .i64 l.a, .int .i64 l.b, .int .i64 l.m] 47))
 have HK0:=Lib.hid (Blk.new w 47 #[.int .i64 l.a, .int .i64 l.b, .int .i64 l.m])
 have HB0:=Lib.hid ((Below.refl w.heap.size w).alloc (Nat.le_refl _) (.cells #[.int .i64 l.a, .int .i64 l.b, .int .i64 l.m] 47))
 clear h wf hr hal
 go_enter Tryz.func205,Tryz.ntmps205
 go_upto_region 1 with (fail)
 generalize w.alloc (.cells #[.int .i64 l.a, .int .i64 l.b, .int .i64 l.m] 47)=W0 at HT0 HK0 HB0 ⊢
 generalize w.heap.size=gl at HK0 ⊢
 obtain ⟨x0,x1,x2⟩:=HK0.out.three
 go_wp2_with fail
 clear x0 x1 x2
 go_loopg [10,11] T.nodes (fun n t10 t11 wr=>∃k:Nat,n+k=T.nodes∧t11 = .int .i64 ((k:Int)+1)∧t10 = .int .i64 (T.hind1 node l k)∧Blk wr gl 47 #[.int .i64 l.a, .int .i64 l.b, .int .i64 l.m]∧TbIn o c wr t T hp A cap∧Hid (Below w.heap.size w wr))
 case atStart=>exact ⟨0,by omega,by go_num,rfl,HK0.out,HT0.out,Lib.hid HB0.out⟩
 case round =>
  obtain ⟨k,hnk,rfl,rfl,hk,ht,HB⟩:=hrel
  have HNK:=Lib.hid hnk
  have HK:=Lib.hid hk
  have HT:=Lib.hid ht
  clear hnk hk ht HT0 HK0 HB0
  have c0:=HT.out.c0
  by_cases hlt:k<T.nodes
  ·have hltI:(k:Int)+1≤(T.nodes:Int):=by omega
   have hk16:k+1≤16:=by omega
   by_cases hn:(k:Int)+1=node
   ·have HNX:=Lib.hid (show T.hind1 node l (k+1)=T.hind1 node l k from if_pos (by rw [←hn];rfl))
    have hb:((k:Int)+1 == node)=true:=by simp [hn]
    clear hn
    go_wp2_with fail
    go_roundg (T.nodes - (k+1))
    case measure=>have:=HNK.out;omega
    case rel=>exact ⟨k+1,by omega,by go_num,by rw [HNX.out],HK.out,HT.out,HB⟩
   ·have HNX:=Lib.hid (show T.hind1 node l (k+1)=(partsL (T.held (k+1)) l.sp).foldl (hindF l) (T.hind1 node l k) from (if_neg (fun e=>hn (by rw [←e];rfl))).trans (hindH_eq l _ _))
    have hb:((k:Int)+1 == node)=false:=by simp [hn]
    have ch:=HT.out.ch hk16
    have hk17:(k:Int)+1<17:=by omega
    have hk0:(0:Int)≤(k:Int)+1:=by omega
    obtain ⟨x0,x1,x2⟩:=HK.out.three
    have HBH:=Lib.hid (HW.out.held (k+1)).len
    clear hn
    go_wp2_with fail
    have HCP:=Lib.hid (show Calls Tryz.prog 131 #[.pointer (some ⟨hp (k+1),0,none⟩), .agg #[.int .i64 l.a, .int .i64 l.b]] wr.drew _ from iparts_any ((HT.out.held (k+1) hk16).drew) (by have:=HBH.out;omega) l.sp)
    have q1:wr.drew.cell? ⟨t,1+(k+1),none⟩=some (.pointer (some ⟨hp (k+1),0,none⟩)):=ch
    have q2:wr.drew.cell? ⟨gl,0,none⟩=some (.int .i64 l.a):=x0
    have q3:wr.drew.cell? ⟨gl,1,none⟩=some (.int .i64 l.b):=x1
    go_region_held3 (fun w'=>w'.cell? ⟨t,1+(k+1),none⟩=some (.pointer (some ⟨hp (k+1),0,none⟩))∧w'.cell? ⟨gl,0,none⟩=some (.int .i64 l.a)∧w'.cell? ⟨gl,1,none⟩=some (.int .i64 l.b))
     (first | exact ⟨q1,q2,q3⟩ | exact ⟨g1,g2,g3⟩ | go_keep)
     ((go_at_call 131;((with_reducible refine HCP.out.mono ?_);rintro e w3 ⟨D3,cap3,rfl,hr3,hb3⟩;have HR3:=Lib.hid hr3;have HB3:=Lib.hid hb3;have g1:=(HT.out.drew.below_ HB3.out).ch hk16;obtain ⟨g2,g3,g4⟩:=(HK.out.drew.below_ HB3.out).three;clear hr3 hb3)))
    obtain ⟨P,hP⟩:∃P,partsL (T.held (k+1)) l.sp=P:=⟨_,rfl⟩
    have hPL:(partsL (T.held (k+1)) l.sp).length≤4096:=Nat.le_trans (parts_len _ _) HBH.out
    rw [hP] at HR3 HNX hPL ⊢
    have hPI:(P.length:Int)≤4096:=by omega
    have HP3:=Lib.hid (own_from' (c:=0) (o:=fun _=>0) HR3.out (fun _ _=>rfl))
    have HK3:=Lib.hid (HK.out.drew.below_ HB3.out)
    have HT3:=Lib.hid (HT.out.drew.below_ HB3.out)
    have HBB3:=Lib.hid (HB.out.trans ((below_of_drew HB3.out).mono HB.out.size))
    clear hP c0 ch x0 x1 x2 HR3 HB3 HB HK HT hb q1 q2 q3 g1 g2 g3 g4 HCP
    go_wp2_with fail
    go_loopg [10,42] P.length (fun n t10 t42 wi=>∃j:Nat,n+j=P.length∧t42 = .int .i64 (j:Nat)∧t10 = .int .i64 ((P.take j).foldl (hindF l) (T.hind1 node l k))∧Blk wi gl 47 #[.int .i64 l.a, .int .i64 l.b, .int .i64 l.m]∧TbIn o c wi t T hp A cap∧OwnS (fun _=>0) 0 wi 136 3 (.slice D3 P.length cap3) P.length (lkcells P)∧Hid (Below w.heap.size w wi))
    case atStart=>exact ⟨0,by omega,rfl,rfl,HK3.out,HT3.out,HP3.out,Lib.hid HBB3.out⟩
    case round =>
     obtain ⟨j,hnj,rfl,rfl,hk,ht,hrow,HB⟩:=hrel
     have HNJ:=Lib.hid hnj
     have HK:=Lib.hid hk
     have HT:=Lib.hid ht
     have HROW:=Lib.hid hrow
     clear hnj hk ht hrow HK3 HT3 HP3 HBB3
     by_cases hlt2:j<P.length
     ·have hlt2I:(j:Int)<(P.length:Int):=by omega
      obtain ⟨p,hp'⟩:∃p,P[j]? = some p:=⟨_,List.getElem?_eq_getElem hlt2⟩
      have HNY:=Lib.hid (foldl_next (f:=hindF l) (b:=T.hind1 node l k) hp')
      obtain ⟨ad,rfl,x0,x1,x2⟩:=(Reads.of_own HROW.out.1).lock hp'
      have HQ:=Lib.hid (Blk.new wr 136 #[.int .i64 p.a, .int .i64 p.b, .int .i64 p.m])
      have HK4:=Lib.hid (HK.out.alloc (.cells #[.int .i64 p.a, .int .i64 p.b, .int .i64 p.m] 136))
      have HT4:=Lib.hid (HT.out.alloc (.cells #[.int .i64 p.a, .int .i64 p.b, .int .i64 p.m] 136))
      have HR4:=Lib.hid (HROW.out.alloc (.cells #[.int .i64 p.a, .int .i64 p.b, .int .i64 p.m] 136))
      have HB4:=Lib.hid (HB.out.alloc HB.out.size (.cells #[.int .i64 p.a, .int .i64 p.b, .int .i64 p.m] 136))
      clear hp' HK HT HROW HB
      generalize (P.take j).foldl (hindF l) (T.hind1 node l k)=F at HNY ⊢
      go_upto_region 9 with (fail)
      generalize wr.alloc (.cells #[.int .i64 p.a, .int .i64 p.b, .int .i64 p.m] 136)=W4 at HQ HK4 HT4 HR4 HB4 ⊢
      generalize wr.heap.size=gp at HQ ⊢
      clear x0 x1 x2
      obtain ⟨y0,y1,y2⟩:=HQ.out.three
      obtain ⟨z0,z1,z2⟩:=HK4.out.three
      go_wp2_with fail
      refine (mdfit_any p.m l.m W4).mono ?_
      rintro e w5 ⟨rfl,rfl⟩
      obtain ⟨v,hv⟩:∃v,fitB p.m l.m=v:=⟨_,rfl⟩
      rw [hv]
      cases v with
      | true =>
        have HN:=Lib.hid (HNY.out.trans (show hindF l F p=F from if_pos hv))
        clear hv
        go_wp2_with fail
        go_roundg (P.length - (j+1))
        case measure=>have:=HNJ.out;omega
        case rel=>exact ⟨j+1,by omega,by go_num,by rw [HN.out],HK4.out,HT4.out,HR4.out,HB4⟩
      | false =>
        have HN:=Lib.hid (HNY.out.trans (show hindF l F p=min F p.a from if_neg (by rw [hv];exact Bool.false_ne_true)))
        clear hv
        go_wp2_with fail
        go_roundg (P.length - (j+1))
        case measure=>have:=HNJ.out;omega
        case rel=>exact ⟨j+1,by omega,by go_num,by rw [HN.out],HK4.out,HT4.out,HR4.out,HB4⟩
     ·have hlt2I:¬(j:Int)<(P.length:Int):=by omega
      obtain rfl:j=P.length:=by have:=HNJ.out;omega
      have HYY:=Lib.hid (show (P.take P.length).foldl (hindF l) (T.hind1 node l k)=T.hind1 node l (k+1) by rw [List.take_length,HNX.out])
      rw [HYY.out]
      go_wp2_with fail
      go_roundg (T.nodes - (k+1))
      case measure=>have:=HNK.out;omega
      case rel=>exact ⟨k+1,by omega,by go_num,rfl,HK.out,HT.out,HB⟩
  ·have hltI:¬(k:Int)+1≤(T.nodes:Int):=by omega
   obtain rfl:k=T.nodes:=by have:=HNK.out;omega
   generalize T.hind1 node l T.nodes=F0 at HH ⊢
   go_wp2_with fail
   go_loopg [10,60] ahead.length (fun n t10 t60 wi=>∃j:Nat,n+j=ahead.length∧t60 = .int .i64 (j:Nat)∧t10 = .int .i64 ((ahead.take j).foldl (hindW node l) F0)∧Blk wi gl 47 #[.int .i64 l.a, .int .i64 l.b, .int .i64 l.m]∧Hid (Below w.heap.size w wi))
   case atStart=>exact ⟨0,by omega,rfl,rfl,HK.out,HB⟩
   case round =>
    obtain ⟨j,hnj,rfl,rfl,hk,HB⟩:=hrel
    have HNJ:=Lib.hid hnj
    have HK:=Lib.hid hk
    clear hnj hk
    by_cases hlt2:j<ahead.length
    ·have hlt2I:(j:Int)<(ahead.length:Int):=by omega
     obtain ⟨q,hq⟩:∃q,ahead[j]? = some q:=⟨_,List.getElem?_eq_getElem hlt2⟩
     have HNY:=Lib.hid (foldl_next (f:=hindW node l) (b:=F0) hq)
     have HDW:=Lib.hid (show ∀f,hindW node l f q=if (meetR q.l.sp l.sp).2=true∧q.node≠node∧fitB q.l.m l.m=false then min f (meetR q.l.sp l.sp).1.a else f from fun _=>rfl)
     obtain ⟨ad,rfl,x0,x1,x2,x3,x4⟩:=(HR.out.low (by omega) HB.out).wait hq
     have HQ:=Lib.hid (Blk.new wr 164 #[.int .i64 q.id, .int .i64 q.node, .int .i64 q.l.a, .int .i64 q.l.b, .int .i64 q.l.m])
     have HK4:=Lib.hid (HK.out.alloc (.cells #[.int .i64 q.id, .int .i64 q.node, .int .i64 q.l.a, .int .i64 q.l.b, .int .i64 q.l.m] 164))
     have HB4:=Lib.hid (HB.out.alloc HB.out.size (.cells #[.int .i64 q.id, .int .i64 q.node, .int .i64 q.l.a, .int .i64 q.l.b, .int .i64 q.l.m] 164))
     clear hq HK HB
     generalize (ahead.take j).foldl (hindW node l) F0=F at HNY ⊢
     go_upto_region 15 with (fail)
     generalize wr.alloc (.cells #[.int .i64 q.id, .int .i64 q.node, .int .i64 q.l.a, .int .i64 q.l.b, .int .i64 q.l.m] 164)=W4 at HQ HK4 HB4 ⊢
     generalize wr.heap.size=gq at HQ ⊢
     clear x0 x1 x2 x3 x4
     obtain ⟨y0,y1,y2,y3,y4⟩:=HQ.out.five
     obtain ⟨z0,z1,z2⟩:=HK4.out.three
     go_wp2_with fail
     refine (spmeet_any q.l.sp l.sp W4).mono ?_
     rintro e w5 ⟨rfl,hb5⟩
     obtain ⟨⟨⟨ma,mb⟩,mv⟩,hm⟩:∃N,meetR q.l.sp l.sp=N:=⟨_,rfl⟩
     rw [hm] at HDW ⊢
     simp only at HDW ⊢
     have HQ6:=Lib.hid ((HQ.out.below_ hb5).alloc (.cells #[.int .i64 ma, .int .i64 mb] 45))
     have HK6:=Lib.hid ((HK4.out.below_ hb5).alloc (.cells #[.int .i64 ma, .int .i64 mb] 45))
     have hbb:=HB4.out.trans (hb5.mono HB4.out.size)
     have HB6:=Lib.hid (hbb.alloc hbb.size (.cells #[.int .i64 ma, .int .i64 mb] 45))
     have HM6:=Lib.hid (Blk.new w5 45 #[.int .i64 ma, .int .i64 mb])
     clear hb5 hm hbb HQ HK4 HB4 y0 y1 y2 y3 y4 z0 z1 z2
     go_upto_region 16 with (fail)
     generalize w5.alloc (.cells #[.int .i64 ma, .int .i64 mb] 45)=W6 at HQ6 HK6 HB6 HM6 ⊢
     generalize w5.heap.size=gm at HM6 ⊢
     obtain ⟨y0,y1,y2,y3,y4⟩:=HQ6.out.five
     obtain ⟨z0,z1,z2⟩:=HK6.out.three
     obtain ⟨v0,v1⟩:=HM6.out.pair
     have fin:∀f2,(∀h:(mv=true∧q.node≠node∧fitB q.l.m l.m=false),f2=min F ma)→(¬(mv=true∧q.node≠node∧fitB q.l.m l.m=false)→f2=F)→(ahead.take (j+1)).foldl (hindW node l) F0=f2:=fun f2 h1 h2=>by
      rw [HNY.out,HDW.out]
      split
      ·exact (h1 ‹_›).symm
      ·exact (h2 ‹_›).symm
     have FIN:=Lib.hid fin
     clear fin
     cases mv with
     | false =>
       have HN:=Lib.hid (FIN.out F (fun h=>absurd h.1 Bool.false_ne_true) (fun _=>rfl))
       go_wp2_with fail
       go_roundg (ahead.length - (j+1))
       case measure=>have:=HNJ.out;omega
       case rel=>exact ⟨j+1,by omega,by go_num,by rw [HN.out],HK6.out,HB6⟩
     | true =>
       by_cases hn:q.node=node
       ·have HN:=Lib.hid (FIN.out F (fun h=>absurd hn h.2.1) (fun _=>rfl))
        have hb:(q.node != node)=false:=by simp [hn]
        clear hn
        go_wp2_with fail
        go_roundg (ahead.length - (j+1))
        case measure=>have:=HNJ.out;omega
        case rel=>exact ⟨j+1,by omega,by go_num,by rw [HN.out],HK6.out,HB6⟩
       ·have hb:(q.node != node)=true:=by simp [hn]
        have HNE:=Lib.hid hn
        clear hn
        go_wp2_with fail
        refine (mdfit_any q.l.m l.m W6).mono ?_
        rintro e w7 ⟨rfl,rfl⟩
        obtain ⟨u,hu⟩:∃u,fitB q.l.m l.m=u:=⟨_,rfl⟩
        rw [hu]
        cases u with
        | true =>
          have HN:=Lib.hid (FIN.out F (fun h=>absurd (hu.symm.trans h.2.2) (by simp)) (fun _=>rfl))
          clear hu
          go_wp2_with fail
          go_roundg (ahead.length - (j+1))
          case measure=>have:=HNJ.out;omega
          case rel=>exact ⟨j+1,by omega,by go_num,by rw [HN.out],HK6.out,HB6⟩
        | false =>
          have HN:=Lib.hid (FIN.out (min F ma) (fun _=>rfl) (fun h=>by first | exact absurd ⟨trivial,HNE.out,hu⟩ h | exact absurd ⟨rfl,HNE.out,hu⟩ h))
          clear hu
          go_wp2_with fail
          go_roundg (ahead.length - (j+1))
          case measure=>have:=HNJ.out;omega
          case rel=>exact ⟨j+1,by omega,by go_num,by rw [HN.out],HK6.out,HB6⟩
    ·have hlt2I:¬(j:Int)<(ahead.length:Int):=by omega
     obtain rfl:j=ahead.length:=by have:=HNJ.out;omega
     have HYY:=Lib.hid (show (ahead.take ahead.length).foldl (hindW node l) F0=T.hinders node l ahead by rw [List.take_length,HH.out])
     rw [HYY.out]
     obtain ⟨x0,x1,x2⟩:=HK.out.three
     go_wp2_with fail
     go_quiet (fail)
     go_wp2_with fail
     go_ret2
     exact ⟨rfl,below_drewN HB.out _⟩
end
theorem info_wq : (Tryz.prog.info? 164).map (fun i=>(i.zero,i.size,i.bytes))=some (some (.agg #[.int .i64 0, .int .i64 0, .int .i64 0, .int .i64 0, .int .i64 0]),5,40):=by kernel_rfl
theorem wqcells_app (l m:List Wq):wqcells (l++m)=wqcells l++wqcells m:=by simp [wqcells]
theorem wqcells_one (l:List Wq):∀u∈wqcells l,u.oneCell'=true:=by
 intro u hu
 obtain ⟨x,_,hx⟩:=List.mem_flatMap.1 hu
 simp [Wq.cells] at hx
 rcases hx with rfl | rfl | rfl | rfl | rfl <;> rfl
theorem hindF_le (l:Lk) (p:Lk) (f:Int):hindF l f p≤f:=by
 unfold hindF
 split
 ·omega
 ·omega
theorem foldl_le {α:Type} {f:Int→α→Int} (hf:∀b x,f b x≤b):∀(l:List α) (b:Int),l.foldl f b≤b
 | [],_=>Int.le_refl _
 | x :: l,b=>Int.le_trans (foldl_le hf l (f b x)) (hf b x)
theorem Tb.hind1_le (T:Tb) (node:Int) (l:Lk):∀k,T.hind1 node l k≤l.b
 | 0=>Int.le_refl _
 | k+1=>by
   have h:=T.hind1_le node l k
   unfold Tb.hind1
   split
   ·exact h
   ·rw [hindH_eq]
    exact Int.le_trans (foldl_le (fun b x=>hindF_le l x b) _ _) h
theorem hindW_le (node:Int) (l:Lk) (b:Int) (x:Wq):hindW node l b x≤b:=by
 unfold hindW
 split
 ·omega
 ·omega
theorem Tb.hinders_le (T:Tb) (node:Int) (l:Lk) (ahead:List Wq):T.hinders node l ahead≤l.b:=by
 unfold Tb.hinders
 exact Int.le_trans (foldl_le (hindW_le node l) _ _) (T.hind1_le node l _)
theorem foldl_pos {α:Type} {f:Int→α→Int} {P:α→Prop} (hf:∀b x,P x→0≤b→0≤f b x):∀(l:List α) (b:Int),(∀x∈l,P x)→0≤b→0≤l.foldl f b
 | [],_,_,h=>h
 | x :: l,b,hl,h=>foldl_pos hf l (f b x) (fun y hy=>hl y (List.mem_cons_of_mem _ hy)) (hf b x (hl x (List.mem_cons_self ..)) h)
theorem Tb.hind1_pos {T:Tb} (wf:TbWf T) (node:Int) (l:Lk) (hl:0≤l.b):∀k,0≤T.hind1 node l k
 | 0=>hl
 | k+1=>by
   have h:=Tb.hind1_pos wf node l hl k
   unfold Tb.hind1
   split
   ·exact h
   ·rw [hindH_eq]
    refine foldl_pos (P:=fun p:Lk=>0≤p.a) (fun b x hx hb => ?_) _ _ (fun p hp=>(part_ok (wf.held (k+1)) hp).1.1) h
    unfold hindF
    split
    ·exact hb
    ·omega
theorem Tb.hinders_pos {T:Tb} (wf:TbWf T) (node:Int) (l:Lk) (hl:0≤l.b) (ahead:List Wq):0≤T.hinders node l ahead:=by
 unfold Tb.hinders
 refine foldl_pos (P:=fun _=>True) (fun b x _ hb => ?_) _ _ (fun _ _=>trivial) (Tb.hind1_pos wf node l hl _)
 unfold hindW
 split
 ·rename_i h
  obtain ⟨h1,h2,h3,h4⟩:=meet_yes h.1
  rw [h4]
  have:0≤x.l.sp.a:=h1.1
  show 0≤min b (max x.l.sp.a l.sp.a)
  omega
 ·exact hb
section
variable {o o':Nat→Nat} {c:Nat} {C:Nat→Prop} {w w':World} {t:Nat} {T:Tb} {hp:Nat→Nat} {A:Option Addr} {cap:Nat}
theorem Blk.five_set {w:World} {g:Nat} {t:TypeId} {c0 c1 c2 c3 c4 d0 d1 d2 d3 d4:Value} (h:Blk w g t #[c0,c1,c2,c3,c4]):Blk (((((w.setCell ⟨g,0,none⟩ d0).setCell ⟨g,1,none⟩ d1).setCell ⟨g,2,none⟩ d2).setCell ⟨g,3,none⟩ d3).setCell ⟨g,4,none⟩ d4) g t #[d0,d1,d2,d3,d4]:=((((h.set_ 0 d0).set_ 1 d1).set_ 2 d2).set_ 3 d3).set_ 4 d4
theorem below_five {B g:Nat} {w0 w:World} (h:Below B w0 w) (hg:B≤g) (d0 d1 d2 d3 d4:Value):Below B w0 (((((w.setCell ⟨g,0,none⟩ d0).setCell ⟨g,1,none⟩ d1).setCell ⟨g,2,none⟩ d2).setCell ⟨g,3,none⟩ d3).setCell ⟨g,4,none⟩ d4) :=
 ((((h.setCell (p:=⟨g,0,none⟩) hg d0).setCell (p:=⟨g,1,none⟩) hg d1).setCell (p:=⟨g,2,none⟩) hg d2).setCell (p:=⟨g,3,none⟩) hg d3).setCell (p:=⟨g,4,none⟩) hg d4
set_option maxRecDepth 100000 in
set_option maxHeartbeats 2000000 in
theorem tclaim_any (q:Wq) (x:Int) (h0:0≤x) (h1:x≤1000000) (w:World) :
 Calls Tryz.prog 206 #[.agg #[.int .i64 q.id, .int .i64 q.node, .int .i64 q.l.a, .int .i64 q.l.b, .int .i64 q.l.m], .int .i64 x] w fun e w'=>e = .returned (.agg #[.int .i64 q.id, .int .i64 q.node, .int .i64 q.l.a, .int .i64 (x+1), .int .i64 q.l.m])∧Below w.heap.size w w':=by
 have b1:=(Below.refl w.heap.size w).alloc (Nat.le_refl _) (.cells #[.int .i64 q.id, .int .i64 q.node, .int .i64 q.l.a, .int .i64 q.l.b, .int .i64 q.l.m] 164)
 have b2:=b1.alloc b1.size (.cells #[.int .i64 0, .int .i64 0, .int .i64 0, .int .i64 0, .int .i64 0] 164)
 have k1:=(Blk.new w 164 #[.int .i64 q.id, .int .i64 q.node, .int .i64 q.l.a, .int .i64 q.l.b, .int .i64 q.l.m]).alloc (.cells #[.int .i64 0, .int .i64 0, .int .i64 0, .int .i64 0, .int .i64 0] 164)
 have k2:=Blk.new (w.alloc (.cells #[.int .i64 q.id, .int .i64 q.node, .int .i64 q.l.a, .int .i64 q.l.b, .int .i64 q.l.m] 164)) 164 #[.int .i64 0, .int .i64 0, .int .i64 0, .int .i64 0, .int .i64 0]
 have hz1:(w.alloc (.cells #[.int .i64 q.id, .int .i64 q.node, .int .i64 q.l.a, .int .i64 q.l.b, .int .i64 q.l.m] 164)).heap.size=w.heap.size+1:=by simp
 rw [hz1] at k2
 have HB:=Lib.hid b2
 have H1:=Lib.hid k1
 have H2:=Lib.hid k2
 clear b1 b2 k1 k2 hz1
 go_enter Tryz.func206,Tryz.ntmps206
 go_upto_region 1 with (fail)
 generalize (w.alloc (.cells #[.int .i64 q.id, .int .i64 q.node, .int .i64 q.l.a, .int .i64 q.l.b, .int .i64 q.l.m] 164)).alloc (.cells #[.int .i64 0, .int .i64 0, .int .i64 0, .int .i64 0, .int .i64 0] 164)=W at HB H1 H2 ⊢
 obtain ⟨g2,hg2⟩:∃g,w.heap.size+1=g:=⟨_,rfl⟩
 rw [hg2] at H2 ⊢
 have HG:=Lib.hid (show w.heap.size≤g2 by omega)
 have HNE:=Lib.hid (show g2≠w.heap.size by omega)
 clear hg2
 obtain ⟨g1,hg1⟩:∃g,w.heap.size=g:=⟨_,rfl⟩
 have HG1:=Lib.hid (show w.heap.size≤g1 by omega)
 rw [hg1] at H1 HNE ⊢
 clear hg1
 obtain ⟨x0,x1,x2,x3,x4⟩:=H1.out.five
 have f3:=H1.out.frozen 3
 have H1b:=Lib.hid (show Blk (W.setCell ⟨g1,3,none⟩ (.int .i64 (x+1))) g1 164 #[.int .i64 q.id, .int .i64 q.node, .int .i64 q.l.a, .int .i64 (x+1), .int .i64 q.l.m] from H1.out.set_ 3 _)
 have H2b:=Lib.hid (show Blk (W.setCell ⟨g1,3,none⟩ (.int .i64 (x+1))) g2 164 _ from H2.out.far HNE.out _)
 have HBb:=Lib.hid (HB.out.setCell (p:=⟨g1,3,none⟩) HG1.out (.int .i64 (x+1)))
 go_upto_region 2 with (fail)
 generalize W.setCell ⟨g1,3,none⟩ (.int .i64 (x+1))=V at H1b H2b HBb ⊢
 clear x0 x1 x2 x3 x4 f3
 obtain ⟨x0,x1,x2,x3,x4⟩:=H1b.out.five
 obtain ⟨y0,y1,y2,y3,y4⟩:=H2b.out.five
 have f0:=H2b.out.frozen 0
 have f1:=H2b.out.frozen 1
 have f2:=H2b.out.frozen 2
 have f3:=H2b.out.frozen 3
 have f4:=H2b.out.frozen 4
 go_wp2_with fail
 obtain ⟨r0,r1,r2,r3,r4⟩:=(H2b.out.five_set (d0 := .int .i64 q.id) (d1 := .int .i64 q.node) (d2 := .int .i64 q.l.a) (d3 := .int .i64 (x+1)) (d4 := .int .i64 q.l.m)).five
 exact bodyPost_ret (v := .agg #[.int .i64 q.id, .int .i64 q.node, .int .i64 q.l.a, .int .i64 (x+1), .int .i64 q.l.m]) (by simp [results,Tryz.results206,go_sem,r0,r1,r2,r3,r4]) rfl ⟨rfl,below_five HBb.out HG.out _ _ _ _ _⟩
end
theorem claims_len (T:Tb):∀(ws out:List Wq),(ws.foldl T.claim1 out).length≤out.length+ws.length
 | [],out=>by simp
 | x :: ws,out=>by
   have h1:=claims_len T ws (T.claim1 out x)
   have h2:(T.claim1 out x).length≤out.length+1:=by
    unfold Tb.claim1
    split
    ·simp
    ·omega
   rw [List.foldl_cons,List.length_cons]
   omega
theorem Tb.claims_le (T:Tb):T.claims.length≤T.waits.length:=by
 have:=claims_len T T.waits []
 simpa [Tb.claims] using this
section
variable {o o':Nat→Nat} {c:Nat} {C:Nat→Prop} {w w':World} {t:Nat} {T:Tb} {hp:Nat→Nat} {A:Option Addr} {cap:Nat}
set_option maxRecDepth 100000 in
set_option maxHeartbeats 8000000 in
theorem tclaims_any (h:TbIn o c w t T hp A cap) (wf:TbWf T) :
 Calls Tryz.prog 236 #[.pointer (some ⟨t,0,none⟩)] w fun e w'=>∃D cap',e = .returned (.slice D T.claims.length cap')∧w'.ownsRow w.heap.size 164 5 (.slice D T.claims.length cap') T.claims.length (wqcells T.claims)∧Below w.heap.size w w':=by
 obtain ⟨i0,hi,hz0,hz1,hz2⟩:=info_parts info_wq
 have HT:=Lib.hid h
 have HW:=Lib.hid wf
 have HR:=Lib.hid (Reads.of_own h.waits.1)
 have c18:=h.c18
 have hwl:=wf.many
 have hwI:(T.waits.length:Int)≤1000:=by omega
 have HCL:=Lib.hid (show ∀i,((T.waits.take i).foldl T.claim1 []).length≤1000 from fun i=>Nat.le_trans (claims_len T _ _) (by rw [List.length_nil,List.length_take];omega))
 have HD:=Lib.hid (show T.claims=T.waits.foldl T.claim1 [] from rfl)
 clear h wf hwl
 go_enter Tryz.func236,Tryz.ntmps236
 go_wp2_with fail
 clear c18
 go_loopg [3,13] T.waits.length (fun n t3 t13 wr=>∃(i:Nat) (D:Option Addr) (cap:Nat) (oL:Nat→Nat),n+i=T.waits.length∧t13 = .int .i64 (i:Nat)∧t3 = .slice D ((T.waits.take i).foldl T.claim1 []).length cap∧OwnS oL 1 wr 164 5 (.slice D ((T.waits.take i).foldl T.claim1 []).length cap) ((T.waits.take i).foldl T.claim1 []).length (wqcells ((T.waits.take i).foldl T.claim1 []))∧Env oL w wr∧Fut oL wr)
 case atStart=>exact ⟨0,none,0,fun _=>0,by omega,rfl,rfl,OwnS.nil _ _ _ _ _,Env.start w,fun _ _=>rfl⟩
 case round =>
  obtain ⟨i,D,cap,oL,hni,rfl,rfl,ho,he,hu⟩:=hrel
  have HNI:=Lib.hid hni
  have HO:=Lib.hid ho
  have HE:=Lib.hid he
  have HU:=Lib.hid hu
  clear hni ho he hu
  by_cases hlt:i<T.waits.length
  ·have hltI:(i:Int)<(T.waits.length:Int):=by omega
   obtain ⟨q,hq⟩:∃q,T.waits[i]? = some q:=⟨_,List.getElem?_eq_getElem hlt⟩
   have HNX:=Lib.hid (foldl_next (f:=T.claim1) (b := []) hq)
   have HQR:=Lib.hid (rightB_iff.1 (HW.out.waits q (List.mem_of_getElem? hq)).1)
   have HLE:=Lib.hid (HCL.out i)
   obtain ⟨ad,rfl,x0,x1,x2,x3,x4⟩:=(HR.out.low (by omega) HE.out.low).wait hq
   have HQ:=Lib.hid (Keep.new HU.out 164 #[.int .i64 q.id, .int .i64 q.node, .int .i64 q.l.a, .int .i64 q.l.b, .int .i64 q.l.m])
   have HO1:=Lib.hid (HO.out.alloc (.cells #[.int .i64 q.id, .int .i64 q.node, .int .i64 q.l.a, .int .i64 q.l.b, .int .i64 q.l.m] 164))
   have HE1:=Lib.hid (HE.out.alloc (.cells #[.int .i64 q.id, .int .i64 q.node, .int .i64 q.l.a, .int .i64 q.l.b, .int .i64 q.l.m] 164))
   have HU1:=Lib.hid (HU.out.alloc (.cells #[.int .i64 q.id, .int .i64 q.node, .int .i64 q.l.a, .int .i64 q.l.b, .int .i64 q.l.m] 164))
   clear hq HO HE HU
   generalize (T.waits.take i).foldl T.claim1 []=G at HNX HLE HO1 ⊢
   go_upto_region 5 with (fail)
   generalize wr.alloc (.cells #[.int .i64 q.id, .int .i64 q.node, .int .i64 q.l.a, .int .i64 q.l.b, .int .i64 q.l.m] 164)=W1 at HQ HO1 HE1 HU1 ⊢
   generalize wr.heap.size=gq at HQ ⊢
   clear x0 x1 x2 x3 x4
   obtain ⟨y0,y1,y2,y3,y4⟩:=HQ.out.1.five
   have HC1:=Lib.hid (show T.claim1 G q=if T.hinders q.node q.l G<q.l.b then G ++ [claimW q (T.hinders q.node q.l G)] else G from rfl)
   have HHP:=Lib.hid (Tb.hinders_pos HW.out q.node q.l (by have:=HQR.out.1;unfold Sp.ok at this;have h2:0≤q.l.a∧q.l.a<q.l.b:=this;omega) G)
   have HHL:=Lib.hid (Int.le_trans (T.hinders_le q.node q.l G) HQR.out.2.1)
   go_wp2_with fail
   refine (thinders_any (HT.out.below_ HE1.out.low) HW.out q.node q.l G D cap (Reads.of_own HO1.out.1) (by have:=HLE.out;omega)).mono ?_
   rintro e w2 ⟨rfl,hb2⟩
   have HQ2:=Lib.hid (HQ.out.below_ hb2)
   have HO2:=Lib.hid (HO1.out.below_ hb2)
   have HE2:=Lib.hid (HE1.out.below_ hb2)
   have HU2:=Lib.hid (HU1.out.below hb2)
   obtain ⟨H,hH⟩:∃H,T.hinders q.node q.l G=H:=⟨_,rfl⟩
   rw [hH] at HC1 HHP HHL ⊢
   clear hb2 hH HQ HO1 HE1 HU1 y0 y1 y2 y3 y4
   by_cases hlt2:H<q.l.b
   ·have d2:decide (H<q.l.b)=true:=decide_eq_true hlt2
    have HN:=Lib.hid (HNX.out.trans (HC1.out.trans (if_pos hlt2)))
    rw [d2]
    clear hlt2 d2
    obtain ⟨y0,y1,y2,y3,y4⟩:=HQ2.out.1.five
    go_wp2_with fail
    refine (tclaim_any q H HHP.out (by have:=HHL.out;omega) w2).mono ?_
    rintro e w3 ⟨rfl,hb3⟩
    have HO5:=Lib.hid ((HO2.out.below_ hb3).alloc (.cells #[.int .i64 q.id, .int .i64 q.node, .int .i64 q.l.a, .int .i64 (H+1), .int .i64 q.l.m] 164))
    have HE3:=Lib.hid (HE2.out.below_ hb3)
    have HU3:=Lib.hid (HU2.out.below hb3)
    clear hb3 y0 y1 y2 y3 y4
    go_wp2_with (at_builtin;refine wpList_append_S _ rfl (.tmp 28) (.tmp 32) 68 rfl 164 i0 _ 5 40 Tryz.underlying68 hi hz0 hz1 hz2 rfl (by omega) (.slice D G.length cap) G.length (wqcells G) rfl HO5.out (some ⟨w3.heap.size,0,none⟩) 1 1 [.int .i64 q.id, .int .i64 q.node, .int .i64 q.l.a, .int .i64 (H+1), .int .i64 q.l.m] rfl (Reads.newAt w3 164 5 1 _ #[.int .i64 q.id, .int .i64 q.node, .int .i64 q.l.a, .int .i64 (H+1), .int .i64 q.l.m] _ rfl rfl rfl) (by simp [Value.oneCell']) (by have:=HLE.out;unfold maxLen;omega) (by have:=HLE.out;omega) ?_;intro v7 w7 hown7 hst7 hgr7 hat7;obtain ⟨A7,cap7,rfl,_,_⟩:=own_form' hown7;have HW7:=Lib.hid hown7;have HS7:=Lib.hid (((Step.refl oL (fun _=>False) w3).alloc (.cells #[.int .i64 q.id, .int .i64 q.node, .int .i64 q.l.a, .int .i64 (H+1), .int .i64 q.l.m] 164)).mono (fun _ h=>h.elim:∀y,False→only 1 y) |>.trans hst7);clear hown7 hst7 hgr7 hat7)
    go_roundg (T.waits.length - (i+1))
    case measure=>have:=HNI.out;omega
    case rel=>exact ⟨i+1,A7,cap7,_,by omega,by go_num,by rw [HN.out,@List.length_append _ G _];rfl,by rw [HN.out,@List.length_append _ G _,wqcells_app G];exact HW7.out,HE3.out.step HS7.out (by unfold only;omega),HU3.out.step HS7.out⟩
   ·have d2:decide (H<q.l.b)=false:=decide_eq_false hlt2
    have HN:=Lib.hid (HNX.out.trans (HC1.out.trans (if_neg hlt2)))
    rw [d2]
    clear hlt2 d2
    go_wp2_with fail
    go_roundg (T.waits.length - (i+1))
    case measure=>have:=HNI.out;omega
    case rel=>exact ⟨i+1,D,cap,oL,by omega,by go_num,by rw [HN.out],by rw [HN.out];exact HO2.out,HE2.out,HU2.out⟩
  ·have hltI:¬(i:Int)<(T.waits.length:Int):=by omega
   obtain rfl:i=T.waits.length:=by have:=HNI.out;omega
   have HTT:=Lib.hid (show (T.waits.take T.waits.length).foldl T.claim1 []=T.claims by rw [List.take_length,HD.out])
   rw [HTT.out] at HO ⊢
   go_wp2_with fail
   go_ret
   exact ⟨D,cap,rfl,own_new HE.out HO.out (by decide),HE.out.low⟩
set_option maxRecDepth 100000 in
set_option maxHeartbeats 4000000 in
theorem tfree_any (h:TbIn o c w t T hp A cap) (wf:TbWf T) (node:Int) (l:Lk) :
 Calls Tryz.prog 208 #[.pointer (some ⟨t,0,none⟩), .int .i64 node, .agg #[.int .i64 l.a, .int .i64 l.b, .int .i64 l.m]] w fun e w'=>e = .returned (.bool (decide (T.free node l)))∧Below w.heap.size w w':=by
 have HT0:=Lib.hid (h.alloc (.cells #[.int .i64 l.a, .int .i64 l.b, .int .i64 l.m] 47))
 have HK0:=Lib.hid (Blk.new w 47 #[.int .i64 l.a, .int .i64 l.b, .int .i64 l.m])
 have HB0:=Lib.hid ((Below.refl w.heap.size w).alloc (Nat.le_refl _) (.cells #[.int .i64 l.a, .int .i64 l.b, .int .i64 l.m] 47))
 have HW:=Lib.hid wf
 have HF:=Lib.hid (show decide (T.free node l) = !decide (T.hinders node l T.claims<l.b) by unfold Tb.free;exact decide_not)
 have HCLE:=Lib.hid (show T.claims.length≤1000 from Nat.le_trans T.claims_le wf.many)
 clear h wf
 go_enter Tryz.func208,Tryz.ntmps208
 go_upto_region 1 with (fail)
 generalize w.alloc (.cells #[.int .i64 l.a, .int .i64 l.b, .int .i64 l.m] 47)=W0 at HT0 HK0 HB0 ⊢
 generalize w.heap.size=gl at HK0 ⊢
 obtain ⟨x0,x1,x2⟩:=HK0.out.three
 have q0:W0.drew.cell? ⟨gl,0,none⟩=some (.int .i64 l.a):=x0
 have q1:W0.drew.cell? ⟨gl,1,none⟩=some (.int .i64 l.b):=x1
 have q2:W0.drew.cell? ⟨gl,2,none⟩=some (.int .i64 l.m):=x2
 have HC1:=Lib.hid (tclaims_any HT0.out.drew HW.out)
 go_region_held3 (fun w'=>w'.cell? ⟨gl,0,none⟩=some (.int .i64 l.a)∧w'.cell? ⟨gl,1,none⟩=some (.int .i64 l.b)∧w'.cell? ⟨gl,2,none⟩=some (.int .i64 l.m))
  (first | exact ⟨q0,q1,q2⟩ | exact g3 | exact g4 | go_keep)
  (first
    | (go_at_call 236;((with_reducible refine HC1.out.mono ?_);rintro e w3 ⟨D3,cap3,rfl,hr3,hb3⟩;have HR3:=Lib.hid (Reads.of_own (ownsRow_less hr3 (Nat.zero_le _)));have HB3:=Lib.hid hb3;have g3:=(HK0.out.drew.below_ hb3).three;have HC2:=Lib.hid (thinders_any (HT0.out.drew.below_ hb3) HW.out node l T.claims D3 cap3 HR3.out (by have:=HCLE.out;omega));clear hr3 hb3))
    | (go_at_call 205;((with_reducible refine HC2.out.mono ?_);rintro e w4 ⟨rfl,hb4⟩;have g4:=((HK0.out.drew.below_ HB3.out).below_ hb4).three;have HB4:=Lib.hid (HB0.out.trans (((below_of_drew HB3.out).trans (hb4.mono HB3.out.size)).mono HB0.out.size));clear hb4)))
 obtain ⟨v,hv⟩:∃v,decide (T.hinders node l T.claims<l.b)=v:=⟨_,rfl⟩
 rw [hv] at HF
 simp only [hv]
 clear hv HC1 HC2 q0 q1 q2 x0 x1 x2 g3 g4
 cases v with
 | true =>
   go_wp2_with fail
   go_ret
   exact ⟨by rw [HF.out];rfl,HB4.out⟩
 | false =>
   go_wp2_with fail
   go_ret
   exact ⟨by rw [HF.out];rfl,HB4.out⟩
end
def PrPt (o:Nat→Nat) (c:Nat) (g:Nat) (lb:Array Value) (l:List Lk) (q:Lk→Bool) (w:World):Prop:=∀(W:World) (s:Lk),s∈l→Step o (only c) w o W→Calls Tryz.prog g (#[.agg #[.int .i64 s.a, .int .i64 s.b, .int .i64 s.m]]++lb) W fun e w'=>e = .returned (.bool (q s))∧Below W.heap.size W w'
section
variable {w:World} {o:Nat→Nat} {c:Nat}
theorem parts_size (x:Lk):(Lk.cells x).length=3:=rfl
set_option maxRecDepth 100000 in
set_option maxHeartbeats 2000000 in
theorem idxparts_any (g:Nat) (lb:Array Value) (eg:∀args w,(callFunc g args).run Tryz.prog w = .ok (.enter g args) w) (l:List Lk) (q:Lk→Bool) (A:Option Addr) (cap:Nat) (h:OwnS o c w 136 3 (.slice A l.length cap) l.length (lkcells l)) (hl:l.length≤1000000) (hp:PrPt o c g lb l q w) :
 Calls Tryz.prog 265 #[.slice A l.length cap, .func (.func g) #[] lb] w fun e w'=>e = .returned (.int .i64 (idxI q l))∧Below w.heap.size w w':=by
 have HR:=Lib.hid h
 have HP:=Lib.hid hp
 have hlI:(l.length:Int)≤1000000:=by omega
 clear h hp hl
 go_enter Tryz.func265,Tryz.ntmps265
 go_wp2_with fail
 go_loopg [8] l.length (fun n t8 wr=>∃i:Nat,n+i=l.length∧t8 = .int .i64 (i:Nat)∧(∀x∈l.take i,q x=false)∧Hid (Below w.heap.size w wr))
 case atStart=>exact ⟨0,by omega,rfl,by simp,Lib.hid (Below.refl _ _)⟩
 case round =>
  obtain ⟨i,hni,rfl,hno,HB⟩:=hrel
  have HNI:=Lib.hid hni
  have HNO:=Lib.hid hno
  clear hni hno
  by_cases hlt:i<l.length
  ·have hltI:(i:Int)<(l.length:Int):=by omega
   obtain ⟨s,hs⟩:∃s,l[i]? = some s:=⟨_,List.getElem?_eq_getElem hlt⟩
   obtain ⟨gb,cur,rfl,_⟩:=HR.out.blk (by omega)
   have HOWN:=Lib.hid (HR.out.below_ HB.out)
   have hat:∀k u,(Lk.cells s)[k]? = some u→(lkcells l)[i*3+k]? = some u:=fun k u hk=>flatS_at parts_size hs hk
   have x0:wr.cell? ⟨gb,i*3,none⟩=some (.int .i64 s.a):=HOWN.out.at_ (hat 0 _ rfl)
   have x1:wr.cell? ⟨gb,i*3+1,none⟩=some (.int .i64 s.b):=HOWN.out.at_ (hat 1 _ rfl)
   have x2:wr.cell? ⟨gb,i*3+2,none⟩=some (.int .i64 s.m):=HOWN.out.at_ (hat 2 _ rfl)
   have HC:=Lib.hid (HP.out wr s (List.mem_of_getElem? hs) (Step.of_below o _ HB.out))
   have HS:=Lib.hid hs
   clear hat hs
   by_cases hq:q s=true
   ·have HI:=Lib.hid (idxI_at HNO.out HS.out hq)
    go_wp2_with (go_at_fn g;refine HC.out.mono ?_;rintro e w2 ⟨rfl,hb2⟩;have HB2:=Lib.hid (HB.out.trans (hb2.mono HB.out.size));clear hb2)
    go_ret
    exact ⟨by rw [HI.out];first | done | rfl,HB2.out⟩
   ·have hq:q s=false:=Bool.eq_false_iff.2 hq
    have HN2:=Lib.hid (take_no HNO.out HS.out hq)
    go_wp2_with (go_at_fn g;refine HC.out.mono ?_;rintro e w2 ⟨rfl,hb2⟩;have HB2:=Lib.hid (HB.out.trans (hb2.mono HB.out.size));clear hb2)
    go_roundg (l.length - (i+1))
    case measure=>have:=HNI.out;omega
    case rel=>exact ⟨i+1,by omega,by go_num,HN2.out,HB2⟩
  ·have hltI:¬(i:Int)<(l.length:Int):=by omega
   have HI:=Lib.hid (idxI_no (l:=l) (q:=q) (fun x hx=>HNO.out x (by rw [List.take_of_length_le (by omega)];exact hx)))
   go_wp2_with fail
   go_ret
   exact ⟨by rw [HI.out];first | done | rfl,HB.out⟩
end
end Go.Proofs.YtohgabdmmbngbaaGreatDoor
