import Derived.Test.YtohgabdmmbngbaaGreatDoorKLtabJ
set_option linter.unusedVariables false
set_option linter.unusedSimpArgs false
namespace Go.Proofs.YtohgabdmmbngbaaGreatDoor
open Go.RowKit
def fitsTo (T:Tb) (node:Int) (l:Lk) (k:Nat):Bool:=(List.range k).all (fun k=>decide (((k+1:Nat):Int)=node) || fitsL1 l (T.held (k+1)))
theorem fitsTo_succ (T:Tb) (node:Int) (l:Lk) (k:Nat):fitsTo T node l (k+1)=(fitsTo T node l k && (decide (((k+1:Nat):Int)=node) || fitsL1 l (T.held (k+1)))):=by
 unfold fitsTo
 rw [List.range_succ,List.all_append]
 simp
theorem fitsTo_no {T:Tb} {node:Int} {l:Lk} {k n:Nat} (h:fitsTo T node l (k+1)=false) (hk:k<n):fitsTo T node l n=false:=by
 unfold fitsTo at h ⊢
 obtain ⟨x,hx,hp⟩:=List.all_eq_false.1 h
 exact List.all_eq_false.2 ⟨x,by rw [List.mem_range] at hx ⊢;omega,hp⟩
section
variable {o o':Nat→Nat} {c d:Nat} {w w':World} {t:Nat} {T:Tb} {hp:Nat→Nat} {A:Option Addr} {cap:Nat}
set_option maxRecDepth 100000 in
set_option maxHeartbeats 8000000 in
theorem tfits_any (h:TbIn o c w t T hp A cap) (wf:TbWf T) (node:Int) (l:Lk) :
 Calls Tryz.prog 71 #[.pointer (some ⟨t,0,none⟩), .int .i64 node, .agg #[.int .i64 l.a, .int .i64 l.b, .int .i64 l.m]] w fun e w'=>e = .returned (.bool (T.fits node l))∧Below w.heap.size w w':=by
 have HW:=Lib.hid wf
 have hn16:=wf.nodes.2
 have hnI:(T.nodes:Int)≤16:=by omega
 have HFD:=Lib.hid (show T.fits node l=fitsTo T node l T.nodes from rfl)
 have HT0:=Lib.hid (h.alloc (.cells #[.int .i64 l.a, .int .i64 l.b, .int .i64 l.m] 47))
 have HK0:=Lib.hid (Blk.new w 47 #[.int .i64 l.a, .int .i64 l.b, .int .i64 l.m])
 have HB0:=Lib.hid ((Below.refl w.heap.size w).alloc (Nat.le_refl _) (.cells #[.int .i64 l.a, .int .i64 l.b, .int .i64 l.m] 47))
 clear h wf
 go_enter Tryz.func71,Tryz.ntmps71
 go_upto_region 1 with (fail)
 generalize w.alloc (.cells #[.int .i64 l.a, .int .i64 l.b, .int .i64 l.m] 47)=W0 at HT0 HK0 HB0 ⊢
 generalize w.heap.size=gl at HK0 ⊢
 go_wp2_with fail
 go_loopg [7] T.nodes (fun n t7 wr=>∃k:Nat,n+k=T.nodes∧t7 = .int .i64 ((k:Int)+1)∧fitsTo T node l k=true∧Blk wr gl 47 #[.int .i64 l.a, .int .i64 l.b, .int .i64 l.m]∧TbIn o c wr t T hp A cap∧Hid (Below w.heap.size w wr))
 case atStart=>exact ⟨0,by omega,by go_num,rfl,HK0.out,HT0.out,Lib.hid HB0.out⟩
 case round =>
  obtain ⟨k,hnk,rfl,hok,hk,ht,HB⟩:=hrel
  have HNK:=Lib.hid hnk
  have HOK:=Lib.hid hok
  have HK:=Lib.hid hk
  have HT:=Lib.hid ht
  clear hnk hk ht hok HT0 HK0 HB0
  have c0:=HT.out.c0
  by_cases hlt:k<T.nodes
  ·have hltI:(k:Int)+1≤(T.nodes:Int):=by omega
   have hk16:k+1≤16:=by omega
   have HNX:=Lib.hid (show fitsTo T node l (k+1)=(decide (((k+1:Nat):Int)=node) || fitsL1 l (T.held (k+1))) by rw [fitsTo_succ,HOK.out,Bool.true_and])
   by_cases hn:(k:Int)+1=node
   ·have HN:=Lib.hid (show fitsTo T node l (k+1)=true by rw [HNX.out,decide_eq_true (by rw [←hn];rfl),Bool.true_or])
    have hb:((k:Int)+1 == node)=true:=by simp [hn]
    clear hn
    go_wp2_with fail
    go_roundg (T.nodes - (k+1))
    case measure=>have:=HNK.out;omega
    case rel=>exact ⟨k+1,by omega,by go_num,HN.out,HK.out,HT.out,HB⟩
   ·have HN1:=Lib.hid (show fitsTo T node l (k+1)=(partsL (T.held (k+1)) l.sp).all (fun p=>fitB p.m l.m) by rw [HNX.out,decide_eq_false (fun e=>hn (by rw [←e];rfl)),Bool.false_or];rfl)
    have hb:((k:Int)+1 == node)=false:=by simp [hn]
    have ch:=HT.out.ch hk16
    have hk17:(k:Int)+1<17:=by omega
    have hk0:(0:Int)≤(k:Int)+1:=by omega
    obtain ⟨x0,x1,x2⟩:=HK.out.three
    have HBH:=Lib.hid (HW.out.held (k+1)).len
    clear hn
    go_wp2_with fail
    have HCP:=Lib.hid (show Calls Tryz.prog 131 #[.pointer (some ⟨hp (k+1),0,none⟩), .agg #[.int .i64 l.a, .int .i64 l.b]] wr.drew _ from iparts_any ((HT.out.held (k+1) hk16).drew) (by have:=HBH.out;omega) l.sp)
    have q1:wr.drew.cell? ⟨t,1+(k+1),none⟩=some (.pointer (some ⟨hp (k+1),0,none⟩)):=ch
    have q2:wr.drew.cell? ⟨gl,0,none⟩=some (.int .i64 l.a):=x0
    have q3:wr.drew.cell? ⟨gl,1,none⟩=some (.int .i64 l.b):=x1
    go_region_held3 (fun w'=>w'.cell? ⟨t,1+(k+1),none⟩=some (.pointer (some ⟨hp (k+1),0,none⟩))∧w'.cell? ⟨gl,0,none⟩=some (.int .i64 l.a)∧w'.cell? ⟨gl,1,none⟩=some (.int .i64 l.b))
     (first | exact ⟨q1,q2,q3⟩ | exact ⟨g1,g2,g3⟩ | go_keep)
     ((go_at_call 131;((with_reducible refine HCP.out.mono ?_);rintro e w3 ⟨D3,cap3,rfl,hr3,hb3⟩;have HR3:=Lib.hid hr3;have HB3:=Lib.hid hb3;have g1:=(HT.out.drew.below_ HB3.out).ch hk16;obtain ⟨g2,g3,g4⟩:=(HK.out.drew.below_ HB3.out).three;clear hr3 hb3)))
    obtain ⟨P,hP⟩:∃P,partsL (T.held (k+1)) l.sp=P:=⟨_,rfl⟩
    have hPL:(partsL (T.held (k+1)) l.sp).length≤4096:=Nat.le_trans (parts_len _ _) HBH.out
    rw [hP] at HR3 HN1 hPL ⊢
    have hPI:(P.length:Int)≤4096:=by omega
    have HP3:=Lib.hid (own_from' (c:=0) (o:=fun _=>0) HR3.out (fun _ _=>rfl))
    have HK3:=Lib.hid (HK.out.drew.below_ HB3.out)
    have HT3:=Lib.hid (HT.out.drew.below_ HB3.out)
    have HBB3:=Lib.hid (HB.out.trans ((below_of_drew HB3.out).mono HB.out.size))
    clear hP c0 ch x0 x1 x2 HR3 HB3 HB HK HT hb q1 q2 q3 g1 g2 g3 g4 HCP
    go_wp2_with fail
    go_loopg [31] P.length (fun n t31 wi=>∃j:Nat,n+j=P.length∧t31 = .int .i64 (j:Nat)∧(P.take j).all (fun p=>fitB p.m l.m)=true∧Blk wi gl 47 #[.int .i64 l.a, .int .i64 l.b, .int .i64 l.m]∧TbIn o c wi t T hp A cap∧OwnS (fun _=>0) 0 wi 136 3 (.slice D3 P.length cap3) P.length (lkcells P)∧Hid (Below w.heap.size w wi))
    case atStart=>exact ⟨0,by omega,rfl,rfl,HK3.out,HT3.out,HP3.out,Lib.hid HBB3.out⟩
    case round =>
     obtain ⟨j,hnj,rfl,hok2,hk,ht,hrow,HB⟩:=hrel
     have HNJ:=Lib.hid hnj
     have HOK2:=Lib.hid hok2
     have HK:=Lib.hid hk
     have HT:=Lib.hid ht
     have HROW:=Lib.hid hrow
     clear hnj hok2 hk ht hrow HK3 HT3 HP3 HBB3
     by_cases hlt2:j<P.length
     ·have hlt2I:(j:Int)<(P.length:Int):=by omega
      obtain ⟨p,hp'⟩:∃p,P[j]? = some p:=⟨_,List.getElem?_eq_getElem hlt2⟩
      have HNY:=Lib.hid ((all_next (p:=fun p:Lk=>fitB p.m l.m) hp').trans (by rw [HOK2.out,Bool.true_and]))
      have HMEM:=Lib.hid (List.mem_of_getElem? hp')
      obtain ⟨ad,rfl,x0,x1,x2⟩:=(Reads.of_own HROW.out.1).lock hp'
      have HQ:=Lib.hid (Blk.new wr 136 #[.int .i64 p.a, .int .i64 p.b, .int .i64 p.m])
      have HK4:=Lib.hid (HK.out.alloc (.cells #[.int .i64 p.a, .int .i64 p.b, .int .i64 p.m] 136))
      have HT4:=Lib.hid (HT.out.alloc (.cells #[.int .i64 p.a, .int .i64 p.b, .int .i64 p.m] 136))
      have HR4:=Lib.hid (HROW.out.alloc (.cells #[.int .i64 p.a, .int .i64 p.b, .int .i64 p.m] 136))
      have HB4:=Lib.hid (HB.out.alloc HB.out.size (.cells #[.int .i64 p.a, .int .i64 p.b, .int .i64 p.m] 136))
      clear hp' HK HT HROW HB
      go_upto_region 8 with (fail)
      generalize wr.alloc (.cells #[.int .i64 p.a, .int .i64 p.b, .int .i64 p.m] 136)=W4 at HQ HK4 HT4 HR4 HB4 ⊢
      generalize wr.heap.size=gp at HQ ⊢
      clear x0 x1 x2
      obtain ⟨y0,y1,y2⟩:=HQ.out.three
      obtain ⟨z0,z1,z2⟩:=HK4.out.three
      go_wp2_with fail
      refine (mdfit_any p.m l.m W4).mono ?_
      rintro e w5 ⟨rfl,rfl⟩
      obtain ⟨v,hv⟩:∃v,fitB p.m l.m=v:=⟨_,rfl⟩
      rw [hv]
      cases v with
      | true =>
        have HN:=Lib.hid (show (P.take (j+1)).all (fun p=>fitB p.m l.m)=true by rw [HNY.out];exact hv)
        clear hv
        go_wp2_with fail
        go_roundg (P.length - (j+1))
        case measure=>have:=HNJ.out;omega
        case rel=>exact ⟨j+1,by omega,by go_num,HN.out,HK4.out,HT4.out,HR4.out,HB4⟩
      | false =>
        have HF:=Lib.hid (show T.fits node l=false by
         rw [HFD.out]
         refine fitsTo_no (k:=k) ?_ hlt
         rw [HN1.out]
         exact List.all_eq_false.2 ⟨p,HMEM.out,by rw [hv];exact Bool.false_ne_true⟩)
        clear hv
        go_wp2_with fail
        go_ret
        exact ⟨by rw [HF.out];first | done | rfl,HB4.out⟩
     ·have hlt2I:¬(j:Int)<(P.length:Int):=by omega
      obtain rfl:j=P.length:=by have:=HNJ.out;omega
      have HYY:=Lib.hid (show fitsTo T node l (k+1)=true by
       rw [HN1.out]
       have:=HOK2.out
       rw [List.take_length] at this
       exact this)
      go_wp2_with fail
      go_roundg (T.nodes - (k+1))
      case measure=>have:=HNK.out;omega
      case rel=>exact ⟨k+1,by omega,by go_num,HYY.out,HK.out,HT.out,HB⟩
  ·have hltI:¬(k:Int)+1≤(T.nodes:Int):=by omega
   obtain rfl:k=T.nodes:=by have:=HNK.out;omega
   have HF:=Lib.hid (HFD.out.trans HOK.out)
   go_wp2_with fail
   go_ret
   exact ⟨by rw [HF.out];first | done | rfl,HB.out⟩
set_option maxRecDepth 100000 in
set_option maxHeartbeats 8000000 in
theorem tforce_any (h:TbAt o c w t T) (hf:Fut o w) (hc:1≤c) (wf:TbWf T) (k:Nat) (hk1:1≤k) (hkn:k≤T.nodes) (l:Lk) :
 Calls Tryz.prog 93 #[.pointer (some ⟨t,0,none⟩), .int .i64 (k:Nat), .agg #[.int .i64 l.a, .int .i64 l.b, .int .i64 l.m]] w fun e w'=>e = .returned (.int .i64 (T.force (k:Nat) l).1)∧∃o',TbAt o' c w' t (T.force (k:Nat) l).2∧Step o (tabC c) w o' w':=by
 obtain ⟨hp,A,cap,h⟩:=h
 have HW:=Lib.hid wf
 have HC:=Lib.hid hc
 have hk16:k≤16:=by have:=wf.nodes;omega
 have hk17:(k:Int)<17:=by omega
 have hisk:T.is (k:Nat):=by unfold Tb.is;omega
 have di:=decide_eq_true hisk
 have HT0:=Lib.hid (h.alloc (.cells #[.int .i64 l.a, .int .i64 l.b, .int .i64 l.m] 47))
 have HK0:=Lib.hid (Keep.new hf 47 #[.int .i64 l.a, .int .i64 l.b, .int .i64 l.m])
 have HF0:=Lib.hid (hf.alloc (.cells #[.int .i64 l.a, .int .i64 l.b, .int .i64 l.m] 47))
 have HS0:=Lib.hid ((Step.refl o (tabC c) w).alloc (.cells #[.int .i64 l.a, .int .i64 l.b, .int .i64 l.m] 47))
 clear h hf hc wf
 obtain ⟨R,hR⟩:∃R,T.force (k:Nat) l=R:=⟨_,rfl⟩
 have HRD:=Lib.hid (show R=if rightB l=false then (1,T) else if T.fits (k:Nat) l=false then (8,T) else (0,T.raise k l) by
  rw [←hR]
  unfold Tb.force
  by_cases hr:rightB l=true
  ·rw [if_neg (fun h=>h ⟨hisk,hr⟩)]
   simp only [hr]
   rfl
  ·rw [if_pos (fun h=>hr h.2),if_pos (Bool.eq_false_iff.2 hr)])
 rw [hR]
 clear hR hisk
 go_enter Tryz.func93,Tryz.ntmps93
 go_upto_region 1 with (fail)
 generalize w.alloc (.cells #[.int .i64 l.a, .int .i64 l.b, .int .i64 l.m] 47)=W0 at HT0 HK0 HF0 HS0 ⊢
 generalize w.heap.size=gl at HK0 ⊢
 obtain ⟨x0,x1,x2⟩:=HK0.out.1.three
 go_wp2_with fail
 refine (tis_any HT0.out (k:Nat)).mono ?_
 rintro e w1 ⟨rfl,rfl⟩
 rw [di]
 go_wp2_with fail
 refine (tright_any l w1).mono ?_
 rintro e w2 ⟨rfl,hb2⟩
 have HT2:=Lib.hid (HT0.out.below_ hb2)
 have HK2:=Lib.hid (HK0.out.below_ hb2)
 have HF2:=Lib.hid (HF0.out.below hb2)
 have HS2:=Lib.hid (HS0.out.trans (Step.of_below o _ hb2))
 clear hb2 HT0 HK0 HF0 HS0 x0 x1 x2
 obtain ⟨x0,x1,x2⟩:=HK2.out.1.three
 obtain ⟨r,hr⟩:∃r,rightB l=r:=⟨_,rfl⟩
 rw [hr] at HRD ⊢
 cases r with
 | false =>
   have HE:=Lib.hid (HRD.out.trans (if_pos rfl))
   clear hr
   go_wp2_with fail
   go_ret
   exact ⟨by rw [HE.out];first | done | rfl,o,⟨hp,A,cap,by rw [HE.out];exact HT2.out⟩,HS2.out⟩
 | true =>
   obtain ⟨hls,hlb,_⟩:=rightB_iff.1 hr
   have HLS:=Lib.hid hls
   have HLB:=Lib.hid hlb
   have HRD2:=Lib.hid (HRD.out.trans (if_neg (by simp)))
   clear hr hls hlb
   go_wp2_with fail
   refine (tfits_any HT2.out HW.out (k:Nat) l).mono ?_
   rintro e w4 ⟨rfl,hb4⟩
   have HT4:=Lib.hid (HT2.out.below_ hb4)
   have HK4:=Lib.hid (HK2.out.below_ hb4)
   have HF4:=Lib.hid (HF2.out.below hb4)
   have HS4:=Lib.hid (HS2.out.trans (Step.of_below o _ hb4))
   clear hb4 HT2 HK2 HF2 HS2 x0 x1 x2
   obtain ⟨x0,x1,x2⟩:=HK4.out.1.three
   obtain ⟨v,hv⟩:∃v,T.fits (k:Nat) l=v:=⟨_,rfl⟩
   rw [hv] at HRD2 ⊢
   clear hv
   cases v with
   | false =>
     have HE:=Lib.hid (HRD2.out.trans (if_pos rfl))
     go_wp2_with fail
     go_ret
     exact ⟨by rw [HE.out];first | done | rfl,o,⟨hp,A,cap,by rw [HE.out];exact HT4.out⟩,HS4.out⟩
   | true =>
     have HE:=Lib.hid (HRD2.out.trans (if_neg (by simp)))
     have hc1:=HC.out
     go_wp2_with fail
     have ch:=HT4.out.ch hk16
     have q1:w4.drew.cell? ⟨t,1+k,none⟩=some (.pointer (some ⟨hp k,0,none⟩)):=ch
     have q2:w4.drew.cell? ⟨gl,0,none⟩=some (.int .i64 l.a):=x0
     have q3:w4.drew.cell? ⟨gl,1,none⟩=some (.int .i64 l.b):=x1
     have q4:w4.drew.cell? ⟨gl,2,none⟩=some (.int .i64 l.m):=x2
     have HCR:=Lib.hid (mdraise_any HF4.out.drew (by omega) (HT4.out.drew.held k hk16) (HW.out.held k) l HLS.out HLB.out)
     go_region_held3 (fun w'=>w'.cell? ⟨t,1+k,none⟩=some (.pointer (some ⟨hp k,0,none⟩))∧w'.cell? ⟨gl,0,none⟩=some (.int .i64 l.a)∧w'.cell? ⟨gl,1,none⟩=some (.int .i64 l.b)∧w'.cell? ⟨gl,2,none⟩=some (.int .i64 l.m))
      (first | exact ⟨q1,q2,q3,q4⟩ | exact ⟨g1,g2,g3,g4⟩ | go_keep)
      ((go_at_call 157;((with_reducible refine HCR.out.mono ?_);rintro e w5 ⟨rfl,o5,hi5,hs5⟩;have ht5:=HT4.out.drew.hold hi5 hs5;have HT5:=Lib.hid ht5;have HS5:=Lib.hid hs5;have g1:=ht5.ch hk16;obtain ⟨g2,g3,g4⟩:=(HK4.out.drew.step hs5 (by unfold only;omega)).1.three;clear hi5 hs5 ht5)))
     have HS6:=Lib.hid (HS4.out.drew.trans (HS5.out.mono (only_tab hk16)))
     clear HT4 HK4 HF4 HS4 HCR q1 q2 q3 q4 g1 g2 g3 g4 x0 x1 x2 ch
     go_wp2_with fail
     go_ret
     exact ⟨by rw [HE.out];first | done | rfl,o5,⟨hp,A,cap,by rw [HE.out];exact HT5.out⟩,HS6.out⟩
end
theorem WfB.rel {L:List Lk} (keep:Int) (ls:List Lk) (hl:∀p∈ls,p.sp.ok∧p.b≤4096) (h:WfB L):WfB (ls.foldl (rel1 keep) L) :=
 foldl_inv ls L h (fun b x hx hb=>by
  unfold rel1
  split
  ·exact hb
  ·split
   ·exact hb.clear (hl x hx).1
   ·exact hb.set (hl x hx).1 (hl x hx).2 _)
theorem WfB.relL {L:List Lk} (h:WfB L) (s:Sp) (keep:Int):WfB (Go.Proofs.YtohgabdmmbngbaaGreatDoor.relL L s keep):=WfB.rel keep _ (fun _ hp=>part_ok h hp) h
theorem TbWf.release {T:Tb} (h:TbWf T) (node:Int) (s:Sp) (keep:Int):TbWf (T.release node s keep).2:=by
 unfold Tb.release
 split
 ·exact TbWf.grant (h.hold ((h.held _).relL s keep))
 ·exact h
theorem TbWf.cancel {T:Tb} (h:TbWf T) (id:Int):TbWf (T.cancel id).2:=by
 unfold Tb.cancel
 split
 ·exact h.filter _
 ·exact TbWf.grant (h.filter _)
theorem TbWf.drop {T:Tb} (h:TbWf T) (node:Int):TbWf (T.drop node).2:=by
 unfold Tb.drop
 split
 ·exact TbWf.grant ((h.fresh _).filter _)
 ·exact h
theorem TbWf.force {T:Tb} (h:TbWf T) (node:Int) (l:Lk):TbWf (T.force node l).2:=by
 unfold Tb.force
 split
 ·exact h
 ·rename_i h1
  obtain ⟨h2,h3,_⟩:=rightB_iff.1 (Classical.not_not.1 h1).2
  split
  ·exact h
  ·exact h.raise h2 h3
theorem Blk.pair2 {w:World} {g:Nat} {t:TypeId} {c0 c1:Value} (h:Blk w g t #[c0,c1]):w.cell? ⟨g,0,none⟩=some c0∧w.cell? ⟨g,1,none⟩=some c1:=⟨h.cell 0,h.cell 1⟩
section
variable {o o':Nat→Nat} {c d:Nat} {w w':World} {t:Nat} {T:Tb} {hp:Nat→Nat} {A:Option Addr} {cap:Nat}
theorem hold_hold (T:Tb) (k:Nat) (L M:List Lk):(T.hold k L).hold k M=T.hold k M:=by
 unfold Tb.hold
 congr 1
 funext i
 split
 ·rfl
 ·rename_i h
  exact if_neg h
theorem hold_held (T:Tb) (k:Nat) (L:List Lk):(T.hold k L).held k=L:=if_pos rfl
theorem hold_self (T:Tb) (k:Nat):T.hold k (T.held k)=T:=by
 unfold Tb.hold
 have:(fun i=>if i=k then T.held k else T.held i)=T.held:=by
  funext i
  split
  ·rename_i h
   rw [h]
  ·rfl
 rw [this]
set_option maxRecDepth 100000 in
set_option maxHeartbeats 16000000 in
theorem trelease_any (h:TbAt o c w t T) (hf:Fut o w) (hc:1≤c) (wf:TbWf T) (k:Nat) (hk1:1≤k) (hkn:k≤T.nodes) (s:Sp) (hs:s.ok) (keep:Int) :
 Calls Tryz.prog 167 #[.pointer (some ⟨t,0,none⟩), .int .i64 (k:Nat), .agg #[.int .i64 s.a, .int .i64 s.b], .int .i64 keep] w fun e w'=>∃D cap',e = .returned (.tuple #[.slice D (T.release (k:Nat) s keep).1.1.length cap', .int .i64 (T.release (k:Nat) s keep).1.2])∧∃o',OwnS o' 0 w' 164 5 (.slice D (T.release (k:Nat) s keep).1.1.length cap') (T.release (k:Nat) s keep).1.1.length (wqcells (T.release (k:Nat) s keep).1.1)∧TbAt o' c w' t (T.release (k:Nat) s keep).2∧Step o (tabC c) w o' w':=by
 obtain ⟨hp,A,cap,h⟩:=h
 obtain ⟨d,hd1,hd2⟩:=fresh_colour o w (c+19)
 have HDC:=Lib.hid hd1
 have HW:=Lib.hid wf
 have HC:=Lib.hid hc
 have hk16:k≤16:=by have:=wf.nodes;omega
 have hk17:(k:Int)<17:=by omega
 have hisk:T.is (k:Nat):=by unfold Tb.is;omega
 have di:=decide_eq_true hisk
 have ds:decide (0≤s.a∧s.a<s.b)=true:=decide_eq_true hs
 have HSO:=Lib.hid hs
 have HT0:=Lib.hid (h.alloc (.cells #[.int .i64 s.a, .int .i64 s.b] 45))
 have HK0:=Lib.hid (Keep.new hf 45 #[.int .i64 s.a, .int .i64 s.b])
 have HF0:=Lib.hid (hf.alloc (.cells #[.int .i64 s.a, .int .i64 s.b] 45))
 have HS0:=Lib.hid ((Step.refl o (tabC c) w).alloc (.cells #[.int .i64 s.a, .int .i64 s.b] 45))
 obtain ⟨R,hR⟩:∃R,T.release (k:Nat) s keep=R:=⟨_,rfl⟩
 have HRD:=Lib.hid (show R=if keep=0∨keep=1 then (((T.hold k (relL (T.held k) s keep)).grant.1,0),(T.hold k (relL (T.held k) s keep)).grant.2) else (([],1),T) by
  rw [←hR]
  unfold Tb.release
  by_cases hke:keep=0∨keep=1
  ·rw [if_pos ⟨hisk,hs,hke⟩,if_pos hke]
   rfl
  ·rw [if_neg (fun h=>hke h.2.2),if_neg hke])
 rw [hR]
 clear hR hisk hs h hf hc wf
 go_enter Tryz.func167,Tryz.ntmps167
 go_upto_region 1 with (fail)
 generalize w.alloc (.cells #[.int .i64 s.a, .int .i64 s.b] 45)=W0 at HT0 HK0 HF0 HS0 ⊢
 generalize w.heap.size=gl at HK0 ⊢
 obtain ⟨x0,x1⟩:=HK0.out.1.pair2
 by_cases hke:keep=0∨keep=1
 ·rcases hke with rfl | rfl
  ·have HRE:=Lib.hid (HRD.out.trans (if_pos (.inl rfl)))
   clear HRD
   go_wp2_with fail
   refine (tis_any HT0.out (k:Nat)).mono ?_
   rintro e w1 ⟨rfl,rfl⟩
   rw [di]
   go_wp2_with fail
   refine (spvalid_any s.a s.b w1).mono ?_
   rintro e w2 ⟨rfl,hb2⟩
   rw [ds]
   have HT2:=Lib.hid (HT0.out.below_ hb2)
   have HK2:=Lib.hid (HK0.out.below_ hb2)
   have HF2:=Lib.hid (HF0.out.below hb2)
   have HS2:=Lib.hid (HS0.out.trans (Step.of_below o _ hb2))
   clear hb2 HT0 HK0 HF0 HS0 x0 x1
   obtain ⟨x0,x1⟩:=HK2.out.1.pair2
   have ch:=HT2.out.ch hk16
   have hBH:=(HW.out.held k).len
   go_wp2_with fail
   have HCP:=Lib.hid (show Calls Tryz.prog 131 #[.pointer (some ⟨hp k,0,none⟩), .agg #[.int .i64 s.a, .int .i64 s.b]] w2.drew _ from iparts_any ((HT2.out.held k hk16).drew) (by omega) s)
   have q1:w2.drew.cell? ⟨t,1+k,none⟩=some (.pointer (some ⟨hp k,0,none⟩)):=ch
   have q2:w2.drew.cell? ⟨gl,0,none⟩=some (.int .i64 s.a):=x0
   have q3:w2.drew.cell? ⟨gl,1,none⟩=some (.int .i64 s.b):=x1
   go_region_held3 (fun w'=>w'.cell? ⟨t,1+k,none⟩=some (.pointer (some ⟨hp k,0,none⟩))∧w'.cell? ⟨gl,0,none⟩=some (.int .i64 s.a)∧w'.cell? ⟨gl,1,none⟩=some (.int .i64 s.b))
    (first | exact ⟨q1,q2,q3⟩ | exact ⟨g1,g2,g3⟩ | go_keep)
    ((go_at_call 131;((with_reducible refine HCP.out.mono ?_);rintro e w3 ⟨D3,cap3,rfl,hr3,hb3⟩;have HR3:=Lib.hid hr3;have HB3:=Lib.hid hb3;have g1:=(HT2.out.drew.below_ HB3.out).ch hk16;obtain ⟨g2,g3⟩:=(HK2.out.drew.below_ HB3.out).1.pair2;clear hr3 hb3)))
   obtain ⟨P,hP⟩:∃P,partsL (T.held k) s=P:=⟨_,rfl⟩
   have HRL:=Lib.hid (show relL (T.held k) s 0=P.foldl (rel1 0) (T.held k) by
    rw [←hP]
    rfl)
   have HPO:=Lib.hid (show ∀p∈P,p.sp.ok∧p.b≤4096 from fun p hp2=>part_ok (HW.out.held k) (by rw [hP];exact hp2))
   have hPL:(partsL (T.held k) s).length≤4096:=Nat.le_trans (parts_len _ _) hBH
   rw [hP] at HR3 hPL ⊢
   have hPI:(P.length:Int)≤4096:=by omega
   have HP3:=Lib.hid (own_from' (c:=0) (o:=o) HR3.out (fun g hg=>HF2.out g hg))
   have HT3:=Lib.hid (HT2.out.drew.below_ HB3.out)
   have HF3:=Lib.hid (HF2.out.drew.below HB3.out)
   have HS3:=Lib.hid (HS2.out.drew.trans (Step.of_below o _ HB3.out))
   clear hP ch x0 x1 HR3 HB3 HT2 HK2 HF2 HS2 q1 q2 q3 g1 g2 g3 HCP
   go_wp2_with fail
   go_loopg [38] P.length (fun n t38 wr=>∃(i:Nat) (oL:Nat→Nat),n+i=P.length∧t38 = .int .i64 (i:Nat)∧TbIn oL c wr t (T.hold k ((P.take i).foldl (rel1 0) (T.held k))) hp A cap∧WfB ((P.take i).foldl (rel1 0) (T.held k))∧OwnS oL 0 wr 136 3 (.slice D3 P.length cap3) P.length (lkcells P)∧Fut oL wr∧Step o (tabC c) w oL wr)
   case atStart=>exact ⟨0,o,by omega,rfl,by rw [show T.hold k ((P.take 0).foldl (rel1 0) (T.held k))=T from hold_self T k];exact HT3.out,HW.out.held k,HP3.out,HF3.out,HS3.out⟩
   case round =>
    obtain ⟨i,oL,hni,rfl,ht,hw,hr,hf,hst⟩:=hrel
    have HNI:=Lib.hid hni
    have HT:=Lib.hid ht
    have HWB:=Lib.hid hw
    have HR:=Lib.hid hr
    have HF:=Lib.hid hf
    have HST:=Lib.hid hst
    clear hni ht hw hr hf hst HT3 HP3 HF3 HS3
    by_cases hlt:i<P.length
    ·have hltI:(i:Int)<(P.length:Int):=by omega
     obtain ⟨p,hp2⟩:∃p,P[i]? = some p:=⟨_,List.getElem?_eq_getElem hlt⟩
     have HNX:=Lib.hid (foldl_next (f:=rel1 0) (b:=T.held k) hp2)
     have HPP:=Lib.hid (HPO.out p (List.mem_of_getElem? hp2))
     obtain ⟨ad,rfl,x0,x1,x2⟩:=(Reads.of_own HR.out.1).lock hp2
     have HQ:=Lib.hid (Keep.new HF.out 136 #[.int .i64 p.a, .int .i64 p.b, .int .i64 p.m])
     have HT1:=Lib.hid (HT.out.alloc (.cells #[.int .i64 p.a, .int .i64 p.b, .int .i64 p.m] 136))
     have HR1:=Lib.hid (HR.out.alloc (.cells #[.int .i64 p.a, .int .i64 p.b, .int .i64 p.m] 136))
     have HF1:=Lib.hid (HF.out.alloc (.cells #[.int .i64 p.a, .int .i64 p.b, .int .i64 p.m] 136))
     have HST1:=Lib.hid (HST.out.alloc (.cells #[.int .i64 p.a, .int .i64 p.b, .int .i64 p.m] 136))
     clear hp2 HT HR HF HST
     generalize (P.take i).foldl (rel1 0) (T.held k)=M at HNX HT1 HWB ⊢
     go_upto_region 7 with (fail)
     generalize wr.alloc (.cells #[.int .i64 p.a, .int .i64 p.b, .int .i64 p.m] 136)=W1 at HQ HT1 HR1 HF1 HST1 ⊢
     generalize wr.heap.size=X at HQ ⊢
     clear x0 x1 x2
     obtain ⟨y0,y1,y2⟩:=HQ.out.1.three
     by_cases hle:p.m≤0
     ·have HN:=Lib.hid (HNX.out.trans (show rel1 0 M p=M from if_pos hle))
      go_wp2_with fail
      go_roundg (P.length - (i+1))
      case measure=>have:=HNI.out;omega
      case rel=>exact ⟨i+1,oL,by omega,by go_num,by rw [HN.out];exact HT1.out,by rw [HN.out];exact HWB.out,HR1.out,HF1.out,HST1.out⟩
     ·have HN:=Lib.hid (HNX.out.trans (show rel1 0 M p=clearL M p.sp from (if_neg hle).trans (if_pos rfl)))
      have ch:=HT1.out.ch hk16
      clear HNX
      go_wp2_with fail
      have q1:W1.drew.cell? ⟨t,1+k,none⟩=some (.pointer (some ⟨hp k,0,none⟩)):=ch
      have q2:W1.drew.cell? ⟨X,0,none⟩=some (.int .i64 p.a):=y0
      have q3:W1.drew.cell? ⟨X,1,none⟩=some (.int .i64 p.b):=y1
      have HIM:=Lib.hid (show ImAt oL (c+2+k) W1.drew (hp k) M by
       have:=HT1.out.drew.held k hk16
       rw [hold_held] at this
       exact this)
      have HCR:=Lib.hid (show Calls Tryz.prog 212 #[.pointer (some ⟨hp k,0,none⟩), .agg #[.int .i64 p.a, .int .i64 p.b]] W1.drew _ from iclear_any HIM.out HWB.out.wf (by have:=HWB.out.len;omega) p.sp HPP.out.1)
      go_region_held3 (fun w'=>w'.cell? ⟨t,1+k,none⟩=some (.pointer (some ⟨hp k,0,none⟩))∧w'.cell? ⟨X,0,none⟩=some (.int .i64 p.a)∧w'.cell? ⟨X,1,none⟩=some (.int .i64 p.b))
       (first | exact ⟨q1,q2,q3⟩ | exact ⟨g1,g2,g3⟩ | go_keep)
       ((go_at_call 212;((with_reducible refine HCR.out.mono ?_);rintro e w5 ⟨rfl,o5,hi5,hs5⟩;have ht5:=HT1.out.drew.hold hi5 hs5;have HT5:=Lib.hid ht5;have HS5:=Lib.hid hs5;have g1:=ht5.ch hk16;obtain ⟨g2,g3,g4⟩:=(HQ.out.drew.step hs5 (by unfold only;omega)).1.three;clear hi5 hs5 ht5)))
      have HT6:=Lib.hid (show TbIn o5 c w5 t (T.hold k (clearL M p.sp)) hp A cap by
       have:=HT5.out
       rw [hold_hold] at this
       exact this)
      have HR5:=Lib.hid (HR1.out.drew.step HS5.out (by unfold only;omega))
      have HF5:=Lib.hid (HF1.out.drew.step HS5.out)
      have HST5:=Lib.hid (HST1.out.drew.trans (HS5.out.mono (only_tab hk16)))
      have HW5:=Lib.hid (HWB.out.clear HPP.out.1)
      clear HT1 HR1 HF1 HST1 HQ y0 y1 y2 q1 q2 q3 g1 g2 g3 g4 HCR HIM HT5 ch
      go_wp2_with fail
      go_roundg (P.length - (i+1))
      case measure=>have:=HNI.out;omega
      case rel=>exact ⟨i+1,o5,by omega,by go_num,by rw [HN.out];exact HT6.out,by rw [HN.out];exact HW5.out,HR5.out,HF5.out,HST5.out⟩
    ·have hltI:¬(i:Int)<(P.length:Int):=by omega
     obtain rfl:i=P.length:=by have:=HNI.out;omega
     have HTE:=Lib.hid (show TbAt oL c wr t (T.hold k (relL (T.held k) s 0)) from ⟨hp,A,cap,by
      have:=HT.out
      rw [List.take_length] at this
      rw [HRL.out]
      exact this⟩)
     have HWE:=Lib.hid (HW.out.hold (node:=k) ((HW.out.held k).relL s 0))
     generalize T.hold k (relL (T.held k) s 0)=TT at HTE HWE HRE ⊢
     clear HT HR
     go_wp2_with fail
     refine (tgrant_any HTE.out HF.out HC.out HWE.out).mono ?_
     rintro e w6 ⟨D6,cap6,rfl,o6,ho6,ht6,hs6⟩
     have HO6:=Lib.hid ho6
     have HT6:=Lib.hid ht6
     have HS6:=Lib.hid (HST.out.trans hs6)
     clear ho6 ht6 hs6
     go_wp2_with fail
     go_ret2
     exact ⟨D6,cap6,by rw [HRE.out];first | done | rfl,o6,by rw [HRE.out];exact HO6.out,by rw [HRE.out];exact HT6.out,HS6.out⟩
  ·have HRE:=Lib.hid (HRD.out.trans (if_pos (.inr rfl)))
   clear HRD
   go_wp2_with fail
   refine (tis_any HT0.out (k:Nat)).mono ?_
   rintro e w1 ⟨rfl,rfl⟩
   rw [di]
   go_wp2_with fail
   refine (spvalid_any s.a s.b w1).mono ?_
   rintro e w2 ⟨rfl,hb2⟩
   rw [ds]
   have HT2:=Lib.hid (HT0.out.below_ hb2)
   have HK2:=Lib.hid (HK0.out.below_ hb2)
   have HF2:=Lib.hid (HF0.out.below hb2)
   have HS2:=Lib.hid (HS0.out.trans (Step.of_below o _ hb2))
   clear hb2 HT0 HK0 HF0 HS0 x0 x1
   obtain ⟨x0,x1⟩:=HK2.out.1.pair2
   have ch:=HT2.out.ch hk16
   have hBH:=(HW.out.held k).len
   go_wp2_with fail
   have HCP:=Lib.hid (show Calls Tryz.prog 131 #[.pointer (some ⟨hp k,0,none⟩), .agg #[.int .i64 s.a, .int .i64 s.b]] w2.drew _ from iparts_any ((HT2.out.held k hk16).drew) (by omega) s)
   have q1:w2.drew.cell? ⟨t,1+k,none⟩=some (.pointer (some ⟨hp k,0,none⟩)):=ch
   have q2:w2.drew.cell? ⟨gl,0,none⟩=some (.int .i64 s.a):=x0
   have q3:w2.drew.cell? ⟨gl,1,none⟩=some (.int .i64 s.b):=x1
   go_region_held3 (fun w'=>w'.cell? ⟨t,1+k,none⟩=some (.pointer (some ⟨hp k,0,none⟩))∧w'.cell? ⟨gl,0,none⟩=some (.int .i64 s.a)∧w'.cell? ⟨gl,1,none⟩=some (.int .i64 s.b))
    (first | exact ⟨q1,q2,q3⟩ | exact ⟨g1,g2,g3⟩ | go_keep)
    ((go_at_call 131;((with_reducible refine HCP.out.mono ?_);rintro e w3 ⟨D3,cap3,rfl,hr3,hb3⟩;have HR3:=Lib.hid hr3;have HB3:=Lib.hid hb3;have g1:=(HT2.out.drew.below_ HB3.out).ch hk16;obtain ⟨g2,g3⟩:=(HK2.out.drew.below_ HB3.out).1.pair2;clear hr3 hb3)))
   obtain ⟨P,hP⟩:∃P,partsL (T.held k) s=P:=⟨_,rfl⟩
   have HRL:=Lib.hid (show relL (T.held k) s 1=P.foldl (rel1 1) (T.held k) by
    rw [←hP]
    rfl)
   have HPO:=Lib.hid (show ∀p∈P,p.sp.ok∧p.b≤4096 from fun p hp2=>part_ok (HW.out.held k) (by rw [hP];exact hp2))
   have hPL:(partsL (T.held k) s).length≤4096:=Nat.le_trans (parts_len _ _) hBH
   rw [hP] at HR3 hPL ⊢
   have hPI:(P.length:Int)≤4096:=by omega
   have HP3:=Lib.hid (own_from' (c:=0) (o:=o) HR3.out (fun g hg=>HF2.out g hg))
   have HT3:=Lib.hid (HT2.out.drew.below_ HB3.out)
   have HF3:=Lib.hid (HF2.out.drew.below HB3.out)
   have HS3:=Lib.hid (HS2.out.drew.trans (Step.of_below o _ HB3.out))
   clear hP ch x0 x1 HR3 HB3 HT2 HK2 HF2 HS2 q1 q2 q3 g1 g2 g3 HCP
   go_wp2_with fail
   go_loopg [38] P.length (fun n t38 wr=>∃(i:Nat) (oL:Nat→Nat),n+i=P.length∧t38 = .int .i64 (i:Nat)∧TbIn oL c wr t (T.hold k ((P.take i).foldl (rel1 1) (T.held k))) hp A cap∧WfB ((P.take i).foldl (rel1 1) (T.held k))∧OwnS oL 0 wr 136 3 (.slice D3 P.length cap3) P.length (lkcells P)∧Fut oL wr∧Step o (tabC c) w oL wr)
   case atStart=>exact ⟨0,o,by omega,rfl,by rw [show T.hold k ((P.take 0).foldl (rel1 1) (T.held k))=T from hold_self T k];exact HT3.out,HW.out.held k,HP3.out,HF3.out,HS3.out⟩
   case round =>
    obtain ⟨i,oL,hni,rfl,ht,hw,hr,hf,hst⟩:=hrel
    have HNI:=Lib.hid hni
    have HT:=Lib.hid ht
    have HWB:=Lib.hid hw
    have HR:=Lib.hid hr
    have HF:=Lib.hid hf
    have HST:=Lib.hid hst
    clear hni ht hw hr hf hst HT3 HP3 HF3 HS3
    by_cases hlt:i<P.length
    ·have hltI:(i:Int)<(P.length:Int):=by omega
     obtain ⟨p,hp2⟩:∃p,P[i]? = some p:=⟨_,List.getElem?_eq_getElem hlt⟩
     have HNX:=Lib.hid (foldl_next (f:=rel1 1) (b:=T.held k) hp2)
     have HPP:=Lib.hid (HPO.out p (List.mem_of_getElem? hp2))
     obtain ⟨ad,rfl,x0,x1,x2⟩:=(Reads.of_own HR.out.1).lock hp2
     have HQ:=Lib.hid (Keep.new HF.out 136 #[.int .i64 p.a, .int .i64 p.b, .int .i64 p.m])
     have HT1:=Lib.hid (HT.out.alloc (.cells #[.int .i64 p.a, .int .i64 p.b, .int .i64 p.m] 136))
     have HR1:=Lib.hid (HR.out.alloc (.cells #[.int .i64 p.a, .int .i64 p.b, .int .i64 p.m] 136))
     have HF1:=Lib.hid (HF.out.alloc (.cells #[.int .i64 p.a, .int .i64 p.b, .int .i64 p.m] 136))
     have HST1:=Lib.hid (HST.out.alloc (.cells #[.int .i64 p.a, .int .i64 p.b, .int .i64 p.m] 136))
     clear hp2 HT HR HF HST
     generalize (P.take i).foldl (rel1 1) (T.held k)=M at HNX HT1 HWB ⊢
     go_upto_region 7 with (fail)
     generalize wr.alloc (.cells #[.int .i64 p.a, .int .i64 p.b, .int .i64 p.m] 136)=W1 at HQ HT1 HR1 HF1 HST1 ⊢
     generalize wr.heap.size=X at HQ ⊢
     clear x0 x1 x2
     obtain ⟨y0,y1,y2⟩:=HQ.out.1.three
     by_cases hle:p.m≤1
     ·have HN:=Lib.hid (HNX.out.trans (show rel1 1 M p=M from if_pos hle))
      go_wp2_with fail
      go_roundg (P.length - (i+1))
      case measure=>have:=HNI.out;omega
      case rel=>exact ⟨i+1,oL,by omega,by go_num,by rw [HN.out];exact HT1.out,by rw [HN.out];exact HWB.out,HR1.out,HF1.out,HST1.out⟩
     ·have HN:=Lib.hid (HNX.out.trans (show rel1 1 M p=setL M p.sp 1 from (if_neg hle).trans (if_neg (by decide))))
      have ch:=HT1.out.ch hk16
      clear HNX
      go_wp2_with fail
      have q1:W1.drew.cell? ⟨t,1+k,none⟩=some (.pointer (some ⟨hp k,0,none⟩)):=ch
      have q2:W1.drew.cell? ⟨X,0,none⟩=some (.int .i64 p.a):=y0
      have q3:W1.drew.cell? ⟨X,1,none⟩=some (.int .i64 p.b):=y1
      have HIM:=Lib.hid (show ImAt oL (c+2+k) W1.drew (hp k) M by
       have:=HT1.out.drew.held k hk16
       rw [hold_held] at this
       exact this)
      have HCR:=Lib.hid (show Calls Tryz.prog 202 #[.pointer (some ⟨hp k,0,none⟩), .agg #[.int .i64 p.a, .int .i64 p.b], .int .i64 1] W1.drew _ from iset_any HIM.out HWB.out.wf (by have:=HWB.out.len;omega) p.sp HPP.out.1 1)
      go_region_held3 (fun w'=>w'.cell? ⟨t,1+k,none⟩=some (.pointer (some ⟨hp k,0,none⟩))∧w'.cell? ⟨X,0,none⟩=some (.int .i64 p.a)∧w'.cell? ⟨X,1,none⟩=some (.int .i64 p.b))
       (first | exact ⟨q1,q2,q3⟩ | exact ⟨g1,g2,g3⟩ | go_keep)
       ((go_at_call 202;((with_reducible refine HCR.out.mono ?_);rintro e w5 ⟨rfl,o5,hi5,hs5⟩;have ht5:=HT1.out.drew.hold hi5 hs5;have HT5:=Lib.hid ht5;have HS5:=Lib.hid hs5;have g1:=ht5.ch hk16;obtain ⟨g2,g3,g4⟩:=(HQ.out.drew.step hs5 (by unfold only;omega)).1.three;clear hi5 hs5 ht5)))
      have HT6:=Lib.hid (show TbIn o5 c w5 t (T.hold k (setL M p.sp 1)) hp A cap by
       have:=HT5.out
       rw [hold_hold] at this
       exact this)
      have HR5:=Lib.hid (HR1.out.drew.step HS5.out (by unfold only;omega))
      have HF5:=Lib.hid (HF1.out.drew.step HS5.out)
      have HST5:=Lib.hid (HST1.out.drew.trans (HS5.out.mono (only_tab hk16)))
      have HW5:=Lib.hid (HWB.out.set HPP.out.1 HPP.out.2 1)
      clear HT1 HR1 HF1 HST1 HQ y0 y1 y2 q1 q2 q3 g1 g2 g3 g4 HCR HIM HT5 ch
      go_wp2_with fail
      go_roundg (P.length - (i+1))
      case measure=>have:=HNI.out;omega
      case rel=>exact ⟨i+1,o5,by omega,by go_num,by rw [HN.out];exact HT6.out,by rw [HN.out];exact HW5.out,HR5.out,HF5.out,HST5.out⟩
    ·have hltI:¬(i:Int)<(P.length:Int):=by omega
     obtain rfl:i=P.length:=by have:=HNI.out;omega
     have HTE:=Lib.hid (show TbAt oL c wr t (T.hold k (relL (T.held k) s 1)) from ⟨hp,A,cap,by
      have:=HT.out
      rw [List.take_length] at this
      rw [HRL.out]
      exact this⟩)
     have HWE:=Lib.hid (HW.out.hold (node:=k) ((HW.out.held k).relL s 1))
     generalize T.hold k (relL (T.held k) s 1)=TT at HTE HWE HRE ⊢
     clear HT HR
     go_wp2_with fail
     refine (tgrant_any HTE.out HF.out HC.out HWE.out).mono ?_
     rintro e w6 ⟨D6,cap6,rfl,o6,ho6,ht6,hs6⟩
     have HO6:=Lib.hid ho6
     have HT6:=Lib.hid ht6
     have HS6:=Lib.hid (HST.out.trans hs6)
     clear ho6 ht6 hs6
     go_wp2_with fail
     go_ret2
     exact ⟨D6,cap6,by rw [HRE.out];first | done | rfl,o6,by rw [HRE.out];exact HO6.out,by rw [HRE.out];exact HT6.out,HS6.out⟩
 ·have hk0:(keep != 0)=true:=by
   rw [bne_iff_ne]
   exact fun h=>hke (.inl h)
  have hk1':(keep != 1)=true:=by
   rw [bne_iff_ne]
   exact fun h=>hke (.inr h)
  have HRE:=Lib.hid (HRD.out.trans (if_neg hke))
  clear HRD hke
  go_wp2_with fail
  refine (tis_any HT0.out (k:Nat)).mono ?_
  rintro e w1 ⟨rfl,rfl⟩
  rw [di]
  go_wp2_with fail
  refine (spvalid_any s.a s.b w1).mono ?_
  rintro e w2 ⟨rfl,hb2⟩
  rw [ds]
  have HT2:=Lib.hid (HT0.out.below_ hb2)
  have HS2:=Lib.hid (HS0.out.trans (Step.of_below o _ hb2))
  clear hb2 HT0 HS0 x0 x1
  go_wp2_with fail
  go_ret2
  exact ⟨none,0,by rw [HRE.out];first | done | rfl,o,by rw [HRE.out];exact OwnS.nil _ _ _ _ _,by rw [HRE.out];exact ⟨hp,A,cap,HT2.out⟩,HS2.out⟩
end
def rawT (n:Nat) (f:Nat→Value):Array Value :=
 #[.int .i64 n,f 0,f 1,f 2,f 3,f 4,f 5,f 6,f 7,f 8,f 9,f 10,f 11,f 12,f 13,f 14,f 15,f 16, .slice none 0 0, .int .i64 0]
def newF (hp:Nat→Nat) (i:Nat):Nat→Value:=fun j=>if j<i then ptrV (hp j) else .pointer none
theorem rawT_set (n:Nat) (f:Nat→Value) (k m:Nat) (hk:k<17):(rawT n f).setIfInBounds (1+k) (ptrV m)=rawT n (fun j=>if j=k then ptrV m else f j):=by
 rcases k with _ | _ | _ | _ | _ | _ | _ | _ | _ | _ | _ | _ | _ | _ | _ | _ | _ | k
 all_goals first | rfl | omega
theorem rawT_cell (n:Nat) (f:Nat→Value) {i:Nat} (hi:i<17):(rawT n f)[1+i]? = some (f i):=by
 rcases i with _ | _ | _ | _ | _ | _ | _ | _ | _ | _ | _ | _ | _ | _ | _ | _ | _ | i
 all_goals first | rfl | omega
theorem newF_next (hp:Nat→Nat) (i m:Nat):(fun j=>if j=i then ptrV m else newF hp i j)=newF (fun j=>if j=i then m else hp j) (i+1):=by
 funext j
 unfold newF
 by_cases h:j=i
 ·subst h
  rw [if_pos rfl,if_pos (by omega)]
  exact (congrArg ptrV (if_pos rfl)).symm
 ·rw [if_neg h]
  show _=if j<i+1 then ptrV (if j=i then m else hp j) else _
  rw [if_neg h]
  by_cases h2:j<i
  ·rw [if_pos h2,if_pos (by omega)]
  ·rw [if_neg h2,if_neg (by omega)]
section
variable {o o':Nat→Nat} {c d:Nat} {w w':World} {t:Nat}
structure TbNew (o:Nat→Nat) (c:Nat) (w:World) (t n i:Nat) (hp:Nat→Nat):Prop where
 blk:Blk w t 118 (rawT n (newF hp i))
 col:o t=c
 held:∀j,j<i→ImAt o (c+2+j) w (hp j) []
theorem TbNew.next {hp:Nat→Nat} {n i m:Nat} {o1:Nat→Nat} {w1:World} (h:TbNew o c w t n i hp) (hi:i<17) (hm:ImAt o1 (c+2+i) w1 m []) (hs:Step o (fun _=>False) w o1 w1) :
 TbNew o1 c (w1.setCell ⟨t,1+i,none⟩ (.pointer (some ⟨m,0,none⟩))) t n (i+1) (fun j=>if j=i then m else hp j)∧Step o (only c) w o1 (w1.setCell ⟨t,1+i,none⟩ (.pointer (some ⟨m,0,none⟩))):=by
 have hb:=h.blk.step hs (fun h=>h)
 have ht1:o1 t=c:=(hs.old t h.blk.lt).trans h.col
 have hs3:Step o1 (only c) w1 o1 (w1.setCell ⟨t,1+i,none⟩ (.pointer (some ⟨m,0,none⟩))):=(Step.refl o1 (only c) w1).setCell (p:=⟨t,1+i,none⟩) ht1 _
 refine ⟨⟨?_,ht1,fun j hj => ?_⟩,?_⟩
 ·rw [←newF_next,←rawT_set n _ i m hi]
  exact hb.set_ (1+i) _
 ·show ImAt o1 (c+2+j) _ (if j=i then m else hp j) []
  by_cases hji:j=i
  ·subst hji
   rw [if_pos rfl]
   exact hm.step hs3 (by unfold only;omega)
  ·rw [if_neg hji]
   exact ((h.held j (by omega)).step hs (fun h=>h)).step hs3 (by unfold only;omega)
 ·exact (hs.mono (fun x h=>h.elim)).trans hs3
theorem TbNew.drew {hp:Nat→Nat} {n i:Nat} (h:TbNew o c w t n i hp):TbNew o c w.drew t n i hp:=⟨h.blk,h.col,h.held⟩
theorem TbNew.done {hp:Nat→Nat} {n:Nat} (h:TbNew o c w t n 17 hp):TbAt o c w t (Tb.zero n) :=
 ⟨hp,none,0,h.blk,h.col,OwnS.nil _ _ _ _ _,fun i hi=>h.held i (by omega)⟩
theorem Step.own (h:Step o (only c) w o' w') (hd:∀k,k<w.heap.size→o k≠c):Step o (fun _=>False) w o' w' :=
 h.less (fun k hk e=>hd k hk e)
set_option maxRecDepth 100000 in
set_option maxHeartbeats 8000000 in
theorem tnew_any (hf:Fut o w) (hd:∀k,k<w.heap.size→o k≠c) (n:Nat) (hn1:1≤n) (hn2:n≤16) :
 Calls Tryz.prog 50 #[.int .i64 (n:Nat)] w fun e w'=>∃t,e = .returned (.pointer (some ⟨t,0,none⟩))∧∃o',TbAt o' c w' t (Tb.zero n)∧Step o (fun _=>False) w o' w':=by
 have h1:¬(n:Int)<1:=by omega
 have h2:¬(16:Int)<(n:Int):=by omega
 have HD:=Lib.hid hd
 have hbl:=(Below.refl w.heap.size w).alloc (Nat.le_refl _) (.cells (rawT n (newF (fun _=>0) 0)) 118)
 have HN0:=Lib.hid (show TbNew (band o w.heap.size (w.alloc (.cells (rawT n (newF (fun _=>0) 0)) 118)).heap.size c) c (w.alloc (.cells (rawT n (newF (fun _=>0) 0)) 118)) w.heap.size n 0 (fun _=>0) from ⟨Blk.new _ _ _,band_in (Nat.le_refl _) (by simp),fun j hj=>absurd hj (Nat.not_lt_zero j)⟩)
 have HS0:=Lib.hid (Step.of_below_band o (only c) c hbl)
 have HR:=Lib.hid (show rawT n (newF (fun _=>0) 0)=#[.int .i64 (n:Nat), .pointer none, .pointer none, .pointer none, .pointer none, .pointer none, .pointer none, .pointer none, .pointer none, .pointer none, .pointer none, .pointer none, .pointer none, .pointer none, .pointer none, .pointer none, .pointer none, .pointer none, .slice none 0 0, .int .i64 0] from rfl)
 clear hf hd hbl
 go_enter Tryz.func50,Tryz.ntmps50
 go_upto_region 4 with (fail)
 rw [←HR.out]
 generalize w.alloc (.cells (rawT n (newF (fun _=>0) 0)) 118)=W0 at HN0 HS0 ⊢
 generalize band o _ W0.heap.size c=o0 at HN0 HS0
 generalize w.heap.size=t at HN0 ⊢
 clear HR
 go_wp2_with fail
 go_loopg [14] 17 (fun r t14 wr=>∃(i:Nat) (oL:Nat→Nat) (hp:Nat→Nat),r+i=17∧t14 = .int .i64 (i:Nat)∧TbNew oL c wr t n i hp∧Step o (only c) w oL wr)
 case atStart=>exact ⟨0,o0,fun _=>0,by omega,rfl,HN0.out,HS0.out⟩
 case round =>
  obtain ⟨i,oL,hp,hni,rfl,hN,hst⟩:=hrel
  have HNI:=Lib.hid hni
  have HN:=Lib.hid hN
  have HST:=Lib.hid hst
  clear hni hN hst HN0 HS0
  by_cases hlt:i<17
  ·have hltI:(i:Int)<17:=by omega
   obtain ⟨o2,hi2,hs2,_⟩:=ImAt.new oL wr (c+2+i)
   obtain ⟨hn3,hs3⟩:=HN.out.next hlt hi2 hs2
   have HN3:=Lib.hid hn3.drew
   have HS3:=Lib.hid (HST.out.trans hs3).drew
   have p1:(wr.alloc (.cells #[.slice none 0 0] 175)).cell? ⟨t,1+i,none⟩=some (newF hp i i):=((HN.out.blk.alloc (.cells #[.slice none 0 0] 175)).cell (1+i)).trans (rawT_cell n _ hlt)
   have f1:(wr.alloc (.cells #[.slice none 0 0] 175)).frozen? ⟨t,1+i,none⟩=false:=(HN.out.blk.alloc (.cells #[.slice none 0 0] 175)).frozen (1+i)
   clear hi2 hs2 hn3 hs3
   go_wp2_with fail
   go_region_law (go_simp;go_at_call 106;refine (inew_any _).mono ?_;rintro e w2 ⟨rfl,rfl⟩)
   all_goals
    go_wp2_with fail
    go_roundg (17 - (i+1))
    case measure=>have:=HNI.out;omega
    case rel=>exact ⟨i+1,o2,_,by omega,by go_num,HN3.out,HS3.out⟩
  ·have hltI:¬(i:Int)<17:=by omega
   obtain rfl:i=17:=by have:=HNI.out;omega
   go_wp2_with fail
   go_ret
   exact ⟨t,rfl,oL,HN.out.done,HST.out.own HD.out⟩
end
end Go.Proofs.YtohgabdmmbngbaaGreatDoor
