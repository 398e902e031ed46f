import Derived.Test.YtohgabdmmbngbaaGreatDoorKIdxP
set_option linter.unusedVariables false
set_option linter.unusedSimpArgs false
namespace Go.Proofs.YtohgabdmmbngbaaGreatDoor
open Go.RowKit
theorem idxI_any {α:Type} (q:α→Bool) (l:List α):decide ((0:Int)≤idxI q l)=l.any q:=by
 unfold idxI
 cases h:l.findIdx? q with
 | none =>
   have:=List.findIdx?_eq_none_iff.1 h
   simp only
   rw [List.any_eq_false.2 (fun x hx=>by rw [this x hx];exact Bool.false_ne_true)]
   rfl
 | some i =>
   obtain ⟨hi,hq,_⟩:=List.findIdx?_eq_some_iff_getElem.1 h
   simp only
   rw [List.any_eq_true.2 ⟨l[i],List.getElem_mem hi,hq⟩]
   exact decide_eq_true (by omega)
section
variable {o o':Nat→Nat} {c:Nat} {C:Nat→Prop} {w w':World} {t:Nat} {T:Tb} {hp:Nat→Nat} {A:Option Addr} {cap:Nat}
theorem dead1_pr (l:List Lk):PrPt o c 238 #[] l shareB w:=fun W s _ _=>by
 show Calls Tryz.prog 238 #[.agg #[.int .i64 s.a, .int .i64 s.b, .int .i64 s.m]] W fun e w'=>e = .returned (.bool (shareB s))∧Below W.heap.size W w'
 have HB:=Lib.hid ((Below.refl W.heap.size W).alloc (Nat.le_refl _) (.cells #[.int .i64 s.a, .int .i64 s.b, .int .i64 s.m] 136))
 by_cases h:s.m=1
 ·have b1:(s.m == 1)=true:=by simp [h]
  have HS:=Lib.hid (show shareB s=true from decide_eq_true h)
  clear h
  go_enter Tryz.func238,Tryz.ntmps238
  go_wp2_with fail
  go_ret
  exact ⟨by rw [HS.out];first | done | rfl,HB.out⟩
 ·have b1:(s.m == 1)=false:=by simp [h]
  have HS:=Lib.hid (show shareB s=false from decide_eq_false h)
  clear h
  go_enter Tryz.func238,Tryz.ntmps238
  go_wp2_with fail
  go_ret
  exact ⟨by rw [HS.out];first | done | rfl,HB.out⟩
theorem hasshared_any (l:List Lk) (A:Option Addr) (cap:Nat) (h:OwnS o c w 136 3 (.slice A l.length cap) l.length (lkcells l)) (hl:l.length≤1000000) :
 Calls Tryz.prog 237 #[.slice A l.length cap, .func (.func 238) #[] #[]] w fun e w'=>e = .returned (.bool (l.any shareB))∧Below w.heap.size w w':=by
 have eg:∀args w,(callFunc 238 args).run Tryz.prog w = .ok (.enter 238 args) w:=enters_of Tryz.func238 (by kernel_rfl) rfl
 have HI:=Lib.hid (idxparts_any 238 #[] eg l shareB A cap h hl (dead1_pr l))
 have HA:=Lib.hid (idxI_any shareB l)
 clear h hl eg
 go_enter Tryz.func237,Tryz.ntmps237
 go_wp2_with fail
 refine HI.out.mono ?_
 rintro e w1 ⟨rfl,hb⟩
 have HB:=Lib.hid hb
 clear hb
 go_wp2_with fail
 go_ret
 exact ⟨by rw [←HA.out];rfl,HB.out⟩
theorem any_of_take {α:Type} {p:α→Bool} {l:List α} {i:Nat} {b:Bool} (h:(l.take i).any p=b) (hb:b=true):l.any p=true:=by
 rw [hb] at h
 obtain ⟨x,hx,hp⟩:=List.any_eq_true.1 h
 exact List.any_eq_true.2 ⟨x,List.mem_of_mem_take hx,hp⟩
theorem Tb.dead2_eq (T:Tb) (node:Int) (x:Wq) (p:Lk):T.dead2 node x p=((meetR p.sp x.l.sp).2 && decide (p.m=1) && (partsL (T.held node.toNat) (meetR p.sp x.l.sp).1).any shareB):=rfl
set_option maxRecDepth 100000 in
set_option maxHeartbeats 16000000 in
theorem tdead_any (h:TbIn o c w t T hp A cap) (wf:TbWf T) (node:Nat) (hn1:node≤16) (l:Lk) :
 Calls Tryz.prog 209 #[.pointer (some ⟨t,0,none⟩), .int .i64 (node:Nat), .agg #[.int .i64 l.a, .int .i64 l.b, .int .i64 l.m]] w fun e w'=>e = .returned (.bool (T.dead (node:Nat) l))∧Below w.heap.size w w':=by
 have HT0:=Lib.hid (h.alloc (.cells #[.int .i64 l.a, .int .i64 l.b, .int .i64 l.m] 47))
 have HK0:=Lib.hid (Blk.new w 47 #[.int .i64 l.a, .int .i64 l.b, .int .i64 l.m])
 have HB0:=Lib.hid ((Below.refl w.heap.size w).alloc (Nat.le_refl _) (.cells #[.int .i64 l.a, .int .i64 l.b, .int .i64 l.m] 47))
 have HW:=Lib.hid wf
 have hwl:=wf.many
 have hwI:(T.waits.length:Int)≤1000:=by omega
 have hn17:(node:Int)<17:=by omega
 have HR:=Lib.hid (Reads.of_own h.waits.1)
 have HDD:=Lib.hid (show T.dead (node:Nat) l=(decide (l.m=2) && T.waits.any (T.dead1 (node:Nat) l)) from rfl)
 clear h wf
 go_enter Tryz.func209,Tryz.ntmps209
 go_upto_region 1 with (fail)
 generalize w.alloc (.cells #[.int .i64 l.a, .int .i64 l.b, .int .i64 l.m] 47)=W0 at HT0 HK0 HB0 ⊢
 generalize w.heap.size=gl at HK0 ⊢
 obtain ⟨x0,x1,x2⟩:=HK0.out.three
 have c18:=HT0.out.c18
 by_cases hm:l.m=2
 ·have bm:(l.m != 2)=false:=by simp [hm]
  have HD2:=Lib.hid (show T.dead (node:Nat) l=T.waits.any (T.dead1 (node:Nat) l) by rw [HDD.out,decide_eq_true hm];rfl)
  clear hm
  go_wp2_with fail
  clear x0 x1 x2 c18
  go_loopg [21] T.waits.length (fun n t21 wr=>∃i:Nat,n+i=T.waits.length∧t21 = .int .i64 (i:Nat)∧(T.waits.take i).any (T.dead1 (node:Nat) l)=false∧Blk wr gl 47 #[.int .i64 l.a, .int .i64 l.b, .int .i64 l.m]∧TbIn o c wr t T hp A cap∧Hid (Below w.heap.size w wr))
  case atStart=>exact ⟨0,by omega,rfl,rfl,HK0.out,HT0.out,Lib.hid HB0.out⟩
  case round =>
   obtain ⟨i,hni,rfl,hno,hk,ht,HB⟩:=hrel
   have HNI:=Lib.hid hni
   have HNO:=Lib.hid hno
   have HK:=Lib.hid hk
   have HT:=Lib.hid ht
   clear hni hno hk ht HK0 HT0 HB0
   by_cases hlt:i<T.waits.length
   ·have hltI:(i:Int)<(T.waits.length:Int):=by omega
    obtain ⟨q,hq⟩:∃q,T.waits[i]? = some q:=⟨_,List.getElem?_eq_getElem hlt⟩
    have HNX:=Lib.hid ((any_next (p:=T.dead1 (node:Nat) l) hq).trans (by rw [HNO.out,Bool.false_or]))
    obtain ⟨hqr,hqi⟩:=HW.out.waits q (List.mem_of_getElem? hq)
    obtain ⟨qn,hqn⟩:∃qn:Nat,q.node=(qn:Nat):=⟨q.node.toNat,by unfold Tb.is at hqi;omega⟩
    have hqn16:qn≤16:=by have:=HW.out.nodes;unfold Tb.is at hqi;omega
    have hqn17:(qn:Int)<17:=by omega
    have HD1:=Lib.hid (show T.dead1 (node:Nat) l q=(decide (q.node≠(node:Nat)) && decide (q.l.m=2) && (partsL (T.held q.node.toNat) l.sp).any (T.dead2 (node:Nat) q)) from rfl)
    have htn:q.node.toNat=qn:=by omega
    rw [htn] at HD1
    have HQN:=Lib.hid hqn
    clear hqn
    obtain ⟨ad,rfl,x0,x1,x2,x3,x4⟩:=(HR.out.low (by omega) HB.out).wait hq
    have HQ:=Lib.hid (Blk.new wr 164 #[.int .i64 q.id, .int .i64 q.node, .int .i64 q.l.a, .int .i64 q.l.b, .int .i64 q.l.m])
    have HK4:=Lib.hid (HK.out.alloc (.cells #[.int .i64 q.id, .int .i64 q.node, .int .i64 q.l.a, .int .i64 q.l.b, .int .i64 q.l.m] 164))
    have HT4:=Lib.hid (HT.out.alloc (.cells #[.int .i64 q.id, .int .i64 q.node, .int .i64 q.l.a, .int .i64 q.l.b, .int .i64 q.l.m] 164))
    have HB4:=Lib.hid (HB.out.alloc HB.out.size (.cells #[.int .i64 q.id, .int .i64 q.node, .int .i64 q.l.a, .int .i64 q.l.b, .int .i64 q.l.m] 164))
    clear hq hqr hqi htn HK HT HB
    go_upto_region 6 with (fail)
    generalize wr.alloc (.cells #[.int .i64 q.id, .int .i64 q.node, .int .i64 q.l.a, .int .i64 q.l.b, .int .i64 q.l.m] 164)=W4 at HQ HK4 HT4 HB4 ⊢
    generalize wr.heap.size=gq at HQ ⊢
    clear x0 x1 x2 x3 x4
    obtain ⟨y0,y1,y2,y3,y4⟩:=HQ.out.five
    obtain ⟨z0,z1,z2⟩:=HK4.out.three
    by_cases hnn:q.node=(node:Nat)
    ·have bn:(q.node == (node:Int))=true:=by simp [hnn]
     have HN:=Lib.hid (HNX.out.trans (show T.dead1 (node:Nat) l q=false by rw [HD1.out,decide_eq_false (fun h=>h hnn)];rfl))
     clear hnn
     go_wp2_with fail
     go_roundg (T.waits.length - (i+1))
     case measure=>have:=HNI.out;omega
     case rel=>exact ⟨i+1,by omega,by go_num,HN.out,HK4.out,HT4.out,HB4⟩
    ·have bn:(q.node == (node:Int))=false:=by simp [hnn]
     by_cases hm2:q.l.m=2
     ·have bm2:(q.l.m != 2)=false:=by simp [hm2]
      have HD3:=Lib.hid (show T.dead1 (node:Nat) l q=(partsL (T.held qn) l.sp).any (T.dead2 (node:Nat) q) by rw [HD1.out,decide_eq_true hnn,decide_eq_true hm2];rfl)
      clear hnn hm2
      go_upto_region 7 with (fail)
      rw [HQN.out] at y1
      go_wp2_with fail
      have ch:=HT4.out.ch hqn16
      have HBH:=Lib.hid (HW.out.held qn).len
      have HCP:=Lib.hid (show Calls Tryz.prog 131 #[.pointer (some ⟨hp qn,0,none⟩), .agg #[.int .i64 l.a, .int .i64 l.b]] W4.drew _ from iparts_any ((HT4.out.held qn hqn16).drew) (by have:=HBH.out;omega) l.sp)
      have q1:W4.drew.cell? ⟨t,1+qn,none⟩=some (.pointer (some ⟨hp qn,0,none⟩)):=ch
      have q2:W4.drew.cell? ⟨gl,0,none⟩=some (.int .i64 l.a):=z0
      have q3:W4.drew.cell? ⟨gl,1,none⟩=some (.int .i64 l.b):=z1
      have q4:W4.drew.cell? ⟨gq,1,none⟩=some (.int .i64 (qn:Nat)):=y1
      go_region_held3 (fun w'=>w'.cell? ⟨t,1+qn,none⟩=some (.pointer (some ⟨hp qn,0,none⟩))∧w'.cell? ⟨gl,0,none⟩=some (.int .i64 l.a)∧w'.cell? ⟨gl,1,none⟩=some (.int .i64 l.b)∧w'.cell? ⟨gq,1,none⟩=some (.int .i64 (qn:Nat)))
       (first | exact ⟨q1,q2,q3,q4⟩ | exact ⟨g1,g2,g3,g4⟩ | go_keep)
       ((go_at_call 131;((with_reducible refine HCP.out.mono ?_);rintro e w3 ⟨D3,cap3,rfl,hr3,hb3⟩;have HR3:=Lib.hid hr3;have HB3:=Lib.hid hb3;have g1:=(HT4.out.drew.below_ HB3.out).ch hqn16;obtain ⟨g2,g3,_⟩:=(HK4.out.drew.below_ HB3.out).three;have g4:w3.cell? ⟨gq,1,none⟩=some (.int .i64 (qn:Nat)):=((HQ.out.drew.below_ HB3.out).five.2.1).trans (congrArg (fun x=>some (Value.int .i64 x)) HQN.out);clear hr3 hb3)))
      obtain ⟨P,hP⟩:∃P,partsL (T.held qn) l.sp=P:=⟨_,rfl⟩
      have hPL:(partsL (T.held qn) l.sp).length≤4096:=Nat.le_trans (parts_len _ _) HBH.out
      rw [hP] at HR3 HD3 hPL ⊢
      have hPI:(P.length:Int)≤4096:=by omega
      have HP3:=Lib.hid (own_from' (c:=0) (o:=fun _=>0) HR3.out (fun _ _=>rfl))
      have HK3:=Lib.hid (HK4.out.drew.below_ HB3.out)
      have HT3:=Lib.hid (HT4.out.drew.below_ HB3.out)
      have HQ3:=Lib.hid (HQ.out.drew.below_ HB3.out)
      have HBB3:=Lib.hid (HB4.out.trans ((below_of_drew HB3.out).mono HB4.out.size))
      clear hP ch y0 y1 y2 y3 y4 z0 z1 z2 HR3 HB3 HB4 HK4 HT4 HQ q1 q2 q3 q4 g1 g2 g3 g4 HCP bn bm2
      go_wp2_with fail
      go_loopg [46] P.length (fun n t46 wi=>∃j:Nat,n+j=P.length∧t46 = .int .i64 (j:Nat)∧(P.take j).any (T.dead2 (node:Nat) q)=false∧Blk wi gl 47 #[.int .i64 l.a, .int .i64 l.b, .int .i64 l.m]∧Blk wi gq 164 #[.int .i64 q.id, .int .i64 q.node, .int .i64 q.l.a, .int .i64 q.l.b, .int .i64 q.l.m]∧TbIn o c wi t T hp (some ad) cap∧OwnS (fun _=>0) 0 wi 136 3 (.slice D3 P.length cap3) P.length (lkcells P)∧Hid (Below w.heap.size w wi))
      case atStart=>exact ⟨0,by omega,rfl,rfl,HK3.out,HQ3.out,HT3.out,HP3.out,Lib.hid HBB3.out⟩
      case round =>
       obtain ⟨j,hnj,rfl,hno2,hk,hq,ht,hrow,HB⟩:=hrel
       have HNJ:=Lib.hid hnj
       have HNO2:=Lib.hid hno2
       have HK:=Lib.hid hk
       have HQ:=Lib.hid hq
       have HT:=Lib.hid ht
       have HROW:=Lib.hid hrow
       clear hnj hno2 hk hq ht hrow HK3 HT3 HP3 HBB3 HQ3
       by_cases hlt2:j<P.length
       ·have hlt2I:(j:Int)<(P.length:Int):=by omega
        obtain ⟨p,hp'⟩:∃p,P[j]? = some p:=⟨_,List.getElem?_eq_getElem hlt2⟩
        have HNY:=Lib.hid ((any_next (p:=T.dead2 (node:Nat) q) hp').trans (by rw [HNO2.out,Bool.false_or]))
        have HD4:=Lib.hid (show P.any (T.dead2 (node:Nat) q)=true∨T.dead2 (node:Nat) q p=false by
         cases hd:T.dead2 (node:Nat) q p with
         | true=>exact .inl (List.any_eq_true.2 ⟨p,List.mem_of_getElem? hp',hd⟩)
         | false=>exact .inr rfl)
        have HDE:=Lib.hid (T.dead2_eq (node:Nat) q p)
        have HMEM:=Lib.hid (List.mem_of_getElem? hp')
        obtain ⟨bd,rfl,x0,x1,x2⟩:=(Reads.of_own HROW.out.1).lock hp'
        have HX:=Lib.hid (Blk.new wr 136 #[.int .i64 p.a, .int .i64 p.b, .int .i64 p.m])
        have HK5:=Lib.hid (HK.out.alloc (.cells #[.int .i64 p.a, .int .i64 p.b, .int .i64 p.m] 136))
        have HQ5:=Lib.hid (HQ.out.alloc (.cells #[.int .i64 p.a, .int .i64 p.b, .int .i64 p.m] 136))
        have HT5:=Lib.hid (HT.out.alloc (.cells #[.int .i64 p.a, .int .i64 p.b, .int .i64 p.m] 136))
        have HR5:=Lib.hid (HROW.out.alloc (.cells #[.int .i64 p.a, .int .i64 p.b, .int .i64 p.m] 136))
        have HB5:=Lib.hid (HB.out.alloc HB.out.size (.cells #[.int .i64 p.a, .int .i64 p.b, .int .i64 p.m] 136))
        clear hp' HK HQ HT HROW HB
        go_upto_region 10 with (fail)
        generalize wr.alloc (.cells #[.int .i64 p.a, .int .i64 p.b, .int .i64 p.m] 136)=W5 at HX HK5 HQ5 HT5 HR5 HB5 ⊢
        generalize wr.heap.size=gp at HX ⊢
        clear x0 x1 x2
        obtain ⟨y0,y1,y2⟩:=HX.out.three
        obtain ⟨z0,z1,z2,z3,z4⟩:=HQ5.out.five
        go_wp2_with fail
        refine (spmeet_any p.sp q.l.sp W5).mono ?_
        rintro e w6 ⟨rfl,hb6⟩
        obtain ⟨⟨⟨ma,mb⟩,mv⟩,hm⟩:∃N,meetR p.sp q.l.sp=N:=⟨_,rfl⟩
        rw [hm] at HDE ⊢
        simp only at HDE ⊢
        have HX6:=Lib.hid ((HX.out.below_ hb6).alloc (.cells #[.int .i64 ma, .int .i64 mb] 45))
        have HK6:=Lib.hid ((HK5.out.below_ hb6).alloc (.cells #[.int .i64 ma, .int .i64 mb] 45))
        have HQ6:=Lib.hid ((HQ5.out.below_ hb6).alloc (.cells #[.int .i64 ma, .int .i64 mb] 45))
        have HT6:=Lib.hid ((HT5.out.below_ hb6).alloc (.cells #[.int .i64 ma, .int .i64 mb] 45))
        have HR6:=Lib.hid ((HR5.out.below_ hb6).alloc (.cells #[.int .i64 ma, .int .i64 mb] 45))
        have hbb:=HB5.out.trans (hb6.mono HB5.out.size)
        have HB6:=Lib.hid (hbb.alloc hbb.size (.cells #[.int .i64 ma, .int .i64 mb] 45))
        have HM6:=Lib.hid (Blk.new w6 45 #[.int .i64 ma, .int .i64 mb])
        clear hb6 hm hbb HX HK5 HQ5 HT5 HR5 HB5 y0 y1 y2 z0 z1 z2 z3 z4
        go_upto_region 11 with (fail)
        generalize w6.alloc (.cells #[.int .i64 ma, .int .i64 mb] 45)=W6 at HX6 HK6 HQ6 HT6 HR6 HB6 HM6 ⊢
        generalize w6.heap.size=gm at HM6 ⊢
        obtain ⟨y0,y1,y2⟩:=HX6.out.three
        obtain ⟨v0,v1⟩:=HM6.out.pair
        cases mv with
        | false =>
          have HN:=Lib.hid (HNY.out.trans (show T.dead2 (node:Nat) q p=false by rw [HDE.out];rfl))
          go_wp2_with fail
          go_roundg (P.length - (j+1))
          case measure=>have:=HNJ.out;omega
          case rel=>exact ⟨j+1,by omega,by go_num,HN.out,HK6.out,HQ6.out,HT6.out,HR6.out,HB6⟩
        | true =>
          by_cases hpm:p.m=1
          ·have bp:(p.m != 1)=false:=by simp [hpm]
           have HDF:=Lib.hid (show T.dead2 (node:Nat) q p=(partsL (T.held node) ⟨ma,mb⟩).any shareB by rw [HDE.out,decide_eq_true hpm,Bool.true_and,Bool.true_and,Int.toNat_natCast])
           clear hpm
           go_wp2_with fail
           have ch:=HT6.out.ch hn1
           have HBN:=Lib.hid (HW.out.held node).len
           have HCP:=Lib.hid (show Calls Tryz.prog 131 #[.pointer (some ⟨hp node,0,none⟩), .agg #[.int .i64 ma, .int .i64 mb]] W6.drew _ from iparts_any ((HT6.out.held node hn1).drew) (by have:=HBN.out;omega) ⟨ma,mb⟩)
           have hPN:(partsL (T.held node) ⟨ma,mb⟩).length≤4096:=Nat.le_trans (parts_len _ _) HBN.out
           have q1:W6.drew.cell? ⟨t,1+node,none⟩=some (.pointer (some ⟨hp node,0,none⟩)):=ch
           have q2:W6.drew.cell? ⟨gm,0,none⟩=some (.int .i64 ma):=v0
           have q3:W6.drew.cell? ⟨gm,1,none⟩=some (.int .i64 mb):=v1
           go_region_held3 (fun w'=>w'.cell? ⟨t,1+node,none⟩=some (.pointer (some ⟨hp node,0,none⟩))∧w'.cell? ⟨gm,0,none⟩=some (.int .i64 ma)∧w'.cell? ⟨gm,1,none⟩=some (.int .i64 mb))
            (first | exact ⟨q1,q2,q3⟩ | exact ⟨g1,g2,g3⟩ | exact ⟨k1,k2,k3⟩ | go_keep)
            (first
              | (go_at_call 131;((with_reducible refine HCP.out.mono ?_);rintro e w7 ⟨D7,cap7,rfl,hr7,hb7⟩;have HB7:=Lib.hid hb7;have g1:=(HT6.out.drew.below_ HB7.out).ch hn1;obtain ⟨g2,g3⟩:=(HM6.out.drew.below_ HB7.out).pair;have HCS:=Lib.hid (hasshared_any (w:=w7) (o:=fun _=>0) (c:=0) (partsL (T.held node) ⟨ma,mb⟩) D7 cap7 (own_from' (c:=0) (o:=fun _=>0) hr7 (fun _ _=>rfl)) (by omega));clear hr7 hb7))
              | (go_at_call 237;((with_reducible refine HCS.out.mono ?_);rintro e w8 ⟨rfl,hb8⟩;have HB8:=Lib.hid hb8;have k1:=((HT6.out.drew.below_ HB7.out).below_ hb8).ch hn1;obtain ⟨k2,k3⟩:=((HM6.out.drew.below_ HB7.out).below_ hb8).pair;clear hb8)))
           have HB9:=Lib.hid (HB6.out.trans (((below_of_drew HB7.out).trans (HB8.out.mono HB7.out.size)).mono HB6.out.size))
           have HK9:=Lib.hid ((HK6.out.drew.below_ HB7.out).below_ HB8.out)
           have HQ9:=Lib.hid ((HQ6.out.drew.below_ HB7.out).below_ HB8.out)
           have HT9:=Lib.hid ((HT6.out.drew.below_ HB7.out).below_ HB8.out)
           have HR9:=Lib.hid ((HR6.out.drew.below_ HB7.out).below_ HB8.out)
           obtain ⟨v,hv⟩:∃v,(partsL (T.held node) ⟨ma,mb⟩).any shareB=v:=⟨_,rfl⟩
           simp only [hv]
           rw [hv] at HDF
           clear hv q1 q2 q3 g1 g2 g3 k1 k2 k3 ch v0 v1 y0 y1 y2 HCP HCS HX6 HK6 HQ6 HT6 HR6 HB6 HM6 HB7 HB8
           cases v with
           | true =>
             have HF:=Lib.hid (show T.dead (node:Nat) l=true by
              rw [HD2.out]
              refine any_of_take HNX.out ?_
              rw [HD3.out]
              exact List.any_eq_true.2 ⟨p,HMEM.out,HDF.out⟩)
             go_wp2_with fail
             go_ret
             exact ⟨by rw [HF.out];first | done | rfl,HB9.out⟩
           | false =>
             have HN:=Lib.hid (HNY.out.trans HDF.out)
             go_wp2_with fail
             go_roundg (P.length - (j+1))
             case measure=>have:=HNJ.out;omega
             case rel=>exact ⟨j+1,by omega,by go_num,HN.out,HK9.out,HQ9.out,HT9.out,HR9.out,HB9⟩
          ·have bp:(p.m != 1)=true:=by simp [hpm]
           have HN:=Lib.hid (HNY.out.trans (show T.dead2 (node:Nat) q p=false by rw [HDE.out,decide_eq_false hpm];rfl))
           clear hpm
           go_wp2_with fail
           go_roundg (P.length - (j+1))
           case measure=>have:=HNJ.out;omega
           case rel=>exact ⟨j+1,by omega,by go_num,HN.out,HK6.out,HQ6.out,HT6.out,HR6.out,HB6⟩
       ·have hlt2I:¬(j:Int)<(P.length:Int):=by omega
        obtain rfl:j=P.length:=by have:=HNJ.out;omega
        have HN:=Lib.hid (HNX.out.trans (show T.dead1 (node:Nat) l q=false by
         rw [HD3.out]
         have:=HNO2.out
         rw [List.take_length] at this
         exact this))
        go_wp2_with fail
        go_roundg (T.waits.length - (i+1))
        case measure=>have:=HNI.out;omega
        case rel=>exact ⟨i+1,by omega,by go_num,HN.out,HK.out,HT.out,HB⟩
     ·have bm2:(q.l.m != 2)=true:=by simp [hm2]
      have HN:=Lib.hid (HNX.out.trans (show T.dead1 (node:Nat) l q=false by rw [HD1.out,decide_eq_false hm2,Bool.and_false,Bool.false_and]))
      clear hnn hm2
      go_wp2_with fail
      go_roundg (T.waits.length - (i+1))
      case measure=>have:=HNI.out;omega
      case rel=>exact ⟨i+1,by omega,by go_num,HN.out,HK4.out,HT4.out,HB4⟩
   ·have hltI:¬(i:Int)<(T.waits.length:Int):=by omega
    obtain rfl:i=T.waits.length:=by have:=HNI.out;omega
    have HF:=Lib.hid (show T.dead (node:Nat) l=false by have:=HNO.out;rw [List.take_length] at this;rw [HD2.out,this])
    go_wp2_with fail
    go_ret
    exact ⟨by rw [HF.out];first | done | rfl,HB.out⟩
 ·have bm:(l.m != 2)=true:=by simp [hm]
  have HF:=Lib.hid (show T.dead (node:Nat) l=false by rw [HDD.out,decide_eq_false hm];rfl)
  clear hm
  go_wp2_with fail
  go_ret
  exact ⟨by rw [HF.out];first | done | rfl,HB0.out⟩
end
section
variable {o o':Nat→Nat} {c:Nat} {C:Nat→Prop} {w w':World} {t:Nat} {T:Tb} {hp:Nat→Nat} {A:Option Addr} {cap:Nat}
theorem TbIn.hold (h:TbIn o c w t T hp A cap) {node:Nat} {L:List Lk} (hi:ImAt o' (c+2+node) w' (hp node) L) (hs:Step o (only (c+2+node)) w o' w'):TbIn o' c w' t (T.hold node L) hp A cap:=by
 refine ⟨h.blk.step hs (by rw [h.col];unfold only;omega),(hs.old t h.blk.lt).trans h.col,h.waits.step hs (by unfold only;omega),fun i hi2 => ?_⟩
 by_cases hin:i=node
 ·subst hin
  show ImAt o' (c+2+i) w' (hp i) (if i=i then L else T.held i)
  rw [if_pos rfl]
  exact hi
 ·show ImAt o' (c+2+i) w' (hp i) (if i=node then L else T.held i)
  rw [if_neg hin]
  exact (h.held i hi2).step hs (by unfold only;omega)
theorem only_tab {c i:Nat} (hi:i≤16):∀x,only (c+2+i) x→tabC c x:=by unfold only tabC;omega
theorem TbIn.wait {o1:Nat→Nat} {w1:World} (h:TbIn o c w t T hp A cap) (v:Int) {D:Option Addr} {cap2:Nat} {L:List Wq} (hs:Step o (only (c+1)) (w.setCell ⟨t,19,none⟩ (.int .i64 v)) o1 w1) (ho:OwnS o1 (c+1) w1 164 5 (.slice D L.length cap2) L.length (wqcells L)) :
 TbIn o1 c (w1.setCell ⟨t,18,none⟩ (.slice D L.length cap2)) t {T with waits:=L,last:=v} hp D cap2∧Step o (tabC c) w o1 (w1.setCell ⟨t,18,none⟩ (.slice D L.length cap2)):=by
 have hs1:Step o (only c) w o (w.setCell ⟨t,19,none⟩ (.int .i64 v)):=(Step.refl o (only c) w).setCell (p:=⟨t,19,none⟩) h.col _
 have hb1:Blk (w.setCell ⟨t,19,none⟩ (.int .i64 v)) t 118 ({T with last:=v}.cells hp (.slice A T.waits.length cap)):=h.blk.set_ 19 _
 have hb2:=hb1.step hs (by rw [h.col];unfold only;omega)
 have ht1:o1 t=c:=(hs.old t hb1.lt).trans h.col
 have hs3:Step o1 (only c) w1 o1 (w1.setCell ⟨t,18,none⟩ (.slice D L.length cap2)):=(Step.refl o1 (only c) w1).setCell (p:=⟨t,18,none⟩) ht1 _
 refine ⟨⟨hb2.set_ 18 _,ht1,ho.step hs3 (by unfold only;omega),fun i hi=>(((h.held i hi).step hs1 (by unfold only;omega)).step hs (by unfold only;omega)).step hs3 (by unfold only;omega)⟩,?_⟩
 exact ((hs1.mono (fun x h=>by unfold only at h;unfold tabC;omega)).trans (hs.mono (fun x h=>by unfold only at h;unfold tabC;omega))).trans (hs3.mono (fun x h=>by unfold only at h;unfold tabC;omega))
theorem ask_wait (h:TbIn o c w t T hp A cap) (v:Int) (q:Wq):∀(o1:Nat→Nat) (w1:World) (D:Option Addr) (cap2:Nat),Step o (only (c+1)) (w.setCell ⟨t,19,none⟩ (.int .i64 v)) o1 w1→OwnS o1 (c+1) w1 164 5 (.slice D (T.waits.length+1) cap2) (T.waits.length+1) (wqcells T.waits++q.cells) →
 TbIn o1 c (w1.setCell ⟨t,18,none⟩ (.slice D (T.waits.length+1) cap2)) t {T with waits:=T.waits ++ [q],last:=v} hp D cap2∧Step o (tabC c) w o1 (w1.setCell ⟨t,18,none⟩ (.slice D (T.waits.length+1) cap2)):=fun o1 w1 D cap2 hs ho=>by
 have e:(T.waits ++ [q]).length=T.waits.length+1:=by simp
 have h2:=h.wait v (D:=D) (cap2:=cap2) (L:=T.waits ++ [q]) hs (by
  rw [e,wqcells_app]
  show OwnS o1 (c+1) w1 164 5 (.slice D (T.waits.length+1) cap2) (T.waits.length+1) (wqcells T.waits++(q.cells ++ []))
  rw [List.append_nil]
  exact ho)
 rw [e] at h2
 exact h2
set_option maxRecDepth 100000 in
set_option maxHeartbeats 16000000 in
theorem task_any (h:TbAt o c w t T) (hf:Fut o w) (hc:1≤c) (wf:TbWf T) (node:Int) (l:Lk) :
 Calls Tryz.prog 161 #[.pointer (some ⟨t,0,none⟩), .int .i64 node, .agg #[.int .i64 l.a, .int .i64 l.b, .int .i64 l.m]] w fun e w'=>e = .returned (.tuple #[.int .i64 (T.ask node l).1.1, .bool (T.ask node l).1.2.1, .int .i64 (T.ask node l).1.2.2])∧∃o',TbAt o' c w' t (T.ask node l).2∧Step o (tabC c) w o' w':=by
 obtain ⟨hp,A,cap,h⟩:=h
 have HW:=Lib.hid wf
 have HC:=Lib.hid hc
 have HT0:=Lib.hid (h.alloc (.cells #[.int .i64 l.a, .int .i64 l.b, .int .i64 l.m] 47))
 have HK0:=Lib.hid (Keep.new hf 47 #[.int .i64 l.a, .int .i64 l.b, .int .i64 l.m])
 have HF0:=Lib.hid (hf.alloc (.cells #[.int .i64 l.a, .int .i64 l.b, .int .i64 l.m] 47))
 have HS0:=Lib.hid ((Step.refl o (tabC c) w).alloc (.cells #[.int .i64 l.a, .int .i64 l.b, .int .i64 l.m] 47))
 clear h hf hc wf
 obtain ⟨R,hR⟩:∃R,T.ask node l=R:=⟨_,rfl⟩
 have HRD:=Lib.hid hR
 rw [hR]
 clear hR
 go_enter Tryz.func161,Tryz.ntmps161
 go_upto_region 1 with (fail)
 generalize w.alloc (.cells #[.int .i64 l.a, .int .i64 l.b, .int .i64 l.m] 47)=W0 at HT0 HK0 HF0 HS0 ⊢
 generalize w.heap.size=gl at HK0 ⊢
 obtain ⟨x0,x1,x2⟩:=HK0.out.1.three
 by_cases hi:T.is node
 ·have di:=decide_eq_true hi
  by_cases hr:rightB l=true
  ·obtain ⟨hls,hlb,hlm⟩:=rightB_iff.1 hr
   have HLS:=Lib.hid hls
   have HLB:=Lib.hid hlb
   obtain ⟨k,hk⟩:∃k:Nat,node=(k:Nat):=⟨node.toNat,by unfold Tb.is at hi;omega⟩
   have hk16:k≤16:=by have:=HW.out.nodes;unfold Tb.is at hi;omega
   have hk17:(k:Int)<17:=by omega
   subst hk
   have HRD2:=Lib.hid (show R=if needsL (T.held k) [l] = [] then ((0,true,0),T) else if T.free k l then ((0,true,0),T.raise k l) else if T.dead k l=true then ((0,false,33),T) else if 1000≤T.waits.length then ((0,false,10),T) else ((T.last+1,false,0),{T with waits:=T.waits ++ [⟨T.last+1,k,l⟩],last:=T.last+1}) by
    rw [←HRD.out]
    unfold Tb.ask
    rw [if_neg (fun h=>h ⟨hi,hr⟩)]
    rfl)
   clear hi hls hlb hlm
   go_wp2_with fail
   refine (tis_any HT0.out (k:Nat)).mono ?_
   rintro e w1 ⟨rfl,rfl⟩
   rw [di]
   go_wp2_with fail
   refine (tright_any l w1).mono ?_
   rintro e w2 ⟨rfl,hb2⟩
   rw [hr]
   have HT2:=Lib.hid (HT0.out.below_ hb2)
   have HK2:=Lib.hid (HK0.out.below_ hb2)
   have HF2:=Lib.hid (HF0.out.below hb2)
   have HS2:=Lib.hid (HS0.out.trans (Step.of_below o _ hb2))
   clear hb2 HT0 HK0 HF0 HS0 x0 x1 x2
   go_wp2_with fail
   have ch:=HT2.out.ch hk16
   obtain ⟨x0,x1,x2⟩:=HK2.out.1.three
   have ch2:=(HT2.out.alloc (.cells #[.int .i64 l.a, .int .i64 l.b, .int .i64 l.m] 47)).ch hk16
   obtain ⟨y0,y1,y2⟩:=(HK2.out.alloc (.cells #[.int .i64 l.a, .int .i64 l.b, .int .i64 l.m] 47)).1.three
   have hc1:=HC.out
   have HCH:=Lib.hid (show Calls Tryz.prog 207 #[.pointer (some ⟨hp k,0,none⟩), .slice (some ⟨w2.heap.size,0,none⟩) 1 1] (w2.alloc (.cells #[.int .i64 l.a, .int .i64 l.b, .int .i64 l.m] 47)).drew _ from mdhas_any ((HT2.out.alloc (.cells #[.int .i64 l.a, .int .i64 l.b, .int .i64 l.m] 47)).drew.held k hk16) (HW.out.held k) [l] (some ⟨w2.heap.size,0,none⟩) 1 (Reads.newAt w2 47 3 1 _ #[.int .i64 l.a, .int .i64 l.b, .int .i64 l.m] _ rfl rfl rfl).drew (by simp) (fun x hx=>by rw [List.mem_singleton.1 hx];exact ⟨HLS.out,HLB.out⟩))
   have HT2a:=Lib.hid (HT2.out.alloc (.cells #[.int .i64 l.a, .int .i64 l.b, .int .i64 l.m] 47))
   have HK2a:=Lib.hid (HK2.out.alloc (.cells #[.int .i64 l.a, .int .i64 l.b, .int .i64 l.m] 47))
   have HF2a:=Lib.hid (HF2.out.alloc (.cells #[.int .i64 l.a, .int .i64 l.b, .int .i64 l.m] 47))
   have HS2a:=Lib.hid (HS2.out.alloc (.cells #[.int .i64 l.a, .int .i64 l.b, .int .i64 l.m] 47))
   have q1:w2.drew.cell? ⟨t,1+k,none⟩=some (.pointer (some ⟨hp k,0,none⟩)):=ch
   have q2:w2.drew.cell? ⟨gl,0,none⟩=some (.int .i64 l.a):=x0
   have q3:w2.drew.cell? ⟨gl,1,none⟩=some (.int .i64 l.b):=x1
   have q4:w2.drew.cell? ⟨gl,2,none⟩=some (.int .i64 l.m):=x2
   have r1:(w2.alloc (.cells #[.int .i64 l.a, .int .i64 l.b, .int .i64 l.m] 47)).drew.cell? ⟨t,1+k,none⟩=some (.pointer (some ⟨hp k,0,none⟩)):=ch2
   have r2:(w2.alloc (.cells #[.int .i64 l.a, .int .i64 l.b, .int .i64 l.m] 47)).drew.cell? ⟨gl,0,none⟩=some (.int .i64 l.a):=y0
   have r3:(w2.alloc (.cells #[.int .i64 l.a, .int .i64 l.b, .int .i64 l.m] 47)).drew.cell? ⟨gl,1,none⟩=some (.int .i64 l.b):=y1
   have r4:(w2.alloc (.cells #[.int .i64 l.a, .int .i64 l.b, .int .i64 l.m] 47)).drew.cell? ⟨gl,2,none⟩=some (.int .i64 l.m):=y2
   go_region_held3 (fun w'=>w'.cell? ⟨t,1+k,none⟩=some (.pointer (some ⟨hp k,0,none⟩))∧w'.cell? ⟨gl,0,none⟩=some (.int .i64 l.a)∧w'.cell? ⟨gl,1,none⟩=some (.int .i64 l.b)∧w'.cell? ⟨gl,2,none⟩=some (.int .i64 l.m))
    (first | exact ⟨q1,q2,q3,q4⟩ | exact ⟨r1,r2,r3,r4⟩ | exact ⟨g1,g2,g3,g4⟩ | go_keep)
    ((go_at_call 207;((with_reducible refine HCH.out.mono ?_);rintro e w3 ⟨rfl,hb3⟩;have HB3:=Lib.hid hb3;have g1:=(HT2a.out.drew.below_ hb3).ch hk16;obtain ⟨g2,g3,g4⟩:=(HK2a.out.drew.below_ hb3).1.three;clear hb3)))
   have HT3:=Lib.hid (HT2a.out.drew.below_ HB3.out)
   have HK3:=Lib.hid (HK2a.out.drew.below_ HB3.out)
   have HF3:=Lib.hid (HF2a.out.drew.below HB3.out)
   have HS3:=Lib.hid (HS2a.out.drew.trans (Step.of_below o _ HB3.out))
   clear HT2 HK2 HF2 HS2 HT2a HK2a HF2a HS2a HB3 HCH q1 q2 q3 q4 r1 r2 r3 r4 x0 x1 x2 y0 y1 y2 ch ch2 g1 g2 g3 g4
   obtain ⟨N,hN⟩:∃N,needsL (T.held k) [l]=N:=⟨_,rfl⟩
   rw [hN] at HRD2
   simp only [hN]
   clear hN
   cases N with
   | nil =>
     have HF:=Lib.hid (HRD2.out.trans (if_pos rfl))
     go_wp2_with fail
     go_ret3
     exact ⟨by rw [HF.out];first | done | rfl,o,⟨hp,A,cap,by rw [HF.out];exact HT3.out⟩,HS3.out⟩
   | cons n0 N =>
     have HRD3:=Lib.hid (HRD2.out.trans (if_neg (by simp)))
     clear HRD2
     have be:(n0 :: N).isEmpty=false:=rfl
     rw [be]
     obtain ⟨x0,x1,x2⟩:=HK3.out.1.three
     go_wp2_with fail
     refine (tfree_any HT3.out HW.out (k:Nat) l).mono ?_
     rintro e w4 ⟨rfl,hb4⟩
     have HT4:=Lib.hid (HT3.out.below_ hb4)
     have HK4:=Lib.hid (HK3.out.below_ hb4)
     have HF4:=Lib.hid (HF3.out.below hb4)
     have HS4:=Lib.hid (HS3.out.trans (Step.of_below o _ hb4))
     clear hb4 HT3 HK3 HF3 HS3 x0 x1 x2
     obtain ⟨x0,x1,x2⟩:=HK4.out.1.three
     by_cases hfr:T.free (k:Nat) l
     ·rw [decide_eq_true hfr]
      have HF:=Lib.hid (HRD3.out.trans (if_pos hfr))
      clear hfr HRD3
      go_wp2_with fail
      have ch:=HT4.out.ch hk16
      have q1:w4.drew.cell? ⟨t,1+k,none⟩=some (.pointer (some ⟨hp k,0,none⟩)):=ch
      have q2:w4.drew.cell? ⟨gl,0,none⟩=some (.int .i64 l.a):=x0
      have q3:w4.drew.cell? ⟨gl,1,none⟩=some (.int .i64 l.b):=x1
      have q4:w4.drew.cell? ⟨gl,2,none⟩=some (.int .i64 l.m):=x2
      have HCR:=Lib.hid (mdraise_any HF4.out.drew (by omega) (HT4.out.drew.held k hk16) (HW.out.held k) l HLS.out HLB.out)
      go_region_held3 (fun w'=>w'.cell? ⟨t,1+k,none⟩=some (.pointer (some ⟨hp k,0,none⟩))∧w'.cell? ⟨gl,0,none⟩=some (.int .i64 l.a)∧w'.cell? ⟨gl,1,none⟩=some (.int .i64 l.b)∧w'.cell? ⟨gl,2,none⟩=some (.int .i64 l.m))
       (first | exact ⟨q1,q2,q3,q4⟩ | exact ⟨g1,g2,g3,g4⟩ | go_keep)
       ((go_at_call 157;((with_reducible refine HCR.out.mono ?_);rintro e w5 ⟨rfl,o5,hi5,hs5⟩;have ht5:=HT4.out.drew.hold hi5 hs5;have HT5:=Lib.hid ht5;have HS5:=Lib.hid hs5;have g1:=ht5.ch hk16;obtain ⟨g2,g3,g4⟩:=(HK4.out.drew.step hs5 (by unfold only;omega)).1.three;clear hi5 hs5 ht5)))
      have HS6:=Lib.hid (HS4.out.drew.trans (HS5.out.mono (only_tab hk16)))
      clear HT4 HK4 HF4 HS4 HCR q1 q2 q3 q4 g1 g2 g3 g4 x0 x1 x2 ch
      go_wp2_with fail
      go_ret3
      exact ⟨by rw [HF.out];first | done | rfl,o5,⟨hp,A,cap,by rw [HF.out];exact HT5.out⟩,HS6.out⟩
     ·rw [decide_eq_false hfr]
      have HRD4:=Lib.hid (HRD3.out.trans (if_neg hfr))
      clear hfr HRD3
      go_wp2_with fail
      refine (tdead_any HT4.out HW.out k hk16 l).mono ?_
      rintro e w5 ⟨rfl,hb5⟩
      have HT5:=Lib.hid (HT4.out.below_ hb5)
      have HK5:=Lib.hid (HK4.out.below_ hb5)
      have HF5:=Lib.hid (HF4.out.below hb5)
      have HS5:=Lib.hid (HS4.out.trans (Step.of_below o _ hb5))
      clear hb5 HT4 HK4 HF4 HS4 x0 x1 x2
      obtain ⟨x0,x1,x2⟩:=HK5.out.1.three
      obtain ⟨dv,hdv⟩:∃dv,T.dead (k:Nat) l=dv:=⟨_,rfl⟩
      rw [hdv] at HRD4 ⊢
      clear hdv
      cases dv with
      | true =>
        have HF:=Lib.hid (HRD4.out.trans (if_pos rfl))
        go_wp2_with fail
        go_ret3
        exact ⟨by rw [HF.out];first | done | rfl,o,⟨hp,A,cap,by rw [HF.out];exact HT5.out⟩,HS5.out⟩
      | false =>
        have HRD5:=Lib.hid (HRD4.out.trans (if_neg Bool.false_ne_true))
        clear HRD4
        have c18:=HT5.out.c18
        have c19:=HT5.out.c19
        have hwl:=HW.out.many
        by_cases hm:1000≤T.waits.length
        ·have hmI:(1000:Int)≤(T.waits.length:Int):=by omega
         have HF:=Lib.hid (HRD5.out.trans (if_pos hm))
         go_wp2_with fail
         go_ret3
         exact ⟨by rw [HF.out];first | done | rfl,o,⟨hp,A,cap,by rw [HF.out];exact HT5.out⟩,HS5.out⟩
        ·have hmI:¬(1000:Int)≤(T.waits.length:Int):=by omega
         have HF:=Lib.hid (HRD5.out.trans (if_neg hm))
         clear HRD5
         have hll:=HW.out.last
         have HNE:=Lib.hid (show gl≠t from HK5.out.1.ne_ HT5.out.blk (by decide))
         have f19:=HT5.out.blk.frozen 19
         have hs1:Step o (only c) w5 o (w5.setCell ⟨t,19,none⟩ (.int .i64 (T.last+1))):=(Step.refl o (only c) w5).setCell (p:=⟨t,19,none⟩) HT5.out.col _
         have HBV:=Lib.hid (show Blk (w5.setCell ⟨t,19,none⟩ (.int .i64 (T.last+1))) t 118 ({T with last:=T.last+1}.cells hp (.slice A T.waits.length cap)) from HT5.out.blk.set_ 19 _)
         have HKV:=Lib.hid (show Blk (w5.setCell ⟨t,19,none⟩ (.int .i64 (T.last+1))) gl 47 _ from HK5.out.1.far HNE.out _)
         have HOV:=Lib.hid (HT5.out.waits.step hs1 (by unfold only;omega))
         have HSV:=Lib.hid (HS5.out.trans (hs1.mono (fun x h=>by unfold only at h;unfold tabC;omega)))
         have HWT:=Lib.hid (ask_wait HT5.out (T.last+1) ⟨T.last+1,(k:Nat),l⟩)
         have HWN:=Lib.hid (own_blk_ne HOV.out HBV.out (by decide))
         have HGW:=Lib.hid (own_blk_ne HOV.out HKV.out (by decide))
         clear hs1
         go_upto_region 13 with (fail)
         generalize w5.setCell ⟨t,19,none⟩ (.int .i64 (T.last+1))=V at HBV HKV HOV HSV HWT HWN HGW ⊢
         clear c18 c19 f19 x0 x1 x2
         have c18:V.cell? ⟨t,18,none⟩=some (.slice A T.waits.length cap):=HBV.out.cell 18
         have c19:V.cell? ⟨t,19,none⟩=some (.int .i64 (T.last+1)):=HBV.out.cell 19
         obtain ⟨x0,x1,x2⟩:=HKV.out.three
         have d18:(V.alloc (.cells #[.int .i64 (T.last+1), .int .i64 (k:Nat), .int .i64 l.a, .int .i64 l.b, .int .i64 l.m] 164)).cell? ⟨t,18,none⟩=some (.slice A T.waits.length cap):=(HBV.out.alloc _).cell 18
         obtain ⟨i0,hi,hz0,hz1,hz2⟩:=info_parts info_wq
         have d19:(V.alloc (.cells #[.int .i64 (T.last+1), .int .i64 (k:Nat), .int .i64 l.a, .int .i64 l.b, .int .i64 l.m] 164)).cell? ⟨t,19,none⟩=some (.int .i64 (T.last+1)):=(HBV.out.alloc _).cell 19
         obtain ⟨y0,y1,y2⟩:=(HKV.out.alloc (.cells #[.int .i64 (T.last+1), .int .i64 (k:Nat), .int .i64 l.a, .int .i64 l.b, .int .i64 l.m] 164)).three
         go_region_law (refine step_append_S _ rfl (.tmp 65) (.tmp 73) 68 rfl 164 i0 _ 5 40 Tryz.underlying68 hi hz0 hz1 hz2 rfl (by omega) (.slice A T.waits.length cap) T.waits.length (wqcells T.waits) rfl (HOV.out.alloc (.cells #[.int .i64 (T.last+1), .int .i64 (k:Nat), .int .i64 l.a, .int .i64 l.b, .int .i64 l.m] 164)) (some ⟨V.heap.size,0,none⟩) 1 1 [.int .i64 (T.last+1), .int .i64 (k:Nat), .int .i64 l.a, .int .i64 l.b, .int .i64 l.m] rfl (Reads.newAt V 164 5 1 _ #[.int .i64 (T.last+1), .int .i64 (k:Nat), .int .i64 l.a, .int .i64 l.b, .int .i64 l.m] _ rfl rfl rfl) (by simp [Value.oneCell']) (by unfold maxLen;omega) (by omega) ?_;intro v' w7 hown hk hg hat;obtain ⟨A7,cap7,rfl,_,_⟩:=own_form' hown;have hb7:Blk w7 t 118 _:=(HBV.out.alloc (.cells #[.int .i64 (T.last+1), .int .i64 (k:Nat), .int .i64 l.a, .int .i64 l.b, .int .i64 l.m] 164)).drew.step hk (by rw [HT5.out.col];unfold only;omega);have k0:w7.cell? ⟨t,18,none⟩=some (.slice A T.waits.length cap):=hb7.cell 18;have k1:=hb7.frozen 18;have HOW:=Lib.hid hown;have HKS:=Lib.hid hk;clear hown hk hg hat hb7)
         all_goals
          obtain ⟨ht8,hs8⟩:=HWT.out _ _ _ _ ((((Step.refl o (only (c+1)) V).alloc (.cells #[.int .i64 (T.last+1), .int .i64 (k:Nat), .int .i64 l.a, .int .i64 l.b, .int .i64 l.m] 164)).drew).trans HKS.out) HOW.out
          have HT8:=Lib.hid ht8
          have HS8:=Lib.hid (HS5.out.trans hs8)
          have c20:=ht8.c19
          clear ht8 hs8
          go_wp2_with fail
          go_ret3
          exact ⟨by rw [HF.out];first | done | rfl,_,⟨hp,A7,cap7,by rw [HF.out];exact HT8.out⟩,HS8.out⟩
  ·have hr:rightB l=false:=Bool.eq_false_iff.2 hr
   have HF:=Lib.hid (show R=((0,false,1),T) by
    rw [←HRD.out]
    unfold Tb.ask
    rw [if_pos (fun h=>by rw [hr] at h;exact Bool.false_ne_true h.2)])
   clear hi
   go_wp2_with fail
   refine (tis_any HT0.out node).mono ?_
   rintro e w1 ⟨rfl,rfl⟩
   rw [di]
   go_wp2_with fail
   refine (tright_any l w1).mono ?_
   rintro e w2 ⟨rfl,hb2⟩
   rw [hr]
   have HT2:=Lib.hid (HT0.out.below_ hb2)
   have HS2:=Lib.hid (HS0.out.trans (Step.of_below o _ hb2))
   clear hb2
   go_wp2_with fail
   go_ret3
   exact ⟨by rw [HF.out];first | done | rfl,o,⟨hp,A,cap,by rw [HF.out];exact HT2.out⟩,HS2.out⟩
 ·have di:=decide_eq_false hi
  have HF:=Lib.hid (show R=((0,false,1),T) by
   rw [←HRD.out]
   unfold Tb.ask
   rw [if_pos (fun h=>hi h.1)])
  clear hi
  go_wp2_with fail
  refine (tis_any HT0.out node).mono ?_
  rintro e w1 ⟨rfl,rfl⟩
  rw [di]
  go_wp2_with fail
  go_ret3
  exact ⟨by rw [HF.out];first | done | rfl,o,⟨hp,A,cap,by rw [HF.out];exact HT0.out⟩,HS0.out⟩
end
theorem TbWf.hold {T:Tb} (h:TbWf T) {node:Nat} {L:List Lk} (hL:WfB L):TbWf (T.hold node L):=by
 refine ⟨h.nodes,fun i => ?_,h.waits,h.many,h.last⟩
 show WfB (if i=node then L else T.held i)
 split
 ·exact hL
 ·exact h.held i
theorem TbWf.raise {T:Tb} (h:TbWf T) {node:Nat} {l:Lk} (hs:l.sp.ok) (hb:l.b≤4096):TbWf (T.raise node l):=h.hold ((h.held node).raise hs hb)
structure GrWf (T:Tb) (G:Gr):Prop where
 wf:TbWf G.T
 waits:G.T.waits=T.waits
 last:G.T.last=T.last
 nodes:G.T.nodes=T.nodes
theorem GrWf.start {T:Tb} (h:TbWf T):GrWf T ⟨[],[],[],T⟩:=⟨h,rfl,rfl,rfl⟩
theorem GrWf.step {T:Tb} {G:Gr} (h:GrWf T G) {w:Wq} (hr:rightB w.l=true):GrWf T (G.step w):=by
 obtain ⟨h1,h2,_⟩:=rightB_iff.1 hr
 unfold Gr.step
 split
 ·exact ⟨h.wf,h.waits,h.last,h.nodes⟩
 ·exact ⟨h.wf.raise h1 h2,h.waits,h.last,h.nodes⟩
theorem GrWf.go {T:Tb}:∀(ws:List Wq) (G:Gr),GrWf T G→(∀x∈ws,rightB x.l=true)→GrWf T (ws.foldl Gr.step G)
 | [],_,h,_=>h
 | x :: ws,G,h,hw=>GrWf.go ws (G.step x) (h.step (hw x (List.mem_cons_self ..))) (fun y hy=>hw y (List.mem_cons_of_mem _ hy))
theorem Gr.step_len (G:Gr) (w:Wq):(G.step w).out.length≤G.out.length+1∧(G.step w).left.length≤G.left.length+1∧(G.step w).claims.length≤G.claims.length+1:=by
 unfold Gr.step
 split
 ·simp
 ·simp
theorem Gr.go_len : ∀(ws:List Wq) (G:Gr),(ws.foldl Gr.step G).out.length≤G.out.length+ws.length∧(ws.foldl Gr.step G).left.length≤G.left.length+ws.length∧(ws.foldl Gr.step G).claims.length≤G.claims.length+ws.length
 | [],G=>by simp
 | x :: ws,G=>by
   have h1:=Gr.go_len ws (G.step x)
   have h2:=G.step_len x
   rw [List.foldl_cons,List.length_cons]
   omega
theorem Gr.step_sub (G:Gr) (w x:Wq) (hx:x∈(G.step w).left):x∈G.left∨x=w:=by
 unfold Gr.step at hx
 split at hx
 ·simpa using hx
 ·exact .inl hx
theorem Gr.go_sub : ∀(ws:List Wq) (G:Gr) (x:Wq),x∈(ws.foldl Gr.step G).left→x∈G.left∨x∈ws
 | [],G,x,hx => .inl hx
 | y :: ws,G,x,hx=>by
   rcases Gr.go_sub ws (G.step y) x hx with h | h
   ·rcases G.step_sub y x h with h | h
    ·exact .inl h
    ·exact .inr (by rw [h];exact List.mem_cons_self ..)
   ·exact .inr (List.mem_cons_of_mem _ h)
theorem TbWf.grant {T:Tb} (h:TbWf T):TbWf T.grant.2:=by
 have hg:GrWf T T.grantG:=GrWf.go T.waits _ (GrWf.start h) (fun x hx=>(h.waits x hx).1)
 have hl:=(Gr.go_len T.waits ⟨[],[],[],T⟩).2.1
 have hm:=h.many
 refine ⟨hg.wf.nodes,hg.wf.held,fun x hx => ?_,?_,hg.wf.last⟩
 ·rcases Gr.go_sub T.waits ⟨[],[],[],T⟩ x hx with h1 | h1
  ·cases h1
  ·obtain ⟨h2,h3⟩:=h.waits x h1
   refine ⟨h2,?_⟩
   show 1≤x.node∧x.node≤(T.grantG.T.nodes:Int)
   rw [hg.nodes]
   exact h3
 ·show T.grantG.left.length≤1000
  have:T.grantG.left.length≤([]:List Wq).length+T.waits.length:=hl
  simp at this
  omega
def recol (o:Nat→Nat) (d c:Nat):Nat→Nat:=fun k=>if o k=d+1 then c+1 else if o k=d∨o k=d+2 then 0 else o k
section
variable {o o':Nat→Nat} {c d:Nat} {w w':World} {t:Nat} {T:Tb} {hp:Nat→Nat} {A:Option Addr} {cap:Nat}
theorem OwnS.recolor {o2:Nat→Nat} {c2 size n:Nat} {e:TypeId} {v:Value} {xs:List Value} (h:OwnS o c w e size v n xs) (he:∀k,o k=c→o2 k=c2):OwnS o2 c2 w e size v n xs:=⟨h.1,fun g hg=>he g (h.2 g hg)⟩
theorem recol_same {k:Nat} (h:o k<d):recol o d c k=o k:=by
 unfold recol
 rw [if_neg (by omega),if_neg (by omega)]
theorem ImAt.recolor {o2:Nat→Nat} {c2 m:Nat} {L:List Lk} (h:ImAt o c w m L) (he:∀k,o k=c→o2 k=c2):ImAt o2 c2 w m L:=by
 obtain ⟨A,cap,h1,h2,h3⟩:=h
 exact ⟨A,cap,h1,he m h2,h3.recolor he⟩
def tabD (c d:Nat):Nat→Prop:=fun x=>tabC c x∨(d≤x∧x≤d+2)
theorem Step.recol (h:Step o (tabD c d) w o' w') (hd:∀k,k<w.heap.size→o k<d) (hf:Fut o w) (hd0:0<d):Step o (tabC c) w (recol o' d c) w':=by
 refine ⟨h.os,h.tape,h.output,h.size,fun k hk => ?_,fun k hk => ?_,fun k hk hc=>h.block k hk (fun e => ?_)⟩
 ·rw [recol_same (by rw [h.old k hk];exact hd k hk)]
  exact h.old k hk
 ·have h0:o k=0:=hf k (Nat.le_trans h.size hk)
  rw [recol_same (by rw [h.fut k hk,h0];exact hd0)]
  exact h.fut k hk
 ·rcases e with e | e
  ·exact hc e
  ·have:=hd k hk
   omega
theorem TbIn.left (h:TbIn o' c w' t T hp A cap) (hs:Step o (tabD c d) w o' w') (hd:∀k,k<w.heap.size→o k<d) (hf:Fut o w) (hcd:c+19≤d) {D:Option Addr} {cap2:Nat} {L:List Wq} (ho:OwnS o' (d+1) w' 164 5 (.slice D L.length cap2) L.length (wqcells L)) :
 TbIn (recol o' d c) c (w'.setCell ⟨t,18,none⟩ (.slice D L.length cap2)) t {T with waits:=L} hp D cap2∧Step o (tabC c) w (recol o' d c) (w'.setCell ⟨t,18,none⟩ (.slice D L.length cap2)):=by
 have hs1:Step o' (only c) w' o' (w'.setCell ⟨t,18,none⟩ (.slice D L.length cap2)):=(Step.refl o' (only c) w').setCell (p:=⟨t,18,none⟩) h.col _
 have hr:∀x,x<d→∀k,o' k=x→recol o' d c k=x:=fun x hx k hk=>by
  rw [recol_same (by omega)]
  exact hk
 refine ⟨⟨h.blk.set_ 18 _,hr c (by omega) t h.col,?_,fun i hi => ?_⟩,(hs.trans (hs1.mono (fun x hx => .inl (by unfold only at hx;unfold tabC;omega)))).recol hd hf (by omega)⟩
 ·refine (ho.step hs1 (by unfold only;omega)).recolor (fun k hk => ?_)
  unfold Go.Proofs.YtohgabdmmbngbaaGreatDoor.recol
  rw [if_pos hk]
 ·exact ((h.held i hi).step hs1 (by unfold only;omega)).recolor (hr _ (by omega))
end
end Go.Proofs.YtohgabdmmbngbaaGreatDoor
