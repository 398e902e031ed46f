import Derived.Test.YtohgabdmmbngbaaGreatDoorKLtabM
set_option linter.unusedVariables false
set_option linter.unusedSimpArgs false
namespace Go.Proofs.YtohgabdmmbngbaaGreatDoor
open Go.RowKit
theorem tkeeps_any (a b:Int) (w:World):Calls Tryz.prog 240 #[.int .i64 a, .int .i64 b] w fun e w'=>e = .returned (.int .i64 (keepsI a b))∧w'=w:=by
 by_cases h1:a=1
 ·have b1:(a == 1)=true:=by simp [h1]
  by_cases h2:b=2
  ·have b2:(b == 2)=true:=by simp [h2]
   have HF:=Lib.hid (show keepsI a b=1 from if_pos ⟨h1,h2⟩)
   clear h1 h2
   go_enter Tryz.func240,Tryz.ntmps240
   go_wp2_with fail
   go_ret
   exact ⟨by rw [HF.out];first | done | rfl,rfl⟩
  ·have b2:(b == 2)=false:=by simp [h2]
   have HF:=Lib.hid (show keepsI a b=0 from if_neg (fun h=>h2 h.2))
   clear h1 h2
   go_enter Tryz.func240,Tryz.ntmps240
   go_wp2_with fail
   go_ret
   exact ⟨by rw [HF.out];first | done | rfl,rfl⟩
 ·have b1:(a == 1)=false:=by simp [h1]
  have HF:=Lib.hid (show keepsI a b=0 from if_neg (fun h=>h1 h.1))
  clear h1
  go_enter Tryz.func240,Tryz.ntmps240
  go_wp2_with fail
  go_ret
  exact ⟨by rw [HF.out];first | done | rfl,rfl⟩
theorem keeps_le (a b:Int):0≤keepsI a b∧keepsI a b≤1:=by
 unfold keepsI
 split <;> omega
theorem WfB.rvk2 {M:List Lk} (h:WfB M) (K:Int) (ls:List Lk) (hl:∀p∈ls,p.sp.ok∧p.b≤4096):WfB (ls.foldl (Go.Proofs.YtohgabdmmbngbaaGreatDoor.rvk2 K) M) :=
 foldl_inv ls M h (fun b x hx hb=>by
  unfold Go.Proofs.YtohgabdmmbngbaaGreatDoor.rvk2
  split
  ·exact hb.clear (hl x hx).1
  ·exact hb)
theorem WfB.rvk1 {M told:List Lk} (h:WfB M) (ht:WfB told) (l:Lk) (ls:List Lk) (hl:∀p∈ls,p.sp.ok∧p.b≤4096):WfB (ls.foldl (Go.Proofs.YtohgabdmmbngbaaGreatDoor.rvk1 l told) M) :=
 foldl_inv ls M h (fun b x hx hb=>by
  unfold Go.Proofs.YtohgabdmmbngbaaGreatDoor.rvk1
  split
  ·exact hb
  ·exact (hb.set (hl x hx).1 (hl x hx).2 _).rvk2 _ _ (fun p hp=>part_ok ht hp))
theorem WfB.revoked {L told:List Lk} (h:WfB L) (ht:WfB told) (l:Lk):WfB (revokedL L l told):=wfb_nil.rvk1 ht l _ (fun _ hp=>part_ok h hp)
section
variable {o o' o2:Nat→Nat} {c c2 d:Nat} {w w':World} {t:Nat} {T:Tb} {hp:Nat→Nat} {A:Option Addr} {cap:Nat}
set_option maxRecDepth 100000 in
set_option maxHeartbeats 16000000 in
theorem trevoked_any (h:TbIn o c w t T hp A cap) (wf:TbWf T) (k:Nat) (hk16:k≤16) (l:Lk) {g:Nat} {M:List Lk} (hg:ImAt o2 c2 w g M) (hM:WfB M) :
 Calls Tryz.prog 213 #[.pointer (some ⟨t,0,none⟩), .int .i64 (k:Nat), .agg #[.int .i64 l.a, .int .i64 l.b, .int .i64 l.m], .pointer (some ⟨g,0,none⟩)] w fun e w'=>∃D cap',e = .returned (.slice D (revokedL (T.held k) l M).length cap')∧w'.ownsRow w.heap.size 47 3 (.slice D (revokedL (T.held k) l M).length cap') (revokedL (T.held k) l M).length (lkcells (revokedL (T.held k) l M))∧Below w.heap.size w w':=by
 obtain ⟨i0,hi,hz0,hz1,hz2⟩:=info_parts info_lkk
 have hk17:(k:Int)<17:=by omega
 have HT:=Lib.hid h
 have HG:=Lib.hid hg
 have HWM:=Lib.hid hM
 have HML:=Lib.hid hM.len
 have hBH:=(wf.held k).len
 have HWR:=Lib.hid ((wf.held k).revoked hM l)
 have HWN:=Lib.hid (show ∀(ls:List Lk) (i:Nat),(∀p∈ls,p.sp.ok∧p.b≤4096)→WfB ((ls.take i).foldl (rvk1 l M) []) from fun ls i hl=>wfb_nil.rvk1 hM l _ (fun p hp=>hl p (List.mem_of_mem_take hp)))
 have HPO:=Lib.hid (show ∀p∈partsL (T.held k) l.sp,p.sp.ok∧p.b≤4096 from fun p hp2=>part_ok (wf.held k) hp2)
 have HRV:=Lib.hid (show revokedL (T.held k) l M=(partsL (T.held k) l.sp).foldl (rvk1 l M) [] from rfl)
 have HK0:=Lib.hid (Keep.new (show Fut (fun _=>0) w from fun _ _=>rfl) 47 #[.int .i64 l.a, .int .i64 l.b, .int .i64 l.m])
 have HE0:=Lib.hid ((Env.start w).alloc (.cells #[.int .i64 l.a, .int .i64 l.b, .int .i64 l.m] 47))
 clear h hg hM wf
 obtain ⟨R,hR⟩:∃R,revokedL (T.held k) l M=R:=⟨_,rfl⟩
 rw [hR] at HRV HWR ⊢
 go_enter Tryz.func213,Tryz.ntmps213
 go_upto_region 1 with (fail)
 generalize w.alloc (.cells #[.int .i64 l.a, .int .i64 l.b, .int .i64 l.m] 47)=W0 at HK0 HE0 ⊢
 generalize hgl:w.heap.size=gl at HK0
 clear hgl
 obtain ⟨o1,hi1,hs1,_⟩:=ImAt.new (fun _=>0) W0 1
 have HI1:=Lib.hid hi1
 have HE1:=Lib.hid (HE0.out.step hs1 (fun h=>h))
 have HK1:=Lib.hid (HK0.out.step hs1 (fun h=>h))
 have HF1:=Lib.hid (Fut.step (fun _ _=>rfl) hs1)
 clear hi1 hs1
 go_wp2_with fail
 refine (inew_any _).mono ?_
 rintro e w1 ⟨rfl,rfl⟩
 generalize W0.alloc (.cells #[.slice none 0 0] 175)=W1 at HI1 HE1 HK1 HF1 ⊢
 generalize W0.heap.size=m at HI1 ⊢
 clear HE0 HK0 hR
 have HT1:=Lib.hid (HT.out.below_ HE1.out.low)
 obtain ⟨x0,x1,x2⟩:=HK1.out.1.three
 have ch:=HT1.out.ch hk16
 go_wp2_with fail
 have HCP:=Lib.hid (show Calls Tryz.prog 131 #[.pointer (some ⟨hp k,0,none⟩), .agg #[.int .i64 l.a, .int .i64 l.b]] W1.drew _ from iparts_any ((HT1.out.held k hk16).drew) (by omega) l.sp)
 have q1:W1.drew.cell? ⟨t,1+k,none⟩=some (.pointer (some ⟨hp k,0,none⟩)):=ch
 have q2:W1.drew.cell? ⟨gl,0,none⟩=some (.int .i64 l.a):=x0
 have q3:W1.drew.cell? ⟨gl,1,none⟩=some (.int .i64 l.b):=x1
 go_region_held3 (fun w'=>w'.cell? ⟨t,1+k,none⟩=some (.pointer (some ⟨hp k,0,none⟩))∧w'.cell? ⟨gl,0,none⟩=some (.int .i64 l.a)∧w'.cell? ⟨gl,1,none⟩=some (.int .i64 l.b))
  (first | exact ⟨q1,q2,q3⟩ | exact ⟨g1,g2,g3⟩ | go_keep)
  ((go_at_call 131;((with_reducible refine HCP.out.mono ?_);rintro e w3 ⟨D3,cap3,rfl,hr3,hb3⟩;have HR3:=Lib.hid hr3;have HB3:=Lib.hid (below_of_drew hb3);have g1:=(HT1.out.drew.below_ hb3).ch hk16;obtain ⟨g2,g3,g4⟩:=(HK1.out.drew.below_ hb3).1.three;clear hr3 hb3)))
 obtain ⟨P,hP⟩:∃P,partsL (T.held k) l.sp=P:=⟨_,rfl⟩
 have hPL:(partsL (T.held k) l.sp).length≤4096:=Nat.le_trans (parts_len _ _) hBH
 rw [hP] at HR3 hPL HPO HRV ⊢
 have HWP:=Lib.hid (fun i=>HWN.out P i HPO.out)
 have hPI:(P.length:Int)≤4096:=by omega
 have HRW:=Lib.hid (show OwnS (band o1 W1.heap.size w3.heap.size 2) 2 w3 136 3 (.slice D3 P.length cap3) P.length (lkcells P) from own_bandR (o:=o1) (c:=2) HR3.out)
 have HI3:=Lib.hid (HI1.out.band HB3.out 2)
 have HE3:=Lib.hid (HE1.out.band HB3.out 2)
 have HK3:=Lib.hid (HK1.out.band HB3.out 2)
 have HF3:=Lib.hid (HF1.out.band HB3.out 2)
 clear hP ch x0 x1 x2 HR3 HB3 HT1 HI1 HE1 HK1 HF1 q1 q2 q3 g1 g2 g3 g4 HCP
 generalize band o1 W1.heap.size w3.heap.size 2=o3 at HRW HI3 HE3 HK3 HF3
 go_wp2_with fail
 go_loopg [29] P.length (fun n t29 wr=>∃(i:Nat) (oL:Nat→Nat),n+i=P.length∧t29 = .int .i64 (i:Nat)∧ImAt oL 1 wr m ((P.take i).foldl (rvk1 l M) [])∧OwnS oL 2 wr 136 3 (.slice D3 P.length cap3) P.length (lkcells P)∧Keep oL wr gl 47 #[.int .i64 l.a, .int .i64 l.b, .int .i64 l.m]∧Env oL w wr∧Fut oL wr)
 case atStart=>exact ⟨0,o3,by omega,rfl,HI3.out,HRW.out,HK3.out,HE3.out,HF3.out⟩
 case round =>
  obtain ⟨i,oL,hni,rfl,him,hr,hkk,he,hf⟩:=hrel
  have HNI:=Lib.hid hni
  have HI:=Lib.hid him
  have HR:=Lib.hid hr
  have HK:=Lib.hid hkk
  have HE:=Lib.hid he
  have HF:=Lib.hid hf
  clear hni him hr hkk he hf HI3 HRW HK3 HE3 HF3
  by_cases hlt:i<P.length
  ·have hltI:(i:Int)<(P.length:Int):=by omega
   obtain ⟨p,hp2⟩:∃p,P[i]? = some p:=⟨_,List.getElem?_eq_getElem hlt⟩
   have HNX:=Lib.hid (foldl_next (f:=rvk1 l M) (b := []) hp2)
   have HPP:=Lib.hid (HPO.out p (List.mem_of_getElem? hp2))
   have HWI:=Lib.hid (HWP.out i)
   obtain ⟨ad,rfl,x0,x1,x2⟩:=(Reads.of_own HR.out.1).lock hp2
   have HQ:=Lib.hid (Keep.new HF.out 136 #[.int .i64 p.a, .int .i64 p.b, .int .i64 p.m])
   have HI4:=Lib.hid (HI.out.alloc (.cells #[.int .i64 p.a, .int .i64 p.b, .int .i64 p.m] 136))
   have HR4:=Lib.hid (HR.out.alloc (.cells #[.int .i64 p.a, .int .i64 p.b, .int .i64 p.m] 136))
   have HK4:=Lib.hid (HK.out.alloc (.cells #[.int .i64 p.a, .int .i64 p.b, .int .i64 p.m] 136))
   have HE4:=Lib.hid (HE.out.alloc (.cells #[.int .i64 p.a, .int .i64 p.b, .int .i64 p.m] 136))
   have HF4:=Lib.hid (HF.out.alloc (.cells #[.int .i64 p.a, .int .i64 p.b, .int .i64 p.m] 136))
   clear hp2 HI HR HK HE HF
   generalize (P.take i).foldl (rvk1 l M) []=N at HNX HI4 HWI ⊢
   go_upto_region 5 with (fail)
   generalize wr.alloc (.cells #[.int .i64 p.a, .int .i64 p.b, .int .i64 p.m] 136)=W4 at HQ HI4 HR4 HK4 HE4 HF4 ⊢
   generalize wr.heap.size=gp at HQ ⊢
   clear x0 x1 x2
   obtain ⟨y0,y1,y2⟩:=HQ.out.1.three
   obtain ⟨z0,z1,z2⟩:=HK4.out.1.three
   go_wp2_with fail
   refine (mdfit_any p.m l.m W4).mono ?_
   rintro e w5 ⟨rfl,rfl⟩
   obtain ⟨v,hv⟩:∃v,fitB p.m l.m=v:=⟨_,rfl⟩
   rw [hv]
   cases v with
   | true =>
     have HN:=Lib.hid (HNX.out.trans (show rvk1 l M N p=N from if_pos hv))
     clear hv
     go_wp2_with fail
     go_roundg (P.length - (i+1))
     case measure=>have:=HNI.out;omega
     case rel=>exact ⟨i+1,oL,by omega,by go_num,by rw [HN.out];exact HI4.out,HR4.out,HK4.out,HE4.out,HF4.out⟩
   | false =>
     have HNY:=Lib.hid (HNX.out.trans (show rvk1 l M N p=(partsL M p.sp).foldl (rvk2 (keepsI l.m p.m)) (setL N p.sp (keepsI l.m p.m)) from if_neg (by rw [hv];exact Bool.false_ne_true)))
     obtain ⟨hK0,hK1⟩:=keeps_le l.m p.m
     clear hv HNX
     go_wp2_with fail
     refine (tkeeps_any l.m p.m W4).mono ?_
     rintro e w6 ⟨rfl,rfl⟩
     generalize keepsI l.m p.m=K at HNY hK0 hK1 ⊢
     go_wp2_with fail
     refine (iset_any HI4.out HWI.out.wf (by have:=HWI.out.len;omega) p.sp HPP.out.1 K).mono ?_
     rintro e w7 ⟨rfl,o7,hi7,hs7⟩
     have HI7:=Lib.hid hi7
     have HW7:=Lib.hid (HWI.out.set HPP.out.1 HPP.out.2 K)
     have HR7:=Lib.hid (HR4.out.step hs7 (by unfold only;omega))
     have HK7:=Lib.hid (HK4.out.step hs7 (by unfold only;omega))
     have HQ7:=Lib.hid (HQ.out.step hs7 (by unfold only;omega))
     have HE7:=Lib.hid (HE4.out.step hs7 (by unfold only;omega))
     have HF7:=Lib.hid (HF4.out.step hs7)
     generalize setL N p.sp K=N1 at HI7 HW7 HNY
     clear hi7 hs7 HI4 HR4 HK4 HE4 HF4 HQ y0 y1 y2 z0 z1 z2
     obtain ⟨y0,y1,y2⟩:=HQ7.out.1.three
     go_wp2_with fail
     refine (iparts_any (HG.out.env HE7.out) (by have:=HML.out;omega) p.sp).mono ?_
     rintro e w8 ⟨D8,cap8,rfl,hr8,hb8⟩
     have HRQ:=Lib.hid (own_bandR (o:=o7) (c:=3) hr8)
     have HI8:=Lib.hid (HI7.out.band hb8 3)
     have HR8:=Lib.hid (HR7.out.band hb8 3)
     have HK8:=Lib.hid (HK7.out.band hb8 3)
     have HE8:=Lib.hid (HE7.out.band hb8 3)
     have HF8:=Lib.hid (HF7.out.band hb8 3)
     generalize band o7 _ w8.heap.size 3=o8 at HRQ HI8 HR8 HK8 HE8 HF8
     have hQL:(partsL M p.sp).length≤4096:=Nat.le_trans (parts_len _ _) HML.out
     have HQO:=Lib.hid (show ∀q∈partsL M p.sp,q.sp.ok∧q.b≤4096 from fun q hq=>part_ok HWM.out hq)
     obtain ⟨Q,hQ⟩:∃Q,partsL M p.sp=Q:=⟨_,rfl⟩
     rw [hQ] at HRQ hQL HQO HNY ⊢
     have hQI:(Q.length:Int)≤4096:=by omega
     clear hr8 hb8 hQ HI7 HR7 HK7 HE7 HF7 HQ7 y0 y1 y2
     go_wp2_with fail
     go_loopg [53] Q.length (fun n t53 wi=>∃(j:Nat) (oM:Nat→Nat),n+j=Q.length∧t53 = .int .i64 (j:Nat)∧ImAt oM 1 wi m ((Q.take j).foldl (rvk2 K) N1)∧WfB ((Q.take j).foldl (rvk2 K) N1)∧OwnS oM 3 wi 136 3 (.slice D8 Q.length cap8) Q.length (lkcells Q)∧OwnS oM 2 wi 136 3 (.slice (some ad) P.length cap3) P.length (lkcells P)∧Keep oM wi gl 47 #[.int .i64 l.a, .int .i64 l.b, .int .i64 l.m]∧Env oM w wi∧Fut oM wi)
     case atStart=>exact ⟨0,o8,by omega,rfl,HI8.out,HW7.out,HRQ.out,HR8.out,HK8.out,HE8.out,HF8.out⟩
     case round =>
      obtain ⟨j,oM,hnj,rfl,him,hw,hrq,hr,hkk,he,hf⟩:=hrel
      have HNJ:=Lib.hid hnj
      have HI:=Lib.hid him
      have HWJ:=Lib.hid hw
      have HRQJ:=Lib.hid hrq
      have HR:=Lib.hid hr
      have HK:=Lib.hid hkk
      have HE:=Lib.hid he
      have HF:=Lib.hid hf
      clear hnj him hw hrq hr hkk he hf HI8 HW7 HRQ HR8 HK8 HE8 HF8
      by_cases hlt2:j<Q.length
      ·have hlt2I:(j:Int)<(Q.length:Int):=by omega
       obtain ⟨q,hq⟩:∃q,Q[j]? = some q:=⟨_,List.getElem?_eq_getElem hlt2⟩
       have HNZ:=Lib.hid (foldl_next (f:=rvk2 K) (b:=N1) hq)
       have HQQ:=Lib.hid (HQO.out q (List.mem_of_getElem? hq))
       obtain ⟨bd,rfl,x0,x1,x2⟩:=(Reads.of_own HRQJ.out.1).lock hq
       have HQK:=Lib.hid (Keep.new HF.out 136 #[.int .i64 q.a, .int .i64 q.b, .int .i64 q.m])
       have HI5:=Lib.hid (HI.out.alloc (.cells #[.int .i64 q.a, .int .i64 q.b, .int .i64 q.m] 136))
       have HRQ5:=Lib.hid (HRQJ.out.alloc (.cells #[.int .i64 q.a, .int .i64 q.b, .int .i64 q.m] 136))
       have HR5:=Lib.hid (HR.out.alloc (.cells #[.int .i64 q.a, .int .i64 q.b, .int .i64 q.m] 136))
       have HK5:=Lib.hid (HK.out.alloc (.cells #[.int .i64 q.a, .int .i64 q.b, .int .i64 q.m] 136))
       have HE5:=Lib.hid (HE.out.alloc (.cells #[.int .i64 q.a, .int .i64 q.b, .int .i64 q.m] 136))
       have HF5:=Lib.hid (HF.out.alloc (.cells #[.int .i64 q.a, .int .i64 q.b, .int .i64 q.m] 136))
       clear hq HI HRQJ HR HK HE HF
       generalize (Q.take j).foldl (rvk2 K) N1=NJ at HNZ HI5 HWJ ⊢
       go_upto_region 11 with (fail)
       generalize wr.alloc (.cells #[.int .i64 q.a, .int .i64 q.b, .int .i64 q.m] 136)=W5 at HQK HI5 HRQ5 HR5 HK5 HE5 HF5 ⊢
       generalize wr.heap.size=gq at HQK ⊢
       clear x0 x1 x2
       obtain ⟨y0,y1,y2⟩:=HQK.out.1.three
       by_cases hle:q.m≤K+1
       ·have HN:=Lib.hid (HNZ.out.trans (show rvk2 K NJ q=clearL NJ q.sp from if_pos hle))
        go_wp2_with fail
        refine (iclear_any HI5.out HWJ.out.wf (by have:=HWJ.out.len;omega) q.sp HQQ.out.1).mono ?_
        rintro e w9 ⟨rfl,o9,hi9,hs9⟩
        have HI9:=Lib.hid hi9
        have HRQ9:=Lib.hid (HRQ5.out.step hs9 (by unfold only;omega))
        have HR9:=Lib.hid (HR5.out.step hs9 (by unfold only;omega))
        have HK9:=Lib.hid (HK5.out.step hs9 (by unfold only;omega))
        have HE9:=Lib.hid (HE5.out.step hs9 (by unfold only;omega))
        have HF9:=Lib.hid (HF5.out.step hs9)
        clear hi9 hs9 y0 y1 y2
        go_wp2_with fail
        go_roundg (Q.length - (j+1))
        case measure=>have:=HNJ.out;omega
        case rel=>exact ⟨j+1,o9,by omega,by go_num,by rw [HN.out];exact HI9.out,by rw [HN.out];exact HWJ.out.clear HQQ.out.1,HRQ9.out,HR9.out,HK9.out,HE9.out,HF9.out⟩
       ·have HN:=Lib.hid (HNZ.out.trans (show rvk2 K NJ q=NJ from if_neg hle))
        go_wp2_with fail
        go_roundg (Q.length - (j+1))
        case measure=>have:=HNJ.out;omega
        case rel=>exact ⟨j+1,oM,by omega,by go_num,by rw [HN.out];exact HI5.out,by rw [HN.out];exact HWJ.out,HRQ5.out,HR5.out,HK5.out,HE5.out,HF5.out⟩
      ·have hlt2I:¬(j:Int)<(Q.length:Int):=by omega
       obtain rfl:j=Q.length:=by have:=HNJ.out;omega
       have HYY:=Lib.hid (show (Q.take Q.length).foldl (rvk2 K) N1=(P.take (i+1)).foldl (rvk1 l M) [] by rw [List.take_length,HNY.out])
       rw [HYY.out] at HI
       go_wp2_with fail
       go_roundg (P.length - (i+1))
       case measure=>have:=HNI.out;omega
       case rel=>exact ⟨i+1,oM,by omega,by go_num,HI.out,HR.out,HK.out,HE.out,HF.out⟩
  ·have hltI:¬(i:Int)<(P.length:Int):=by omega
   obtain rfl:i=P.length:=by have:=HNI.out;omega
   have HIR:=Lib.hid (show ImAt oL 1 wr m R by
    have:=HI.out
    rw [List.take_length,←HRV.out] at this
    exact this)
   have hRL:=HWR.out.len
   have hRI:(R.length:Int)≤4096:=by omega
   clear HI HR HK HF
   go_wp2_with fail
   refine (iall_any HIR.out (by omega)).mono ?_
   rintro e w9 ⟨A9,cap9,rfl,hr9,hb9⟩
   have HR9:=Lib.hid (Reads.of_own (ownsRow_less hr9 (Nat.zero_le _)))
   have HE9:=Lib.hid ((Env.start w).below_ (HE.out.low.trans (hb9.mono HE.out.low.size)))
   clear hr9 hb9 HE
   go_wp2_with fail
   go_loopg [15,71] R.length (fun n t15 t71 wr=>∃(i:Nat) (D:Option Addr) (cap:Nat) (oL:Nat→Nat),n+i=R.length∧t71 = .int .i64 (i:Nat)∧t15 = .slice D i cap∧OwnS oL 1 wr 47 3 (.slice D i cap) i (lkcells (R.take i))∧Env oL w wr∧Env oL w9 wr∧Fut oL wr)
   case atStart=>exact ⟨0,none,0,fun _=>0,by omega,rfl,rfl,OwnS.nil _ _ _ _ _,HE9.out,Env.start w9,fun _ _=>rfl⟩
   case round =>
    obtain ⟨i,D,cap,oL,hni,rfl,rfl,ho,he,he1,hu⟩:=hrel
    have HNI:=Lib.hid hni
    have HO:=Lib.hid ho
    have HE:=Lib.hid he
    have HE1:=Lib.hid he1
    have HU:=Lib.hid hu
    clear hni ho he he1 hu
    by_cases hlt:i<R.length
    ·have hltI:(i:Int)<(R.length:Int):=by omega
     obtain ⟨p,hp⟩:∃p,R[i]? = some p:=⟨_,List.getElem?_eq_getElem hlt⟩
     have HTT:=Lib.hid (show lkcells (R.take (i+1))=lkcells (R.take i) ++ [.int .i64 p.a, .int .i64 p.b, .int .i64 p.m] by
      rw [List.take_add_one,hp,lkcells_app]
      rfl)
     obtain ⟨ad,rfl,x0,x1,x2⟩:=(HR9.out.low (by omega) HE1.out.low).lock hp
     have HP:=Lib.hid (Blk.new wr 136 #[.int .i64 p.a, .int .i64 p.b, .int .i64 p.m])
     have HO1:=Lib.hid (HO.out.alloc (.cells #[.int .i64 p.a, .int .i64 p.b, .int .i64 p.m] 136))
     have HEa:=Lib.hid (HE.out.alloc (.cells #[.int .i64 p.a, .int .i64 p.b, .int .i64 p.m] 136))
     have HEb:=Lib.hid (HE1.out.alloc (.cells #[.int .i64 p.a, .int .i64 p.b, .int .i64 p.m] 136))
     have HU1:=Lib.hid (HU.out.alloc (.cells #[.int .i64 p.a, .int .i64 p.b, .int .i64 p.m] 136))
     clear hp HO HE HE1 HU
     go_upto_region 19 with (fail)
     generalize wr.alloc (.cells #[.int .i64 p.a, .int .i64 p.b, .int .i64 p.m] 136)=W1 at HP HO1 HEa HEb HU1 ⊢
     generalize wr.heap.size=X at HP ⊢
     clear x0 x1 x2
     obtain ⟨y0,y1,y2⟩:=HP.out.three
     have HO5:=Lib.hid (HO1.out.alloc (.cells #[.int .i64 p.a, .int .i64 p.b, .int .i64 p.m] 47))
     go_wp2_with (at_builtin;refine wpList_append_S _ rfl (.tmp 75) (.tmp 81) 36 rfl 47 i0 _ 3 24 Tryz.underlying36 hi hz0 hz1 hz2 rfl (by omega) (.slice D i cap) i (lkcells (R.take i)) rfl HO5.out (some ⟨W1.heap.size,0,none⟩) 1 1 [.int .i64 p.a, .int .i64 p.b, .int .i64 p.m] rfl (Reads.newAt W1 47 3 1 _ #[.int .i64 p.a, .int .i64 p.b, .int .i64 p.m] _ rfl rfl rfl) (by simp [Value.oneCell']) (by unfold maxLen;omega) (by omega) ?_;intro v7 w7 hown7 hst7 hgr7 hat7;obtain ⟨A7,cap7,rfl,_,_⟩:=own_form' hown7;have HW7:=Lib.hid hown7;have HS7:=Lib.hid (((Step.refl oL (fun _=>False) W1).alloc (.cells #[.int .i64 p.a, .int .i64 p.b, .int .i64 p.m] 47)).mono (fun _ h=>h.elim:∀y,False→only 1 y) |>.trans hst7);clear hown7 hst7 hgr7 hat7)
     go_roundg (R.length - (i+1))
     case measure=>have:=HNI.out;omega
     case rel=>exact ⟨i+1,A7,cap7,_,by omega,by go_num,rfl,by rw [HTT.out];exact HW7.out,HEa.out.step HS7.out (by unfold only;omega),HEb.out.step HS7.out (by unfold only;omega),HU1.out.step HS7.out⟩
    ·have hltI:¬(i:Int)<(R.length:Int):=by omega
     obtain rfl:i=R.length:=by have:=HNI.out;omega
     have HTT:=Lib.hid (show R.take R.length=R from List.take_length)
     go_wp2_with fail
     go_ret
     exact ⟨D,cap,rfl,own_new HE.out (by have:=HO.out;rw [HTT.out] at this;exact this) (by decide),HE.out.low⟩
end
def Low1 (M:List Lk):Prop:=∀x v,AtP M x v→0≤v∧v≤1
theorem Low1.mem {M:List Lk} (h:Low1 M) (hw:WfB M) {p:Lk} (hp:p∈M):0≤p.m∧p.m≤1:=by
 have ho:0≤p.a∧p.a<p.b:=hw.wf.ok p hp
 exact h p.a p.m ⟨p,hp,Int.le_refl _,ho.2,rfl⟩
theorem Low1.set {M:List Lk} (h:Low1 M) (hw:WfB M) {s:Sp} (hs:s.ok) {v:Int} (hv:0≤v∧v≤1):Low1 (setL M s v):=fun x u hx=>by
 rcases (atp_set hw.wf hs).1 hx with h1 | h1
 ·rw [←h1.2.2]
  exact hv
 ·exact h x u h1.1
theorem Low1.clear {M:List Lk} (h:Low1 M) (hw:WfB M) {s:Sp} (hs:s.ok):Low1 (clearL M s):=fun x u hx=>h x u ((atp_clear hw.wf hs).1 hx).1
theorem low_rvk2 {M:List Lk} (K:Int) (ls:List Lk) (hl:∀p∈ls,p.sp.ok∧p.b≤4096) (h:WfB M∧Low1 M):WfB (ls.foldl (rvk2 K) M)∧Low1 (ls.foldl (rvk2 K) M) :=
 foldl_inv (P:=fun M=>WfB M∧Low1 M) (f:=rvk2 K) ls M h (fun b x hx hb=>by
  unfold rvk2
  split
  ·exact ⟨hb.1.clear (hl x hx).1,hb.2.clear hb.1 (hl x hx).1⟩
  ·exact hb)
theorem low_rvk1 {M told:List Lk} (ht:WfB told) (l:Lk) (ls:List Lk) (hl:∀p∈ls,p.sp.ok∧p.b≤4096) (h:WfB M∧Low1 M):WfB (ls.foldl (rvk1 l told) M)∧Low1 (ls.foldl (rvk1 l told) M) :=
 foldl_inv (P:=fun M=>WfB M∧Low1 M) (f:=rvk1 l told) ls M h (fun b x hx hb=>by
  unfold rvk1
  split
  ·exact hb
  ·exact low_rvk2 _ _ (fun p hp=>part_ok ht hp) ⟨hb.1.set (hl x hx).1 (hl x hx).2 _,hb.2.set hb.1 (hl x hx).1 (keeps_le _ _)⟩)
theorem low_revoked {L told:List Lk} (h:WfB L) (ht:WfB told) (l:Lk):WfB (revokedL L l told)∧Low1 (revokedL L l told) :=
 low_rvk1 ht l _ (fun _ hp=>part_ok h hp) ⟨wfb_nil,fun _ _ hx=>absurd hx atp_nil⟩
structure RvWf (b:Nat) (R:Rv):Prop where
 told:∀i,WfB (R.told i)
 len:R.out.length≤b
theorem RvWf.start : RvWf 0 ⟨[],fun _ => []⟩:=⟨fun _=>wfb_nil,Nat.le_refl _⟩
theorem RvWf.more {b c:Nat} {R:Rv} (h:RvWf b R) (hbc:b≤c):RvWf c R:=⟨h.told,Nat.le_trans h.len hbc⟩
theorem RvWf.add {b:Nat} {R:Rv} (h:RvWf b R) (node:Nat) {l:Lk} (hs:l.sp.ok) (hb:l.b≤4096):RvWf (b+1) (Rv.add node R l):=by
 refine ⟨fun i => ?_,?_⟩
 ·show WfB (if i=node then setL (R.told node) l.sp (l.m+1) else R.told i)
  split
  ·exact (h.told node).set hs hb _
  ·exact h.told i
 ·show (R.out ++ [((node:Int),l)]).length≤b+1
  have:=h.len
  simp
  exact this
theorem RvWf.adds {node:Nat}:∀(ls:List Lk) (b:Nat) (R:Rv),RvWf b R→(∀p∈ls,p.sp.ok∧p.b≤4096)→RvWf (b+ls.length) (ls.foldl (Rv.add node) R)
 | [],_,_,h,_=>h
 | l :: ls,b,R,h,hl=>by
   have h1:=RvWf.adds (node:=node) ls (b+1) (Rv.add node R l) (h.add node (hl l (List.mem_cons_self ..)).1 (hl l (List.mem_cons_self ..)).2) (fun p hp=>hl p (List.mem_cons_of_mem _ hp))
   exact h1.more (by rw [List.length_cons];omega)
theorem WfB.okb {M:List Lk} (h:WfB M):∀p∈M,p.sp.ok∧p.b≤4096:=fun p hp=>⟨h.wf.ok p hp,h.b_le hp⟩
theorem RvWf.node {b:Nat} {R:Rv} (h:RvWf b R) {T:Tb} (hT:TbWf T) (q:Wq) (k:Nat):RvWf (b+4096) (Rv.node T q R k):=by
 unfold Rv.node
 split
 ·exact h.more (by omega)
 ·have hw:=(hT.held k).revoked (h.told k) q.l
  exact (RvWf.adds _ _ _ h hw.okb).more (by have:=hw.len;omega)
theorem RvWf.nodes {T:Tb} (hT:TbWf T) (q:Wq) {R:Rv}:∀(n b:Nat),RvWf b R→RvWf (b+4096*n) ((List.range n).foldl (fun R k=>Rv.node T q R (k+1)) R)
 | 0,b,h=>h
 | n+1,b,h=>by
   rw [List.range_succ,List.foldl_append]
   exact ((RvWf.nodes hT q n b h).node hT q (n+1)).more (by omega)
theorem RvWf.waits {T:Tb} (hT:TbWf T):∀(ws:List Wq) (b:Nat) (R:Rv),RvWf b R→RvWf (b+65536*ws.length) (ws.foldl (Rv.wait T) R)
 | [],_,_,h=>h
 | q :: ws,b,R,h=>by
   have h1:RvWf (b+65536) (Rv.wait T R q):=(RvWf.nodes hT q T.nodes b h).more (by have:=hT.nodes;omega)
   exact (RvWf.waits hT ws _ _ h1).more (by rw [List.length_cons];omega)
def Rcells (x:Int×Lk):List Value := [.int .i64 x.1, .int .i64 x.2.a, .int .i64 x.2.b, .int .i64 x.2.m]
def rvcells (l:List (Int×Lk)):List Value:=l.flatMap Rcells
theorem rvcells_app (l m:List (Int×Lk)):rvcells (l++m)=rvcells l++rvcells m:=by simp [rvcells]
theorem info_rv : (Tryz.prog.info? 227).map (fun i=>(i.zero,i.size,i.bytes))=some (some (.agg #[.int .i64 0, .int .i64 0, .int .i64 0, .int .i64 0]),4,32):=by kernel_rfl
def arr17 (f:Nat→Value):Array Value :=
 #[f 0,f 1,f 2,f 3,f 4,f 5,f 6,f 7,f 8,f 9,f 10,f 11,f 12,f 13,f 14,f 15,f 16]
theorem arr17_set (f:Nat→Value) (k m:Nat) (hk:k<17):(arr17 f).setIfInBounds k (ptrV m)=arr17 (fun j=>if j=k then ptrV m else f j):=by
 rcases k with _ | _ | _ | _ | _ | _ | _ | _ | _ | _ | _ | _ | _ | _ | _ | _ | _ | k
 all_goals first | rfl | omega
theorem arr17_cell (f:Nat→Value) {i:Nat} (hi:i<17):(arr17 f)[i]? = some (f i):=by
 rcases i with _ | _ | _ | _ | _ | _ | _ | _ | _ | _ | _ | _ | _ | _ | _ | _ | _ | i
 all_goals first | rfl | omega
section
variable {o o' o2:Nat→Nat} {c c2 d:Nat} {C:Nat→Prop} {w w' w0:World} {t g:Nat} {T:Tb} {hp tp:Nat→Nat} {A D:Option Addr} {cap:Nat} {R:Rv}
structure ArrIn (o:Nat→Nat) (w:World) (g i:Nat) (tp:Nat→Nat):Prop where
 blk:Blk w g 116 (arr17 (newF tp i))
 col:o g=1
 held:∀j,j<i→ImAt o (2+j) w (tp j) []
theorem ArrIn.next {i m:Nat} {o1:Nat→Nat} {w1:World} (h:ArrIn o w g i tp) (hi:i<17) (hm:ImAt o1 (2+i) w1 m []) (hs:Step o (fun _=>False) w o1 w1) :
 ArrIn o1 (w1.setCell ⟨g,i,none⟩ (.pointer (some ⟨m,0,none⟩))) g (i+1) (fun j=>if j=i then m else tp j)∧Step o (only 1) w o1 (w1.setCell ⟨g,i,none⟩ (.pointer (some ⟨m,0,none⟩))):=by
 have hb:=h.blk.step hs (fun h=>h)
 have ht1:o1 g=1:=(hs.old g h.blk.lt).trans h.col
 have hs3:Step o1 (only 1) w1 o1 (w1.setCell ⟨g,i,none⟩ (.pointer (some ⟨m,0,none⟩))):=(Step.refl o1 (only 1) w1).setCell (p:=⟨g,i,none⟩) ht1 _
 refine ⟨⟨?_,ht1,fun j hj => ?_⟩,(hs.mono (fun x h=>h.elim)).trans hs3⟩
 ·rw [←newF_next,←arr17_set _ i m hi]
  exact hb.set_ i _
 ·show ImAt o1 (2+j) _ (if j=i then m else tp j) []
  by_cases hji:j=i
  ·subst hji
   rw [if_pos rfl]
   exact hm.step hs3 (by unfold only;omega)
  ·rw [if_neg hji]
   exact ((h.held j (by omega)).step hs (fun h=>h)).step hs3 (by unfold only;omega)
structure RvIn (o:Nat→Nat) (w:World) (g:Nat) (R:Rv) (tp:Nat→Nat) (D:Option Addr) (cap:Nat):Prop where
 blk:Blk w g 116 (arr17 (newF tp 17))
 col:o g=1
 held:∀i,i≤16→ImAt o (2+i) w (tp i) (R.told i)
 out:OwnS o 20 w 227 4 (.slice D R.out.length cap) R.out.length (rvcells R.out)
theorem RvIn.start (h:ArrIn o w g 17 tp):RvIn o w g ⟨[],fun _ => []⟩ tp none 0:=⟨h.blk,h.col,fun i hi=>h.held i (by omega),OwnS.nil _ _ _ _ _⟩
theorem RvIn.step (h:RvIn o w g R tp D cap) (hs:Step o C w o' w') (hc:∀x,1≤x→x≤20→¬C x):RvIn o' w' g R tp D cap :=
 ⟨h.blk.step hs (by rw [h.col];exact hc 1 (by omega) (by omega)),(hs.old g h.blk.lt).trans h.col,fun i hi=>(h.held i hi).step hs (hc _ (by omega) (by omega)),h.out.step hs (hc 20 (by omega) (by omega))⟩
theorem RvIn.alloc (h:RvIn o w g R tp D cap) (x:Obj):RvIn o (w.alloc x) g R tp D cap:=⟨h.blk.alloc x,h.col,fun i hi=>(h.held i hi).alloc x,h.out.alloc x⟩
theorem RvIn.drew (h:RvIn o w g R tp D cap):RvIn o w.drew g R tp D cap:=⟨h.blk,h.col,h.held,h.out⟩
theorem RvIn.band (h:RvIn o w g R tp D cap) (hb:Below w.heap.size w w') (d:Nat):RvIn (Go.Proofs.YtohgabdmmbngbaaGreatDoor.band o w.heap.size w'.heap.size d) w' g R tp D cap :=
 h.step (Step.of_below_band o (fun _=>False) d hb) (fun _ _ _ h=>h)
theorem RvIn.cell (h:RvIn o w g R tp D cap) {i:Nat} (hi:i≤16):w.cell? ⟨g,i,none⟩=some (.pointer (some ⟨tp i,0,none⟩)):=by
 refine (h.blk.cell i).trans ((arr17_cell _ (by omega)).trans ?_)
 unfold newF
 rw [if_pos (by omega)]
 rfl
theorem RvIn.add (h:RvIn o w g R tp D cap) {k:Nat} {l:Lk} {D2:Option Addr} {cap2:Nat} {o1 o2:Nat→Nat} {w1 w2:World} (hs1:Step o (only 20) w o1 w1) (ho:OwnS o1 20 w1 227 4 (.slice D2 (R.out.length+1) cap2) (R.out.length+1) (rvcells R.out ++ [.int .i64 k, .int .i64 l.a, .int .i64 l.b, .int .i64 l.m])) (hk:k≤16)
 (hs2:Step o1 (only (2+k)) w1 o2 w2) (hm:ImAt o2 (2+k) w2 (tp k) (setL (R.told k) l.sp (l.m+1))):RvIn o2 w2 g (Rv.add k R l) tp D2 cap2:=by
 have hb1:=h.blk.step hs1 (by rw [h.col];unfold only;omega)
 have hc1:o1 g=1:=(hs1.old g h.blk.lt).trans h.col
 refine ⟨hb1.step hs2 (by rw [hc1];unfold only;omega),(hs2.old g hb1.lt).trans hc1,fun i hi => ?_,?_⟩
 ·show ImAt o2 (2+i) w2 (tp i) (if i=k then setL (R.told k) l.sp (l.m+1) else R.told i)
  by_cases hik:i=k
  ·subst hik
   rw [if_pos rfl]
   exact hm
  ·rw [if_neg hik]
   exact ((h.held i hi).step hs1 (by unfold only;omega)).step hs2 (by unfold only;omega)
 ·have e:(Rv.add k R l).out.length=R.out.length+1:=by
   show (R.out ++ [((k:Int),l)]).length=_
   simp
  rw [e]
  show OwnS o2 20 w2 227 4 _ _ (rvcells (R.out ++ [((k:Int),l)]))
  rw [rvcells_app]
  exact ho.step hs2 (by unfold only;omega)
end
theorem wait_next {T:Tb} {q:Wq} {R:Rv} {k:Nat}:(List.range (k+1)).foldl (fun R k=>Rv.node T q R (k+1)) R=Rv.node T q ((List.range k).foldl (fun R k=>Rv.node T q R (k+1)) R) (k+1):=by
 rw [List.range_succ,List.foldl_append]
 rfl
section
variable {o o' o2:Nat→Nat} {c c2 d:Nat} {w w':World} {t:Nat} {T:Tb} {hp:Nat→Nat} {A:Option Addr} {cap:Nat}
def nodeF (T:Tb) (q:Wq):Rv→Nat→Rv:=fun R k=>Rv.node T q R (k+1)
theorem wait_eq (T:Tb) (R:Rv) (q:Wq):Rv.wait T R q=(List.range T.nodes).foldl (nodeF T q) R:=rfl
theorem node_next (T:Tb) (q:Wq) (R:Rv) (k:Nat):(List.range (k+1)).foldl (nodeF T q) R=Rv.node T q ((List.range k).foldl (nodeF T q) R) (k+1):=wait_next
set_option maxRecDepth 100000 in
set_option maxHeartbeats 16000000 in
theorem trevokes_any (h:TbIn o c w t T hp A cap) (wf:TbWf T) :
 Calls Tryz.prog 168 #[.pointer (some ⟨t,0,none⟩)] w fun e w'=>∃D cap',e = .returned (.slice D T.revokes.length cap')∧w'.ownsRow w.heap.size 227 4 (.slice D T.revokes.length cap') T.revokes.length (rvcells T.revokes)∧Below w.heap.size w w':=by
 obtain ⟨i0,hi,hz0,hz1,hz2⟩:=info_parts info_rv
 have HT:=Lib.hid h
 have HW:=Lib.hid wf
 have hwl:=wf.many
 have hnn:=wf.nodes
 have hwI:(T.waits.length:Int)≤1000:=by omega
 have hnI:(T.nodes:Int)≤16:=by omega
 have HRW:=Lib.hid (show ∀i,RvWf (65536*i) ((T.waits.take i).foldl (Rv.wait T) ⟨[],fun _ => []⟩) from fun i =>
  (RvWf.waits wf (T.waits.take i) 0 _ RvWf.start).more (by rw [List.length_take];omega))
 have HRV:=Lib.hid (show T.revokes=(T.waits.foldl (Rv.wait T) ⟨[],fun _ => []⟩).out from rfl)
 have hbl:=(Below.refl w.heap.size w).alloc (Nat.le_refl _) (.cells (arr17 (newF (fun _=>0) 0)) 116)
 have HA0:=Lib.hid (show ArrIn (band (fun _=>0) w.heap.size (w.alloc (.cells (arr17 (newF (fun _=>0) 0)) 116)).heap.size 1) (w.alloc (.cells (arr17 (newF (fun _=>0) 0)) 116)) w.heap.size 0 (fun _=>0) from ⟨Blk.new _ _ _,band_in (Nat.le_refl _) (by simp),fun j hj=>absurd hj (Nat.not_lt_zero j)⟩)
 have HE0:=Lib.hid ((Env.start w).step (Step.of_below_band (fun _=>0) (fun _=>False) 1 hbl) (fun h=>h))
 have HF0:=Lib.hid (Fut.step (fun _ _=>rfl) (Step.of_below_band (fun _=>0) (fun _=>False) 1 hbl))
 have HR:=Lib.hid (show arr17 (newF (fun _=>0) 0)=#[.pointer none, .pointer none, .pointer none, .pointer none, .pointer none, .pointer none, .pointer none, .pointer none, .pointer none, .pointer none, .pointer none, .pointer none, .pointer none, .pointer none, .pointer none, .pointer none, .pointer none] from rfl)
 obtain ⟨RV,hRV⟩:∃RV,T.revokes=RV:=⟨_,rfl⟩
 rw [hRV] at HRV ⊢
 clear h wf hbl hRV
 go_enter Tryz.func168,Tryz.ntmps168
 go_upto_region 5 with (fail)
 rw [←HR.out]
 generalize w.alloc (.cells (arr17 (newF (fun _=>0) 0)) 116)=W0 at HA0 HE0 HF0 ⊢
 generalize band (fun _=>0) w.heap.size W0.heap.size 1=o0 at HA0 HE0 HF0
 generalize hgt:w.heap.size=gt at HA0
 clear hgt HR
 go_wp2_with fail
 go_loopg [13] 17 (fun r t13 wr=>∃(i:Nat) (oL:Nat→Nat) (tp:Nat→Nat),r+i=17∧t13 = .int .i64 (i:Nat)∧ArrIn oL wr gt i tp∧Env oL w wr∧Fut oL wr)
 case atStart=>exact ⟨0,o0,fun _=>0,by omega,rfl,HA0.out,HE0.out,HF0.out⟩
 case round =>
  obtain ⟨i,oL,tp,hni,rfl,hN,he,hf⟩:=hrel
  have HNI:=Lib.hid hni
  have HN:=Lib.hid hN
  have HE:=Lib.hid he
  have HF:=Lib.hid hf
  clear hni hN he hf HA0 HE0 HF0
  by_cases hlt:i<17
  ·have hltI:(i:Int)<17:=by omega
   obtain ⟨o2,hi2,hs2,_⟩:=ImAt.new oL wr (2+i)
   obtain ⟨hn3,hs3⟩:=HN.out.next hlt hi2 hs2
   have HN3:=Lib.hid hn3
   have HE3:=Lib.hid (HE.out.step hs3 (by unfold only;omega))
   have HF3:=Lib.hid (HF.out.step hs3)
   have p1:(wr.alloc (.cells #[.slice none 0 0] 175)).cell? ⟨gt,i,none⟩=some (newF tp i i):=((HN.out.blk.alloc (.cells #[.slice none 0 0] 175)).cell i).trans (arr17_cell _ hlt)
   have f1:(wr.alloc (.cells #[.slice none 0 0] 175)).frozen? ⟨gt,i,none⟩=false:=(HN.out.blk.alloc (.cells #[.slice none 0 0] 175)).frozen i
   clear hi2 hs2 hn3 hs3
   go_wp2_with fail
   refine (inew_any _).mono ?_
   rintro e w2 ⟨rfl,rfl⟩
   go_wp2_with fail
   go_roundg (17 - (i+1))
   case measure=>have:=HNI.out;omega
   case rel=>exact ⟨i+1,o2,_,by omega,by go_num,HN3.out,HE3.out,HF3.out⟩
  ·have hltI:¬(i:Int)<17:=by omega
   obtain rfl:i=17:=by have:=HNI.out;omega
   have HRS:=Lib.hid (RvIn.start HN.out)
   have HTr:=Lib.hid (HT.out.below_ HE.out.low)
   have c18:=HTr.out.c18
   clear HN hltI hlt
   go_wp2_with fail
   go_loopg [3,25] T.waits.length (fun n t3 t25 wr=>∃(i:Nat) (D:Option Addr) (cap2:Nat) (oL:Nat→Nat),n+i=T.waits.length∧t25 = .int .i64 (i:Nat)∧t3 = .slice D ((T.waits.take i).foldl (Rv.wait T) ⟨[],fun _ => []⟩).out.length cap2∧RvIn oL wr gt ((T.waits.take i).foldl (Rv.wait T) ⟨[],fun _ => []⟩) tp D cap2∧Env oL w wr∧Fut oL wr)
   case atStart=>exact ⟨0,none,0,oL,by omega,rfl,rfl,HRS.out,HE.out,HF.out⟩
   case round =>
    obtain ⟨i,D,cap2,oA,hni,rfl,rfl,hrv,he,hf⟩:=hrel
    have HNI2:=Lib.hid hni
    have HRI:=Lib.hid hrv
    have HE2:=Lib.hid he
    have HF2:=Lib.hid hf
    clear hni hrv he hf HRS HTr HE HF c18
    by_cases hlt:i<T.waits.length
    ·have hltI:(i:Int)<(T.waits.length:Int):=by omega
     obtain ⟨q,hq⟩:∃q,T.waits[i]? = some q:=⟨_,List.getElem?_eq_getElem hlt⟩
     have HNX:=Lib.hid ((foldl_next (f:=Rv.wait T) (b:=(⟨[],fun _ => []⟩:Rv)) hq).trans (wait_eq T _ q))
     have HQB:=Lib.hid (HRW.out i)
     have HT2:=Lib.hid (HT.out.below_ HE2.out.low)
     obtain ⟨ad,rfl,x0,x1,x2,x3,x4⟩:=(Reads.of_own HT2.out.waits.1).wait hq
     have HQ:=Lib.hid (Keep.new HF2.out 164 #[.int .i64 q.id, .int .i64 q.node, .int .i64 q.l.a, .int .i64 q.l.b, .int .i64 q.l.m])
     have HRA:=Lib.hid (HRI.out.alloc (.cells #[.int .i64 q.id, .int .i64 q.node, .int .i64 q.l.a, .int .i64 q.l.b, .int .i64 q.l.m] 164))
     have HEA:=Lib.hid (HE2.out.alloc (.cells #[.int .i64 q.id, .int .i64 q.node, .int .i64 q.l.a, .int .i64 q.l.b, .int .i64 q.l.m] 164))
     have HFA:=Lib.hid (HF2.out.alloc (.cells #[.int .i64 q.id, .int .i64 q.node, .int .i64 q.l.a, .int .i64 q.l.b, .int .i64 q.l.m] 164))
     clear hq HRI HE2 HF2 HT2
     generalize (T.waits.take i).foldl (Rv.wait T) ⟨[],fun _ => []⟩=RI at HNX HQB HRA ⊢
     go_upto_region 13 with (fail)
     generalize wr.alloc (.cells #[.int .i64 q.id, .int .i64 q.node, .int .i64 q.l.a, .int .i64 q.l.b, .int .i64 q.l.m] 164)=W1 at HQ HRA HEA HFA ⊢
     generalize wr.heap.size=gq at HQ ⊢
     clear x0 x1 x2 x3 x4
     have HQN:=Lib.hid (show ∀n,n≤16→RvWf (100000000 - 4096) ((List.range n).foldl (nodeF T q) RI) from fun n hn=>(RvWf.nodes HW.out q n _ HQB.out).more (by omega))
     go_wp2_with fail
     go_loopg [3,8] T.nodes (fun n t3 t8 wr=>∃(k:Nat) (D:Option Addr) (cap2:Nat) (oL:Nat→Nat),n+k=T.nodes∧t8 = .int .i64 ((k:Int)+1)∧t3 = .slice D ((List.range k).foldl (nodeF T q) RI).out.length cap2∧RvIn oL wr gt ((List.range k).foldl (nodeF T q) RI) tp D cap2∧Keep oL wr gq 164 #[.int .i64 q.id, .int .i64 q.node, .int .i64 q.l.a, .int .i64 q.l.b, .int .i64 q.l.m]∧Env oL w wr∧Fut oL wr)
     case atStart=>exact ⟨0,D,cap2,oA,by omega,rfl,rfl,HRA.out,HQ.out,HEA.out,HFA.out⟩
     case round =>
      obtain ⟨k,D,cap2,oB,hnk,rfl,rfl,hrv,hkq,he,hf⟩:=hrel
      have HNK:=Lib.hid hnk
      have HRB:=Lib.hid hrv
      have HQK:=Lib.hid hkq
      have HEB:=Lib.hid he
      have HFB:=Lib.hid hf
      clear hnk hrv hkq he hf HRA HQ HEA HFA
      have HTB:=Lib.hid (HT.out.below_ HEB.out.low)
      have c0:=HTB.out.c0
      by_cases hkn:k<T.nodes
      ·have hkI:(k:Int)+1≤(T.nodes:Int):=by omega
       have hk16:k+1≤16:=by omega
       have hk17:(k:Int)+1<17:=by omega
       have hk0:(0:Int)≤(k:Int)+1:=by omega
       have HNY:=Lib.hid (node_next T q RI k)
       have HQB2:=Lib.hid (HQN.out k (by omega))
       obtain ⟨y0,y1,y2,y3,y4⟩:=HQK.out.1.five
       generalize (List.range k).foldl (nodeF T q) RI=RK at HNY HQB2 HRB ⊢
       by_cases hnode:((k+1:Nat):Int)=q.node
       ·have b1:((k:Int)+1 == q.node)=true:=beq_iff_eq.2 (by omega)
        have HN:=Lib.hid (HNY.out.trans (show Rv.node T q RK (k+1)=RK from if_pos hnode))
        clear hnode
        go_wp2_with fail
        go_roundg (T.nodes - (k+1))
        case measure=>have:=HNK.out;omega
        case rel=>exact ⟨k+1,D,cap2,oB,by omega,by go_num,congrArg (fun R:Rv=>Value.slice D R.out.length cap2) HN.out.symm,by rw [HN.out];exact HRB.out,HQK.out,HEB.out,HFB.out⟩
       ·have b1:((k:Int)+1 == q.node)=false:=beq_eq_false_iff_ne.2 (fun e=>hnode (by omega))
        have HN:=Lib.hid (HNY.out.trans (show Rv.node T q RK (k+1)=(revokedL (T.held (k+1)) q.l (RK.told (k+1))).foldl (Rv.add (k+1)) RK from if_neg hnode))
        clear hnode HNY
        have ch:=HRB.out.cell hk16
        have HLR:=Lib.hid (low_revoked (HW.out.held (k+1)) (HQB2.out.told (k+1)) q.l)
        go_wp2_with fail
        have HCP:=Lib.hid (show Calls Tryz.prog 213 #[.pointer (some ⟨t,0,none⟩), .int .i64 ((k:Int)+1), .agg #[.int .i64 q.l.a, .int .i64 q.l.b, .int .i64 q.l.m], .pointer (some ⟨tp (k+1),0,none⟩)] wr.drew _ from trevoked_any HTB.out.drew HW.out (k+1) hk16 q.l (HRB.out.drew.held (k+1) hk16) (HQB2.out.told (k+1)))
        have q1:wr.drew.cell? ⟨gt,k+1,none⟩=some (.pointer (some ⟨tp (k+1),0,none⟩)):=ch
        have q2:wr.drew.cell? ⟨gq,2,none⟩=some (.int .i64 q.l.a):=y2
        have q3:wr.drew.cell? ⟨gq,3,none⟩=some (.int .i64 q.l.b):=y3
        have q4:wr.drew.cell? ⟨gq,4,none⟩=some (.int .i64 q.l.m):=y4
        go_region_held3 (fun w'=>w'.cell? ⟨gt,k+1,none⟩=some (.pointer (some ⟨tp (k+1),0,none⟩))∧w'.cell? ⟨gq,2,none⟩=some (.int .i64 q.l.a)∧w'.cell? ⟨gq,3,none⟩=some (.int .i64 q.l.b)∧w'.cell? ⟨gq,4,none⟩=some (.int .i64 q.l.m))
         (first | exact ⟨q1,q2,q3,q4⟩ | exact ⟨g1,g2,g3,g4⟩ | go_keep)
         ((go_at_call 213;((with_reducible refine HCP.out.mono ?_);rintro e w3 ⟨D3,cap3,rfl,hr3,hb3⟩;have HR3:=Lib.hid hr3;have HB3:=Lib.hid (below_of_drew hb3);have g1:=((HRB.out.drew).band hb3 21).cell hk16;obtain ⟨_,_,g2,g3,g4⟩:=(HQK.out.drew.band hb3 21).1.five;clear hr3 hb3)))
        obtain ⟨Q,hQ⟩:∃Q,revokedL (T.held (k+1)) q.l (RK.told (k+1))=Q:=⟨_,rfl⟩
        rw [hQ] at HR3 HN HLR ⊢
        have hQL:=HLR.out.1.len
        have hQI:(Q.length:Int)≤4096:=by omega
        have HRQ:=Lib.hid (show OwnS (band oB wr.heap.size w3.heap.size 21) 21 w3 47 3 (.slice D3 Q.length cap3) Q.length (lkcells Q) from own_bandR (o:=oB) (c:=21) HR3.out)
        have HRV3:=Lib.hid (HRB.out.band HB3.out 21)
        have HQ3:=Lib.hid (HQK.out.band HB3.out 21)
        have HE3:=Lib.hid (HEB.out.band HB3.out 21)
        have HF3:=Lib.hid (HFB.out.band HB3.out 21)
        have HAD:=Lib.hid (show ∀j,RvWf 100000000 ((Q.take j).foldl (Rv.add (k+1)) RK) from fun j=>(RvWf.adds (node:=k+1) (Q.take j) _ RK HQB2.out (fun p hp=>HLR.out.1.okb p (List.mem_of_mem_take hp))).more (by rw [List.length_take];omega))
        generalize band oB wr.heap.size w3.heap.size 21=o3 at HRQ HRV3 HQ3 HE3 HF3
        clear hQ ch y0 y1 y2 y3 y4 HR3 HB3 HRB HQK HEB HFB HTB c0 q1 q2 q3 q4 g1 g2 g3 g4 HCP
        go_wp2_with fail
        go_loopg [3,50] Q.length (fun n t3 t50 wr=>∃(j:Nat) (D:Option Addr) (cap2:Nat) (oL:Nat→Nat),n+j=Q.length∧t50 = .int .i64 (j:Nat)∧t3 = .slice D ((Q.take j).foldl (Rv.add (k+1)) RK).out.length cap2∧RvIn oL wr gt ((Q.take j).foldl (Rv.add (k+1)) RK) tp D cap2∧OwnS oL 21 wr 47 3 (.slice D3 Q.length cap3) Q.length (lkcells Q)∧Keep oL wr gq 164 #[.int .i64 q.id, .int .i64 q.node, .int .i64 q.l.a, .int .i64 q.l.b, .int .i64 q.l.m]∧Env oL w wr∧Fut oL wr)
        case atStart=>exact ⟨0,D,cap2,o3,by omega,rfl,rfl,HRV3.out,HRQ.out,HQ3.out,HE3.out,HF3.out⟩
        case round =>
         obtain ⟨j,D,cap2,oC,hnj,rfl,rfl,hrv,hrq,hkq,he,hf⟩:=hrel
         have HNJ:=Lib.hid hnj
         have HRJ:=Lib.hid hrv
         have HRQJ:=Lib.hid hrq
         have HQJ:=Lib.hid hkq
         have HEJ:=Lib.hid he
         have HFJ:=Lib.hid hf
         clear hnj hrv hrq hkq he hf HRV3 HRQ HQ3 HE3 HF3
         by_cases hlt2:j<Q.length
         ·have hlt2I:(j:Int)<(Q.length:Int):=by omega
          obtain ⟨p,hp2⟩:∃p,Q[j]? = some p:=⟨_,List.getElem?_eq_getElem hlt2⟩
          have HNZ:=Lib.hid (foldl_next (f:=Rv.add (k+1)) (b:=RK) hp2)
          have HPP:=Lib.hid (HLR.out.1.okb p (List.mem_of_getElem? hp2))
          obtain ⟨hm0,hm1⟩:=HLR.out.2.mem HLR.out.1 (List.mem_of_getElem? hp2)
          have HAJ:=Lib.hid (HAD.out j)
          obtain ⟨bd,rfl,x0,x1,x2⟩:=(Reads.of_own HRQJ.out.1).lock hp2
          have HP:=Lib.hid (Keep.new HFJ.out 47 #[.int .i64 p.a, .int .i64 p.b, .int .i64 p.m])
          have HR4:=Lib.hid (HRJ.out.alloc (.cells #[.int .i64 p.a, .int .i64 p.b, .int .i64 p.m] 47))
          have HRQ4:=Lib.hid (HRQJ.out.alloc (.cells #[.int .i64 p.a, .int .i64 p.b, .int .i64 p.m] 47))
          have HQ4:=Lib.hid (HQJ.out.alloc (.cells #[.int .i64 p.a, .int .i64 p.b, .int .i64 p.m] 47))
          have HE4:=Lib.hid (HEJ.out.alloc (.cells #[.int .i64 p.a, .int .i64 p.b, .int .i64 p.m] 47))
          have HF4:=Lib.hid (HFJ.out.alloc (.cells #[.int .i64 p.a, .int .i64 p.b, .int .i64 p.m] 47))
          clear hp2 HRJ HRQJ HQJ HEJ HFJ
          generalize (Q.take j).foldl (Rv.add (k+1)) RK=RJ at HNZ HAJ HR4 ⊢
          go_upto_region 20 with (fail)
          generalize wr.alloc (.cells #[.int .i64 p.a, .int .i64 p.b, .int .i64 p.m] 47)=W4 at HP HR4 HRQ4 HQ4 HE4 HF4 ⊢
          generalize wr.heap.size=gp at HP ⊢
          clear x0 x1 x2
          obtain ⟨y0,y1,y2⟩:=HP.out.1.three
          have hRJ:=HAJ.out.len
          have HO5:=Lib.hid (HR4.out.out.alloc (.cells #[.int .i64 ((k:Int)+1), .int .i64 p.a, .int .i64 p.b, .int .i64 p.m] 227))
          go_upto_region 21 with (at_builtin;refine wpList_append_S _ rfl (.tmp 54) (.tmp 58) 224 rfl 227 i0 _ 4 32 Tryz.underlying224 hi hz0 hz1 hz2 rfl (by omega) (.slice D RJ.out.length cap2) RJ.out.length (rvcells RJ.out) rfl HO5.out (some ⟨W4.heap.size,0,none⟩) 1 1 [.int .i64 ((k:Int)+1), .int .i64 p.a, .int .i64 p.b, .int .i64 p.m] rfl (Reads.newAt W4 227 4 1 _ #[.int .i64 ((k:Int)+1), .int .i64 p.a, .int .i64 p.b, .int .i64 p.m] _ rfl rfl rfl) (by simp [Value.oneCell']) (by unfold maxLen;omega) (by omega) ?_;intro v7 w7 hown7 hst7 hgr7 hat7;obtain ⟨A7,cap7,rfl,_,_⟩:=own_form' hown7;have HW7:=Lib.hid hown7;have HS7:=Lib.hid (((Step.refl oC (fun _=>False) W4).alloc (.cells #[.int .i64 ((k:Int)+1), .int .i64 p.a, .int .i64 p.b, .int .i64 p.m] 227)).mono (fun _ h=>h.elim:∀y,False→only 20 y) |>.trans hst7);clear hown7 hst7 hgr7 hat7)
          generalize band oC _ w7.heap.size 20=o7 at HW7 HS7
          clear HO5 y0 y1 y2
          have HB7:=Lib.hid (HR4.out.blk.step HS7.out (by rw [HR4.out.col];unfold only;omega))
          have HP7:=Lib.hid (HP.out.step HS7.out (by unfold only;omega))
          have HM7:=Lib.hid (((HR4.out.held (k+1) hk16).step HS7.out (by unfold only;omega)))
          have HWT:=Lib.hid (HAJ.out.told (k+1))
          obtain ⟨y0,y1,y2⟩:=HP7.out.1.three
          have ch:w7.cell? ⟨gt,k+1,none⟩=some (.pointer (some ⟨tp (k+1),0,none⟩)):=by
           refine (HB7.out.cell (k+1)).trans ((arr17_cell _ (by omega)).trans ?_)
           unfold newF
           rw [if_pos (by omega)]
           rfl
          have hwm:IntKind.i64.wrap (p.m+1)=p.m+1:=IntWalk.i64_in _ (by omega)
          go_wp2_with fail
          have HCR:=Lib.hid (show Calls Tryz.prog 202 #[.pointer (some ⟨tp (k+1),0,none⟩), .agg #[.int .i64 p.a, .int .i64 p.b], .int .i64 (p.m+1)] w7.drew _ from iset_any (HM7.out.drew) HWT.out.wf (by have:=HWT.out.len;omega) p.sp HPP.out.1 (p.m+1))
          have q1:w7.drew.cell? ⟨gt,k+1,none⟩=some (.pointer (some ⟨tp (k+1),0,none⟩)):=ch
          have q2:w7.drew.cell? ⟨gp,0,none⟩=some (.int .i64 p.a):=y0
          have q3:w7.drew.cell? ⟨gp,1,none⟩=some (.int .i64 p.b):=y1
          have q4:w7.drew.cell? ⟨gp,2,none⟩=some (.int .i64 p.m):=y2
          go_region_held3 (fun w'=>w'.cell? ⟨gt,k+1,none⟩=some (.pointer (some ⟨tp (k+1),0,none⟩))∧w'.cell? ⟨gp,0,none⟩=some (.int .i64 p.a)∧w'.cell? ⟨gp,1,none⟩=some (.int .i64 p.b)∧w'.cell? ⟨gp,2,none⟩=some (.int .i64 p.m))
           (first | exact ⟨q1,q2,q3,q4⟩ | exact ⟨g1,g2,g3,g4⟩ | go_keep)
           ((go_at_call 202;((with_reducible refine HCR.out.mono ?_);rintro e w8 ⟨rfl,o8,hi8,hs8⟩;have HI8:=Lib.hid hi8;have HS8:=Lib.hid hs8;obtain ⟨g2,g3,g4⟩:=(HP7.out.drew.step hs8 (by unfold only;omega)).1.three;have g1:w8.cell? ⟨gt,k+1,none⟩=some (.pointer (some ⟨tp (k+1),0,none⟩)):=(((HB7.out.drew.step hs8 (by rw [(HS7.out.old gt HR4.out.blk.lt).trans HR4.out.col];unfold only;omega)).cell (k+1)).trans (((HB7.out.cell (k+1)).symm).trans ch));clear hi8 hs8)))
          have HRN:=Lib.hid (HR4.out.add (l:=p) HS7.out HW7.out hk16 ((Step.refl o7 (only (2+(k+1))) w7).drew.trans HS8.out) HI8.out)
          have HRQ8:=Lib.hid ((HRQ4.out.step HS7.out (by unfold only;omega)).drew.step HS8.out (by unfold only;omega))
          have HQ8:=Lib.hid ((HQ4.out.step HS7.out (by unfold only;omega)).drew.step HS8.out (by unfold only;omega))
          have HE8:=Lib.hid ((HE4.out.step HS7.out (by unfold only;omega)).step ((Step.refl o7 (only (2+(k+1))) w7).drew.trans HS8.out) (by unfold only;omega))
          have HF8:=Lib.hid ((HF4.out.step HS7.out).drew.step HS8.out)
          have HLN:=Lib.hid (show RJ.out.length+1=(Rv.add (k+1) RJ p).out.length by
           show _=(RJ.out ++ [(((k+1:Nat):Int),p)]).length
           simp)
          clear q1 q2 q3 q4 g1 g2 g3 g4 ch y0 y1 y2 HCR
          go_wp2_with fail
          go_roundg (Q.length - (j+1))
          case measure=>have:=HNJ.out;omega
          case rel=>exact ⟨j+1,A7,cap7,o8,by omega,by go_num,by rw [HNZ.out,←HLN.out],by rw [HNZ.out];exact HRN.out,HRQ8.out,HQ8.out,HE8.out,HF8.out⟩
         ·have hlt2I:¬(j:Int)<(Q.length:Int):=by omega
          obtain rfl:j=Q.length:=by have:=HNJ.out;omega
          have HTT:=Lib.hid (show (Q.take Q.length).foldl (Rv.add (k+1)) RK=(List.range (k+1)).foldl (nodeF T q) RI by rw [List.take_length,HN.out])
          obtain ⟨RN,hRN⟩:∃RN,(List.range (k+1)).foldl (nodeF T q) RI=RN:=⟨_,rfl⟩
          rw [hRN] at HTT
          have HRN:=Lib.hid hRN
          rw [HTT.out] at HRJ ⊢
          clear hRN HTT HN
          go_wp2_with fail
          go_roundg (T.nodes - (k+1))
          case measure=>have:=HNK.out;omega
          case rel=>exact ⟨k+1,D,cap2,oC,by omega,by go_num,by rw [HRN.out],by rw [HRN.out];exact HRJ.out,HQJ.out,HEJ.out,HFJ.out⟩
      ·have hkI:¬(k:Int)+1≤(T.nodes:Int):=by omega
       obtain rfl:k=T.nodes:=by have:=HNK.out;omega
       rw [←HNX.out] at HRB ⊢
       go_wp2_with fail
       go_roundg (T.waits.length - (i+1))
       case measure=>have:=HNI2.out;omega
       case rel=>exact ⟨i+1,D,cap2,oB,by omega,by go_num,rfl,HRB.out,HEB.out,HFB.out⟩
    ·have hltI:¬(i:Int)<(T.waits.length:Int):=by omega
     obtain rfl:i=T.waits.length:=by have:=HNI2.out;omega
     have HTT:=Lib.hid (show ((T.waits.take T.waits.length).foldl (Rv.wait T) ⟨[],fun _ => []⟩).out=RV by rw [List.take_length,←HRV.out])
     go_wp2_with fail
     go_ret
     exact ⟨D,cap2,congrArg (fun R:List (Int×Lk)=>Ending.returned (Value.slice D R.length cap2)) HRV.out.symm,own_new HE2.out (by have:=HRI.out.out;rw [HTT.out] at this;exact this) (by decide),HE2.out.low⟩
end
end Go.Proofs.YtohgabdmmbngbaaGreatDoor
