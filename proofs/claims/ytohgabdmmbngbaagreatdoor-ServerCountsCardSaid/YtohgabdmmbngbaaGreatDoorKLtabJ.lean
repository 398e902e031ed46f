import Derived.Test.YtohgabdmmbngbaaGreatDoorKLtabG
import Derived.Test.YtohgabdmmbngbaaGreatDoorKSortK
set_option linter.unusedVariables false
set_option linter.unusedSimpArgs false
namespace Go.Proofs.YtohgabdmmbngbaaGreatDoor
open Go.RowKit
section
variable {o o':Nat→Nat} {c d:Nat} {w w':World} {t:Nat} {T:Tb} {hp:Nat→Nat} {A:Option Addr} {cap:Nat}
set_option maxRecDepth 100000 in
set_option maxHeartbeats 16000000 in
theorem tgrant_any (h:TbAt o c w t T) (hf:Fut o w) (hc:1≤c) (wf:TbWf T) :
 Calls Tryz.prog 160 #[.pointer (some ⟨t,0,none⟩)] w fun e w'=>∃D cap',e = .returned (.slice D T.grant.1.length cap')∧∃o',OwnS o' 0 w' 164 5 (.slice D T.grant.1.length cap') T.grant.1.length (wqcells T.grant.1)∧TbAt o' c w' t T.grant.2∧Step o (tabC c) w o' w':=by
 obtain ⟨hp,A,cap,h⟩:=h
 obtain ⟨i0,hi,hz0,hz1,hz2⟩:=info_parts info_wq
 obtain ⟨d,hd1,hd2⟩:=fresh_colour o w (c+19)
 have HD:=Lib.hid hd2
 have HDC:=Lib.hid hd1
 have HC:=Lib.hid hc
 have HT0:=Lib.hid h
 have HF0:=Lib.hid hf
 have HW:=Lib.hid wf
 have HOW:=Lib.hid h.waits
 have c18:=h.c18
 have hwl:=wf.many
 have hwI:(T.waits.length:Int)≤1000:=by omega
 have HGW:=Lib.hid (show ∀i,GrWf T ((T.waits.take i).foldl Gr.step ⟨[],[],[],T⟩) from fun i=>GrWf.go _ _ (GrWf.start wf) (fun x hx=>(wf.waits x (List.mem_of_mem_take hx)).1))
 have HGL:=Lib.hid (show ∀i,((T.waits.take i).foldl Gr.step ⟨[],[],[],T⟩).out.length≤1000∧((T.waits.take i).foldl Gr.step ⟨[],[],[],T⟩).left.length≤1000∧((T.waits.take i).foldl Gr.step ⟨[],[],[],T⟩).claims.length≤1000 from fun i=>by
  have h1:=Gr.go_len (T.waits.take i) ⟨[],[],[],T⟩
  have h2:(T.waits.take i).length≤1000:=by rw [List.length_take];omega
  simp only [List.length_nil,Nat.zero_add] at h1
  omega)
 have HGD:=Lib.hid (show T.grant=(T.grantG.out,{T.grantG.T with waits:=T.grantG.left}) from rfl)
 have HGG:=Lib.hid (show T.grantG=T.waits.foldl Gr.step ⟨[],[],[],T⟩ from rfl)
 obtain ⟨R,hR⟩:∃R,T.grant=R:=⟨_,rfl⟩
 rw [hR] at HGD ⊢
 clear h hf hc wf hd1 hd2 hR
 go_enter Tryz.func160,Tryz.ntmps160
 go_wp2_with fail
 clear c18
 go_loopg [3,4,5,15] T.waits.length (fun n t3 t4 t5 t15 wr=>∃(i:Nat) (G:Gr) (D1 D2 D3:Option Addr) (e1 e2 e3:Nat) (oL:Nat→Nat),n+i=T.waits.length∧t15 = .int .i64 (i:Nat)∧Hid (G=(T.waits.take i).foldl Gr.step ⟨[],[],[],T⟩)∧t3 = .slice D1 G.out.length e1∧t4 = .slice D2 G.left.length e2∧t5 = .slice D3 G.claims.length e3∧OwnS oL d wr 164 5 (.slice D1 G.out.length e1) G.out.length (wqcells G.out)∧OwnS oL (d+1) wr 164 5 (.slice D2 G.left.length e2) G.left.length (wqcells G.left)∧OwnS oL (d+2) wr 164 5 (.slice D3 G.claims.length e3) G.claims.length (wqcells G.claims)∧TbIn oL c wr t G.T hp A cap∧Fut oL wr∧Step o (tabD c d) w oL wr)
 case atStart=>exact ⟨0,⟨[],[],[],T⟩,none,none,none,0,0,0,o,by omega,rfl,Lib.hid rfl,rfl,rfl,rfl,OwnS.nil _ _ _ _ _,OwnS.nil _ _ _ _ _,OwnS.nil _ _ _ _ _,HT0.out,HF0.out,Step.refl _ _ _⟩
 case round =>
  obtain ⟨i,G,D1,D2,D3,e1,e2,e3,oL,hni,rfl,HG,rfl,rfl,rfl,ho1,ho2,ho3,ht,hf,hst⟩:=hrel
  have HNI:=Lib.hid hni
  have HO1:=Lib.hid ho1
  have HO2:=Lib.hid ho2
  have HO3:=Lib.hid ho3
  have HT:=Lib.hid ht
  have HF:=Lib.hid hf
  have HST:=Lib.hid hst
  have HGW2:=Lib.hid (show GrWf T G by rw [HG.out];exact HGW.out i)
  have hgl:=HGL.out i
  rw [←HG.out] at hgl
  obtain ⟨hl1,hl2,hl3⟩:=hgl
  clear hni ho1 ho2 ho3 ht hf hst HT0
  by_cases hlt:i<T.waits.length
  ·have hltI:(i:Int)<(T.waits.length:Int):=by omega
   obtain ⟨q,hq⟩:∃q,T.waits[i]? = some q:=⟨_,List.getElem?_eq_getElem hlt⟩
   have HNX:=Lib.hid ((foldl_next (f:=Gr.step) (b:=⟨[],[],[],T⟩) hq).trans (by rw [←HG.out]))
   have HNX:Hid ((T.waits.take (i+1)).foldl Gr.step ⟨[],[],[],T⟩=G.step q):=HNX
   obtain ⟨hqr,hqi⟩:=HW.out.waits q (List.mem_of_getElem? hq)
   have HQR:=Lib.hid (rightB_iff.1 hqr)
   obtain ⟨qn,hqn⟩:∃qn:Nat,q.node=(qn:Nat):=⟨q.node.toNat,by unfold Tb.is at hqi;omega⟩
   have hqn16:qn≤16:=by have:=HW.out.nodes;unfold Tb.is at hqi;omega
   have hqn17:(qn:Int)<17:=by omega
   have hqt:q.node.toNat=qn:=by omega
   have HSD:=Lib.hid (show G.step q=if G.T.hinders q.node q.l G.claims<q.l.b then {G with left:=G.left ++ [q],claims:=G.claims ++ [claimW q (G.T.hinders q.node q.l G.claims)]} else {G with out:=G.out ++ [q],T:=G.T.raise qn q.l} by rw [←hqt];rfl)
   have HQN:=Lib.hid hqn
   clear hqr hqi hqn hqt
   have hwr:OwnS oL (c+1) wr 164 5 (.slice A T.waits.length cap) T.waits.length (wqcells T.waits):=by have:=HT.out.waits;rw [HGW2.out.waits] at this;exact this
   obtain ⟨ad,rfl,x0,x1,x2,x3,x4⟩:=(Reads.of_own hwr.1).wait hq
   have HQ:=Lib.hid (Keep.new HF.out 164 #[.int .i64 q.id, .int .i64 q.node, .int .i64 q.l.a, .int .i64 q.l.b, .int .i64 q.l.m])
   have HO1a:=Lib.hid (HO1.out.alloc (.cells #[.int .i64 q.id, .int .i64 q.node, .int .i64 q.l.a, .int .i64 q.l.b, .int .i64 q.l.m] 164))
   have HO2a:=Lib.hid (HO2.out.alloc (.cells #[.int .i64 q.id, .int .i64 q.node, .int .i64 q.l.a, .int .i64 q.l.b, .int .i64 q.l.m] 164))
   have HO3a:=Lib.hid (HO3.out.alloc (.cells #[.int .i64 q.id, .int .i64 q.node, .int .i64 q.l.a, .int .i64 q.l.b, .int .i64 q.l.m] 164))
   have HTa:=Lib.hid (HT.out.alloc (.cells #[.int .i64 q.id, .int .i64 q.node, .int .i64 q.l.a, .int .i64 q.l.b, .int .i64 q.l.m] 164))
   have HFa:=Lib.hid (HF.out.alloc (.cells #[.int .i64 q.id, .int .i64 q.node, .int .i64 q.l.a, .int .i64 q.l.b, .int .i64 q.l.m] 164))
   have HSTa:=Lib.hid (HST.out.alloc (.cells #[.int .i64 q.id, .int .i64 q.node, .int .i64 q.l.a, .int .i64 q.l.b, .int .i64 q.l.m] 164))
   clear hq hwr HO1 HO2 HO3 HT HF HST
   go_upto_region 5 with (fail)
   generalize wr.alloc (.cells #[.int .i64 q.id, .int .i64 q.node, .int .i64 q.l.a, .int .i64 q.l.b, .int .i64 q.l.m] 164)=W1 at HQ HO1a HO2a HO3a HTa HFa HSTa ⊢
   generalize wr.heap.size=gq at HQ ⊢
   clear x0 x1 x2 x3 x4
   obtain ⟨y0,y1,y2,y3,y4⟩:=HQ.out.1.five
   have HHP:=Lib.hid (Tb.hinders_pos HGW2.out.wf q.node q.l (by have:=HQR.out.1;unfold Sp.ok at this;have h2:0≤q.l.a∧q.l.a<q.l.b:=this;omega) G.claims)
   have HHL:=Lib.hid (Int.le_trans (G.T.hinders_le q.node q.l G.claims) HQR.out.2.1)
   go_wp2_with fail
   refine (thinders_any HTa.out HGW2.out.wf q.node q.l G.claims D3 e3 (Reads.of_own HO3a.out.1) (by omega)).mono ?_
   rintro e w2 ⟨rfl,hb2⟩
   have HQ2:=Lib.hid (HQ.out.below_ hb2)
   have HO1b:=Lib.hid (HO1a.out.below_ hb2)
   have HO2b:=Lib.hid (HO2a.out.below_ hb2)
   have HO3b:=Lib.hid (HO3a.out.below_ hb2)
   have HTb:=Lib.hid (HTa.out.below_ hb2)
   have HFb:=Lib.hid (HFa.out.below hb2)
   have HSTb:=Lib.hid (HSTa.out.trans (Step.of_below oL _ hb2))
   obtain ⟨H,hH⟩:∃H,G.T.hinders q.node q.l G.claims=H:=⟨_,rfl⟩
   rw [hH] at HSD HHP HHL ⊢
   clear hb2 hH HQ HO1a HO2a HO3a HTa HFa HSTa y0 y1 y2 y3 y4
   obtain ⟨y0,y1,y2,y3,y4⟩:=HQ2.out.1.five
   by_cases hlt2:H<q.l.b
   ·have d2:decide (H<q.l.b)=true:=decide_eq_true hlt2
    have HN:=Lib.hid (HNX.out.trans (HSD.out.trans (if_pos hlt2)))
    rw [d2]
    clear hlt2 d2 HSD HNX
    go_wp2_with fail
    have hcd0:=HDC.out
    have hc1:=HC.out
    have q0:w2.drew.cell? ⟨gq,0,none⟩=some (.int .i64 q.id):=y0
    have q1:w2.drew.cell? ⟨gq,1,none⟩=some (.int .i64 q.node):=y1
    have q2:w2.drew.cell? ⟨gq,2,none⟩=some (.int .i64 q.l.a):=y2
    have q3:w2.drew.cell? ⟨gq,3,none⟩=some (.int .i64 q.l.b):=y3
    have q4:w2.drew.cell? ⟨gq,4,none⟩=some (.int .i64 q.l.m):=y4
    have HQ3:=Lib.hid (HQ2.out.alloc (.cells #[.int .i64 q.id, .int .i64 q.node, .int .i64 q.l.a, .int .i64 q.l.b, .int .i64 q.l.m] 164))
    obtain ⟨r0,r1,r2,r3,r4⟩:(w2.alloc (.cells #[.int .i64 q.id, .int .i64 q.node, .int .i64 q.l.a, .int .i64 q.l.b, .int .i64 q.l.m] 164)).drew.cell? ⟨gq,0,none⟩=some (.int .i64 q.id)∧(w2.alloc (.cells #[.int .i64 q.id, .int .i64 q.node, .int .i64 q.l.a, .int .i64 q.l.b, .int .i64 q.l.m] 164)).drew.cell? ⟨gq,1,none⟩=some (.int .i64 q.node)∧(w2.alloc (.cells #[.int .i64 q.id, .int .i64 q.node, .int .i64 q.l.a, .int .i64 q.l.b, .int .i64 q.l.m] 164)).drew.cell? ⟨gq,2,none⟩=some (.int .i64 q.l.a)∧(w2.alloc (.cells #[.int .i64 q.id, .int .i64 q.node, .int .i64 q.l.a, .int .i64 q.l.b, .int .i64 q.l.m] 164)).drew.cell? ⟨gq,3,none⟩=some (.int .i64 q.l.b)∧(w2.alloc (.cells #[.int .i64 q.id, .int .i64 q.node, .int .i64 q.l.a, .int .i64 q.l.b, .int .i64 q.l.m] 164)).drew.cell? ⟨gq,4,none⟩=some (.int .i64 q.l.m):=HQ3.out.1.five
    have HO2c:=Lib.hid (HO2b.out.alloc (.cells #[.int .i64 q.id, .int .i64 q.node, .int .i64 q.l.a, .int .i64 q.l.b, .int .i64 q.l.m] 164)).drew
    have HRD:=Lib.hid (Reads.newAt w2 164 5 1 [.int .i64 q.id, .int .i64 q.node, .int .i64 q.l.a, .int .i64 q.l.b, .int .i64 q.l.m] #[.int .i64 q.id, .int .i64 q.node, .int .i64 q.l.a, .int .i64 q.l.b, .int .i64 q.l.m] _ rfl rfl rfl).drew
    go_region_held3 (fun w'=>w'.cell? ⟨gq,0,none⟩=some (.int .i64 q.id)∧w'.cell? ⟨gq,1,none⟩=some (.int .i64 q.node)∧w'.cell? ⟨gq,2,none⟩=some (.int .i64 q.l.a)∧w'.cell? ⟨gq,3,none⟩=some (.int .i64 q.l.b)∧w'.cell? ⟨gq,4,none⟩=some (.int .i64 q.l.m))
     (first | exact ⟨q0,q1,q2,q3,q4⟩ | exact ⟨r0,r1,r2,r3,r4⟩ | exact hk3.1.five | exact hk4.1.five | exact hk5.1.five | exact hk6.1.five | go_keep)
     (first
       | (refine step_append_S _ rfl (.tmp 30) (.tmp 32) 68 rfl 164 i0 _ 5 40 Tryz.underlying68 hi hz0 hz1 hz2 rfl (by omega) (.slice D2 G.left.length e2) G.left.length (wqcells G.left) rfl HO2c.out (some ⟨w2.heap.size,0,none⟩) 1 1 [.int .i64 q.id, .int .i64 q.node, .int .i64 q.l.a, .int .i64 q.l.b, .int .i64 q.l.m] rfl HRD.out (by simp [Value.oneCell']) (by unfold maxLen;omega) (by omega) ?_;intro v3 w3 hown hk hg hat;obtain ⟨A3,cap3,rfl,_,_⟩:=own_form' hown;have hk3:=HQ3.out.drew.step hk (by unfold only;omega);have HA3:=Lib.hid hown;have HK3:=Lib.hid hk;clear hown hk hg hat)
       | (go_at_call 206;((with_reducible refine (tclaim_any q H HHP.out (by have:=HHL.out;omega) w3).mono ?_);rintro e w4 ⟨rfl,hb4⟩;have hk4:=hk3.below_ hb4;have hk5:=hk4.alloc (.cells #[.int .i64 q.id, .int .i64 q.node, .int .i64 q.l.a, .int .i64 (H+1), .int .i64 q.l.m] 164);have HB4:=Lib.hid hb4;have HO3c:=Lib.hid ((((HO3b.out.alloc (.cells #[.int .i64 q.id, .int .i64 q.node, .int .i64 q.l.a, .int .i64 q.l.b, .int .i64 q.l.m] 164)).drew.step HK3.out (by unfold only;omega)).below_ hb4).alloc (.cells #[.int .i64 q.id, .int .i64 q.node, .int .i64 q.l.a, .int .i64 (H+1), .int .i64 q.l.m] 164));have HRE:=Lib.hid (Reads.newAt w4 164 5 1 [.int .i64 q.id, .int .i64 q.node, .int .i64 q.l.a, .int .i64 (H+1), .int .i64 q.l.m] #[.int .i64 q.id, .int .i64 q.node, .int .i64 q.l.a, .int .i64 (H+1), .int .i64 q.l.m] _ rfl rfl rfl);clear hb4))
       | (refine step_append_S _ rfl (.tmp 34) (.tmp 38) 68 rfl 164 i0 _ 5 40 Tryz.underlying68 hi hz0 hz1 hz2 rfl (by omega) (.slice D3 G.claims.length e3) G.claims.length (wqcells G.claims) rfl HO3c.out (some ⟨w4.heap.size,0,none⟩) 1 1 [.int .i64 q.id, .int .i64 q.node, .int .i64 q.l.a, .int .i64 (H+1), .int .i64 q.l.m] rfl HRE.out (by simp [Value.oneCell']) (by unfold maxLen;omega) (by omega) ?_;intro v6 w6 hown hk hg hat;obtain ⟨A6,cap6,rfl,_,_⟩:=own_form' hown;have hk6:=hk5.step hk (by unfold only;omega);have HA6:=Lib.hid hown;have HK6:=Lib.hid hk;clear hown hk hg hat))
    have HT6:=Lib.hid (((((HTb.out.alloc (.cells #[.int .i64 q.id, .int .i64 q.node, .int .i64 q.l.a, .int .i64 q.l.b, .int .i64 q.l.m] 164)).drew.step HK3.out (by unfold only tabC;omega)).below_ HB4.out).alloc (.cells #[.int .i64 q.id, .int .i64 q.node, .int .i64 q.l.a, .int .i64 (H+1), .int .i64 q.l.m] 164)).step HK6.out (by unfold only tabC;omega))
    have HO16:=Lib.hid (((((HO1b.out.alloc (.cells #[.int .i64 q.id, .int .i64 q.node, .int .i64 q.l.a, .int .i64 q.l.b, .int .i64 q.l.m] 164)).drew.step HK3.out (by unfold only;omega)).below_ HB4.out).alloc (.cells #[.int .i64 q.id, .int .i64 q.node, .int .i64 q.l.a, .int .i64 (H+1), .int .i64 q.l.m] 164)).step HK6.out (by unfold only;omega))
    have HO26:=Lib.hid (((HA3.out.below_ HB4.out).alloc (.cells #[.int .i64 q.id, .int .i64 q.node, .int .i64 q.l.a, .int .i64 (H+1), .int .i64 q.l.m] 164)).step HK6.out (by unfold only;omega))
    have HF6:=Lib.hid (((((HFb.out.alloc (.cells #[.int .i64 q.id, .int .i64 q.node, .int .i64 q.l.a, .int .i64 q.l.b, .int .i64 q.l.m] 164)).drew.step HK3.out).below HB4.out).alloc (.cells #[.int .i64 q.id, .int .i64 q.node, .int .i64 q.l.a, .int .i64 (H+1), .int .i64 q.l.m] 164)).step HK6.out)
    have HST6:=Lib.hid ((((((HSTb.out.alloc (.cells #[.int .i64 q.id, .int .i64 q.node, .int .i64 q.l.a, .int .i64 q.l.b, .int .i64 q.l.m] 164)).drew.trans (HK3.out.mono (fun x h=>by unfold only at h;unfold tabD;omega))).trans (Step.of_below _ _ HB4.out)).alloc (.cells #[.int .i64 q.id, .int .i64 q.node, .int .i64 q.l.a, .int .i64 (H+1), .int .i64 q.l.m] 164))).trans (HK6.out.mono (fun x h=>by unfold only at h;unfold tabD;omega)))
    clear q0 q1 q2 q3 q4 r0 r1 r2 r3 r4 y0 y1 y2 y3 y4 hk3 hk4 hk5 hk6 HO1b HO2b HO3b HTb HFb HSTb HQ2 HQ3
    go_wp2_with fail
    go_roundg (T.waits.length - (i+1))
    case measure=>have:=HNI.out;omega
    case rel=>exact ⟨i+1,{G with left:=G.left ++ [q],claims:=G.claims ++ [claimW q H]},D1,A3,A6,e1,cap3,cap6,_,by omega,by go_num,Lib.hid HN.out.symm,rfl,by rw [show (G.left ++ [q]).length=G.left.length+1 by simp],by rw [show (G.claims ++ [claimW q H]).length=G.claims.length+1 by simp],HO16.out,by rw [show (G.left ++ [q]).length=G.left.length+1 by simp,wqcells_app];exact HO26.out,by rw [show (G.claims ++ [claimW q H]).length=G.claims.length+1 by simp,wqcells_app];exact HA6.out,HT6.out,HF6.out,HST6.out⟩
   ·have d2:decide (H<q.l.b)=false:=decide_eq_false hlt2
    have HN:=Lib.hid (HNX.out.trans (HSD.out.trans (if_neg hlt2)))
    rw [d2]
    clear hlt2 d2 HSD HNX
    go_upto_region 8 with (fail)
    rw [HQN.out] at y1
    go_wp2_with fail
    have hcd0:=HDC.out
    have hc1:=HC.out
    have ch:=HTb.out.ch hqn16
    have q0:w2.drew.cell? ⟨t,1+qn,none⟩=some (.pointer (some ⟨hp qn,0,none⟩)):=ch
    have q1:w2.drew.cell? ⟨gq,1,none⟩=some (.int .i64 (qn:Nat)):=y1
    have q2:w2.drew.cell? ⟨gq,2,none⟩=some (.int .i64 q.l.a):=y2
    have q3:w2.drew.cell? ⟨gq,3,none⟩=some (.int .i64 q.l.b):=y3
    have q4:w2.drew.cell? ⟨gq,4,none⟩=some (.int .i64 q.l.m):=y4
    have HCR:=Lib.hid (mdraise_any HFb.out.drew (by omega) (HTb.out.drew.held qn hqn16) (HGW2.out.wf.held qn) q.l HQR.out.1 HQR.out.2.1)
    go_region_held3 (fun w'=>w'.cell? ⟨t,1+qn,none⟩=some (.pointer (some ⟨hp qn,0,none⟩))∧w'.cell? ⟨gq,1,none⟩=some (.int .i64 (qn:Nat))∧w'.cell? ⟨gq,2,none⟩=some (.int .i64 q.l.a)∧w'.cell? ⟨gq,3,none⟩=some (.int .i64 q.l.b)∧w'.cell? ⟨gq,4,none⟩=some (.int .i64 q.l.m))
     (first | exact ⟨q0,q1,q2,q3,q4⟩ | exact ⟨g0,g1,g2,g3,g4⟩ | go_keep)
     ((go_at_call 157;((with_reducible refine HCR.out.mono ?_);rintro e w5 ⟨rfl,o5,hi5,hs5⟩;have ht5:=HTb.out.drew.hold hi5 hs5;have HT5:=Lib.hid ht5;have HS5:=Lib.hid hs5;have g0:=ht5.ch hqn16;have hq5:=HQ2.out.drew.step hs5 (by unfold only;omega);have HQ5:=Lib.hid hq5;have g1:w5.cell? ⟨gq,1,none⟩=some (.int .i64 (qn:Nat)):=hq5.1.five.2.1.trans (congrArg (fun x=>some (Value.int .i64 x)) HQN.out);obtain ⟨_,_,g2,g3,g4⟩:=hq5.1.five;clear hi5 hs5 ht5 hq5)))
    have HO15:=Lib.hid (HO1b.out.drew.step HS5.out (by unfold only;omega))
    have HO25:=Lib.hid (HO2b.out.drew.step HS5.out (by unfold only;omega))
    have HO35:=Lib.hid (HO3b.out.drew.step HS5.out (by unfold only;omega))
    have HF5:=Lib.hid (HFb.out.drew.step HS5.out)
    have HST5:=Lib.hid (HSTb.out.drew.trans (HS5.out.mono (fun x h => .inl (only_tab hqn16 x h))))
    clear q0 q1 q2 q3 q4 g0 g1 g2 g3 g4 y0 y1 y2 y3 y4 ch HCR HO1b HO2b HO3b HTb HFb HSTb HQ2
    obtain ⟨y0,y1,y2,y3,y4⟩:=HQ5.out.1.five
    have HO15a:=Lib.hid (HO15.out.alloc (.cells #[.int .i64 q.id, .int .i64 q.node, .int .i64 q.l.a, .int .i64 q.l.b, .int .i64 q.l.m] 164))
    go_wp2_with (at_builtin;refine wpList_append_S _ rfl (.tmp 50) (.tmp 52) 68 rfl 164 i0 _ 5 40 Tryz.underlying68 hi hz0 hz1 hz2 rfl (by omega) (.slice D1 G.out.length e1) G.out.length (wqcells G.out) rfl HO15a.out (some ⟨w5.heap.size,0,none⟩) 1 1 [.int .i64 q.id, .int .i64 q.node, .int .i64 q.l.a, .int .i64 q.l.b, .int .i64 q.l.m] rfl (Reads.newAt w5 164 5 1 _ #[.int .i64 q.id, .int .i64 q.node, .int .i64 q.l.a, .int .i64 q.l.b, .int .i64 q.l.m] _ rfl rfl rfl) (by simp [Value.oneCell']) (by unfold maxLen;omega) (by omega) ?_;intro v7 w7 hown7 hst7 hgr7 hat7;obtain ⟨A7,cap7,rfl,_,_⟩:=own_form' hown7;have HW7:=Lib.hid hown7;have HS7:=Lib.hid hst7;clear hown7 hst7 hgr7 hat7)
    have HT7:=Lib.hid ((HT5.out.alloc (.cells #[.int .i64 q.id, .int .i64 q.node, .int .i64 q.l.a, .int .i64 q.l.b, .int .i64 q.l.m] 164)).step HS7.out (by unfold only tabC;omega))
    have HO27:=Lib.hid ((HO25.out.alloc (.cells #[.int .i64 q.id, .int .i64 q.node, .int .i64 q.l.a, .int .i64 q.l.b, .int .i64 q.l.m] 164)).step HS7.out (by unfold only;omega))
    have HO37:=Lib.hid ((HO35.out.alloc (.cells #[.int .i64 q.id, .int .i64 q.node, .int .i64 q.l.a, .int .i64 q.l.b, .int .i64 q.l.m] 164)).step HS7.out (by unfold only;omega))
    have HF7:=Lib.hid ((HF5.out.alloc (.cells #[.int .i64 q.id, .int .i64 q.node, .int .i64 q.l.a, .int .i64 q.l.b, .int .i64 q.l.m] 164)).step HS7.out)
    have HST7:=Lib.hid ((HST5.out.alloc (.cells #[.int .i64 q.id, .int .i64 q.node, .int .i64 q.l.a, .int .i64 q.l.b, .int .i64 q.l.m] 164)).trans (HS7.out.mono (fun x h=>by unfold only at h;unfold tabD;omega)))
    go_roundg (T.waits.length - (i+1))
    case measure=>have:=HNI.out;omega
    case rel=>exact ⟨i+1,{G with out:=G.out ++ [q],T:=G.T.raise qn q.l},A7,D2,D3,cap7,e2,e3,_,by omega,by go_num,Lib.hid HN.out.symm,by rw [show (G.out ++ [q]).length=G.out.length+1 by simp],rfl,rfl,by rw [show (G.out ++ [q]).length=G.out.length+1 by simp,wqcells_app];exact HW7.out,HO27.out,HO37.out,HT7.out,HF7.out,HST7.out⟩
  ·have hltI:¬(i:Int)<(T.waits.length:Int):=by omega
   obtain rfl:i=T.waits.length:=by have:=HNI.out;omega
   have c18:=HT.out.c18
   have f18:=HT.out.blk.frozen 18
   have HGE:=Lib.hid (show T.grantG=G by rw [HGG.out,HG.out,List.take_length])
   obtain ⟨ht9,hs9⟩:=HT.out.left HST.out HD.out HF0.out HDC.out HO2.out
   have hs1:Step oL (only c) wr oL (wr.setCell ⟨t,18,none⟩ (.slice D2 G.left.length e2)):=(Step.refl oL (only c) wr).setCell (p:=⟨t,18,none⟩) HT.out.col _
   have ho9:=(HO1.out.step hs1 (by have:=HDC.out;unfold only;omega)).recolor (o2:=recol oL d c) (c2:=0) (fun k hk=>by unfold recol;rw [if_neg (by omega),if_pos (.inl hk)])
   have HT9:=Lib.hid ht9
   have HS9:=Lib.hid hs9
   have HO9:=Lib.hid ho9
   have HRE:=Lib.hid (show R=(G.out,{G.T with waits:=G.left}) by rw [HGD.out,HGE.out])
   clear ht9 hs9 hs1 ho9
   go_wp2_with fail
   go_ret
   exact ⟨D1,e1,by rw [HRE.out];first | done | rfl,recol oL d c,by rw [HRE.out];exact HO9.out,⟨hp,D2,e2,by rw [HRE.out];exact HT9.out⟩,HS9.out⟩
end
def PrWq (o:Nat→Nat) (c:Nat) (g:Nat) (lb:Array Value) (l:List Wq) (q:Wq→Bool) (w:World):Prop:=∀(W:World) (s:Wq),s∈l→Step o (only c) w o W→Calls Tryz.prog g (#[.agg #[.int .i64 s.id, .int .i64 s.node, .int .i64 s.l.a, .int .i64 s.l.b, .int .i64 s.l.m]]++lb) W fun e w'=>e = .returned (.bool (q s))∧Below W.heap.size W w'
section
variable {w:World} {o:Nat→Nat} {c:Nat}
theorem waits_size (x:Wq):(Wq.cells x).length=5:=rfl
set_option maxRecDepth 100000 in
set_option maxHeartbeats 2000000 in
theorem idxwaits_any (g:Nat) (lb:Array Value) (eg:∀args w,(callFunc g args).run Tryz.prog w = .ok (.enter g args) w) (l:List Wq) (q:Wq→Bool) (A:Option Addr) (cap:Nat) (h:OwnS o c w 164 5 (.slice A l.length cap) l.length (wqcells l)) (hl:l.length≤1000000) (hp:PrWq o c g lb l q w) :
 Calls Tryz.prog 204 #[.slice A l.length cap, .func (.func g) #[] lb] w fun e w'=>e = .returned (.int .i64 (idxI q l))∧Below w.heap.size w w':=by
 have HR:=Lib.hid h
 have HP:=Lib.hid hp
 have hlI:(l.length:Int)≤1000000:=by omega
 clear h hp hl
 go_enter Tryz.func204,Tryz.ntmps204
 go_wp2_with fail
 go_loopg [8] l.length (fun n t8 wr=>∃i:Nat,n+i=l.length∧t8 = .int .i64 (i:Nat)∧(∀x∈l.take i,q x=false)∧Hid (Below w.heap.size w wr))
 case atStart=>exact ⟨0,by omega,rfl,by simp,Lib.hid (Below.refl _ _)⟩
 case round =>
  obtain ⟨i,hni,rfl,hno,HB⟩:=hrel
  have HNI:=Lib.hid hni
  have HNO:=Lib.hid hno
  clear hni hno
  by_cases hlt:i<l.length
  ·have hltI:(i:Int)<(l.length:Int):=by omega
   obtain ⟨s,hs⟩:∃s,l[i]? = some s:=⟨_,List.getElem?_eq_getElem hlt⟩
   obtain ⟨gb,cur,rfl,_⟩:=HR.out.blk (by omega)
   have HOWN:=Lib.hid (HR.out.below_ HB.out)
   have hat:∀k u,(Wq.cells s)[k]? = some u→(wqcells l)[i*5+k]? = some u:=fun k u hk=>flatS_at waits_size hs hk
   have x0:wr.cell? ⟨gb,i*5,none⟩=some (.int .i64 s.id):=HOWN.out.at_ (hat 0 _ rfl)
   have x1:wr.cell? ⟨gb,i*5+1,none⟩=some (.int .i64 s.node):=HOWN.out.at_ (hat 1 _ rfl)
   have x2:wr.cell? ⟨gb,i*5+2,none⟩=some (.int .i64 s.l.a):=HOWN.out.at_ (hat 2 _ rfl)
   have x3:wr.cell? ⟨gb,i*5+3,none⟩=some (.int .i64 s.l.b):=HOWN.out.at_ (hat 3 _ rfl)
   have x4:wr.cell? ⟨gb,i*5+4,none⟩=some (.int .i64 s.l.m):=HOWN.out.at_ (hat 4 _ rfl)
   have HC:=Lib.hid (HP.out wr s (List.mem_of_getElem? hs) (Step.of_below o _ HB.out))
   have HS:=Lib.hid hs
   clear hat hs
   by_cases hq:q s=true
   ·have HI:=Lib.hid (idxI_at HNO.out HS.out hq)
    go_wp2_with (go_at_fn g;refine HC.out.mono ?_;rintro e w2 ⟨rfl,hb2⟩;have HB2:=Lib.hid (HB.out.trans (hb2.mono HB.out.size));clear hb2)
    go_ret
    exact ⟨by rw [HI.out];first | done | rfl,HB2.out⟩
   ·have hq:q s=false:=Bool.eq_false_iff.2 hq
    have HN2:=Lib.hid (take_no HNO.out HS.out hq)
    go_wp2_with (go_at_fn g;refine HC.out.mono ?_;rintro e w2 ⟨rfl,hb2⟩;have HB2:=Lib.hid (HB.out.trans (hb2.mono HB.out.size));clear hb2)
    go_roundg (l.length - (i+1))
    case measure=>have:=HNI.out;omega
    case rel=>exact ⟨i+1,by omega,by go_num,HN2.out,HB2⟩
  ·have hltI:¬(i:Int)<(l.length:Int):=by omega
   have HI:=Lib.hid (idxI_no (l:=l) (q:=q) (fun x hx=>HNO.out x (by rw [List.take_of_length_le (by omega)];exact hx)))
   go_wp2_with fail
   go_ret
   exact ⟨by rw [HI.out];first | done | rfl,HB.out⟩
set_option maxRecDepth 100000 in
set_option maxHeartbeats 4000000 in
theorem delwaits_any (g:Nat) (lb:Array Value) (eg:∀args w,(callFunc g args).run Tryz.prog w = .ok (.enter g args) w) (l:List Wq) (q:Wq→Bool) (A:Option Addr) (cap:Nat) (h:OwnS o c w 164 5 (.slice A l.length cap) l.length (wqcells l)) (hl:l.length≤1000000) (hp:PrWq o c g lb l q w) :
 Calls Tryz.prog 158 #[.slice A l.length cap, .func (.func g) #[] lb] w fun e w'=>e = .returned (.slice A (l.filter (fun x => !q x)).length cap)∧OwnS o c w' 164 5 (.slice A (l.filter (fun x => !q x)).length cap) (l.filter (fun x => !q x)).length (wqcells (l.filter (fun x => !q x)))∧Step o (only c) w o w':=by
 have HI:=Lib.hid (idxwaits_any g lb eg l q A cap h hl hp)
 have HR:=Lib.hid h
 have HP:=Lib.hid hp
 have hlI:(l.length:Int)≤1000000:=by omega
 rcases idx_cases q l with ⟨hi,hn⟩ | ⟨i0,hi,hlt0,hT,hF⟩
 ·have HF:=Lib.hid (filter_all_no hn)
  rw [hi] at HI
  clear h hp hl hi hn
  go_enter Tryz.func158,Tryz.ntmps158
  go_wp2_with fail
  refine HI.out.mono ?_
  rintro e w1 ⟨rfl,hb⟩
  have HB:=Lib.hid hb
  clear hb
  go_wp2_with fail
  go_ret
  exact ⟨by rw [HF.out];rfl,by rw [HF.out];exact HR.out.below_ HB.out,Step.of_below o _ HB.out⟩
 ·rw [hi] at HI
  have e0:((i0:Int) == -1)=false:=by
   simp
  obtain ⟨gb,cur,rfl,_,hgc,hcap,hcm,_⟩:=h.blk (by omega)
  have HGC:=Lib.hid hgc
  have HT:=Lib.hid hT
  have HFF:=Lib.hid hF
  have HLT0:=Lib.hid hlt0
  have hcapI:(l.length:Int)≤(cap:Int):=by omega
  have HCM:=Lib.hid hcm
  have hi0I:(i0:Int)<1000000:=by omega
  clear h hp hl hi hgc hT hF hcm
  go_enter Tryz.func158,Tryz.ntmps158
  go_wp2_with fail
  refine HI.out.mono ?_
  rintro e w1 ⟨rfl,hb⟩
  have HB:=Lib.hid hb
  clear hb
  go_wp2_with fail
  go_loopg [5,6] (l.length - (i0+1)) (fun n t5 t6 wr=>∃(i j:Nat) (M:List Wq),n+j=l.length∧i<j∧t5 = .int .i64 (i:Nat)∧t6 = .int .i64 (j:Nat)∧M.length=l.length∧M.take i=(l.take j).filter (fun x => !q x)∧M.drop j=l.drop j∧OwnS o c wr 164 5 (.slice (some ⟨gb,0,none⟩) l.length cap) l.length (wqcells M)∧Step o (only c) w o wr)
  case atStart=>exact ⟨i0,i0+1,l,by have:=HLT0.out;omega,by omega,rfl,by go_num,rfl,HT.out,rfl,HR.out.below_ HB.out,Step.of_below o _ HB.out⟩
  case round =>
   obtain ⟨i,j,M,hnj,hij,rfl,rfl,hML,hMT,hMD,hown,hst⟩:=hrel
   have HNJ:=Lib.hid hnj
   have HMT:=Lib.hid hMT
   have HMD:=Lib.hid hMD
   have HOWN:=Lib.hid hown
   have HST:=Lib.hid hst
   have HML:=Lib.hid hML
   clear hnj hMT hMD hown hst hML
   by_cases hlt:j<l.length
   ·have hltI:(j:Int)<(l.length:Int):=by omega
    have hijI:(i:Int)<(j:Int):=by omega
    obtain ⟨s,hs⟩:∃s,l[j]? = some s:=⟨_,List.getElem?_eq_getElem hlt⟩
    have hsM:M[j]? = some s:=drop_get HMD.out hs
    have hat:∀k u,(Wq.cells s)[k]? = some u→(wqcells M)[j*5+k]? = some u:=fun k u hk=>flatS_at waits_size hsM hk
    have x0:wr.cell? ⟨gb,j*5,none⟩=some (.int .i64 s.id):=HOWN.out.at_ (hat 0 _ rfl)
    have x1:wr.cell? ⟨gb,j*5+1,none⟩=some (.int .i64 s.node):=HOWN.out.at_ (hat 1 _ rfl)
    have x2:wr.cell? ⟨gb,j*5+2,none⟩=some (.int .i64 s.l.a):=HOWN.out.at_ (hat 2 _ rfl)
    have x3:wr.cell? ⟨gb,j*5+3,none⟩=some (.int .i64 s.l.b):=HOWN.out.at_ (hat 3 _ rfl)
    have x4:wr.cell? ⟨gb,j*5+4,none⟩=some (.int .i64 s.l.m):=HOWN.out.at_ (hat 4 _ rfl)
    have HS:=Lib.hid hs
    have HBX:=Lib.hid (Blk.new wr 164 #[.int .i64 s.id, .int .i64 s.node, .int .i64 s.l.a, .int .i64 s.l.b, .int .i64 s.l.m])
    have HOW1:=Lib.hid (HOWN.out.alloc (.cells #[.int .i64 s.id, .int .i64 s.node, .int .i64 s.l.a, .int .i64 s.l.b, .int .i64 s.l.m] 164))
    have HST1:=Lib.hid (HST.out.alloc (.cells #[.int .i64 s.id, .int .i64 s.node, .int .i64 s.l.a, .int .i64 s.l.b, .int .i64 s.l.m] 164))
    have HNE:=Lib.hid (show gb≠wr.heap.size from fun e=>by
     have:=HOWN.out.lt gb rfl
     omega)
    have HC:=Lib.hid (HP.out _ s (List.mem_of_getElem? HS.out) HST1.out)
    clear hat hs hsM HOWN HST
    go_upto_region 8 with (fail)
    generalize wr.alloc (.cells #[.int .i64 s.id, .int .i64 s.node, .int .i64 s.l.a, .int .i64 s.l.b, .int .i64 s.l.m] 164)=W1 at HBX HOW1 HST1 HC ⊢
    generalize wr.heap.size=X at HBX HNE ⊢
    clear x0 x1 x2 x3 x4
    have y0:=HBX.out.cell 0
    have y1:=HBX.out.cell 1
    have y2:=HBX.out.cell 2
    have y3:=HBX.out.cell 3
    have y4:=HBX.out.cell 4
    simp only [List.getElem?_toArray,List.getElem?_cons_zero,List.getElem?_cons_succ] at y0 y1 y2 y3 y4
    by_cases hq:q s=true
    ·rw [hq] at HC
     have HFN:=Lib.hid (filter_skip HMT.out HS.out hq)
     have HDN:=Lib.hid (drop_next HMD.out)
     go_wp2_with (go_at_fn g;refine HC.out.mono ?_;rintro e w2 ⟨rfl,hb2⟩;have HB2:=Lib.hid hb2;clear hb2)
     go_roundg (l.length - (j+1))
     case measure=>have:=HNJ.out;omega
     case rel=>exact ⟨i,j+1,M,by omega,by omega,rfl,by go_num,HML.out,HFN.out,HDN.out,HOW1.out.below_ HB2.out,HST1.out.trans (Step.of_below o _ HB2.out)⟩
    ·have hq:q s=false:=Bool.eq_false_iff.2 hq
     rw [hq] at HC
     have HFN:=Lib.hid (filter_take (v:=s) HMT.out HS.out hq hij hlt HML.out)
     have HDN:=Lib.hid (drop_setM (v:=s) (i:=i) HMD.out hij)
     go_upto_region 9 with (go_at_fn g;refine HC.out.mono ?_;rintro e w2 ⟨rfl,hb2⟩;have HB2:=Lib.hid hb2;clear hb2)
     have HOW2:=Lib.hid (HOW1.out.below_ HB2.out)
     obtain ⟨gb',cur2,hg2,hb2,_,hc1,_,hc3,_⟩:=HOW2.out.blk (by omega)
     injection hg2 with hg2
     injection hg2 with hg2
     subst hg2
     have hkn:(i+1)*5≤l.length*5:=Nat.mul_le_mul_right _ (by omega)
     have hkc:l.length*5≤cap*5:=Nat.mul_le_mul_right _ hc1
     obtain ⟨u0,p0⟩:∃u,w2.cell? ⟨gb,i*5,none⟩=some u:=hb2.cell_some (by omega)
     obtain ⟨u1,p1⟩:∃u,w2.cell? ⟨gb,i*5+1,none⟩=some u:=hb2.cell_some (by omega)
     obtain ⟨u2,p2⟩:∃u,w2.cell? ⟨gb,i*5+2,none⟩=some u:=hb2.cell_some (by omega)
     obtain ⟨u3,p3⟩:∃u,w2.cell? ⟨gb,i*5+3,none⟩=some u:=hb2.cell_some (by omega)
     obtain ⟨u4,p4⟩:∃u,w2.cell? ⟨gb,i*5+4,none⟩=some u:=hb2.cell_some (by omega)
     have f0:=hb2.frozen (i*5)
     have f1:=hb2.frozen (i*5+1)
     have f2:=hb2.frozen (i*5+2)
     have f3:=hb2.frozen (i*5+3)
     have f4:=hb2.frozen (i*5+4)
     have HBY:=HBX.out.below_ HB2.out
     have z0:=HBY.cell 0
     have z1:=HBY.cell 1
     have z2:=HBY.cell 2
     have z3:=HBY.cell 3
     have z4:=HBY.cell 4
     simp only [List.getElem?_toArray,List.getElem?_cons_zero,List.getElem?_cons_succ] at z0 z1 z2 z3 z4
     have hset:=HOW2.out.setAt waits_size HML.out (show i<l.length by omega) s
     have HN:=Lib.hid (show OwnS o c (((((w2.setCell ⟨gb,i*5,none⟩ (.int .i64 s.id)).setCell ⟨gb,i*5+1,none⟩ (.int .i64 s.node)).setCell ⟨gb,i*5+2,none⟩ (.int .i64 s.l.a)).setCell ⟨gb,i*5+3,none⟩ (.int .i64 s.l.b)).setCell ⟨gb,i*5+4,none⟩ (.int .i64 s.l.m)) 164 5 (.slice (some ⟨gb,0,none⟩) l.length cap) l.length (wqcells (M.set i s)) from hset)
     have HST2:=Lib.hid (show Step o (only c) w o (((((w2.setCell ⟨gb,i*5,none⟩ (.int .i64 s.id)).setCell ⟨gb,i*5+1,none⟩ (.int .i64 s.node)).setCell ⟨gb,i*5+2,none⟩ (.int .i64 s.l.a)).setCell ⟨gb,i*5+3,none⟩ (.int .i64 s.l.b)).setCell ⟨gb,i*5+4,none⟩ (.int .i64 s.l.m)) from (HST1.out.trans (Step.of_below o _ HB2.out)).trans (setCells_step (i:=i*5) (vs:=Wq.cells s) HGC.out))
     have hne:=HNE.out
     clear hset hb2 HBY hkn hkc hc1 hc3
     go_wp2_with fail
     go_roundg (l.length - (j+1))
     case measure=>have:=HNJ.out;omega
     case rel=>exact ⟨i+1,j+1,M.set i s,by omega,by omega,by go_num,by go_num,by rw [List.length_set];exact HML.out,HFN.out,HDN.out,HN.out,HST2.out⟩
   ·have hltI:¬(j:Int)<(l.length:Int):=by omega
    obtain rfl:j=l.length:=by have:=HNJ.out;omega
    obtain ⟨hk1,hk2⟩:=take_all HMT.out (Nat.le_refl _) (by rw [HML.out];omega)
    have hcapi:¬cap=i:=by omega
    obtain ⟨w3,hclr,hcut,hst3⟩:=run_clear_rows (P:=Tryz.prog) HOWN.out 68 _ Tryz.underlying68 Tryz.zeroValue164 (by rfl) (by simp [Value.cells,Value.oneCell']) hij (by omega) (cap - i)
    have hclr2:=fun ty=>hclr gb ty rfl
    have htk:(wqcells M).take (i*5)=wqcells (l.filter (fun x => !q x)):=(flatS_take waits_size M i).trans (by rw [hk1];rfl)
    rw [htk] at hcut
    have HCUT:=Lib.hid hcut
    have HK2:=Lib.hid hk2
    have HST3:=Lib.hid (HST.out.trans hst3)
    clear hclr hcut hst3 hk1 hk2 htk
    go_wp2_with fail
    go_ret
    exact ⟨by rw [HK2.out];rfl,by rw [HK2.out];exact HCUT.out,HST3.out⟩
end
section
variable {o o':Nat→Nat} {c d:Nat} {w w':World} {t:Nat} {T:Tb} {hp:Nat→Nat} {A:Option Addr} {cap:Nat}
theorem TbIn.waits_set {o1:Nat→Nat} {w1:World} (h:TbIn o c w t T hp A cap) {D:Option Addr} {cap2:Nat} {L:List Wq} (hs:Step o (only (c+1)) w o1 w1) (ho:OwnS o1 (c+1) w1 164 5 (.slice D L.length cap2) L.length (wqcells L)) :
 TbIn o1 c (w1.setCell ⟨t,18,none⟩ (.slice D L.length cap2)) t {T with waits:=L} hp D cap2∧Step o (tabC c) w o1 (w1.setCell ⟨t,18,none⟩ (.slice D L.length cap2)):=by
 have hb2:=h.blk.step hs (by rw [h.col];unfold only;omega)
 have ht1:o1 t=c:=(hs.old t h.blk.lt).trans h.col
 have hs3:Step o1 (only c) w1 o1 (w1.setCell ⟨t,18,none⟩ (.slice D L.length cap2)):=(Step.refl o1 (only c) w1).setCell (p:=⟨t,18,none⟩) ht1 _
 refine ⟨⟨hb2.set_ 18 _,ht1,ho.step hs3 (by unfold only;omega),fun i hi=>((h.held i hi).step hs (by unfold only;omega)).step hs3 (by unfold only;omega)⟩,?_⟩
 exact (hs.mono (fun x h=>by unfold only at h;unfold tabC;omega)).trans (hs3.mono (fun x h=>by unfold only at h;unfold tabC;omega))
theorem TbWf.filter {T:Tb} (h:TbWf T) (q:Wq→Bool):TbWf {T with waits:=T.waits.filter q} :=
 ⟨h.nodes,h.held,fun x hx=>h.waits x (List.mem_filter.1 hx).1,Nat.le_trans (List.length_filter_le _ _) h.many,h.last⟩
theorem cancel1_pr {gb:Nat} {id:Int} (hk:Keep o w gb 3 #[.int .i64 id]) (hc:c≠0) (l:List Wq):PrWq o c 239 #[.pointer (some ⟨gb,0,none⟩)] l (fun s=>decide (s.id=id)) w:=fun W s _ hst=>by
 show Calls Tryz.prog 239 #[.agg #[.int .i64 s.id, .int .i64 s.node, .int .i64 s.l.a, .int .i64 s.l.b, .int .i64 s.l.m], .pointer (some ⟨gb,0,none⟩)] W fun e w'=>e = .returned (.bool (decide (s.id=id)))∧Below W.heap.size W w'
 have hk2:=(hk.step hst (by unfold only;omega)).1
 have HB:=Lib.hid ((Below.refl W.heap.size W).alloc (Nat.le_refl _) (.cells #[.int .i64 s.id, .int .i64 s.node, .int .i64 s.l.a, .int .i64 s.l.b, .int .i64 s.l.m] 164))
 have x0:(W.alloc (.cells #[.int .i64 s.id, .int .i64 s.node, .int .i64 s.l.a, .int .i64 s.l.b, .int .i64 s.l.m] 164)).cell? ⟨gb,0,none⟩=some (.int .i64 id):=(hk2.alloc _).cell 0
 clear hk2 hst
 by_cases h:s.id=id
 ·have b1:(s.id == id)=true:=by simp [h]
  have HS:=Lib.hid (decide_eq_true h)
  clear h
  go_enter Tryz.func239,Tryz.ntmps239
  go_wp2_with fail
  go_ret
  exact ⟨by rw [HS.out];first | done | rfl,HB.out⟩
 ·have b1:(s.id == id)=false:=by simp [h]
  have HS:=Lib.hid (decide_eq_false h)
  clear h
  go_enter Tryz.func239,Tryz.ntmps239
  go_wp2_with fail
  go_ret
  exact ⟨by rw [HS.out];first | done | rfl,HB.out⟩
theorem drop1_pr {gb:Nat} {id:Int} (hk:Keep o w gb 3 #[.int .i64 id]) (hc:c≠0) (l:List Wq):PrWq o c 159 #[.pointer (some ⟨gb,0,none⟩)] l (fun s=>decide (s.node=id)) w:=fun W s _ hst=>by
 show Calls Tryz.prog 159 #[.agg #[.int .i64 s.id, .int .i64 s.node, .int .i64 s.l.a, .int .i64 s.l.b, .int .i64 s.l.m], .pointer (some ⟨gb,0,none⟩)] W fun e w'=>e = .returned (.bool (decide (s.node=id)))∧Below W.heap.size W w'
 have hk2:=(hk.step hst (by unfold only;omega)).1
 have HB:=Lib.hid ((Below.refl W.heap.size W).alloc (Nat.le_refl _) (.cells #[.int .i64 s.id, .int .i64 s.node, .int .i64 s.l.a, .int .i64 s.l.b, .int .i64 s.l.m] 164))
 have x0:(W.alloc (.cells #[.int .i64 s.id, .int .i64 s.node, .int .i64 s.l.a, .int .i64 s.l.b, .int .i64 s.l.m] 164)).cell? ⟨gb,0,none⟩=some (.int .i64 id):=(hk2.alloc _).cell 0
 clear hk2 hst
 by_cases h:s.node=id
 ·have b1:(s.node == id)=true:=by simp [h]
  have HS:=Lib.hid (decide_eq_true h)
  clear h
  go_enter Tryz.func159,Tryz.ntmps159
  go_wp2_with fail
  go_ret
  exact ⟨by rw [HS.out];first | done | rfl,HB.out⟩
 ·have b1:(s.node == id)=false:=by simp [h]
  have HS:=Lib.hid (decide_eq_false h)
  clear h
  go_enter Tryz.func159,Tryz.ntmps159
  go_wp2_with fail
  go_ret
  exact ⟨by rw [HS.out];first | done | rfl,HB.out⟩
theorem twaits_any (h:TbIn o c w t T hp A cap) (wf:TbWf T) :
 Calls Tryz.prog 162 #[.pointer (some ⟨t,0,none⟩)] w fun e w'=>∃D cap',e = .returned (.slice D T.waits.length cap')∧w'.ownsRow w.heap.size 164 5 (.slice D T.waits.length cap') T.waits.length (wqcells T.waits)∧Below w.heap.size w w':=by
 have c18:=h.c18
 have hwl:=wf.many
 have HO:=Lib.hid h.waits
 clear h wf
 go_enter Tryz.func162,Tryz.ntmps162
 go_wp2_with fail
 refine (clone_own (P:=Tryz.prog) (ρ:=Tryz.clWq_ren) Tryz.clWq info_wq rfl (by omega) (by omega) Tryz.sizeOf164 HO.out (by omega) (wqcells_one T.waits)).mono ?_
 rintro e w1 ⟨D,cap',rfl,hr,hb⟩
 have HR:=Lib.hid hr
 have HB:=Lib.hid hb
 clear hr hb
 go_wp2_with fail
 go_ret
 exact ⟨D,cap',rfl,HR.out,HB.out⟩
set_option maxRecDepth 100000 in
set_option maxHeartbeats 8000000 in
theorem tcancel_any (h:TbAt o c w t T) (hf:Fut o w) (hc:1≤c) (wf:TbWf T) (id:Int) :
 Calls Tryz.prog 211 #[.pointer (some ⟨t,0,none⟩), .int .i64 id] w fun e w'=>∃D cap',e = .returned (.tuple #[.slice D (T.cancel id).1.1.length cap', .bool (T.cancel id).1.2])∧∃o',OwnS o' 0 w' 164 5 (.slice D (T.cancel id).1.1.length cap') (T.cancel id).1.1.length (wqcells (T.cancel id).1.1)∧TbAt o' c w' t (T.cancel id).2∧Step o (tabC c) w o' w':=by
 obtain ⟨hp,A,cap,h⟩:=h
 have HW:=Lib.hid wf
 have HC:=Lib.hid hc
 have hwl:=wf.many
 have hwI:(T.waits.length:Int)≤1000:=by omega
 have HT0:=Lib.hid (h.alloc (.cells #[.int .i64 id] 3))
 have HK0:=Lib.hid (Keep.new hf 3 #[.int .i64 id])
 have HF0:=Lib.hid (hf.alloc (.cells #[.int .i64 id] 3))
 have HS0:=Lib.hid ((Step.refl o (tabC c) w).alloc (.cells #[.int .i64 id] 3))
 have HRD:=Lib.hid (show T.cancel id=if (T.waits.filter (fun x => !decide (x.id=id))).length=T.waits.length then (([],false),{T with waits:=T.waits.filter (fun x => !decide (x.id=id))}) else (({T with waits:=T.waits.filter (fun x => !decide (x.id=id))}.grant.1,true),{T with waits:=T.waits.filter (fun x => !decide (x.id=id))}.grant.2) from rfl)
 have HWF:=Lib.hid (wf.filter (fun x => !decide (x.id=id)))
 obtain ⟨R,hR⟩:∃R,T.cancel id=R:=⟨_,rfl⟩
 rw [hR] at HRD ⊢
 have eg:∀args w,(callFunc 239 args).run Tryz.prog w = .ok (.enter 239 args) w:=enters_of Tryz.func239 (by kernel_rfl) rfl
 clear h hf hc wf hR
 go_enter Tryz.func211,Tryz.ntmps211
 go_upto_region 1 with (fail)
 generalize w.alloc (.cells #[.int .i64 id] 3)=W0 at HT0 HK0 HF0 HS0 ⊢
 generalize w.heap.size=gb at HK0 ⊢
 have c18:=HT0.out.c18
 have hd:=delwaits_any 239 #[.pointer (some ⟨gb,0,none⟩)] eg T.waits (fun s=>decide (s.id=id)) A cap HT0.out.waits (by omega) (cancel1_pr HK0.out (by omega) T.waits)
 go_wp2_with fail
 refine hd.mono ?_
 clear hd
 rintro e w1 ⟨rfl,ho1,hs1⟩
 obtain ⟨F,hF⟩:∃F,T.waits.filter (fun x => !decide (x.id=id))=F:=⟨_,rfl⟩
 simp only [hF] at ho1 HRD HWF ⊢
 obtain ⟨ht2,hs2⟩:=HT0.out.waits_set hs1 ho1
 have hb1:Blk w1 t 118 _:=HT0.out.blk.step hs1 (by rw [HT0.out.col];unfold only;omega)
 have k18:w1.cell? ⟨t,18,none⟩=some (.slice A T.waits.length cap):=hb1.cell 18
 have f18:=hb1.frozen 18
 have HT2:=Lib.hid ht2
 have HS2:=Lib.hid (HS0.out.trans hs2)
 have HF2:=Lib.hid (HF0.out.step hs2)
 clear hb1 ho1 hs1 ht2 hs2 hF
 go_upto_region 5 with (fail)
 generalize w1.setCell ⟨t,18,none⟩ (.slice A F.length cap)=W2 at HT2 HS2 HF2 ⊢
 clear k18 f18 c18
 have c18:W2.cell? ⟨t,18,none⟩=some (.slice A F.length cap):=HT2.out.c18
 by_cases hl:F.length=T.waits.length
 ·have hb:((F.length:Int) == (T.waits.length:Int))=true:=by rw [hl];simp
  have HE:=Lib.hid (HRD.out.trans (if_pos hl))
  clear hl
  go_wp2_with fail
  go_ret2
  exact ⟨none,0,by rw [HE.out];first | done | rfl,o,by rw [HE.out];exact OwnS.nil _ _ _ _ _,⟨hp,A,cap,by rw [HE.out];exact HT2.out⟩,HS2.out⟩
 ·have hb:((F.length:Int) == (T.waits.length:Int))=false:=by
   simp
   omega
  have HE:=Lib.hid (HRD.out.trans (if_neg hl))
  clear hl
  go_wp2_with fail
  refine (tgrant_any ⟨hp,A,cap,HT2.out⟩ HF2.out HC.out HWF.out).mono ?_
  rintro e w3 ⟨D3,cap3,rfl,o3,ho3,ht3,hs3⟩
  have HO3:=Lib.hid ho3
  have HT3:=Lib.hid ht3
  have HS3:=Lib.hid (HS2.out.trans hs3)
  clear ho3 ht3 hs3
  go_wp2_with fail
  go_ret2
  exact ⟨D3,cap3,by rw [HE.out];first | done | rfl,o3,by rw [HE.out];exact HO3.out,by rw [HE.out];exact HT3.out,HS3.out⟩
end
theorem Tb.cells_hold (T:Tb) (hp:Nat→Nat) (wv:Value) (k m:Nat) (hk:k≤16):(T.cells hp wv).setIfInBounds (1+k) (ptrV m)=(T.hold k []).cells (fun i=>if i=k then m else hp i) wv:=by
 rcases k with _ | _ | _ | _ | _ | _ | _ | _ | _ | _ | _ | _ | _ | _ | _ | _ | _ | k
 all_goals first | rfl | omega
section
variable {o o':Nat→Nat} {c d:Nat} {w w':World} {t:Nat} {T:Tb} {hp:Nat→Nat} {A:Option Addr} {cap:Nat}
theorem TbIn.fresh {o1:Nat→Nat} {w1:World} (h:TbIn o c w t T hp A cap) {k m:Nat} (hk:k≤16) (hm:ImAt o1 (c+2+k) w1 m []) (hs:Step o (fun _=>False) w o1 w1) :
 TbIn o1 c (w1.setCell ⟨t,1+k,none⟩ (.pointer (some ⟨m,0,none⟩))) t (T.hold k []) (fun i=>if i=k then m else hp i) A cap∧Step o (tabC c) w o1 (w1.setCell ⟨t,1+k,none⟩ (.pointer (some ⟨m,0,none⟩))):=by
 have hb:=h.blk.step hs (fun h=>h)
 have ht1:o1 t=c:=(hs.old t h.blk.lt).trans h.col
 have hs3:Step o1 (only c) w1 o1 (w1.setCell ⟨t,1+k,none⟩ (.pointer (some ⟨m,0,none⟩))):=(Step.refl o1 (only c) w1).setCell (p:=⟨t,1+k,none⟩) ht1 _
 refine ⟨⟨?_,ht1,(h.waits.step hs (fun h=>h)).step hs3 (by unfold only;omega),fun i hi => ?_⟩,?_⟩
 ·rw [←T.cells_hold hp _ k m hk]
  exact hb.set_ (1+k) _
 ·show ImAt o1 (c+2+i) _ (if i=k then m else hp i) (if i=k then [] else T.held i)
  by_cases hik:i=k
  ·subst hik
   rw [if_pos rfl,if_pos rfl]
   exact hm.step hs3 (by unfold only;omega)
  ·rw [if_neg hik,if_neg hik]
   exact ((h.held i hi).step hs (fun h=>h)).step hs3 (by unfold only;omega)
 ·exact (hs.mono (fun x h=>h.elim)).trans (hs3.mono (fun x h=>by unfold only at h;unfold tabC;omega))
theorem TbWf.fresh {T:Tb} (h:TbWf T) (k:Nat):TbWf (T.hold k []):=h.hold wfb_nil
set_option maxRecDepth 100000 in
set_option maxHeartbeats 8000000 in
theorem tdrop_any (h:TbAt o c w t T) (hf:Fut o w) (hc:1≤c) (wf:TbWf T) (k:Nat) (hk1:1≤k) (hkn:k≤T.nodes) :
 Calls Tryz.prog 94 #[.pointer (some ⟨t,0,none⟩), .int .i64 (k:Nat)] w fun e w'=>∃D cap',e = .returned (.slice D (T.drop (k:Nat)).1.length cap')∧∃o',OwnS o' 0 w' 164 5 (.slice D (T.drop (k:Nat)).1.length cap') (T.drop (k:Nat)).1.length (wqcells (T.drop (k:Nat)).1)∧TbAt o' c w' t (T.drop (k:Nat)).2∧Step o (tabC c) w o' w':=by
 obtain ⟨hp,A,cap,h⟩:=h
 have HW:=Lib.hid wf
 have HC:=Lib.hid hc
 have hwl:=wf.many
 have hk16:k≤16:=by have:=wf.nodes;omega
 have hk17:(k:Int)<17:=by omega
 have hisk:T.is (k:Nat):=by unfold Tb.is;omega
 have di:=decide_eq_true hisk
 have HT0:=Lib.hid (h.alloc (.cells #[.int .i64 (k:Nat)] 3))
 have HK0:=Lib.hid (Keep.new hf 3 #[.int .i64 (k:Nat)])
 have HF0:=Lib.hid (hf.alloc (.cells #[.int .i64 (k:Nat)] 3))
 have HS0:=Lib.hid ((Step.refl o (tabC c) w).alloc (.cells #[.int .i64 (k:Nat)] 3))
 have HRD:=Lib.hid (show T.drop (k:Nat) = {T.hold k [] with waits:=T.waits.filter (fun x => !decide (x.node=(k:Nat)))}.grant by
  unfold Tb.drop
  rw [if_pos hisk]
  rfl)
 have HWF:=Lib.hid ((wf.fresh k).filter (fun x => !decide (x.node=(k:Nat))))
 obtain ⟨R,hR⟩:∃R,T.drop (k:Nat)=R:=⟨_,rfl⟩
 rw [hR] at HRD ⊢
 have eg:∀args w,(callFunc 159 args).run Tryz.prog w = .ok (.enter 159 args) w:=enters_of Tryz.func159 (by kernel_rfl) rfl
 clear h hf hc wf hR hisk
 go_enter Tryz.func94,Tryz.ntmps94
 go_upto_region 1 with (fail)
 generalize w.alloc (.cells #[.int .i64 (k:Nat)] 3)=W0 at HT0 HK0 HF0 HS0 ⊢
 generalize w.heap.size=gb at HK0 ⊢
 have x0:W0.cell? ⟨gb,0,none⟩=some (.int .i64 (k:Nat)):=HK0.out.1.cell 0
 go_wp2_with fail
 refine (tis_any HT0.out (k:Nat)).mono ?_
 rintro e w1 ⟨rfl,rfl⟩
 rw [di]
 go_wp2_with fail
 have ch:=HT0.out.ch hk16
 obtain ⟨o2,hi2,hs2,_⟩:=ImAt.new o w1 (c+2+k)
 have HF2:=Lib.hid (HF0.out.step hs2)
 have HK2:=Lib.hid (HK0.out.step hs2 (fun h=>h))
 obtain ⟨ht3,hs3⟩:=HT0.out.fresh hk16 hi2 hs2
 have HT3:=Lib.hid ht3
 have HS3:=Lib.hid hs3
 have r0:(w1.alloc (.cells #[.slice none 0 0] 175)).cell? ⟨gb,0,none⟩=some (.int .i64 (k:Nat)):=HK2.out.1.cell 0
 have p1:(w1.alloc (.cells #[.slice none 0 0] 175)).cell? ⟨t,1+k,none⟩=some (.pointer (some ⟨hp k,0,none⟩)):=(HT0.out.alloc _).ch hk16
 have f1:(w1.alloc (.cells #[.slice none 0 0] 175)).frozen? ⟨t,1+k,none⟩=false:=(HT0.out.blk.alloc (.cells #[.slice none 0 0] 175)).frozen (1+k)
 clear hi2 hs2 ht3 hs3
 go_region_law (go_simp;go_at_call 106;refine (inew_any _).mono ?_;rintro e w2 ⟨rfl,rfl⟩)
 all_goals
  have HT4:=Lib.hid (HT3.out.drew)
  have HS4:=Lib.hid ((HS0.out.trans HS3.out).drew)
  have HF4:=Lib.hid ((HF0.out.step HS3.out).drew)
  have HK4:=Lib.hid ((HK0.out.step HS3.out (by have:=HC.out;unfold tabC;omega)).drew)
  clear ch r0 p1 f1 HT0 HF0 HS0 HK0 HT3 HS3 HF2 HK2 x0
  generalize ((w1.alloc (.cells #[.slice none 0 0] 175)).setCell ⟨t,1+k,none⟩ (.pointer (some ⟨w1.heap.size,0,none⟩))).drew=V at HT4 HS4 HF4 HK4 ⊢
  generalize (fun i=>if i=k then w1.heap.size else hp i)=hp2 at HT4
  have c18:V.cell? ⟨t,18,none⟩=some (.slice A T.waits.length cap):=HT4.out.c18
  have hd:=delwaits_any 159 #[.pointer (some ⟨gb,0,none⟩)] eg T.waits (fun s=>decide (s.node=(k:Nat))) A cap HT4.out.waits (by omega) (drop1_pr HK4.out (by omega) T.waits)
  go_wp2_with fail
  refine hd.mono ?_
  clear hd
  rintro e w2 ⟨rfl,ho1,hs1⟩
  obtain ⟨F,hF⟩:∃F,T.waits.filter (fun x:Wq => !decide (x.node=((k:Nat):Int)))=F:=⟨_,rfl⟩
  have hF2:(T.hold k []).waits.filter (fun x:Wq => !decide (x.node=((k:Nat):Int)))=F:=hF
  simp only [hF] at ho1 HRD ⊢
  simp only [hF2] at HWF
  obtain ⟨ht2,hs2⟩:=HT4.out.waits_set hs1 ho1
  have hb1:Blk w2 t 118 _:=HT4.out.blk.step hs1 (by rw [HT4.out.col];unfold only;omega)
  have k18:w2.cell? ⟨t,18,none⟩=some (.slice A T.waits.length cap):=hb1.cell 18
  have f18:=hb1.frozen 18
  have HT5:=Lib.hid ht2
  have HS5:=Lib.hid (HS4.out.trans hs2)
  have HF5:=Lib.hid (HF4.out.step hs2)
  clear hb1 ho1 hs1 ht2 hs2 hF hF2
  go_upto_region 5 with (fail)
  generalize w2.setCell ⟨t,18,none⟩ (.slice A F.length cap)=W5 at HT5 HS5 HF5 ⊢
  clear k18 f18 c18
  go_wp2_with fail
  refine (tgrant_any ⟨hp2,A,cap,HT5.out⟩ HF5.out HC.out HWF.out).mono ?_
  rintro e w3 ⟨D3,cap3,rfl,o3,ho3,ht3,hs3⟩
  have HO6:=Lib.hid ho3
  have HT6:=Lib.hid ht3
  have HS6:=Lib.hid (HS5.out.trans hs3)
  clear ho3 ht3 hs3
  go_wp2_with fail
  go_ret
  exact ⟨D3,cap3,by rw [HRD.out];first | done | rfl,o3,by rw [HRD.out];exact HO6.out,by rw [HRD.out];exact HT6.out,HS6.out⟩
theorem tmode_any (h:TbIn o c w t T hp A cap) (wf:TbWf T) (k:Nat) (hk1:1≤k) (hkn:k≤T.nodes) (x:Int) :
 Calls Tryz.prog 24 #[.pointer (some ⟨t,0,none⟩), .int .i64 (k:Nat), .int .i64 x] w fun e w'=>e = .returned (.int .i64 ((getP (T.held k) x).getD 0))∧Below w.heap.size w w':=by
 have hk16:k≤16:=by have:=wf.nodes;omega
 have hk17:(k:Int)<17:=by omega
 have di:decide (T.is (k:Nat))=true:=decide_eq_true (by unfold Tb.is;omega)
 have HT:=Lib.hid h
 have HL:=Lib.hid (wf.held k).len
 have ch:=h.ch hk16
 clear h wf
 go_enter Tryz.func24,Tryz.ntmps24
 go_wp2_with fail
 refine (tis_any HT.out (k:Nat)).mono ?_
 rintro e w1 ⟨rfl,rfl⟩
 rw [di]
 go_wp2_with fail
 refine (iget_any (HT.out.held k hk16) (by have:=HL.out;omega) x).mono ?_
 rintro e w2 ⟨rfl,hb⟩
 have HB:=Lib.hid hb
 clear hb
 go_wp2_with fail
 go_ret
 exact ⟨rfl,HB.out⟩
end
end Go.Proofs.YtohgabdmmbngbaaGreatDoor
