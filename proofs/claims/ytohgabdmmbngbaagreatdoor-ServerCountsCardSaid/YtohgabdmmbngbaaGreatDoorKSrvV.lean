import Derived.Test.YtohgabdmmbngbaaGreatDoorKSrvU
set_option linter.unusedVariables false
set_option linter.unusedSimpArgs false
namespace Go.Proofs.YtohgabdmmbngbaaGreatDoor
open Go.RowKit
theorem force_nodes (T:Tb) (node:Int) (l:Lk):(T.force node l).2.nodes=T.nodes∧(T.force node l).2.waits=T.waits:=by
 unfold Tb.force
 split
 ·exact ⟨rfl,rfl⟩
 ·split
  ·exact ⟨rfl,rfl⟩
  ·exact ⟨rfl,rfl⟩
theorem force_cons (S:Sv) (k:Nat) (l:Lk) (ls:List Lk):S.force k (l :: ls)=if (S.T.force k l).1=0 then ({S with T:=(S.T.force k l).2}:Sv).force k ls else ({S with T:=(S.T.force k l).2},false):=rfl
section
variable {o o':Nat→Nat} {c:Nat} {C:Nat→Prop} {w w':World} {s:Nat} {S:Sv} {P:SvP} {v:Value}
theorem SvIn.reported (h:SvIn o c w s S P) (hc1:1≤c) {k m:Nat} (hk:k≤16) (hm:MapL o (c+5+k) w m []) :
 ∃P',P'.lp=P.lp∧SvIn o c ((((w.setCell ⟨s,10+k*9,none⟩ (.int .i64 1)).setCell ⟨s,10+k*9+2,none⟩ (.int .i64 (-1))).setCell ⟨s,10+k*9+7,none⟩ (.int .i64 0)).setCell ⟨s,10+k*9+8,none⟩ (.map (some m))) s (S.peer k {S.peers k with state:=1,life := -1,grants:=0,told := []}) P' ∧
  Step o (only c) w o ((((w.setCell ⟨s,10+k*9,none⟩ (.int .i64 1)).setCell ⟨s,10+k*9+2,none⟩ (.int .i64 (-1))).setCell ⟨s,10+k*9+7,none⟩ (.int .i64 0)).setCell ⟨s,10+k*9+8,none⟩ (.map (some m))):=by
 obtain ⟨h1,s1⟩:=h.peer hc1 (i:=k) (j:=0) (v := .int .i64 1) (p := {S.peers k with state:=1}) hk (by omega) rfl rfl
 obtain ⟨h2,s2⟩:=h1.peer hc1 (i:=k) (j:=2) (v := .int .i64 (-1)) (p := {S.peers k with state:=1,life := -1}) hk (by omega) (by rw [peer_at];rfl) (by rw [peer_at])
 rw [peer_peer] at h2
 obtain ⟨h3,s3⟩:=h2.peer hc1 (i:=k) (j:=7) (v := .int .i64 0) (p := {S.peers k with state:=1,life := -1,grants:=0}) hk (by omega) (by rw [peer_at];rfl) (by rw [peer_at])
 rw [peer_peer] at h3
 have hs:=(s1.trans s2).trans s3
 obtain ⟨h4,s4⟩:=h3.toldNew hc1 hk (hm.step hs (by unfold only;omega))
 rw [peer_peer,peer_at] at h4
 exact ⟨{P with tv:=fun i=>if i=k then .map (some m) else P.tv i},rfl,h4,hs.trans s4⟩
set_option maxRecDepth 100000 in
set_option maxHeartbeats 16000000 in
theorem vreport_any (h:SvAt o c w s S) (hf:Fut o w) (hc1:1≤c) (wf:TbWf S.T) (hn:S.T.nodes=S.n) (hkl:S.kept.length≤1000000) (hg:S.granted.length+S.T.waits.length≤1000000) (hw:S.D.waits.length≤1000000) (k:Nat) (hk1:1≤k) (hkn:k≤S.n) (hlk:S.L.ok) (hnow:0≤S.now∧S.now≤9223372036854775807) (m:Mg) (lv:Value) (hl:RowL o w lv m.locks.length (lkcells m.locks)) (hml:m.locks.length≤1000) :
 Calls Tryz.prog 44 #[.pointer (some ⟨s,0,none⟩), .int .i64 (k:Nat), .agg #[.int .i64 m.kind, .int .i64 m.id, .int .i64 m.node, .int .i64 m.gen, .int .i64 m.stamp, .int .u64 m.epoch, .int .i64 m.err,lv]] w fun e w'=>e = .returned (.tuple #[])∧∃o',SvAt o' c w' s (S.report k m)∧Step o (svC c) w o' w':=by
 obtain ⟨i0,hi,hz0,hz1,hz2⟩:=info_parts info_wq
 obtain ⟨P,h⟩:=h
 have hnn:=h.rest.nn
 have hk16:k≤16:=by omega
 have hk17:(k:Int)<17:=by omega
 have HC:=Lib.hid hc1
 have HG:=Lib.hid hg
 have HW:=Lib.hid wf
 have HKL:=Lib.hid hkl
 have HDW:=Lib.hid hw
 have HLK:=Lib.hid hlk
 have HNW:=Lib.hid hnow
 have HKN:=Lib.hid (show k≤S.T.nodes by omega)
 have hmm := @run_makeMap Tryz.prog
 obtain ⟨D,cap,rfl,_⟩:=hl.form
 have HV0:=Lib.hid (h.alloc (.cells #[.int .i64 m.kind, .int .i64 m.id, .int .i64 m.node, .int .i64 m.gen, .int .i64 m.stamp, .int .u64 m.epoch, .int .i64 m.err, .slice D m.locks.length cap] 38))
 have HK0:=Lib.hid (Keep.new hf 38 #[.int .i64 m.kind, .int .i64 m.id, .int .i64 m.node, .int .i64 m.gen, .int .i64 m.stamp, .int .u64 m.epoch, .int .i64 m.err, .slice D m.locks.length cap])
 have HL0:=Lib.hid (hl.alloc (.cells #[.int .i64 m.kind, .int .i64 m.id, .int .i64 m.node, .int .i64 m.gen, .int .i64 m.stamp, .int .u64 m.epoch, .int .i64 m.err, .slice D m.locks.length cap] 38))
 have HF0:=Lib.hid (hf.alloc (.cells #[.int .i64 m.kind, .int .i64 m.id, .int .i64 m.node, .int .i64 m.gen, .int .i64 m.stamp, .int .u64 m.epoch, .int .i64 m.err, .slice D m.locks.length cap] 38))
 have HS0:=Lib.hid ((Step.refl o (svC c) w).alloc (.cells #[.int .i64 m.kind, .int .i64 m.id, .int .i64 m.node, .int .i64 m.gen, .int .i64 m.stamp, .int .u64 m.epoch, .int .i64 m.err, .slice D m.locks.length cap] 38))
 obtain ⟨R,hR⟩:∃R,S.report k m=R:=⟨_,rfl⟩
 have HRD:=Lib.hid hR
 unfold Sv.report at HRD
 rw [hR]
 obtain ⟨LS,hLS⟩:∃LS,m.locks=LS:=⟨_,rfl⟩
 rw [hLS] at HRD HL0 HV0 HK0 HF0 HS0 hml ⊢
 have hmI:(LS.length:Int)≤1000:=by omega
 clear h hf hc1 wf hn hkl hg hw hlk hnow hl hR hLS
 go_enter Tryz.func44,Tryz.ntmps44
 go_upto_region 1 with (fail)
 generalize w.alloc (.cells #[.int .i64 m.kind, .int .i64 m.id, .int .i64 m.node, .int .i64 m.gen, .int .i64 m.stamp, .int .u64 m.epoch, .int .i64 m.err, .slice D LS.length cap] 38)=W0 at HV0 HK0 HL0 HF0 HS0 ⊢
 generalize w.heap.size=gm at HK0 ⊢
 obtain ⟨y0,y1,y2,y3,y4,y5,y6,y7⟩:=Blk.eight HK0.out.1
 go_wp2_with fail
 go_loopg [12] LS.length (fun n t12 wr=>∃(i:Nat) (oL:Nat→Nat) (T':Tb),n+i=LS.length∧t12 = .int .i64 (i:Nat)∧SvAt oL c wr s {S with T:=T'}∧TbWf T'∧T'.nodes=S.T.nodes∧T'.waits=S.T.waits∧Hid (S.force k LS=({S with T:=T'}:Sv).force k (LS.drop i))∧RowL oL wr (.slice D LS.length cap) LS.length (lkcells LS)∧Fut oL wr∧Step o (svC c) w oL wr)
 case atStart=>exact ⟨0,o,S.T,by omega,rfl,⟨_,HV0.out⟩,HW.out,rfl,rfl,Lib.hid rfl,HL0.out,HF0.out,HS0.out⟩
 case round =>
  obtain ⟨i,oL,T',hni,rfl,hv,hwf,hnd,hwt,HFO,hrow,hf,hstp⟩:=hrel
  have HNI:=Lib.hid hni
  have HWF:=Lib.hid hwf
  have HND:=Lib.hid hnd
  have HWT:=Lib.hid hwt
  have HROW:=Lib.hid hrow
  have HFL:=Lib.hid hf
  have HST:=Lib.hid hstp
  obtain ⟨P2,hv⟩:=hv
  have HVr:=Lib.hid hv
  clear HV0 HK0 HL0 HF0 HS0 hni hwf hnd hwt hrow hf hstp hv y0 y1 y2 y3 y4 y5 y6 y7
  by_cases hlt:i<LS.length
  ·have hltI:(i:Int)<(LS.length:Int):=by omega
   obtain ⟨l,hq⟩:∃l,LS[i]? = some l:=⟨_,List.getElem?_eq_getElem hlt⟩
   have hdr:LS.drop i=l :: LS.drop (i+1):=by
    rw [List.drop_eq_getElem_cons hlt]
    rw [List.getElem?_eq_getElem hlt] at hq
    injection hq with hq
    rw [hq]
   have HFC:=Lib.hid (show S.force k LS=if (T'.force k l).1=0 then ({S with T:=(T'.force k l).2}:Sv).force k (LS.drop (i+1)) else ({S with T:=(T'.force k l).2},false) by
    rw [HFO.out,hdr,force_cons])
   obtain ⟨ad,rfl,x0,x1,x2⟩:=HROW.out.reads.lock hq
   have HQ:=Lib.hid (Keep.new HFL.out 47 #[.int .i64 l.a, .int .i64 l.b, .int .i64 l.m])
   have HV4:=Lib.hid (HVr.out.alloc (.cells #[.int .i64 l.a, .int .i64 l.b, .int .i64 l.m] 47))
   have HR4:=Lib.hid (HROW.out.alloc (.cells #[.int .i64 l.a, .int .i64 l.b, .int .i64 l.m] 47))
   have HF4:=Lib.hid (HFL.out.alloc (.cells #[.int .i64 l.a, .int .i64 l.b, .int .i64 l.m] 47))
   have HS4:=Lib.hid (HST.out.alloc (.cells #[.int .i64 l.a, .int .i64 l.b, .int .i64 l.m] 47))
   clear hq hdr HFO HVr HROW HFL HST
   go_upto_region 4 with (fail)
   generalize wr.alloc (.cells #[.int .i64 l.a, .int .i64 l.b, .int .i64 l.m] 47)=W4 at HQ HV4 HR4 HF4 HS4 ⊢
   generalize wr.heap.size=gq at HQ ⊢
   clear x0 x1 x2
   have hkT:k≤T'.nodes:=by rw [HND.out];exact HKN.out
   have HCR:=Lib.hid (show Calls Tryz.prog 93 #[.pointer (some ⟨P2.tp,0,none⟩), .int .i64 (k:Nat), .agg #[.int .i64 l.a, .int .i64 l.b, .int .i64 l.m]] W4.drew _ from tforce_any HV4.out.drew.rest.table HF4.out.drew (by have:=HC.out;omega) HWF.out k hk1 hkT l)
   have q1:W4.drew.cell? ⟨s,164,none⟩=some (.pointer (some ⟨P2.tp,0,none⟩)):=HV4.out.drew.t (k:=1) rfl
   obtain ⟨q2,q3,q4⟩:W4.drew.cell? ⟨gq,0,none⟩=some (.int .i64 l.a)∧W4.drew.cell? ⟨gq,1,none⟩=some (.int .i64 l.b)∧W4.drew.cell? ⟨gq,2,none⟩=some (.int .i64 l.m):=HQ.out.1.three
   go_wp2_with fail
   go_region_held3 (fun w'=>w'.cell? ⟨s,164,none⟩=some (.pointer (some ⟨P2.tp,0,none⟩))∧w'.cell? ⟨gq,0,none⟩=some (.int .i64 l.a)∧w'.cell? ⟨gq,1,none⟩=some (.int .i64 l.b)∧w'.cell? ⟨gq,2,none⟩=some (.int .i64 l.m))
    (first | exact ⟨q1,q2,q3,q4⟩ | exact ⟨g1,g2,g3,g4⟩ | go_keep)
    ((go_at_call 93;((with_reducible refine HCR.out.mono ?_);rintro e w5 ⟨rfl,o5,ht5,hs5⟩;have hv5:=HV4.out.drew.onT HC.out hs5 ht5;have HV5:=Lib.hid hv5;have HS5:=Lib.hid hs5;have g1:w5.cell? ⟨s,164,none⟩=some (.pointer (some ⟨P2.tp,0,none⟩)):=hv5.t (k:=1) rfl;obtain ⟨g2,g3,g4⟩:=(HQ.out.drew.step hs5 (by unfold tabC;omega)).1.three;clear ht5 hs5 hv5)))
   have HR5:=Lib.hid (HR4.out.drew.step HS5.out (by unfold tabC;omega))
   have HF5:=Lib.hid (HF4.out.drew.step HS5.out)
   have HT5:=Lib.hid (HS4.out.drew.trans (HS5.out.mono tab_sv))
   obtain ⟨hfn,hfw⟩:=force_nodes T' (k:Nat) l
   have HWF5:=Lib.hid (HWF.out.force (k:Nat) l)
   obtain ⟨fe,hfe⟩:∃fe,(T'.force (k:Nat) l).1=fe:=⟨_,rfl⟩
   obtain ⟨T5,hT5⟩:∃T5,(T'.force (k:Nat) l).2=T5:=⟨_,rfl⟩
   rw [hfe,hT5] at HFC
   have HV5':=Lib.hid (show SvIn o5 c w5 s {S with T:=T5} P2 by
    have:=HV5.out
    rw [hT5] at this
    exact this)
   rw [hT5] at hfn hfw HWF5
   rw [hfe]
   have HND5:=Lib.hid (hfn.trans HND.out)
   have HWT5:=Lib.hid (hfw.trans HWT.out)
   clear hfe hT5 hfn hfw HV5 q1 q2 q3 q4 g1 g2 g3 g4 HV4 HR4 HF4 HS4 HS5 HQ HCR
   by_cases he:fe=0
   ·have b1:(fe != 0)=false:=by simp [he]
    have HN:=Lib.hid (HFC.out.trans (if_pos he))
    clear he
    go_wp2_with fail
    go_roundg (LS.length - (i+1))
    case measure=>have:=HNI.out;omega
    case rel=>exact ⟨i+1,o5,T5,by omega,by go_num,⟨P2,HV5'.out⟩,HWF5.out,HND5.out,HWT5.out,HN,HR5.out,HF5.out,HT5.out⟩
   ·have b1:(fe != 0)=true:=by simp [he]
    have HFE:=Lib.hid (HFC.out.trans (if_neg he))
    clear he
    go_wp2_with fail
    rw [HFE.out] at HRD
    have HN:=Lib.hid ((if_neg Bool.false_ne_true).symm.trans HRD.out)
    have hkT5:k≤T5.nodes:=by rw [HND5.out];exact HKN.out
    have hdc:=drop_count T5 (k:Nat)
    have hcn:S.granted.length+T5.waits.length≤1000000:=by rw [HWT5.out];exact HG.out
    have HTD:=Lib.hid (show Calls Tryz.prog 94 #[.pointer (some ⟨P2.tp,0,none⟩), .int .i64 (k:Nat)] w5.drew _ from tdrop_any HV5'.out.drew.rest.table HF5.out.drew (by have:=HC.out;omega) HWF5.out k hk1 hkT5)
    have hwf6:TbWf (T5.drop (k:Nat)).2:=HWF5.out.drop (k:Nat)
    obtain ⟨G,hGe⟩:∃G,(T5.drop (k:Nat)).1=G:=⟨_,rfl⟩
    obtain ⟨T6,hT6⟩:∃T6,(T5.drop (k:Nat)).2=T6:=⟨_,rfl⟩
    have HN2:=Lib.hid (show ({S with T:=T6,granted:=S.granted++G}:Sv).lose k=R by
     rw [←hGe,←hT6]
     exact HN.out)
    rw [hGe,hT6] at HTD hdc
    rw [hT6] at hwf6
    have HWF6:=Lib.hid hwf6
    obtain ⟨A3,cap3,hgv,_⟩:=own_form' HV5'.out.rest.granted
    change P2.gv = .slice A3 S.granted.length cap3 at hgv
    have y164:w5.drew.cell? ⟨s,164,none⟩=some (.pointer (some ⟨P2.tp,0,none⟩)):=HV5'.out.drew.t (k:=1) rfl
    have y167:w5.drew.cell? ⟨s,167,none⟩=some (.slice A3 S.granted.length cap3):=(HV5'.out.drew.t (k:=4) rfl).trans (by rw [hgv])
    have HGV:=Lib.hid hgv
    clear hGe hT6 hgv hwf6 HN HFE HRD
    go_region_law (first
     | (go_simp;go_at_call 94;(refine HTD.out.mono ?_);rintro e w6 ⟨Dd,capd,rfl,o6,ho6,ht6,hs6⟩;have hv6:=HV5'.out.drew.onT HC.out hs6 ht6;have HV6:=Lib.hid hv6;have g164:w6.cell? ⟨s,164,none⟩=some (.pointer (some ⟨P2.tp,0,none⟩)):=hv6.t (k:=1) rfl;have g167:w6.cell? ⟨s,167,none⟩=some (.slice A3 S.granted.length cap3):=(hv6.t (k:=4) rfl).trans (by rw [HGV.out]);have HO6:=Lib.hid ho6;have HS6:=Lib.hid hs6;have HG6:=Lib.hid (show OwnS o6 (c+3) w6 164 5 (.slice A3 S.granted.length cap3) S.granted.length (wqcells S.granted) from HGV.out▸hv6.rest.granted);clear ho6 ht6 hs6 hv6)
     | (refine step_append_S _ rfl (.tmp 28) (.tmp 34) 68 rfl 164 i0 _ 5 40 Tryz.underlying68 hi hz0 hz1 hz2 rfl (by omega) (.slice A3 S.granted.length cap3) S.granted.length (wqcells S.granted) rfl HG6.out Dd G.length capd (wqcells G) rfl (Reads.of_own HO6.out.1) (wqcells_one G) (by unfold maxLen;omega) (by omega) ?_;intro v7 w7 hown7 hst7 hgr7 hat7;obtain ⟨A7,cap7,rfl,_,_⟩:=own_form' hown7;have HW7:=Lib.hid hown7;have HS7:=Lib.hid hst7;have k7:w7.cell? ⟨s,167,none⟩=some P2.gv:=(((HV6.out.blk.step hst7 (by rw [HV6.out.col];unfold only;omega)).cell (163+4)).trans (Sv.tail_at (k:=4)));have f7:=(HV6.out.blk.step hst7 (by rw [HV6.out.col];unfold only;omega)).frozen 167;clear hown7 hst7 hgr7 hat7))
    all_goals
     obtain ⟨hv8,hs8⟩:=HV6.out.gave HC.out (G:=G) (n:=S.granted.length+G.length) (by simp) HS7.out (by rw [wqcells_app];exact HW7.out)
     have HV8:=Lib.hid hv8
     have HS8:=Lib.hid ((HT5.out.drew.trans (HS6.out.mono tab_sv)).trans hs8)
     have HF8:=Lib.hid ((HF5.out.drew.step HS6.out).step hs8)
     have HLO:=Lib.hid (vlose_any ⟨_,hv8⟩ ((HF5.out.drew.step HS6.out).step hs8) HC.out (show TbWf T6 from HWF6.out) (show S.kept.length≤1000000 from HKL.out) (show (S.granted++G).length+T6.waits.length≤1000000 by rw [List.length_append];omega) (show S.D.waits.length≤1000000 from HDW.out) k hk16)
     clear hv8 hs8 y164 y167 g164 g167 k7 f7 HW7 HS7 HO6 HG6 HV6 HS6 HTD
     go_wp2_with fail
     refine HLO.out.mono ?_
     rintro e w10 ⟨rfl,o10,hv10,hs10⟩
     have HV10:=Lib.hid hv10
     have HS10:=Lib.hid (HS8.out.trans hs10)
     clear hv10 hs10
     go_wp2_with fail
     refine bodyPost_ret (results_none rfl _ _ _) rfl ?_
     exact ⟨rfl,o10,by rw [←HN2.out];exact HV10.out,HS10.out⟩
  ·have hltI:¬(i:Int)<(LS.length:Int):=by omega
   obtain rfl:i=LS.length:=by have:=HNI.out;omega
   have HFE:=Lib.hid (show S.force k LS=({S with T:=T'},true) by
    rw [HFO.out,List.drop_length]
    rfl)
   rw [HFE.out] at HRD
   have HN:=Lib.hid ((if_pos rfl).symm.trans HRD.out)
   have hba:=(Below.refl wr.heap.size wr).alloc (Nat.le_refl _) (.map #[] 0)
   have hsa:=Step.of_below_band oL (svC c) (c+5+k) hba
   have hsf:=Step.of_below_band oL (fun _=>False) (c+5+k) hba
   have hma:=MapL.newAs (band oL wr.heap.size (wr.alloc (.map #[] 0)).heap.size (c+5+k)) wr (c+5+k) (band_in (Nat.le_refl _) (by simp))
   have hva:=HVr.out.step hsf (fun _ _=>id) id
   obtain ⟨P3,hp3,h6,h7⟩:=hva.reported HC.out hk16 hma
   have HSA:=Lib.hid ((HST.out.trans hsa).trans (h7.mono only0_sv))
   have HFA:=Lib.hid ((HFL.out.step hsf).step h7)
   have x0:(wr.alloc (.map #[] 0)).cell? ⟨s,10+k*9,none⟩=some (.int .i64 (S.peers k).state):=hva.p (j:=0) hk16 (by omega) rfl
   have f0:=hva.blk.frozen (10+k*9)
   have x2:(wr.alloc (.map #[] 0)).cell? ⟨s,10+k*9+2,none⟩=some (.int .i64 (S.peers k).life):=hva.p (j:=2) hk16 (by omega) rfl
   have f2:=hva.blk.frozen (10+k*9+2)
   have x7:(wr.alloc (.map #[] 0)).cell? ⟨s,10+k*9+7,none⟩=some (.int .i64 (S.peers k).grants):=hva.p (j:=7) hk16 (by omega) rfl
   have f7:=hva.blk.frozen (10+k*9+7)
   have x8:(wr.alloc (.map #[] 0)).cell? ⟨s,10+k*9+8,none⟩=some (P2.tv k):=hva.p (j:=8) hk16 (by omega) rfl
   have f8:=hva.blk.frozen (10+k*9+8)
   generalize band oL wr.heap.size (wr.alloc (.map #[] 0)).heap.size (c+5+k)=o6 at hva h6 h7 HSA HFA hsa hsf hma
   have HV6:=Lib.hid h6
   have HP3:=Lib.hid hp3
   clear hba hsa hsf hma hva h6 h7 hp3 HVr HROW HRD HFO
   go_upto_region 10 with (fail)
   generalize ((((wr.alloc (.map #[] 0)).setCell ⟨s,10+k*9,none⟩ (.int .i64 1)).setCell ⟨s,10+k*9+2,none⟩ (.int .i64 (-1))).setCell ⟨s,10+k*9+7,none⟩ (.int .i64 0)).setCell ⟨s,10+k*9+8,none⟩ (.map (some wr.heap.size))=V at HV6 HSA HFA ⊢
   clear x0 f0 x2 f2 x7 f7 x8 f8
   have y163:V.cell? ⟨s,163,none⟩=some (.pointer (some ⟨P3.lp,0,none⟩)):=HV6.out.t (k:=0) rfl
   have HDR:=Lib.hid (ldrop_any HV6.out.rest.lease (k:Nat))
   go_wp2_with fail
   refine HDR.out.mono ?_
   rintro e w7 ⟨rfl,hl7,hs7⟩
   have HV7:=Lib.hid (HV6.out.onL HC.out hs7 hl7)
   have HS7:=Lib.hid (HSA.out.trans (hs7.mono lea_sv))
   clear hl7 hs7 y163 HDR
   have q1:w7.drew.cell? ⟨s,163,none⟩=some (.pointer (some ⟨P3.lp,0,none⟩)):=HV7.out.drew.t (k:=0) rfl
   have q2:w7.drew.cell? ⟨s,8,none⟩=some (.int .i64 S.now):=HV7.out.drew.h (k:=8) (by omega) rfl
   have HRN:=Lib.hid (show Calls Tryz.prog 52 #[.pointer (some ⟨P3.lp,0,none⟩), .int .i64 (k:Nat), .int .i64 S.now] w7.drew _ from lrenew_any HV7.out.drew.rest.lease (Le.drop_ok HLK.out (k:Nat)) (k:Nat) S.now HNW.out)
   go_wp2_with fail
   go_region_held3 (fun w'=>w'.cell? ⟨s,163,none⟩=some (.pointer (some ⟨P3.lp,0,none⟩))∧w'.cell? ⟨s,8,none⟩=some (.int .i64 S.now))
    (first | exact ⟨q1,q2⟩ | exact ⟨g1,g2⟩ | go_keep)
    ((go_at_call 52;((with_reducible refine HRN.out.mono ?_);rintro e w8 ⟨rfl,hl8,hs8⟩;have hv8:=HV7.out.drew.onL HC.out hs8 hl8;have HV8:=Lib.hid hv8;have HS8:=Lib.hid hs8;have g1:w8.cell? ⟨s,163,none⟩=some (.pointer (some ⟨P3.lp,0,none⟩)):=hv8.t (k:=0) rfl;have g2:w8.cell? ⟨s,8,none⟩=some (.int .i64 S.now):=hv8.h (k:=8) (by omega) rfl;clear hl8 hs8 hv8)))
   have HS9:=Lib.hid ((HS7.out.drew).trans (HS8.out.mono lea_sv))
   clear q1 q2 g1 g2 HRN
   go_wp2_with fail
   go_end0
   exact ⟨rfl,o6,by rw [←HN.out];exact ⟨P3,HV8.out⟩,HS9.out⟩
end
end Go.Proofs.YtohgabdmmbngbaaGreatDoor
