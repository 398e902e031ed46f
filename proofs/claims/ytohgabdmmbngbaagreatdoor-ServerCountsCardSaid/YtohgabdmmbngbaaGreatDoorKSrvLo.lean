import Derived.Test.YtohgabdmmbngbaaGreatDoorKSrvZ
import Derived.Test.YtohgabdmmbngbaaGreatDoorKRunN
set_option linter.unusedVariables false
set_option linter.unusedSimpArgs false
namespace Go.Proofs.YtohgabdmmbngbaaGreatDoor
open Go.RowKit
def RunsAt (S:Sv) (node:Nat):Prop:=∀(o:Nat→Nat) (c:Nat) (w:World) (s:Nat) (P:SvP),SvIn o c w s S P→1≤c→Fut o w →
 Calls Tryz.prog 112 #[.pointer (some ⟨P.dp,0,none⟩), .agg #[.int .i64 3, .int .i64 12, .int .i64 12, .int .i64 6, .int .i64 32], .int .i64 (node:Nat), .int .u64 (S.D.words node:Int), .int .i64 0, .int .u64 (S.epoch:Int)] w fun r w'=>r = .returned (.tuple #[.int .i64 (runR S.D (node:Nat) (S.D.words node) 0 S.epoch).n, .int .i64 (runR S.D (node:Nat) (S.D.words node) 0 S.epoch).e])∧∃o',SvIn o' c w' s {S with D:=(runR S.D (node:Nat) (S.D.words node) 0 S.epoch).D} P∧Step o (six (c+43)) w o' w'
structure LoOk (S:Sv) (node:Nat):Prop where
 shp:S.sh=(3,12,12,6,32)
 up:S.down=false
 wf:TbWf S.T
 nodes:S.T.nodes=S.n
 kept:S.kept.length≤1000000
 gw:S.granted.length+S.T.waits.length≤1000000
 out:S.out.length≤1000000
 lok:S.L.ok
 now:0≤S.now∧S.now≤9223372036854775807
 st:0≤S.stamp∧S.stamp≤1000000000
 runs:RunsAt S node
 run:(runR S.D (node:Nat) (S.D.words node) 0 S.epoch).e=0
 last:((runR S.D (node:Nat) (S.D.words node) 0 S.epoch).D.put node 0).2.last+1<18446744073709551616
theorem SvOk.lo {b:Bnd} {S:Sv} (h:SvOk b S) (hb:b.out≤1000000∧b.kept≤1000000∧b.gw≤1000000∧b.st≤1000000000∧b.last≤1000000000000000) {node:Nat} (hn:1≤node∧node≤3):LoOk S node:=by
 have hr:=h.empty.run h.calm (node:=(node:Nat)) (by omega) (S.D.words node) 0 S.epoch
 have hl:=h.last
 have ht:Tame S.D 1000:=h.calm.tame
 have hrun:RunsAt S node:=fun o c w s P hv hc1 hf=>by
  obtain ⟨h1,h2⟩:=h.empty.head h.calm.live (node:=(node:Nat)) (by omega)
  rw [hr]
  refine (erun_none hv.rest.disk (by rw [ht.sectors];omega) ht.wf hf (node:Nat) h1 h2 (S.D.words node) 0 S.epoch).mono ?_
  rintro r w' ⟨rfl,hb⟩
  exact ⟨rfl,o,hv.below_ hb,Step.of_below o _ hb⟩
 refine ⟨h.shp,h.up,h.wf,h.nodes,Nat.le_trans h.kept hb.2.1,Nat.le_trans h.gw hb.2.2.1,Nat.le_trans h.out hb.1,h.lok,by have:=h.now;omega,by have:=h.st;omega,hrun,by rw [hr],?_⟩
 rw [hr]
 show (S.D.put (node:Nat) 0).2.last+1<_
 rw [(h.calm.put (n:=node) (by omega) 0).1]
 show S.D.last+1<_
 omega
theorem join_sh (S:Sv) (k:Nat) (life:Int):(S.join k life).sh=S.sh:=by
 unfold Sv.join
 split
 ·split
  ·rfl
  ·rfl
 ·rfl
theorem forget_sh (S:Sv) (k:Int):(S.forget k).sh=S.sh :=
 foldl_inv (P:=fun B:Sv=>B.sh=S.sh) (f:=forget1 k) S.T.waits _ rfl (fun B w _ hB=>by
  unfold forget1
  split
  ·exact hB
  ·exact hB)
theorem leave_sh (S:Sv) (k:Nat):(S.leave k).sh=S.sh:=by
 have h:∀D L,((({S with D:=D,L:=L}:Sv).forget k).gone k).sh=S.sh:=fun D L=>forget_sh {S with D:=D,L:=L} k
 unfold Sv.leave
 split
 ·split
  ·exact h _ _
  ·rw [join_sh]
   exact h _ _
 ·rfl
theorem lost1_sh (S:Sv) (k:Nat):(S.lost1 k).sh=S.sh:=by
 unfold Sv.lost1
 split
 ·rfl
 ·split
  ·rfl
  ·split
   ·rfl
   ·split
    ·rfl
    ·unfold Sv.lost2
     split
     ·exact leave_sh {S with D:=_} k
     ·split
      ·rfl
      ·rfl
section
variable {o o':Nat→Nat} {c n:Nat} {C:Nat→Prop} {w w':World} {s:Nat} {S:Sv} {P:SvP} {v:Value} {b:Bnd}
theorem snoc_len {α:Type} {n:Nat} {l:List α} (h:l.length=n+1):∃ws y,ws.length=n∧l=ws ++ [y]:=by
 have hne:l≠[]:=fun e=>by
  rw [e] at h
  cases h
 exact ⟨l.dropLast,l.getLast hne,by rw [List.length_dropLast];omega,(List.dropLast_concat_getLast hne).symm⟩
theorem outC_size (x:(Int×Mg)×Value):(outC x).length=9:=rfl
theorem SvIn.lastEpoch (h:SvIn o c w s S P) (hc1:1≤c) {l:List (Int×Mg)} {x:Int×Mg} (hl:S.out=l ++ [x]) (ho:S.out.length≤1000000000) (e:Nat):∃g cap,P.ov = .slice (some ⟨g,0,none⟩) (l.length+1) cap∧w.cell? ⟨g,l.length*9+6,none⟩=some (.int .u64 x.2.epoch)∧w.frozen? ⟨g,l.length*9+6,none⟩=false ∧
 SvIn o c (w.setCell ⟨g,l.length*9+6,none⟩ (.int .u64 e)) s {S with out:=l ++ [(x.1,{x.2 with epoch:=e})]} P∧Step o (only (c+1)) w o (w.setCell ⟨g,l.length*9+6,none⟩ (.int .u64 e)):=by
 obtain ⟨_,vs,h1,h2,h3⟩:=h.rest.outs
 rw [hl] at h1 h2 h3
 have hlen:(l ++ [x]).length=l.length+1:=by simp
 rw [hlen] at h1 h2
 obtain ⟨ws,y,hws,hvs⟩:∃ws y,ws.length=l.length∧vs=ws ++ [y]:=snoc_len h1
 subst hvs
 rw [zip_push _ _ _ _ hws] at h2 h3
 rw [List.flatMap_append,show ([(x,y)]:List ((Int×Mg)×Value)).flatMap outC=outC (x,y) from by simp] at h2
 obtain ⟨A,cap,hov,_⟩:=own_form' h2
 rw [hov] at h2
 obtain ⟨g,cur,rfl,hb,hcol,hcap,hcm,hcur,htk⟩:=h2.blk (by omega)
 have hzl:((l.zip ws).flatMap outC).length=l.length*9:=by
  rw [flatS_len outC_size,List.length_zip,hws,Nat.min_self]
 have hcs:cur.size=cap*9:=hcur
 have hlt:l.length*9+6<cur.size:=by omega
 have hx6:cur[l.length*9+6]? = some (.int .u64 x.2.epoch):=by
  have h4:(cur.toList.take ((l.length+1)*9))[l.length*9+6]? = some (.int .u64 x.2.epoch):=by
   rw [htk,List.getElem?_append_right (by omega),hzl,show l.length*9+6 - l.length*9=6 by omega]
   rfl
  rw [List.getElem?_take_of_lt (by omega)] at h4
  rw [←Array.getElem?_toList]
  exact h4
 have hs:Step o (only (c+1)) w o (w.setCell ⟨g,l.length*9+6,none⟩ (.int .u64 e)):=(Step.refl o (only (c+1)) w).setCell (p:=⟨g,l.length*9+6,none⟩) hcol _
 have hr1:∀d,d≠1→¬only (c+1) (c+d):=fun d hd=>by unfold only;omega
 have h0:¬only (c+1) 0:=by unfold only;omega
 refine ⟨g,cap,hov,(hb.cell _).trans hx6,hb.frozen _,?_,hs⟩
 refine ⟨h.blk.step hs (by rw [h.col];exact hr1 0 (by omega)),h.col,?_,h.rest.kept.step hs (hr1 2 (by omega)) h0,h.rest.granted.step hs (hr1 3 (by omega)),h.rest.ids.step hs (hr1 4 (by omega)),fun i h1 h2 => ?_,h.rest.table.step hs (fun y hy=>by unfold tabC at hy;unfold only;omega),h.rest.lease.step hs (hr1 41 (by omega)) (hr1 42 (by omega)),h.rest.disk.step hs (fun y h1 h2=>by unfold only;omega),h.rest.nodes⟩
 ·refine ⟨fun hh=>absurd hh (by simp),ws ++ [y],by simp [hws],?_,?_⟩
  ·rw [zip_push _ _ _ _ hws,List.flatMap_append,show ([((x.1,{x.2 with epoch:=e}),y)]:List ((Int×Mg)×Value)).flatMap outC=outC ((x.1,{x.2 with epoch:=e}),y) from by simp]
   have hlen2:(l ++ [(x.1,{x.2 with epoch:=e})]).length=l.length+1:=by simp
   show OwnS o (c+1) _ 40 9 P.ov (l ++ [(x.1,{x.2 with epoch:=e})]).length _
   rw [hlen2,hov]
   refine OwnS.of_blk (hb.set_ _ _) hcol hcap hcm (by rw [Array.size_setIfInBounds];exact hcs) ?_
   rw [Array.toList_setIfInBounds,List.take_set,htk,List.set_append_right _ _ (by omega),hzl,show l.length*9+6 - l.length*9=6 by omega]
   rfl
  ·rw [zip_push _ _ _ _ hws]
   intro z hz
   rcases List.mem_append.1 hz with hz | hz
   ·exact (h3 z (List.mem_append.2 (.inl hz))).step hs h0
   ·rw [List.mem_singleton.1 hz]
    exact (h3 (x,y) (List.mem_append.2 (.inr (List.mem_singleton.2 rfl)))).step hs h0
 ·obtain ⟨m,e,hm⟩:=h.rest.told i h1 h2
  exact ⟨m,e,hm.step hs (by unfold only;omega)⟩
def Sv.lostN (S:Sv) (i:Nat):Sv:=(List.range i).foldl (fun S i=>S.lost1 (i+1)) S
theorem lostN_succ (S:Sv) (i:Nat):S.lostN (i+1)=(S.lostN i).lost1 (i+1):=by
 unfold Sv.lostN
 rw [List.range_succ,List.foldl_append]
 rfl
theorem leastN (S:Sv) (st:Int):∃j:Nat,S.least st=(j:Nat)∧j≤S.n:=by
 obtain ⟨h1,h2⟩:=least_in S st
 exact ⟨(S.least st).toNat,by omega,by omega⟩
set_option maxRecDepth 100000 in
set_option maxHeartbeats 16000000 in
theorem vlost_any (h:SvAt o c w s S) (hf:Fut o w) (hc1:1≤c) (hI:∀i,i<S.n→LoOk (S.lostN i) (i+1)) :
 Calls Tryz.prog 53 #[.pointer (some ⟨s,0,none⟩)] w fun e w'=>e = .returned (.int .i64 0)∧∃o',SvAt o' c w' s S.lost∧Step o (svC c) w o' w':=by
 have hnn:1≤S.n∧S.n≤16:=by
  obtain ⟨P,h⟩:=h
  exact h.rest.nn
 have HC:=Lib.hid hc1
 have HV:=Lib.hid h
 have HF:=Lib.hid hf
 have HI:=Lib.hid hI
 have HLO:=Lib.hid (show S.lost=S.lostN S.n from rfl)
 have hsh:∀i,i≤S.n→(S.lostN i).n=S.n∧(i<S.n→(S.lostN i).sh=(3,12,12,6,32)):=fun i hi=>by
  have h0:S.sh=(3,12,12,6,32):=(hI 0 (by omega)).shp
  by_cases hlt:i<S.n
  ·have:=(hI i hlt).shp
   refine ⟨?_,fun _=>this⟩
   unfold Sv.n
   rw [this,h0]
  ·obtain ⟨j,rfl⟩:∃j,i=j+1:=⟨i - 1,by omega⟩
   have:=(hI j (by omega)).shp
   refine ⟨?_,fun hh=>absurd hh hlt⟩
   rw [lostN_succ]
   unfold Sv.n
   rw [lost1_sh,this,h0]
 have HSH:=Lib.hid hsh
 obtain ⟨N,hN⟩:∃N,S.n=N:=⟨_,rfl⟩
 rw [hN] at hnn HI HLO HSH
 have hNI:(N:Int)≤16:=by omega
 clear h hf hc1 hI hsh
 go_enter Tryz.func53,Tryz.ntmps53
 go_wp2_with fail
 go_loopg [3] N (fun r t3 wr=>∃(i:Nat) (oL:Nat→Nat),r+i=N∧t3 = .int .i64 ((i:Int)+1)∧SvAt oL c wr s (S.lostN i)∧Fut oL wr∧Step o (svC c) w oL wr)
 case atStart=>exact ⟨0,o,by omega,rfl,HV.out,HF.out,Step.refl _ _ _⟩
 case round =>
  obtain ⟨i,oL,hni,rfl,⟨P,hv⟩,hfl,hst⟩:=hrel
  have HNI:=Lib.hid hni
  have HVI:=Lib.hid hv
  have HFI:=Lib.hid hfl
  have HST:=Lib.hid hst
  have hns:=(HSH.out i (by omega)).1
  have HSC:=Lib.hid (lostN_succ S i)
  have x1:wr.cell? ⟨s,1,none⟩=some (.int .i64 (N:Nat)):=hns▸hv.h (k:=1) (by omega) rfl
  clear hni hv hfl hst HV HF
  by_cases hlt:i<N
  ·have HLK:=Lib.hid (HI.out i hlt)
   have HS3:=Lib.hid ((HSH.out i (by omega)).2 hlt)
   obtain ⟨SI,hSI⟩:∃SI,S.lostN i=SI:=⟨_,rfl⟩
   rw [hSI] at HVI HSC HLK hns HS3
   have HNS:=Lib.hid hns
   have hiI:(i:Int)+1≤(N:Int):=by omega
   have hi17:(i:Int)+1<17:=by omega
   have hi0:(0:Int)≤(i:Int)+1:=by omega
   have hi16:i+1≤16:=by omega
   have x9:wr.cell? ⟨s,9,none⟩=some (.bool false):=HLK.out.up▸HVI.out.h (k:=9) (by omega) rfl
   have x0:wr.cell? ⟨s,10+(i+1)*9,none⟩=some (.int .i64 (SI.peers (i+1)).state):=HVI.out.p (i:=i+1) (j:=0) hi16 (by omega) rfl
   have HL1:=Lib.hid (show SI.lost1 (i+1)=if SI.down=true then SI else if (SI.peers (i+1)).state≠3 then SI else if SI.least 1>0 then SI.redo (i+1) (SI.least 1) else if SI.least 2>0 then SI else SI.lost2 (i+1) (runR SI.D ((i+1:Nat):Int) (SI.D.words (i+1)) 0 SI.epoch) from rfl)
   have HL2:=Lib.hid (HL1.out.trans (if_neg (by rw [HLK.out.up];decide)))
   clear hSI HL1 hns
   by_cases hs3:(SI.peers (i+1)).state=3
   ·have b0:((SI.peers (i+1)).state != 3)=false:=by simp [hs3]
    have HL3:=Lib.hid (HL2.out.trans (if_neg (fun hh=>hh hs3)))
    obtain ⟨j,hj,hjn⟩:=leastN SI 1
    rw [hj] at HL3
    have HJ:=Lib.hid hj
    have HVL:=Lib.hid (vleast_any HVI.out 1)
    rw [hj] at HVL
    clear HL2 hs3 hj
    go_wp2_with fail
    refine HVL.out.mono ?_
    rintro e w1 ⟨rfl,rfl⟩
    by_cases hj0:0<j
    ·have hjI:(0:Int)<(j:Int):=by omega
     have hj16:j≤16:=by rw [HNS.out] at hjn;omega
     have HL4:=Lib.hid (HL3.out.trans (if_pos hjI))
     have hsb:=HLK.out.st
     have hwr:IntKind.i64.wrap (SI.stamp+1)=SI.stamp+1:=IntWalk.i64_in _ (by omega)
     have y168:w1.cell? ⟨s,168,none⟩=some (.int .i64 SI.stamp):=HVI.out.t (k:=5) rfl
     have g168:=HVI.out.blk.frozen 168
     obtain ⟨ha,hsa⟩:=HVI.out.set HC.out (163+5) (.int .i64 (SI.stamp+1)) (S' := {SI with stamp:=SI.stamp+1}) (P':=P) (Sv.tail_set (k:=5) rfl rfl rfl rfl) ⟨HVI.out.rest.outs,HVI.out.rest.kept,HVI.out.rest.granted,HVI.out.rest.ids,HVI.out.rest.told,HVI.out.rest.table,HVI.out.rest.lease,HVI.out.rest.disk,HVI.out.rest.nodes⟩
     have a168:(w1.setCell ⟨s,168,none⟩ (.int .i64 (SI.stamp+1))).cell? ⟨s,168,none⟩=some (.int .i64 (SI.stamp+1)):=ha.t (k:=5) rfl
     have a0:(w1.setCell ⟨s,168,none⟩ (.int .i64 (SI.stamp+1))).cell? ⟨s,10+(i+1)*9,none⟩=some (.int .i64 (SI.peers (i+1)).state):=ha.p (i:=i+1) (j:=0) hi16 (by omega) rfl
     have af0:(w1.setCell ⟨s,168,none⟩ (.int .i64 (SI.stamp+1))).frozen? ⟨s,10+(i+1)*9,none⟩=false:=ha.blk.frozen (10+(i+1)*9)
     obtain ⟨hbb,hsb2⟩:=ha.peer HC.out (i:=i+1) (j:=0) (v := .int .i64 4) (p := {SI.peers (i+1) with state:=4}) hi16 (by omega) rfl rfl
     have b5:((w1.setCell ⟨s,168,none⟩ (.int .i64 (SI.stamp+1))).setCell ⟨s,10+(i+1)*9,none⟩ (.int .i64 4)).cell? ⟨s,10+(i+1)*9+5,none⟩=some (.int .i64 (SI.peers (i+1)).by_):=hbb.p (i:=i+1) (j:=5) hi16 (by omega) (by rw [peer_at];rfl)
     have bf5:((w1.setCell ⟨s,168,none⟩ (.int .i64 (SI.stamp+1))).setCell ⟨s,10+(i+1)*9,none⟩ (.int .i64 4)).frozen? ⟨s,10+(i+1)*9+5,none⟩=false:=hbb.blk.frozen (10+(i+1)*9+5)
     obtain ⟨hcc,hsc⟩:=hbb.peer HC.out (i:=i+1) (j:=5) (v := .int .i64 (j:Nat)) (p := {SI.peers (i+1) with state:=4,by_:=(j:Nat)}) hi16 (by omega) (by rw [peer_at];rfl) (by rw [peer_at])
     rw [peer_peer] at hcc
     have c6:(((w1.setCell ⟨s,168,none⟩ (.int .i64 (SI.stamp+1))).setCell ⟨s,10+(i+1)*9,none⟩ (.int .i64 4)).setCell ⟨s,10+(i+1)*9+5,none⟩ (.int .i64 (j:Nat))).cell? ⟨s,10+(i+1)*9+6,none⟩=some (.int .i64 (SI.peers (i+1)).stamp):=hcc.p (i:=i+1) (j:=6) hi16 (by omega) (by rw [peer_at];rfl)
     have cf6:(((w1.setCell ⟨s,168,none⟩ (.int .i64 (SI.stamp+1))).setCell ⟨s,10+(i+1)*9,none⟩ (.int .i64 4)).setCell ⟨s,10+(i+1)*9+5,none⟩ (.int .i64 (j:Nat))).frozen? ⟨s,10+(i+1)*9+6,none⟩=false:=hcc.blk.frozen (10+(i+1)*9+6)
     obtain ⟨hdd,hsd⟩:=hcc.peer HC.out (i:=i+1) (j:=6) (v := .int .i64 (SI.stamp+1)) (p := {SI.peers (i+1) with state:=4,by_:=(j:Nat),stamp:=SI.stamp+1}) hi16 (by omega) (by rw [peer_at];rfl) (by rw [peer_at])
     rw [peer_peer] at hdd
     have HD4:=Lib.hid hdd
     have hs4:=((hsa.trans hsb2).trans hsc).trans hsd
     have HS4:=Lib.hid (HST.out.trans (hs4.mono only0_sv))
     have HF4:=Lib.hid (HFI.out.step hs4)
     clear ha hsa hbb hsb2 hcc hsc hdd hsd hs4 hsb
     go_upto_region 10 with (fail)
     generalize (((w1.setCell ⟨s,168,none⟩ (.int .i64 (SI.stamp+1))).setCell ⟨s,10+(i+1)*9,none⟩ (.int .i64 4)).setCell ⟨s,10+(i+1)*9+5,none⟩ (.int .i64 (j:Nat))).setCell ⟨s,10+(i+1)*9+6,none⟩ (.int .i64 (SI.stamp+1))=W4 at HD4 HS4 HF4 ⊢
     clear y168 g168 a168 a0 af0 b5 bf5 c6 cf6 x0 x1 x9
     have z168:W4.cell? ⟨s,168,none⟩=some (.int .i64 (SI.stamp+1)):=HD4.out.t (k:=5) rfl
     have hout:=HLK.out.out
     have HTL:=Lib.hid (vtell_any ⟨P,HD4.out⟩ HF4.out HC.out (Nat.le_trans hout (by omega)) j hj16 {Mg.zero with kind:=12,node:=((i:Int)+1),stamp:=SI.stamp+1} (.slice none 0 0) (OwnS.nil _ _ _ _ _))
     go_wp2_with fail
     refine HTL.out.mono ?_
     rintro e w5 ⟨rfl,o5,⟨P5,hv5⟩,hs5⟩
     have HV5:=Lib.hid hv5
     have HS5:=Lib.hid (HS4.out.trans hs5)
     have HF5:=Lib.hid (HF4.out.step hs5)
     obtain ⟨g,cap,hov,hc6,hf6,hv6,hs6⟩:=hv5.lastEpoch HC.out (l:=SI.out) (x:=((j:Int),{({Mg.zero with kind:=12,node:=((i:Int)+1),stamp:=SI.stamp+1}:Mg) with gen:=SI.gen,epoch:=((({SI with stamp:=SI.stamp+1}:Sv).peer (i+1) {SI.peers (i+1) with state:=4,by_:=(j:Nat),stamp:=SI.stamp+1}).peers j).epoch})) rfl (by show (SI.out ++ [_]).length≤_;simp;omega) (SI.D.words (i+1))
     have q169:w5.drew.cell? ⟨s,169,none⟩=some (.slice (some ⟨g,0,none⟩) (SI.out.length+1) cap):=(hv5.drew.t (k:=6) rfl).trans (by rw [hov])
     have q0:w5.drew.cell? ⟨s,0,none⟩=some (.pointer (some ⟨P5.dp,0,none⟩)):=hv5.drew.h (k:=0) (by omega) rfl
     have q6:w5.drew.cell? ⟨g,SI.out.length*9+6,none⟩=_:=hc6
     have f6:w5.drew.frozen? ⟨g,SI.out.length*9+6,none⟩=false:=hf6
     have HWD:=Lib.hid (show Calls Tryz.prog 19 #[.pointer (some ⟨P5.dp,0,none⟩), .int .i64 ((i:Int)+1)] w5.drew (fun e w'=>e = .returned (.int .u64 (SI.D.words (i+1)))∧w5.drew=w') from dword_any hv5.drew.rest.disk (i+1) hi16)
     obtain ⟨m0,hm0⟩:∃m0,SI.out.length=m0:=⟨_,rfl⟩
     obtain ⟨n1,hn1⟩:∃n1,m0+1=n1:=⟨_,rfl⟩
     have hsub:IntKind.i64.wrap ((n1:Int) - 1)=(m0:Int):=by rw [IntWalk.i64_in _ (by omega)];omega
     have hoI:(m0:Int)<(n1:Int):=by omega
     have hoI0:(0:Int)≤(m0:Int):=by omega
     have HV6:=Lib.hid hv6.drew
     have HS6:=Lib.hid (HS5.out.trans ((hs6.mono (only_sv (by omega))).drew))
     have HF6:=Lib.hid ((HF5.out.step hs6).drew)
     have HN:=Lib.hid (show SI.lost1 (i+1) = {((({SI with stamp:=SI.stamp+1}:Sv).peer (i+1) {SI.peers (i+1) with state:=4,by_:=(j:Nat),stamp:=SI.stamp+1}).tell j {Mg.zero with kind:=12,node:=((i:Int)+1),stamp:=SI.stamp+1}) with out:=SI.out ++ [((j:Int),{({({Mg.zero with kind:=12,node:=((i:Int)+1),stamp:=SI.stamp+1}:Mg) with gen:=SI.gen,epoch:=((({SI with stamp:=SI.stamp+1}:Sv).peer (i+1) {SI.peers (i+1) with state:=4,by_:=(j:Nat),stamp:=SI.stamp+1}).peers j).epoch}:Mg) with epoch:=SI.D.words (i+1)})]} from HL4.out)
     rw [hm0] at q169 q6 f6 HV6 HS6 HF6
     rw [hn1] at q169
     clear hv5 hs5 hv6 hs6 z168 hov hc6 hf6 HL3 HL4 HTL hm0 hn1 hout
     go_upto_region 11 with (fail)
     go_cut [] from 69 to 87 (fun wx=>wx=(w5.setCell ⟨g,m0*9+6,none⟩ (.int .u64 (SI.D.words (i+1)))).drew)
     case first =>
      go_region_with (go_at_call 19;((with_reducible refine HWD.out.mono ?_);rintro e6 w6 ⟨rfl,rfl⟩))
      all_goals
       go_wp2_with fail
       go_meet
       case rel=>rfl
     case rest =>
      obtain rfl:=hcut
      clear q169 q0 q6 f6 HWD hsub hoI hoI0
      generalize (w5.setCell ⟨g,m0*9+6,none⟩ (.int .u64 (SI.D.words (i+1)))).drew=W6 at HV6 HS6 HF6 ⊢
      go_wp2_with fail
      go_roundg (N - (i+1))
      case measure=>have:=HNI.out;omega
      case rel=>exact ⟨i+1,o5,by omega,by go_num,by rw [HSC.out,HN.out];exact ⟨_,HV6.out⟩,HF6.out,HS6.out⟩
    ·obtain rfl:j=0:=by omega
     have HL4:=Lib.hid (HL3.out.trans (if_neg (by omega)))
     obtain ⟨j2,hj2,hjn2⟩:=leastN SI 2
     rw [hj2] at HL4
     have HVL2:=Lib.hid (vleast_any HVI.out 2)
     rw [hj2] at HVL2
     clear HL3 hj0 HJ hjn hj2
     go_wp2_with fail
     refine HVL2.out.mono ?_
     rintro e w2 ⟨rfl,rfl⟩
     by_cases hj0:0<j2
     ·have hjI:(0:Int)<(j2:Int):=by omega
      have HN:=Lib.hid (HL4.out.trans (if_pos hjI))
      go_wp2_with fail
      go_roundg (N - (i+1))
      case measure=>have:=HNI.out;omega
      case rel=>exact ⟨i+1,oL,by omega,by go_num,by rw [HSC.out,HN.out];exact ⟨P,HVI.out⟩,HFI.out,HST.out⟩
     ·obtain rfl:j2=0:=by omega
      have HL5:=Lib.hid (HL4.out.trans (if_neg (by omega)))
      have hrun:=HLK.out.run
      have hrl:=HLK.out.last
      have HRN:=Lib.hid (show Calls Tryz.prog 112 #[.pointer (some ⟨P.dp,0,none⟩), .agg #[.int .i64 3, .int .i64 12, .int .i64 12, .int .i64 6, .int .i64 32], .int .i64 ((i:Int)+1), .int .u64 (SI.D.words (i+1):Int), .int .i64 0, .int .u64 (SI.epoch:Int)] w2.drew _ from HLK.out.runs _ _ _ _ _ HVI.out.drew HC.out HFI.out.drew)
      obtain ⟨R,hR⟩:∃R,runR SI.D ((i+1:Nat):Int) (SI.D.words (i+1)) 0 SI.epoch=R:=⟨_,rfl⟩
      rw [hR] at HRN HL5 hrun hrl
      rw [hrun] at HRN
      have HN:=Lib.hid (show SI.lost1 (i+1)=({SI with D:=R.D}:Sv).leave (i+1) by
       rw [HL5.out]
       unfold Sv.lost2
       rw [if_pos hrun])
      have HWD:=Lib.hid (show Calls Tryz.prog 19 #[.pointer (some ⟨P.dp,0,none⟩), .int .i64 ((i:Int)+1)] w2.drew (fun e w'=>e = .returned (.int .u64 (SI.D.words (i+1)))∧w2.drew=w') from dword_any HVI.out.drew.rest.disk (i+1) hi16)
      have hh:=HVI.out.drew
      have q0:w2.drew.cell? ⟨s,0,none⟩=some (.pointer (some ⟨P.dp,0,none⟩)):=hh.h (k:=0) (by omega) rfl
      have q1:w2.drew.cell? ⟨s,1,none⟩=some (.int .i64 3):=hh.h (k:=1) (by omega) (by unfold Sv.headC;rw [HS3.out];rfl)
      have q2:w2.drew.cell? ⟨s,2,none⟩=some (.int .i64 12):=hh.h (k:=2) (by omega) (by unfold Sv.headC;rw [HS3.out];rfl)
      have q3:w2.drew.cell? ⟨s,3,none⟩=some (.int .i64 12):=hh.h (k:=3) (by omega) (by unfold Sv.headC;rw [HS3.out];rfl)
      have q4:w2.drew.cell? ⟨s,4,none⟩=some (.int .i64 6):=hh.h (k:=4) (by omega) (by unfold Sv.headC;rw [HS3.out];rfl)
      have q5:w2.drew.cell? ⟨s,5,none⟩=some (.int .i64 32):=hh.h (k:=5) (by omega) (by unfold Sv.headC;rw [HS3.out];rfl)
      have q7:w2.drew.cell? ⟨s,7,none⟩=some (.int .u64 SI.epoch):=hh.h (k:=7) (by omega) rfl
      clear x0 x1 x9 hh hR HL4 HL5 hj0 HVL2
      go_wp2_with fail
      go_region_held3 (fun w'=>w'.cell? ⟨s,0,none⟩=some (.pointer (some ⟨P.dp,0,none⟩))∧w'.cell? ⟨s,1,none⟩=some (.int .i64 3)∧w'.cell? ⟨s,2,none⟩=some (.int .i64 12)∧w'.cell? ⟨s,3,none⟩=some (.int .i64 12)∧w'.cell? ⟨s,4,none⟩=some (.int .i64 6)∧w'.cell? ⟨s,5,none⟩=some (.int .i64 32)∧w'.cell? ⟨s,7,none⟩=some (.int .u64 SI.epoch))
       (first | exact ⟨q0,q1,q2,q3,q4,q5,q7⟩ | exact ⟨g0,g1,g2,g3,g4,g5,g7⟩ | go_keep)
       (first
         | (go_at_call 19;((with_reducible refine HWD.out.mono ?_);rintro e w3 ⟨rfl,rfl⟩))
         | (go_at_call 112;((with_reducible refine HRN.out.mono ?_);rintro e w4 ⟨rfl,o4,hv4,hs4⟩;have HV4:=Lib.hid hv4;have HS4:=Lib.hid hs4;have g0:w4.cell? ⟨s,0,none⟩=some (.pointer (some ⟨P.dp,0,none⟩)):=hv4.h (k:=0) (by omega) rfl;have g1:w4.cell? ⟨s,1,none⟩=some (.int .i64 3):=hv4.h (k:=1) (by omega) (by unfold Sv.headC;rw [HS3.out];rfl);have g2:w4.cell? ⟨s,2,none⟩=some (.int .i64 12):=hv4.h (k:=2) (by omega) (by unfold Sv.headC;rw [HS3.out];rfl);have g3:w4.cell? ⟨s,3,none⟩=some (.int .i64 12):=hv4.h (k:=3) (by omega) (by unfold Sv.headC;rw [HS3.out];rfl);have g4:w4.cell? ⟨s,4,none⟩=some (.int .i64 6):=hv4.h (k:=4) (by omega) (by unfold Sv.headC;rw [HS3.out];rfl);have g5:w4.cell? ⟨s,5,none⟩=some (.int .i64 32):=hv4.h (k:=5) (by omega) (by unfold Sv.headC;rw [HS3.out];rfl);have g7:w4.cell? ⟨s,7,none⟩=some (.int .u64 SI.epoch):=hv4.h (k:=7) (by omega) rfl;clear hv4 hs4)))
      have HF4:=Lib.hid (HFI.out.drew.step HS4.out)
      have HT4:=Lib.hid (HST.out.drew.trans (HS4.out.mono six_sv))
      have HLV:=Lib.hid (show Calls Tryz.prog 92 #[.pointer (some ⟨s,0,none⟩), .int .i64 ((i:Int)+1)] w4 _ from vleave_any (S := {SI with D:=R.D}) ⟨P,HV4.out⟩ HF4.out HC.out HLK.out.wf HLK.out.nodes HLK.out.kept HLK.out.gw (Nat.le_trans HLK.out.out (by omega)) (i+1) (by omega) (by show i+1≤SI.n;rw [HNS.out];omega) hrl HLK.out.lok HLK.out.now)
      clear q0 q1 q2 q3 q4 q5 q7 g0 g1 g2 g3 g4 g5 g7 HWD HRN
      go_wp2_with fail
      refine HLV.out.mono ?_
      rintro e w5 ⟨rfl,o5,hv5,hs5⟩
      have HV5:=Lib.hid hv5
      have HS5:=Lib.hid (HT4.out.trans hs5)
      have HF5:=Lib.hid (HF4.out.step hs5)
      clear hv5 hs5
      go_wp2_with fail
      go_roundg (N - (i+1))
      case measure=>have:=HNI.out;omega
      case rel=>exact ⟨i+1,o5,by omega,by go_num,by rw [HSC.out,HN.out];exact HV5.out,HF5.out,HS5.out⟩
   ·have b0:((SI.peers (i+1)).state != 3)=true:=by simp [hs3]
    have HN:=Lib.hid (HL2.out.trans (if_pos hs3))
    go_wp2_with fail
    go_roundg (N - (i+1))
    case measure=>have:=HNI.out;omega
    case rel=>exact ⟨i+1,oL,by omega,by go_num,by rw [HSC.out,HN.out];exact ⟨P,HVI.out⟩,HFI.out,HST.out⟩
  ·have hiI:¬(i:Int)+1≤(N:Int):=by omega
   obtain rfl:i=N:=by have:=HNI.out;omega
   go_wp2_with fail
   go_ret
   exact ⟨rfl,oL,by rw [HLO.out];exact ⟨P,HVI.out⟩,HST.out⟩
end
end Go.Proofs.YtohgabdmmbngbaaGreatDoor
