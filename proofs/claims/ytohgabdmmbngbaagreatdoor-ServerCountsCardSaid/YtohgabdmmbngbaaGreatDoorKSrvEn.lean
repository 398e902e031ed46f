import Derived.Test.YtohgabdmmbngbaaGreatDoorKSrvLo
import Derived.StillTailTactics
set_option linter.unusedVariables false
set_option linter.unusedSimpArgs false
namespace Go.Proofs.YtohgabdmmbngbaaGreatDoor
open Go.RowKit
section
variable {o o':Nat→Nat} {c n:Nat} {C:Nat→Prop} {w w':World} {s:Nat} {S:Sv} {P:SvP} {v:Value} {b:Bnd}
theorem SvIn.idLook (h:SvIn o c w s S P) (k:Int):(Instr.lookup 66 (.map (some P.im)) (.int .i64 k) false).run Tryz.prog w = .ok (.int .i64 ((S.ids k).getD 0)) w:=by
 have:=h.rest.ids.look Tryz.underlying66 Tryz.underlying3 (zero_i w) k false
 unfold leV at this
 cases hk:S.ids k with
 | none =>
   rw [hk] at this
   exact this
 | some v =>
   rw [hk] at this
   exact this
theorem Blk.nine {w:World} {g:Nat} {t:TypeId} {c0 c1 c2 c3 c4 c5 c6 c7 c8:Value} (h:Blk w g t #[c0,c1,c2,c3,c4,c5,c6,c7,c8]):w.cell? ⟨g,0,none⟩=some c0∧w.cell? ⟨g,1,none⟩=some c1∧w.cell? ⟨g,2,none⟩=some c2∧w.cell? ⟨g,3,none⟩=some c3∧w.cell? ⟨g,4,none⟩=some c4∧w.cell? ⟨g,5,none⟩=some c5∧w.cell? ⟨g,6,none⟩=some c6∧w.cell? ⟨g,7,none⟩=some c7∧w.cell? ⟨g,8,none⟩=some c8 :=
 ⟨h.cell 0,h.cell 1,h.cell 2,h.cell 3,h.cell 4,h.cell 5,h.cell 6,h.cell 7,h.cell 8⟩
def Sv.backN (S:Sv) (i:Nat):Sv:=(List.range i).foldl Sv.back1 S
theorem backN_succ (S:Sv) (i:Nat):S.backN (i+1)=(S.backN i).back1 i:=by
 unfold Sv.backN
 rw [List.range_succ,List.foldl_append]
 rfl
theorem SvOk.backN (h:SvOk b S) (i:Nat):SvOk b (S.backN i):=foldl_inv (P:=SvOk b) (f:=Sv.back1) (List.range i) S h (fun B i _ hB=>hB.back1 i)
def Sv.serveN (S:Sv) (ks:List Rq):Sv:=ks.foldl (fun S r=>S.acquire r.node.toNat r.m) S
def Sv.giveN (S:Sv) (ws:List Wq):Sv:=ws.foldl Sv.give1 S
def SvBy (S:Sv):Prop:=∀i,∃j:Nat,(S.peers i).by_=(j:Nat)∧j≤16
structure SvSv (S:Sv):Prop where
 out:S.out.length≤1000000000
 wf:TbWf S.T
 gr:∀i,0≤(S.peers i).grants∧(S.peers i).grants≤1000000000
structure SvGv (S:Sv):Prop where
 out:S.out.length≤1000000000
 gr:∀i,0≤(S.peers i).grants∧(S.peers i).grants≤1000000000
structure SvRv (S:Sv):Prop where
 wf:TbWf S.T
 nodes:S.T.nodes=S.n
 out:S.out.length+S.T.revokes.length≤1000000000
 up:S.revoke.down=false
structure SvGi (S:Sv):Prop where
 len:S.granted.length≤1000000
 nd:∀w∈S.granted,nd w.node
 step:∀i {G:List Wq},G=S.granted→SvGv (S.giveN (G.take i))
 end_:SvRv S.give
structure SvEd (S:Sv):Prop where
 rq:∀r∈S.kept,nd r.node∧r.m.locks.length≤1000
 kept:S.kept.length≤100000
 serve:∀i {rows:List RqV},rows.map RqV.r=S.kept→SvSv (({S with kept := []}:Sv).serveN ((rows.take i).map RqV.r))
 give:SvGi S.serve
theorem SvIn.shut (h:SvIn o c w s S P) (hc1:1≤c):SvIn o c ((w.setCell ⟨s,169,none⟩ (.slice none 0 0)).setCell ⟨s,167,none⟩ (.slice none 0 0)) s {S with out := [],granted := []} {P with ov := .slice none 0 0,gv := .slice none 0 0}∧OutsAt o (c+1) ((w.setCell ⟨s,169,none⟩ (.slice none 0 0)).setCell ⟨s,167,none⟩ (.slice none 0 0)) P.ov S.out∧Step o (only c) w o ((w.setCell ⟨s,169,none⟩ (.slice none 0 0)).setCell ⟨s,167,none⟩ (.slice none 0 0)) ∧
 w.cell? ⟨s,169,none⟩=some P.ov∧(w.setCell ⟨s,169,none⟩ (.slice none 0 0)).cell? ⟨s,167,none⟩=some P.gv∧w.frozen? ⟨s,169,none⟩=false∧(w.setCell ⟨s,169,none⟩ (.slice none 0 0)).frozen? ⟨s,167,none⟩=false:=by
 obtain ⟨h1,s1⟩:=h.set hc1 (163+6) (.slice none 0 0) (S' := {S with out := []}) (P' := {P with ov := .slice none 0 0}) (Sv.tail_set (k:=6) rfl rfl rfl rfl) ⟨OutsAt.nil _ _ _,h.rest.kept,h.rest.granted,h.rest.ids,h.rest.told,h.rest.table,h.rest.lease,h.rest.disk,h.rest.nodes⟩
 obtain ⟨h2,s2⟩:=h1.set hc1 (163+4) (.slice none 0 0) (S' := {S with out := [],granted := []}) (P' := {P with ov := .slice none 0 0,gv := .slice none 0 0}) (Sv.tail_set (k:=4) rfl rfl rfl rfl) ⟨h1.rest.outs,h1.rest.kept,OwnS.nil _ _ _ _ _,h1.rest.ids,h1.rest.told,h1.rest.table,h1.rest.lease,h1.rest.disk,h1.rest.nodes⟩
 have hs:=s1.trans s2
 exact ⟨h2,h.rest.outs.step hs (by unfold only;omega) (by unfold only;omega),hs,h.t (k:=6) rfl,h1.t (k:=4) rfl,h.blk.frozen 169,h1.blk.frozen 167⟩
set_option maxRecDepth 100000 in
set_option maxHeartbeats 32000000 in
theorem vend_gen (h:SvAt o c w s S) (hf:Fut o w) (hc1:1≤c) (hby:∀i,SvBy (S.backN i)) (hlo:∀i,i<S.back.n→LoOk (S.back.lostN i) (i+1)) (ok:SvEd S.back.lost) :
 Calls Tryz.prog 46 #[.pointer (some ⟨s,0,none⟩)] w fun e w'=>∃v,e = .returned v∧∃o',SvAt o' c w' s S.end_.2∧OutsAt o' (c+1) w' v S.end_.1∧Step o (svC c) w o' w':=by
 have HC:=Lib.hid hc1
 have HV:=Lib.hid h
 have HF:=Lib.hid hf
 have HBY:=Lib.hid hby
 have HLO:=Lib.hid hlo
 have HED:=Lib.hid ok
 obtain ⟨E,hE⟩:∃E,S.end_=E:=⟨_,rfl⟩
 have HE:=Lib.hid hE
 unfold Sv.end_ at HE
 rw [hE]
 have HB17:=Lib.hid (show S.backN 17=S.back from rfl)
 clear h hf hc1 hby hlo ok hE
 go_enter Tryz.func46,Tryz.ntmps46
 go_wp2_with fail
 go_loopg [11] 17 (fun r t11 wr=>∃(i:Nat) (oL:Nat→Nat),r+i=17∧t11 = .int .i64 (i:Nat)∧SvAt oL c wr s (S.backN i)∧Fut oL wr∧Step o (svC c) w oL wr)
 case atStart=>exact ⟨0,o,by omega,rfl,HV.out,HF.out,Step.refl _ _ _⟩
 case round =>
  obtain ⟨i,oL,hni,rfl,⟨P,hv⟩,hfl,hst⟩:=hrel
  have HNI:=Lib.hid hni
  have HVI:=Lib.hid hv
  have HFI:=Lib.hid hfl
  have HST:=Lib.hid hst
  have HSC:=Lib.hid (backN_succ S i)
  have HBI:=Lib.hid (HBY.out i)
  clear hni hv hfl hst HV HF
  by_cases hlt:i<17
  ·have hltI:(i:Int)<17:=by omega
   have hi0:(0:Int)≤(i:Int):=by omega
   have hi16:i≤16:=by omega
   obtain ⟨SI,hSI⟩:∃SI,S.backN i=SI:=⟨_,rfl⟩
   rw [hSI] at HVI HSC HBI
   obtain ⟨j,hj,hj16⟩:=(HBI.out i)
   have hjI:(j:Int)<17:=by omega
   have hjI0:(0:Int)≤(j:Int):=by omega
   have x0:wr.cell? ⟨s,10+i*9,none⟩=some (.int .i64 (SI.peers i).state):=HVI.out.p (j:=0) hi16 (by omega) rfl
   have x5:wr.cell? ⟨s,10+i*9+5,none⟩=some (.int .i64 (j:Nat)):=hj▸HVI.out.p (j:=5) hi16 (by omega) rfl
   have xj:wr.cell? ⟨s,10+j*9,none⟩=some (.int .i64 (SI.peers j).state):=HVI.out.p (i:=j) (j:=0) hj16 (by omega) rfl
   have HB1:=Lib.hid (show SI.back1 i=if (SI.peers i).state=4∧(SI.peers j).state≠1 then SI.peer i {SI.peers i with state:=3} else SI by
    unfold Sv.back1
    rw [hj,Int.toNat_natCast])
   clear hSI hj
   by_cases h4:(SI.peers i).state=4
   ·have b4:((SI.peers i).state == 4)=true:=by simp [h4]
    by_cases h1:(SI.peers j).state=1
    ·have b1:((SI.peers j).state != 1)=false:=by simp [h1]
     have HN:=Lib.hid (HB1.out.trans (if_neg (fun hh=>hh.2 h1)))
     clear HB1 h1 h4
     go_wp2_with fail
     go_quiet (fail)
     have HVD:=Lib.hid (HVI.out.drewN nq)
     have HFD:=Lib.hid (HFI.out.drewN nq)
     have HSD:=Lib.hid (HST.out.drewN nq)
     generalize wr.drewN nq=WD at HVD HFD HSD ⊢
     go_wp2_with fail
     go_roundg (17 - (i+1))
     case measure=>have:=HNI.out;omega
     case rel=>exact ⟨i+1,oL,by omega,by go_num,by rw [HSC.out,HN.out];exact ⟨P,HVD.out⟩,HFD.out,HSD.out⟩
    ·have b1:((SI.peers j).state != 1)=true:=by simp [h1]
     have HN:=Lib.hid (HB1.out.trans (if_pos ⟨h4,h1⟩))
     clear HB1 h1 h4
     go_wp2_with fail
     go_quiet (fail)
     have HVD:=Lib.hid (HVI.out.drewN nq)
     have HFD:=Lib.hid (HFI.out.drewN nq)
     have HSD:=Lib.hid (HST.out.drewN nq)
     have z0:(wr.drewN nq).cell? ⟨s,10+i*9,none⟩=some (.int .i64 (SI.peers i).state):=x0
     have f0:=HVD.out.blk.frozen (10+i*9)
     generalize wr.drewN nq=WD at HVD HFD HSD z0 f0 ⊢
     clear x0 x5 xj
     obtain ⟨hp1,hp2⟩:=HVD.out.peer HC.out (i:=i) (j:=0) (v := .int .i64 3) (p := {SI.peers i with state:=3}) hi16 (by omega) rfl rfl
     have HVP:=Lib.hid hp1
     have HSP:=Lib.hid (HSD.out.trans (hp2.mono only0_sv))
     have HFP:=Lib.hid (HFD.out.step hp2)
     clear hp1 hp2
     go_wp2_with fail
     go_roundg (17 - (i+1))
     case measure=>have:=HNI.out;omega
     case rel=>exact ⟨i+1,oL,by omega,by go_num,by rw [HSC.out,HN.out];exact ⟨P,HVP.out⟩,HFP.out,HSP.out⟩
   ·have b4:((SI.peers i).state == 4)=false:=by simp [h4]
    have HN:=Lib.hid (HB1.out.trans (if_neg (fun hh=>h4 hh.1)))
    clear HB1 h4
    go_wp2_with fail
    go_quiet (fail)
    have HVD:=Lib.hid (HVI.out.drewN nq)
    have HFD:=Lib.hid (HFI.out.drewN nq)
    have HSD:=Lib.hid (HST.out.drewN nq)
    generalize wr.drewN nq=WD at HVD HFD HSD ⊢
    go_wp2_with fail
    go_roundg (17 - (i+1))
    case measure=>have:=HNI.out;omega
    case rel=>exact ⟨i+1,oL,by omega,by go_num,by rw [HSC.out,HN.out];exact ⟨P,HVD.out⟩,HFD.out,HSD.out⟩
  ·have hltI:¬(i:Int)<17:=by omega
   obtain rfl:i=17:=by have:=HNI.out;omega
   rw [HB17.out] at HVI
   have HLC:=Lib.hid (vlost_any ⟨P,HVI.out⟩ HFI.out HC.out HLO.out)
   clear HSC HBI HBY HB17 HLO
   obtain ⟨S2,hS2⟩:∃S2,S.back.lost=S2:=⟨_,rfl⟩
   rw [hS2] at HLC HE HED
   clear hS2
   go_wp2_with fail
   refine HLC.out.mono ?_
   rintro e w1 ⟨rfl,o1,⟨P1,hv1⟩,hs1⟩
   have HV1:=Lib.hid hv1
   have HS1:=Lib.hid (HST.out.trans hs1)
   have HF1:=Lib.hid (HFI.out.step hs1)
   clear hv1 hs1 HVI HFI HST HLC
   go_wp2_with fail
   refine (vReady_any HV1.out).mono ?_
   rintro e w2 ⟨rfl,hb2⟩
   have HV2:=Lib.hid (HV1.out.below_ hb2)
   have HF2:=Lib.hid (HF1.out.below hb2)
   have HS2:=Lib.hid (HS1.out.trans (Step.of_below o1 (svC c) hb2))
   have HSV:=Lib.hid (show S2.serve=if S2.ready=true then S2.kept.foldl (fun S r=>S.acquire r.node.toNat r.m) {S2 with kept := []} else S2 from rfl)
   obtain ⟨q,hq⟩:∃q,S2.ready=q:=⟨_,rfl⟩
   rw [hq] at HSV ⊢
   clear hb2 HV1 HF1 HS1 hq
   cases q with
   | true =>
     have HSE:=Lib.hid (HSV.out.trans (if_pos rfl))
     obtain ⟨rows,hr1,hr2,hr3⟩:=HV2.out.rest.kept
     obtain ⟨A,kcap,hkv,_⟩:=own_form' hr2
     rw [hkv] at hr2
     have HRR:=Lib.hid hr1
     have y166:w2.cell? ⟨s,166,none⟩=some (.slice A rows.length kcap):=(HV2.out.t (k:=3) rfl).trans (by rw [hkv])
     have f166:=HV2.out.blk.frozen 166
     obtain ⟨hv3,hs3⟩:=HV2.out.keep HC.out (v := .slice none 0 0) (K := []) (Step.refl o1 (only (c+2)) w2) (KeptAt.nil _ _ _)
     have hcs:Step o1 (only c) w2 o1 (w2.setCell ⟨s,166,none⟩ (.slice none 0 0)):=(Step.refl o1 (only c) w2).setCell (p:=⟨s,166,none⟩) HV2.out.col _
     have HRW:=Lib.hid (hr2.step hcs (by unfold only;omega))
     have HRL:=Lib.hid (show ∀x∈rows,x.n=x.r.m.locks.length∧OwnS o1 0 (w2.setCell ⟨s,166,none⟩ (.slice none 0 0)) 47 3 (.slice x.A x.n x.cap) x.n (lkcells x.r.m.locks) from fun x hx=>⟨(hr3 x hx).1,(hr3 x hx).2.step hcs (by have:=HC.out;unfold only;omega)⟩)
     have HV3:=Lib.hid hv3
     have HS3:=Lib.hid (HS2.out.trans hs3)
     have HF3:=Lib.hid (HF2.out.step hs3)
     have HKO:=Lib.hid (show ∀x∈rows,nd x.r.node∧x.r.m.locks.length≤1000 from fun x hx=>HED.out.rq x.r (by rw [←hr1];exact List.mem_map_of_mem hx))
     have hrn:rows.length≤100000:=by
      have:=HED.out.kept
      rw [←hr1,List.length_map] at this
      exact this
     have hrnI:(rows.length:Int)≤100000:=by omega
     have HSN:=Lib.hid (show ∀i,SvSv (({S2 with kept := []}:Sv).serveN ((rows.take i).map RqV.r)) from fun i=>HED.out.serve i (by rw [←hr1]))
     have HSF:=Lib.hid (show S2.serve=({S2 with kept := []}:Sv).serveN (rows.map RqV.r) by rw [HSE.out,hr1];rfl)
     clear hr1 hr2 hr3 hkv hv3 hs3 hcs HSE HSV
     go_upto_region 12 with (fail)
     generalize w2.setCell ⟨s,166,none⟩ (.slice none 0 0)=W3 at HRW HRL HV3 HS3 HF3 ⊢
     clear y166 f166 HV2 HS2 HF2
     obtain ⟨S3,hS3⟩:∃S3,({S2 with kept := []}:Sv)=S3:=⟨_,rfl⟩
     rw [hS3] at HSN HSF HV3
     clear hS3
     go_wp2_with fail
     go_loopg [54] rows.length (fun r t54 wr=>∃(i:Nat) (oL:Nat→Nat),r+i=rows.length∧t54 = .int .i64 (i:Nat)∧SvAt oL c wr s (S3.serveN ((rows.take i).map RqV.r))∧OwnS oL (c+2) wr 161 9 (.slice A rows.length kcap) rows.length (rqcells rows)∧(∀x∈rows,x.n=x.r.m.locks.length∧OwnS oL 0 wr 47 3 (.slice x.A x.n x.cap) x.n (lkcells x.r.m.locks))∧Fut oL wr∧Step o (svC c) w oL wr)
     case atStart=>exact ⟨0,o1,by omega,rfl,⟨_,HV3.out⟩,HRW.out,HRL.out,HF3.out,HS3.out⟩
     case round =>
      obtain ⟨i,oL,hni,rfl,⟨P4,hv⟩,hrw,hrl,hfl,hst⟩:=hrel
      have HNI:=Lib.hid hni
      have HVI:=Lib.hid hv
      have HRI:=Lib.hid hrw
      have HLI:=Lib.hid hrl
      have HFI:=Lib.hid hfl
      have HST:=Lib.hid hst
      clear hni hv hrw hrl hfl hst HV3 HRW HRL HF3 HS3
      by_cases hlt:i<rows.length
      ·have hltI:(i:Int)<(rows.length:Int):=by omega
       obtain ⟨q,hq⟩:∃q,rows[i]? = some q:=⟨_,List.getElem?_eq_getElem hlt⟩
       have hqm:q∈rows:=List.mem_of_getElem? hq
       have HNX:=Lib.hid (show S3.serveN ((rows.take (i+1)).map RqV.r)=(S3.serveN ((rows.take i).map RqV.r)).acquire q.r.node.toNat q.r.m by
        rw [List.take_add_one,hq]
        unfold Sv.serveN
        rw [List.map_append,List.foldl_append]
        rfl)
       have HOI:=Lib.hid (HSN.out i)
       obtain ⟨⟨hk1,hk16⟩,hkl⟩:=HKO.out q hqm
       obtain ⟨k,hk⟩:∃k:Nat,q.r.node=(k:Nat):=⟨q.r.node.toNat,by omega⟩
       obtain ⟨hqn,hql⟩:=HLI.out q hqm
       rw [hqn] at hql
       have HQL:=Lib.hid hql
       rw [hk,Int.toNat_natCast] at HNX
       have hk16':k≤16:=by omega
       obtain ⟨SI,hSI⟩:∃SI,S3.serveN ((rows.take i).map RqV.r)=SI:=⟨_,rfl⟩
       rw [hSI] at HNX HOI HVI
       have hat:∀k u,(RqV.cells q)[k]? = some u→(rqcells rows)[i*9+k]? = some u:=fun k u hk=>flatS_at reqs_size hq hk
       obtain ⟨gA,hA,_,_⟩:=HRI.out.addr (by omega)
       subst hA
       have x0:wr.cell? ⟨gA,i*9,none⟩=some (.int .i64 (k:Nat)):=HRI.out.at_ (hat 0 _ (by rw [←hk];rfl))
       have x1:wr.cell? ⟨gA,i*9+1,none⟩=some (.int .i64 q.r.m.kind):=HRI.out.at_ (hat 1 _ rfl)
       have x2:wr.cell? ⟨gA,i*9+2,none⟩=some (.int .i64 q.r.m.id):=HRI.out.at_ (hat 2 _ rfl)
       have x3:wr.cell? ⟨gA,i*9+3,none⟩=some (.int .i64 q.r.m.node):=HRI.out.at_ (hat 3 _ rfl)
       have x4:wr.cell? ⟨gA,i*9+4,none⟩=some (.int .i64 q.r.m.gen):=HRI.out.at_ (hat 4 _ rfl)
       have x5:wr.cell? ⟨gA,i*9+5,none⟩=some (.int .i64 q.r.m.stamp):=HRI.out.at_ (hat 5 _ rfl)
       have x6:wr.cell? ⟨gA,i*9+6,none⟩=some (.int .u64 q.r.m.epoch):=HRI.out.at_ (hat 6 _ rfl)
       have x7:wr.cell? ⟨gA,i*9+7,none⟩=some (.int .i64 q.r.m.err):=HRI.out.at_ (hat 7 _ rfl)
       have x8:wr.cell? ⟨gA,i*9+8,none⟩=some (.slice q.A q.r.m.locks.length q.cap):=HRI.out.at_ (hat 8 _ (by rw [←hqn];rfl))
       have HQ:=Lib.hid (Keep.new HFI.out 161 #[.int .i64 (k:Nat), .int .i64 q.r.m.kind, .int .i64 q.r.m.id, .int .i64 q.r.m.node, .int .i64 q.r.m.gen, .int .i64 q.r.m.stamp, .int .u64 q.r.m.epoch, .int .i64 q.r.m.err, .slice q.A q.r.m.locks.length q.cap])
       have HV4:=Lib.hid (HVI.out.alloc (.cells #[.int .i64 (k:Nat), .int .i64 q.r.m.kind, .int .i64 q.r.m.id, .int .i64 q.r.m.node, .int .i64 q.r.m.gen, .int .i64 q.r.m.stamp, .int .u64 q.r.m.epoch, .int .i64 q.r.m.err, .slice q.A q.r.m.locks.length q.cap] 161))
       have HR4:=Lib.hid (HRI.out.alloc (.cells #[.int .i64 (k:Nat), .int .i64 q.r.m.kind, .int .i64 q.r.m.id, .int .i64 q.r.m.node, .int .i64 q.r.m.gen, .int .i64 q.r.m.stamp, .int .u64 q.r.m.epoch, .int .i64 q.r.m.err, .slice q.A q.r.m.locks.length q.cap] 161))
       have HL4:=Lib.hid (show ∀x∈rows,x.n=x.r.m.locks.length∧OwnS oL 0 (wr.alloc (.cells #[.int .i64 (k:Nat), .int .i64 q.r.m.kind, .int .i64 q.r.m.id, .int .i64 q.r.m.node, .int .i64 q.r.m.gen, .int .i64 q.r.m.stamp, .int .u64 q.r.m.epoch, .int .i64 q.r.m.err, .slice q.A q.r.m.locks.length q.cap] 161)) 47 3 (.slice x.A x.n x.cap) x.n (lkcells x.r.m.locks) from fun x hx=>⟨(HLI.out x hx).1,(HLI.out x hx).2.alloc _⟩)
       have HQ4:=Lib.hid (HQL.out.alloc (.cells #[.int .i64 (k:Nat), .int .i64 q.r.m.kind, .int .i64 q.r.m.id, .int .i64 q.r.m.node, .int .i64 q.r.m.gen, .int .i64 q.r.m.stamp, .int .u64 q.r.m.epoch, .int .i64 q.r.m.err, .slice q.A q.r.m.locks.length q.cap] 161))
       have HF4:=Lib.hid (HFI.out.alloc (.cells #[.int .i64 (k:Nat), .int .i64 q.r.m.kind, .int .i64 q.r.m.id, .int .i64 q.r.m.node, .int .i64 q.r.m.gen, .int .i64 q.r.m.stamp, .int .u64 q.r.m.epoch, .int .i64 q.r.m.err, .slice q.A q.r.m.locks.length q.cap] 161))
       have HS4:=Lib.hid (HST.out.alloc (.cells #[.int .i64 (k:Nat), .int .i64 q.r.m.kind, .int .i64 q.r.m.id, .int .i64 q.r.m.node, .int .i64 q.r.m.gen, .int .i64 q.r.m.stamp, .int .u64 q.r.m.epoch, .int .i64 q.r.m.err, .slice q.A q.r.m.locks.length q.cap] 161))
       clear hat hq hqm hql hqn hSI HVI HRI HLI HFI HST HQL
       go_upto_region 15 with (fail)
       generalize wr.alloc (.cells #[.int .i64 (k:Nat), .int .i64 q.r.m.kind, .int .i64 q.r.m.id, .int .i64 q.r.m.node, .int .i64 q.r.m.gen, .int .i64 q.r.m.stamp, .int .u64 q.r.m.epoch, .int .i64 q.r.m.err, .slice q.A q.r.m.locks.length q.cap] 161)=W4 at HQ HV4 HR4 HL4 HQ4 HF4 HS4 ⊢
       generalize wr.heap.size=gq at HQ ⊢
       clear x0 x1 x2 x3 x4 x5 x6 x7 x8
       obtain ⟨z0,z1,z2,z3,z4,z5,z6,z7,z8⟩:=HQ.out.1.nine
       have HAC:=Lib.hid (vacquire_fin ⟨P4,HV4.out⟩ HF4.out HC.out HOI.out.out HOI.out.wf k hk16' (HOI.out.gr k) q.r.m (.slice q.A q.r.m.locks.length q.cap) HQ4.out.row hkl)
       go_wp2_with fail
       refine HAC.out.mono ?_
       rintro e w5 ⟨rfl,o5,hv5,hs5⟩
       have HV5:=Lib.hid hv5
       have HR5:=Lib.hid (HR4.out.step hs5 (by unfold acqC telC tabC;omega))
       have HL5:=Lib.hid (show ∀x∈rows,x.n=x.r.m.locks.length∧OwnS o5 0 w5 47 3 (.slice x.A x.n x.cap) x.n (lkcells x.r.m.locks) from fun x hx=>⟨(HL4.out x hx).1,(HL4.out x hx).2.step hs5 (acqC_0 HC.out)⟩)
       have HF5:=Lib.hid (HF4.out.step hs5)
       have HS5:=Lib.hid (HS4.out.trans (hs5.mono acqC_sv))
       clear hv5 hs5 z0 z1 z2 z3 z4 z5 z6 z7 z8
       go_wp2_with fail
       go_roundg (rows.length - (i+1))
       case measure=>have:=HNI.out;omega
       case rel=>exact ⟨i+1,o5,by omega,by go_num,by rw [HNX.out];exact HV5.out,HR5.out,HL5.out,HF5.out,HS5.out⟩
      ·have hltI:¬(i:Int)<(rows.length:Int):=by omega
       obtain rfl:i=rows.length:=by have:=HNI.out;omega
       rw [List.take_length,←HSF.out] at HVI
       have HVS:=HVI
       have HFS:=HFI
       have HSS:=HST
       clear HVI HFI HST HRI HLI HSN HSF HKO HRR hltI HNI
       obtain ⟨S4,hS4⟩:∃S4,S2.serve=S4:=⟨_,rfl⟩
       have HGV:=Lib.hid (HED.out.give)
       rw [hS4] at HVS HE HGV
       clear hS4 HED
       obtain ⟨G,hG⟩:∃G,S4.granted=G:=⟨_,rfl⟩
       have hgr:=HVS.out.rest.granted
       rw [hG] at hgr
       obtain ⟨B,gcap,hgv,_⟩:=own_form' hgr
       rw [hgv] at hgr
       have HGR:=Lib.hid hgr
       have HGI:=Lib.hid (show S4.give=S4.giveN G by unfold Sv.give Sv.giveN;rw [hG])
       have y167:wr.cell? ⟨s,167,none⟩=some (.slice B G.length gcap):=(HVS.out.t (k:=4) rfl).trans (by rw [hgv])
       have hgn:=HGV.out.len
       rw [hG] at hgn
       have hgnI:(G.length:Int)≤1000000:=by omega
       have HGN:=Lib.hid (show ∀i,SvGv (S4.giveN (G.take i)) from fun i=>HGV.out.step i (by rw [hG]))
       have HGK:=Lib.hid (show ∀w∈G,nd w.node from hG▸HGV.out.nd)
       clear hgr hgv hG
       go_wp2_with fail
       go_loopg [70] G.length (fun r t70 wr=>∃(i:Nat) (oL:Nat→Nat),r+i=G.length∧t70 = .int .i64 (i:Nat)∧SvAt oL c wr s (S4.giveN (G.take i))∧OwnS oL (c+3) wr 164 5 (.slice B G.length gcap) G.length (wqcells G)∧Fut oL wr∧Step o (svC c) w oL wr)
       case atStart=>exact ⟨0,oL,by omega,rfl,⟨_,HVS.out⟩,HGR.out,HFS.out,HSS.out⟩
       case round =>
        obtain ⟨i,oL,hni,rfl,⟨P4,hv⟩,hrw,hfl,hst⟩:=hrel
        have HNI:=Lib.hid hni
        have HVI:=Lib.hid hv
        have HRI:=Lib.hid hrw
        have HFI:=Lib.hid hfl
        have HST:=Lib.hid hst
        clear hni hv hrw hfl hst HVS HGR HFS HSS y167
        by_cases hlt:i<G.length
        ·have hltI:(i:Int)<(G.length:Int):=by omega
         obtain ⟨q,hq⟩:∃q,G[i]? = some q:=⟨_,List.getElem?_eq_getElem hlt⟩
         have HNX:=Lib.hid (show S4.giveN (G.take (i+1))=(S4.giveN (G.take i)).give1 q from foldl_next hq)
         have HOI:=Lib.hid (HGN.out i)
         obtain ⟨hk1,hk16⟩:=HGK.out q (List.mem_of_getElem? hq)
         obtain ⟨k,hk⟩:∃k:Nat,q.node=(k:Nat):=⟨q.node.toNat,by omega⟩
         have hk16':k≤16:=by omega
         obtain ⟨SI,hSI⟩:∃SI,S4.giveN (G.take i)=SI:=⟨_,rfl⟩
         rw [hSI] at HNX HOI HVI
         have HG1:=Lib.hid (show SI.give1 q = {SI.grant k ((SI.ids q.id).getD 0) q.l with ids:=del SI.ids q.id} by
          unfold Sv.give1
          rw [hk,Int.toNat_natCast])
         obtain ⟨ad,rfl,x0,x1,x2,x3,x4⟩:=(Reads.of_own HRI.out.1).wait hq
         rw [hk] at x1
         have HQ:=Lib.hid (Keep.new HFI.out 164 #[.int .i64 q.id, .int .i64 (k:Nat), .int .i64 q.l.a, .int .i64 q.l.b, .int .i64 q.l.m])
         have HV4:=Lib.hid (HVI.out.alloc (.cells #[.int .i64 q.id, .int .i64 (k:Nat), .int .i64 q.l.a, .int .i64 q.l.b, .int .i64 q.l.m] 164))
         have HR4:=Lib.hid (HRI.out.alloc (.cells #[.int .i64 q.id, .int .i64 (k:Nat), .int .i64 q.l.a, .int .i64 q.l.b, .int .i64 q.l.m] 164))
         have HF4:=Lib.hid (HFI.out.alloc (.cells #[.int .i64 q.id, .int .i64 (k:Nat), .int .i64 q.l.a, .int .i64 q.l.b, .int .i64 q.l.m] 164))
         have HS4:=Lib.hid (HST.out.alloc (.cells #[.int .i64 q.id, .int .i64 (k:Nat), .int .i64 q.l.a, .int .i64 q.l.b, .int .i64 q.l.m] 164))
         clear hq hSI HVI HRI HFI HST
         go_upto_region 20 with (fail)
         generalize wr.alloc (.cells #[.int .i64 q.id, .int .i64 (k:Nat), .int .i64 q.l.a, .int .i64 q.l.b, .int .i64 q.l.m] 164)=W4 at HQ HV4 HR4 HF4 HS4 ⊢
         generalize wr.heap.size=gq at HQ ⊢
         clear x0 x1 x2 x3 x4
         have HVD:=Lib.hid HV4.out.drew
         obtain ⟨z0,z1,z2,z3,z4⟩:W4.drew.cell? ⟨gq,0,none⟩=some (.int .i64 q.id)∧W4.drew.cell? ⟨gq,1,none⟩=some (.int .i64 (k:Nat))∧W4.drew.cell? ⟨gq,2,none⟩=some (.int .i64 q.l.a)∧W4.drew.cell? ⟨gq,3,none⟩=some (.int .i64 q.l.b)∧W4.drew.cell? ⟨gq,4,none⟩=some (.int .i64 q.l.m):=HQ.out.1.five
         have q165:W4.drew.cell? ⟨s,165,none⟩=some (.map (some P4.im)):=HVD.out.t (k:=2) rfl
         have hlk:=HVD.out.idLook q.id
         obtain ⟨qi,hqi⟩:∃qi,(SI.ids q.id).getD 0=qi:=⟨_,rfl⟩
         rw [hqi] at hlk HG1
         clear hqi
         have HGC:=Lib.hid (show Calls Tryz.prog 102 #[.pointer (some ⟨s,0,none⟩), .int .i64 (k:Nat), .int .i64 qi, .agg #[.int .i64 q.l.a, .int .i64 q.l.b, .int .i64 q.l.m]] W4.drew _ from vgrant_fin ⟨P4,HVD.out⟩ HF4.out.drew HC.out HOI.out.out k hk16' (HOI.out.gr k) qi q.l)
         go_still_tail 12,(by kernel_rfl)
         change wpList _ _ _ _ _ W4.drew
         go_wp2_with fail
         refine HGC.out.mono ?_
         rintro e w5 ⟨rfl,o5,⟨P5,hv5⟩,hs5⟩
         have HV5:=Lib.hid hv5
         have HT5:=Lib.hid hs5
         have HQ5:=Lib.hid (HQ.out.drew.step hs5 (by have:=HC.out;unfold telC;omega))
         clear hv5 hs5
         have HR5:=Lib.hid (HR4.out.drew.step HT5.out (by unfold telC;omega))
         have HF5:=Lib.hid (HF4.out.drew.step HT5.out)
         have HS5:=Lib.hid (HS4.out.drew.trans (HT5.out.mono telC_sv))
         clear z0 z1 z2 z3 z4 q165 hlk HVD HV4 HR4 HF4 HS4 HGC HT5 HQ
         have k165:w5.drew.cell? ⟨s,165,none⟩=some (.map (some P5.im)):=HV5.out.drew.t (k:=2) rfl
         obtain ⟨u0,u1,u2,u3,u4⟩:w5.drew.cell? ⟨gq,0,none⟩=some (.int .i64 q.id)∧w5.drew.cell? ⟨gq,1,none⟩=some (.int .i64 (k:Nat))∧w5.drew.cell? ⟨gq,2,none⟩=some (.int .i64 q.l.a)∧w5.drew.cell? ⟨gq,3,none⟩=some (.int .i64 q.l.b)∧w5.drew.cell? ⟨gq,4,none⟩=some (.int .i64 q.l.m):=HQ5.out.1.five
         obtain ⟨w6,hdel,hv6,hs6⟩:=HV5.out.drew.idDel HC.out q.id 3 0
         have HV6:=Lib.hid hv6
         have HR6:=Lib.hid (HR5.out.drew.step hs6 (by unfold only;omega))
         have HF6:=Lib.hid (HF5.out.drew.step hs6)
         have HS6:=Lib.hid (HS5.out.drew.trans (hs6.mono (only_sv (by omega))))
         have HNN:=Lib.hid (HNX.out.trans HG1.out)
         clear hv6 hs6 HV5 HR5 HF5 HS5 HQ5
         go_wp2_with fail
         go_region
         go_wp2_with fail
         go_roundg (G.length - (i+1))
         case measure=>have:=HNI.out;omega
         case rel=>exact ⟨i+1,o5,by omega,by go_num,by rw [HNN.out];exact ⟨_,HV6.out⟩,HR6.out,HF6.out,HS6.out⟩
        ·have hltI:¬(i:Int)<(G.length:Int):=by omega
         obtain rfl:i=G.length:=by have:=HNI.out;omega
         rw [List.take_length,←HGI.out] at HVI
         have HRV:=Lib.hid HGV.out.end_
         obtain ⟨S5,hS5⟩:∃S5,S4.give=S5:=⟨_,rfl⟩
         rw [hS5] at HVI HRV HE
         have HRC:=Lib.hid (vrevoke_any ⟨P4,HVI.out⟩ HFI.out HC.out HRV.out.wf HRV.out.nodes HRV.out.out)
         clear hS5 HGI HGN HGK HGV HRI
         go_wp2_with fail
         refine HRC.out.mono ?_
         rintro e w6 ⟨rfl,o6,⟨P6,hv6⟩,hs6⟩
         obtain ⟨S6,hS6⟩:∃S6,S5.revoke=S6:=⟨_,rfl⟩
         have HUP:=Lib.hid HRV.out.up
         rw [hS6] at hv6 HE HUP
         obtain ⟨hv7,ho7,hs7,y169,y167',f169,f167⟩:=hv6.shut HC.out
         obtain ⟨A7,cap7,hov⟩:=hv6.rest.outs.len
         rw [hov] at ho7 y169
         have y9:=hv7.h (k:=9) (by omega) (v := .bool false) (by rw [←HUP.out];rfl)
         have HV7:=Lib.hid hv7
         have HO7:=Lib.hid ho7
         have HS7:=Lib.hid ((HST.out.trans hs6).trans (hs7.mono only0_sv))
         have HEE:=Lib.hid (show E=(S6.out,{S6 with out := [],granted := []}) by
          rw [←HE.out,HUP.out]
          rfl)
         clear hS6 hv6 hs6 hv7 ho7 hs7 hov HRC HVI HFI HST HRV HE HUP
         go_upto_region 26 with (fail)
         generalize (w6.setCell ⟨s,169,none⟩ (.slice none 0 0)).setCell ⟨s,167,none⟩ (.slice none 0 0)=W7 at HV7 HO7 HS7 y9 ⊢
         clear y169 y167' f169 f167
         go_wp2_with fail
         go_ret
         exact ⟨_,rfl,o6,by rw [HEE.out];exact ⟨_,HV7.out⟩,by rw [HEE.out];exact HO7.out,HS7.out⟩
   | false =>
     have HSF:=Lib.hid (HSV.out.trans (if_neg Bool.false_ne_true))
     have HVS:=Lib.hid (show SvIn o1 c w2 s S2.serve P1 by rw [HSF.out];exact HV2.out)
     have HFS:=HF2
     have HSS:=HS2
     clear HSV HSF HV2 HF2 HS2
     obtain ⟨S4,hS4⟩:∃S4,S2.serve=S4:=⟨_,rfl⟩
     have HGV:=Lib.hid (HED.out.give)
     rw [hS4] at HVS HE HGV
     clear hS4 HED
     obtain ⟨G,hG⟩:∃G,S4.granted=G:=⟨_,rfl⟩
     have hgr:=HVS.out.rest.granted
     rw [hG] at hgr
     obtain ⟨B,gcap,hgv,_⟩:=own_form' hgr
     rw [hgv] at hgr
     have HGR:=Lib.hid hgr
     have HGI:=Lib.hid (show S4.give=S4.giveN G by unfold Sv.give Sv.giveN;rw [hG])
     have y167:w2.cell? ⟨s,167,none⟩=some (.slice B G.length gcap):=(HVS.out.t (k:=4) rfl).trans (by rw [hgv])
     have hgn:=HGV.out.len
     rw [hG] at hgn
     have hgnI:(G.length:Int)≤1000000:=by omega
     have HGN:=Lib.hid (show ∀i,SvGv (S4.giveN (G.take i)) from fun i=>HGV.out.step i (by rw [hG]))
     have HGK:=Lib.hid (show ∀w∈G,nd w.node from hG▸HGV.out.nd)
     clear hgr hgv hG
     go_wp2_with fail
     go_loopg [70] G.length (fun r t70 wr=>∃(i:Nat) (oL:Nat→Nat),r+i=G.length∧t70 = .int .i64 (i:Nat)∧SvAt oL c wr s (S4.giveN (G.take i))∧OwnS oL (c+3) wr 164 5 (.slice B G.length gcap) G.length (wqcells G)∧Fut oL wr∧Step o (svC c) w oL wr)
     case atStart=>exact ⟨0,o1,by omega,rfl,⟨_,HVS.out⟩,HGR.out,HFS.out,HSS.out⟩
     case round =>
      obtain ⟨i,oL,hni,rfl,⟨P4,hv⟩,hrw,hfl,hst⟩:=hrel
      have HNI:=Lib.hid hni
      have HVI:=Lib.hid hv
      have HRI:=Lib.hid hrw
      have HFI:=Lib.hid hfl
      have HST:=Lib.hid hst
      clear hni hv hrw hfl hst HVS HGR HFS HSS y167
      by_cases hlt:i<G.length
      ·have hltI:(i:Int)<(G.length:Int):=by omega
       obtain ⟨q,hq⟩:∃q,G[i]? = some q:=⟨_,List.getElem?_eq_getElem hlt⟩
       have HNX:=Lib.hid (show S4.giveN (G.take (i+1))=(S4.giveN (G.take i)).give1 q from foldl_next hq)
       have HOI:=Lib.hid (HGN.out i)
       obtain ⟨hk1,hk16⟩:=HGK.out q (List.mem_of_getElem? hq)
       obtain ⟨k,hk⟩:∃k:Nat,q.node=(k:Nat):=⟨q.node.toNat,by omega⟩
       have hk16':k≤16:=by omega
       obtain ⟨SI,hSI⟩:∃SI,S4.giveN (G.take i)=SI:=⟨_,rfl⟩
       rw [hSI] at HNX HOI HVI
       have HG1:=Lib.hid (show SI.give1 q = {SI.grant k ((SI.ids q.id).getD 0) q.l with ids:=del SI.ids q.id} by
        unfold Sv.give1
        rw [hk,Int.toNat_natCast])
       obtain ⟨ad,rfl,x0,x1,x2,x3,x4⟩:=(Reads.of_own HRI.out.1).wait hq
       rw [hk] at x1
       have HQ:=Lib.hid (Keep.new HFI.out 164 #[.int .i64 q.id, .int .i64 (k:Nat), .int .i64 q.l.a, .int .i64 q.l.b, .int .i64 q.l.m])
       have HV4:=Lib.hid (HVI.out.alloc (.cells #[.int .i64 q.id, .int .i64 (k:Nat), .int .i64 q.l.a, .int .i64 q.l.b, .int .i64 q.l.m] 164))
       have HR4:=Lib.hid (HRI.out.alloc (.cells #[.int .i64 q.id, .int .i64 (k:Nat), .int .i64 q.l.a, .int .i64 q.l.b, .int .i64 q.l.m] 164))
       have HF4:=Lib.hid (HFI.out.alloc (.cells #[.int .i64 q.id, .int .i64 (k:Nat), .int .i64 q.l.a, .int .i64 q.l.b, .int .i64 q.l.m] 164))
       have HS4:=Lib.hid (HST.out.alloc (.cells #[.int .i64 q.id, .int .i64 (k:Nat), .int .i64 q.l.a, .int .i64 q.l.b, .int .i64 q.l.m] 164))
       clear hq hSI HVI HRI HFI HST
       go_upto_region 20 with (fail)
       generalize wr.alloc (.cells #[.int .i64 q.id, .int .i64 (k:Nat), .int .i64 q.l.a, .int .i64 q.l.b, .int .i64 q.l.m] 164)=W4 at HQ HV4 HR4 HF4 HS4 ⊢
       generalize wr.heap.size=gq at HQ ⊢
       clear x0 x1 x2 x3 x4
       have HVD:=Lib.hid HV4.out.drew
       obtain ⟨z0,z1,z2,z3,z4⟩:W4.drew.cell? ⟨gq,0,none⟩=some (.int .i64 q.id)∧W4.drew.cell? ⟨gq,1,none⟩=some (.int .i64 (k:Nat))∧W4.drew.cell? ⟨gq,2,none⟩=some (.int .i64 q.l.a)∧W4.drew.cell? ⟨gq,3,none⟩=some (.int .i64 q.l.b)∧W4.drew.cell? ⟨gq,4,none⟩=some (.int .i64 q.l.m):=HQ.out.1.five
       have q165:W4.drew.cell? ⟨s,165,none⟩=some (.map (some P4.im)):=HVD.out.t (k:=2) rfl
       have hlk:=HVD.out.idLook q.id
       obtain ⟨qi,hqi⟩:∃qi,(SI.ids q.id).getD 0=qi:=⟨_,rfl⟩
       rw [hqi] at hlk HG1
       clear hqi
       have HGC:=Lib.hid (show Calls Tryz.prog 102 #[.pointer (some ⟨s,0,none⟩), .int .i64 (k:Nat), .int .i64 qi, .agg #[.int .i64 q.l.a, .int .i64 q.l.b, .int .i64 q.l.m]] W4.drew _ from vgrant_fin ⟨P4,HVD.out⟩ HF4.out.drew HC.out HOI.out.out k hk16' (HOI.out.gr k) qi q.l)
       go_still_tail 12,(by kernel_rfl)
       change wpList _ _ _ _ _ W4.drew
       go_wp2_with fail
       refine HGC.out.mono ?_
       rintro e w5 ⟨rfl,o5,⟨P5,hv5⟩,hs5⟩
       have HV5:=Lib.hid hv5
       have HT5:=Lib.hid hs5
       have HQ5:=Lib.hid (HQ.out.drew.step hs5 (by have:=HC.out;unfold telC;omega))
       clear hv5 hs5
       have HR5:=Lib.hid (HR4.out.drew.step HT5.out (by unfold telC;omega))
       have HF5:=Lib.hid (HF4.out.drew.step HT5.out)
       have HS5:=Lib.hid (HS4.out.drew.trans (HT5.out.mono telC_sv))
       clear z0 z1 z2 z3 z4 q165 hlk HVD HV4 HR4 HF4 HS4 HGC HT5 HQ
       have k165:w5.drew.cell? ⟨s,165,none⟩=some (.map (some P5.im)):=HV5.out.drew.t (k:=2) rfl
       obtain ⟨u0,u1,u2,u3,u4⟩:w5.drew.cell? ⟨gq,0,none⟩=some (.int .i64 q.id)∧w5.drew.cell? ⟨gq,1,none⟩=some (.int .i64 (k:Nat))∧w5.drew.cell? ⟨gq,2,none⟩=some (.int .i64 q.l.a)∧w5.drew.cell? ⟨gq,3,none⟩=some (.int .i64 q.l.b)∧w5.drew.cell? ⟨gq,4,none⟩=some (.int .i64 q.l.m):=HQ5.out.1.five
       obtain ⟨w6,hdel,hv6,hs6⟩:=HV5.out.drew.idDel HC.out q.id 3 0
       have HV6:=Lib.hid hv6
       have HR6:=Lib.hid (HR5.out.drew.step hs6 (by unfold only;omega))
       have HF6:=Lib.hid (HF5.out.drew.step hs6)
       have HS6:=Lib.hid (HS5.out.drew.trans (hs6.mono (only_sv (by omega))))
       have HNN:=Lib.hid (HNX.out.trans HG1.out)
       clear hv6 hs6 HV5 HR5 HF5 HS5 HQ5
       go_wp2_with fail
       go_region
       go_wp2_with fail
       go_roundg (G.length - (i+1))
       case measure=>have:=HNI.out;omega
       case rel=>exact ⟨i+1,o5,by omega,by go_num,by rw [HNN.out];exact ⟨_,HV6.out⟩,HR6.out,HF6.out,HS6.out⟩
      ·have hltI:¬(i:Int)<(G.length:Int):=by omega
       obtain rfl:i=G.length:=by have:=HNI.out;omega
       rw [List.take_length,←HGI.out] at HVI
       have HRV:=Lib.hid HGV.out.end_
       obtain ⟨S5,hS5⟩:∃S5,S4.give=S5:=⟨_,rfl⟩
       rw [hS5] at HVI HRV HE
       have HRC:=Lib.hid (vrevoke_any ⟨P4,HVI.out⟩ HFI.out HC.out HRV.out.wf HRV.out.nodes HRV.out.out)
       clear hS5 HGI HGN HGK HGV HRI
       go_wp2_with fail
       refine HRC.out.mono ?_
       rintro e w6 ⟨rfl,o6,⟨P6,hv6⟩,hs6⟩
       obtain ⟨S6,hS6⟩:∃S6,S5.revoke=S6:=⟨_,rfl⟩
       have HUP:=Lib.hid HRV.out.up
       rw [hS6] at hv6 HE HUP
       obtain ⟨hv7,ho7,hs7,y169,y167',f169,f167⟩:=hv6.shut HC.out
       obtain ⟨A7,cap7,hov⟩:=hv6.rest.outs.len
       rw [hov] at ho7 y169
       have y9:=hv7.h (k:=9) (by omega) (v := .bool false) (by rw [←HUP.out];rfl)
       have HV7:=Lib.hid hv7
       have HO7:=Lib.hid ho7
       have HS7:=Lib.hid ((HST.out.trans hs6).trans (hs7.mono only0_sv))
       have HEE:=Lib.hid (show E=(S6.out,{S6 with out := [],granted := []}) by
        rw [←HE.out,HUP.out]
        rfl)
       clear hS6 hv6 hs6 hv7 ho7 hs7 hov HRC HVI HFI HST HRV HE HUP
       go_upto_region 26 with (fail)
       generalize (w6.setCell ⟨s,169,none⟩ (.slice none 0 0)).setCell ⟨s,167,none⟩ (.slice none 0 0)=W7 at HV7 HO7 HS7 y9 ⊢
       clear y169 y167' f169 f167
       go_wp2_with fail
       go_ret
       exact ⟨_,rfl,o6,by rw [HEE.out];exact ⟨_,HV7.out⟩,by rw [HEE.out];exact HO7.out,HS7.out⟩
end
end Go.Proofs.YtohgabdmmbngbaaGreatDoor
