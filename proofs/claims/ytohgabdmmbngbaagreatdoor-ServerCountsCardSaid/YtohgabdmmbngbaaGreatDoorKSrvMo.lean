import Derived.Test.YtohgabdmmbngbaaGreatDoorKSrvCn
import Derived.Test.YtohgabdmmbngbaaGreatDoorKSrvJe
set_option linter.unusedVariables false
set_option linter.unusedSimpArgs false
namespace Go.Proofs.YtohgabdmmbngbaaGreatDoor
open Go.RowKit
def lk90 : Lk:=⟨4090,4091,1⟩
section
variable {L:Lk}
theorem far_meet (hb:L.b≤4000):(meetR L.sp lk90.sp).2=false∧(meetR lk90.sp L.sp).2=false:=by
 have h1:¬(L.sp.ok∧lk90.sp.ok∧max L.sp.a lk90.sp.a<min L.sp.b lk90.sp.b):=by
  show ¬(_∧_∧max L.a 4090<min L.b 4091)
  omega
 have h2:¬(lk90.sp.ok∧L.sp.ok∧max lk90.sp.a L.sp.a<min lk90.sp.b L.sp.b):=by
  show ¬(_∧_∧max 4090 L.a<min 4091 L.b)
  omega
 unfold meetR
 rw [if_neg h1,if_neg h2]
 exact ⟨rfl,rfl⟩
theorem far_parts (hb:L.b≤4000):partsL [L] lk90.sp = []∧partsL [lk90] L.sp = []:=by
 obtain ⟨h1,h2⟩:=far_meet hb
 unfold partsL
 refine ⟨?_,?_⟩
 ·rw [List.filterMap_cons_none (by rw [if_neg (by rw [h1];decide)])]
  rfl
 ·rw [List.filterMap_cons_none (by rw [if_neg (by rw [h2];decide)])]
  rfl
theorem far_without (hb:L.b≤4000):withoutL [L] lk90.sp = [L]∧withoutL [lk90] L.sp = [lk90]:=by
 obtain ⟨h1,h2⟩:=far_meet hb
 unfold withoutL
 rw [List.flatMap_singleton,List.flatMap_singleton]
 unfold minus1
 rw [if_pos h1,if_pos h2]
 exact ⟨rfl,rfl⟩
theorem far_sort (ho:L.sp.ok) (hb:L.b≤4000):sortP [L,lk90] = [L,lk90]:=by
 have hw:WfP [L,lk90]:=⟨fun p hp=>by
  simp only [List.mem_cons,List.not_mem_nil,or_false] at hp
  rcases hp with rfl | rfl
  ·exact ho
  ·show (0:Int)≤4090∧(4090:Int)<4091
   omega,by
  rw [List.pairwise_cons]
  refine ⟨fun q hq => ?_,List.pairwise_singleton _ _⟩
  rw [List.mem_singleton.1 hq]
  show L.b≤4090
  omega⟩
 exact hw.apart.sort.unique hw (sort_perm _)
theorem far_raise (ho:L.sp.ok) (hb:L.b≤4000):raiseL [L] lk90 = [L,lk90]:=by
 unfold raiseL
 rw [(far_parts hb).1]
 show setL [L] lk90.sp 1=_
 unfold setL
 rw [(far_without hb).1]
 show layL [L,lk90]=_
 unfold layL
 rw [far_sort ho hb]
 show glue1 [L] lk90=_
 unfold glue1
 show (if L.b=4090∧L.m=1 then _ else [L] ++ [lk90])=_
 rw [if_neg (by omega)]
 rfl
theorem far_two (ho:L.sp.ok) (hm:L.m=2) (hb:L.b≤4000):partsL [L,lk90] L.sp = [⟨L.a,L.b,2⟩]:=by
 have e1:partsL [L] L.sp = [⟨L.a,L.b,2⟩]:=by
  have:=parts_self ho 2
  rw [←lk_eta hm] at this ⊢
  exact this
 have e2:=(far_parts hb).2
 have:partsL ([L] ++ [lk90]) L.sp=partsL [L] L.sp++partsL [lk90] L.sp:=by
  unfold partsL
  rw [List.filterMap_append]
 rw [show [L,lk90] = [L] ++ [lk90] from rfl,this,e1,e2]
 rfl
theorem far_rel (ho:L.sp.ok) (hm:L.m=2) (hb:L.b≤4000):relL [L,lk90] L.sp 0 = [lk90]:=by
 unfold relL
 rw [far_two ho hm hb]
 show rel1 0 [L,lk90] ⟨L.a,L.b,2⟩=_
 unfold rel1
 rw [if_neg (by show ¬(2:Int)≤0;omega),if_pos rfl]
 show clearL [L,lk90] L.sp=_
 have e1:withoutL [L] L.sp = []:=by
  have:=without_self ho 2
  rwa [←lk_eta hm] at this
 have e2:withoutL ([L] ++ [lk90]) L.sp=withoutL [L] L.sp++withoutL [lk90] L.sp:=by
  unfold withoutL
  rw [List.flatMap_append]
 unfold clearL
 rw [show [L,lk90] = [L] ++ [lk90] from rfl,e2,e1,(far_without hb).2]
 unfold layL sortP
 rw [show ([]:List Lk) ++ [lk90] = [lk90] from rfl,List.mergeSort_singleton]
 rfl
end
section
variable {S:Sv} {T:Tb} {t wd:Nat→Nat} {l dp j k ep:Nat} {L:Lk} {M:Int}
theorem hold_more (h:Bs dp S (hold1 j L) t wd l) (hs:∀i,(S.peers i).state=0∨(S.peers i).state=1) (hj:1≤j∧j≤3) (hsj:(S.peers j).state=1) (he:t j=ep) (h0:ep≠0) {id:Int} (hi:sm id) (hr:rightB L=true) (hb:L.b≤4000) :
 ∃S',S.take (j:Nat) (acqM id ep 1 lk90)=([((j:Int),{Mg.zero with kind:=6,id:=id,gen:=1,epoch:=(S.peers j).epoch,locks := [lk90]})],S')∧Bs dp S' ((hold1 j L).hold j [L,lk90]) t wd l∧S'.ids=S.ids∧S'.peers=fun i=>if i=j then {S.peers j with grants:=(S.peers j).grants+1} else S.peers i:=by
 have ho:=(right_m hr).1
 have ha:(hold1 j L).ask (j:Nat) lk90=((0,true,0),(hold1 j L).hold j [L,lk90]):=by
  unfold Tb.ask
  have hi:(hold1 j L).is (j:Nat):=by unfold Tb.is;show (1:Int)≤j∧(j:Int)≤(3:Nat);omega
  rw [if_neg (by simp [hi];decide),Int.toNat_natCast,hold1_at,if_neg,if_pos]
  ·unfold Tb.raise
   rw [hold1_at,far_raise ho hb]
  ·unfold Tb.free
   rw [claims_nil rfl]
   exact hinders_free (fun i _ hij=>hold1_off L (by omega))
  ·unfold needsL
   rw [asked_one (.inl rfl)]
   show needs1 [L] [lk90] lk90≠[]
   unfold needs1
   rw [(far_parts hb).1]
   simp
 rw [take_eq h.up (by rw [h.n];exact hj) (acqM_ok hi (by unfold sm;omega) (by decide)) rfl (.inr h.gen.symm),takes_live (m:=acqM id ep 1 lk90) h0 (by rw [h.dv.tab];exact he) hsj (by show ¬(5:Int)=1;decide) (by show ¬(5:Int)=13;decide),live_acq rfl (ready_of (fun i _=>hs i)),acq_has (l:=lk90) (x:=(0,0)) rfl (by rw [h.T];exact ha)]
 obtain ⟨B,hB⟩:∃B:Sv,B=({S with T:=(hold1 j L).hold j [L,lk90]}:Sv).grant j id lk90:=⟨_,rfl⟩
 have hBp:∀i,B.peers i=if i=j then {S.peers j with grants:=(S.peers j).grants+1} else S.peers i:=fun i=>by rw [hB];rfl
 have ho:B.out = [((j:Int),{Mg.zero with kind:=6,id:=id,gen:=1,epoch:=(S.peers j).epoch,locks := [lk90]})]:=by
  rw [hB]
  show S.out ++ [((j:Int),{({Mg.zero with kind:=6,id:=id,locks := [lk90]}:Mg) with gen:=S.gen,epoch:=(if j=j then ({S.peers j with grants:=(S.peers j).grants+1}:Pe) else S.peers j).epoch})]=_
  rw [h.out,h.gen,if_pos rfl]
  rfl
 rw [show ({S with T:=(hold1 j L).hold j [L,lk90]}:Sv).grant j (acqM id ep 1 lk90).id lk90=B from hB.symm,end_rest (S:=B) (by rw [hB];exact h.up) (fun i _=>by
  rw [hBp]
  split
  ·exact .inr (.inl hsj)
  ·have:=hs i
   omega) (by rw [hB];show S.n≤16;rw [h.n];omega) (by rw [hB];exact h.kept) (by rw [hB];exact h.granted) (by rw [hB];exact waits_revokes rfl),ho]
 refine ⟨_,rfl,⟨by rw [hB];exact h.up,rfl,by rw [hB];exact h.kept,rfl,by rw [hB];exact h.n,by rw [hB];exact h.gen,by rw [hB];exact h.dp,by rw [hB];rfl,by rw [hB];exact h.dv⟩,by rw [hB];rfl,by rw [hB];rfl⟩
theorem wait_told (h:Bs dp S T t wd l) (hT:HoT T j L M) (hs:∀i,(S.peers i).state=0∨(S.peers i).state=1) (ht:(S.peers j).told = []) (hsj:(S.peers j).state=1) (hk:1≤k∧k≤3) (hkj:k≠j) (hsk:(S.peers k).state=1) (he:t k=ep) (h0:ep≠0) {id:Int} (hi:sm id) (hw:T.waits.length<1000) {T':Tb} (hT':T' = {T with waits:=T.waits ++ [⟨T.last+1,(k:Nat),L⟩],last:=T.last+1}) :
 ∃S',S.take (k:Nat) (acqM id ep 1 L)=([((j:Int),{Mg.zero with kind:=8,gen:=1,epoch:=(S.peers j).epoch,locks := [letGo L]})],S')∧Bs dp S' T' t wd l∧HoT T' j L M∧S'.ids=upd S.ids (T.last+1) id∧S'.peers=fun i=>if i=j then {S.peers j with told := [letGo L]} else S.peers i:=by
 obtain ⟨ha,hT2⟩:=hT.ask hk hkj hw
 rw [←hT'] at ha hT2
 rw [take_eq h.up (by rw [h.n];exact hk) (acqM_ok hi (by unfold sm;omega) hT.r) rfl (.inr h.gen.symm),takes_live (m:=acqM id ep 1 L) h0 (by rw [h.dv.tab];exact he) hsk (by show ¬(5:Int)=1;decide) (by show ¬(5:Int)=13;decide),live_acq rfl (ready_of (fun i _=>hs i)),acq_waits (l:=L) rfl (by rw [h.T];exact ha)]
 obtain ⟨B,hB⟩:∃B:Sv,B = {S with T:=T',ids:=upd S.ids (T.last+1) id}:=⟨_,rfl⟩
 have hBp:B.peers=S.peers:=by rw [hB]
 rw [show ({S with T:=T',ids:=upd S.ids (T.last+1) (acqM id ep 1 L).id}:Sv)=B from hB.symm,end_tells (S:=B) (j:=j) (x:=letGo L) (by rw [hB];exact h.up) (fun i _=>by rw [hBp];have:=hs i;omega) (by rw [hB];show S.n≤16;rw [h.n];omega) (by rw [hB];exact h.kept) (by rw [hB];exact h.granted) (by rw [hB];exact hT2.revokes (by rw [hT'];simp)) (by rw [hBp];exact ht) (by rw [hBp];exact hsj),hBp]
 refine ⟨_,Prod.ext ?_ rfl,⟨by rw [hB];exact h.up,rfl,by rw [hB];exact h.kept,rfl,by rw [hB];exact h.n,by rw [hB];exact h.gen,by rw [hB];exact h.dp,by rw [hB],by rw [hB];exact h.dv⟩,hT2,by rw [hB],rfl⟩
 show B.out ++ [((j:Int),{Mg.zero with kind:=8,gen:=B.gen,epoch:=(S.peers j).epoch,locks := [letGo L]})]=_
 rw [show B.out = [] by rw [hB];exact h.out,show B.gen=1 by rw [hB];exact h.gen]
 rfl
theorem rel_early (h:Bs dp S T t wd l) (hT:HoT T j L M) (hs:∀i,(S.peers i).state=0∨(S.peers i).state=1) (hsj:(S.peers j).state=1) {st:Int} (hst:(S.peers j).grants≠st) (hss:sm st) (he:t j=ep) (h0:ep≠0) (hw:T.waits≠[]) :
 ∃S',S.take (j:Nat) (relM st ep 1 L)=([((j:Int),{Mg.zero with kind:=8,gen:=1,epoch:=(S.peers j).epoch,locks := [letGo L]})],S')∧S'.T=T∧S'.dp=S.dp:=by
 have hj:=hT.jn
 obtain ⟨B,hB⟩:∃B:Sv,B=S.peer j {S.peers j with told := []}:=⟨_,rfl⟩
 have e1:S.released j (relM st ep 1 L)=B:=by
  unfold Sv.released
  rw [if_pos (fun hh=>hst hh.symm),hB]
 have hBp:∀i,B.peers i=if i=j then {S.peers j with told := []} else S.peers i:=fun i=>by rw [hB];rfl
 have hBj:B.peers j = {S.peers j with told := []}:=by rw [hBp];exact if_pos rfl
 rw [take_eq h.up (by rw [h.n];exact hj) (relM_ok hss (by unfold sm;omega) hT.r) rfl (.inr h.gen.symm),takes_live (m:=relM st ep 1 L) h0 (by rw [h.dv.tab];exact he) hsj (by show ¬(9:Int)=1;decide) (by show ¬(9:Int)=13;decide),live_rel rfl,e1,end_tells (S:=B) (j:=j) (x:=letGo L) (by rw [hB];exact h.up) (fun i _=>by
  rw [hBp]
  split
  ·exact .inr (.inl hsj)
  ·have:=hs i
   omega) (by rw [hB];show S.n≤16;rw [h.n];omega) (by rw [hB];exact h.kept) (by rw [hB];exact h.granted) (by rw [hB];show S.T.revokes=_;rw [h.T];exact hT.revokes hw) (by rw [hBj]) (by rw [hBj];exact hsj)]
 refine ⟨_,Prod.ext ?_ rfl,?_,?_⟩
 ·show B.out ++ [((j:Int),{Mg.zero with kind:=8,gen:=B.gen,epoch:=(B.peers j).epoch,locks := [letGo L]})]=_
  rw [show B.out = [] by rw [hB];exact h.out,show B.gen=1 by rw [hB];exact h.gen,hBj]
  rfl
 ·show B.T=T
  rw [hB]
  exact h.T
 ·show B.dp=_
  rw [hB]
  rfl
end
theorem counts_plain (dp:Nat) {L:Lk} (hr:rightB L=true) (hm:L.m=2) (hb:L.b≤4000) {st:Int} (hst:0≤st∧st≤5):∃S1 S2 S3 S4 v1 v2 kd to_,(joinN dp 2).take ((1:Nat):Int) (acqM 1 3 1 L)=(v1,S1)∧S1.take ((1:Nat):Int) (acqM 2 3 1 lk90)=(v2,S2)∧S2.take ((2:Nat):Int) (acqM 4 4 1 L)=([(((1:Nat):Int),{Mg.zero with kind:=8,gen:=1,epoch:=3,locks := [letGo L]})],S3)∧(∃m:Mg,S3.take ((1:Nat):Int) (relM st 3 1 L)=([(to_,m)],S4)∧m.kind=kd)∧S1.gen=1∧S2.gen=1∧S3.gen=1∧(st=2→to_=2∧kd=6∧S4.T.mode ((1:Nat):Int) L.a=0)∧(st≠2→to_=1∧kd=8∧S4.T.mode ((1:Nat):Int) L.a=2):=by
 obtain ⟨S1,t,wd,e1,h1,htw,hp1,hi1,_⟩:=first_holds dp (n:=2) (by omega) hr (id:=1) (by unfold sm;omega)
 have ho:=(right_m hr).1
 have hab:0≤L.a∧L.a<L.b:=ho
 have ht1:t 1=3:=(htw 1 (by omega) (by omega)).1
 have ht2:t 2=4:=(htw 2 (by omega) (by omega)).1
 have hst1:∀i,(S1.peers i).state=0∨(S1.peers i).state=1:=fun i=>by
  rw [hp1]
  dsimp only
  split
  ·exact .inr rfl
  ·exact peJ_01 _ _
 have q1:S1.peers 1 = {peJ 2 1 with grants:=1}:=by rw [hp1];exact if_pos rfl
 have q2:S1.peers 2=peJ 2 2:=by rw [hp1];exact if_neg (by omega)
 obtain ⟨S2,e2,h2,hi2,hp2⟩:=hold_more h1 hst1 (by omega) (by rw [q1];rfl) ht1 (by omega) (id:=2) (by unfold sm;omega) hr hb
 have r1:S2.peers 1 = {S1.peers 1 with grants:=(S1.peers 1).grants+1}:=by rw [hp2];exact if_pos rfl
 have r2:S2.peers 2=S1.peers 2:=by rw [hp2];exact if_neg (by omega)
 have hst2:∀i,(S2.peers i).state=0∨(S2.peers i).state=1:=fun i=>by
  rw [hp2]
  dsimp only
  split
  ·exact hst1 1
  ·exact hst1 i
 obtain ⟨T2,hT2⟩:∃T2,T2=(hold1 1 L).hold 1 [L,lk90]:=⟨_,rfl⟩
 have hd2:T2.held 1 = [L,lk90]:=by rw [hT2];exact hold_held _ 1 _
 have ho2:∀i,i≠1→T2.held i = []:=fun i hi=>by rw [hT2];exact (if_neg hi).trans (hold1_off L hi)
 rw [←hT2] at h2
 have hh2:HoT T2 1 L 2:=⟨by rw [hT2];rfl,by omega,ho2,by rw [hd2];exact far_two ho hm hb,hm,hr,by decide,fun w hw=>by
  rw [hT2] at hw
  cases hw⟩
 obtain ⟨T3,hT3⟩:∃T3:Tb,T3 = {T2 with waits:=T2.waits ++ [⟨T2.last+1,((2:Nat):Int),L⟩],last:=T2.last+1}:=⟨_,rfl⟩
 obtain ⟨S3,e3,h3,hh3,hi3,hp3⟩:=wait_told h2 hh2 hst2 (by rw [r1,q1];rfl) (by rw [r1,q1];rfl) (k:=2) (by omega) (by omega) (by rw [r2,q2];rfl) ht2 (by omega) (id:=4) (by unfold sm;omega) (by rw [hT2];show 0<1000;omega) hT3
 have s1:S3.peers 1 = {S2.peers 1 with told := [letGo L]}:=by rw [hp3];exact if_pos rfl
 have s2:S3.peers 2=S2.peers 2:=by rw [hp3];exact if_neg (by omega)
 have hst3:∀i,(S3.peers i).state=0∨(S3.peers i).state=1:=fun i=>by
  rw [hp3]
  dsimp only
  split
  ·exact hst2 1
  ·exact hst2 i
 have hl2:T2.last=0:=by rw [hT2];rfl
 have hw2:T2.waits = []:=by rw [hT2];rfl
 have hw3:T3.waits = [⟨1,((2:Nat):Int),L⟩]:=by rw [hT3,hl2,hw2];rfl
 have hd3:T3.held 1 = [L,lk90]:=by rw [hT3];exact hd2
 have i3:S3.ids 1=some 4:=by
  rw [hi3,hl2]
  rfl
 have g3:(S3.peers 1).grants=2:=by rw [s1,r1,q1];rfl
 have ep1:(S2.peers 1).epoch=3:=by rw [r1,q1];rfl
 rw [ep1] at e3
 by_cases hs2:st=2
 ·obtain ⟨S4,e4,hT4,_⟩:=rel_step h3.rs (by unfold sm;omega) hh3 hst3 (by rw [s1,r1,q1];rfl) (st:=st) (by rw [g3,hs2]) (by unfold sm;omega) ht1 (by omega) (n:=1) (x:=4) i3 (k:=2) hw3 (by omega) (by omega) (H2 := [lk90]) (by rw [hd3];exact far_rel ho hm hb) (far_parts hb).2
  refine ⟨S1,S2,S3,S4,_,_,6,2,e1,e2,e3,⟨_,e4,rfl⟩,h1.gen,h2.gen,h3.gen,fun _=>⟨rfl,rfl,?_⟩,fun h=>absurd hs2 h⟩
  rw [hT4]
  unfold Tb.mode
  have:({(T3.hold 1 [lk90]).hold 2 [L] with waits := []}:Tb).held (Int.toNat ((1:Nat):Int)) = [lk90]:=by
   rw [Int.toNat_natCast]
   show (if 1=2 then [L] else if 1=1 then [lk90] else T3.held 1)=_
   rw [if_neg (by omega),if_pos rfl]
  rw [this]
  have hg:getP [lk90] L.a=none:=by
   unfold getP
   rw [List.find?_cons_of_neg (fun hh=>by
    have h1:=of_decide_eq_true hh
    have h2:(4090:Int)≤L.a:=h1.2.1
    omega)]
   rfl
  rw [hg]
  split <;> rfl
 ·obtain ⟨S4,e4,hT4,_⟩:=rel_early h3 hh3 hst3 (by rw [s1,r1,q1];rfl) (st:=st) (by rw [g3];exact fun h=>hs2 h.symm) (by unfold sm;omega) ht1 (by omega) (by rw [hw3];simp)
  refine ⟨S1,S2,S3,S4,_,_,8,1,e1,e2,e3,⟨_,e4,rfl⟩,h1.gen,h2.gen,h3.gen,fun h=>absurd h hs2,fun _=>⟨rfl,rfl,?_⟩⟩
  rw [hT4]
  unfold Tb.mode
  rw [if_pos (show T3.is ((1:Nat):Int) by unfold Tb.is;rw [hh3.n];omega),Int.toNat_natCast,hd3]
  unfold getP
  rw [List.find?_cons_of_pos (by unfold hasB;exact decide_eq_true ⟨ho,by omega,hab.2⟩)]
  show L.m=2
  exact hm
theorem mode_sv {o:Nat→Nat} {c:Nat} {w:World} {s k:Nat} {b:Bnd} {x md:Int} {S:Sv} {P:SvP} (h:SvIn o c w s S P) (ok:SvOk b S) (hk:1≤k∧k≤3) (hm:S.T.mode (k:Nat) x=md):Calls Tryz.prog 24 #[.pointer (some ⟨P.tp,0,none⟩), .int .i64 (k:Int), .int .i64 x] w fun e w'=>e = .returned (.int .i64 md)∧Below w.heap.size w w':=by
 obtain ⟨hp,A,cap,ht⟩:=h.rest.table
 have hn:k≤S.T.nodes:=by rw [ok.nodes,ok.n];exact hk.2
 refine (tmode_any ht ok.wf k hk.1 hn x).mono fun e w' hh=>⟨?_,hh.2⟩
 rw [hh.1,←hm]
 unfold Tb.mode
 rw [if_pos (show S.T.is (k:Nat) by unfold Tb.is;omega),Int.toNat_natCast]
theorem SvRun.table {o:Nat→Nat} {c:Nat} {w:World} {s n:Nat} {S:Sv} (h:SvRun o c w s n S):∃tp:Nat,∀W,Below w.heap.size w W→Calls Tryz.prog 23 #[.pointer (some ⟨s,0,none⟩)] W (fun e w'=>e = .returned (.pointer (some ⟨tp,0,none⟩))∧w'=W)∧∀(k:Nat) (x md:Int),1≤k∧k≤3→S.T.mode (k:Nat) x=md→Calls Tryz.prog 24 #[.pointer (some ⟨tp,0,none⟩), .int .i64 (k:Int), .int .i64 x] W (fun e w'=>e = .returned (.int .i64 md)∧Below W.heap.size W w'):=by
 obtain ⟨P,ha⟩:=h.at_
 exact ⟨P.tp,fun W hW=>⟨vTable_any (ha.below_ hW),fun k x md hk hm=>mode_sv (ha.below_ hW) h.ok hk hm⟩⟩
end Go.Proofs.YtohgabdmmbngbaaGreatDoor
