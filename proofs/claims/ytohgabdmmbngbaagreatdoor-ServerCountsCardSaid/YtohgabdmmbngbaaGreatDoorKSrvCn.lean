import Derived.Test.YtohgabdmmbngbaaGreatDoorKSrvKp
set_option linter.unusedVariables false
set_option linter.unusedSimpArgs false
namespace Go.Proofs.YtohgabdmmbngbaaGreatDoor
open Go.RowKit
structure HoT (T:Tb) (j:Nat) (L:Lk) (M:Int):Prop where
 n:T.nodes=3
 jn:1≤j∧j≤3
 off:∀i,i≠j→T.held i = []
 at_:partsL (T.held j) L.sp = [⟨L.a,L.b,M⟩]
 m:L.m=2
 r:rightB L=true
 f:fitB M 2=false
 waits:∀w∈T.waits,w.l=L∧∃i:Nat,i≠j∧w.node=(i:Int)
section
variable {T:Tb} {j:Nat} {L:Lk} {M:Int}
theorem HoT.ok (h:HoT T j L M):L.sp.ok:=(right_m h.r).1
theorem HoT.f2 (h:HoT T j L M):fitB M L.m=false:=by rw [h.m];exact h.f
theorem HoT.m0 (h:HoT T j L M):keepsI L.m M=0:=by
 rw [h.m]
 rfl
theorem HoT.rv0 (h:HoT T j L M):revokedL (T.held j) L [] = [letGo L]:=by
 unfold revokedL
 rw [h.at_]
 show rvk1 L [] [] ⟨L.a,L.b,M⟩=_
 unfold rvk1
 rw [if_neg (by show ¬fitB M L.m=true;rw [h.f2];decide),parts_nil]
 show setL [] L.sp (keepsI L.m M)=_
 rw [h.m0]
 exact set_nil _ _
theorem HoT.rv1 (h:HoT T j L M):revokedL (T.held j) L [⟨L.a,L.b,1⟩] = []:=by
 unfold revokedL
 rw [h.at_]
 show rvk1 L [⟨L.a,L.b,1⟩] [] ⟨L.a,L.b,M⟩=_
 unfold rvk1
 rw [if_neg (by show ¬fitB M L.m=true;rw [h.f2];decide)]
 show (partsL [⟨L.a,L.b,1⟩] L.sp).foldl (rvk2 (keepsI L.m M)) (setL [] L.sp (keepsI L.m M)) = []
 rw [parts_self h.ok 1,h.m0,set_nil]
 show rvk2 0 [⟨L.a,L.b,0⟩] ⟨L.a,L.b,1⟩ = []
 unfold rvk2
 rw [if_pos (show (1:Int)≤0+1 by omega)]
 exact clear_self (l:=L) h.ok 0
def rvOne (j:Nat) (L:Lk):Rv:=⟨[((j:Int),letGo L)],fun k=>if k=j then [⟨L.a,L.b,1⟩] else []⟩
theorem HoT.node_off (h:HoT T j L M) (w:Wq) (R:Rv) {i:Nat} (hi:i≠j):Rv.node T w R i=R:=by
 unfold Rv.node
 split
 ·rfl
 ·rw [h.off i hi]
  rfl
theorem HoT.wait_eq (h:HoT T j L M) (w:Wq) (R:Rv):Rv.wait T R w=Rv.node T w R j:=by
 unfold Rv.wait
 rw [h.n,show List.range 3 = [0,1,2] from rfl]
 show Rv.node T w (Rv.node T w (Rv.node T w R 1) 2) 3=_
 have hj:=h.jn
 rcases (show j=1∨j=2∨j=3 by omega) with rfl | rfl | rfl
 ·rw [h.node_off w _ (i:=3) (by omega),h.node_off w _ (i:=2) (by omega)]
 ·rw [h.node_off w _ (i:=3) (by omega),h.node_off w _ (i:=1) (by omega)]
 ·rw [h.node_off w R (i:=1) (by omega),h.node_off w R (i:=2) (by omega)]
theorem HoT.first (h:HoT T j L M) {w:Wq} (hw:w∈T.waits):Rv.wait T ⟨[],fun _ => []⟩ w=rvOne j L:=by
 obtain ⟨h1,i,hi,h2⟩:=h.waits w hw
 rw [h.wait_eq]
 unfold Rv.node
 rw [if_neg (by rw [h2];omega),h1]
 show (revokedL (T.held j) L []).foldl (Rv.add j) ⟨[],fun _ => []⟩=_
 rw [h.rv0]
 show Rv.add j ⟨[],fun _ => []⟩ (letGo L)=_
 unfold Rv.add rvOne
 have:setL [] (letGo L).sp ((letGo L).m+1) = [⟨L.a,L.b,1⟩]:=set_nil _ _
 dsimp only
 rw [this]
 rfl
theorem HoT.next (h:HoT T j L M) {w:Wq} (hw:w∈T.waits):Rv.wait T (rvOne j L) w=rvOne j L:=by
 obtain ⟨h1,i,hi,h2⟩:=h.waits w hw
 rw [h.wait_eq]
 unfold Rv.node
 rw [if_neg (by rw [h2];omega),h1]
 have:(rvOne j L).told j = [⟨L.a,L.b,1⟩]:=if_pos rfl
 rw [this,h.rv1]
 rfl
theorem HoT.revokes (h:HoT T j L M) (hw:T.waits≠[]):T.revokes = [((j:Int),letGo L)]:=by
 have go:∀ws:List Wq,(∀w∈ws,w∈T.waits)→ws.foldl (Rv.wait T) (rvOne j L)=rvOne j L:=by
  intro ws
  induction ws with
  | nil=>intro _;rfl
  | cons w ws ih =>
    intro hh
    rw [List.foldl_cons,h.next (hh w (List.mem_cons_self ..))]
    exact ih (fun x hx=>hh x (List.mem_cons_of_mem _ hx))
 unfold Tb.revokes
 cases hq:T.waits with
 | nil=>exact absurd hq hw
 | cons w ws =>
   rw [List.foldl_cons,h.first (by rw [hq];exact List.mem_cons_self ..),go ws (fun x hx=>by rw [hq];exact List.mem_cons_of_mem _ hx)]
   rfl
theorem hind1_parts (hl:L.sp.ok) {node:Int} (hj:1≤j) (hn:(j:Int)≠node) (hh:partsL (T.held j) L.sp = [⟨L.a,L.b,M⟩]) (hf:fitB M L.m=false):∀n,j≤n→T.hind1 node L n≤L.a
 | 0,h=>absurd h (by omega)
 | n+1,h=>by
   by_cases hjn:j=n+1
   ·subst hjn
    show (if ((n+1:Nat):Int)=node then T.hind1 node L n else hindH L (T.hind1 node L n) (T.held (n+1)))≤_
    rw [if_neg hn]
    unfold hindH
    rw [hh]
    show (if fitB M L.m=true then T.hind1 node L n else min (T.hind1 node L n) L.a)≤_
    rw [if_neg (by rw [hf];decide)]
    exact Int.min_le_right _ _
   ·exact Int.le_trans (hind1_mono n) (hind1_parts hl hj hn hh hf n (by omega))
theorem HoT.hinders (h:HoT T j L M) {node:Int} (hn:(j:Int)≠node) (ahead:List Wq):T.hinders node L ahead<L.b:=by
 have h1:=hindWs_le node L ahead (T.hind1 node L T.nodes)
 have h2:=hind1_parts h.ok h.jn.1 hn h.at_ h.f2 T.nodes (by rw [h.n];exact h.jn.2)
 have h3:0≤L.a∧L.a<L.b:=h.ok
 show ahead.foldl (hindW node L) (T.hind1 node L T.nodes)<L.b
 omega
theorem HoT.dead (h:HoT T j L M) (node:Int):T.dead node L=false:=by
 have:T.waits.any (T.dead1 node L)=false:=by
  rw [List.any_eq_false]
  intro w hw
  obtain ⟨h1,i,hi,h2⟩:=h.waits w hw
  unfold Tb.dead1
  rw [h2,Int.toNat_natCast,h.off i hi,parts_nil]
  simp
 unfold Tb.dead
 rw [this,Bool.and_false]
theorem HoT.ask (h:HoT T j L M) {k:Nat} (hk:1≤k∧k≤3) (hkj:k≠j) (hw:T.waits.length<1000):T.ask (k:Nat) L=((T.last+1,false,0),{T with waits:=T.waits ++ [⟨T.last+1,(k:Nat),L⟩],last:=T.last+1})∧HoT {T with waits:=T.waits ++ [⟨T.last+1,(k:Nat),L⟩],last:=T.last+1} j L M:=by
 obtain ⟨h1,h2,h3⟩:=right_m h.r
 have hi:T.is (k:Nat):=by unfold Tb.is;rw [h.n];omega
 refine ⟨?_,⟨h.n,h.jn,h.off,h.at_,h.m,h.r,h.f,fun w hw => ?_⟩⟩
 ·unfold Tb.ask
  rw [if_neg (by simp [hi,h.r]),Int.toNat_natCast,h.off k hkj,if_neg (needs_nil h3),if_neg,if_neg (by rw [h.dead];decide),if_neg (by omega)]
  unfold Tb.free
  exact fun hh=>hh (h.hinders (by omega) _)
 ·rcases List.mem_append.1 hw with hw | hw
  ·exact h.waits w hw
  ·rw [List.mem_singleton.1 hw]
   exact ⟨rfl,k,hkj,rfl⟩
theorem HoT.grant (h:HoT T j L M):T.grant=([],T):=by
 have go:∀(ws:List Wq) (left claims:List Wq),(∀w∈ws,w∈T.waits)→∃c,ws.foldl Gr.step ⟨[],left,claims,T⟩=⟨[],left++ws,c,T⟩:=by
  intro ws
  induction ws with
  | nil=>intro left claims _;exact ⟨claims,by simp⟩
  | cons w ws ih =>
    intro left claims hh
    obtain ⟨h1,i,hi,h2⟩:=h.waits w (hh w (List.mem_cons_self ..))
    have hs:Gr.step ⟨[],left,claims,T⟩ w=⟨[],left ++ [w],claims ++ [claimW w (T.hinders w.node w.l claims)],T⟩:=by
     unfold Gr.step
     rw [if_pos]
     show T.hinders w.node w.l claims<w.l.b
     rw [h1]
     exact h.hinders (by rw [h2];omega) _
    rw [List.foldl_cons,hs]
    obtain ⟨c,hc⟩:=ih (left ++ [w]) (claims ++ [claimW w (T.hinders w.node w.l claims)]) (fun x hx=>hh x (List.mem_cons_of_mem _ hx))
    exact ⟨c,by rw [hc,List.append_assoc,List.singleton_append]⟩
 obtain ⟨c,hc⟩:=go T.waits [] [] (fun w hw=>hw)
 unfold Tb.grant Tb.grantG
 rw [hc]
 rfl
theorem HoT.cancel (h:HoT T j L M) {id:Int} {ws:List Wq} (hf:T.waits.filter (fun w => !decide (w.id=id))=ws) (hl:ws.length≠T.waits.length):T.cancel id=(([],true),{T with waits:=ws})∧HoT {T with waits:=ws} j L M:=by
 have h2:HoT {T with waits:=ws} j L M:=⟨h.n,h.jn,h.off,h.at_,h.m,h.r,h.f,fun w hw=>by
  rw [←hf] at hw
  exact h.waits w (List.mem_filter.1 hw).1⟩
 refine ⟨?_,h2⟩
 unfold Tb.cancel
 rw [hf,if_neg hl,h2.grant]
theorem hold_ho (hj:1≤j∧j≤3) (hr:rightB L=true) (hm:L.m=2) {ws:List Wq} {la:Int} (hw:∀w∈ws,w.l=L∧∃i:Nat,i≠j∧w.node=(i:Int)):HoT {hold1 j L with waits:=ws,last:=la} j L 2 :=
 ⟨rfl,hj,fun i hi=>hold1_off L hi,by
  show partsL ((hold1 j L).held j) L.sp=_
  rw [hold1_at]
  have:=parts_self (l:=L) (right_m hr).1 2
  rw [←lk_eta hm] at this ⊢
  exact this,hm,hr,by decide,hw⟩
end
section
variable {S:Sv} {j k:Nat}
theorem give_down (S:Sv):S.give.down=S.down:=by
 have:∀(ws:List Wq) (B:Sv),(ws.foldl Sv.give1 B).down=B.down:=by
  intro ws
  induction ws with
  | nil=>intro _;rfl
  | cons w ws ih=>intro B;rw [List.foldl_cons,ih];rfl
 exact this _ _
theorem revoke1_down (S:Sv) (r:Int×Lk):(S.revoke1 r).down=S.down:=by
 unfold Sv.revoke1
 split <;> rfl
theorem revoke_down (S:Sv):S.revoke.down=S.down:=by
 have:∀(ws:List (Int×Lk)) (B:Sv),(ws.foldl Sv.revoke1 B).down=B.down:=by
  intro ws
  induction ws with
  | nil=>intro _;rfl
  | cons w ws ih=>intro B;rw [List.foldl_cons,ih,revoke1_down]
 exact this _ _
theorem end_calm (hd:S.down=false) (hs:∀i,i<17→(S.peers i).state=0∨(S.peers i).state=1∨(S.peers i).state=2) (hn:S.n≤16) (hk:S.kept = []):S.end_=(S.give.revoke.out,{S.give.revoke with out := [],granted := []}):=by
 have e1:S.back=S:=back_id (fun i hi=>by have:=hs i hi;omega)
 have e2:S.lost=S:=lost_id (fun i h1 h2=>by have:=hs i (by omega);omega)
 unfold Sv.end_
 rw [e1,e2,serve_id hk,if_neg (by rw [revoke_down,give_down,hd];decide)]
theorem rest_eta (ho:S.out = []) (hg:S.granted = []):({S with out := [],granted := []}:Sv)=S:=by
 cases S
 simp at ho hg
 subst ho hg
 rfl
theorem end_told {x:Lk} (hd:S.down=false) (hs:∀i,i<17→(S.peers i).state=0∨(S.peers i).state=1∨(S.peers i).state=2) (hn:S.n≤16) (hk:S.kept = []) (hg:S.granted = []) (hr:S.T.revokes = [((j:Int),x)]) (ht:x∈(S.peers j).told):S.end_=(S.out,{S with out := [],granted := []}):=by
 rw [end_calm hd hs hn hk,give_id hg,revoke_one hr]
 have:S.revoke1 ((j:Int),x)=S:=by
  unfold Sv.revoke1
  rw [if_pos]
  refine .inl ?_
  show x∈(S.peers (Int.toNat (j:Nat))).told
  rw [Int.toNat_natCast]
  exact ht
 rw [this]
theorem end_tells {x:Lk} (hd:S.down=false) (hs:∀i,i<17→(S.peers i).state=0∨(S.peers i).state=1∨(S.peers i).state=2) (hn:S.n≤16) (hk:S.kept = []) (hg:S.granted = []) (hr:S.T.revokes = [((j:Int),x)]) (ht:(S.peers j).told = []) (hsj:(S.peers j).state=1) :
 S.end_=(S.out ++ [((j:Int),{Mg.zero with kind:=8,gen:=S.gen,epoch:=(S.peers j).epoch,locks := [x]})],{S with out := [],granted := [],peers:=fun i=>if i=j then {S.peers j with told := [x]} else S.peers i}):=by
 rw [end_calm hd hs hn hk,give_id hg,revoke_one hr]
 have:S.revoke1 ((j:Int),x)=(S.peer j {S.peers j with told := [x]}).tell j {Mg.zero with kind:=8,locks := [x]}:=by
  unfold Sv.revoke1
  rw [if_neg]
  ·show (S.peer (Int.toNat (j:Nat)) {S.peers (Int.toNat (j:Nat)) with told:=x :: (S.peers (Int.toNat (j:Nat))).told}).tell (Int.toNat (j:Nat)) _=_
   rw [Int.toNat_natCast,ht]
  ·show ¬(x∈(S.peers (Int.toNat (j:Nat))).told∨(S.peers (Int.toNat (j:Nat))).state≠1)
   rw [Int.toNat_natCast,ht,hsj]
   simp
 rw [this]
 refine Prod.ext ?_ rfl
 show S.out ++ [((j:Int),{({Mg.zero with kind:=8,locks := [x]}:Mg) with gen:=S.gen,epoch:=(if j=j then ({S.peers j with told := [x]}:Pe) else S.peers j).epoch})]=_
 rw [if_pos rfl]
theorem takes_live {m:Mg} (h0:m.epoch≠0) (he:S.D.table k=m.epoch) (hs:(S.peers k).state=1) (h1:m.kind≠1) (h13:m.kind≠13):S.takes k m=S.live k m:=by
 unfold Sv.takes
 rw [if_neg h1,if_neg h13,if_neg (fun hh=>hh ⟨h0,he.symm⟩),if_neg (by rw [hs];omega),if_pos hs]
theorem live_acq {m:Mg} (hk:m.kind=5) (hr:S.ready=true):S.live k m=S.acquire k m:=by
 unfold Sv.live
 rw [if_neg (by rw [hk];decide),if_pos hk,if_pos hr]
theorem live_back {m:Mg} (hk:m.kind=15):S.live k m=S.takeBack k m.id:=by
 unfold Sv.live
 rw [if_neg (by rw [hk];decide),if_neg (by rw [hk];decide),if_pos hk]
theorem live_rel {m:Mg} (hk:m.kind=9):S.live k m=S.released k m:=by
 unfold Sv.live
 rw [if_neg (by rw [hk];decide),if_neg (by rw [hk];decide),if_neg (by rw [hk];decide),if_pos hk]
theorem acq_waits {m:Mg} {l:Lk} {id:Int} {T':Tb} (hl:m.locks = [l]) (ha:S.T.ask (k:Nat) l=((id,false,0),T')):S.acquire k m = {S with T:=T',ids:=upd S.ids id m.id}:=by
 unfold Sv.acquire
 rw [hl]
 show (if (S.T.ask (k:Nat) l).1.2.1=true then _ else if (S.T.ask (k:Nat) l).1.2.2=0 then {S with T:=(S.T.ask (k:Nat) l).2,ids:=upd S.ids (S.T.ask (k:Nat) l).1.1 m.id} else _)=_
 rw [ha]
 rfl
theorem acq_has {m:Mg} {l:Lk} {T':Tb} {x:Int×Int} (hl:m.locks = [l]) (ha:S.T.ask (k:Nat) l=((x.1,true,x.2),T')):S.acquire k m=({S with T:=T'}:Sv).grant k m.id l:=by
 unfold Sv.acquire
 rw [hl]
 show (if (S.T.ask (k:Nat) l).1.2.1=true then ({S with T:=(S.T.ask (k:Nat) l).2}:Sv).grant k m.id l else _)=_
 rw [ha]
 rfl
theorem back_none {id:Int} (h1:∀w∈S.T.waits,mineB S k id w=false) (h2:S.kept = []):S.takeBack k id=S:=by
 unfold Sv.takeBack
 rw [show S.T.waits.find? (mineB S k id)=none from List.find?_eq_none.2 (fun w hw=>by rw [h1 w hw];decide),h2]
 rfl
theorem back_some {id:Int} {w:Wq} (h1:S.T.waits.find? (mineB S k id)=some w):S.takeBack k id=(S.cancel w.id).deny k id 35:=by
 unfold Sv.takeBack
 rw [h1]
end
def canM (id:Int) (ep:Nat):Mg := {Mg.zero with kind:=15,id:=id,epoch:=ep,gen:=1}
def relM (st:Int) (ep:Nat) (g:Int) (L:Lk):Mg := {Mg.zero with kind:=9,stamp:=st,epoch:=ep,gen:=g,locks := [letGo L]}
theorem canM_ok {id:Int} {ep:Nat} (h:sm id):(canM id ep).ok:=by
 refine ⟨⟨by show (1:Int)≤15;decide,by show (15:Int)≤15;decide,by show 0≤200;decide⟩,⟨h,by show sm 0;decide,by show sm 1;decide,by show sm 0;decide,by show sm 0;decide⟩,fun x hx=>by cases hx⟩
theorem letGo_ok {L:Lk} (hr:rightB L=true):(letGo L).ok:=by
 obtain ⟨h1,h2,h3⟩:=right_m hr
 unfold Sp.ok Lk.sp at h1
 dsimp only at h1
 unfold Lk.ok letGo
 dsimp only
 omega
theorem relM_ok {st g:Int} {ep:Nat} {L:Lk} (hs:sm st) (hg:sm g) (hr:rightB L=true):(relM st ep g L).ok:=by
 refine ⟨⟨by show (1:Int)≤9;decide,by show (9:Int)≤15;decide,by show 1≤200;decide⟩,⟨by show sm 0;decide,by show sm 0;decide,hg,hs,by show sm 0;decide⟩,fun x hx => ?_⟩
 rw [List.mem_singleton.1 hx]
 exact letGo_ok hr
section
variable {S:Sv} {T:Tb} {t wd:Nat→Nat} {l dp j k ep:Nat} {L:Lk} {M:Int}
theorem wait_more (h:Bs dp S T t wd l) (hT:HoT T j L M) (hs:∀i,(S.peers i).state=0∨(S.peers i).state=1) (ht:letGo L∈(S.peers j).told) (hk:1≤k∧k≤3) (hkj:k≠j) (hsk:(S.peers k).state=1) (he:t k=ep) (h0:ep≠0) {id:Int} (hi:sm id) (hw:T.waits.length<1000) :
 S.take (k:Nat) (acqM id ep 1 L)=([],{S with T := {T with waits:=T.waits ++ [⟨T.last+1,(k:Nat),L⟩],last:=T.last+1},ids:=upd S.ids (T.last+1) id}):=by
 obtain ⟨ha,hT2⟩:=hT.ask hk hkj hw
 rw [take_eq h.up (by rw [h.n];exact hk) (acqM_ok hi (by unfold sm;omega) hT.r) rfl (.inr h.gen.symm),takes_live (m:=acqM id ep 1 L) h0 (by rw [h.dv.tab];exact he) hsk (by show ¬(5:Int)=1;decide) (by show ¬(5:Int)=13;decide),live_acq rfl (ready_of (fun i _=>hs i)),acq_waits (l:=L) rfl (by rw [h.T];exact ha)]
 obtain ⟨B,hB⟩:∃B:Sv,B = {S with T := {T with waits:=T.waits ++ [⟨T.last+1,(k:Nat),L⟩],last:=T.last+1},ids:=upd S.ids (T.last+1) id}:=⟨_,rfl⟩
 have ho:B.out = []:=by rw [hB];exact h.out
 have hg:B.granted = []:=by rw [hB];exact h.granted
 rw [show ({S with T := {T with waits:=T.waits ++ [⟨T.last+1,(k:Nat),L⟩],last:=T.last+1},ids:=upd S.ids (T.last+1) (acqM id ep 1 L).id}:Sv)=B from hB.symm,end_told (S:=B) (j:=j) (x:=letGo L) (by rw [hB];exact h.up) (fun i _=>by rw [hB];have:=hs i;show (S.peers i).state=0∨(S.peers i).state=1∨(S.peers i).state=2;omega) (by rw [hB];show S.n≤16;rw [h.n];omega) (by rw [hB];exact h.kept) hg (by rw [hB];exact hT2.revokes (by simp)) (by rw [hB];exact ht),rest_eta ho hg,ho,hB]
theorem cancel_not (h:Bs dp S T t wd l) (hT:HoT T j L M) (hs:∀i,(S.peers i).state=0∨(S.peers i).state=1) (ht:letGo L∈(S.peers j).told) (hk:1≤k∧k≤3) (hsk:(S.peers k).state=1) (he:t k=ep) (h0:ep≠0) {id:Int} (hi:sm id) (hw:T.waits≠[]) (hn:∀w∈T.waits,mineB S k id w=false) :
 S.take (k:Nat) (canM id ep)=([],S):=by
 rw [take_eq h.up (by rw [h.n];exact hk) (canM_ok hi) rfl (.inr h.gen.symm),takes_live (m:=canM id ep) h0 (by rw [h.dv.tab];exact he) hsk (by show ¬(15:Int)=1;decide) (by show ¬(15:Int)=13;decide),live_back rfl,back_none (by rw [h.T];exact hn) h.kept,end_told (j:=j) (x:=letGo L) h.up (fun i _=>by have:=hs i;omega) (by rw [h.n];omega) h.kept h.granted (by rw [h.T];exact hT.revokes hw) ht,rest_eta h.out h.granted,h.out]
theorem cancel_one (h:Bs dp S T t wd l) (hT:HoT T j L M) (hs:∀i,(S.peers i).state=0∨(S.peers i).state=1) (ht:letGo L∈(S.peers j).told) (hk:1≤k∧k≤3) (hsk:(S.peers k).state=1) (he:t k=ep) (h0:ep≠0) {id:Int} (hi:sm id) {w:Wq} {ws:List Wq} (hf:T.waits.find? (mineB S k id)=some w) (hws:T.waits.filter (fun x => !decide (x.id=w.id))=ws) (hl:ws.length≠T.waits.length) (hn:ws≠[]) :
 S.take (k:Nat) (canM id ep)=([((k:Int),{Mg.zero with kind:=7,id:=id,err:=35,gen:=1,epoch:=(S.peers k).epoch})],{S with T := {T with waits:=ws},ids:=del S.ids w.id}):=by
 obtain ⟨hc,hT2⟩:=hT.cancel hws hl
 rw [take_eq h.up (by rw [h.n];exact hk) (canM_ok hi) rfl (.inr h.gen.symm),takes_live (m:=canM id ep) h0 (by rw [h.dv.tab];exact he) hsk (by show ¬(15:Int)=1;decide) (by show ¬(15:Int)=13;decide),live_back rfl,back_some (k:=k) (id:=(canM id ep).id) (by rw [h.T];exact hf)]
 obtain ⟨B,hB⟩:∃B:Sv,B = {S with T := {T with waits:=ws},ids:=del S.ids w.id}:=⟨_,rfl⟩
 have e1:S.cancel w.id=B:=by
  unfold Sv.cancel
  rw [h.T,hc,hB]
  dsimp only
  rw [List.append_nil]
 have ho:B.out = []:=by rw [hB];exact h.out
 have hg:B.granted = []:=by rw [hB];exact h.granted
 have hBp:B.peers=S.peers:=by rw [hB]
 have hBg:B.gen=1:=by rw [hB];exact h.gen
 obtain ⟨C,hC⟩:∃C:Sv,C=B.deny k id 35:=⟨_,rfl⟩
 have hoC:C.out = [((k:Int),{Mg.zero with kind:=7,id:=id,err:=35,gen:=1,epoch:=(S.peers k).epoch})]:=by
  rw [hC]
  show B.out ++ [((k:Int),{({Mg.zero with kind:=7,id:=id,err:=35}:Mg) with gen:=B.gen,epoch:=(B.peers k).epoch})]=_
  rw [ho,hBg,hBp]
  rfl
 have hCB:({C with out := [],granted := []}:Sv)=B:=by
  rw [hC]
  exact rest_eta (S:=B) ho hg
 rw [e1,show B.deny k (canM id ep).id 35=C from hC.symm,end_told (S:=C) (j:=j) (x:=letGo L) (by rw [hC,hB];exact h.up) (fun i _=>by rw [hC];show (B.peers i).state=0∨(B.peers i).state=1∨(B.peers i).state=2;rw [hBp];have:=hs i;omega) (by rw [hC,hB];show S.n≤16;rw [h.n];omega) (by rw [hC,hB];exact h.kept) (by rw [hC];exact hg) (by rw [hC,hB];exact hT2.revokes hn) (by rw [hC];show letGo L∈(B.peers j).told;rw [hBp];exact ht),hCB,hoC,hB]
theorem hind1_clear {node:Int} (h:∀i:Nat,1≤i→(i:Int)≠node→partsL (T.held i) L.sp = []):∀n,T.hind1 node L n=L.b
 | 0=>rfl
 | n+1=>by
   unfold Tb.hind1
   split
   ·exact hind1_clear h n
   ·rename_i hn
    unfold hindH
    rw [h (n+1) (by omega) hn,hind1_clear h n]
    rfl
theorem HoT.release (h:HoT T j L M) {n:Int} (hw:T.waits = [⟨n,(k:Nat),L⟩]) (hk:1≤k∧k≤3) (hkj:k≠j) {H2:List Lk} (hrel:relL (T.held j) L.sp 0=H2) (hp:partsL H2 L.sp = []):T.release (j:Nat) L.sp 0=(([⟨n,(k:Nat),L⟩],0),{(T.hold j H2).hold k [L] with waits := []}):=by
 have hi:T.is (j:Nat):=by unfold Tb.is;rw [h.n];have:=h.jn;omega
 have hk0:(T.hold j H2).held k = []:=(if_neg hkj).trans (h.off k hkj)
 have hfree:¬(T.hold j H2).hinders (k:Nat) L []<L.b:=by
  show ¬(T.hold j H2).hind1 (k:Nat) L (T.hold j H2).nodes<L.b
  rw [hind1_clear (fun i hi1 hi2 => ?_)]
  ·exact Int.lt_irrefl _
  ·show partsL (if i=j then H2 else T.held i) L.sp = []
   by_cases hij:i=j
   ·rw [if_pos hij]
    exact hp
   ·rw [if_neg hij,h.off i hij]
    rfl
 have hG:(T.hold j H2).grantG=⟨[⟨n,(k:Nat),L⟩],[],[],(T.hold j H2).hold k [L]⟩:=by
  unfold Tb.grantG
  rw [show (T.hold j H2).waits = [⟨n,(k:Nat),L⟩] from hw]
  show Gr.step ⟨[],[],[],T.hold j H2⟩ ⟨n,(k:Nat),L⟩=_
  unfold Gr.step
  rw [if_neg hfree]
  unfold Tb.raise
  show Gr.mk ([] ++ [(⟨n,(k:Nat),L⟩:Wq)]) [] [] ((T.hold j H2).hold (Int.toNat (k:Nat)) (raiseL ((T.hold j H2).held (Int.toNat (k:Nat))) L))=_
  rw [Int.toNat_natCast,hk0,raise_nil]
  rfl
 unfold Tb.release
 rw [if_pos ⟨hi,h.ok, .inl rfl⟩,Int.toNat_natCast,hrel]
 unfold Tb.grant
 rw [hG]
structure Rs (g:Int) (S:Sv) (T:Tb) (t wd:Nat→Nat) (l:Nat):Prop where
 up:S.down=false
 out:S.out = []
 kept:S.kept = []
 granted:S.granted = []
 n:S.n=3
 gen:S.gen=g
 T:S.T=T
 dv:Dv S.D t wd l
theorem Bs.rs (h:Bs dp S T t wd l):Rs 1 S T t wd l:=⟨h.up,h.out,h.kept,h.granted,h.n,h.gen,h.T,h.dv⟩
theorem rel_step {g:Int} (h:Rs g S T t wd l) (hg:sm g) (hT:HoT T j L M) (hs:∀i,(S.peers i).state=0∨(S.peers i).state=1) (hsj:(S.peers j).state=1) {st:Int} (hst:(S.peers j).grants=st) (hss:sm st) (he:t j=ep) (h0:ep≠0) {n x:Int} (hid:S.ids n=some x) (hw:T.waits = [⟨n,(k:Nat),L⟩]) (hk:1≤k∧k≤3) (hkj:k≠j) {H2:List Lk} (hrel:relL (T.held j) L.sp 0=H2) (hp:partsL H2 L.sp = []) :
 ∃S',S.take (j:Nat) (relM st ep g L)=([((k:Int),{Mg.zero with kind:=6,id:=x,gen:=g,epoch:=(S.peers k).epoch,locks := [L]})],S')∧S'.T = {(T.hold j H2).hold k [L] with waits := []}∧S'.dp=S.dp:=by
 have hj:=hT.jn
 obtain ⟨B,hB⟩:∃B:Sv,B = {S.peer j {S.peers j with told := []} with T := {(T.hold j H2).hold k [L] with waits := []},granted := [⟨n,(k:Nat),L⟩]}:=⟨_,rfl⟩
 have e1:S.released j (relM st ep g L)=B:=by
  unfold Sv.released
  rw [if_neg (fun hh=>hh hst.symm)]
  show Sv.let1 j (S.peer j {S.peers j with told := []}) (letGo L)=_
  unfold Sv.let1
  rw [show (S.peer j {S.peers j with told := []}).T=T from h.T,show (letGo L).m=0 from rfl,show (letGo L).sp=L.sp from rfl,hT.release hw hk hkj hrel hp,hB]
  dsimp only
  rw [show (S.peer j {S.peers j with told := []}).granted = [] from h.granted]
  rfl
 rw [take_eq h.up (by rw [h.n];exact hj) (relM_ok hss hg hT.r) rfl (.inr h.gen.symm),takes_live (m:=relM st ep g L) h0 (by rw [h.dv.tab];exact he) hsj (by show ¬(9:Int)=1;decide) (by show ¬(9:Int)=13;decide),live_rel rfl,e1]
 have hBp:∀i,B.peers i=if i=j then {S.peers j with told := []} else S.peers i:=fun i=>by rw [hB];rfl
 have e3:=end_give (S:=B) (k:=k) (w:=⟨n,(k:Nat),L⟩) (by rw [hB];exact h.up) (by rw [hB];exact h.out) (fun i _=>by
  rw [hBp]
  split
  ·exact .inr (.inl hsj)
  ·have:=hs i
   omega) (by rw [hB];show S.n≤16;rw [h.n];omega) (by rw [hB];exact h.kept) (by rw [hB]) (by rw [hB]) rfl
 rw [e3]
 refine ⟨_,Prod.ext ?_ rfl,?_,?_⟩
 ·show [((k:Int),{Mg.zero with kind:=6,id:=(B.ids n).getD 0,gen:=B.gen,epoch:=(B.peers k).epoch,locks := [L]})]=_
  rw [hBp,if_neg hkj,show B.gen=g by rw [hB];exact h.gen,show B.ids n=some x by rw [hB];exact hid]
  rfl
 ·show B.T=_
  rw [hB]
 ·show B.dp=_
  rw [hB]
  rfl
end
theorem rel_self {L:Lk} (h:L.sp.ok) (hm:L.m=1∨L.m=2):relL [L] L.sp 0 = []:=by
 have e:partsL [L] L.sp = [L]:=parts_self h L.m
 unfold relL
 rw [e]
 show rel1 0 [L] L = []
 unfold rel1
 rw [if_neg (by omega),if_pos rfl]
 exact clear_self h L.m
theorem cancels_plain (dp:Nat) {L:Lk} (hr:rightB L=true) (hm:L.m=2) {id:Int} (hid:2≤id∧id≤1000):∃S1 S2 S3 S4 S5 S6 v1 v2 v3,(joinN dp 3).take ((1:Nat):Int) (acqM 1 3 1 L)=(v1,S1)∧S1.take ((2:Nat):Int) (acqM id 4 1 L)=(v2,S2)∧S2.take ((3:Nat):Int) (acqM 7 5 1 L)=(v3,S3)∧S3.take ((2:Nat):Int) (canM (id+1) 4)=([],S4)∧S4.take ((2:Nat):Int) (canM id 4)=([(((2:Nat):Int),{Mg.zero with kind:=7,id:=id,err:=35,gen:=1,epoch:=4})],S5)∧S5.take ((1:Nat):Int) (relM 1 3 1 L)=([(((3:Nat):Int),{Mg.zero with kind:=6,id:=7,gen:=1,epoch:=5,locks := [L]})],S6)∧S1.gen=1∧S2.gen=1∧S3.gen=1∧S4.gen=1∧S5.gen=1∧S3.kept = []∧S4.kept = []:=by
 obtain ⟨S1,t,wd,e1,h1,htw,hp1,hi1,_⟩:=first_holds dp (n:=3) (by omega) hr (id:=1) (by unfold sm;omega)
 have ht1:t 1=3:=(htw 1 (by omega) (by omega)).1
 have ht2:t 2=4:=(htw 2 (by omega) (by omega)).1
 have ht3:t 3=5:=(htw 3 (by omega) (by omega)).1
 have hst1:∀i,(S1.peers i).state=0∨(S1.peers i).state=1:=fun i=>by
  rw [hp1]
  dsimp only
  split
  ·exact .inr rfl
  ·exact peJ_01 _ _
 have q1:S1.peers 1 = {peJ 3 1 with grants:=1}:=by rw [hp1];exact if_pos rfl
 have q2:S1.peers 2=peJ 3 2:=by rw [hp1];exact if_neg (by omega)
 have q3:S1.peers 3=peJ 3 3:=by rw [hp1];exact if_neg (by omega)
 obtain ⟨S2,e2,h2,hi2,hp2,_⟩:=wait_step h1 (fun i _=>hst1 i) (j:=1) (k:=2) (by omega) (by omega) (by omega) (by rw [q1];rfl) (by rw [q1];rfl) (by rw [q2];rfl) ht2 (by omega) (id:=id) (by unfold sm;omega) hr hm
 have r1:S2.peers 1 = {S1.peers 1 with told := [letGo L]}:=by rw [hp2];exact if_pos rfl
 have r2:S2.peers 2=S1.peers 2:=by rw [hp2];exact if_neg (by omega)
 have r3:S2.peers 3=S1.peers 3:=by rw [hp2];exact if_neg (by omega)
 have hst2:∀i,(S2.peers i).state=0∨(S2.peers i).state=1:=fun i=>by
  rw [hp2]
  dsimp only
  split
  ·exact hst1 1
  ·exact hst1 i
 have hto:letGo L∈(S2.peers 1).told:=by rw [r1];exact List.mem_singleton.2 rfl
 have hT2:HoT (wait1 1 2 L) 1 L 2:=hold_ho (by omega) hr hm (fun w hw=>by
  rw [List.mem_singleton.1 hw]
  exact ⟨rfl,2,by omega,rfl⟩)
 have e3:=wait_more h2 hT2 hst2 hto (k:=3) (by omega) (by omega) (by rw [r3,q3];rfl) ht3 (by omega) (id:=7) (by unfold sm;omega) (by show 1<1000;omega)
 obtain ⟨T3,hT3⟩:∃T3:Tb,T3 = {wait1 1 2 L with waits:=(wait1 1 2 L).waits ++ [⟨(wait1 1 2 L).last+1,((3:Nat):Int),L⟩],last:=(wait1 1 2 L).last+1}:=⟨_,rfl⟩
 rw [←hT3] at e3
 have hw3:T3.waits = [⟨1,((2:Nat):Int),L⟩,⟨2,((3:Nat):Int),L⟩]:=by rw [hT3];rfl
 have hh3:HoT T3 1 L 2:=by
  rw [hT3]
  exact (hT2.ask (k:=3) (by omega) (by omega) (by show 1<1000;omega)).2
 obtain ⟨S3,hS3⟩:∃S3:Sv,S3 = {S2 with T:=T3,ids:=upd S2.ids ((wait1 1 2 L).last+1) 7}:=⟨_,rfl⟩
 rw [←hS3] at e3
 have b3:Bs dp S3 T3 t wd (2+3):=by
  rw [hS3]
  exact ⟨h2.up,h2.out,h2.kept,h2.granted,h2.n,h2.gen,h2.dp,rfl,h2.dv⟩
 have hp3:S3.peers=S2.peers:=by rw [hS3]
 have i1:S3.ids 1=some id:=by
  rw [hS3,hi2]
  rfl
 have i2:S3.ids 2=some 7:=by
  rw [hS3]
  rfl
 have hst3:∀i,(S3.peers i).state=0∨(S3.peers i).state=1:=fun i=>by rw [hp3];exact hst2 i
 have e4:=cancel_not b3 hh3 hst3 (by rw [hp3];exact hto) (k:=2) (by omega) (by rw [hp3,r2,q2];rfl) ht2 (by omega) (id:=id+1) (by unfold sm;omega) (by rw [hw3];simp) (fun w hw=>by
  rw [hw3] at hw
  unfold mineB
  simp only [List.mem_cons,List.not_mem_nil,or_false] at hw
  rcases hw with rfl | rfl
  ·refine decide_eq_false (fun hh => ?_)
   have:=hh.2
   rw [show S3.ids (Wq.id ⟨1,((2:Nat):Int),L⟩)=some id from i1] at this
   have h2:id=id+1:=this
   omega
  ·refine decide_eq_false (fun hh => ?_)
   have h2:((3:Nat):Int)=((2:Nat):Int):=hh.1
   omega)
 have e5:=cancel_one b3 hh3 hst3 (by rw [hp3];exact hto) (k:=2) (by omega) (by rw [hp3,r2,q2];rfl) ht2 (by omega) (id:=id) (by unfold sm;omega) (w:=⟨1,((2:Nat):Int),L⟩) (ws := [⟨2,((3:Nat):Int),L⟩]) (by
  rw [hw3]
  refine List.find?_cons_of_pos ?_
  unfold mineB
  refine decide_eq_true ⟨rfl,?_⟩
  show (S3.ids 1).getD 0=id
  rw [i1]
  rfl) (by rw [hw3];rfl) (by rw [hw3];show 1≠2;omega) (by simp)
 obtain ⟨T5,hT5⟩:∃T5:Tb,T5 = {T3 with waits := [⟨2,((3:Nat):Int),L⟩]}:=⟨_,rfl⟩
 rw [←hT5] at e5
 obtain ⟨S5,hS5⟩:∃S5:Sv,S5 = {S3 with T:=T5,ids:=del S3.ids (Wq.id ⟨1,((2:Nat):Int),L⟩)}:=⟨_,rfl⟩
 rw [←hS5] at e5
 have b5:Bs dp S5 T5 t wd (2+3):=by
  rw [hS5]
  exact ⟨b3.up,b3.out,b3.kept,b3.granted,b3.n,b3.gen,b3.dp,rfl,b3.dv⟩
 have hh5:HoT T5 1 L 2:=by
  rw [hT5]
  exact ⟨hh3.n,hh3.jn,hh3.off,hh3.at_,hm,hr,hh3.f,fun w hw=>by
   rw [List.mem_singleton.1 hw]
   exact ⟨rfl,3,by omega,rfl⟩⟩
 have hp5:S5.peers=S2.peers:=by rw [hS5];exact hp3
 have hst5:∀i,(S5.peers i).state=0∨(S5.peers i).state=1:=fun i=>by rw [hp5];exact hst2 i
 have hd5:T5.held 1 = [L]:=by rw [hT5,hT3];exact hold1_at 1 L
 have i5:S5.ids 2=some 7:=by
  rw [hS5]
  exact i2
 obtain ⟨S6,e6,_⟩:=rel_step b5.rs (by unfold sm;omega) hh5 hst5 (by rw [hp5,r1,q1];rfl) (st:=1) (by rw [hp5,r1,q1]) (by unfold sm;omega) ht1 (by omega) (n:=2) (x:=7) i5 (k:=3) (by rw [hT5]) (by omega) (by omega) (H2 := []) (by rw [hd5];exact rel_self (right_m hr).1 (.inr hm)) rfl
 have ep2:(S3.peers 2).epoch=4:=by rw [hp3,r2,q2];rfl
 have ep3:(S5.peers 3).epoch=5:=by rw [hp5,r3,q3];rfl
 rw [ep2] at e5
 rw [ep3] at e6
 exact ⟨S1,S2,S3,S3,S5,S6,_,_,_,e1,e2,e3,e4,e5,e6,h1.gen,h2.gen,b3.gen,b3.gen,b5.gen,b3.kept,b3.kept⟩
end Go.Proofs.YtohgabdmmbngbaaGreatDoor
