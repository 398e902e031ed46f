import Derived.Test.YtohgabdmmbngbaaGreatDoorKSrvJp
import Derived.Test.YtohgabdmmbngbaaGreatDoorKReadyV
set_option linter.unusedVariables false
set_option linter.unusedSimpArgs false
namespace Go.Proofs.YtohgabdmmbngbaaGreatDoor
open Go.RowKit
section
variable {S:Sv} {st:Int} {k:Nat}
theorem least_first (hn:S.n=3) (h:(S.peers 1).state=st):S.least st=1:=by
 unfold Sv.least
 rw [hn,show List.range 3 = [0,1,2] from rfl,List.find?_cons_of_pos (by simpa using h)]
 rfl
theorem least_second (hn:S.n=3) (h1:(S.peers 1).state≠st) (h:(S.peers 2).state=st):S.least st=2:=by
 unfold Sv.least
 rw [hn,show List.range 3 = [0,1,2] from rfl,List.find?_cons_of_neg (by simpa using h1),List.find?_cons_of_pos (by simpa using h)]
 rfl
theorem lost1_id (h:(S.peers k).state≠3):S.lost1 k=S:=by
 unfold Sv.lost1
 by_cases hd:S.down=true
 ·rw [if_pos hd]
 ·rw [if_neg hd,if_pos h]
theorem lost1_redo (hd:S.down=false) (h:(S.peers k).state=3) (hl:S.least 1>0):S.lost1 k=S.redo k (S.least 1):=by
 unfold Sv.lost1
 rw [if_neg (by rw [hd];decide),if_neg (fun hh=>hh h),if_pos hl]
theorem redo_state (S:Sv) (k:Nat) (b:Int) (i:Nat):((S.redo k b).peers i).state=if i=k then 4 else (S.peers i).state:=by
 show (if i=k then ({S.peers k with state:=4,by_:=b,stamp:=S.stamp+1}:Pe) else S.peers i).state=_
 split <;> rfl
theorem lost_one (hn:S.n=3) (hd:S.down=false) (hk:1≤k∧k≤3) (h:(S.peers k).state=3) (ho:∀i,1≤i→i≤3→i≠k→(S.peers i).state≠3) (hl:S.least 1>0):S.lost=S.redo k (S.least 1):=by
 have hr:∀i,1≤i→i≤3→((S.redo k (S.least 1)).peers i).state≠3:=fun i h1 h2=>by
  rw [redo_state]
  split
  ·decide
  ·rename_i hi
   exact ho i h1 h2 hi
 unfold Sv.lost
 rw [hn,show List.range 3 = [0,1,2] from rfl]
 show ((S.lost1 1).lost1 2).lost1 3=_
 rcases (show k=1∨k=2∨k=3 by omega) with rfl | rfl | rfl
 ·rw [lost1_redo hd h hl,lost1_id (hr 2 (by omega) (by omega)),lost1_id (hr 3 (by omega) (by omega))]
 ·rw [lost1_id (ho 1 (by omega) (by omega) (by omega)),lost1_redo hd h hl,lost1_id (hr 3 (by omega) (by omega))]
 ·rw [lost1_id (ho 1 (by omega) (by omega) (by omega)),lost1_id (ho 2 (by omega) (by omega) (by omega)),lost1_redo hd h hl]
theorem drop_zero (n:Nat) (k:Int):(Tb.zero n).drop k=([],Tb.zero n):=by
 unfold Tb.drop
 split
 ·have e:({(Tb.zero n).hold k.toNat [] with waits:=(Tb.zero n).waits.filter (fun w => !decide (w.node=k))}:Tb)=Tb.zero n:=by
   show (⟨n,fun i=>if i=k.toNat then [] else [],[],0⟩:Tb)=⟨n,fun _ => [],[],0⟩
   congr 1
   funext i
   split <;> rfl
  rw [e]
  rfl
 ·rfl
theorem end_lost {C:Sv} (hb:S.back=S) (hl:S.lost=C) (hd:C.down=false) (hk:C.kept = []) (hg:C.granted = []) (hr:C.T.revokes = []):S.end_=(C.out,{C with out := [],granted := []}):=by
 unfold Sv.end_
 rw [hb,hl,serve_id hk,give_id hg,revoke_id hr,if_neg (by rw [hd];decide)]
theorem peer_over (S:Sv) (id:Nat) (p X:Pe) (D':Dk) (L':Le):({S.peer id p with D:=D',L:=L'}:Sv).peer id X = {S with D:=D',L:=L',peers:=fun i=>if i=id then X else S.peers i}:=by
 unfold Sv.peer
 dsimp only
 congr 1
 funext i
 by_cases h:i=id
 ·rw [if_pos h,if_pos h]
 ·rw [if_neg h,if_neg h,if_neg h]
theorem tell_step (q:Qs S) (hr:S.T.revokes = []) (m:Mg):(S.tell k m).end_=([((k:Int),{m with gen:=S.gen,epoch:=(S.peers k).epoch})],S):=by
 refine (end_rest (S:=S.tell k m) q.up q.st (by show S.n≤16;rw [q.n];omega) q.kept q.granted hr).trans ?_
 unfold Sv.tell
 dsimp only
 rw [q.out]
 congr 1
 rw [←q.out,←q.granted]
theorem none_step (q:Qs S) (hr:S.T.revokes = []):S.end_=([],S):=by
 refine (end_rest q.up q.st (by rw [q.n];omega) q.kept q.granted hr).trans ?_
 rw [q.out]
 congr 1
 rw [←q.out,←q.granted]
end
def byOf (id:Nat):Nat:=if id=1 then 2 else 1
theorem byOf_in {id:Nat}:1≤byOf id∧byOf id≤3∧byOf id≠id:=by
 unfold byOf
 split <;> omega
theorem peJ_in {n i:Nat} (h:1≤i∧i≤n) (hn:n≤3):peJ n i = {Pe.away with state:=1,epoch:=2+i,life:=1}:=by
 unfold peJ
 rw [if_neg (by omega),if_pos h.2]
theorem peJ_state (n i:Nat):(peJ n i).state=0∨(peJ n i).state=1∨(peJ n i).state=2:=by
 unfold peJ
 split
 ·exact .inl rfl
 ·split
  ·exact .inr (.inl rfl)
  ·exact .inl rfl
def recM (id b:Nat):Mg := {Mg.zero with kind:=13,node:=id,stamp:=1,epoch:=2+b,gen:=1}
theorem joins_same (dp:Nat) {id:Nat} (hid:1≤id∧id≤3):(joinN dp 3).take (id:Nat) (hi 1)=([((id:Int),{Mg.zero with kind:=2,gen:=1,epoch:=2+id})],joinN dp 3):=by
 obtain ⟨h,_⟩:=joinN_ok dp 3 (Nat.le_refl _)
 have hp:(joinN dp 3).peers id=_:=(congrFun h.pe id).trans (peJ_in hid (Nat.le_refl _))
 rw [take_eq h.q.up (by rw [h.q.n];exact hid) (hi_ok (by omega)) rfl (.inl rfl)]
 have e:(joinN dp 3).takes id (hi 1)=(joinN dp 3).tell id {Mg.zero with kind:=2}:=by
  unfold Sv.takes Sv.hello
  rw [if_pos (show (hi 1).kind=1 from rfl),if_neg (show ¬(hi 1).stamp<1 by decide),hp,if_neg (by show ¬(1:Int)=0;omega),if_pos ⟨rfl,rfl⟩]
 rw [e,tell_step h.q (by rw [h.T];rfl),h.gen,hp]
theorem joins_less (dp:Nat) {id:Nat} (hid:1≤id∧id≤3):(joinN dp 3).take (id:Nat) (hi 0)=([],joinN dp 3):=by
 obtain ⟨h,_⟩:=joinN_ok dp 3 (Nat.le_refl _)
 rw [take_eq h.q.up (by rw [h.q.n];exact hid) (hi_ok (by omega)) rfl (.inl rfl)]
 have e:(joinN dp 3).takes id (hi 0)=joinN dp 3:=by
  unfold Sv.takes Sv.hello
  rw [if_pos (show (hi 0).kind=1 from rfl),if_pos (show (hi 0).stamp<1 by decide)]
 rw [e,none_step h.q (by rw [h.T];rfl)]
structure JLost (dp id:Nat) (life:Int) (S:Sv):Prop where
 up:S.down=false
 out:S.out = []
 kept:S.kept = []
 granted:S.granted = []
 n:S.n=3
 gen:S.gen=1
 dp:S.dp=dp
 T:S.T=Tb.zero 3
 pe:∀i,i≠id→S.peers i=peJ 3 i
 pi:(S.peers id).state=4∧(S.peers id).by_=byOf id∧(S.peers id).stamp=1∧(S.peers id).hello=life
 dv:∃t wd,Dv S.D t wd 5∧t id=0∧t (byOf id)=2+byOf id
set_option maxRecDepth 100000 in
theorem joins_more (dp:Nat) {id:Nat} (hid:1≤id∧id≤3) {life:Int} (hl:2≤life∧life≤2000):∃S4,(joinN dp 3).take (id:Nat) (hi life)=([(((byOf id:Nat):Int),{Mg.zero with kind:=12,node:=((id:Nat):Int),stamp:=1,gen:=1,epoch:=2+id})],S4)∧JLost dp id life S4:=by
 obtain ⟨h,_⟩:=joinN_ok dp 3 (Nat.le_refl _)
 have hp:(joinN dp 3).peers id=_:=(congrFun h.pe id).trans (peJ_in hid (Nat.le_refl _))
 rw [take_eq h.q.up (by rw [h.q.n];exact hid) (hi_ok (by omega)) rfl (.inl rfl)]
 obtain ⟨t,wd,hv,ht0,htw⟩:=h.dv
 have e:(joinN dp 3).takes id (hi life)=((joinN dp 3).lose id).peer id {((joinN dp 3).lose id).peers id with hello:=max (((joinN dp 3).lose id).peers id).hello life}:=by
  unfold Sv.takes Sv.hello
  rw [if_pos (show (hi life).kind=1 from rfl),if_neg (show ¬(hi life).stamp<1 by show ¬life<1;omega),hp,if_neg (by show ¬(1:Int)=0;omega),if_neg (by show ¬((1:Int)=1∧(1:Int)=life);omega),if_neg (by show ¬((1:Int)=1∧(1:Int)>life);omega),if_pos (.inl rfl)]
  rfl
 obtain ⟨S,hS⟩:∃S,joinN dp 3=S:=⟨_,rfl⟩
 rw [hS] at h hp hv e ⊢
 obtain ⟨D',hd',el⟩:=lose_dv hv (S:=S) (k:=id) (by omega)
 have ef:({S.peer id (S.peers id).lost with D:=D',L:=(S.L.drop id).2}:Sv).forget (id:Nat) = {S.peer id (S.peers id).lost with D:=D',L:=(S.L.drop id).2}:=forget_id h.q.kept (fun w hw=>by
  have:w∈S.T.waits:=hw
  rw [h.T] at this
  cases this)
 rw [ef] at el
 obtain ⟨X,hX⟩:∃X:Pe,X = {(S.peers id).lost with hello:=max (S.peers id).lost.hello life}:=⟨_,rfl⟩
 have e2:S.takes id (hi life) = {S with D:=D',L:=(S.L.drop id).2,peers:=fun i=>if i=id then X else S.peers i}:=by
  rw [e,el,show ({S.peer id (S.peers id).lost with D:=D',L:=(S.L.drop id).2}:Sv).peers id=(S.peers id).lost from if_pos rfl,←hX]
  exact peer_over S id _ X D' _
 have hXs:X.state=3:=by rw [hX];rfl
 have hXh:X.hello=life:=by
  rw [hX]
  show max (S.peers id).hello life=life
  rw [hp]
  show max (-1) life=life
  omega
 obtain ⟨B,hB⟩:∃B:Sv,B = {S with D:=D',L:=(S.L.drop id).2,peers:=fun i=>if i=id then X else S.peers i}:=⟨_,rfl⟩
 rw [←hB] at e2
 have hBp:∀i,B.peers i=if i=id then X else S.peers i:=fun i=>by rw [hB]
 have hBn:B.n=3:=by rw [hB];exact h.q.n
 have hBs:∀i,i≠id→(B.peers i).state=0∨(B.peers i).state=1∨(B.peers i).state=2:=fun i hi=>by
  rw [hBp,if_neg hi,h.pe]
  exact peJ_state _ _
 have hBid:(B.peers id).state=3:=by rw [hBp,if_pos rfl];exact hXs
 have hle:B.least 1=(byOf id:Nat):=by
  unfold byOf
  by_cases h1:id=1
  ·rw [if_pos h1]
   refine least_second hBn ?_ ?_
   ·rw [hBp,if_pos h1.symm,hXs];decide
   ·rw [hBp,if_neg (by omega),h.pe,peJ_in (by omega) (Nat.le_refl _)]
  ·rw [if_neg h1]
   refine least_first hBn ?_
   rw [hBp,if_neg (by omega),h.pe,peJ_in (by omega) (Nat.le_refl _)]
 have hbp:=byOf_in (id:=id)
 have e3:B.back=B:=back_id (fun i hi=>by
  by_cases h1:i=id
  ·rw [h1,hBid]
   omega
  ·have:=hBs i h1
   omega)
 have e4:B.lost=B.redo id (byOf id:Nat):=by
  rw [←hle]
  refine lost_one hBn (by rw [hB];exact h.q.up) hid hBid (fun i _ _ hi => ?_) (by rw [hle];omega)
  have:=hBs i hi
  omega
 have hw:D'.words id=2+id:=by
  rw [hd'.word]
  have:=(htw id hid.1 (by omega)).2
  rw [if_pos hid.2] at this
  exact this
 have hBD:B.D=D':=by rw [hB]
 obtain ⟨C,hC⟩:∃C,C=B.redo id ((byOf id:Nat):Int):=⟨_,rfl⟩
 rw [←hC] at e4
 have e5:=end_lost e3 e4 (by rw [hC,hB];exact h.q.up) (by rw [hC,hB];exact h.q.kept) (by rw [hC,hB];exact h.q.granted) (by rw [hC,hB];show S.T.revokes = [];rw [h.T];rfl)
 have hCs:B.stamp+1=1:=by
  rw [show B.stamp=0 by rw [hB];exact h.st]
  rfl
 have ho:C.out = [(((byOf id:Nat):Int),{Mg.zero with kind:=12,node:=((id:Nat):Int),stamp:=1,gen:=1,epoch:=2+id})]:=by
  rw [hC]
  show B.out ++ [(((byOf id:Nat):Int),{Mg.zero with kind:=12,node:=((id:Nat):Int),stamp:=B.stamp+1,gen:=B.gen,epoch:=B.D.words id})]=_
  rw [hCs,hBD,hw,show B.out = [] by rw [hB];exact h.q.out,show B.gen=1 by rw [hB];exact h.gen]
  rfl
 have hCp:∀i,C.peers i=if i=id then ({B.peers id with state:=4,by_:=((byOf id:Nat):Int),stamp:=B.stamp+1}:Pe) else B.peers i:=fun i=>by rw [hC];rfl
 rw [e2]
 refine ⟨{C with out := [],granted := []},by rw [e5,ho],by rw [hC,hB];exact h.q.up,rfl,by rw [hC,hB];exact h.q.kept,rfl,by rw [hC];exact hBn,by rw [hC,hB];exact h.gen,by rw [hC,hB];exact h.dp,by rw [hC,hB];exact h.T,fun i hi => ?_,?_,?_⟩
 ·show C.peers i=_
  rw [hCp,if_neg hi,hBp,if_neg hi,h.pe]
 ·show (C.peers id).state=4∧(C.peers id).by_=byOf id∧(C.peers id).stamp=1∧(C.peers id).hello=life
  rw [hCp,if_pos rfl]
  refine ⟨rfl,rfl,hCs,?_⟩
  show (B.peers id).hello=life
  rw [hBp,if_pos rfl,hXh]
 ·refine ⟨_,_,(show Dv C.D _ _ _ from (show C.D=D' by rw [hC];exact hBD)▸hd'),?_,?_⟩
  ·exact if_pos rfl
  ·have:=(htw (byOf id) hbp.1 (by omega)).1
   rw [if_pos hbp.2.1] at this
   exact (if_neg hbp.2.2).trans this
set_option maxRecDepth 100000 in
theorem joins_again (dp:Nat) {id:Nat} (hid:1≤id∧id≤3) {life:Int} (hl:2≤life∧life≤2000) {S:Sv} (h:JLost dp id life S):∃S5,S.take (byOf id:Nat) (recM id (byOf id))=([((id:Int),{Mg.zero with kind:=2,gen:=1,epoch:=6})],S5)∧S5.D.table id=6∧(S5.peers id).state=1∧S5.dp=dp:=by
 obtain ⟨p1,p2,p3,p4⟩:=h.pi
 obtain ⟨b1,b2,b3⟩:=byOf_in (id:=id)
 have hmo:(recM id (byOf id)).ok:=by
  unfold Mg.ok sm recM Mg.zero
  simp
  omega
 rw [take_eq h.up (by rw [h.n];omega) hmo rfl (.inr h.gen.symm)]
 obtain ⟨t,wd,hv,ht,htb⟩:=h.dv
 obtain ⟨D1,hd1,el⟩:=leave_dv hv (S:=S) (k:=id) (by omega)
 have e1:S.takes (byOf id) (recM id (byOf id))=S.leave id:=by
  unfold Sv.takes Sv.recovered
  rw [if_neg (show ¬(recM id (byOf id)).kind=1 by show ¬(13:Int)=1;decide),if_pos (show (recM id (byOf id)).kind=13 from rfl)]
  have hi:S.is (recM id (byOf id)).node:=by
   show (1:Int)≤(id:Int)∧(id:Int)≤S.n
   rw [h.n]
   omega
  rw [if_neg (fun hh=>hh hi),if_neg,if_pos (show (recM id (byOf id)).err=0 from rfl)]
  ·rfl
  ·show ¬((S.peers id).state≠4∨(S.peers id).by_≠(byOf id:Nat)∨(S.peers id).stamp≠1)
   rw [p1,p2,p3]
   simp
 have ef:({S with D:=D1,L:=(S.L.drop id).2}:Sv).forget (id:Nat) = {S with D:=D1,L:=(S.L.drop id).2}:=forget_id h.kept (fun w hw=>by
  have:w∈S.T.waits:=hw
  rw [h.T] at this
  cases this)
 have hdr:({S with D:=D1,L:=(S.L.drop id).2}:Sv).T.drop (id:Nat)=([],Tb.zero 3):=by
  show S.T.drop (id:Nat)=_
  rw [h.T]
  exact drop_zero _ _
 have eg:({S with D:=D1,L:=(S.L.drop id).2}:Sv).gone id = {S with D:=D1,L:=(S.L.drop id).2,T:=Tb.zero 3,granted := [],peers:=fun i=>if i=id then Pe.away else S.peers i}:=by
  unfold Sv.gone Sv.peer
  rw [hdr]
  dsimp only
  rw [h.granted]
  rfl
 rw [ef,eg,if_neg (by rw [p4];omega),p4] at el
 obtain ⟨D2,hd2,ej⟩:=join_dv (S := {S with D:=D1,L:=(S.L.drop id).2,T:=Tb.zero 3,granted := [],peers:=fun i=>if i=id then Pe.away else S.peers i}) (t:=t) (wd:=set1 wd id 0) (l:=5) hd1 (k:=id) (by omega) life
 rw [e1,el,ej]
 have hst:∀i,i<17→((if i=id then ({Pe.away with state:=1,epoch:=6,life:=life}:Pe) else if i=id then Pe.away else S.peers i).state=0∨(if i=id then ({Pe.away with state:=1,epoch:=6,life:=life}:Pe) else if i=id then Pe.away else S.peers i).state=1∨(if i=id then ({Pe.away with state:=1,epoch:=6,life:=life}:Pe) else if i=id then Pe.away else S.peers i).state=2):=fun i hi=>by
  by_cases h1:i=id
  ·rw [if_pos h1]
   exact .inr (.inl rfl)
  ·rw [if_neg h1,if_neg h1,h.pe i h1]
   exact peJ_state _ _
 obtain ⟨J,hJ⟩:∃J:Sv,J=({S with D:=D2,L:=(S.L.drop id).2,T:=Tb.zero 3,granted := [],peers:=fun i=>if i=id then Pe.away else S.peers i}:Sv).joined id life 6:=⟨_,rfl⟩
 have e9:J.end_=(J.out,{J with out := [],granted := []}):=end_rest (by rw [hJ];exact h.up) (by rw [hJ];exact hst) (by rw [hJ];show S.n≤16;rw [h.n];omega) (by rw [hJ];exact h.kept) (by rw [hJ];rfl) (by rw [hJ];rfl)
 have ho:J.out = [((id:Int),{Mg.zero with kind:=2,gen:=1,epoch:=6})]:=by
  rw [hJ]
  show S.out ++ [((id:Int),{({Mg.zero with kind:=2}:Mg) with gen:=S.gen,epoch:=(if id=id then ({Pe.away with state:=1,epoch:=6,life:=life}:Pe) else if id=id then Pe.away else S.peers id).epoch})]=_
  rw [h.out,h.gen,if_pos rfl]
  rfl
 have hJD:J.D=D2:=by rw [hJ];rfl
 have hJp:(J.peers id).state=1:=by
  rw [hJ]
  show (if id=id then ({Pe.away with state:=1,epoch:=6,life:=life}:Pe) else if id=id then Pe.away else S.peers id).state=1
  rw [if_pos rfl]
 have hJd:J.dp=dp:=by rw [hJ];exact h.dp
 rw [show ({S with D:=D2,L:=(S.L.drop id).2,T:=Tb.zero 3,granted := [],peers:=fun i=>if i=id then Pe.away else S.peers i}:Sv).joined id life (5+1)=J from hJ.symm]
 refine ⟨{J with out := [],granted := []},by rw [e9,ho],?_,hJp,hJd⟩
 show J.D.table id=6
 rw [hJD,hd2.tab]
 exact if_pos rfl
section
variable {S:Sv} {t wd:Nat→Nat} {l k:Nat} {L:Lk}
def acqM (id:Int) (ep:Nat) (g:Int) (L:Lk):Mg := {Mg.zero with kind:=5,id:=id,epoch:=ep,gen:=g,locks := [L]}
theorem acqM_ok {id g:Int} {ep:Nat} (hi:sm id) (hg:sm g) (hr:rightB L=true):(acqM id ep g L).ok:=by
 obtain ⟨h1,h2,h3⟩:=right_m hr
 unfold Sp.ok Lk.sp at h1
 refine ⟨⟨by show (1:Int)≤5;decide,by show (5:Int)≤15;decide,by show 1≤200;decide⟩,⟨hi,by show sm 0;decide,hg,by show sm 0;decide,by show sm 0;decide⟩,fun x hx => ?_⟩
 rw [List.mem_singleton.1 hx]
 unfold Lk.ok
 dsimp only at h1
 omega
theorem ready_of (h:∀i,i<17→(S.peers i).state=0∨(S.peers i).state=1):S.ready=true:=by
 unfold Sv.ready
 rw [Bool.not_eq_true',List.any_eq_false]
 intro i hi
 have:=h i (List.mem_range.1 hi)
 unfold Pe.open_
 rcases this with e | e <;> rw [e] <;> simp
theorem acquire_step (q:Qs S) (hv:Dv S.D t wd l) (hk:1≤k∧k≤3) (hs:(S.peers k).state=1) {ep:Nat} (he:t k=ep) (h0:ep≠0) (hrd:S.ready=true) {id g:Int} (hi:sm id) (hgs:sm g) (hg:g=S.gen) (hr:rightB L=true) (hT:S.T.nodes=3) (hh:∀j,S.T.held j = []) (hw:S.T.waits = []) :
 S.take (k:Nat) (acqM id ep g L)=([((k:Int),{Mg.zero with kind:=6,id:=id,gen:=S.gen,epoch:=(S.peers k).epoch,locks := [L]})],{S with T:=S.T.hold k [L],peers:=fun i=>if i=k then {S.peers k with grants:=(S.peers k).grants+1} else S.peers i})∧Qs (S.take (k:Nat) (acqM id ep g L)).2:=by
 have e1:S.take (k:Nat) (acqM id ep g L)=(S.takes k (acqM id ep g L)).end_:=take_eq q.up (by rw [q.n];exact hk) (acqM_ok hi hgs hr) rfl (.inr hg)
 have ha:S.T.ask (k:Nat) L=((0,true,0),S.T.hold k [L]):=ask_free (by unfold Tb.is;rw [hT];omega) hr (hh k) hw (fun j _ _=>hh j)
 have e2:S.takes k (acqM id ep g L)=({S with T:=S.T.hold k [L]}:Sv).grant k id L:=by
  unfold Sv.takes Sv.live Sv.acquire
  rw [if_neg (show ¬(acqM id ep g L).kind=1 by show ¬(5:Int)=1;decide),if_neg (show ¬(acqM id ep g L).kind=13 by show ¬(5:Int)=13;decide),if_neg (by show ¬ ¬(ep≠0∧ep=S.D.table k);rw [hv.tab,he];simp [h0]),if_neg (by show ¬((5:Int)=11∧_);omega),if_pos hs,if_neg (show ¬(acqM id ep g L).kind=3 by show ¬(5:Int)=3;decide),if_pos (show (acqM id ep g L).kind=5 from rfl),if_pos hrd]
  show (if (S.T.ask (k:Nat) L).1.2.1=true then _ else _)=_
  rw [ha]
  rfl
 have hst:∀i,i<17→((if i=k then ({S.peers k with grants:=(S.peers k).grants+1}:Pe) else S.peers i).state=0∨(if i=k then ({S.peers k with grants:=(S.peers k).grants+1}:Pe) else S.peers i).state=1∨(if i=k then ({S.peers k with grants:=(S.peers k).grants+1}:Pe) else S.peers i).state=2):=fun i hi=>by
  split
  ·exact q.st k (by omega)
  ·exact q.st i hi
 have e3:(S.takes k (acqM id ep g L)).end_=([((k:Int),{Mg.zero with kind:=6,id:=id,gen:=S.gen,epoch:=(S.peers k).epoch,locks := [L]})],{S with T:=S.T.hold k [L],peers:=fun i=>if i=k then {S.peers k with grants:=(S.peers k).grants+1} else S.peers i}):=by
  rw [e2]
  refine (end_rest (S:=({S with T:=S.T.hold k [L]}:Sv).grant k id L) q.up hst (by show S.n≤16;rw [q.n];omega) q.kept q.granted (waits_revokes hw)).trans ?_
  unfold Sv.grant Sv.tell Sv.peer
  dsimp only
  rw [q.out,if_pos rfl]
  congr 1
  rw [←q.out,←q.granted]
 refine ⟨e1.trans e3,?_⟩
 rw [e1,e3]
 exact ⟨q.up,q.out,q.kept,q.granted,hst,q.n⟩
end
def lk5 : Lk:=⟨0,5,2⟩
theorem alive_said (dp:Nat):((joinN dp 1).take ((1:Nat):Int) (acqM 4 3 1 lk5)).1 = [(((1:Nat):Int),{Mg.zero with kind:=6,id:=4,gen:=1,epoch:=3,locks := [lk5]})]∧((((joinN dp 1).take ((1:Nat):Int) (acqM 4 3 1 lk5)).2).peers 1).state=1∧(((joinN dp 1).take ((1:Nat):Int) (acqM 4 3 1 lk5)).2).ready=true:=by
 obtain ⟨h,_⟩:=joinN_ok dp 1 (by omega)
 obtain ⟨t,wd,hv,ht0,htw⟩:=h.dv
 have ht:=(htw 1 (by omega) (by omega)).1
 rw [if_pos (by omega)] at ht
 have hp:(joinN dp 1).peers 1=_:=(congrFun h.pe 1).trans (peJ_in (by omega) (by omega))
 have hst:∀i,((joinN dp 1).peers i).state=0∨((joinN dp 1).peers i).state=1:=fun i=>by
  rw [h.pe]
  unfold peJ
  split
  ·exact .inl rfl
  ·split
   ·exact .inr rfl
   ·exact .inl rfl
 obtain ⟨e,_⟩:=acquire_step (L:=lk5) (id:=4) (g:=1) h.q hv (k:=1) (by omega) (by rw [hp]) ht (by omega) (ready_of (fun i _=>hst i)) (by unfold sm;omega) (by unfold sm;omega) h.gen.symm (by decide) (by rw [h.T];rfl) (fun j=>by rw [h.T];rfl) (by rw [h.T];rfl)
 rw [e,h.gen,hp]
 refine ⟨rfl,?_,ready_of (fun i hi => ?_)⟩
 ·show (if 1=1 then _ else _:Pe).state=1
  rw [if_pos rfl]
 ·show (if i=1 then _ else (joinN dp 1).peers i:Pe).state=0∨(if i=1 then _ else (joinN dp 1).peers i:Pe).state=1
  split
  ·exact .inr rfl
  ·exact hst i
theorem OutsAt.one {o:Nat→Nat} {c:Nat} {w:World} {v:Value} {a:Int} {m:Mg} (h:OutsAt o c w v [(a,m)]):∃(g cap:Nat) (lv:Value),v = .slice (some ⟨g,0,none⟩) 1 cap∧o g=c∧w.cell? ⟨g,0,none⟩=some (.int .i64 a)∧w.cell? ⟨g,1,none⟩=some (.int .i64 m.kind)∧w.cell? ⟨g,2,none⟩=some (.int .i64 m.id)∧w.cell? ⟨g,3,none⟩=some (.int .i64 m.node)∧w.cell? ⟨g,4,none⟩=some (.int .i64 m.gen)∧w.cell? ⟨g,5,none⟩=some (.int .i64 m.stamp)∧w.cell? ⟨g,6,none⟩=some (.int .u64 m.epoch)∧w.cell? ⟨g,7,none⟩=some (.int .i64 m.err)∧w.cell? ⟨g,8,none⟩=some lv∧OwnS o 0 w 47 3 lv m.locks.length (lkcells m.locks):=by
 obtain ⟨_,vs,h1,h2,h3⟩:=h
 obtain ⟨lv,rfl⟩:∃lv,vs = [lv]:=by
  match vs,h1 with
  | [lv],_=>exact ⟨lv,rfl⟩
 obtain ⟨A,cap,rfl,_⟩:=own_form' h2
 obtain ⟨g,rfl,hlt,hc⟩:=h2.addr (by show 0<1;omega)
 have h2':OwnS o c w 40 9 (.slice (some ⟨g,0,none⟩) 1 cap) 1 [.int .i64 a, .int .i64 m.kind, .int .i64 m.id, .int .i64 m.node, .int .i64 m.gen, .int .i64 m.stamp, .int .u64 m.epoch, .int .i64 m.err,lv]:=h2
 exact ⟨g,cap,lv,rfl,hc,h2'.at_ (j:=0) rfl,h2'.at_ (j:=1) rfl,h2'.at_ (j:=2) rfl,h2'.at_ (j:=3) rfl,h2'.at_ (j:=4) rfl,h2'.at_ (j:=5) rfl,h2'.at_ (j:=6) rfl,h2'.at_ (j:=7) rfl,h2'.at_ (j:=8) rfl,h3 ((a,m),lv) (List.mem_cons_self ..)⟩
def nz : Nat→Prop:=fun x=>x≠0
def o0 : Nat→Nat:=fun _=>0
theorem futZ (w:World):Fut o0 w:=fun _ _=>rfl
theorem Step.below0 {o':Nat→Nat} {C:Nat→Prop} {w w':World} (h:Step o0 C w o' w') (h0:¬C 0):Below w.heap.size w w':=h.below (fun _ _=>h0) (Nat.le_refl _)
def epl (n:Nat):List Value:=(.int .u64 0) :: (List.range n).map (fun i => .int .u64 ((3+i:Nat):Int))
theorem epl_succ (n:Nat):epl (n+1)=epl n ++ [.int .u64 ((3+n:Nat):Int)]:=by
 unfold epl
 rw [List.range_succ,List.map_append]
 rfl
theorem futZ_of {o':Nat→Nat} {C:Nat→Prop} {w w':World} (h:Step o0 C w o' w'):Fut o' w':=fun k hk=>h.fut k hk
def disk53 (o:Nat→Nat):Nat→Nat:=fun k=>if (53≤o k∧o k≤58)∨o k=999 then o k else 0
theorem disk53_in {o:Nat→Nat} {k x:Nat} (h:o k=x) (hx:(53≤x∧x≤58)∨x=999∨x=0):disk53 o k=x:=by
 unfold disk53
 split
 ·exact h
 ·omega
theorem disk53_32 (o:Nat→Nat) (k:Nat):disk53 o k≠32:=by
 unfold disk53
 split <;> omega
theorem step_disk {o o':Nat→Nat} {C:Nat→Prop} {w w':World} (hb:∀k,o k=0∨o k=999) (h:Step o C w o' w'):Step o C w (disk53 o') w' :=
 ⟨h.os,h.tape,h.output,h.size,fun k hk=>disk53_in (h.old k hk) (by have:=hb k;omega),fun k hk=>disk53_in (h.fut k hk) (by have:=hb k;omega),h.block⟩
def KeepC (d:Nat) (o:Nat→Nat) (w:World) (g:Nat) (t:TypeId) (cs:Array Value):Prop:=Blk w g t cs∧o g=d
section
variable {o o':Nat→Nat} {C:Nat→Prop} {w w':World} {g d:Nat} {t:TypeId} {cs:Array Value}
theorem KeepC.step (h:KeepC d o w g t cs) (hs:Step o C w o' w') (h0:¬C d):KeepC d o' w' g t cs:=⟨h.1.step hs (by rw [h.2];exact h0),(hs.old g h.1.lt).trans h.2⟩
theorem KeepC.alloc (h:KeepC d o w g t cs) (x:Obj):KeepC d o (w.alloc x) g t cs:=⟨h.1.alloc x,h.2⟩
theorem cell_alloc {p:Addr} {v:Value} (h:w.cell? p=some v) (x:Obj):(w.alloc x).cell? p=some v:=(World.cell?_alloc_some w p x (by rw [h];rfl)).trans h
end
set_option maxRecDepth 100000 in
set_option maxHeartbeats 32000000 in
theorem join_any (w:World) {n:Nat} (hn:1≤n∧n≤3):Calls Tryz.prog 15 #[.int .i64 (n:Nat)] w fun e w'=>∃s p v,e = .returned (.tuple #[.pointer (some ⟨p,0,none⟩), .agg #[.int .i64 3, .int .i64 12, .int .i64 12, .int .i64 6, .int .i64 32], .pointer (some ⟨s,0,none⟩),v, .bool true])∧∃o',SvRun o' 10 w' s n (joinN p n)∧OwnS o' 1000 w' 34 1 v (n+1) (epl n)∧Step o0 nz w o' w':=by
 obtain ⟨i0,hi0,hz0,hz1,hz2⟩:=info_parts info_u64
 obtain ⟨oX,hqX,hsX⟩:=alloc_as o0 w (.cells #[.int .i64 0, .int .i64 0, .int .i64 0, .int .i64 0, .int .i64 0] 27) 999
 have hbX:∀k,oX k=0∨oX k=999:=fun k=>by
  by_cases h1:k<w.heap.size
  ·exact .inl (hsX.old k h1)
  ·by_cases h2:k=w.heap.size
   ·exact .inr (h2▸hqX)
   ·exact .inl (hsX.fut k (by simp;omega))
 have HBX:=Lib.hid hbX
 have HX:=Lib.hid (show KeepC 999 oX (w.alloc (.cells #[.int .i64 0, .int .i64 0, .int .i64 0, .int .i64 0, .int .i64 0] 27)) w.heap.size 27 #[.int .i64 0, .int .i64 0, .int .i64 0, .int .i64 0, .int .i64 0] from ⟨Blk.new _ _ _,hqX⟩)
 have HF:=Lib.hid (show Fut oX (w.alloc (.cells #[.int .i64 0, .int .i64 0, .int .i64 0, .int .i64 0, .int .i64 0] 27)) from futZ_of hsX)
 have HS:=Lib.hid (hsX.mono (D:=nz) (fun _ h=>h.elim))
 clear hqX hsX hbX
 have hnI:(n:Int)≤3:=by omega
 go_enter Tryz.func15,Tryz.ntmps15
 go_wp2_with fail
 generalize w.alloc (.cells #[.int .i64 0, .int .i64 0, .int .i64 0, .int .i64 0, .int .i64 0] 27)=W at HX HF HS ⊢
 obtain ⟨gX,hgX⟩:∃gX,w.heap.size=gX:=⟨_,rfl⟩
 rw [hgX] at HX ⊢
 have HGX:=Lib.hid hgX
 clear hgX
 refine (ready21_any (o:=oX) (cd:=53) (cr:=60) HF.out (by omega) (by omega)).mono ?_
 rintro e w1 ⟨p,r,rfl,o1,hd1,hs1⟩
 have hs1':=step_disk HBX.out hs1
 have hnr:∀x,readyW 53 60 x→(53≤x∧x≤61):=fun x=>by unfold readyW six logL;omega
 have hd1':DiskAt (disk53 o1) 53 w1 p fmtD:=hd1.recolor (fun x h2 h3 k hk=>disk53_in hk (by omega))
 have hX1:KeepC 999 (disk53 o1) w1 gX 27 _:=HX.out.step hs1' (fun h=>by have:=hnr _ h;omega)
 have hF1:Fut (disk53 o1) w1:=HF.out.step hs1'
 have HX1:=Lib.hid (hX1.alloc (.cells #[.int .i64 3, .int .i64 12, .int .i64 12, .int .i64 6, .int .i64 32] 27))
 have HF1:=Lib.hid (hF1.alloc (.cells #[.int .i64 3, .int .i64 12, .int .i64 12, .int .i64 6, .int .i64 32] 27))
 have HY1:=Lib.hid (Keep.new hF1 27 #[.int .i64 3, .int .i64 12, .int .i64 12, .int .i64 6, .int .i64 32])
 have HD1:=Lib.hid (hd1'.alloc (.cells #[.int .i64 3, .int .i64 12, .int .i64 12, .int .i64 6, .int .i64 32] 27))
 have HS1:=Lib.hid ((HS.out.trans (hs1'.mono (D:=nz) (fun x hx h0=>by have:=hnr x hx;omega))).alloc (.cells #[.int .i64 3, .int .i64 12, .int .i64 12, .int .i64 6, .int .i64 32] 27))
 have HFR1:=Lib.hid (disk53_32 o1)
 generalize disk53 o1=o2 at *
 clear hd1 hs1 hs1' hnr hd1' hX1 hF1
 go_upto_region 2 with (fail)
 generalize w1.alloc (.cells #[.int .i64 3, .int .i64 12, .int .i64 12, .int .i64 6, .int .i64 32] 27)=W1 at HX1 HF1 HY1 HD1 HS1 ⊢
 obtain ⟨gY,hgY⟩:∃gY,w1.heap.size=gY:=⟨_,rfl⟩
 rw [hgY] at HY1 ⊢
 clear hgY
 obtain ⟨y0,y1,y2,y3,y4⟩:=HY1.out.1.five
 have HNW:=Lib.hid (vnew_any (c:=10) HD1.out HF1.out (by omega) (fun k _=>HFR1.out k) (fmtD_dv.1.calm) fmtD_dv.1.empty (by rw [fmtD_dv.1.last];omega) 1 (by omega))
 go_wp2_with fail
 refine HNW.out.mono ?_
 rintro e w2 ⟨s,o3,rfl,hv2,hs2⟩
 have h0n:¬svC 10 0:=by unfold svC;omega
 have hnz:∀x,svC 10 x→nz x:=fun x hx h0=>h0n (h0▸hx)
 have HSV:=Lib.hid h0n
 have HNZ:=Lib.hid hnz
 obtain ⟨hj0,hok0⟩:=joinN_ok p 0 (by omega)
 have HV2:=Lib.hid (show SvRun o3 10 w2 s 0 (joinN p 0) from ⟨hv2,HF1.out.step hs2,hok0,hj0.q.out⟩)
 have HX2:=Lib.hid (HX1.out.step hs2 (by unfold svC;omega))
 have HY2:=Lib.hid (HY1.out.step hs2 h0n)
 have HS2:=Lib.hid (HS1.out.trans (hs2.mono hnz))
 obtain ⟨o4,hq4,hs4⟩:=alloc_as o3 w2 (.cells #[.int .u64 0] 34) 1000
 have HV4:=Lib.hid (HV2.out.step hs4 (fun _ _=>id) id)
 have HX4:=Lib.hid (HX2.out.step hs4 id)
 have HY4:=Lib.hid (HY2.out.step hs4 id)
 have HS4:=Lib.hid (HS2.out.trans (hs4.mono (fun _ h=>h.elim)))
 have HE4:=Lib.hid (show OwnS o4 1000 (w2.alloc (.cells #[.int .u64 0] 34)) 34 1 (.slice (some ⟨w2.heap.size,0,none⟩) 1 1) 1 (epl 0) from OwnS.of_blk (Blk.new _ _ _) hq4 (by omega) (by unfold maxLen;omega) rfl rfl)
 clear hv2 hs2 hj0 hok0 hq4 hs4 h0n hnz y0 y1 y2 y3 y4 HV2 HX2 HY2 HNW
 go_upto_region 7 with (fail)
 go_wp2_with fail
 generalize w2.alloc (.cells #[.int .u64 0] 34)=W2 at HV4 HX4 HY4 HS4 HE4 ⊢
 generalize w2.heap.size=gE at HE4 ⊢
 go_loopg [13,14] n (fun r t13 t14 wr=>∃(i:Nat) (oL:Nat→Nat),r+i=n∧t14 = .int .i64 ((i:Int)+1)∧SvRun oL 10 wr s i (joinN p i)∧OwnS oL 1000 wr 34 1 t13 (i+1) (epl i)∧KeepC 999 oL wr gX 27 #[.int .i64 0, .int .i64 0, .int .i64 0, .int .i64 0, .int .i64 0]∧Keep oL wr gY 27 #[.int .i64 3, .int .i64 12, .int .i64 12, .int .i64 6, .int .i64 32]∧Step o0 nz w oL wr)
 case atStart=>exact ⟨0,o4,by omega,rfl,HV4.out,HE4.out,HX4.out,HY4.out,HS4.out⟩
 case round =>
  obtain ⟨i,oL,hni,rfl,hv,he,hx,hy,hst⟩:=hrel
  have HNI:=Lib.hid hni
  have HV:=Lib.hid hv
  have HE:=Lib.hid he
  have HXI:=Lib.hid hx
  have HYI:=Lib.hid hy
  have HST:=Lib.hid hst
  clear hni hv he hx hy hst HV4 HE4 HX4 HY4 HS4
  by_cases hlt:i<n
  ·have hiI:(i:Int)+1≤(n:Int):=by omega
   have HTK:=Lib.hid (show Calls Tryz.prog 16 #[.pointer (some ⟨s,0,none⟩), .int .i64 ((i:Int)+1), .agg #[.int .i64 1, .int .i64 0, .int .i64 0, .int .i64 0, .int .i64 1, .int .u64 0, .int .i64 0, .slice none 0 0]] wr _ from HV.out.take (k:=i+1) (m:=hi 1) (lv := .slice none 0 0) (by omega) (by omega) (by omega) (OwnS.nil _ _ _ _ _) (hi_ok (by omega)) rfl (.inl rfl) (fun h=>absurd h (by decide)))
   go_wp2_with fail
   refine HTK.out.mono ?_
   rintro e w5 ⟨v,rfl,o5,hv5,ho5,hs5⟩
   rw [joinN_said p i (by omega)] at ho5
   obtain ⟨g,cap,lv,rfl,hg0,c0,c1,c2,c3,c4,c5,c6,c7,c8,hlv⟩:=ho5.one
   have HV5:=Lib.hid (show SvRun o5 10 w5 s (i+1) (joinN p (i+1)) from hv5)
   have HE5:=Lib.hid (HE.out.step hs5 (by unfold svC;omega))
   have HX5:=Lib.hid (HXI.out.step hs5 (by unfold svC;omega))
   have HY5:=Lib.hid (HYI.out.step hs5 HSV.out)
   have HS5:=Lib.hid (HST.out.trans (hs5.mono HNZ.out))
   clear hv5 ho5 hs5 HTK HV HE HXI HYI HST
   obtain ⟨A,capE,hvE,_⟩:=own_form' HE5.out
   subst hvE
   have HRD:=Lib.hid (Reads.newAt w5 34 1 1 _ #[.int .u64 ((3+i:Nat):Int)] _ rfl rfl rfl)
   have e6:(2+i+1:Nat)=3+i:=by omega
   rw [e6] at c6
   go_wp2_with (at_builtin;refine wpList_append_S _ rfl (.tmp 68) (.tmp 74) 29 rfl 34 i0 _ 1 8 Tryz.underlying29 hi0 hz0 hz1 hz2 rfl (by omega) (.slice A (i+1) capE) (i+1) (epl i) rfl (HE5.out.alloc (.cells #[.int .u64 ((3+i:Nat):Int)] 34)) (some ⟨w5.heap.size,0,none⟩) 1 1 [.int .u64 ((3+i:Nat):Int)] rfl HRD.out (by simp [Value.oneCell']) (by unfold maxLen;omega) (by omega) ?_;intro v7 w7 hown7 hst7 hgr7 hat7)
   have hal:Below w5.heap.size w5 (w5.alloc (.cells #[.int .u64 ((3+i:Nat):Int)] 34)):=(Below.refl _ _).alloc (Nat.le_refl _) _
   have HV7:=Lib.hid ((HV5.out.step (Step.of_below o5 (fun _=>False) hal) (fun _ _=>id) id).step hst7 (fun x hx=>by unfold svC at hx;unfold only;omega) (by unfold only;omega))
   have HX7:=Lib.hid ((HX5.out.alloc (.cells #[.int .u64 ((3+i:Nat):Int)] 34)).step hst7 (by unfold only;omega))
   have HY7:=Lib.hid ((HY5.out.alloc (.cells #[.int .u64 ((3+i:Nat):Int)] 34)).step hst7 (by unfold only;omega))
   have HS7:=Lib.hid ((HS5.out.alloc (.cells #[.int .u64 ((3+i:Nat):Int)] 34)).trans (hst7.mono (D:=nz) (fun x hx=>by unfold only at hx;unfold nz;omega)))
   have HE7:=Lib.hid ((epl_succ i).symm▸hown7)
   clear hal hown7 hst7 hgr7 hat7
   go_wp2_with fail
   go_roundg (n - (i+1))
   case measure=>have:=HNI.out;omega
   case rel=>exact ⟨i+1,_,by omega,by go_num,HV7.out,HE7.out,HX7.out,HY7.out,HS7.out⟩
  ·have hiI:¬(i:Int)+1≤(n:Int):=by omega
   obtain rfl:i=n:=by have:=HNI.out;omega
   obtain ⟨y0,y1,y2,y3,y4⟩:=HYI.out.1.five
   obtain ⟨x0,x1,x2,x3,x4⟩:=HXI.out.1.five
   have f0:=HXI.out.1.frozen 0
   have f1:=HXI.out.1.frozen 1
   have f2:=HXI.out.1.frozen 2
   have f3:=HXI.out.1.frozen 3
   have f4:=HXI.out.1.frozen 4
   obtain ⟨A,capE,hvE,_⟩:=own_form' HE.out
   subst hvE
   go_wp2_with fail
   go_region
   have S5:=((((((Step.refl oL (only 999) wr).setCell (p:=⟨gX,0,none⟩) HXI.out.2 (.int .i64 3)).setCell (p:=⟨gX,1,none⟩) HXI.out.2 (.int .i64 12)).setCell (p:=⟨gX,2,none⟩) HXI.out.2 (.int .i64 12)).setCell (p:=⟨gX,3,none⟩) HXI.out.2 (.int .i64 6)).setCell (p:=⟨gX,4,none⟩) HXI.out.2 (.int .i64 32)).drew
   have HX15:=Lib.hid ((HXI.out.1.put5 (.int .i64 3) (.int .i64 12) (.int .i64 12) (.int .i64 6) (.int .i64 32)).drew)
   have HV15:=Lib.hid (HV.out.step S5 (fun x hx=>by unfold svC at hx;unfold only;omega) (by unfold only;omega))
   have HE15:=Lib.hid (HE.out.step S5 (by unfold only;omega))
   have HT15:=Lib.hid (HST.out.trans (S5.mono (D:=nz) (fun x hx=>by unfold only at hx;unfold nz;omega)))
   clear S5 x0 x1 x2 x3 x4 y0 y1 y2 y3 y4 f0 f1 f2 f3 f4
   generalize ((((((wr).setCell ⟨gX,0,none⟩ (.int .i64 3)).setCell ⟨gX,1,none⟩ (.int .i64 12)).setCell ⟨gX,2,none⟩ (.int .i64 12)).setCell ⟨gX,3,none⟩ (.int .i64 6)).setCell ⟨gX,4,none⟩ (.int .i64 32)).drew=WE at HX15 HV15 HE15 HT15 ⊢
   obtain ⟨q0,q1,q2,q3,q4⟩:=HX15.out.five
   go_wp2_with fail
   exact bodyPost_ret (v := .tuple #[.pointer (some ⟨p,0,none⟩), .agg #[.int .i64 3, .int .i64 12, .int .i64 12, .int .i64 6, .int .i64 32], .pointer (some ⟨s,0,none⟩), .slice A (i+1) capE, .bool true]) (by simp [results,Tryz.results15,go_sem,q0,q1,q2,q3,q4]) rfl ⟨s,p,_,rfl,oL,HV15.out,HE15.out,HT15.out⟩
theorem stateOf_nat {S:Sv} {k:Nat} (h:1≤k∧k≤S.n):S.stateOf (k:Int)=(S.peers k).state:=by
 unfold Sv.stateOf
 rw [if_pos (show S.is (k:Int) by unfold Sv.is;omega),Int.toNat_natCast]
set_option maxRecDepth 100000 in
set_option maxHeartbeats 32000000 in
theorem alive_any (w:World):Calls Tryz.prog 14 #[] w fun e w'=>e = .returned (.bool true)∧Below w.heap.size w w':=by
 have HW:=Lib.hid (Step.refl o0 nz w)
 go_enter Tryz.func14,Tryz.ntmps14
 go_wp2_with fail
 refine (ready21_any (o:=o0) (cd:=53) (cr:=60) (futZ w) (by omega) (by omega)).mono ?_
 rintro e w1 ⟨p,r,rfl,o1,hd1,hs1⟩
 have hs1':=step_disk (fun _ => .inl rfl) hs1
 have hnr:∀x,readyW 53 60 x→(53≤x∧x≤61):=fun x=>by unfold readyW six logL;omega
 have hd1':DiskAt (disk53 o1) 53 w1 p fmtD:=hd1.recolor (fun x h2 h3 k hk=>disk53_in hk (by omega))
 have hF1:Fut (disk53 o1) w1:=(futZ w).step hs1'
 have HF1:=Lib.hid (hF1.alloc (.cells #[.int .i64 3, .int .i64 12, .int .i64 12, .int .i64 6, .int .i64 32] 27))
 have HY1:=Lib.hid (Keep.new hF1 27 #[.int .i64 3, .int .i64 12, .int .i64 12, .int .i64 6, .int .i64 32])
 have HD1:=Lib.hid (hd1'.alloc (.cells #[.int .i64 3, .int .i64 12, .int .i64 12, .int .i64 6, .int .i64 32] 27))
 have HS1:=Lib.hid ((HW.out.trans (hs1'.mono (D:=nz) (fun x hx h0=>by have:=hnr x hx;omega))).alloc (.cells #[.int .i64 3, .int .i64 12, .int .i64 12, .int .i64 6, .int .i64 32] 27))
 have HFR1:=Lib.hid (disk53_32 o1)
 generalize disk53 o1=o2 at *
 clear hd1 hs1 hs1' hnr hd1' hF1
 go_upto_region 2 with (fail)
 generalize w1.alloc (.cells #[.int .i64 3, .int .i64 12, .int .i64 12, .int .i64 6, .int .i64 32] 27)=W1 at HF1 HY1 HD1 HS1 ⊢
 obtain ⟨gY,hgY⟩:∃gY,w1.heap.size=gY:=⟨_,rfl⟩
 rw [hgY] at HY1 ⊢
 clear hgY
 obtain ⟨y0,y1,y2,y3,y4⟩:=HY1.out.1.five
 have HNW:=Lib.hid (vnew_any (c:=10) HD1.out HF1.out (by omega) (fun k _=>HFR1.out k) (fmtD_dv.1.calm) fmtD_dv.1.empty (by rw [fmtD_dv.1.last];omega) 1 (by omega))
 go_wp2_with fail
 refine HNW.out.mono ?_
 rintro e w2 ⟨s,o3,rfl,hv2,hs2⟩
 have h0n:¬svC 10 0:=by unfold svC;omega
 have hnz:∀x,svC 10 x→nz x:=fun x hx h0=>h0n (h0▸hx)
 have HSV:=Lib.hid h0n
 have HNZ:=Lib.hid hnz
 obtain ⟨hj0,hok0⟩:=joinN_ok p 0 (by omega)
 have HV2:=Lib.hid (show SvRun o3 10 w2 s 0 (joinN p 0) from ⟨hv2,HF1.out.step hs2,hok0,hj0.q.out⟩)
 have HS2:=Lib.hid (HS1.out.trans (hs2.mono hnz))
 have HTK:=Lib.hid (show Calls Tryz.prog 16 #[.pointer (some ⟨s,0,none⟩), .int .i64 1, .agg #[.int .i64 1, .int .i64 0, .int .i64 0, .int .i64 0, .int .i64 1, .int .u64 0, .int .i64 0, .slice none 0 0]] w2 _ from HV2.out.take (k:=1) (m:=hi 1) (lv := .slice none 0 0) (by omega) (by omega) (by omega) (OwnS.nil _ _ _ _ _) (hi_ok (by omega)) rfl (.inl rfl) (fun h=>absurd h (by decide)))
 clear hv2 hs2 hj0 hok0 h0n hnz y0 y1 y2 y3 y4 HNW HV2 HF1 HY1 HD1 HS1
 go_wp2_with fail
 refine HTK.out.mono ?_
 rintro e w5 ⟨v,rfl,o5,hv5,ho5,hs5⟩
 have hsd:=joinN_said p 0 (by omega)
 have ho5':OutsAt o5 0 w5 v ((joinN p 0).take ((0+1:Nat):Int) (hi 1)).1:=ho5
 rw [hsd] at ho5'
 obtain ⟨g,cap,lv,rfl,hg0,c0,c1,c2,c3,c4,c5,c6,c7,c8,hlv⟩:=ho5'.one
 have HV5:=Lib.hid (show SvRun o5 10 w5 s 1 (joinN p 1) from hv5)
 have HS5:=Lib.hid (HS2.out.trans (hs5.mono HNZ.out))
 have b6:w5.cell? ⟨g,6,none⟩=some (.int .u64 3):=c6
 have b1:w5.cell? ⟨g,1,none⟩=some (.int .i64 2):=c1
 have d6:(w5.alloc (.cells #[.int .i64 0, .int .i64 5, .int .i64 2] 47)).cell? ⟨g,6,none⟩=some (.int .u64 3):=(cell_alloc c6 _)
 clear hv5 ho5 ho5' hs5 HTK HS2 hsd hlv c8 c0 c1 c2 c3 c4 c5 c6 c7
 have hfl:=HV5.out.fut
 have hal:Below w5.heap.size w5 (w5.alloc (.cells #[.int .i64 0, .int .i64 5, .int .i64 2] 47)):=(Below.refl _ _).alloc (Nat.le_refl _) _
 have HV6:=Lib.hid (HV5.out.step (Step.of_below o5 (fun _=>False) hal) (fun _ _=>id) id)
 have HS6:=Lib.hid (HS5.out.trans (Step.of_below o5 nz hal))
 have HL6:=Lib.hid (show OwnS o5 0 (w5.alloc (.cells #[.int .i64 0, .int .i64 5, .int .i64 2] 47)) 47 3 (.slice (some ⟨w5.heap.size,0,none⟩) 1 1) 1 (lkcells [lk5]) from OwnS.of_blk (Blk.new _ _ _) (hfl _ (Nat.le_refl _)) (by omega) (by unfold maxLen;omega) rfl rfl)
 obtain ⟨q1,q2,q3⟩:=alive_said p
 have hgen:(joinN p 1).gen=1:=(joinN_ok p 1 (by omega)).1.gen
 have hkp:(joinN p 1).kept = []:=(joinN_ok p 1 (by omega)).1.q.kept
 have HTK2:=Lib.hid (show Calls Tryz.prog 16 #[.pointer (some ⟨s,0,none⟩), .int .i64 1, .agg #[.int .i64 5, .int .i64 4, .int .i64 0, .int .i64 1, .int .i64 0, .int .u64 3, .int .i64 0, .slice (some ⟨w5.heap.size,0,none⟩) 1 1]] (w5.alloc (.cells #[.int .i64 0, .int .i64 5, .int .i64 2] 47)) _ from HV6.out.take (k:=1) (m:=acqM 4 3 1 lk5) (by omega) (by omega) (by omega) HL6.out (acqM_ok (by unfold sm;omega) (by unfold sm;omega) (by decide)) rfl (.inr hgen.symm) (fun _=>hkp))
 clear hfl hal hgen hkp HV5 HS5 HL6
 go_wp2_with fail
 refine HTK2.out.mono ?_
 rintro e w7 ⟨v,rfl,o7,hv7,ho7,hs7⟩
 rw [q1] at ho7
 obtain ⟨g7,cap7,lv7,rfl,hg7,e0,e1,e2,e3,e4,e5,e6,e7,e8,hlv7⟩:=ho7.one
 obtain ⟨S7,hS7⟩:∃S7,((joinN p 1).take ((1:Nat):Int) (acqM 4 3 1 lk5)).2=S7:=⟨_,rfl⟩
 rw [hS7] at hv7 q2 q3
 have HV7:=Lib.hid hv7
 have HS7:=Lib.hid (HS6.out.trans (hs7.mono HNZ.out))
 have hn7:=hv7.ok.n
 obtain ⟨P7,hP7⟩:=hv7.at_
 have hst7:S7.stateOf 1=1:=by
  show S7.stateOf ((1:Nat):Int)=1
  rw [stateOf_nat (by rw [hn7];omega)]
  exact q2
 have HST:=Lib.hid (show Calls Tryz.prog 18 #[.pointer (some ⟨s,0,none⟩), .int .i64 1] w7 (fun e w'=>e = .returned (.int .i64 1)∧w'=w7) from by
  have hh:=vState_any hP7 1
  rw [hst7] at hh
  exact hh)
 have HRD:=Lib.hid (show Calls Tryz.prog 21 #[.pointer (some ⟨s,0,none⟩)] w7 (fun e w'=>e = .returned (.bool true)∧Below w7.heap.size w7 w') from by
  have hh:=vReady_any hP7
  rw [q3] at hh
  exact hh)
 clear hv7 ho7 hs7 HTK2 HV6 HS6 hn7 hst7 q1 q2 q3 hP7 e8 hlv7
 go_wp2_with fail
 refine HST.out.mono ?_
 rintro e w8 ⟨rfl,rfl⟩
 go_wp2_with fail
 refine HRD.out.mono ?_
 rintro e w9 ⟨rfl,hb9⟩
 have HS9:=Lib.hid (HS7.out.trans (Step.of_below _ nz hb9))
 clear hb9
 go_wp2_with fail
 go_ret
 exact ⟨rfl,HS9.out.below0 (fun h=>h rfl)⟩
structure OneC (w:World) (g:Nat) (a:Int) (m:Mg):Prop where
 c0:w.cell? ⟨g,0,none⟩=some (.int .i64 a)
 c1:w.cell? ⟨g,1,none⟩=some (.int .i64 m.kind)
 c2:w.cell? ⟨g,2,none⟩=some (.int .i64 m.id)
 c3:w.cell? ⟨g,3,none⟩=some (.int .i64 m.node)
 c4:w.cell? ⟨g,4,none⟩=some (.int .i64 m.gen)
 c5:w.cell? ⟨g,5,none⟩=some (.int .i64 m.stamp)
 c6:w.cell? ⟨g,6,none⟩=some (.int .u64 m.epoch)
 c7:w.cell? ⟨g,7,none⟩=some (.int .i64 m.err)
theorem OutsAt.cs {o:Nat→Nat} {c:Nat} {w:World} {g n cap:Nat} {a:Int} {m:Mg} (h:OutsAt o c w (.slice (some ⟨g,0,none⟩) n cap) [(a,m)]):OneC w g a m:=by
 obtain ⟨g',cap',lv,e,_,c0,c1,c2,c3,c4,c5,c6,c7,_⟩:=h.one
 have hg:g=g':=by
  injection e with e1
  injection e1 with e1
  injection e1
 subst hg
 exact ⟨c0,c1,c2,c3,c4,c5,c6,c7⟩
theorem SvRun.disk {o:Nat→Nat} {c:Nat} {w:World} {s n:Nat} {S:Sv} (h:SvRun o c w s n S):DiskAt o (c+43) w S.dp S.D:=by
 obtain ⟨P,ha⟩:=h.at_
 have:=ha.rest.disk
 rwa [ha.rest.nodes.2.2] at this
theorem SvRun.epoch {o:Nat→Nat} {c:Nat} {w:World} {s n p k e:Nat} {S:Sv} (h:SvRun o c w s n S) (hp:S.dp=p) (hk:k≤16) (he:S.D.table k=e):Calls Tryz.prog 17 #[.pointer (some ⟨p,0,none⟩), .int .i64 (k:Int)] w fun r w'=>r = .returned (.int .u64 e)∧w'=w:=by
 have hd:=h.disk
 rw [hp] at hd
 refine (depoch_any hd k hk).mono fun r w' hh=>⟨?_,hh.2.symm⟩
 rw [hh.1,he]
theorem SvRun.state {o:Nat→Nat} {c:Nat} {w:World} {s n k:Nat} {st:Int} {S:Sv} (h:SvRun o c w s n S) (hk:1≤k∧k≤3) (hs:(S.peers k).state=st):Calls Tryz.prog 18 #[.pointer (some ⟨s,0,none⟩), .int .i64 (k:Int)] w fun r w'=>r = .returned (.int .i64 st)∧w'=w:=by
 obtain ⟨P,ha⟩:=h.at_
 have hh:=vState_any ha (k:Int)
 rw [stateOf_nat (by rw [h.ok.n];exact hk),hs] at hh
 exact hh
theorem epl_get {n k:Nat} (h:1≤k∧k≤n):(epl n)[k]? = some (.int .u64 ((2+k:Nat):Int)):=by
 obtain ⟨j,rfl⟩:∃j,k=j+1:=⟨k - 1,by omega⟩
 unfold epl
 rw [List.getElem?_cons_succ,List.getElem?_map,List.getElem?_range (by omega)]
 show some (Value.int .u64 ((3+j:Nat):Int))=_
 rw [show 3+j=2+(j+1) by omega]
theorem SvRun.drewN {o:Nat→Nat} {c:Nat} {w:World} {s n:Nat} {S:Sv} (h:SvRun o c w s n S) (q:Nat):SvRun o c (w.drewN q) s n S:=h.step (Step.of_below o (fun _=>False) (below_drewN w q)) (fun _ _=>id) id
theorem SvRun.below_ {o:Nat→Nat} {c:Nat} {w w':World} {s n:Nat} {S:Sv} (h:SvRun o c w s n S) (hb:Below w.heap.size w w'):SvRun o c w' s n S:=h.step (Step.of_below o (fun _=>False) hb) (fun _ _=>id) id
theorem right_of {L:Lk} (h:0≤L.a∧L.a<L.b∧L.b≤4096∧L.m=2):rightB L=true:=by
 unfold rightB
 refine decide_eq_true ⟨?_,h.2.2.1, .inr h.2.2.2⟩
 unfold Sp.ok Lk.sp
 dsimp only
 omega
theorem SvRun.word {o:Nat→Nat} {c:Nat} {w:World} {s n p k e:Nat} {S:Sv} (h:SvRun o c w s n S) (hp:S.dp=p) (hk:k≤16) (he:S.D.words k=e):Calls Tryz.prog 19 #[.pointer (some ⟨p,0,none⟩), .int .i64 (k:Int)] w fun r w'=>r = .returned (.int .u64 e)∧w'=w:=by
 have hd:=h.disk
 rw [hp] at hd
 refine (dword_any hd k hk).mono fun r w' hh=>⟨?_,hh.2.symm⟩
 rw [hh.1,he]
theorem SvRun.word1 {o:Nat→Nat} {c:Nat} {w:World} {s n p e:Nat} {S:Sv} (h:SvRun o c w s n S) (hp:S.dp=p) (he:S.D.words 1=e):Calls Tryz.prog 19 #[.pointer (some ⟨p,0,none⟩), .int .i64 1] w fun r w'=>r = .returned (.int .u64 e)∧w'=w:=h.word (k:=1) hp (by omega) he
end Go.Proofs.YtohgabdmmbngbaaGreatDoor
