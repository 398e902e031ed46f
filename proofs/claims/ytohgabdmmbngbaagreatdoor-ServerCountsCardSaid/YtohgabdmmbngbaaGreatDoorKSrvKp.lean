import Derived.Test.YtohgabdmmbngbaaGreatDoorKWin
import Derived.ChangeArms
import Derived.Deep.Slices
import Derived.Test.YtohgabdmmbngbaaGreatDoorKMsgA
import Derived.Test.YtohgabdmmbngbaaGreatDoorKSrvJe
set_option linter.unusedVariables false
set_option linter.unusedSimpArgs false
namespace Go.Proofs.YtohgabdmmbngbaaGreatDoor
open Go.ChangeShapes Go.WideShapes Go.ChangeAt Go.RowKit Go.Joins Go.Deep
inductive Leaf where
 | int (k:IntKind)
 | str
 | bool
 | slice (t:TypeId)
def leavesF (P:Program) (L:TypeId→Option (List Leaf)):List Field→List Leaf→Option (List Leaf)
 | [],acc=>some acc
 | f :: fs,acc=>if f.offset=acc.length then (match L f.type with
   | some l=>if l.length=P.cellsOf f.type then leavesF P L fs (acc++l) else none
   | none=>none) else none
def leaves (P:Program):Nat→TypeId→Option (List Leaf)
 | 0,_=>none
 | n+1,t=>match P.underlying t with
   | some (.int k)=>some [.int k]
   | some .string=>some [.str]
   | some .bool=>some [.bool]
   | some (.slice _)=>some [.slice t]
   | some (.struct fs)=>match leavesF P (leaves P n) fs.toList [] with
     | some l=>if l.length=P.cellsOf t then some l else none
     | none=>none
   | _=>none
section
variable {H:Type} (enc:TypeId×Value→H) (P:Program) (w:World) (base:Nat) (spare:Nat→Bool) (held:Bool)
def LeafOk : Leaf→Value→Prop
 | .int k,v=>∃a,v = .int k a∧(Lit.int k a).wf=true
 | .str,v=>∃s:ByteArray,v = .string s∧s.size≤maxLen
 | .bool,v=>∃b,v = .bool b
 | .slice t,v=>∃fuel x,DataW.trod enc P w base spare held fuel t [v]=some x
def LeavesOk (ls:List Leaf) (cs:List Value):Prop:=ls.length=cs.length∧∀(i:Nat) l c,ls[i]? = some l→cs[i]? = some c→LeafOk enc P w base spare held l c
end
section
variable {H:Type} {enc:TypeId×Value→H} {P:Program} {w:World} {base:Nat} {spare:Nat→Bool} {held:Bool}
theorem LeavesOk.cons {l:Leaf} {ls:List Leaf} {cs:List Value} (h:LeavesOk enc P w base spare held (l :: ls) cs):∃c cs',cs=c :: cs'∧LeafOk enc P w base spare held l c∧LeavesOk enc P w base spare held ls cs':=by
 obtain ⟨h1,h2⟩:=h
 cases cs with
 | nil=>simp at h1
 | cons c cs=>exact ⟨c,cs,rfl,h2 0 l c rfl rfl,by simpa using h1,fun i l' c' h3 h4=>h2 (i+1) l' c' (by simpa using h3) (by simpa using h4)⟩
theorem LeavesOk.nil {cs:List Value} (h:LeavesOk enc P w base spare held [] cs):cs = []:=List.eq_nil_of_length_eq_zero h.1.symm
theorem leavesF_ok {n:Nat} {L:TypeId→Option (List Leaf)} {cs:List Value} (hL:∀t ds x ls,DataW.trod enc P w base spare held n t ds=some x→L t=some ls→LeavesOk enc P w base spare held ls ds) :
 ∀(fs:List Field) (acc ls:List Leaf),(∀f∈fs,∃y,DataW.trod enc P w base spare held n f.type ((cs.drop f.offset).take (P.cellsOf f.type))=some y) →
  (∀(i:Nat) l c,acc[i]? = some l→cs[i]? = some c→LeafOk enc P w base spare held l c)→leavesF P L fs acc=some ls→∀(i:Nat) l c,ls[i]? = some l→cs[i]? = some c→LeafOk enc P w base spare held l c
 | [],acc,ls,_,ha,h=>by
   simp only [leavesF,Option.some.injEq] at h
   subst h
   exact ha
 | f :: fs,acc,ls,hf,ha,h=>by
   simp only [leavesF] at h
   split at h
   ·rename_i hoff
    split at h
    ·rename_i l hl
     split at h
     ·rename_i hk
      refine leavesF_ok hL fs (acc++l) ls (fun g hg=>hf g (List.mem_cons_of_mem _ hg)) ?_ h
      intro i lf c h1 h2
      by_cases hi:i<acc.length
      ·rw [List.getElem?_append_left hi] at h1
       exact ha i lf c h1 h2
      ·rw [List.getElem?_append_right (by omega)] at h1
       obtain ⟨y,hy⟩:=hf f (List.mem_cons_self ..)
       have hlt:=(List.getElem?_eq_some_iff.1 h1).1
       refine (hL _ _ _ _ hy hl).2 (i - acc.length) lf c h1 ?_
       rw [List.getElem?_take,if_pos (by omega),List.getElem?_drop,←h2]
       congr 1
       omega
     ·cases h
    ·cases h
   ·cases h
theorem leaves_ok : ∀(n:Nat) (t:TypeId) (fuel:Nat) (cs:List Value) (x:DataW H×List MemPlace) (ls:List Leaf),DataW.trod enc P w base spare held fuel t cs=some x→leaves P n t=some ls→LeavesOk enc P w base spare held ls cs
 | 0,_,_,_,_,_,_,h=>by cases h
 | n+1,t,fuel,cs,x,ls,hx,h=>by
   have one:∀ {l:Leaf} {c:Value},LeafOk enc P w base spare held l c→LeavesOk enc P w base spare held [l] [c]:=by
    intro l c hc
    refine ⟨rfl,fun i l' c' h1 h2 => ?_⟩
    cases i with
    | zero=>simp at h1 h2;subst h1 h2;exact hc
    | succ i=>simp at h1
   simp only [leaves] at h
   split at h
   ·rename_i k hu
    injection h with h
    subst h
    obtain ⟨a,rfl,_,hw⟩:=DataW.trod_int hu hx
    exact one ⟨a,rfl,hw⟩
   ·rename_i hu
    injection h with h
    subst h
    obtain ⟨s,rfl,_,hw⟩:=DataW.trod_string hu hx
    exact one ⟨s,rfl,hw⟩
   ·rename_i hu
    injection h with h
    subst h
    obtain ⟨b,rfl,_⟩:=DataW.trod_bool hu hx
    exact one ⟨b,rfl⟩
   ·rename_i e hu
    injection h with h
    subst h
    rcases open_slice hu hx with ⟨rfl,_⟩ | ⟨a,len,cap,m,k,D,Pl,rfl,_⟩
    ·exact one ⟨fuel,x,hx⟩
    ·exact one ⟨fuel,x,hx⟩
   ·rename_i fs hu
    obtain ⟨xs,k,rfl,_,hlen,hxl,hg⟩:=DataW.trod_struct hu hx
    split at h
    ·rename_i l hl
     split at h
     ·rename_i hc
      injection h with h
      subst h
      refine ⟨by rw [hc,hlen],leavesF_ok (n:=k) (fun t ds y ls' h1 h2=>leaves_ok n t k ds y ls' h1 h2) fs.toList [] l (fun f hf => ?_) (fun i l c h1=>by simp at h1) hl⟩
      obtain ⟨i,hi,rfl⟩:=List.mem_iff_getElem.1 hf
      have hi2:i<xs.length:=by rw [hxl];simpa using hi
      exact ⟨xs[i],(hg i _ (by simp at hi;simp [hi])).trans (List.getElem?_eq_getElem hi2)⟩
     ·cases h
    ·cases h
   ·cases h
end
end Go.Proofs.YtohgabdmmbngbaaGreatDoor
namespace Go.Proofs.YtohgabdmmbngbaaGreatDoor
open Go.ChangeShapes Go.WideShapes Go.ChangeAt Go.RowKit Go.Joins Go.Deep
theorem leaves_lk : leaves Tryz.prog 6 47=some [.int .i64, .int .i64, .int .i64]:=by kernel_rfl
section
variable {H:Type} {enc:TypeId×Value→H} {w:World} {base:Nat} {spare:Nat→Bool} {held:Bool}
set_option maxRecDepth 100000 in
theorem open_lock {r:Reach} {b0:Nat} {v:Value} {d:DataW H} {p:List MemPlace} (hv:Value.okWide Tryz.prog w r b0 47 v) (h:DataW.Trod enc Tryz.prog w base spare held 47 v d p) :
 ∃l:Lk,v = .agg #[.int .i64 l.a, .int .i64 l.b, .int .i64 l.m]:=by
 obtain ⟨cs,rfl,_⟩:=okWide_struct Tryz.underlying47 hv
 obtain ⟨fuel,hf⟩:=h
 have hl:=leaves_ok 6 47 fuel _ _ _ hf leaves_lk
 obtain ⟨l⟩:=cs
 have hl':LeavesOk enc Tryz.prog w base spare held [.int .i64, .int .i64, .int .i64] l:=hl
 obtain ⟨c0,r0,rfl,⟨a0,rfl,_⟩,k0⟩:=hl'.cons
 obtain ⟨c1,r1,rfl,⟨a1,rfl,_⟩,k1⟩:=k0.cons
 obtain ⟨c2,r2,rfl,⟨a2,rfl,_⟩,k2⟩:=k1.cons
 obtain rfl:=k2.nil
 exact ⟨⟨a0,a1,a2⟩,rfl⟩
end
end Go.Proofs.YtohgabdmmbngbaaGreatDoor
namespace Go.Proofs.YtohgabdmmbngbaaGreatDoor
open Go.RowKit
structure Bs (dp:Nat) (S:Sv) (T:Tb) (t wd:Nat→Nat) (l:Nat):Prop where
 up:S.down=false
 out:S.out = []
 kept:S.kept = []
 granted:S.granted = []
 n:S.n=3
 gen:S.gen=1
 dp:S.dp=dp
 T:S.T=T
 dv:Dv S.D t wd l
def hold1 (j:Nat) (L:Lk):Tb:=(Tb.zero 3).hold j [L]
def wait1 (j k:Nat) (L:Lk):Tb := {hold1 j L with waits := [⟨1,(k:Nat),L⟩],last:=1}
def letGo (L:Lk):Lk:=⟨L.a,L.b,0⟩
theorem hold1_at (j:Nat) (L:Lk):(hold1 j L).held j = [L]:=if_pos rfl
theorem hold1_off {j i:Nat} (L:Lk) (h:i≠j):(hold1 j L).held i = []:=if_neg h
section
variable {S:Sv} {t wd:Nat→Nat} {l dp j k:Nat} {L:Lk}
theorem Bs.qs {T:Tb} (h:Bs dp S T t wd l) (hs:∀i,i<17→(S.peers i).state=0∨(S.peers i).state=1∨(S.peers i).state=2):Qs S:=⟨h.up,h.out,h.kept,h.granted,hs,h.n⟩
theorem lk_eta (hm:L.m=2):L=⟨L.a,L.b,2⟩:=by
 cases L
 simp at hm
 rw [hm]
theorem wait_revokes (hr:rightB L=true) (hm:L.m=2) (hj:1≤j∧j≤3) (hk:1≤k∧k≤3) (hjk:j≠k):(wait1 j k L).revokes = [((j:Int),letGo L)]:=by
 obtain ⟨h1,h2,h3⟩:=right_m hr
 have hf:fitB 2 L.m=false:=by rw [hm];decide
 have e0:revokedL ((wait1 j k L).held j) L [] = [letGo L]:=by
  show revokedL ((hold1 j L).held j) L []=_
  rw [hold1_at]
  have:=revoked_self (l:=L) h1 (m:=2) hf
  rw [←lk_eta hm] at this
  rw [this,hm]
  rfl
 have en:∀i,i≠j→(wait1 j k L).held i = []:=fun i hi=>hold1_off L hi
 have hn:∀(R:Rv) (i:Nat),i≠j→Rv.node (wait1 j k L) ⟨1,(k:Nat),L⟩ R i=R:=fun R i hi=>by
  unfold Rv.node
  split
  ·rfl
  ·rw [en i hi]
   rfl
 have hy:Rv.node (wait1 j k L) ⟨1,(k:Nat),L⟩ ⟨[],fun _ => []⟩ j=Rv.add j ⟨[],fun _ => []⟩ (letGo L):=by
  unfold Rv.node
  rw [if_neg (show ¬((j:Nat):Int)=((k:Nat):Int) by omega)]
  show (revokedL ((wait1 j k L).held j) L []).foldl (Rv.add j) ⟨[],fun _ => []⟩=_
  rw [e0]
  rfl
 unfold Tb.revokes
 show (Rv.wait (wait1 j k L) ⟨[],fun _ => []⟩ ⟨1,(k:Nat),L⟩).out=_
 unfold Rv.wait
 rw [show (wait1 j k L).nodes=3 from rfl,show List.range 3 = [0,1,2] from rfl]
 show (Rv.node (wait1 j k L) ⟨1,(k:Nat),L⟩ (Rv.node (wait1 j k L) ⟨1,(k:Nat),L⟩ (Rv.node (wait1 j k L) ⟨1,(k:Nat),L⟩ ⟨[],fun _ => []⟩ 1) 2) 3).out=_
 rcases (show j=1∨j=2∨j=3 by omega) with rfl | rfl | rfl
 ·rw [hy,hn _ 2 (by omega),hn _ 3 (by omega)]
  rfl
 ·rw [hn _ 1 (by omega),hy,hn _ 3 (by omega)]
  rfl
 ·rw [hn _ 1 (by omega),hn _ 2 (by omega),hy]
  rfl
theorem wait_step (h:Bs dp S (hold1 j L) t wd l) (hs:∀i,i<17→(S.peers i).state=0∨(S.peers i).state=1) (hj:1≤j∧j≤3) (hk:1≤k∧k≤3) (hjk:j≠k) (hsj:(S.peers j).state=1) (htj:(S.peers j).told = []) (hsk:(S.peers k).state=1) {ep:Nat} (he:t k=ep) (h0:ep≠0) {id:Int} (hi:sm id) (hr:rightB L=true) (hm:L.m=2) :
 ∃S',S.take (k:Nat) (acqM id ep 1 L)=([((j:Int),{Mg.zero with kind:=8,gen:=1,epoch:=(S.peers j).epoch,locks := [letGo L]})],S')∧Bs dp S' (wait1 j k L) t wd l∧S'.ids=upd S.ids 1 id∧S'.peers=(fun i=>if i=j then {S.peers j with told := [letGo L]} else S.peers i)∧S'.L=S.L∧S'.now=S.now∧S'.stamp=S.stamp:=by
 have e1:S.take (k:Nat) (acqM id ep 1 L)=(S.takes k (acqM id ep 1 L)).end_:=take_eq h.up (by rw [h.n];exact hk) (acqM_ok hi (by unfold sm;omega) hr) rfl (.inr h.gen.symm)
 have hf:fitB 2 L.m=false:=by rw [hm];decide
 have ha:S.T.ask (k:Nat) L=((1,false,0),wait1 j k L):=by
  rw [h.T]
  have:=ask_waits (T:=hold1 j L) (k:=k) (l:=L) (by unfold Tb.is;show (1:Int)≤k∧(k:Int)≤(3:Nat);omega) hr (hold1_off L (fun e=>hjk e.symm)) (j:=j) hj (by omega) (m:=2) (by rw [hold1_at,←lk_eta hm]) hf (dead_nil rfl) (by show 0<1000;omega)
  rw [this]
  rfl
 have e2:S.takes k (acqM id ep 1 L) = {S with T:=wait1 j k L,ids:=upd S.ids 1 id}:=by
  unfold Sv.takes Sv.live Sv.acquire
  rw [if_neg (show ¬(acqM id ep 1 L).kind=1 by show ¬(5:Int)=1;decide),if_neg (show ¬(acqM id ep 1 L).kind=13 by show ¬(5:Int)=13;decide),if_neg (by show ¬ ¬(ep≠0∧ep=S.D.table k);rw [h.dv.tab,he];simp [h0]),if_neg (by show ¬((5:Int)=11∧_);omega),if_pos hsk,if_neg (show ¬(acqM id ep 1 L).kind=3 by show ¬(5:Int)=3;decide),if_pos (show (acqM id ep 1 L).kind=5 from rfl),if_pos (ready_of hs)]
  show (if (S.T.ask (k:Nat) L).1.2.1=true then _ else if (S.T.ask (k:Nat) L).1.2.2=0 then {S with T:=(S.T.ask (k:Nat) L).2,ids:=upd S.ids (S.T.ask (k:Nat) L).1.1 id} else _)=_
  rw [ha]
  rfl
 obtain ⟨B,hB⟩:∃B:Sv,B = {S with T:=wait1 j k L,ids:=upd S.ids 1 id}:=⟨_,rfl⟩
 have hBp:B.peers=S.peers:=by rw [hB]
 have hBT:B.T=wait1 j k L:=by rw [hB]
 have b1:B.back=B:=back_id (fun i hi=>by rw [hBp];have:=hs i hi;omega)
 have hBn:B.n=3:=by rw [hB];exact h.n
 have b2:B.lost=B:=lost_id (fun i _ hn=>by
  rw [hBp]
  have:=hs i (by omega)
  omega)
 have b3:B.serve=B:=serve_id (by rw [hB];exact h.kept)
 have b4:B.give=B:=give_id (by rw [hB];exact h.granted)
 have b5:B.revoke=B.revoke1 ((j:Int),letGo L):=revoke_one (by rw [hBT];exact wait_revokes hr hm hj hk hjk)
 have b6:B.revoke1 ((j:Int),letGo L)=(B.peer j {S.peers j with told := [letGo L]}).tell j {Mg.zero with kind:=8,locks := [letGo L]}:=by
  unfold Sv.revoke1
  rw [if_neg]
  ·show (B.peer (Int.toNat (j:Nat)) {B.peers (Int.toNat (j:Nat)) with told:=letGo L :: (B.peers (Int.toNat (j:Nat))).told}).tell (Int.toNat (j:Nat)) _=_
   rw [Int.toNat_natCast,hBp,htj]
  ·show ¬(letGo L∈(B.peers (Int.toNat (j:Nat))).told∨(B.peers (Int.toNat (j:Nat))).state≠1)
   rw [Int.toNat_natCast,hBp,htj,hsj]
   simp
 obtain ⟨C,hC⟩:∃C,C=(B.peer j {S.peers j with told := [letGo L]}).tell j {Mg.zero with kind:=8,locks := [letGo L]}:=⟨_,rfl⟩
 have e3:B.end_=(C.out,{C with out := [],granted := []}):=by
  unfold Sv.end_
  rw [b1,b2,b3,b4,b5,b6,←hC,if_neg]
  rw [hC,hB]
  show ¬S.down=true
  rw [h.up]
  decide
 have ho:C.out = [((j:Int),{Mg.zero with kind:=8,gen:=1,epoch:=(S.peers j).epoch,locks := [letGo L]})]:=by
  rw [hC,hB]
  show S.out ++ [((j:Int),{({Mg.zero with kind:=8,locks := [letGo L]}:Mg) with gen:=S.gen,epoch:=(if j=j then ({S.peers j with told := [letGo L]}:Pe) else S.peers j).epoch})]=_
  rw [h.out,h.gen,if_pos rfl]
  rfl
 rw [e1,e2,←hB]
 refine ⟨{C with out := [],granted := []},by rw [e3,ho],⟨?_,rfl,?_,rfl,?_,?_,?_,?_,?_⟩,?_,?_,?_,?_,?_⟩
 ·rw [hC,hB];exact h.up
 ·rw [hC,hB];exact h.kept
 ·rw [hC,hB];exact h.n
 ·rw [hC,hB];exact h.gen
 ·rw [hC,hB];exact h.dp
 ·rw [hC,hB];rfl
 ·rw [hC,hB];exact h.dv
 ·rw [hC,hB];rfl
 ·rw [hC,hB];rfl
 ·rw [hC,hB];rfl
 ·rw [hC,hB];rfl
 ·rw [hC,hB];rfl
theorem end_give {w:Wq} (hd:S.down=false) (ho:S.out = []) (hs:∀i,i<17→(S.peers i).state=0∨(S.peers i).state=1∨(S.peers i).state=2) (hn:S.n≤16) (hk:S.kept = []) (hg:S.granted = [w]) (hw:S.T.waits = []) (hwk:w.node=((k:Nat):Int)) :
 S.end_=([((k:Int),{Mg.zero with kind:=6,id:=(S.ids w.id).getD 0,gen:=S.gen,epoch:=(S.peers k).epoch,locks := [w.l]})],{S with out := [],granted := [],ids:=del S.ids w.id,peers:=fun i=>if i=k then {S.peers k with grants:=(S.peers k).grants+1} else S.peers i}):=by
 have b1:S.back=S:=back_id (fun i hi=>by have:=hs i hi;omega)
 have b2:S.lost=S:=lost_id (fun i _ h2=>by have:=hs i (by omega);omega)
 have b4:S.give=S.give1 w:=give_one hg
 have b6:S.give1 w = {(S.peer k {S.peers k with grants:=(S.peers k).grants+1}).tell k {Mg.zero with kind:=6,id:=(S.ids w.id).getD 0,locks := [w.l]} with ids:=del S.ids w.id}:=by
  unfold Sv.give1 Sv.grant
  rw [hwk,Int.toNat_natCast]
 obtain ⟨C,hC⟩:∃C:Sv,C = {(S.peer k {S.peers k with grants:=(S.peers k).grants+1}).tell k {Mg.zero with kind:=6,id:=(S.ids w.id).getD 0,locks := [w.l]} with ids:=del S.ids w.id}:=⟨_,rfl⟩
 have b5:C.revoke=C:=revoke_id (by rw [hC];exact waits_revokes hw)
 have hoC:C.out = [((k:Int),{Mg.zero with kind:=6,id:=(S.ids w.id).getD 0,gen:=S.gen,epoch:=(S.peers k).epoch,locks := [w.l]})]:=by
  rw [hC]
  show S.out ++ [((k:Int),{({Mg.zero with kind:=6,id:=(S.ids w.id).getD 0,locks := [w.l]}:Mg) with gen:=S.gen,epoch:=(if k=k then ({S.peers k with grants:=(S.peers k).grants+1}:Pe) else S.peers k).epoch})]=_
  rw [ho,if_pos rfl]
  rfl
 unfold Sv.end_
 rw [b1,b2,serve_id hk,b4,b6,←hC,b5,if_neg (by rw [hC];show ¬S.down=true;rw [hd];decide),hoC]
 rw [hC]
 rfl
def byeM (ep:Nat):Mg := {Mg.zero with kind:=14,epoch:=ep,gen:=1}
theorem byeM_ok (ep:Nat):(byeM ep).ok:=by
 unfold Mg.ok sm byeM Mg.zero
 simp
def held1 (k:Nat) (L:Lk):Tb := {hold1 k L with last:=1}
theorem drop_wait (hj:1≤j∧j≤3) (hjk:j≠k):(wait1 j k L).drop (j:Nat)=([⟨1,(k:Nat),L⟩],held1 k L):=by
 unfold Tb.drop
 rw [if_pos (show (wait1 j k L).is (j:Nat) by unfold Tb.is;show (1:Int)≤j∧(j:Int)≤(3:Nat);omega)]
 have e:({(wait1 j k L).hold (Int.toNat (j:Nat)) [] with waits:=(wait1 j k L).waits.filter (fun w => !decide (w.node=((j:Nat):Int)))}:Tb)=⟨3,fun _ => [],[⟨1,(k:Nat),L⟩],1⟩:=by
  have hw:(wait1 j k L).waits.filter (fun w => !decide (w.node=((j:Nat):Int))) = [⟨1,(k:Nat),L⟩]:=by
   show List.filter _ [(⟨1,(k:Nat),L⟩:Wq)]=_
   rw [List.filter_cons_of_pos]
   ·rfl
   ·show (!decide (((k:Nat):Int)=((j:Nat):Int)))=true
    rw [decide_eq_false (by omega)]
    rfl
  rw [hw,Int.toNat_natCast]
  show (⟨3,fun i=>if i=j then [] else if i=j then [L] else [],[⟨1,(k:Nat),L⟩],1⟩:Tb)=_
  congr 1
  funext i
  by_cases h:i=j
  ·rw [if_pos h]
  ·rw [if_neg h,if_neg h]
 rw [e,grant_one (T:=⟨3,fun _ => [],[⟨1,(k:Nat),L⟩],1⟩) (w:=⟨1,(k:Nat),L⟩) rfl rfl (fun _ _ _=>rfl)]
 rfl
theorem bye_step (h:Bs dp S (wait1 j k L) t wd l) (hs:∀i,i<17→(S.peers i).state=0∨(S.peers i).state=1) (hj:1≤j∧j≤3) (hk:1≤k∧k≤3) (hjk:j≠k) (hsj:(S.peers j).state=1) (hhj:(S.peers j).hello = -1) {ep:Nat} (he:t j=ep) (h0:ep≠0) {id:Int} (hid:S.ids 1=some id) :
 ∃S',S.take (j:Nat) (byeM ep)=([((k:Int),{Mg.zero with kind:=6,id:=id,gen:=1,epoch:=(S.peers k).epoch,locks := [L]})],S')∧Bs dp S' (held1 k L) (set1 t j 0) (set1 wd j 0) l∧S'.peers=(fun i=>if i=k then {S.peers k with grants:=(S.peers k).grants+1} else if i=j then Pe.away else S.peers i):=by
 have e1:S.take (j:Nat) (byeM ep)=(S.takes j (byeM ep)).end_:=take_eq h.up (by rw [h.n];exact hj) (byeM_ok ep) rfl (.inr h.gen.symm)
 obtain ⟨f1,f2⟩:=h.dv.fence (k:=j) (by omega)
 obtain ⟨D2,hd2,el⟩:=leave_dv (S := {S with D:=(S.D.fence (j:Nat)).2}) (k:=j) f2 (by omega)
 have e2:S.takes j (byeM ep)=({S with D:=(S.D.fence (j:Nat)).2}:Sv).leave j:=by
  unfold Sv.takes Sv.live
  rw [if_neg (show ¬(byeM ep).kind=1 by show ¬(14:Int)=1;decide),if_neg (show ¬(byeM ep).kind=13 by show ¬(14:Int)=13;decide),if_neg (by show ¬ ¬(ep≠0∧ep=S.D.table j);rw [h.dv.tab,he];simp [h0]),if_neg (by show ¬((14:Int)=11∧_);omega),if_pos hsj,if_neg (show ¬(byeM ep).kind=3 by show ¬(14:Int)=3;decide),if_neg (show ¬(byeM ep).kind=5 by show ¬(14:Int)=5;decide),if_neg (show ¬(byeM ep).kind=15 by show ¬(14:Int)=15;decide),if_neg (show ¬(byeM ep).kind=9 by show ¬(14:Int)=9;decide),if_pos (show (byeM ep).kind=14 from rfl),if_pos f1]
 have ef:({S with D:=D2,L:=(S.L.drop j).2}:Sv).forget (j:Nat) = {S with D:=D2,L:=(S.L.drop j).2}:=forget_id h.kept (fun w hw=>by
  have hw':w∈S.T.waits:=hw
  rw [h.T] at hw'
  rw [List.mem_singleton.1 hw']
  show ((k:Nat):Int)≠((j:Nat):Int)
  omega)
 have eg:({S with D:=D2,L:=(S.L.drop j).2}:Sv).gone j = {S with D:=D2,L:=(S.L.drop j).2,T:=held1 k L,granted := [⟨1,(k:Nat),L⟩],peers:=fun i=>if i=j then Pe.away else S.peers i}:=by
  have hdr:({S with D:=D2,L:=(S.L.drop j).2}:Sv).T.drop (j:Nat)=([⟨1,(k:Nat),L⟩],held1 k L):=by
   show S.T.drop (j:Nat)=_
   rw [h.T]
   exact drop_wait hj hjk
  unfold Sv.gone Sv.peer
  rw [hdr]
  dsimp only
  rw [h.granted]
  rfl
 have el2:({S with D:=(S.D.fence (j:Nat)).2}:Sv).leave j = {S with D:=D2,L:=(S.L.drop j).2,T:=held1 k L,granted := [⟨1,(k:Nat),L⟩],peers:=fun i=>if i=j then Pe.away else S.peers i}:=by
  rw [el,if_pos hhj]
  exact (congrArg (fun x:Sv=>x.gone j) ef).trans eg
 obtain ⟨B,hB⟩:∃B:Sv,B = {S with D:=D2,L:=(S.L.drop j).2,T:=held1 k L,granted := [⟨1,(k:Nat),L⟩],peers:=fun i=>if i=j then Pe.away else S.peers i}:=⟨_,rfl⟩
 have hBp:∀i,B.peers i=if i=j then Pe.away else S.peers i:=fun i=>by rw [hB]
 have e3:=end_give (S:=B) (k:=k) (w:=⟨1,(k:Nat),L⟩) (by rw [hB];exact h.up) (by rw [hB];exact h.out) (fun i hi=>by
  rw [hBp]
  split
  ·exact .inl rfl
  ·have:=hs i hi
   omega) (by rw [hB];show S.n≤16;rw [h.n];omega) (by rw [hB];exact h.kept) (by rw [hB]) (by rw [hB];rfl) rfl
 have hBk:B.peers k=S.peers k:=by rw [hBp,if_neg (fun e=>hjk e.symm)]
 rw [e1,e2,el2,←hB,e3]
 refine ⟨{B with out := [],granted := [],ids:=del B.ids (1:Int),peers:=fun i=>if i=k then {B.peers k with grants:=(B.peers k).grants+1} else B.peers i},?_,⟨by rw [hB];exact h.up,rfl,by rw [hB];exact h.kept,rfl,by rw [hB];exact h.n,by rw [hB];exact h.gen,by rw [hB];exact h.dp,by rw [hB],by rw [hB];exact hd2⟩,?_⟩
 ·rw [hBk,show B.gen=1 by rw [hB];exact h.gen,show B.ids 1=some id by rw [hB];exact hid]
  rfl
 ·show (fun i=>if i=k then ({B.peers k with grants:=(B.peers k).grants+1}:Pe) else B.peers i)=_
  rw [hBk]
  funext i
  by_cases hi:i=k
  ·rw [if_pos hi,if_pos hi]
  ·rw [if_neg hi,if_neg hi,hBp]
end
theorem first_holds (dp:Nat) {n:Nat} (hn:1≤n∧n≤3) {L:Lk} (hr:rightB L=true) {id:Int} (hi:sm id):∃S1 t wd,(joinN dp n).take ((1:Nat):Int) (acqM id 3 1 L)=([(((1:Nat):Int),{Mg.zero with kind:=6,id:=id,gen:=1,epoch:=3,locks := [L]})],S1)∧Bs dp S1 (hold1 1 L) t wd (2+n)∧(∀i,1≤i→i≤16→t i=(if i≤n then 2+i else 0)∧wd i=(if i≤n then 2+i else 0))∧S1.peers=(fun i=>if i=1 then {peJ n 1 with grants:=1} else peJ n i)∧S1.ids=(fun _=>none)∧S1.now=0∧S1.stamp=0∧S1.L=(joinN dp n).L:=by
 obtain ⟨h,_⟩:=joinN_ok dp n hn.2
 obtain ⟨t,wd,hv,ht0,htw⟩:=h.dv
 have ht:=(htw 1 (by omega) (by omega)).1
 rw [if_pos hn.1] at ht
 have hp:(joinN dp n).peers 1=_:=(congrFun h.pe 1).trans (peJ_in (by omega) hn.2)
 have hst:∀i,((joinN dp n).peers i).state=0∨((joinN dp n).peers i).state=1:=fun i=>by
  rw [h.pe]
  unfold peJ
  split
  ·exact .inl rfl
  ·split
   ·exact .inr rfl
   ·exact .inl rfl
 obtain ⟨e,q⟩:=acquire_step (L:=L) (id:=id) (g:=1) h.q hv (k:=1) (by omega) (by rw [hp]) ht (by omega) (ready_of (fun i _=>hst i)) hi (by unfold sm;omega) h.gen.symm hr (by rw [h.T];rfl) (fun j=>by rw [h.T];rfl) (by rw [h.T];rfl)
 refine ⟨((joinN dp n).take ((1:Nat):Int) (acqM id 3 1 L)).2,t,wd,?_,?_,htw,?_,by rw [e];exact h.ids,by rw [e];exact h.now,by rw [e];exact h.st,by rw [e]⟩
 ·refine Prod.ext ?_ rfl
  rw [e,h.gen,hp]
 ·rw [e]
  refine ⟨h.q.up,h.q.out,h.q.kept,h.q.granted,h.q.n,h.gen,h.dp,?_,hv⟩
  show (joinN dp n).T.hold 1 [L]=_
  rw [h.T]
  rfl
 ·rw [e]
  show (fun i=>if i=1 then {(joinN dp n).peers 1 with grants:=((joinN dp n).peers 1).grants+1} else (joinN dp n).peers i)=_
  rw [h.pe,peJ_in (i:=1) (n:=n) (by omega) hn.2]
  rfl
theorem peJ_01 (n i:Nat):(peJ n i).state=0∨(peJ n i).state=1:=by
 unfold peJ
 split
 ·exact .inl rfl
 ·split
  ·exact .inr rfl
  ·exact .inl rfl
theorem bye_plain (dp:Nat) {L:Lk} (hr:rightB L=true) (hm:L.m=2):∃S1 S2 S3 S4 v1 v2,(joinN dp 2).take ((1:Nat):Int) (acqM 1 3 1 L)=(v1,S1)∧S1.take ((2:Nat):Int) (acqM 3 4 1 L)=(v2,S2)∧S2.take ((1:Nat):Int) (byeM 3)=([(((2:Nat):Int),{Mg.zero with kind:=6,id:=3,gen:=1,epoch:=4,locks := [L]})],S3)∧S3.take ((1:Nat):Int) (hi 1)=([(((1:Nat):Int),{Mg.zero with kind:=2,gen:=1,epoch:=5})],S4)∧S1.gen=1∧S2.gen=1∧S4.dp=dp∧S4.D.words 1=5:=by
 obtain ⟨S1,t,wd,e1,h1,htw,hp1,hi1,_⟩:=first_holds dp (n:=2) (by omega) hr (id:=1) (by unfold sm;omega)
 have ht1:t 1=3:=(htw 1 (by omega) (by omega)).1
 have ht2:t 2=4:=(htw 2 (by omega) (by omega)).1
 have hst1:∀i,(S1.peers i).state=0∨(S1.peers i).state=1:=fun i=>by
  rw [hp1]
  dsimp only
  split
  ·exact .inr rfl
  ·exact peJ_01 _ _
 have q1:S1.peers 1 = {peJ 2 1 with grants:=1}:=by rw [hp1];exact if_pos rfl
 have q2:S1.peers 2=peJ 2 2:=by rw [hp1];exact if_neg (by omega)
 obtain ⟨S2,e2,h2,hi2,hp2,_⟩:=wait_step h1 (fun i _=>hst1 i) (j:=1) (k:=2) (by omega) (by omega) (by omega) (by rw [q1];rfl) (by rw [q1];rfl) (by rw [q2];rfl) ht2 (by omega) (id:=3) (by unfold sm;omega) hr hm
 have r1:S2.peers 1 = {S1.peers 1 with told := [letGo L]}:=by rw [hp2];exact if_pos rfl
 have r2:S2.peers 2=S1.peers 2:=by rw [hp2];exact if_neg (by omega)
 have hst2:∀i,(S2.peers i).state=0∨(S2.peers i).state=1:=fun i=>by
  rw [hp2]
  dsimp only
  split
  ·exact hst1 1
  ·exact hst1 i
 obtain ⟨S3,e3,h3,hp3⟩:=bye_step h2 (fun i _=>hst2 i) (by omega) (by omega) (by omega) (by rw [r1,q1];rfl) (by rw [r1,q1];rfl) ht1 (by omega) (id:=3) (by rw [hi2];rfl)
 have s1:S3.peers 1=Pe.away:=by rw [hp3];rfl
 have hst3:∀i,(S3.peers i).state=0∨(S3.peers i).state=1:=fun i=>by
  rw [hp3]
  dsimp only
  split
  ·exact hst2 2
  ·split
   ·exact .inl rfl
   ·exact hst2 i
 have hr2:(S2.peers 2).epoch=4:=by rw [r2,q2];rfl
 rw [hr2] at e3
 obtain ⟨D',L',_,hd',e4,_⟩:=hello_step (h3.qs (fun i _=>by have:=hst3 i;omega)) h3.dv (k:=1) (by omega) (by rw [s1];rfl) (by rw [h3.T];rfl) (v:=1) (by omega)
 rw [h3.gen] at e4
 refine ⟨S1,S2,S3,_,_,_,e1,e2,e3,e4,h1.gen,h2.gen,h3.dp,?_⟩
 show D'.words 1=5
 rw [hd'.word]
 exact if_pos rfl
end Go.Proofs.YtohgabdmmbngbaaGreatDoor
