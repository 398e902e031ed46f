import Derived.Test.YtohgabdmmbngbaaGreatDoorKDiskF
import Derived.Test.YtohgabdmmbngbaaGreatDoorKMapK
import Derived.Test.YtohgabdmmbngbaaGreatDoorKApplyP
import Derived.Test.YtohgabdmmbngbaaGreatDoorKDisk
import Derived.Test.YtohgabdmmbngbaaGreatDoorKMsgA
import Derived.Maps.Keyed
import Derived.DeepKeys4
import Derived.Test.YtohgabdmmbngbaaGreatDoorKMsgC
set_option linter.unusedVariables false
set_option linter.unusedSimpArgs false
namespace Go.Proofs.YtohgabdmmbngbaaGreatDoor
open Go.RowKit
structure Pe where
 state:Int
 epoch:Nat
 life:Int
 hello:Int
 unknown:Bool
 by_:Int
 stamp:Int
 grants:Int
 told:List Lk
def Pe.zero : Pe:=⟨0,0,0,0,false,0,0,0,[]⟩
def Pe.away : Pe:=⟨0,0,-1,-1,false,0,0,0,[]⟩
structure Rq where
 node:Int
 m:Mg
structure Sv where
 sh:Nat×Nat×Nat×Nat×Nat
 gen:Int
 epoch:Nat
 now:Int
 down:Bool
 peers:Nat→Pe
 ids:Int→Option Int
 kept:List Rq
 granted:List Wq
 stamp:Int
 out:List (Int×Mg)
 D:Dk
 L:Le
 T:Tb
 dp:Nat
def Sv.n (S:Sv):Nat:=S.sh.1
def Sv.is (S:Sv) (node:Int):Prop:=1≤node∧node≤S.n
instance (S:Sv) (node:Int):Decidable (S.is node):=inferInstanceAs (Decidable (_∧_))
def Sv.peer (S:Sv) (i:Nat) (p:Pe):Sv := {S with peers:=fun k=>if k=i then p else S.peers k}
def Sv.check (S:Sv) (e:Int):Sv:=if e=0 then S else {S with down:=true}
def Sv.tell (S:Sv) (node:Nat) (m:Mg):Sv := {S with out:=S.out ++ [((node:Int),{m with gen:=S.gen,epoch:=(S.peers node).epoch})]}
def Sv.joined (S:Sv) (node:Nat) (life:Int) (ep:Nat):Sv :=
 ({S with L:=((S.L.drop node).2.renew node S.now).2}.peer node {Pe.away with state:=1,epoch:=ep,life:=life}).tell node {Mg.zero with kind:=2}
def Sv.join (S:Sv) (node:Nat) (life:Int):Sv :=
 if (S.D.put node (S.D.last+1)).1=0 then
  if ((S.D.put node (S.D.last+1)).2.admit node (S.D.last+1)).1=0 then {S with D:=((S.D.put node (S.D.last+1)).2.admit node (S.D.last+1)).2}.joined node life (S.D.last+1)
  else {S with D:=((S.D.put node (S.D.last+1)).2.admit node (S.D.last+1)).2,down:=true}
 else {S with D:=(S.D.put node (S.D.last+1)).2,down:=true}
def Sv.cancel (S:Sv) (id:Int):Sv := {S with T:=(S.T.cancel id).2,ids:=del S.ids id,granted:=S.granted++(S.T.cancel id).1.1}
def forget1 (node:Int) (S:Sv) (w:Wq):Sv:=if w.node=node then S.cancel w.id else S
def Sv.forget (S:Sv) (node:Int):Sv:=S.T.waits.foldl (forget1 node) {S with kept:=S.kept.filter (fun r => !decide (r.node=node))}
def Pe.lost (p:Pe):Pe := {p with unknown:=p.unknown || decide (p.state=2),state:=3}
def Sv.lose (S:Sv) (node:Nat):Sv :=
 {({S.peer node (S.peers node).lost with D:=(S.D.fence node).2}.check (S.D.fence node).1) with L:=(S.L.drop node).2}.forget node
def Sv.gone (S:Sv) (node:Nat):Sv := {S with T:=(S.T.drop node).2,granted:=S.granted++(S.T.drop node).1}.peer node Pe.away
def Sv.leave (S:Sv) (node:Nat):Sv :=
 if (S.D.put node 0).1=0 then
  if (S.peers node).hello = -1 then ({S with D:=(S.D.put node 0).2,L:=(S.L.drop node).2}.forget node).gone node
  else (({S with D:=(S.D.put node 0).2,L:=(S.L.drop node).2}.forget node).gone node).join node (S.peers node).hello
 else {S with D:=(S.D.put node 0).2,down:=true}
def Pe.open_ (p:Pe):Bool:=decide (p.state=2) || (decide (p.state>2) && p.unknown)
def Sv.ready (S:Sv):Bool := !((List.range 17).any (fun i=>(S.peers i).open_))
def Sv.least (S:Sv) (state:Int):Int:=(((List.range S.n).find? (fun i=>decide ((S.peers (i+1)).state=state))).map (fun i=>((i+1:Nat):Int))).getD 0
def Sv.redo (S:Sv) (node:Nat) (by_:Int):Sv :=
 {S.peer node {S.peers node with state:=4,by_:=by_,stamp:=S.stamp+1} with stamp:=S.stamp+1,out:=S.out ++ [(by_,{Mg.zero with kind:=12,node:=(node:Int),stamp:=S.stamp+1,gen:=S.gen,epoch:=S.D.words node})]}
def Sv.lost2 (S:Sv) (node:Nat) (R:ApR):Sv :=
 if R.e=0 then {S with D:=R.D}.leave node else if R.e=14∨R.e=34 then {S with D:=R.D,down:=true} else {S with D:=R.D}
def Sv.lost1 (S:Sv) (node:Nat):Sv :=
 if S.down=true then S
 else if (S.peers node).state≠3 then S
 else if S.least 1>0 then S.redo node (S.least 1)
 else if S.least 2>0 then S
 else S.lost2 node (runR S.D (node:Nat) (S.D.words node) 0 S.epoch)
def Sv.lost (S:Sv):Sv:=(List.range S.n).foldl (fun S i=>S.lost1 (i+1)) S
def Sv.grant (S:Sv) (node:Nat) (id:Int) (l:Lk):Sv :=
 (S.peer node {S.peers node with grants:=(S.peers node).grants+1}).tell node {Mg.zero with kind:=6,id:=id,locks := [l]}
def Sv.revoke1 (S:Sv) (r:Int×Lk):Sv :=
 if r.2∈(S.peers r.1.toNat).told∨(S.peers r.1.toNat).state≠1 then S
 else (S.peer r.1.toNat {S.peers r.1.toNat with told:=r.2 :: (S.peers r.1.toNat).told}).tell r.1.toNat {Mg.zero with kind:=8,locks := [r.2]}
def Sv.revoke (S:Sv):Sv:=S.T.revokes.foldl Sv.revoke1 S
def Sv.deny (S:Sv) (node:Nat) (id err:Int):Sv:=S.tell node {Mg.zero with kind:=7,id:=id,err:=err}
def Sv.acquire (S:Sv) (node:Nat) (m:Mg):Sv :=
 match m.locks with
 | [l] =>
   if (S.T.ask node l).1.2.1=true then {S with T:=(S.T.ask node l).2}.grant node m.id l
   else if (S.T.ask node l).1.2.2=0 then {S with T:=(S.T.ask node l).2,ids:=upd S.ids (S.T.ask node l).1.1 m.id}
   else {S with T:=(S.T.ask node l).2}.deny node m.id (S.T.ask node l).1.2.2
 | _=>S.deny node m.id 1
def Sv.back1 (S:Sv) (i:Nat):Sv:=if (S.peers i).state=4∧(S.peers (S.peers i).by_.toNat).state≠1 then S.peer i {S.peers i with state:=3} else S
def Sv.back (S:Sv):Sv:=(List.range 17).foldl Sv.back1 S
def Sv.serve (S:Sv):Sv:=if S.ready=true then S.kept.foldl (fun S r=>S.acquire r.node.toNat r.m) {S with kept := []} else S
def Sv.give1 (S:Sv) (w:Wq):Sv := {S.grant w.node.toNat ((S.ids w.id).getD 0) w.l with ids:=del S.ids w.id}
def Sv.give (S:Sv):Sv:=S.granted.foldl Sv.give1 S
def Sv.end_ (S:Sv):List (Int×Mg)×Sv :=
 (if S.back.lost.serve.give.revoke.down=true then [] else S.back.lost.serve.give.revoke.out,{S.back.lost.serve.give.revoke with out := [],granted := []})
def Sv.hello (S:Sv) (node:Nat) (life:Int):Sv :=
 if life<1 then S
 else if (S.peers node).state=0 then S.join node life
 else if (S.peers node).state=1∧(S.peers node).life=life then S.tell node {Mg.zero with kind:=2}
 else if (S.peers node).state=1∧(S.peers node).life>life then S
 else if (S.peers node).state=1∨(S.peers node).state=2 then (S.lose node).peer node {(S.lose node).peers node with hello:=max ((S.lose node).peers node).hello life}
 else S.peer node {S.peers node with hello:=max (S.peers node).hello life}
def Sv.recovered (S:Sv) (node:Nat) (m:Mg):Sv :=
 if ¬S.is m.node then S
 else if (S.peers m.node.toNat).state≠4∨(S.peers m.node.toNat).by_≠node∨(S.peers m.node.toNat).stamp≠m.stamp then S
 else if m.err=0 then S.leave m.node.toNat
 else S.peer m.node.toNat {S.peers m.node.toNat with state:=3}
def Sv.force (S:Sv) (node:Nat):List Lk→Sv×Bool
 | []=>(S,true)
 | l :: ls=>if (S.T.force node l).1=0 then {S with T:=(S.T.force node l).2}.force node ls else ({S with T:=(S.T.force node l).2},false)
def Sv.report (S:Sv) (node:Nat) (m:Mg):Sv :=
 if (S.force node m.locks).2=true then
  {(S.force node m.locks).1.peer node {(S.force node m.locks).1.peers node with state:=1,life := -1,grants:=0,told := []} with L:=((S.L.drop node).2.renew node S.now).2}
 else {(S.force node m.locks).1 with T:=((S.force node m.locks).1.T.drop node).2,granted:=(S.force node m.locks).1.granted++((S.force node m.locks).1.T.drop node).1}.lose node
def mineB (S:Sv) (node id:Int) (w:Wq):Bool:=decide (w.node=node∧(S.ids w.id).getD 0=id)
def Sv.takeBack (S:Sv) (node:Nat) (id:Int):Sv :=
 match S.T.waits.find? (mineB S node id) with
 | some w=>(S.cancel w.id).deny node id 35
 | none =>
   match S.kept.findIdx? (fun r=>decide (r.node=(node:Int)∧r.m.id=id)) with
   | some k => {S with kept:=S.kept.eraseIdx k}.deny node id 35
   | none=>S
def Sv.let1 (node:Nat) (S:Sv) (l:Lk):Sv := {S with T:=(S.T.release node l.sp l.m).2,granted:=S.granted++(S.T.release node l.sp l.m).1.1}
def Sv.released (S:Sv) (node:Nat) (m:Mg):Sv :=
 if m.stamp≠(S.peers node).grants then S.peer node {S.peers node with told := []}
 else m.locks.foldl (Sv.let1 node) (S.peer node {S.peers node with told := []})
def Sv.live (S:Sv) (node:Nat) (m:Mg):Sv :=
 if m.kind=3 then {S with L:=(S.L.renew node S.now).2}.tell node {Mg.zero with kind:=4,stamp:=m.stamp}
 else if m.kind=5 then if S.ready=true then S.acquire node m else {S with kept:=S.kept ++ [⟨node,m⟩]}
 else if m.kind=15 then S.takeBack node m.id
 else if m.kind=9 then S.released node m
 else if m.kind=14 then if (S.D.fence node).1=0 then {S with D:=(S.D.fence node).2}.leave node else {S with D:=(S.D.fence node).2,down:=true}
 else S
def upB (kind:Int):Bool:=decide (kind=1∨kind=3∨kind=5∨kind=9∨kind=11∨kind=13∨kind=14∨kind=15)
def Sv.takes (S:Sv) (node:Nat) (m:Mg):Sv :=
 if m.kind=1 then S.hello node m.stamp
 else if m.kind=13 then S.recovered node m
 else if ¬(m.epoch≠0∧m.epoch=S.D.table node) then S
 else if m.kind=11∧(S.peers node).state=2 then S.report node m
 else if (S.peers node).state=1 then S.live node m
 else S
def Sv.take (S:Sv) (node:Int) (m:Mg):List (Int×Mg)×Sv :=
 if S.down=true∨¬S.is node∨¬m.ok∨upB m.kind=false∨(m.kind≠1∧m.gen≠S.gen) then ([],S)
 else (S.takes node.toNat m).end_
def Sv.see1 (S:Sv) (node:Nat):Sv :=
 if S.D.table node≠0 then {S.peer node {Pe.away with state:=2,epoch:=S.D.table node} with L:=(S.L.renew node 0).2}
 else if S.D.words node≠0 then S.peer node {Pe.away with state:=3,unknown:=true}
 else S.peer node Pe.away
def Sv.new (dp:Nat) (D:Dk) (sh:Nat×Nat×Nat×Nat×Nat) (gen:Int):Sv :=
 ((List.range sh.1).foldl (fun (S:Sv) (i:Nat)=>S.see1 (i+1)) (Sv.mk sh gen (D.last+1) 0 false (fun _=>Pe.zero) (fun _=>none) [] [] 0 [] (D.admit 0 (D.last+1)).2 (Le.zero (2*sh.2.2.2.2)) (Tb.zero sh.1) dp)).lost
end Go.Proofs.YtohgabdmmbngbaaGreatDoor
namespace Go.Proofs.YtohgabdmmbngbaaGreatDoor
open Go.RowKit Go.MapKept
instance : DecidableEq Lk:=fun x y =>
 if h:x.a=y.a∧x.b=y.b∧x.m=y.m then isTrue (by
  obtain ⟨a,b,m⟩:=x
  obtain ⟨a2,b2,m2⟩:=y
  obtain ⟨rfl,rfl,rfl⟩:=h
  rfl)
 else isFalse (fun e=>h (by rw [e];exact ⟨rfl,rfl,rfl⟩))
def Lk.agg (l:Lk):Value := .agg #[.int .i64 l.a, .int .i64 l.b, .int .i64 l.m]
def Lk.small (l:Lk):Prop:=(0≤l.a∧l.a≤4096)∧(0≤l.b∧l.b≤4096)∧0≤l.m∧l.m≤4096
theorem lk_agg {x y:Lk} (h:x.agg=y.agg):x=y:=by
 obtain ⟨a,b,m⟩:=x
 obtain ⟨a2,b2,m2⟩:=y
 simp only [Lk.agg,Value.agg.injEq,Array.mk.injEq,List.cons.injEq,Value.int.injEq,true_and,and_true] at h
 obtain ⟨rfl,rfl,rfl⟩:=h
 rfl
theorem lock_wide : (match Tryz.prog.underlying 47 with | some (.array _ _) | some (.struct _)=>true | _=>false)=true:=by rw [Tryz.underlying47]
set_option maxRecDepth 100000 in
theorem lock_law : Go.WideMaps.KeyLaw Tryz.prog 47:=deep_law (m:=4) (by omega) (by kernel_rfl) (by kernel_rfl) lock_wide
theorem lock_keyed : Go.Maps.Keyed Tryz.prog 47:=Go.Maps.Keyed.of_law lock_law
theorem small_wf {a:Int} (h:0≤a∧a≤4096):(Lit.int .i64 a).wf=true:=by
 have h1:IntKind.i64.min = -9223372036854775808:=by kernel_rfl
 have h2:IntKind.i64.max=9223372036854775807:=by kernel_rfl
 show (decide (IntKind.i64.min≤a) && decide (a≤IntKind.i64.max))=true
 rw [h1,h2,Bool.and_eq_true]
 exact ⟨decide_eq_true (by omega),decide_eq_true (by omega)⟩
theorem lock_cells : Tryz.prog.cellsOf 47=3:=by kernel_rfl
theorem lock_kt : Tryz.prog.keyType 47=true:=by kernel_rfl
theorem lock_size : Tryz.prog.types.size=(Tryz.prog.types.size - 3)+3:=by kernel_rfl
theorem span_cells : Tryz.prog.cellsOf 45=2:=by kernel_rfl
theorem int_cells : Tryz.prog.cellsOf 3=1:=by kernel_rfl
theorem kl_int {d:Nat} {a:Int} (h:(Lit.int .i64 a).wf=true):Tryz.prog.keyLits (d+1) 3 [.int .i64 a]=some [.int .i64 a]:=by
 unfold Program.keyLits
 simp only [Tryz.underlying3]
 rw [if_pos ⟨trivial,h⟩]
theorem kl_span {d:Nat} {a b:Int} (h:(Lit.int .i64 a).wf=true) (h2:(Lit.int .i64 b).wf=true):Tryz.prog.keyLits (d+1+1) 45 [.int .i64 a, .int .i64 b]=some [.int .i64 a, .int .i64 b]:=by
 unfold Program.keyLits
 simp only [Tryz.underlying45]
 rw [if_pos (by rw [span_cells];exact ⟨rfl,by kernel_rfl⟩),List.mapM_cons,List.mapM_cons,List.mapM_nil,int_cells]
 simp only [List.drop_zero,List.take_succ_cons,List.take_zero,List.drop_succ_cons,kl_int h,kl_int h2]
 rfl
theorem lock_key {l:Lk} (h:l.small):∃x,keyOf Tryz.prog 47 l.agg=some x:=by
 have w1:=small_wf h.1
 have w2:=small_wf h.2.1
 have w3:=small_wf h.2.2
 refine ⟨.string (keyBytes [.int .i64 l.a, .int .i64 l.b, .int .i64 l.m]),?_⟩
 unfold keyOf
 simp only [Tryz.underlying47]
 rw [if_pos (by simp [lock_kt,Value.formed,Tryz.underlying47,lock_cells,Lk.agg]),lock_size]
 generalize Tryz.prog.types.size - 3=m
 unfold Program.keyLits
 simp only [Tryz.underlying47,Value.cells,Lk.agg]
 rw [if_pos (by rw [lock_cells];exact ⟨rfl,by kernel_rfl⟩),List.mapM_cons,List.mapM_cons,List.mapM_nil,int_cells,span_cells]
 simp only [List.drop_zero,List.take_succ_cons,List.take_zero,List.drop_succ_cons,kl_span w1 w2,kl_int w3]
 rfl
def MapL (o:Nat→Nat) (c:Nat) (w:World) (m:Nat) (f:List Lk):Prop :=
 o m=c∧∃es clock,w.heap[m]? = some (.map es clock)∧Stamped es clock∧(∀x∈es.toList,(∃l:Lk,l.small∧x.key=l.agg)∧x.val = .agg #[])∧∀l:Lk,l∈f↔∃x∈es.toList,x.key=l.agg
section
variable {o o':Nat→Nat} {c:Nat} {D:Nat→Prop} {w w':World} {m:Nat} {f:List Lk}
theorem MapL.lt (h:MapL o c w m f):m<w.heap.size:=by
 obtain ⟨_,es,clock,h1,_⟩:=h
 exact (Array.getElem?_eq_some_iff.1 h1).1
theorem MapL.heap (h:MapL o c w m f) (hb:w'.heap[m]? = w.heap[m]?) (ho:o' m=o m):MapL o' c w' m f:=by
 obtain ⟨hc,es,clock,h1,h2⟩:=h
 exact ⟨ho.trans hc,es,clock,hb.trans h1,h2⟩
theorem MapL.step (h:MapL o c w m f) (hk:Step o D w o' w') (hne:¬D c):MapL o' c w' m f :=
 h.heap (hk.block m h.lt (by rw [h.1];exact hne)) (hk.old m h.lt)
theorem MapL.below_ (h:MapL o c w m f) (hb:Below w.heap.size w w'):MapL o c w' m f:=h.heap (hb.block m h.lt) rfl
theorem MapL.alloc (h:MapL o c w m f) (x:Obj):MapL o c (w.alloc x) m f:=h.below_ ((Below.refl _ _).alloc (Nat.le_refl _) x)
theorem MapL.drewN (h:MapL o c w m f) (n:Nat):MapL o c (w.drewN n) m f:=h
theorem MapL.newAs (o:Nat→Nat) (w:World) (c:Nat) (h:o w.heap.size=c):MapL o c (w.alloc (.map #[] 0)) w.heap.size []:=by
 refine ⟨h,#[],0,heap_alloc_new w _,stamped_empty 0,by simp,fun l => ?_⟩
 simp
theorem MapL.keys {es:Array MapEntry} (h:∀x∈es.toList,(∃l:Lk,l.small∧x.key=l.agg)∧x.val = .agg #[]):∀x∈es.toList,∃l,keyOf Tryz.prog 47 x.key=some l:=by
 intro x hx
 obtain ⟨⟨l,h1,h2⟩,_⟩:=h x hx
 rw [h2]
 exact lock_key h1
variable {t e:TypeId}
theorem MapL.look (h:MapL o c w m f) (ht:Tryz.prog.underlying t=some (.map 47 e)) (hz:(zeroValue e).run Tryz.prog w = .ok (.agg #[]) w) {l:Lk} (hl:l.small) :
 (Instr.lookup t (.map (some m)) l.agg true).run Tryz.prog w = .ok (.tuple #[.agg #[], .bool (decide (l∈f))]) w:=by
 obtain ⟨_,es,clock,h1,hst,hks,hf⟩:=h
 obtain ⟨kl,hkl⟩:=lock_key hl
 rcases lock_keyed.find w hkl es.toList (MapL.keys hks) with ⟨h3,h4⟩ | ⟨j,x,h3,h4,h5⟩
 ·have hn:decide (l∈f)=false:=decide_eq_false (fun hm=>by
   obtain ⟨x,hx,e1⟩:=(hf l).1 hm
   exact absurd e1 (h4 x hx))
  rw [hn]
  simp [Instr.lookup,run_underlying ht,Go.MapKept.run_getObj_map h1,lock_keyed.check w _ hkl,h3,Result.andThen,hz]
 ·have hs:decide (l∈f)=true:=decide_eq_true ((hf l).2 ⟨x,List.mem_of_getElem? h4,h5⟩)
  rw [hs]
  have hv:=(hks x (List.mem_of_getElem? h4)).2
  simp [Instr.lookup,run_underlying ht,Go.MapKept.run_getObj_map h1,lock_keyed.check w _ hkl,h3,Result.andThen,hv]
theorem MapL.put (h:MapL o c w m f) (ht:Tryz.prog.underlying t=some (.map 47 e)) {l:Lk} (hl:l.small) (hn:l ∉ f) :
 ∃w',(Instr.mapUpdate t (.map (some m)) l.agg (.agg #[])).run Tryz.prog w = .ok () w'∧MapL o c w' m (l :: f)∧Step o (only c) w o w'∧∀g t cs,Blk w g t cs→Blk w' g t cs:=by
 obtain ⟨hc,es,clock,h1,hst,hks,hf⟩:=h
 obtain ⟨kl,hkl⟩:=lock_key hl
 rcases lock_keyed.find w hkl es.toList (MapL.keys hks) with ⟨h3,h4⟩ | ⟨j,x,h3,h4,h5⟩
 ·refine ⟨_,by simp [Instr.mapUpdate,run_underlying ht,Go.MapKept.run_getObj_map h1,lock_keyed.check w _ hkl,h3,run_setObj_map _ h1,Result.andThen];rfl,⟨hc,_,_,(heap_set h1).1,stamped_push hst h4,?_,fun j => ?_⟩,setHeap_step hc _,setHeap_blk h1 _⟩
  ·intro y hy
   simp only [Array.toList_push,List.mem_append,List.mem_singleton] at hy
   rcases hy with hy | rfl
   ·exact hks y hy
   ·exact ⟨⟨l,hl,rfl⟩,rfl⟩
  ·rw [List.mem_cons,Array.toList_push]
   simp only [List.mem_append,List.mem_singleton]
   constructor
   ·rintro (rfl | hj)
    ·exact ⟨_, .inr rfl,rfl⟩
    ·obtain ⟨y,hy,e1⟩:=(hf j).1 hj
     exact ⟨y, .inl hy,e1⟩
   ·rintro ⟨y,hy | rfl,e1⟩
    ·exact .inr ((hf j).2 ⟨y,hy,e1⟩)
    ·exact .inl (lk_agg e1).symm
 ·exact absurd ((hf l).2 ⟨x,List.mem_of_getElem? h4,h5⟩) hn
end
section
variable {f:Nat→List Value} {n i j:Nat} {v:Value}
theorem rangeP_len (hf:∀i,(f i).length=9):∀n,((List.range n).flatMap f).length=n*9
 | 0=>rfl
 | n+1=>by
   rw [List.range_succ,List.flatMap_append,List.length_append,rangeP_len hf n]
   simp [hf]
   omega
theorem rangeP_get (hf:∀i,(f i).length=9) (hj:j<9):∀n,i<n→((List.range n).flatMap f)[i*9+j]? = (f i)[j]?
 | 0,h=>absurd h (Nat.not_lt_zero _)
 | n+1,h=>by
   rw [List.range_succ,List.flatMap_append]
   by_cases hin:i<n
   ·rw [List.getElem?_append_left (by rw [rangeP_len hf n];omega)]
    exact rangeP_get hf hj n hin
   ·obtain rfl:i=n:=by omega
    rw [List.getElem?_append_right (by rw [rangeP_len hf i];omega),rangeP_len hf i,show i*9+j - i*9=j by omega]
    simp
theorem fm_congr {g:Nat→List Value}:∀(l:List Nat),(∀k∈l,f k=g k)→l.flatMap f=l.flatMap g
 | [],_=>rfl
 | k :: l,h=>by rw [List.flatMap_cons,List.flatMap_cons,h k (List.mem_cons_self ..),fm_congr l (fun x hx=>h x (List.mem_cons_of_mem _ hx))]
theorem rangeP_set (hf:∀i,(f i).length=9) (hj:j<9):∀n,i<n→((List.range n).flatMap f).set (i*9+j) v=(List.range n).flatMap (fun k=>if k=i then (f i).set j v else f k)
 | 0,h=>absurd h (Nat.not_lt_zero _)
 | n+1,h=>by
   rw [List.range_succ,List.flatMap_append,List.flatMap_append]
   by_cases hin:i<n
   ·rw [List.set_append_left _ _ (by rw [rangeP_len hf n];omega),rangeP_set hf hj n hin]
    congr 1
    simp [show n≠i by omega]
   ·obtain rfl:i=n:=by omega
    rw [List.set_append_right _ _ (by rw [rangeP_len hf i];omega),rangeP_len hf i,show i*9+j - i*9=j by omega]
    congr 1
    ·exact fm_congr _ (fun k hk=>by rw [if_neg (by rw [List.mem_range] at hk;omega)])
    ·simp
end
def Pe.cells (p:Pe) (tv:Value):List Value := [.int .i64 p.state, .int .u64 p.epoch, .int .i64 p.life, .int .i64 p.hello, .bool p.unknown, .int .i64 p.by_, .int .i64 p.stamp, .int .i64 p.grants,tv]
structure SvP where
 dp:Nat
 lp:Nat
 tp:Nat
 im:Nat
 tv:Nat→Value
 kv:Value
 gv:Value
 ov:Value
def Sv.headC (S:Sv) (P:SvP):List Value := [ptrV P.dp, .int .i64 (S.sh.1:Nat), .int .i64 (S.sh.2.1:Nat), .int .i64 (S.sh.2.2.1:Nat), .int .i64 (S.sh.2.2.2.1:Nat), .int .i64 (S.sh.2.2.2.2:Nat), .int .i64 S.gen, .int .u64 S.epoch, .int .i64 S.now, .bool S.down]
def Sv.tailC (S:Sv) (P:SvP):List Value := [ptrV P.lp,ptrV P.tp, .map (some P.im),P.kv,P.gv, .int .i64 S.stamp,P.ov]
def peersC (ps:Nat→Pe) (tv:Nat→Value):List Value:=(List.range 17).flatMap (fun i=>(ps i).cells (tv i))
def Sv.cells (S:Sv) (P:SvP):Array Value:=(S.headC P++(peersC S.peers P.tv++S.tailC P)).toArray
theorem pe_len (ps:Nat→Pe) (tv:Nat→Value):∀i,((fun i=>(ps i).cells (tv i)) i).length=9:=fun _=>rfl
theorem peersC_len (ps:Nat→Pe) (tv:Nat→Value):(peersC ps tv).length=153:=rangeP_len (pe_len ps tv) 17
section
variable {S:Sv} {P:SvP}
theorem Sv.head_at {k:Nat} (hk:k<10):(S.cells P)[k]? = (S.headC P)[k]? := by
 unfold Sv.cells
 rw [List.getElem?_toArray,List.getElem?_append_left (by exact hk)]
theorem Sv.peer_at {i j:Nat} (hi:i≤16) (hj:j<9):(S.cells P)[10+i*9+j]? = ((S.peers i).cells (P.tv i))[j]? := by
 unfold Sv.cells
 rw [List.getElem?_toArray,List.getElem?_append_right (by show 10≤_;omega),show 10+i*9+j - (S.headC P).length=i*9+j by show 10+i*9+j - 10=_;omega,List.getElem?_append_left (by rw [peersC_len];omega)]
 exact rangeP_get (pe_len S.peers P.tv) hj 17 (by omega)
theorem Sv.tail_at {k:Nat}:(S.cells P)[163+k]? = (S.tailC P)[k]? := by
 unfold Sv.cells
 rw [List.getElem?_toArray,List.getElem?_append_right (by show 10≤_;omega),show 163+k - (S.headC P).length=153+k by show 163+k - 10=_;omega,List.getElem?_append_right (by rw [peersC_len];omega),peersC_len,show 153+k - 153=k by omega]
theorem Sv.head_set {k:Nat} {v:Value} {S':Sv} {P':SvP} (hk:k<10) (h1:(S.headC P).set k v=S'.headC P') (h2:S'.peers=S.peers) (h3:P'.tv=P.tv) (h4:S'.tailC P'=S.tailC P):(S.cells P).setIfInBounds k v=S'.cells P':=by
 unfold Sv.cells
 rw [List.setIfInBounds_toArray,List.set_append_left _ _ (by exact hk),h1,h2,h3,h4]
theorem Sv.tail_set {k:Nat} {v:Value} {S':Sv} {P':SvP} (h1:(S.tailC P).set k v=S'.tailC P') (h2:S'.peers=S.peers) (h3:P'.tv=P.tv) (h4:S'.headC P'=S.headC P):(S.cells P).setIfInBounds (163+k) v=S'.cells P':=by
 unfold Sv.cells
 rw [List.setIfInBounds_toArray,List.set_append_right _ _ (by show 10≤_;omega),show 163+k - (S.headC P).length=153+k by show 163+k - 10=_;omega,List.set_append_right _ _ (by rw [peersC_len];omega),peersC_len,show 153+k - 153=k by omega,h1,h2,h3,h4]
theorem Sv.peer_set {i j:Nat} {v:Value} {S':Sv} {P':SvP} {p:Pe} {tv:Value} (hi:i≤16) (hj:j<9) (h1:((S.peers i).cells (P.tv i)).set j v=p.cells tv) (h2:S'.peers=fun k=>if k=i then p else S.peers k) (h3:P'.tv=fun k=>if k=i then tv else P.tv k) (h4:S'.headC P'=S.headC P) (h5:S'.tailC P'=S.tailC P):(S.cells P).setIfInBounds (10+i*9+j) v=S'.cells P':=by
 unfold Sv.cells peersC
 have hl:(S.headC P).length=10:=rfl
 rw [List.setIfInBounds_toArray,List.set_append_right _ _ (by rw [hl];omega),show 10+i*9+j - (S.headC P).length=i*9+j by rw [hl];omega,List.set_append_left _ _ (by show _<(peersC S.peers P.tv).length;rw [peersC_len];omega),rangeP_set (pe_len S.peers P.tv) hj 17 (by omega),h4,h5]
 congr 3
 refine fm_congr _ (fun k _ => ?_)
 rw [h2,h3]
 dsimp only
 by_cases hki:k=i
 ·rw [if_pos hki,if_pos hki,if_pos hki]
  exact h1
 ·rw [if_neg hki,if_neg hki,if_neg hki]
end
def Mg.cellsV (m:Mg) (v:Value):List Value := [.int .i64 m.kind, .int .i64 m.id, .int .i64 m.node, .int .i64 m.gen, .int .i64 m.stamp, .int .u64 m.epoch, .int .i64 m.err,v]
def outC (x:(Int×Mg)×Value):List Value := .int .i64 x.1.1 :: x.1.2.cellsV x.2
structure RqV where
 r:Rq
 A:Option Addr
 n:Nat
 cap:Nat
def RqV.cells (s:RqV):List Value := [.int .i64 s.r.node, .int .i64 s.r.m.kind, .int .i64 s.r.m.id, .int .i64 s.r.m.node, .int .i64 s.r.m.gen, .int .i64 s.r.m.stamp, .int .u64 s.r.m.epoch, .int .i64 s.r.m.err, .slice s.A s.n s.cap]
def rqcells (l:List RqV):List Value:=l.flatMap RqV.cells
def OutsAt (o:Nat→Nat) (c:Nat) (w:World) (v:Value) (l:List (Int×Mg)):Prop:=(l = []→v = .slice none 0 0)∧∃vs:List Value,vs.length=l.length∧OwnS o c w 40 9 v l.length ((l.zip vs).flatMap outC)∧∀x∈l.zip vs,OwnS o 0 w 47 3 x.2 x.1.2.locks.length (lkcells x.1.2.locks)
def KeptAt (o:Nat→Nat) (c:Nat) (w:World) (v:Value) (l:List Rq):Prop:=∃rows:List RqV,rows.map RqV.r=l∧OwnS o c w 161 9 v rows.length (rqcells rows)∧∀x∈rows,x.n=x.r.m.locks.length∧OwnS o 0 w 47 3 (.slice x.A x.n x.cap) x.n (lkcells x.r.m.locks)
section
variable {o o':Nat→Nat} {c:Nat} {C:Nat→Prop} {w w':World} {s:Nat} {S:Sv} {P:SvP} {v:Value} {l:List (Int×Mg)} {r:List Rq}
theorem OutsAt.step (h:OutsAt o c w v l) (hs:Step o C w o' w') (hc:¬C c) (h0:¬C 0):OutsAt o' c w' v l:=by
 obtain ⟨he,vs,h1,h2,h3⟩:=h
 exact ⟨he,vs,h1,h2.step hs hc,fun x hx=>(h3 x hx).step hs h0⟩
theorem KeptAt.step (h:KeptAt o c w v r) (hs:Step o C w o' w') (hc:¬C c) (h0:¬C 0):KeptAt o' c w' v r:=by
 obtain ⟨rows,h1,h2,h3⟩:=h
 exact ⟨rows,h1,h2.step hs hc,fun x hx=>⟨(h3 x hx).1,(h3 x hx).2.step hs h0⟩⟩
theorem OutsAt.nil (o:Nat→Nat) (c:Nat) (w:World):OutsAt o c w (.slice none 0 0) []:=⟨fun _=>rfl,[],rfl,OwnS.nil _ _ _ _ _,fun x hx=>by cases hx⟩
theorem KeptAt.nil (o:Nat→Nat) (c:Nat) (w:World):KeptAt o c w (.slice none 0 0) []:=⟨[],rfl,OwnS.nil _ _ _ _ _,fun x hx=>by cases hx⟩
structure SvRest (o:Nat→Nat) (c:Nat) (w:World) (S:Sv) (P:SvP):Prop where
 outs:OutsAt o (c+1) w P.ov S.out
 kept:KeptAt o (c+2) w P.kv S.kept
 granted:OwnS o (c+3) w 164 5 P.gv S.granted.length (wqcells S.granted)
 ids:MapR o (c+4) w P.im (leV S.ids)
 told:∀i,1≤i→i≤S.n→∃m,P.tv i = .map (some m)∧MapL o (c+5+i) w m (S.peers i).told
 table:TbAt o (c+22) w P.tp S.T
 lease:LeAt o (c+41) w P.lp S.L
 disk:DiskAt o (c+43) w P.dp S.D
 nodes:1≤S.n∧S.n≤16∧P.dp=S.dp
structure SvIn (o:Nat→Nat) (c:Nat) (w:World) (s:Nat) (S:Sv) (P:SvP):Prop where
 blk:Blk w s 70 (S.cells P)
 col:o s=c
 rest:SvRest o c w S P
def SvAt (o:Nat→Nat) (c:Nat) (w:World) (s:Nat) (S:Sv):Prop:=∃P,SvIn o c w s S P
theorem SvRest.nn {o:Nat→Nat} {c:Nat} {w:World} {S:Sv} {P:SvP} (h:SvRest o c w S P):1≤S.n∧S.n≤16:=⟨h.nodes.1,h.nodes.2.1⟩
def svC (c:Nat):Nat→Prop:=fun x=>c≤x∧x≤c+48
theorem SvRest.step (h:SvRest o c w S P) (hs:Step o C w o' w') (hc:∀x,c+1≤x→x≤c+48→¬C x) (h0:¬C 0):SvRest o' c w' S P:=by
 refine ⟨h.outs.step hs (hc _ (by omega) (by omega)) h0,h.kept.step hs (hc _ (by omega) (by omega)) h0,h.granted.step hs (hc _ (by omega) (by omega)),h.ids.step hs (hc _ (by omega) (by omega)),fun i h1 h2 => ?_,h.table.step hs (fun x hxx=>by unfold tabC at hxx;exact hc x (by omega) (by omega)),h.lease.step hs (hc _ (by omega) (by omega)) (hc _ (by omega) (by omega)),h.disk.step hs (fun x h1 h2=>hc x (by omega) (by omega)),h.nodes⟩
 have hn:=h.nodes
 obtain ⟨m,e,hm⟩:=h.told i h1 h2
 exact ⟨m,e,hm.step hs (hc _ (by omega) (by omega))⟩
theorem SvIn.step (h:SvIn o c w s S P) (hs:Step o C w o' w') (hc:∀x,svC c x→¬C x) (h0:¬C 0):SvIn o' c w' s S P :=
 ⟨h.blk.step hs (by rw [h.col];exact hc c (by unfold svC;omega)),(hs.old s h.blk.lt).trans h.col,h.rest.step hs (fun x h1 h2=>hc x (by unfold svC;omega)) h0⟩
end
section
variable {o o':Nat→Nat} {c:Nat} {C:Nat→Prop} {w w':World} {s:Nat} {S:Sv} {P:SvP} {v:Value} {l:List (Int×Mg)} {r:List Rq}
theorem SvIn.below_ (h:SvIn o c w s S P) (hb:Below w.heap.size w w'):SvIn o c w' s S P:=h.step (Step.of_below o (fun _=>False) hb) (fun _ _=>id) id
theorem below_drew (w:World):Below w.heap.size w w.drew:=⟨rfl,rfl,rfl,Nat.le_refl _,fun _ _=>rfl⟩
theorem below_drewN (w:World) (n:Nat):Below w.heap.size w (w.drewN n):=⟨rfl,rfl,rfl,Nat.le_refl _,fun _ _=>rfl⟩
theorem SvIn.alloc (h:SvIn o c w s S P) (x:Obj):SvIn o c (w.alloc x) s S P:=h.below_ ((Below.refl _ _).alloc (Nat.le_refl _) x)
theorem SvIn.drew (h:SvIn o c w s S P):SvIn o c w.drew s S P:=h.below_ (below_drew w)
theorem SvIn.drewN (h:SvIn o c w s S P) (n:Nat):SvIn o c (w.drewN n) s S P:=h.below_ (below_drewN w n)
theorem SvIn.h (h:SvIn o c w s S P) {k:Nat} {v:Value} (hk:k<10) (hv:(S.headC P)[k]? = some v):w.cell? ⟨s,k,none⟩=some v:=(h.blk.cell k).trans ((Sv.head_at hk).trans hv)
theorem SvIn.p (h:SvIn o c w s S P) {i j:Nat} {v:Value} (hi:i≤16) (hj:j<9) (hv:((S.peers i).cells (P.tv i))[j]? = some v):w.cell? ⟨s,10+i*9+j,none⟩=some v:=(h.blk.cell _).trans ((Sv.peer_at hi hj).trans hv)
theorem SvIn.t (h:SvIn o c w s S P) {k:Nat} {v:Value} (hv:(S.tailC P)[k]? = some v):w.cell? ⟨s,163+k,none⟩=some v:=(h.blk.cell _).trans (Sv.tail_at.trans hv)
theorem SvIn.set (h:SvIn o c w s S P) (hc1:1≤c) (k:Nat) (v:Value) {S':Sv} {P':SvP} (hc:(S.cells P).setIfInBounds k v=S'.cells P') (hr:SvRest o c w S' P') :
 SvIn o c (w.setCell ⟨s,k,none⟩ v) s S' P'∧Step o (only c) w o (w.setCell ⟨s,k,none⟩ v):=by
 have hs:Step o (only c) w o (w.setCell ⟨s,k,none⟩ v):=(Step.refl o (only c) w).setCell (p:=⟨s,k,none⟩) h.col _
 exact ⟨⟨hc▸h.blk.set_ k v,h.col,hr.step hs (fun x h1 h2=>by unfold only;omega) (by unfold only;omega)⟩,hs⟩
theorem vnone_any (h:SvIn o c w s S P):Calls Tryz.prog 54 #[.pointer (some ⟨s,0,none⟩)] w fun e w'=>e = .returned (.bool false)∧w'=w:=by
 have x0:w.cell? ⟨s,0,none⟩=some (.pointer (some ⟨P.dp,0,none⟩)):=h.h (k:=0) (by omega) rfl
 clear h
 go_enter Tryz.func54,Tryz.ntmps54
 go_wp2_with fail
 go_ret
 exact ⟨rfl,rfl⟩
theorem vis_any (h:SvIn o c w s S P) (node:Int):Calls Tryz.prog 39 #[.pointer (some ⟨s,0,none⟩), .int .i64 node] w fun e w'=>e = .returned (.bool (decide (S.is node)))∧w'=w:=by
 have x1:w.cell? ⟨s,1,none⟩=some (.int .i64 (S.n:Nat)):=h.h (k:=1) (by omega) rfl
 have HV:=Lib.hid h
 have HD:=Lib.hid (show decide (S.is node)=decide (1≤node∧node≤(S.n:Int)) from decide_eq_decide.2 Iff.rfl)
 generalize S.n=n at x1 HD
 clear h
 by_cases h1:1≤node
 ·obtain ⟨v,hv⟩:∃v,decide (node≤(n:Int))=v:=⟨_,rfl⟩
  have HF:=Lib.hid (show decide (S.is node)=v by
   rw [HD.out,←hv]
   exact decide_eq_decide.2 ⟨fun h=>h.2,fun h=>⟨h1,h⟩⟩)
  go_enter Tryz.func39,Tryz.ntmps39
  go_wp2_with fail
  refine (vnone_any HV.out).mono ?_
  rintro e w1 ⟨rfl,rfl⟩
  go_wp2_with fail
  go_ret
  exact ⟨by rw [HF.out,←hv];first | done | rfl,rfl⟩
 ·have HF:=Lib.hid (show decide (S.is node)=false by
   rw [HD.out]
   exact decide_eq_false (fun h=>h1 h.1))
  have d1:decide (1≤node)=false:=decide_eq_false h1
  go_enter Tryz.func39,Tryz.ntmps39
  go_wp2_with fail
  refine (vnone_any HV.out).mono ?_
  rintro e w1 ⟨rfl,rfl⟩
  go_wp2_with fail
  go_ret
  exact ⟨by rw [HF.out];first | done | rfl,rfl⟩
theorem vUp_any (h:SvIn o c w s S P):Calls Tryz.prog 30 #[.pointer (some ⟨s,0,none⟩)] w fun e w'=>e = .returned (.bool (!S.down))∧w'=w:=by
 have x9:w.cell? ⟨s,9,none⟩=some (.bool S.down):=h.h (k:=9) (by omega) rfl
 have HV:=Lib.hid h
 generalize S.down=d at x9 ⊢
 clear h
 go_enter Tryz.func30,Tryz.ntmps30
 go_wp2_with fail
 refine (vnone_any HV.out).mono ?_
 rintro e w1 ⟨rfl,rfl⟩
 go_wp2_with fail
 go_ret
 exact ⟨rfl,rfl⟩
theorem vcheck_any (h:SvIn o c w s S P) (hc1:1≤c) (e:Int):Calls Tryz.prog 100 #[.pointer (some ⟨s,0,none⟩), .int .i64 e] w fun r w'=>r = .returned (.bool (decide (e=0)))∧SvIn o c w' s (S.check e) P∧Step o (only c) w o w':=by
 by_cases he:e=0
 ·have HF:=Lib.hid (show S.check e=S from if_pos he)
  have HV:=Lib.hid h
  subst he
  clear h
  go_enter Tryz.func100,Tryz.ntmps100
  go_wp2_with fail
  go_ret
  exact ⟨rfl,by rw [HF.out];exact HV.out,Step.refl _ _ _⟩
 ·have HF:=Lib.hid (show S.check e = {S with down:=true} from if_neg he)
  have b1:(e != 0)=true:=by simp [he]
  have b2:(e == 0)=false:=by simp [he]
  have HE:=Lib.hid (decide_eq_false he)
  have x9:w.cell? ⟨s,9,none⟩=some (.bool S.down):=h.h (k:=9) (by omega) rfl
  have f9:=h.blk.frozen 9
  obtain ⟨h2,h3⟩:=h.set hc1 9 (.bool true) (S' := {S with down:=true}) (P':=P) (Sv.head_set (by omega) rfl rfl rfl rfl) ⟨h.rest.outs,h.rest.kept,h.rest.granted,h.rest.ids,h.rest.told,h.rest.table,h.rest.lease,h.rest.disk,h.rest.nodes⟩
  have HV:=Lib.hid h2
  have HS:=Lib.hid h3
  clear h h2 h3 he
  go_enter Tryz.func100,Tryz.ntmps100
  go_wp2_with fail
  go_ret
  exact ⟨by rw [HE.out];first | done | rfl,by rw [HF.out];exact HV.out,HS.out⟩
end
def telC (c:Nat):Nat→Prop:=fun x=>c≤x∧x≤c+1
theorem telC_sv {c:Nat}:∀x,telC c x→svC c x:=fun x h=>by unfold telC at h;unfold svC;omega
theorem info_out : (Tryz.prog.info? 40).map (fun i=>(i.zero,i.size,i.bytes))=some (some (.agg #[.int .i64 0, .int .i64 0, .int .i64 0, .int .i64 0, .int .i64 0, .int .i64 0, .int .u64 0, .int .i64 0, .slice none 0 0]),9,88):=by kernel_rfl
section
variable {o o':Nat→Nat} {c:Nat} {C:Nat→Prop} {w w':World} {s:Nat} {S:Sv} {P:SvP} {v:Value} {l:List (Int×Mg)} {r:List Rq}
theorem OutsAt.len (h:OutsAt o c w v l):∃A cap,v = .slice A l.length cap:=by
 obtain ⟨_,vs,_,h2,_⟩:=h
 obtain ⟨A,cap,e,_⟩:=own_form' h2
 exact ⟨A,cap,e⟩
theorem zip_push {α β:Type}:∀(l:List α) (m:List β) (x:α) (y:β),m.length=l.length→(l ++ [x]).zip (m ++ [y])=l.zip m ++ [(x,y)]
 | [],[],_,_,_=>rfl
 | [],_ :: _,_,_,h=>by cases h
 | _ :: _,[],_,_,h=>by cases h
 | a :: l,b :: m,x,y,h=>congrArg ((a,b) :: ·) (zip_push l m x y (by simpa using h))
theorem SvIn.push (h:SvIn o c w s S P) (hc1:1≤c) {o1:Nat→Nat} {w1:World} {D:Option Addr} {cap:Nat} {x:Int×Mg} {lv:Value} {vs:List Value} (hvs:vs.length=S.out.length)
 (hall:∀y∈S.out.zip vs,OwnS o 0 w 47 3 y.2 y.1.2.locks.length (lkcells y.1.2.locks)) (hl:OwnS o 0 w 47 3 lv x.2.locks.length (lkcells x.2.locks))
 (hs:Step o (only (c+1)) w o1 w1) (ho:OwnS o1 (c+1) w1 40 9 (.slice D (S.out.length+1) cap) (S.out.length+1) ((S.out.zip vs).flatMap outC++outC (x,lv))) :
 SvIn o1 c (w1.setCell ⟨s,169,none⟩ (.slice D (S.out.length+1) cap)) s {S with out:=S.out ++ [x]} {P with ov := .slice D (S.out.length+1) cap}∧Step o (telC c) w o1 (w1.setCell ⟨s,169,none⟩ (.slice D (S.out.length+1) cap)):=by
 have hc0:¬only (c+1) 0:=by unfold only;omega
 have hout:OutsAt o1 (c+1) w1 (.slice D (S.out.length+1) cap) (S.out ++ [x]):=by
  refine ⟨fun hh=>absurd hh (by simp),vs ++ [lv],by simp [hvs],?_,?_⟩
  ·rw [zip_push _ _ _ _ hvs,List.flatMap_append,List.length_append]
   have:([(x,lv)]:List ((Int×Mg)×Value)).flatMap outC=outC (x,lv):=by simp
   rw [this]
   exact ho
  ·rw [zip_push _ _ _ _ hvs]
   intro y hy
   rcases List.mem_append.1 hy with hy | hy
   ·exact (hall y hy).step hs hc0
   ·rw [List.mem_singleton] at hy
    rw [hy]
    exact hl.step hs hc0
 have hr1:∀d,d≠1→¬only (c+1) (c+d):=fun d hd=>by unfold only;omega
 have hb1:Blk w1 s 70 (S.cells P):=h.blk.step hs (by rw [h.col];unfold only;omega)
 have hcol:o1 s=c:=(hs.old s h.blk.lt).trans h.col
 have hrest:SvRest o1 c w1 {S with out:=S.out ++ [x]} {P with ov := .slice D (S.out.length+1) cap}:=by
  refine ⟨hout,h.rest.kept.step hs (hr1 2 (by omega)) hc0,h.rest.granted.step hs (hr1 3 (by omega)),h.rest.ids.step hs (hr1 4 (by omega)),fun i h1 h2 => ?_,h.rest.table.step hs (fun y hy=>by unfold tabC at hy;unfold only;omega),h.rest.lease.step hs (hr1 41 (by omega)) (hr1 42 (by omega)),h.rest.disk.step hs (fun y h1 h2=>by unfold only;omega),h.rest.nodes⟩
  obtain ⟨m,e,hm⟩:=h.rest.told i h1 h2
  exact ⟨m,e,hm.step hs (by unfold only;omega)⟩
 have hs3:Step o1 (only c) w1 o1 (w1.setCell ⟨s,169,none⟩ (.slice D (S.out.length+1) cap)):=(Step.refl o1 (only c) w1).setCell (p:=⟨s,169,none⟩) hcol _
 have hcell:(S.cells P).setIfInBounds (163+6) (.slice D (S.out.length+1) cap)=({S with out:=S.out ++ [x]}:Sv).cells {P with ov := .slice D (S.out.length+1) cap}:=Sv.tail_set rfl rfl rfl rfl
 refine ⟨⟨hcell▸hb1.set_ 169 _,hcol,hrest.step hs3 (fun y h1 h2=>by unfold only;omega) (by unfold only;omega)⟩,?_⟩
 exact (hs.mono (fun y h=>by unfold only at h;unfold telC;omega)).trans (hs3.mono (fun y h=>by unfold only at h;unfold telC;omega))
set_option maxRecDepth 100000 in
set_option maxHeartbeats 16000000 in
theorem vtell_fin (h:SvAt o c w s S) (hf:Fut o w) (hc1:1≤c) (ho:S.out.length≤1000000000) (k:Nat) (hk16:k≤16) (m:Mg) (lv:Value) (hl:OwnS o 0 w 47 3 lv m.locks.length (lkcells m.locks)) :
 Calls Tryz.prog 59 #[.pointer (some ⟨s,0,none⟩), .int .i64 (k:Nat), .agg #[.int .i64 m.kind, .int .i64 m.id, .int .i64 m.node, .int .i64 m.gen, .int .i64 m.stamp, .int .u64 m.epoch, .int .i64 m.err,lv]] w fun e w'=>e = .returned (.tuple #[])∧∃o',SvAt o' c w' s (S.tell k m)∧Step o (telC c) w o' w':=by
 obtain ⟨i0,hi,hz0,hz1,hz2⟩:=info_parts info_out
 obtain ⟨P,h⟩:=h
 have hk17:(k:Int)<17:=by omega
 have HC:=Lib.hid hc1
 have HOL:=Lib.hid ho
 have HV0:=Lib.hid (h.alloc (.cells #[.int .i64 m.kind, .int .i64 m.id, .int .i64 m.node, .int .i64 m.gen, .int .i64 m.stamp, .int .u64 m.epoch, .int .i64 m.err,lv] 38))
 have HK0:=Lib.hid (Keep.new hf 38 #[.int .i64 m.kind, .int .i64 m.id, .int .i64 m.node, .int .i64 m.gen, .int .i64 m.stamp, .int .u64 m.epoch, .int .i64 m.err,lv])
 have HVw:=Lib.hid h
 have HLw:=Lib.hid hl
 have HFw:=Lib.hid hf
 have HBW:=Lib.hid ((Below.refl w.heap.size w).alloc (Nat.le_refl _) (.cells #[.int .i64 m.kind, .int .i64 m.id, .int .i64 m.node, .int .i64 m.gen, .int .i64 m.stamp, .int .u64 m.epoch, .int .i64 m.err,lv] 38))
 have HL0:=Lib.hid (hl.alloc (.cells #[.int .i64 m.kind, .int .i64 m.id, .int .i64 m.node, .int .i64 m.gen, .int .i64 m.stamp, .int .u64 m.epoch, .int .i64 m.err,lv] 38))
 have HS0:=Lib.hid ((Step.refl o (telC c) w).alloc (.cells #[.int .i64 m.kind, .int .i64 m.id, .int .i64 m.node, .int .i64 m.gen, .int .i64 m.stamp, .int .u64 m.epoch, .int .i64 m.err,lv] 38))
 have HF0:=Lib.hid (hf.alloc (.cells #[.int .i64 m.kind, .int .i64 m.id, .int .i64 m.node, .int .i64 m.gen, .int .i64 m.stamp, .int .u64 m.epoch, .int .i64 m.err,lv] 38))
 clear h hf hl ho
 go_enter Tryz.func59,Tryz.ntmps59
 go_upto_region 1 with (fail)
 generalize w.alloc (.cells #[.int .i64 m.kind, .int .i64 m.id, .int .i64 m.node, .int .i64 m.gen, .int .i64 m.stamp, .int .u64 m.epoch, .int .i64 m.err,lv] 38)=W0 at HV0 HK0 HL0 HS0 HF0 HBW ⊢
 obtain ⟨gm,hgm⟩:∃gm,w.heap.size=gm:=⟨_,rfl⟩
 rw [hgm] at HK0 ⊢
 have HGM:=Lib.hid hgm
 clear hgm
 obtain ⟨x0,x1,x2,x3,x4,x5,x6,x7⟩:=Blk.eight HK0.out.1
 have f3:=HK0.out.1.frozen 3
 have f5:=HK0.out.1.frozen 5
 have y6:W0.cell? ⟨s,6,none⟩=some (.int .i64 S.gen):=HV0.out.h (k:=6) (by omega) rfl
 have yp:W0.cell? ⟨s,10+k*9+1,none⟩=some (.int .u64 (S.peers k).epoch):=HV0.out.p (j:=1) hk16 (by omega) rfl
 have HNE:=Lib.hid (show gm≠s from HK0.out.1.ne_ HV0.out.blk (by decide))
 have hne:=HNE.out
 have hne2:=HNE.out.symm
 go_region
 have hbv:Below w.heap.size w ((W0.setCell ⟨gm,3,none⟩ (.int .i64 S.gen)).setCell ⟨gm,5,none⟩ (.int .u64 (S.peers k).epoch)).drew :=
  ((HBW.out.setCell (p:=⟨gm,3,none⟩) (by rw [HGM.out];exact Nat.le_refl _) _).setCell (p:=⟨gm,5,none⟩) (by rw [HGM.out];exact Nat.le_refl _) _).trans ((below_drew _).mono (by
    have:=HBW.out.size
    simpa using this))
 have HBV:=Lib.hid hbv
 have HKV:=Lib.hid (show Blk ((W0.setCell ⟨gm,3,none⟩ (.int .i64 S.gen)).setCell ⟨gm,5,none⟩ (.int .u64 (S.peers k).epoch)).drew gm 38 #[.int .i64 m.kind, .int .i64 m.id, .int .i64 m.node, .int .i64 S.gen, .int .i64 m.stamp, .int .u64 (S.peers k).epoch, .int .i64 m.err,lv] from (HK0.out.1.set_ 3 _).set_ 5 _)
 clear x0 x1 x2 x3 x4 x5 x6 x7 f3 f5 y6 yp hbv HV0 HK0 HL0 HS0 HF0 HBW
 generalize ((W0.setCell ⟨gm,3,none⟩ (.int .i64 S.gen)).setCell ⟨gm,5,none⟩ (.int .u64 (S.peers k).epoch)).drew=V at HBV HKV ⊢
 have HV:=Lib.hid (HVw.out.below_ HBV.out)
 have HL:=Lib.hid (HLw.out.below_ HBV.out)
 have HF:=Lib.hid (HFw.out.below HBV.out)
 have HS:=Lib.hid (Step.of_below o (telC c) HBV.out)
 obtain ⟨_,vs,hv1,hv2,hv3⟩:=HV.out.rest.outs
 obtain ⟨A,cap,hov,_⟩:=own_form' hv2
 rw [hov] at hv2
 have HO:=Lib.hid hv2
 have hol:=HOL.out
 have HWT:=Lib.hid (fun o1 w1 D cap2=>HV.out.push HC.out (o1:=o1) (w1:=w1) (D:=D) (cap:=cap2) (x:=((k:Int),{m with gen:=S.gen,epoch:=(S.peers k).epoch})) (lv:=lv) hv1 hv3 HL.out)
 have z169:V.cell? ⟨s,169,none⟩=some (.slice A S.out.length cap):=(HV.out.t (k:=6) rfl).trans (by rw [hov])
 obtain ⟨x0,x1,x2,x3,x4,x5,x6,x7⟩:=Blk.eight HKV.out
 have d169:(V.alloc (.cells #[.int .i64 (k:Nat), .int .i64 m.kind, .int .i64 m.id, .int .i64 m.node, .int .i64 S.gen, .int .i64 m.stamp, .int .u64 (S.peers k).epoch, .int .i64 m.err,lv] 40)).cell? ⟨s,169,none⟩=some (.slice A S.out.length cap):=((HV.out.alloc _).t (k:=6) rfl).trans (by rw [hov])
 clear hv1 hv2 hv3 hov
 go_wp2_with fail
 go_region_law (refine step_append_S _ rfl (.tmp 23) (.tmp 27) 32 rfl 40 i0 _ 9 88 Tryz.underlying32 hi hz0 hz1 hz2 rfl (by omega) (.slice A S.out.length cap) S.out.length ((S.out.zip vs).flatMap outC) rfl (HO.out.alloc (.cells #[.int .i64 (k:Nat), .int .i64 m.kind, .int .i64 m.id, .int .i64 m.node, .int .i64 S.gen, .int .i64 m.stamp, .int .u64 (S.peers k).epoch, .int .i64 m.err,lv] 40)) (some ⟨V.heap.size,0,none⟩) 1 1 [.int .i64 (k:Nat), .int .i64 m.kind, .int .i64 m.id, .int .i64 m.node, .int .i64 S.gen, .int .i64 m.stamp, .int .u64 (S.peers k).epoch, .int .i64 m.err,lv] rfl (Reads.newAt V 40 9 1 _ #[.int .i64 (k:Nat), .int .i64 m.kind, .int .i64 m.id, .int .i64 m.node, .int .i64 S.gen, .int .i64 m.stamp, .int .u64 (S.peers k).epoch, .int .i64 m.err,lv] _ rfl rfl rfl) (by obtain ⟨B,cb,rfl,_⟩:=own_form' HL.out;simp [Value.oneCell']) (by unfold maxLen;omega) (by omega) ?_;intro v' w7 hown hk hg hat;obtain ⟨A7,cap7,rfl,_,_⟩:=own_form' hown;have hb7:Blk w7 s 70 _:=(HV.out.blk.alloc (.cells #[.int .i64 (k:Nat), .int .i64 m.kind, .int .i64 m.id, .int .i64 m.node, .int .i64 S.gen, .int .i64 m.stamp, .int .u64 (S.peers k).epoch, .int .i64 m.err,lv] 40)).drew.step hk (by rw [HV.out.col];unfold only;omega);have k0:w7.cell? ⟨s,169,none⟩=some P.ov:=(hb7.cell (163+6)).trans (Sv.tail_at (k:=6));have k1:=hb7.frozen 169;have HOW:=Lib.hid hown;have HKS:=Lib.hid hk;clear hown hk hg hat hb7)
 all_goals
  obtain ⟨ht8,hs8⟩:=HWT.out _ _ _ _ ((((Step.refl o (only (c+1)) V).alloc (.cells #[.int .i64 (k:Nat), .int .i64 m.kind, .int .i64 m.id, .int .i64 m.node, .int .i64 S.gen, .int .i64 m.stamp, .int .u64 (S.peers k).epoch, .int .i64 m.err,lv] 40)).drew).trans HKS.out) HOW.out
  have HT8:=Lib.hid ht8
  have HS8:=Lib.hid (HS.out.trans hs8)
  clear ht8 hs8
  go_wp2_with fail
  go_end0
  exact ⟨rfl,_,⟨_,HT8.out⟩,HS8.out⟩
theorem vtell_any (h:SvAt o c w s S) (hf:Fut o w) (hc1:1≤c) (ho:S.out.length≤1000000000) (k:Nat) (hk16:k≤16) (m:Mg) (lv:Value) (hl:OwnS o 0 w 47 3 lv m.locks.length (lkcells m.locks)) :
 Calls Tryz.prog 59 #[.pointer (some ⟨s,0,none⟩), .int .i64 (k:Nat), .agg #[.int .i64 m.kind, .int .i64 m.id, .int .i64 m.node, .int .i64 m.gen, .int .i64 m.stamp, .int .u64 m.epoch, .int .i64 m.err,lv]] w fun e w'=>e = .returned (.tuple #[])∧∃o',SvAt o' c w' s (S.tell k m)∧Step o (svC c) w o' w':=by
 refine (vtell_fin h hf hc1 ho k hk16 m lv hl).mono ?_
 rintro e w' ⟨he,o',h1,h2⟩
 exact ⟨he,o',h1,h2.mono telC_sv⟩
end
section
variable {o o':Nat→Nat} {c:Nat} {C:Nat→Prop} {w w':World} {s:Nat} {S:Sv} {P:SvP} {v:Value}
theorem SvIn.peer (h:SvIn o c w s S P) (hc1:1≤c) {i j:Nat} {v:Value} {p:Pe} (hi:i≤16) (hj:j<9) (hp:((S.peers i).cells (P.tv i)).set j v=p.cells (P.tv i)) (ht:p.told=(S.peers i).told) :
 SvIn o c (w.setCell ⟨s,10+i*9+j,none⟩ v) s (S.peer i p) P∧Step o (only c) w o (w.setCell ⟨s,10+i*9+j,none⟩ v):=by
 refine h.set hc1 _ v (Sv.peer_set hi hj hp rfl ?_ rfl rfl) ⟨h.rest.outs,h.rest.kept,h.rest.granted,h.rest.ids,fun k h1 h2 => ?_,h.rest.table,h.rest.lease,h.rest.disk,h.rest.nodes⟩
 ·funext k
  split
  ·rename_i e
   rw [e]
  ·rfl
 ·obtain ⟨m,e,hm⟩:=h.rest.told k h1 h2
  refine ⟨m,e,?_⟩
  show MapL o (c+5+k) w m (if k=i then p else S.peers k).told
  by_cases hk:k=i
  ·subst hk
   rw [if_pos rfl,ht]
   exact hm
  ·rw [if_neg hk]
   exact hm
theorem own_one (o:Nat→Nat) (w:World) (hf:o w.heap.size=0) (t:TypeId) (xs:List Value):OwnS o 0 (w.alloc (.cells xs.toArray t)) t xs.length (.slice (some ⟨w.heap.size,0,none⟩) 1 1) 1 xs:=by
 refine ⟨⟨(Nat.one_mul _).symm, .inr ⟨w.heap.size,1,xs.toArray,rfl,Nat.zero_le _,Blk.new w t _,Nat.le_refl _,by unfold maxLen;omega,by simp,by simp⟩⟩,fun g hg => ?_⟩
 simp [Value.ownBlock] at hg
 subst hg
 exact hf
theorem vleast_any (h:SvIn o c w s S P) (st:Int):Calls Tryz.prog 111 #[.pointer (some ⟨s,0,none⟩), .int .i64 st] w fun e w'=>e = .returned (.int .i64 (S.least st))∧w'=w:=by
 have HV:=Lib.hid h
 have hn:=h.rest.nodes
 have x1:w.cell? ⟨s,1,none⟩=some (.int .i64 (S.n:Nat)):=h.h (k:=1) (by omega) rfl
 have HL:=Lib.hid (show S.least st=(((List.range S.n).find? (fun i=>decide ((S.peers (i+1)).state=st))).map (fun i=>((i+1:Nat):Int))).getD 0 from rfl)
 obtain ⟨R,hR⟩:∃R,S.least st=R:=⟨_,rfl⟩
 rw [hR] at HL ⊢
 generalize S.n=n at x1 HL hn
 have hnI:(n:Int)≤16:=by omega
 clear h hR
 go_enter Tryz.func111,Tryz.ntmps111
 go_wp2_with fail
 go_loopg [5] n (fun r t5 wr=>∃i:Nat,r+i=n∧t5 = .int .i64 ((i:Int)+1)∧wr=w∧∀k,k<i→(S.peers (k+1)).state≠st)
 case atStart=>exact ⟨0,by omega,rfl,rfl,fun k hk=>absurd hk (Nat.not_lt_zero k)⟩
 case round =>
  obtain ⟨i,hni,rfl,rfl,hno⟩:=hrel
  have HNI:=Lib.hid hni
  have HNO:=Lib.hid hno
  clear hni hno
  by_cases hlt:i<n
  ·have hiI:(i:Int)+1≤(n:Int):=by omega
   have hi17:(i:Int)+1<17:=by omega
   have hi0:(0:Int)≤(i:Int)+1:=by omega
   have x2:wr.cell? ⟨s,10+(i+1)*9,none⟩=some (.int .i64 (S.peers (i+1)).state):=HV.out.p (i:=i+1) (j:=0) (by omega) (by omega) rfl
   by_cases hst:(S.peers (i+1)).state=st
   ·have b1:((S.peers (i+1)).state == st)=true:=by simp [hst]
    have HF:=Lib.hid (show R=(i:Int)+1 by
     have e:(List.range n).find? (fun i=>decide ((S.peers (i+1)).state=st))=some i:=by
      rw [List.find?_range_eq_some]
      exact ⟨decide_eq_true hst,List.mem_range.2 hlt,fun j hj=>by simp [HNO.out j hj]⟩
     rw [HL.out,e]
     rfl)
    go_wp2_with fail
    go_ret
    exact ⟨by rw [HF.out];first | done | rfl,rfl⟩
   ·have b1:((S.peers (i+1)).state == st)=false:=by simp [hst]
    go_wp2_with fail
    go_roundg (n - (i+1))
    case measure=>have:=HNI.out;omega
    case rel=>exact ⟨i+1,by omega,by go_num,rfl,fun k hk=>by
     by_cases e:k=i
     ·rw [e]
      exact hst
     ·exact HNO.out k (by omega)⟩
  ·have hiI:¬(i:Int)+1≤(n:Int):=by omega
   have HF:=Lib.hid (show R=0 by
    have e:(List.range n).find? (fun i=>decide ((S.peers (i+1)).state=st))=none:=by
     rw [List.find?_eq_none]
     intro k hk
     rw [List.mem_range] at hk
     simp [HNO.out k (by omega)]
    rw [HL.out,e]
    rfl)
   go_wp2_with fail
   go_ret
   exact ⟨by rw [HF.out];first | done | rfl,rfl⟩
set_option maxRecDepth 100000 in
set_option maxHeartbeats 8000000 in
theorem vgrant_fin (h:SvAt o c w s S) (hf:Fut o w) (hc1:1≤c) (ho:S.out.length≤1000000000) (k:Nat) (hk16:k≤16) (hg:0≤(S.peers k).grants∧(S.peers k).grants≤1000000000) (id:Int) (l:Lk) :
 Calls Tryz.prog 102 #[.pointer (some ⟨s,0,none⟩), .int .i64 (k:Nat), .int .i64 id, .agg #[.int .i64 l.a, .int .i64 l.b, .int .i64 l.m]] w fun e w'=>e = .returned (.tuple #[])∧∃o',SvAt o' c w' s (S.grant k id l)∧Step o (telC c) w o' w':=by
 obtain ⟨P,h⟩:=h
 have hk17:(k:Int)<17:=by omega
 have HC:=Lib.hid hc1
 have HO:=Lib.hid ho
 have HV0:=h.alloc (.cells #[.int .i64 l.a, .int .i64 l.b, .int .i64 l.m] 47)
 have HK0:=Lib.hid (Keep.new hf 47 #[.int .i64 l.a, .int .i64 l.b, .int .i64 l.m])
 have HF0:=Lib.hid (hf.alloc (.cells #[.int .i64 l.a, .int .i64 l.b, .int .i64 l.m] 47))
 have HS0:=Lib.hid ((Step.refl o (telC c) w).alloc (.cells #[.int .i64 l.a, .int .i64 l.b, .int .i64 l.m] 47))
 have yg:(w.alloc (.cells #[.int .i64 l.a, .int .i64 l.b, .int .i64 l.m] 47)).cell? ⟨s,10+k*9+7,none⟩=some (.int .i64 (S.peers k).grants):=HV0.p (j:=7) hk16 (by omega) rfl
 have fg:=HV0.blk.frozen (10+k*9+7)
 obtain ⟨h1,h2⟩:=HV0.peer hc1 (i:=k) (j:=7) (v := .int .i64 ((S.peers k).grants+1)) (p := {S.peers k with grants:=(S.peers k).grants+1}) hk16 (by omega) rfl rfl
 have HV1:=Lib.hid h1.drew
 have HS1:=Lib.hid (h2.drew.mono (D:=telC c) (fun x hx=>by unfold only at hx;unfold telC;omega))
 have HK1:=Lib.hid ((HK0.out.step h2 (by unfold only;omega)).drew)
 have HF1:=Lib.hid ((HF0.out.step h2).drew)
 have HG:=Lib.hid (show S.grant k id l=(S.peer k {S.peers k with grants:=(S.peers k).grants+1}).tell k {Mg.zero with kind:=6,id:=id,locks := [l]} from rfl)
 have HOL:=Lib.hid (show (S.peer k {S.peers k with grants:=(S.peers k).grants+1}).out.length≤1000000000 from ho)
 have hwr:IntKind.i64.wrap ((S.peers k).grants+1)=(S.peers k).grants+1:=IntWalk.i64_in _ (by omega)
 generalize (S.peer k {S.peers k with grants:=(S.peers k).grants+1})=S1 at HV1 HG HOL
 clear h HV0 h1 h2 hf hc1 ho
 go_enter Tryz.func102,Tryz.ntmps102
 go_upto_region 1 with (fail)
 generalize w.alloc (.cells #[.int .i64 l.a, .int .i64 l.b, .int .i64 l.m] 47)=W0 at HV1 HK0 HF0 HS0 yg fg HS1 HK1 HF1 ⊢
 generalize w.heap.size=gl at HK0 HK1 ⊢
 go_region
 generalize (W0.setCell ⟨s,10+k*9+7,none⟩ (.int .i64 ((S.peers k).grants+1))).drew=W1 at HV1 HS1 HK1 HF1 ⊢
 clear yg fg
 obtain ⟨x0,x1,x2⟩:=HK1.out.1.three
 have HL1:=Lib.hid (own_one o W1 (HF1.out _ (Nat.le_refl _)) 47 [.int .i64 l.a, .int .i64 l.b, .int .i64 l.m])
 have HT:=Lib.hid (vtell_fin ⟨P,HV1.out.alloc (.cells #[.int .i64 l.a, .int .i64 l.b, .int .i64 l.m] 47)⟩ (HF1.out.alloc _) HC.out HOL.out k hk16 {Mg.zero with kind:=6,id:=id,locks := [l]} _ HL1.out)
 go_wp2_with fail
 refine HT.out.mono ?_
 rintro e w2 ⟨rfl,o2,hv2,hs2⟩
 have HV2:=Lib.hid hv2
 have HS2:=Lib.hid ((HS0.out.trans (HS1.out.alloc (.cells #[.int .i64 l.a, .int .i64 l.b, .int .i64 l.m] 47))).trans hs2)
 clear hv2 hs2
 go_wp2_with fail
 go_end0
 exact ⟨rfl,o2,by rw [HG.out];exact HV2.out,HS2.out⟩
end
end Go.Proofs.YtohgabdmmbngbaaGreatDoor
