import Derived.Test.YtldoeodkeieejaaGreatDoorKLawQ
import Derived.Test.YtldoeodkeieejaaGreatDoorKShelfC
import Derived.Test.YtldoeodkeieejaaGreatDoorKDiskF
import Derived.Test.YtldoeodkeieejaaGreatDoorKRecH
namespace Go.Proofs.YtldoeodkeieejaaGreatDoor
open Go.RowKit
def Dk.arrI (D:Dk) (b:Nat):Option Im:=if (D.load b).2=0∧0<(D.load b).1.ver then some (D.load b).1 else none
def Dk.arrL (D:Dk) (n:Nat):List Im:=(List.range n).filterMap D.arrI
def Dk.arrB (D:Dk) (n:Nat):List Int:=((List.range n).filter (fun b:Nat=>decide ((D.load (b:Int)).2≠0))).map (fun b:Nat=>(b:Int))
def redoneR (D:Dk) (ep:Nat) (node:Int):Int×Dk :=
 if D.scanE node≠0 then (15,D) else if (applyR D 0 ep (planOf (D.scan node))).e≠0 then (15,(applyR D 0 ep (planOf (D.scan node))).D) else (0,(applyR D 0 ep (planOf (D.scan node))).D)
def wholeR (D:Dk):Int×Dk :=
 if D.last=18446744073709551615 then (15,D) else if (D.admit 0 (D.last+1)).1≠0 then D.admit 0 (D.last+1)
 else if (redoneR (D.admit 0 (D.last+1)).2 (D.last+1) 1).1≠0 then redoneR (D.admit 0 (D.last+1)).2 (D.last+1) 1
 else if (redoneR (redoneR (D.admit 0 (D.last+1)).2 (D.last+1) 1).2 (D.last+1) 2).1≠0 then redoneR (redoneR (D.admit 0 (D.last+1)).2 (D.last+1) 1).2 (D.last+1) 2
 else if (redoneR (redoneR (D.admit 0 (D.last+1)).2 (D.last+1) 1).2 (D.last+1) 2).2.arrB 10≠[] then (15,(redoneR (redoneR (D.admit 0 (D.last+1)).2 (D.last+1) 1).2 (D.last+1) 2).2)
 else (0,(redoneR (redoneR (D.admit 0 (D.last+1)).2 (D.last+1) 1).2 (D.last+1) 2).2)
section
variable {D E:Dk} {k n e:Nat}
theorem load_block {b:Nat} (h:(D.load b).2=0):(D.load b).1.block=b:=by
 unfold Dk.load at h ⊢
 split at h
 ·rename_i h1
  exact absurd h h1
 rename_i h1
 rw [if_neg h1]
 unfold getB at h ⊢
 split at h
 ·exact absurd h (by decide)
 rename_i h2
 rw [if_neg h2]
 split at h
 ·rename_i h3
  rw [if_pos h3]
 rename_i h3
 rw [if_neg h3]
 split at h
 ·rename_i h4
  exact absurd h h4
 rename_i h4
 rw [if_neg h4]
 split at h
 ·rename_i h5
  exact absurd h h5
 rename_i h5
 rw [if_neg h5]
 split at h
 ·exact absurd h (by decide)
 rename_i h6
 rw [if_neg h6]
 split at h
 ·exact absurd h (by decide)
 rename_i h7
 rw [if_neg h7]
theorem store_zero {i:Im} (h:(D.store n e i).1=0):i.right∧∃b:Nat,b≤9∧i.block=b:=by
 unfold Dk.store at h
 split at h
 ·rename_i h1
  exact absurd h h1
 rename_i h1
 split at h
 ·exact absurd h (by simp)
 rename_i h2
 refine ⟨Classical.not_not.1 h2,?_⟩
 have h1:=Classical.not_not.1 h1
 unfold blockAt at h1
 split at h1
 ·exact absurd h1 (by simp)
 ·exact ⟨i.block.toNat,by omega,by omega⟩
def Newer (D E:Dk):Prop:=∀b:Nat,b≤9→∀i,D.load b=(i,0)→∃j,E.load b=(j,0)∧i.ver≤j.ver
theorem Newer.refl (D:Dk):Newer D D:=fun _ _ i h=>⟨i,h,Nat.le_refl _⟩
theorem Newer.trans {F:Dk} (h:Newer D E) (h2:Newer E F):Newer D F:=fun b hb i hi=>by
 obtain ⟨j,hj,v⟩:=h b hb i hi
 obtain ⟨l,hl,v2⟩:=h2 b hb j hj
 exact ⟨l,hl,Nat.le_trans v v2⟩
theorem Newer.of_sec (hd:Live D) (he:Live E) (h:∀k,D.sec k=E.sec k):Newer D E:=fun b hb i hi=>⟨i,by rw [←load_congr hd he hb (h _) (h _)];exact hi,Nat.le_refl _⟩
theorem newer_store (hc:Calm D k) (hn:n≤16) (he:D.table n=e) (h0:e≠0) {x:Im} (hr:x.right) (hv:x.ver<18446744073709551616) {c:Nat} (hb:c≤9) (hx:x.block=c) (hnew:∀i,D.load c=(i,0)→i.ver≤x.ver) :
 Newer D (D.store n e x).2∧Calm (D.store n e x).2 (k+2)∧(D.store n e x).2.table n=e:=by
 obtain ⟨s1,s2⟩:=store_ok hc hn he h0 hr hb hx
 refine ⟨fun b hbb i hi => ?_,s2,?_⟩
 ·by_cases hbc:b=c
  ·subst hbc
   exact ⟨x,store_load hc hn he h0 hr hv hb hx,hnew i hi⟩
  ·refine ⟨i,?_,Nat.le_refl _⟩
   rw [←hi]
   refine (load_congr hc.live s2.live hbb ?_ ?_).symm
   ·rw [s1]
    exact (store_sec (by omega)).symm
   ·rw [s1]
    exact (store_sec (by omega)).symm
 ·rw [s1]
  have:=(writeN_same D n (17+2*(c:Int)) (str (blkL x)) 2).2.2.2.2.2.1
  rw [this]
  exact he
theorem newer_apply (hn:n≤16) (h0:e≠0):∀(l:List Im) (m k:Nat) (D:Dk),(∀i∈l,i.ver<18446744073709551616)→Calm D k→D.table n=e→(applyGo n e l m D).e=0 →
 Newer D (applyGo n e l m D).D∧Calm (applyGo n e l m D).D (k+2*l.length)∧(applyGo n e l m D).D.table n=e
 | [],m,k,D,_,hc,he,_=>⟨Newer.refl D,hc,he⟩
 | x :: l,m,k,D,hv,hc,he,hE=>by
   rw [applyGo_cons] at hE ⊢
   have hvl:∀i∈l,i.ver<18446744073709551616:=fun i hi=>hv i (List.mem_cons_of_mem _ hi)
   split at hE
   ·rename_i h1
    exact absurd hE h1.1
   rename_i h1
   rw [if_neg h1]
   split at hE
   ·rename_i h2
    rw [if_pos h2]
    obtain ⟨a,b,c⟩:=newer_apply hn h0 l m k D hvl hc he hE
    exact ⟨a,b.mono (by rw [List.length_cons];omega),c⟩
   rename_i h2
   rw [if_neg h2]
   split at hE
   ·rename_i h3
    exact absurd hE h3
   rename_i h3
   rw [if_neg h3]
   obtain ⟨hr,c,hc9,hx⟩:=store_zero (Classical.not_not.1 h3)
   obtain ⟨a1,b1,c1⟩:=newer_store hc hn he h0 hr (hv x (List.mem_cons_self ..)) hc9 hx (fun i hi=>by
    rw [hx,hi] at h2
    simp only [tornE] at h2
    have:¬x.ver≤i.ver:=fun h=>h2 ⟨by simp,h⟩
    omega)
   obtain ⟨a2,b2,c2⟩:=newer_apply hn h0 l (m+1) (k+2) (D.store n e x).2 hvl b1 c1 hE
   exact ⟨a1.trans a2,b2.mono (by rw [List.length_cons];omega),c2⟩
theorem newer_applyR (hn:n≤16) (h0:e≠0) {l:List Im} (hv:∀i∈l,i.ver<18446744073709551616) (hc:Calm D k) (he:D.table n=e) (hE:(applyR D n e l).e=0) :
 Newer D (applyR D n e l).D∧Calm (applyR D n e l).D (k+2*l.length)∧(applyR D n e l).D.table n=e:=by
 unfold applyR at hE ⊢
 split at hE
 ·rename_i h1
  exact absurd hE h1
 rename_i h1
 rw [if_neg h1]
 obtain ⟨a,b,c⟩:=newer_apply hn h0 l 0 k D hv hc he (Classical.not_not.1 h1)
 split at hE
 ·rename_i h2
  rw [if_pos h2]
  exact ⟨a,b,c⟩
 rename_i h2
 rw [if_neg h2]
 obtain ⟨f1,f2⟩:=b.barrier hn c h0
 split at hE
 ·rename_i h3
  exact absurd hE h3
 rename_i h3
 rw [if_neg h3]
 refine ⟨a.trans (Newer.of_sec b.live f2.live (fun k => ?_)),f2,?_⟩
 ·rw [f1]
  exact (settle_sec _ _ _).symm
 ·rw [f1]
  show ((applyGo n e l 0 D).D.settle n).table n=e
  rw [settle_table]
  exact c
theorem newer_redone (h0:e≠0) (node:Int) (hc:Calm D k) (he:D.table 0=e) (hE:(redoneR D e node).1=0):Newer D (redoneR D e node).2∧Calm (redoneR D e node).2 (k+2000)∧(redoneR D e node).2.table 0=e:=by
 unfold redoneR at hE ⊢
 split at hE
 ·exact absurd hE (by simp)
 rename_i h1
 rw [if_neg h1]
 split at hE
 ·exact absurd hE (by simp)
 rename_i h2
 rw [if_neg h2]
 have hs:=scan_small D node
 have hp:=plan_small hs.2
 obtain ⟨a,b,c⟩:=newer_applyR (n:=0) (by omega) h0 (l:=planOf (D.scan node)) (fun i hi=>(hp.2 i hi).2.1) hc he (Classical.not_not.1 h2)
 exact ⟨a,b.mono (by have:=hp.1;have:=hs.1;omega),c⟩
theorem whole_more (hc:Calm D k) (hl:D.last<18446744073709551616) (hE:(wholeR D).1=0):Newer D (wholeR D).2∧∀b:Nat,b≤9→((wholeR D).2.load b).2=0:=by
 unfold wholeR at hE ⊢
 split at hE
 ·exact absurd hE (by simp)
 rename_i h1
 rw [if_neg h1]
 split at hE
 ·rename_i h2
  exact absurd hE h2
 rename_i h2
 rw [if_neg h2]
 obtain ⟨a1,a2⟩:=hc.admit (n:=0) (by omega) (e:=D.last+1) (by omega)
 have ht:(D.admit (0:Nat) (D.last+1)).2.table 0=D.last+1:=by
  rw [a1]
  show (if (0:Nat)=0 then D.last+1 else D.table 0)=_
  exact if_pos rfl
 have hn0:Newer D (D.admit (0:Nat) (D.last+1)).2:=Newer.of_sec hc.live a2.live (fun k=>by rw [a1];rfl)
 have h00:((0:Nat):Int)=0:=rfl
 rw [h00] at a2 ht hn0
 generalize (D.admit 0 (D.last+1)).2=D1 at *
 have hz:D.last+1≠0:=by omega
 split at hE
 ·rename_i h3
  exact absurd hE h3
 rename_i h3
 rw [if_neg h3]
 obtain ⟨b1,b2,b3⟩:=newer_redone hz 1 a2 ht (Classical.not_not.1 h3)
 generalize (redoneR D1 (D.last+1) 1).2=D2 at *
 split at hE
 ·rename_i h4
  exact absurd hE h4
 rename_i h4
 rw [if_neg h4]
 obtain ⟨c1,c2,c3⟩:=newer_redone hz 2 b2 b3 (Classical.not_not.1 h4)
 generalize (redoneR D2 (D.last+1) 2).2=D3 at *
 split at hE
 ·exact absurd hE (by simp)
 rename_i h5
 rw [if_neg h5]
 refine ⟨(hn0.trans b1).trans c1,fun b hb => ?_⟩
 have h5:D3.arrB 10 = []:=Classical.not_not.1 h5
 unfold Dk.arrB at h5
 have h5:=List.map_eq_nil_iff.1 h5
 have h6:=List.filter_eq_nil_iff.1 h5 b (List.mem_range.2 (by omega))
 simpa using h6
theorem arr_mem {n:Nat} {i:Im}:i∈D.arrL n↔∃b:Nat,b<n∧D.load b=(i,0)∧0<i.ver∧i.block=b:=by
 unfold Dk.arrL
 rw [List.mem_filterMap]
 constructor
 ·rintro ⟨b,hb,he⟩
  unfold Dk.arrI at he
  split at he
  ·rename_i h
   injection he with he
   refine ⟨b,List.mem_range.1 hb,?_,by rw [←he];exact h.2,by rw [←he];exact load_block h.1⟩
   rw [←he]
   exact Prod.ext rfl h.1
  ·cases he
 ·rintro ⟨b,hb,he,hv,_⟩
  refine ⟨b,List.mem_range.2 hb,?_⟩
  unfold Dk.arrI
  rw [he,if_pos ⟨rfl,hv⟩]
theorem whole_has (hc:Calm D k) (hl:D.last<18446744073709551616) (hE:(wholeR D).1=0) {i:Im} (hi:i∈D.arrL 10):∃j∈(wholeR D).2.arrL 10,j.block=i.block∧i.ver≤j.ver:=by
 obtain ⟨b,hb,he,hv,hbk⟩:=arr_mem.1 hi
 obtain ⟨j,hj,hle⟩:=(whole_more hc hl hE).1 b (by omega) i he
 have hjb:j.block=b:=by
  have:=load_block (D:=(wholeR D).2) (b:=b) (by rw [hj])
  rw [hj] at this
  exact this
 exact ⟨j,arr_mem.2 ⟨b,hb,hj,by omega,hjb⟩,by rw [hjb,hbk],hle⟩
end
structure RF where
 room:Nat
 ws:List RW
 off:Bool
 table:Nat→Nat
 words:Nat→Nat
 last:Nat
 armed:Bool
 left:Int
 keep:List Int
def pickAt (k:Int) (b:Bool) (l:List RW):Option RW:=(l.filter (fun x=>decide (x.at_=k) && (!b || x.lasts))).getLast?
def RF.at_ (R:RF) (k:Int) (b:Bool):ByteArray:=match pickAt k b R.ws with
 | some x=>x.data
 | none=>str (zer 64)
def toW (y:RW×Nat):Ws:=⟨y.1.node,y.1.at_,(y.2:Int),y.1.data⟩
def lst (P:RW×Nat→Bool) (L:List (RW×Nat)) (k:Int):Option (RW×Nat):=(L.filter (fun y=>decide (y.1.at_=k) && P y)).getLast?
structure Rows (D:Dk) (ws:List RW) (L:List (RW×Nat)):Prop where
 rows:L.map Prod.fst=ws
 rise:L.Pairwise (fun a b=>a.2<b.2)
 bound:∀y∈L,1≤y.2∧y.2≤D.seq
 waits:D.waits=(L.filter (fun y => !y.1.lasts)).map toW
 now:∀k,D.now k=(lst (fun _=>true) L k).map (fun y=>y.1.data)
 lasts:∀k,D.lasts k=(lst (fun y=>y.1.lasts) L k).map toW
def Ghost (G:List RW):Prop:=∀x∈G,x.lasts=true∧x.data=str (zer 64)
def GRows (D:Dk) (ws:List RW):Prop:=∃G L,Ghost G∧Rows D (G++ws) L
structure Sim (D:Dk) (R:RF):Prop where
 room:D.sectors=R.room
 on:D.on = !R.off
 table:D.table=R.table
 words:D.words=R.words
 last:D.last=R.last
 armed:D.armed=R.armed
 left:R.armed=true→D.left=R.left∧D.stays=R.keep∧0≤R.left
 rows:GRows D R.ws
theorem lst_one {P:RW×Nat→Bool} {L:List (RW×Nat)} (hr:L.Pairwise (fun a b=>a.2<b.2)) {x:RW×Nat} (hx:x∈L) (k:Int) :
 lst (fun y=>P y || decide (y.2=x.2)) L k=if x.1.at_=k then (match lst P L k with
  | none=>some x
  | some y=>if y.2<x.2 then some x else some y) else lst P L k:=by
 obtain ⟨A,B,rfl⟩:=List.append_of_mem hx
 obtain ⟨hA,hB,hAB⟩:=List.pairwise_append.1 hr
 obtain ⟨hxB,_⟩:=List.pairwise_cons.1 hB
 have ea:A.filter (fun y=>decide (y.1.at_=k) && (P y || decide (y.2=x.2)))=A.filter (fun y=>decide (y.1.at_=k) && P y):=by
  refine List.filter_congr (fun y hy => ?_)
  have:y.2≠x.2:=Nat.ne_of_lt (hAB y hy x (List.mem_cons_self ..))
  simp [this]
 have eb:B.filter (fun y=>decide (y.1.at_=k) && (P y || decide (y.2=x.2)))=B.filter (fun y=>decide (y.1.at_=k) && P y):=by
  refine List.filter_congr (fun y hy => ?_)
  have:y.2≠x.2:=Nat.ne_of_gt (hxB y hy)
  simp [this]
 unfold lst
 rw [List.filter_append,List.filter_append,List.filter_cons,List.filter_cons,ea,eb]
 by_cases hk:x.1.at_=k
 ·rw [if_pos hk]
  simp only [hk,decide_true,Bool.true_and,Bool.or_true,if_true]
  generalize hFB:B.filter (fun y=>decide (y.1.at_=k) && P y)=FB
  generalize hFA:A.filter (fun y=>decide (y.1.at_=k) && P y)=FA
  rcases List.eq_nil_or_concat FB with rfl | ⟨FB',z,rfl⟩
  ·rw [List.getLast?_append,List.getLast?_singleton,Option.some_or]
   by_cases hp:P x=true
   ·rw [if_pos hp,List.getLast?_append,List.getLast?_singleton,Option.some_or]
    simp
   ·rw [if_neg hp,List.append_nil]
    cases hl:FA.getLast? with
    | none=>rfl
    | some y =>
      have hy:y∈FA:=List.mem_of_getLast? hl
      rw [←hFA] at hy
      have:=hAB y (List.mem_filter.1 hy).1 x (List.mem_cons_self ..)
      simp [this]
  ·have hz:z∈B:=by
    have:z∈B.filter (fun y=>decide (y.1.at_=k) && P y):=by rw [hFB];simp
    exact (List.mem_filter.1 this).1
   have hlt:=hxB z hz
   have e1:∀(M:List (RW×Nat)),(FA++(M++FB'.concat z)).getLast? = some z:=fun M=>by simp
   have e2:(FA++(x :: FB'.concat z)).getLast? = some z:=e1 [x]
   rw [e2]
   by_cases hp:P x=true
   ·rw [if_pos hp,e2]
    simp;omega
   ·rw [if_neg hp]
    have e3:(FA++FB'.concat z).getLast? = some z:=e1 []
    rw [e3]
    have h9:¬z.2<x.2:=by omega
    simp [h9]
 ·simp [hk]
theorem keep_lst {D:Dk} {P:RW×Nat→Bool} {L:List (RW×Nat)} (hr:L.Pairwise (fun a b=>a.2<b.2)) (h1:∀y∈L,1≤y.2) (hl:∀k,D.lasts k=(lst P L k).map toW) {x:RW×Nat} (hx:x∈L) :
 ∀k,(D.keep (toW x)).lasts k=(lst (fun y=>P y || decide (y.2=x.2)) L k).map toW:=by
 intro k
 have hx1:=h1 x hx
 rw [lst_one hr hx]
 unfold Dk.keep
 have ha:(toW x).at_=x.1.at_:=rfl
 rw [ha]
 by_cases hk:x.1.at_=k
 ·subst hk
  rw [if_pos rfl,hl]
  cases hq:lst P L x.1.at_ with
  | none =>
    rw [if_pos (show ((Option.map toW none).getD Ws.zero).seq<(toW x).seq from (show (0:Int)<((x.2:Nat):Int) by omega))]
    show upd D.lasts x.1.at_ (toW x) x.1.at_=_
    unfold upd
    rw [if_pos rfl]
    rfl
  | some y =>
    by_cases hlt:y.2<x.2
    ·rw [if_pos (show ((Option.map toW (some y)).getD Ws.zero).seq<(toW x).seq from (show ((y.2:Nat):Int)<((x.2:Nat):Int) by omega))]
     show upd D.lasts x.1.at_ (toW x) x.1.at_=(if y.2<x.2 then some x else some y).map toW
     unfold upd
     rw [if_pos rfl,if_pos hlt]
     rfl
    ·rw [if_neg (show ¬((Option.map toW (some y)).getD Ws.zero).seq<(toW x).seq from (show ¬((y.2:Nat):Int)<((x.2:Nat):Int) by omega)),hl,hq]
     show (some y).map toW=(if y.2<x.2 then some x else some y).map toW
     rw [if_neg hlt]
 ·rw [if_neg hk,←hl]
  split
  ·show upd D.lasts x.1.at_ (toW x) k=_
   unfold upd
   rw [if_neg (fun e=>hk e.symm)]
  ·rfl
theorem keeps_lst {L:List (RW×Nat)} (hr:L.Pairwise (fun a b=>a.2<b.2)) (h1:∀y∈L,1≤y.2):∀(W:List (RW×Nat)) (D:Dk) (P:RW×Nat→Bool),(∀x∈W,x∈L)→(∀k,D.lasts k=(lst P L k).map toW) →
 ∀k,((W.map toW).foldl Dk.keep D).lasts k=(lst (fun y=>P y || W.any (fun x=>decide (y.2=x.2))) L k).map toW
 | [],D,P,_,hl,k=>by
   rw [show (fun y=>P y || ([]:List (RW×Nat)).any (fun x=>decide (y.2=x.2)))=P by funext y;simp]
   exact hl k
 | x :: W,D,P,hW,hl,k=>by
   have h:=keeps_lst hr h1 W (D.keep (toW x)) (fun y=>P y || decide (y.2=x.2)) (fun z hz=>hW z (List.mem_cons_of_mem _ hz)) (keep_lst hr h1 hl (hW x (List.mem_cons_self ..))) k
   rw [List.map_cons,List.foldl_cons,h]
   congr 2
   funext y
   simp [Bool.or_assoc]
theorem seq_inj {L:List (RW×Nat)} (hr:L.Pairwise (fun a b=>a.2<b.2)) {x y:RW×Nat} (hx:x∈L) (hy:y∈L) (h:y.2=x.2):y=x:=by
 obtain ⟨A,B,rfl⟩:=List.append_of_mem hx
 obtain ⟨_,hB,hAB⟩:=List.pairwise_append.1 hr
 obtain ⟨hxB,_⟩:=List.pairwise_cons.1 hB
 rcases List.mem_append.1 hy with hy | hy
 ·have:=hAB y hy x (List.mem_cons_self ..)
  omega
 ·rcases List.mem_cons.1 hy with rfl | hy
  ·rfl
  ·have:=hxB y hy
   omega
theorem rk_lasts (n:Int) (x:RW):(x.keep n).lasts=(x.lasts || decide (x.node=n)):=by
 unfold RW.keep
 by_cases h:x.node=n
 ·rw [if_pos h];simp [h]
 ·rw [if_neg h];simp [h]
theorem rk_same (n:Int) (x:RW):(x.keep n).node=x.node∧(x.keep n).at_=x.at_∧(x.keep n).data=x.data:=by
 unfold RW.keep
 split <;> exact ⟨rfl,rfl,rfl⟩
theorem Rows.settle {D:Dk} {ws:List RW} {L:List (RW×Nat)} (h:Rows D ws L) (n:Int):Rows (D.settle n) (ws.map (RW.keep n)) (L.map (fun y=>(y.1.keep n,y.2))):=by
 have hq:(D.settle n).seq=D.seq:=(settle_same D n).2.2.2.2.2.2
 have hf:∀y:RW×Nat,toW (y.1.keep n,y.2)=toW y:=fun y=>by
  obtain ⟨a,b,c⟩:=rk_same n y.1
  simp [toW,a,b,c]
 refine ⟨?_,?_,?_,?_,?_,?_⟩
 ·rw [←h.rows,List.map_map,List.map_map]
  rfl
 ·exact List.pairwise_map.2 h.rise
 ·intro y hy
  obtain ⟨z,hz,rfl⟩:=List.mem_map.1 hy
  rw [hq]
  exact h.bound z hz
 ·show D.waits.filter (fun x=>¬x.node=n)=_
  rw [h.waits,List.filter_map,List.filter_filter,List.filter_map,List.map_map]
  rw [show (toW∘fun y:RW×Nat=>(y.1.keep n,y.2))=toW from funext hf]
  congr 1
  refine List.filter_congr (fun y _ => ?_)
  show (decide (¬y.1.node=n) && !y.1.lasts) = !(y.1.keep n).lasts
  rw [rk_lasts]
  by_cases hn:y.1.node=n <;> simp [hn]
 ·intro k
  rw [settle_now,h.now]
  unfold lst
  rw [List.filter_map,List.getLast?_map,Option.map_map]
  congr 1
  ·funext y
   exact ((rk_same n y.1).2.2).symm
  ·congr 1
   refine List.filter_congr (fun y _ => ?_)
   show (decide (y.1.at_=k) && true)=(decide ((y.1.keep n).at_=k) && true)
   rw [(rk_same n y.1).2.1]
 ·intro k
  have hw:D.waits.filter (fun x=>x.node=n)=(L.filter (fun y => !y.1.lasts && decide (y.1.node=n))).map toW:=by
   rw [h.waits,List.filter_map,List.filter_filter]
   congr 1
   refine List.filter_congr (fun y _ => ?_)
   show (decide (y.1.node=n) && !y.1.lasts)=_
   exact Bool.and_comm _ _
  have hk:=keeps_lst h.rise (fun y hy=>(h.bound y hy).1) (L.filter (fun y => !y.1.lasts && decide (y.1.node=n))) D (fun y=>y.1.lasts) (fun x hx=>(List.mem_filter.1 hx).1) h.lasts k
  rw [←hw] at hk
  show ((D.waits.filter (fun x=>x.node=n)).foldl Dk.keep D).lasts k=_
  rw [hk]
  unfold lst
  rw [List.filter_map,List.getLast?_map,Option.map_map]
  rw [show (toW∘fun y:RW×Nat=>(y.1.keep n,y.2))=toW from funext hf]
  congr 2
  refine List.filter_congr (fun y hy => ?_)
  show (decide (y.1.at_=k) && (y.1.lasts || _))=(decide ((y.1.keep n).at_=k) && (y.1.keep n).lasts)
  rw [(rk_same n y.1).2.1,rk_lasts]
  congr 1
  by_cases hl:y.1.lasts=true
  ·simp [hl]
  ·have hl:y.1.lasts=false:=by simpa using hl
   rw [hl,Bool.false_or,Bool.false_or]
   by_cases hn:y.1.node=n
   ·rw [decide_eq_true hn]
    refine List.any_eq_true.2 ⟨y,List.mem_filter.2 ⟨hy,by simp [hl,hn]⟩,by simp⟩
   ·rw [decide_eq_false hn]
    refine List.any_eq_false.2 (fun x hx => ?_)
    obtain ⟨hx1,hx2⟩:=List.mem_filter.1 hx
    simp only [decide_eq_true_eq]
    intro e
    have:=seq_inj h.rise hx1 hy e
    subst this
    simp [hn] at hx2
theorem Rows.write1 {D:Dk} {ws:List RW} {L:List (RW×Nat)} (h:Rows D ws L) (n a:Int) (s:ByteArray):Rows (D.write1 n a s) (ws ++ [⟨n,a,s,false⟩]) (L ++ [(⟨n,a,s,false⟩,D.seq+1)]):=by
 refine ⟨by rw [List.map_append,h.rows];rfl,?_,?_,?_,?_,?_⟩
 ·refine List.pairwise_append.2 ⟨h.rise,List.pairwise_singleton ..,fun x hx y hy => ?_⟩
  rw [List.mem_singleton.1 hy]
  have:=(h.bound x hx).2
  show x.2<D.seq+1
  omega
 ·intro y hy
  show 1≤y.2∧y.2≤D.seq+1
  rcases List.mem_append.1 hy with hy | hy
  ·have:=h.bound y hy
   omega
  ·rw [List.mem_singleton.1 hy]
   show 1≤D.seq+1∧D.seq+1≤D.seq+1
   omega
 ·show D.waits ++ [_]=_
  rw [List.filter_append,List.map_append,h.waits]
  rfl
 ·intro k
  show upd D.now a s k=_
  unfold upd lst
  rw [List.filter_append,List.filter_cons]
  by_cases hk:k=a
  ·rw [if_pos hk,hk]
   simp
  ·have hk2:¬a=k:=fun e=>hk e.symm
   rw [if_neg hk]
   simp only [hk2,decide_false,Bool.false_and,List.filter_nil]
   rw [h.now]
   simp [lst]
 ·intro k
  show D.lasts k=_
  unfold lst
  rw [List.filter_append,List.filter_cons,h.lasts]
  simp [lst]
theorem Rows.writeN {D:Dk} {ws:List RW} {L:List (RW×Nat)} (h:Rows D ws L) (n a:Int) (data:ByteArray):∀m,∃L',Rows (D.writeN n a data m) (ws++rwsN n a data m) L'
 | 0=>⟨L,by
    show Rows D (ws++rwsN n a data 0) L
    have e:rwsN n a data 0 = []:=rfl
    rw [e,List.append_nil]
    exact h⟩
 | m+1=>by
    obtain ⟨L',h'⟩:=Rows.writeN h n a data m
    have h2:=h'.write1 n (a+m) (sect data m)
    rw [List.append_assoc,←rwsN_succ] at h2
    exact ⟨_,h2⟩
theorem Rows.at_ {D:Dk} {ws:List RW} {L:List (RW×Nat)} (h:Rows D ws L) (k:Int):pickAt k false ws=(lst (fun _=>true) L k).map Prod.fst:=by
 unfold pickAt lst
 rw [←h.rows,List.filter_map,List.getLast?_map]
 rfl
theorem pick_ghost {G:List RW} (hG:Ghost G) (k:Int) (ws:List RW):((pickAt k false (G++ws)).map (fun y:RW=>y.data)).getD (str (zer 64))=((pickAt k false ws).map (fun y:RW=>y.data)).getD (str (zer 64)):=by
 unfold pickAt
 rw [List.filter_append,List.getLast?_append]
 cases h:(ws.filter (fun x=>decide (x.at_=k) && (!false || x.lasts))).getLast? with
 | some y=>rfl
 | none =>
   rw [Option.none_or]
   cases h2:(G.filter (fun x=>decide (x.at_=k) && (!false || x.lasts))).getLast? with
   | none=>rfl
   | some y=>exact (hG y (List.mem_filter.1 (List.mem_of_getLast? h2)).1).2
theorem RF.at_get (R:RF) (k:Int) (b:Bool):R.at_ k b=((pickAt k b R.ws).map (fun y:RW=>y.data)).getD (str (zer 64)):=by
 unfold RF.at_
 cases pickAt k b R.ws <;> rfl
theorem Sim.sec {D:Dk} {R:RF} (h:Sim D R) (k:Int):D.sec k=R.at_ k false:=by
 obtain ⟨G,L,hG,hL⟩:=h.rows
 rw [R.at_get,←pick_ghost hG,hL.at_]
 unfold Dk.sec
 rw [hL.now,Option.map_map]
 rfl
theorem Ghost.keep {G:List RW} (hG:Ghost G) (n:Int):Ghost (G.map (RW.keep n)):=by
 intro x hx
 obtain ⟨y,hy,rfl⟩:=List.mem_map.1 hx
 exact ⟨by rw [rk_lasts,(hG y hy).1];rfl,by rw [(rk_same n y).2.2];exact (hG y hy).2⟩
theorem GRows.settle {D:Dk} {ws:List RW} (h:GRows D ws) (n:Int):GRows (D.settle n) (ws.map (RW.keep n)):=by
 obtain ⟨G,L,hG,hL⟩:=h
 refine ⟨G.map (RW.keep n),L.map (fun y=>(y.1.keep n,y.2)),hG.keep n,?_⟩
 rw [←List.map_append]
 exact hL.settle n
theorem GRows.writeN {D:Dk} {ws:List RW} (h:GRows D ws) (n a:Int) (data:ByteArray) (m:Nat):GRows (D.writeN n a data m) (ws++rwsN n a data m):=by
 obtain ⟨G,L,hG,hL⟩:=h
 obtain ⟨L',h'⟩:=hL.writeN n a data m
 rw [List.append_assoc] at h'
 exact ⟨G,L',hG,h'⟩
theorem GRows.same {D E:Dk} {ws:List RW} (h:GRows D ws) (h1:E.seq=D.seq) (h2:E.waits=D.waits) (h3:E.now=D.now) (h4:E.lasts=D.lasts):GRows E ws:=by
 obtain ⟨G,L,hG,hL⟩:=h
 exact ⟨G,L,hG,hL.rows,hL.rise,by rw [h1];exact hL.bound,by rw [h2];exact hL.waits,by rw [h3];exact hL.now,by rw [h4];exact hL.lasts⟩
theorem ghost_waits {G:List RW} (hG:Ghost G) (P:RW→Bool) (ws:List RW):((G++ws).filter (fun x=>P x && !x.lasts))=ws.filter (fun x=>P x && !x.lasts):=by
 rw [List.filter_append,List.filter_eq_nil_iff.2 (fun x hx=>by simp [(hG x hx).1]),List.nil_append]
def cutW (keep:List Int):Nat→List RW→List RW
 | _,[] => []
 | k,x :: l=>if x.lasts=true then x :: cutW keep k l else if stayB keep k=true then {x with lasts:=true} :: cutW keep (k+1) l else cutW keep (k+1) l
def waitsN (l:List RW):Nat:=(l.filter (fun x => !x.lasts)).length
def RF.cut (R:RF) (keep:List Int):Nat×RF:=if R.off=true then (0,{R with armed:=false}) else (waitsN R.ws,{R with ws:=cutW keep 0 R.ws,off:=true,armed:=false})
def RF.spend (R:RF):Int×RF:=if R.armed=false then (0,R) else if R.left=0 then (14,(R.cut R.keep).2) else (0,{R with left:=R.left - 1})
def stayA {α:Type} (keep:List Int):Nat→List α→List α
 | _,[] => []
 | k,x :: l=>if stayB keep k=true then x :: stayA keep (k+1) l else stayA keep (k+1) l
theorem stayA_map {α β:Type} (f:α→β) (keep:List Int):∀(l:List α) (k:Nat),stayA keep k (l.map f)=(stayA keep k l).map f
 | [],_=>rfl
 | x :: l,k=>by
   simp only [List.map_cons,stayA,stayA_map f keep l (k+1)]
   split <;> rfl
theorem stayA_sub {α:Type} (keep:List Int):∀(l:List α) (k:Nat),∀x∈stayA keep k l,x∈l
 | [],_,x,h=>h
 | y :: l,k,x,h=>by
   unfold stayA at h
   split at h
   ·rcases List.mem_cons.1 h with rfl | h
    ·exact List.mem_cons_self ..
    ·exact List.mem_cons_of_mem _ (stayA_sub keep l (k+1) x h)
   ·exact List.mem_cons_of_mem _ (stayA_sub keep l (k+1) x h)
theorem stayA_app {α:Type} (keep:List Int) (x:α):∀(l:List α) (k:Nat),stayA keep k (l ++ [x])=stayA keep k l++(if stayB keep (k+l.length)=true then [x] else [])
 | [],k=>by simp [stayA]
 | y :: l,k=>by
   have h:=stayA_app keep x l (k+1)
   rw [show k+1+l.length=k+(y :: l).length by simp;omega] at h
   show stayA keep k (y :: (l ++ [x]))=_
   unfold stayA
   rw [h]
   split <;> simp
theorem cutN_keeps (D:Dk) (keep:List Int):∀m,m≤D.waits.length→D.cutN keep m=(stayA keep 0 (D.waits.take m)).foldl Dk.keep D
 | 0,_=>rfl
 | m+1,h=>by
   have ih:=cutN_keeps D keep m (by omega)
   have hx:D.waits[m]? = some (D.waits[m]'(by omega)):=List.getElem?_eq_getElem (by omega)
   rw [List.take_add_one,hx,Option.toList_some,stayA_app,List.foldl_append,←ih,List.length_take,Nat.min_eq_left (by omega),Nat.zero_add]
   rw [cutN_succ hx]
   split <;> rfl
theorem cutW_eq (keep:List Int):∀(L:List (RW×Nat)) (k:Nat),L.Pairwise (fun a b=>a.2<b.2) →
 cutW keep k (L.map Prod.fst)=(L.filter (fun y=>y.1.lasts || (stayA keep k (L.filter (fun y => !y.1.lasts))).any (fun x=>decide (y.2=x.2)))).map (fun y => {y.1 with lasts:=true})
 | [],_,_=>rfl
 | y :: L,k,h=>by
   obtain ⟨hy,hL⟩:=List.pairwise_cons.1 h
   rw [List.map_cons]
   unfold cutW
   by_cases hl:y.1.lasts=true
   ·rw [if_pos hl,cutW_eq keep L k hL]
    have e:(y :: L).filter (fun y => !y.1.lasts)=L.filter (fun y => !y.1.lasts):=by rw [List.filter_cons];simp [hl]
    rw [e,List.filter_cons]
    simp only [hl,Bool.true_or,if_true,List.map_cons]
    congr 1
    cases hq:y.1
    rw [hq] at hl
    simp only at hl
    rw [hl]
   ·have hl2:y.1.lasts=false:=by simpa using hl
    have e:(y :: L).filter (fun y => !y.1.lasts)=y :: L.filter (fun y => !y.1.lasts):=by rw [List.filter_cons];simp [hl2]
    rw [if_neg hl,e]
    have hno:∀z∈L,¬z.2=y.2:=fun z hz=>by have:=hy z hz;omega
    by_cases hs:stayB keep k=true
    ·rw [if_pos hs,cutW_eq keep L (k+1) hL]
     simp only [stayA,if_pos hs]
     rw [List.filter_cons]
     simp only [List.any_cons,decide_true,Bool.true_or,Bool.or_true,if_true,List.map_cons]
     congr 2
     refine List.filter_congr (fun z hz => ?_)
     simp [hno z hz]
    ·rw [if_neg hs,cutW_eq keep L (k+1) hL]
     simp only [stayA,if_neg hs]
     rw [List.filter_cons]
     have hf:(stayA keep (k+1) (L.filter (fun y => !y.1.lasts))).any (fun x=>decide (y.2=x.2))=false:=by
      refine List.any_eq_false.2 (fun x hx => ?_)
      have:=hno x (List.mem_filter.1 (stayA_sub keep _ _ x hx)).1
      simp only [decide_eq_true_eq]
      omega
     rw [hl2,hf]
     simp
theorem Rows.cut {D:Dk} {ws:List RW} {L:List (RW×Nat)} (h:Rows D ws L) (keep:List Int):∃L',Rows (((D.arm (-1) []).cutN keep D.waits.length).off) (cutW keep 0 ws) L':=by
 have hse:(((D.arm (-1) []).cutN keep D.waits.length).off).seq=D.seq:=(cutN_same (D.arm (-1) []) keep D.waits.length).2.1
 have hlast:∀k,((D.arm (-1) []).cutN keep D.waits.length).lasts k=(lst (fun y=>y.1.lasts || (stayA keep 0 (L.filter (fun y => !y.1.lasts))).any (fun x=>decide (y.2=x.2))) L k).map toW:=by
  intro k
  rw [cutN_keeps (D.arm (-1) []) keep D.waits.length (Nat.le_refl _)]
  have e:(D.arm (-1) []).waits.take D.waits.length=(L.filter (fun y => !y.1.lasts)).map toW:=by
   show D.waits.take D.waits.length=_
   rw [List.take_length,h.waits]
  rw [e,stayA_map]
  exact keeps_lst h.rise (fun y hy=>(h.bound y hy).1) _ (D.arm (-1) []) (fun y=>y.1.lasts) (fun x hx=>(List.mem_filter.1 (stayA_sub keep _ _ x hx)).1) h.lasts k
 generalize hP:(fun y:RW×Nat=>y.1.lasts || (stayA keep 0 (L.filter (fun y => !y.1.lasts))).any (fun x=>decide (y.2=x.2)))=P at hlast
 have hw:=cutW_eq keep L 0 h.rise
 rw [hP,h.rows] at hw
 have hl2:∀(k:Int) (Q:RW×Nat→Bool),(∀y:RW×Nat,Q (({y.1 with lasts:=true}:RW),y.2)=true)→lst Q ((L.filter P).map (fun y:RW×Nat=>(({y.1 with lasts:=true}:RW),y.2))) k=(lst P L k).map (fun y:RW×Nat=>(({y.1 with lasts:=true}:RW),y.2)):=by
  intro k Q hQ
  unfold lst
  rw [List.filter_map,List.getLast?_map,List.filter_filter]
  congr 2
  refine List.filter_congr (fun y _ => ?_)
  show (decide (y.1.at_=k) && Q (({y.1 with lasts:=true}:RW),y.2) && P y)=_
  rw [hQ,Bool.and_true]
 refine ⟨(L.filter P).map (fun y:RW×Nat=>(({y.1 with lasts:=true}:RW),y.2)),?_,?_,?_,?_,?_,?_⟩
 ·rw [hw,List.map_map]
  rfl
 ·exact List.pairwise_map.2 (h.rise.filter P)
 ·intro y hy
  obtain ⟨z,hz,rfl⟩:=List.mem_map.1 hy
  rw [hse]
  exact h.bound z (List.mem_filter.1 hz).1
 ·show ([]:List Ws)=_
  rw [List.filter_map]
  rw [List.filter_eq_nil_iff.2 (fun y _=>by simp)]
  rfl
 ·intro k
  show (((D.arm (-1) []).cutN keep D.waits.length).lasts k).map (fun x:Ws=>x.data)=_
  rw [hlast,hl2 k _ (fun _=>rfl),Option.map_map,Option.map_map]
  rfl
 ·intro k
  show ((D.arm (-1) []).cutN keep D.waits.length).lasts k=_
  rw [hlast,hl2 k _ (fun _=>rfl),Option.map_map]
  rfl
theorem ghost_cut {G:List RW} (hG:Ghost G) (keep:List Int) (ws:List RW):cutW keep 0 (G++ws)=G++cutW keep 0 ws:=by
 induction G with
 | nil=>rfl
 | cons x G ih =>
   rw [List.cons_append,List.cons_append,←ih (fun y hy=>hG y (List.mem_cons_of_mem _ hy))]
   show cutW keep 0 (x :: (G++ws))=_
   unfold cutW
   rw [if_pos (hG x (List.mem_cons_self ..)).1]
   cases G++ws <;> rfl
section
variable {D:Dk} {R:RF}
theorem Sim.cut (h:Sim D R) (keep:List Int):(D.cut keep).1=(R.cut keep).1∧Sim (D.cut keep).2 (R.cut keep).2:=by
 obtain ⟨G,L,hG,hL⟩:=h.rows
 obtain ⟨c1,c2,c3,c4,c5,c6,c7⟩:=cutN_same (D.arm (-1) []) keep D.waits.length
 unfold Dk.cut RF.cut
 by_cases ho:R.off=true
 ·rw [if_pos (show D.on=false by rw [h.on,ho];rfl),if_pos ho]
  exact ⟨rfl,h.room,h.on,h.table,h.words,h.last,rfl,(fun e=>by cases e),G,L,hG,hL.rows,hL.rise,hL.bound,hL.waits,hL.now,hL.lasts⟩
 ·have ho2:R.off=false:=by simpa using ho
  rw [if_neg (show ¬D.on=false by rw [h.on,ho2];simp),if_neg ho]
  refine ⟨?_,?_⟩
  ·show D.waits.length=waitsN R.ws
   have e:=congrArg List.length (ghost_waits hG (fun _=>true) R.ws)
   simp only [Bool.true_and] at e
   unfold waitsN
   rw [hL.waits,List.length_map,←e,←hL.rows,List.filter_map,List.length_map]
   rfl
  ·obtain ⟨L',h'⟩:=hL.cut keep
   rw [ghost_cut hG] at h'
   exact ⟨c1.trans h.room,rfl,c3.trans h.table,c4.trans h.words,c5.trans h.last,c7,(fun e=>by cases e),G,L',hG,h'⟩
theorem Sim.spend (h:Sim D R) (h62:R.left≤9223372036854775807):(D.goes.1=true↔R.spend.1≠0)∧(R.spend.1=0∨R.spend.1=14)∧Sim D.goes.2 R.spend.2:=by
 unfold Dk.goes RF.spend
 by_cases ha:R.armed=false
 ·rw [if_pos (h.armed.trans ha),if_pos ha]
  exact ⟨by simp, .inl rfl,h⟩
 ·have ha2:R.armed=true:=by simpa using ha
  obtain ⟨h1,h2,h3⟩:=h.left ha2
  rw [if_neg (by rw [h.armed];exact ha),if_neg ha]
  by_cases hl:R.left=0
  ·rw [if_neg (by omega),if_pos hl,h2]
   exact ⟨by simp, .inr rfl,(h.cut _).2⟩
  ·rw [if_pos (by omega),if_neg hl]
   have hw:wrap64 (D.left - 1)=D.left - 1:=by
    rw [h1]
    unfold wrap64
    omega
   refine ⟨by simp, .inl rfl,h.room,h.on,h.table,h.words,h.last,h.armed,fun _=>⟨?_,h2,?_⟩,h.rows.same rfl rfl rfl rfl⟩
   ·show wrap64 (D.left - 1)=R.left - 1
    rw [hw,h1]
   ·show 0≤R.left - 1
    omega
end
def nodeOk (n:Int):Bool:=decide (0≤n∧n≤16)
def RF.may (R:RF) (n:Int) (e:Nat):Int:=if R.off=true then 14 else if nodeOk n=false then 1 else if e=0∨e≠R.table n.toNat then 34 else 0
def RF.write (R:RF) (n:Int) (e:Nat) (at_:Int) (data:ByteArray):Int×RF :=
 if R.off=true then (14,R) else if nodeOk n=false∨data.size % 64≠0∨data.size / 64<1∨16<data.size / 64 then (1,R)
 else if R.may n e≠0 then (R.may n e,R) else if at_<0∨(R.room:Int) - ((data.size / 64:Nat):Int)<at_ then (30,R)
 else if R.spend.1≠0 then (R.spend.1,R.spend.2) else (0,{R.spend.2 with ws:=R.spend.2.ws++rwsN n at_ data (data.size / 64)})
def RF.settle (R:RF) (n:Int):RF := {R with ws:=R.ws.map (RW.keep n)}
def RF.barrier (R:RF) (n:Int) (e:Nat):Int×RF:=if R.may n e≠0 then (R.may n e,R) else if R.spend.1≠0 then (R.spend.1,R.spend.2) else (0,R.spend.2.settle n)
def RF.fence (R:RF) (n:Int):Int×RF:=if R.off=true then (14,R) else if nodeOk n=false then (1,R) else if R.spend.1≠0 then (14,R.spend.2) else (0,{R.spend.2.settle n with table:=fun j=>if j=n.toNat then 0 else R.spend.2.table j})
def RF.put (R:RF) (n:Int) (v:Nat):Int×RF:=if R.off=true then (14,R) else if nodeOk n=false then (1,R) else if R.spend.1≠0 then (14,R.spend.2) else (0,{R.spend.2 with words:=fun j=>if j=n.toNat then v else R.spend.2.words j})
def RF.readE (R:RF) (at_ n:Int):Int:=if R.off=true then 14 else if n<1∨400<n∨at_<0∨(R.room:Int) - n<at_ then 30 else 0
def RF.readL (R:RF) (at_:Int) (n:Nat):List UInt8:=(List.range n).flatMap (fun i:Nat=>(R.at_ (at_+(i:Int)) false).data.toList)
def RF.readS (R:RF) (at_ n:Int):ByteArray:=if R.readE at_ n=0 then str (R.readL at_ n.toNat) else ⟨#[]⟩
def RF.loadE1 (R:RF) (b:Int):Int:=if (blockAt b).2≠0 then (blockAt b).2 else R.readE (blockAt b).1 2
def RF.load (R:RF) (b:Int):Im×Int:=if R.loadE1 b≠0 then (Im.zero,R.loadE1 b) else getB b (R.readS (blockAt b).1 2)
def RF.store (R:RF) (n:Int) (e:Nat) (i:Im):Int×RF:=if (blockAt i.block).2≠0 then ((blockAt i.block).2,R) else if ¬i.right then (1,R) else R.write n e (blockAt i.block).1 (str (blkL i))
structure ApF where
 n:Nat
 e:Int
 R:RF
def applyGoF (node:Int) (epoch:Nat):List Im→Nat→RF→ApF
 | [],n,R=>⟨n,0,R⟩
 | i :: l,n,R=>if (R.load i.block).2≠0∧tornE (R.load i.block).2=false then ⟨0,(R.load i.block).2,R⟩
   else if tornE (R.load i.block).2=false∧i.ver≤(R.load i.block).1.ver then applyGoF node epoch l n R
   else if (R.store node epoch i).1≠0 then ⟨0,(R.store node epoch i).1,(R.store node epoch i).2⟩
   else applyGoF node epoch l (n+1) (R.store node epoch i).2
def applyF (R:RF) (node:Int) (epoch:Nat) (l:List Im):ApF :=
 if (applyGoF node epoch l 0 R).e≠0 then applyGoF node epoch l 0 R else if (applyGoF node epoch l 0 R).n=0 then applyGoF node epoch l 0 R
 else if ((applyGoF node epoch l 0 R).R.barrier node epoch).1≠0 then ⟨0,((applyGoF node epoch l 0 R).R.barrier node epoch).1,((applyGoF node epoch l 0 R).R.barrier node epoch).2⟩
 else ⟨(applyGoF node epoch l 0 R).n,0,((applyGoF node epoch l 0 R).R.barrier node epoch).2⟩
def RF.leftOk (R:RF):Prop:=R.left≤9223372036854775807
section
variable {D:Dk} {R:RF}
theorem spend_keeps (R:RF):R.spend.2.room=R.room∧(R.leftOk→R.spend.2.leftOk):=by
 unfold RF.spend RF.leftOk
 split
 ·exact ⟨rfl,id⟩
 ·split
  ·unfold RF.cut
   split
   ·exact ⟨rfl,id⟩
   ·exact ⟨rfl,id⟩
  ·exact ⟨rfl,fun h=>show R.left - 1≤_ by omega⟩
theorem Sim.may (h:Sim D R) (n:Int):D.may n=if R.off=true then 14 else if nodeOk n=false then 1 else 0:=by
 unfold Dk.may nodeOk
 rw [h.on]
 cases R.off with
 | true=>rfl
 | false =>
   by_cases hn:n<0∨16<n
   ·simp only [Bool.not_false,Bool.true_eq_false,if_false,if_pos hn,Bool.false_eq_true]
    rw [if_pos (by simp;omega)]
   ·simp only [Bool.not_false,Bool.true_eq_false,if_false,if_neg hn,Bool.false_eq_true]
    rw [if_neg (by simp;omega)]
theorem Sim.admits (h:Sim D R) (n:Int) (e:Nat):D.admits n.toNat e=if e=0∨e≠R.table n.toNat then 34 else 0:=by
 unfold Dk.admits
 rw [h.table]
 by_cases h1:e=0
 ·rw [if_pos (.inl h1),if_pos (.inl h1)]
 ·by_cases h2:R.table n.toNat=e
  ·rw [if_neg (by simp [h1,h2]),if_neg (by simp [h1,h2])]
  ·rw [if_pos (.inr h2),if_pos (.inr (fun x=>h2 x.symm))]
theorem Sim.goes (h:Sim D R) (hl:R.leftOk):(D.goes.1=true∧R.spend.1=14∨D.goes.1=false∧R.spend.1=0)∧Sim D.goes.2 R.spend.2:=by
 obtain ⟨h1,h2,h3⟩:=h.spend hl
 refine ⟨?_,h3⟩
 cases hg:D.goes.1 with
 | true=>exact .inl ⟨rfl,by have:=h1.1 hg;omega⟩
 | false =>
   refine .inr ⟨rfl,?_⟩
   by_cases h4:R.spend.1=0
   ·exact h4
   ·rw [h1.2 h4] at hg
    cases hg
theorem writeN_rest (D:Dk) (n a:Int) (data:ByteArray):∀m,(D.writeN n a data m).table=D.table∧(D.writeN n a data m).left=D.left∧(D.writeN n a data m).stays=D.stays
 | 0=>⟨rfl,rfl,rfl⟩
 | m+1=>writeN_rest D n a data m
theorem keeps_rest : ∀(l:List Ws) (D:Dk),(l.foldl Dk.keep D).table=D.table∧(l.foldl Dk.keep D).left=D.left∧(l.foldl Dk.keep D).stays=D.stays
 | [],D=>⟨rfl,rfl,rfl⟩
 | x :: l,D=>by
   obtain ⟨a,b,c⟩:=keeps_rest l (D.keep x)
   have h:(D.keep x).table=D.table∧(D.keep x).left=D.left∧(D.keep x).stays=D.stays:=by unfold Dk.keep;split <;> exact ⟨rfl,rfl,rfl⟩
   exact ⟨a.trans h.1,b.trans h.2.1,c.trans h.2.2⟩
theorem settle_rest (D:Dk) (n:Int):(D.settle n).table=D.table∧(D.settle n).left=D.left∧(D.settle n).stays=D.stays:=keeps_rest _ D
theorem Sim.write (h:Sim D R) (hl:R.leftOk) (n:Int) (e:Nat) (at_:Int) (data:ByteArray):(D.write n e at_ data).1=(R.write n e at_ data).1∧Sim (D.write n e at_ data).2 (R.write n e at_ data).2:=by
 unfold Dk.write RF.write
 rw [h.may]
 by_cases ho:R.off=true
 ·rw [if_pos ho,if_pos ho,if_pos (by decide)]
  exact ⟨rfl,h⟩
 rw [if_neg ho,if_neg ho]
 by_cases hn:nodeOk n=false
 ·rw [if_pos hn,if_pos (by decide),if_pos (.inl hn)]
  exact ⟨rfl,h⟩
 rw [if_neg hn,if_neg (by decide)]
 by_cases hd:data.size / 64<1∨16<data.size / 64∨data.size % 64≠0
 ·rw [if_pos hd,if_pos (by omega)]
  exact ⟨rfl,h⟩
 rw [if_neg hd,if_neg (show ¬(nodeOk n=false∨data.size % 64≠0∨data.size / 64<1∨16<data.size / 64) from fun x=>x.elim hn (fun y=>hd (by omega))),h.admits]
 unfold RF.may
 rw [if_neg ho,if_neg hn]
 by_cases he:e=0∨e≠R.table n.toNat
 ·rw [if_pos he,if_pos (by decide),if_pos (by decide)]
  exact ⟨rfl,h⟩
 rw [if_neg he]
 simp only [ne_eq,not_true,if_false]
 unfold Dk.there
 rw [h.room]
 by_cases hr:at_<0∨(R.room:Int) - ((data.size / 64:Nat):Int)<at_
 ·rw [if_pos hr,if_pos (by simp only [decide_eq_false_iff_not];omega)]
  exact ⟨rfl,h⟩
 rw [if_neg hr,if_neg (by simp only [decide_eq_false_iff_not];omega)]
 obtain ⟨hg,hs⟩:=h.goes hl
 rcases hg with ⟨g1,g2⟩ | ⟨g1,g2⟩
 ·rw [if_pos g1,if_pos (show ¬R.spend.1=0 by rw [g2];decide)]
  exact ⟨g2.symm,hs⟩
 ·rw [if_neg (show ¬D.goes.1=true by rw [g1];decide),if_neg (show ¬ ¬R.spend.1=0 from fun x=>x g2)]
  obtain ⟨a1,a2,a3,a4,a5,a6,a7,_,_⟩:=writeN_same D.goes.2 n at_ data (data.size / 64)
  refine ⟨rfl,?_⟩
  have hx:=writeN_rest D.goes.2 n at_ data (data.size / 64)
  exact ⟨a3.trans hs.room,a1.trans hs.on,hx.1.trans hs.table,a5.trans hs.words,a4.trans hs.last,a2.trans hs.armed,fun x=>by rw [hx.2.1,hx.2.2];exact hs.left x,hs.rows.writeN n at_ data _⟩
theorem Sim.settle (h:Sim D R) (n:Int):Sim (D.settle n) (R.settle n):=by
 obtain ⟨r1,r2,r3⟩:=settle_rest D n
 obtain ⟨e1,e2,e3,e4,e5,_,_⟩:=settle_same D n
 exact ⟨e3.trans h.room,e1.trans h.on,r1.trans h.table,e5.trans h.words,e4.trans h.last,e2.trans h.armed,fun x=>by rw [r2,r3];exact h.left x,h.rows.settle n⟩
theorem Sim.barrier (h:Sim D R) (hl:R.leftOk) (n:Int) (e:Nat):(D.barrier n e).1=(R.barrier n e).1∧Sim (D.barrier n e).2 (R.barrier n e).2:=by
 unfold Dk.barrier RF.barrier RF.may
 rw [h.may]
 by_cases ho:R.off=true
 ·rw [if_pos ho,if_pos ho,if_pos (by decide),if_pos (by decide)]
  exact ⟨rfl,h⟩
 rw [if_neg ho,if_neg ho]
 by_cases hn:nodeOk n=false
 ·rw [if_pos hn,if_pos hn,if_pos (by decide),if_pos (by decide)]
  exact ⟨rfl,h⟩
 rw [if_neg hn,if_neg hn,if_neg (by decide),h.admits]
 by_cases he:e=0∨e≠R.table n.toNat
 ·rw [if_pos he,if_pos (by decide),if_pos (by decide)]
  exact ⟨rfl,h⟩
 rw [if_neg he]
 simp only [ne_eq,not_true,if_false]
 obtain ⟨hg,hs⟩:=h.goes hl
 rcases hg with ⟨g1,g2⟩ | ⟨g1,g2⟩
 ·rw [if_pos g1,if_pos (show ¬R.spend.1=0 by rw [g2];decide)]
  exact ⟨g2.symm,hs⟩
 ·rw [if_neg (show ¬D.goes.1=true by rw [g1];decide),if_neg (show ¬ ¬R.spend.1=0 from fun x=>x g2)]
  exact ⟨rfl,hs.settle n⟩
theorem Sim.readE (h:Sim D R) (at_ n:Int):D.readE at_ n=R.readE at_ n:=by
 unfold Dk.readE RF.readE Dk.there
 rw [h.on,h.room]
 by_cases ho:R.off=true
 ·rw [if_pos ho,if_pos (by rw [ho];rfl)]
 rw [if_neg ho,if_neg (by simp [ho])]
 by_cases hc:n<1∨400<n∨at_<0∨(R.room:Int) - n<at_
 ·rw [if_pos hc,if_pos (by simp only [decide_eq_false_iff_not];omega)]
 ·rw [if_neg hc,if_neg (by simp only [decide_eq_false_iff_not];omega)]
theorem Sim.readL (h:Sim D R) (at_:Int) (n:Nat):D.readL at_ n=R.readL at_ n:=by
 unfold Dk.readL RF.readL
 congr 1
 funext i
 rw [h.sec]
theorem Sim.readS (h:Sim D R) (at_ n:Int):D.readS at_ n=R.readS at_ n:=by
 unfold Dk.readS RF.readS
 rw [h.readE,h.readL]
theorem Sim.load (h:Sim D R) (b:Int):D.load b=R.load b:=by
 unfold Dk.load RF.load Dk.loadE1 RF.loadE1
 rw [h.readE,h.readS]
theorem Sim.store (h:Sim D R) (hl:R.leftOk) (n:Int) (e:Nat) (i:Im):(D.store n e i).1=(R.store n e i).1∧Sim (D.store n e i).2 (R.store n e i).2:=by
 unfold Dk.store RF.store
 split
 ·exact ⟨rfl,h⟩
 ·split
  ·exact ⟨rfl,h⟩
  ·exact h.write hl n e _ _
theorem write_left (R:RF) (hl:R.leftOk) (n:Int) (e:Nat) (at_:Int) (data:ByteArray):(R.write n e at_ data).2.leftOk:=by
 unfold RF.write
 split
 ·exact hl
 split
 ·exact hl
 split
 ·exact hl
 split
 ·exact hl
 split
 ·exact (spend_keeps R).2 hl
 ·exact (spend_keeps R).2 hl
theorem store_left (R:RF) (hl:R.leftOk) (n:Int) (e:Nat) (i:Im):(R.store n e i).2.leftOk:=by
 unfold RF.store
 split
 ·exact hl
 split
 ·exact hl
 ·exact write_left R hl n e _ _
theorem barrier_left (R:RF) (hl:R.leftOk) (n:Int) (e:Nat):(R.barrier n e).2.leftOk:=by
 unfold RF.barrier
 split
 ·exact hl
 split
 ·exact (spend_keeps R).2 hl
 ·exact (spend_keeps R).2 hl
end
theorem Sim.applyGo {node:Int} {epoch:Nat}:∀(l:List Im) (n:Nat) {D:Dk} {R:RF},Sim D R→R.leftOk →
 (applyGo node epoch l n D).n=(applyGoF node epoch l n R).n∧(applyGo node epoch l n D).e=(applyGoF node epoch l n R).e∧Sim (applyGo node epoch l n D).D (applyGoF node epoch l n R).R∧(applyGoF node epoch l n R).R.leftOk
 | [],n,D,R,h,hl=>⟨rfl,rfl,h,hl⟩
 | i :: l,n,D,R,h,hl=>by
   rw [applyGo_cons]
   unfold applyGoF
   rw [h.load]
   obtain ⟨s1,s2⟩:=h.store hl node epoch i
   have s3:=store_left R hl node epoch i
   split
   ·exact ⟨rfl,rfl,h,hl⟩
   split
   ·exact Sim.applyGo l n h hl
   rw [s1]
   split
   ·exact ⟨rfl,rfl,s2,s3⟩
   ·exact Sim.applyGo l (n+1) s2 s3
theorem Sim.apply {D:Dk} {R:RF} (h:Sim D R) (hl:R.leftOk) (node:Int) (epoch:Nat) (l:List Im) :
 (applyR D node epoch l).n=(applyF R node epoch l).n∧(applyR D node epoch l).e=(applyF R node epoch l).e∧Sim (applyR D node epoch l).D (applyF R node epoch l).R∧(applyF R node epoch l).R.leftOk:=by
 obtain ⟨a,b,c,d⟩:=Sim.applyGo (node:=node) (epoch:=epoch) l 0 h hl
 obtain ⟨b1,b2⟩:=c.barrier d node epoch
 have b3:=barrier_left _ d node epoch
 unfold applyR applyF
 rw [a,b,b1]
 split
 ·exact ⟨a,b,c,d⟩
 split
 ·exact ⟨a,b,c,d⟩
 split
 ·exact ⟨rfl,rfl,b2,b3⟩
 ·exact ⟨rfl,rfl,b2,b3⟩
end Go.Proofs.YtldoeodkeieejaaGreatDoor
