import Derived.Test.YtldoeodkeieejaaGreatDoorKLogG
import Derived.Test.YtldoeodkeieejaaGreatDoorKSimR
namespace Go.Proofs.YtldoeodkeieejaaGreatDoor
open Go.RowKit
structure Kp where
 lsn:Nat
 at_:Nat
 n:Nat
 b:ByteArray
def Kp.old (k:Kp):En:=⟨k.lsn,k.at_,k.n,⟨#[]⟩,true⟩
def Kp.new (k:Kp):En:=⟨k.lsn,k.at_,k.n,k.b,false⟩
structure XL where
 node:Nat
 epoch:Nat
 l:List Kp
 wait:Nat
 next:Nat
 first:Nat
 wrote:Nat
 sync:Nat
 place:Nat
 dirty:Bool
 broken:Bool
structure XR where
 e:Int
 R:RF
 x:XL
def RF.lhead (R:RF) (node epoch base:Nat) (h:Hd):Int×RF :=
 if h.putE≠0 then (h.putE,R) else if (R.write node epoch base h.putS).1≠0 then R.write node epoch base h.putS else (R.write node epoch base h.putS).2.barrier node epoch
def xputGo (node epoch base:Nat) (k:Kp):Nat→Nat→RF→Int×RF
 | 0,_,R=>(0,R)
 | f+1,i,R=>if k.n≤i then (0,R) else
    if (R.write node epoch ((base+1+(k.at_+i) % 7:Nat):Int) (k.b.extract (i*64) ((i+min (k.n - i) (7 - (k.at_+i) % 7))*64))).1≠0 then R.write node epoch ((base+1+(k.at_+i) % 7:Nat):Int) (k.b.extract (i*64) ((i+min (k.n - i) (7 - (k.at_+i) % 7))*64))
    else xputGo node epoch base k f (i+min (k.n - i) (7 - (k.at_+i) % 7)) (R.write node epoch ((base+1+(k.at_+i) % 7:Nat):Int) (k.b.extract (i*64) ((i+min (k.n - i) (7 - (k.at_+i) % 7))*64))).2
def RF.put_ (R:RF) (node epoch base:Nat) (k:Kp):Int×RF:=xputGo node epoch base k k.n 0 R
def XL.used (x:XL):Nat:=x.l.foldl (fun n k=>n+k.n) 0
def XL.addE (x:XL) (l:List Im):Int:=if x.broken then 13 else if (Rc.mk x.epoch x.next l).wrongE≠0 then (Rc.mk x.epoch x.next l).wrongE else if 1<l.length then 31 else if 7<secsOf l.length+x.used then 10 else 0
def XL.entry (x:XL) (l:List Im):Kp:=⟨x.next,x.place,secsOf l.length,(Rc.mk x.epoch x.next l).putS⟩
def XL.addX (x:XL) (l:List Im):XL:=if x.addE l≠0 then x else {x with l:=x.l ++ [x.entry l],place:=(x.place+secsOf l.length) % 7,wait:=x.wait+1,next:=x.next+1}
def xwrGo (base:Nat):List Kp→RF→XL→XR
 | [],R,x=>⟨0,R,x⟩
 | k :: l,R,x=>if (R.put_ x.node x.epoch base k).1≠0 then ⟨(R.put_ x.node x.epoch base k).1,(R.put_ x.node x.epoch base k).2,{x with broken:=true}⟩
    else xwrGo base l (R.put_ x.node x.epoch base k).2 {x with wrote:=k.lsn,dirty:=true,wait:=x.wait - 1}
def xwriteR (base:Nat) (R:RF) (x:XL):XR:=if x.broken then ⟨13,R,x⟩ else xwrGo base (x.l.drop (x.l.length - x.wait)) R x
def xsyncR (base:Nat) (R:RF) (x:XL):XR :=
 if (xwriteR base R x).e≠0 then xwriteR base R x
 else if (xwriteR base R x).x.dirty=false then ⟨0,(xwriteR base R x).R,{(xwriteR base R x).x with dirty:=false,sync:=(xwriteR base R x).x.wrote}⟩
 else if ((xwriteR base R x).R.barrier (xwriteR base R x).x.node (xwriteR base R x).x.epoch).1≠0 then ⟨((xwriteR base R x).R.barrier (xwriteR base R x).x.node (xwriteR base R x).x.epoch).1,((xwriteR base R x).R.barrier (xwriteR base R x).x.node (xwriteR base R x).x.epoch).2,{(xwriteR base R x).x with broken:=true}⟩
 else ⟨0,((xwriteR base R x).R.barrier (xwriteR base R x).x.node (xwriteR base R x).x.epoch).2,{(xwriteR base R x).x with dirty:=false,sync:=(xwriteR base R x).x.wrote}⟩
def XL.left (x:XL) (b:Nat):List Kp:=x.l.dropWhile (fun k:Kp=>decide (k.lsn<b))
def XL.leftAt (x:XL) (b:Nat):Nat:=match x.left b with
 | []=>x.place
 | k :: _=>k.at_
def xfreeR (base:Nat) (R:RF) (x:XL) (b:Nat):XR :=
 if x.broken then ⟨13,R,x⟩ else if x.sync+1<b then ⟨1,R,x⟩ else if b≤x.first then ⟨0,R,x⟩
 else if (R.lhead x.node x.epoch base ⟨x.epoch,b,(x.leftAt b:Int)⟩).1≠0 then ⟨(R.lhead x.node x.epoch base ⟨x.epoch,b,(x.leftAt b:Int)⟩).1,(R.lhead x.node x.epoch base ⟨x.epoch,b,(x.leftAt b:Int)⟩).2,{x with broken:=true}⟩
 else ⟨0,(R.lhead x.node x.epoch base ⟨x.epoch,b,(x.leftAt b:Int)⟩).2,{x with l:=x.left b,first:=b,dirty:=false,sync:=x.wrote}⟩
structure LSimAt (g:Lg) (x:XL) (m:Nat) (A B:List Kp):Prop where
 node:g.node=x.node
 epoch:g.epoch=x.epoch
 next:g.next=x.next
 first:g.first=x.first
 at_:g.at_=x.place
 written:g.written=x.wrote
 synced:g.synced=x.sync
 broken:g.broken=x.broken
 dirty:x.dirty=decide (x.sync<x.wrote)
 le:x.sync≤x.wrote
 lt:x.wrote<x.next
 nxt:x.next≤m+1
 rows:x.l=A++B
 wait:x.wait=B.length
 live:g.live=A.map Kp.old++B.map Kp.new
 rise:(B.map Kp.lsn).Pairwise (· < ·)
 fresh:∀k∈B,x.wrote<k.lsn∧k.lsn<x.next
def LSim (g:Lg) (x:XL) (m:Nat):Prop:=∃A B,LSimAt g x m A B
section
variable {D:Dk} {R:RF} {g:Lg} {x:XL} {m:Nat} {A B:List Kp}
theorem Sim.lhead (h:Sim D R) (hl:R.leftOk) (g:Lg) (hd:Hd):(D.lhead g hd).1=(R.lhead g.node g.epoch g.base hd).1∧Sim (D.lhead g hd).2 (R.lhead g.node g.epoch g.base hd).2∧(R.lhead g.node g.epoch g.base hd).2.leftOk:=by
 obtain ⟨a,b⟩:=h.write hl g.node g.epoch g.base hd.putS
 have c:=write_left R hl g.node g.epoch g.base hd.putS
 obtain ⟨a2,b2⟩:=b.barrier c g.node g.epoch
 have c2:=barrier_left _ c g.node g.epoch
 unfold Dk.lhead RF.lhead
 rw [a]
 split
 ·exact ⟨rfl,h,hl⟩
 split
 ·exact ⟨a,b,c⟩
 ·exact ⟨a2,b2,c2⟩
theorem Sim.puts {g:Lg} {k:Kp}:∀(f i:Nat) {D:Dk} {R:RF},Sim D R→R.leftOk →
 (putGo g k.new f i D).1=(xputGo g.node g.epoch g.base k f i R).1∧Sim (putGo g k.new f i D).2 (xputGo g.node g.epoch g.base k f i R).2∧(xputGo g.node g.epoch g.base k f i R).2.leftOk
 | 0,i,D,R,h,hl=>⟨rfl,h,hl⟩
 | f+1,i,D,R,h,hl=>by
   obtain ⟨a,b⟩:=h.write hl g.node g.epoch ((g.base+1+(k.at_+i) % 7:Nat):Int) (k.b.extract (i*64) ((i+min (k.n - i) (7 - (k.at_+i) % 7))*64))
   have c:=write_left R hl g.node g.epoch ((g.base+1+(k.at_+i) % 7:Nat):Int) (k.b.extract (i*64) ((i+min (k.n - i) (7 - (k.at_+i) % 7))*64))
   obtain ⟨a2,b2,c2⟩:=Sim.puts (g:=g) (k:=k) f (i+min (k.n - i) (7 - (k.at_+i) % 7)) b c
   unfold putGo xputGo
   show (if k.n≤i then _ else _:Int×Dk).1=_∧Sim (if k.n≤i then _ else _:Int×Dk).2 _∧_
   by_cases hn:k.n≤i
   ·rw [if_pos hn,if_pos hn]
    exact ⟨rfl,h,hl⟩
   rw [if_neg hn,if_neg hn]
   show (if (D.write g.node g.epoch ((g.base+1+(k.at_+i) % 7:Nat):Int) (k.b.extract (i*64) ((i+min (k.n - i) (7 - (k.at_+i) % 7))*64))).1≠0 then _ else _:Int×Dk).1=_∧Sim (if (D.write g.node g.epoch ((g.base+1+(k.at_+i) % 7:Nat):Int) (k.b.extract (i*64) ((i+min (k.n - i) (7 - (k.at_+i) % 7))*64))).1≠0 then _ else _:Int×Dk).2 _∧_
   rw [a]
   by_cases he:(R.write g.node g.epoch ((g.base+1+(k.at_+i) % 7:Nat):Int) (k.b.extract (i*64) ((i+min (k.n - i) (7 - (k.at_+i) % 7))*64))).1≠0
   ·rw [if_pos he,if_pos he]
    exact ⟨a,b,c⟩
   ·rw [if_neg he,if_neg he]
    exact ⟨a2,b2,c2⟩
theorem Sim.put_ (h:Sim D R) (hl:R.leftOk) (g:Lg) (k:Kp):(D.put_ g k.new).1=(R.put_ g.node g.epoch g.base k).1∧Sim (D.put_ g k.new).2 (R.put_ g.node g.epoch g.base k).2∧(R.put_ g.node g.epoch g.base k).2.leftOk:=Sim.puts k.n 0 h hl
theorem wrGo_olds : ∀(A:List Kp) (l:List En) (k n:Nat) (D:Dk) (g:Lg),wrGo (A.map Kp.old++l) k n D g=wrGo l (k+A.length) n D g
 | [],l,k,n,D,g=>rfl
 | a :: A,l,k,n,D,g=>by
   rw [List.map_cons,List.cons_append,wrGo_true rfl,wrGo_olds A l (k+1) n D g,List.length_cons]
   congr 1
   omega
theorem set_mid (A:List Kp) (k:Kp) (l:List En):(A.map Kp.old++k.new :: l).set A.length k.new.done=(A ++ [k]).map Kp.old++l:=by
 rw [List.set_append_right _ _ (by simp)]
 simp [Kp.old,Kp.new,En.done]
theorem LSimAt.wr : ∀(B A:List Kp) (n:Nat) {D:Dk} {R:RF} {g:Lg} {x:XL},Sim D R→R.leftOk→LSimAt g x m A B →
 (wrGo (B.map Kp.new) A.length n D g).e=(xwrGo g.base B R x).e∧Sim (wrGo (B.map Kp.new) A.length n D g).D (xwrGo g.base B R x).R∧(xwrGo g.base B R x).R.leftOk∧LSim (wrGo (B.map Kp.new) A.length n D g).g (xwrGo g.base B R x).x m∧(wrGo (B.map Kp.new) A.length n D g).g.base=g.base
 | [],A,n,D,R,g,x,h,hl,hs=>⟨rfl,h,hl,⟨A,[],hs⟩,rfl⟩
 | k :: B,A,n,D,R,g,x,h,hl,hs=>by
   obtain ⟨a,b,c⟩:=h.put_ hl g k
   rw [hs.node,hs.epoch] at a b c
   rw [List.map_cons,wrGo_false rfl,a]
   unfold xwrGo
   by_cases he:(R.put_ x.node x.epoch g.base k).1≠0
   ·rw [if_pos he,if_pos he]
    refine ⟨rfl,b,c,?_,?_⟩
    ·unfold Lg.failG
     rw [if_pos he]
     exact ⟨A,k :: B,hs.node,hs.epoch,hs.next,hs.first,hs.at_,hs.written,hs.synced,rfl,hs.dirty,hs.le,hs.lt,hs.nxt,hs.rows,hs.wait,hs.live,hs.rise,hs.fresh⟩
    ·unfold Lg.failG
     rw [if_pos he]
   ·rw [if_neg he,if_neg he]
    obtain ⟨f1,f2⟩:=hs.fresh k (List.mem_cons_self ..)
    have hr:=hs.rise
    rw [List.map_cons,List.pairwise_cons] at hr
    have hle:=hs.le
    have hw:=hs.wait
    rw [List.length_cons] at hw
    have hs2:LSimAt (g.wrote A.length k.new) {x with wrote:=k.lsn,dirty:=true,wait:=x.wait - 1} m (A ++ [k]) B := {
     node:=hs.node
     epoch:=hs.epoch
     next:=hs.next
     first:=hs.first
     at_:=hs.at_
     written:=rfl
     synced:=hs.synced
     broken:=hs.broken
     dirty:=(decide_eq_true (show x.sync<k.lsn by omega)).symm
     le:=show x.sync≤k.lsn by omega
     lt:=f2
     nxt:=hs.nxt
     rows:=by rw [List.append_assoc];exact hs.rows
     wait:=show x.wait - 1=B.length by omega
     live:=by
      show g.live.set A.length k.new.done=_
      rw [hs.live,List.map_cons,set_mid]
     rise:=hr.2
     fresh:=fun j hj=>⟨hr.1 j.lsn (List.mem_map.2 ⟨j,hj,rfl⟩),(hs.fresh j (List.mem_cons_of_mem _ hj)).2⟩}
    have hlen:(A ++ [k]).length=A.length+1:=by simp
    have:=LSimAt.wr B (A ++ [k]) (n+1) (g:=g.wrote A.length k.new) b c hs2
    rw [hlen] at this
    exact this
theorem LSim.write (h:Sim D R) (hl:R.leftOk) (hs:LSim g x m):(writeR D g).e=(xwriteR g.base R x).e∧Sim (writeR D g).D (xwriteR g.base R x).R∧(xwriteR g.base R x).R.leftOk∧LSim (writeR D g).g (xwriteR g.base R x).x m∧(writeR D g).g.base=g.base:=by
 obtain ⟨A,B,hs⟩:=hs
 unfold writeR xwriteR Lg.mayE
 rw [hs.broken]
 cases x.broken with
 | true=>exact ⟨rfl,h,hl,⟨A,B,hs⟩,rfl⟩
 | false =>
   rw [if_neg (by simp),if_neg (by simp),hs.rows,hs.wait,List.length_append,Nat.add_sub_cancel,List.drop_left,hs.live,wrGo_olds,Nat.zero_add]
   exact LSimAt.wr B A 0 h hl hs
theorem LSim.sync (h:Sim D R) (hl:R.leftOk) (hs:LSim g x m):(syncR D g).e=(xsyncR g.base R x).e∧Sim (syncR D g).D (xsyncR g.base R x).R∧(xsyncR g.base R x).R.leftOk∧LSim (syncR D g).g (xsyncR g.base R x).x m∧(syncR D g).g.base=g.base:=by
 obtain ⟨a,b,c,⟨A,B,d⟩,e⟩:=hs.write h hl
 unfold syncR xsyncR
 rw [a]
 by_cases he:(xwriteR g.base R x).e≠0
 ·rw [if_pos he,if_pos he]
  exact ⟨a,b,c,⟨A,B,d⟩,e⟩
 rw [if_neg he,if_neg he,d.dirty,d.written,d.synced]
 have hle:=d.le
 by_cases hw:(xwriteR g.base R x).x.wrote≤(xwriteR g.base R x).x.sync
 ·rw [if_pos hw,if_pos (decide_eq_false (by omega))]
  refine ⟨a.trans (Classical.not_not.1 he),b,c,⟨A,B,?_⟩,e⟩
  exact {node:=d.node,epoch:=d.epoch,next:=d.next,first:=d.first,at_:=d.at_,written:=d.written,synced:=d.synced.trans (show (xwriteR g.base R x).x.sync=(xwriteR g.base R x).x.wrote by omega),broken:=d.broken,dirty:=(decide_eq_false (Nat.lt_irrefl _)).symm,le:=Nat.le_refl _,lt:=d.lt,nxt:=d.nxt,rows:=d.rows,wait:=d.wait,live:=d.live,rise:=d.rise,fresh:=d.fresh}
 rw [if_neg hw,if_neg (show ¬(decide ((xwriteR g.base R x).x.sync<(xwriteR g.base R x).x.wrote)=false) by simp;omega)]
 obtain ⟨a2,b2⟩:=b.barrier c (writeR D g).g.node (writeR D g).g.epoch
 have c2:=barrier_left _ c (writeR D g).g.node (writeR D g).g.epoch
 rw [d.node,d.epoch] at a2 b2 c2
 rw [d.node,d.epoch,a2]
 by_cases h2:((xwriteR g.base R x).R.barrier (xwriteR g.base R x).x.node (xwriteR g.base R x).x.epoch).1≠0
 ·rw [if_pos h2,if_pos h2]
  unfold Lg.failG
  rw [if_pos h2]
  exact ⟨rfl,b2,c2,⟨A,B,d.node,d.epoch,d.next,d.first,d.at_,d.written,d.synced,rfl,d.dirty,d.le,d.lt,d.nxt,d.rows,d.wait,d.live,d.rise,d.fresh⟩,e⟩
 ·rw [if_neg h2,if_neg h2]
  exact ⟨rfl,b2,c2,⟨A,B,d.node,d.epoch,d.next,d.first,d.at_,d.written,rfl,d.broken,(decide_eq_false (Nat.lt_irrefl _)).symm,Nat.le_refl _,d.lt,d.nxt,d.rows,d.wait,d.live,d.rise,d.fresh⟩,e⟩
theorem drop_old (b:Nat) (B:List Kp) (hB:∀k∈B,b≤k.lsn):∀A:List Kp,∃A2,(A++B).dropWhile (fun k:Kp=>decide (k.lsn<b))=A2++B∧(A.map Kp.old++B.map Kp.new).dropWhile (fun x:En=>decide (x.lsn<b))=A2.map Kp.old++B.map Kp.new
 | []=>by
   refine ⟨[],?_,?_⟩
   ·cases B with
    | nil=>rfl
    | cons k B=>exact List.dropWhile_cons_of_neg (fun e=>absurd (of_decide_eq_true e) (by have:=hB k (List.mem_cons_self ..);omega))
   ·cases B with
    | nil=>rfl
    | cons k B=>exact List.dropWhile_cons_of_neg (a:=k.new) (fun e=>absurd (show k.lsn<b from of_decide_eq_true e) (by have:=hB k (List.mem_cons_self ..);omega))
 | a :: A=>by
   by_cases h:a.lsn<b
   ·obtain ⟨A2,h1,h2⟩:=drop_old b B hB A
    exact ⟨A2,(List.dropWhile_cons_of_pos (p:=fun k:Kp=>decide (k.lsn<b)) (decide_eq_true h)).trans h1,(List.dropWhile_cons_of_pos (p:=fun x:En=>decide (x.lsn<b)) (a:=a.old) (decide_eq_true h)).trans h2⟩
   ·exact ⟨a :: A,List.dropWhile_cons_of_neg (fun e=>h (of_decide_eq_true e)),List.dropWhile_cons_of_neg (a:=a.old) (fun e=>h (of_decide_eq_true e))⟩
theorem LSim.free (h:Sim D R) (hl:R.leftOk) (hs:LSim g x m) (b:Nat):(freeR D g b).e=(xfreeR g.base R x b).e∧Sim (freeR D g b).D (xfreeR g.base R x b).R∧(xfreeR g.base R x b).R.leftOk∧LSim (freeR D g b).g (xfreeR g.base R x b).x m∧(freeR D g b).g.base=g.base:=by
 obtain ⟨A,B,d⟩:=hs
 unfold freeR xfreeR
 rw [d.synced,d.first]
 cases hb:x.broken with
 | true =>
   have hbr:g.mayE=13:=by unfold Lg.mayE;rw [d.broken,hb];rfl
   rw [hbr,if_pos (show (13:Int)≠0 by decide),if_pos rfl]
   exact ⟨rfl,h,hl,⟨A,B,d⟩,rfl⟩
 | false =>
   have hbr:g.mayE=0:=by unfold Lg.mayE;rw [d.broken,hb];rfl
   rw [hbr,if_neg (show ¬(0:Int)≠0 by decide),if_neg (show ¬(false=true) by decide)]
   by_cases h1:x.sync+1<b
   ·rw [if_pos h1,if_pos h1]
    exact ⟨rfl,h,hl,⟨A,B,d⟩,rfl⟩
   rw [if_neg h1,if_neg h1]
   by_cases h2:b≤x.first
   ·rw [if_pos h2,if_pos h2]
    exact ⟨rfl,h,hl,⟨A,B,d⟩,rfl⟩
   rw [if_neg h2,if_neg h2]
   have hle:=d.le
   obtain ⟨A2,e1,e2⟩:=drop_old b B (fun k hk=>by have:=(d.fresh k hk).1;omega) A
   have e3:x.left b=A2++B:=by unfold XL.left;rw [d.rows];exact e1
   have e4:g.left b=A2.map Kp.old++B.map Kp.new:=by unfold Lg.left;rw [d.live];exact e2
   have e5:g.leftAt b=x.leftAt b:=by
    unfold Lg.leftAt XL.leftAt
    rw [e3,e4]
    cases A2 with
    | nil =>
      cases B with
      | nil=>exact d.at_
      | cons k B=>rfl
    | cons k A2=>rfl
   rw [e5,d.epoch]
   obtain ⟨a,b1,c⟩:=h.lhead hl g ⟨x.epoch,b,(x.leftAt b:Int)⟩
   rw [d.node,d.epoch] at a b1 c
   rw [a]
   by_cases h3:(R.lhead x.node x.epoch g.base ⟨x.epoch,b,(x.leftAt b:Int)⟩).1≠0
   ·rw [if_pos h3,if_pos h3]
    unfold Lg.failG
    rw [if_pos h3]
    exact ⟨rfl,b1,c,⟨A,B,d.node,d.epoch,d.next,d.first,d.at_,d.written,d.synced,rfl,d.dirty,d.le,d.lt,d.nxt,d.rows,d.wait,d.live,d.rise,d.fresh⟩,rfl⟩
   ·rw [if_neg h3,if_neg h3]
    refine ⟨rfl,b1,c,⟨A2,B,?_⟩,rfl⟩
    exact {node:=d.node,epoch:=d.epoch,next:=d.next,first:=rfl,at_:=d.at_,written:=d.written,synced:=(show max g.synced g.written=x.wrote by rw [d.synced,d.written];omega),broken:=d.broken.trans hb,dirty:=(decide_eq_false (Nat.lt_irrefl _)).symm,le:=Nat.le_refl _,lt:=d.lt,nxt:=d.nxt,rows:=e3,wait:=d.wait,live:=e4,rise:=d.rise,fresh:=d.fresh}
theorem used_foldl (A:List Kp) (f:Kp→En) (hf:∀k,(f k).n=k.n):∀a:Nat,(A.map f).foldl (fun n x=>n+x.n) a=A.foldl (fun n k=>n+k.n) a:=by
 induction A with
 | nil=>intro a;rfl
 | cons k A ih=>intro a;rw [List.map_cons,List.foldl_cons,List.foldl_cons,hf,ih]
theorem LSimAt.used (h:LSimAt g x m A B):g.used=x.used:=by
 unfold Lg.used XL.used
 rw [h.live,h.rows,List.foldl_append,List.foldl_append,used_foldl A Kp.old (fun _=>rfl),used_foldl B Kp.new (fun _=>rfl)]
theorem LSimAt.addE (h:LSimAt g x m A B) (l:List Im):g.addE l=x.addE l:=by
 unfold Lg.addE XL.addE
 rw [h.broken,h.epoch,h.next,h.used]
theorem LSim.add (hs:LSim g x m) (hm:m<1000000) (l:List Im):g.addE l=x.addE l∧LSim (g.addG l) (x.addX l) (m+1)∧(g.addG l).base=g.base:=by
 obtain ⟨A,B,d⟩:=hs
 have he:=d.addE l
 refine ⟨he,?_,?_⟩
 ·unfold Lg.addG XL.addX
  rw [he]
  have hn:=d.nxt
  by_cases h:x.addE l≠0
  ·rw [if_pos h,if_pos h]
   exact ⟨A,B,d.node,d.epoch,d.next,d.first,d.at_,d.written,d.synced,d.broken,d.dirty,d.le,d.lt,by omega,d.rows,d.wait,d.live,d.rise,d.fresh⟩
  rw [if_neg h,if_neg h]
  have hlt:=d.lt
  refine ⟨A,B ++ [x.entry l],?_⟩
  exact {
   node:=d.node
   epoch:=d.epoch
   next:=by
    show (g.next+1) % 18446744073709551616=x.next+1
    rw [d.next]
    omega
   first:=d.first
   at_:=by
    show (g.at_+secsOf l.length) % 7=(x.place+secsOf l.length) % 7
    rw [d.at_]
   written:=d.written
   synced:=d.synced
   broken:=d.broken
   dirty:=d.dirty
   le:=d.le
   lt:=show x.wrote<x.next+1 by omega
   nxt:=show x.next+1≤m+1+1 by omega
   rows:=by
    show x.l ++ [x.entry l]=_
    rw [d.rows,List.append_assoc]
   wait:=by
    show x.wait+1=_
    rw [d.wait,List.length_append]
    rfl
   live:=by
    show g.live ++ [g.entry l]=_
    rw [d.live,List.map_append,List.append_assoc]
    unfold Lg.entry XL.entry Kp.new
    rw [d.next,d.at_,d.epoch]
    rfl
   rise:=by
    rw [List.map_append,List.pairwise_append]
    refine ⟨d.rise,by simp,fun a ha b hb => ?_⟩
    obtain ⟨k,hk,rfl⟩:=List.mem_map.1 ha
    obtain rfl:b=x.next:=by simpa [XL.entry] using hb
    exact (d.fresh k hk).2
   fresh:=fun k hk=>by
    rcases List.mem_append.1 hk with hk | hk
    ·obtain ⟨f1,f2⟩:=d.fresh k hk
     exact ⟨f1,show k.lsn<x.next+1 by omega⟩
    ·obtain rfl:k=x.entry l:=by simpa using hk
     exact ⟨hlt,show x.next<x.next+1 by omega⟩}
 ·unfold Lg.addG
  split <;> rfl
end
structure Fit (R:RF) (k:Nat):Prop where
 room:R.room=37
 len:R.ws.length≤k
 keep:R.keep.length≤1000000
 left:R.leftIn
section
variable {R:RF} {k k':Nat}
theorem Fit.more (h:Fit R k) (hk:k≤k'):Fit R k':=⟨h.room,Nat.le_trans h.len hk,h.keep,h.left⟩
theorem Fit.cut (h:Fit R k) (keep:List Int):Fit (R.cut keep).2 k:=by
 unfold RF.cut
 split
 ·exact ⟨h.room,h.len,h.keep,fun e=>by cases e⟩
 ·exact ⟨h.room,Nat.le_trans (cutW_le _ _ _) h.len,h.keep,fun e=>by cases e⟩
theorem Fit.spend (h:Fit R k):Fit R.spend.2 k:=by
 unfold RF.spend
 split
 ·exact h
 ·rename_i ha
  split
  ·exact h.cut _
  ·rename_i h0
   refine ⟨h.room,h.len,h.keep,fun _ => ?_⟩
   have:=h.left (by simpa using ha)
   show 0≤R.left - 1∧R.left - 1≤_
   omega
theorem Fit.write (h:Fit R k) (n:Int) (e:Nat) (at_:Int) (data:ByteArray):Fit (R.write n e at_ data).2 (k+data.size / 64):=by
 have hs:=h.spend
 unfold RF.write
 split
 ·exact h.more (by omega)
 split
 ·exact h.more (by omega)
 split
 ·exact h.more (by omega)
 split
 ·exact h.more (by omega)
 split
 ·exact hs.more (by omega)
 ·refine ⟨hs.room,?_,hs.keep,hs.left⟩
  show (R.spend.2.ws++rwsN n at_ data (data.size / 64)).length≤_
  rw [List.length_append]
  have:=hs.len
  unfold rwsN
  rw [List.length_map,List.length_range]
  omega
theorem Fit.settle (h:Fit R k) (n:Int):Fit (R.settle n) k:=⟨h.room,by show (R.ws.map _).length≤k;rw [List.length_map];exact h.len,h.keep,h.left⟩
theorem Fit.barrier (h:Fit R k) (n:Int) (e:Nat):Fit (R.barrier n e).2 k:=by
 unfold RF.barrier
 split
 ·exact h
 split
 ·exact h.spend
 ·exact h.spend.settle n
theorem Fit.admit (h:Fit R k) (n:Int) (e:Nat):Fit (R.admit8 n e).2 k:=by
 have hs:=h.spend
 unfold RF.admit8
 split
 ·exact h
 split
 ·exact h
 split
 ·exact h
 split
 ·exact hs
 ·exact ⟨hs.room,hs.len,hs.keep,hs.left⟩
theorem Fit.fence (h:Fit R k) (n:Int):Fit (R.fence n).2 k:=by
 have hs:=h.spend
 unfold RF.fence
 split
 ·exact h
 split
 ·exact h
 split
 ·exact hs
 ·have h2:=hs.settle n
  exact ⟨h2.room,h2.len,h2.keep,h2.left⟩
theorem Fit.put (h:Fit R k) (n:Int) (v:Nat):Fit (R.put n v).2 k:=by
 have hs:=h.spend
 unfold RF.put
 split
 ·exact h
 split
 ·exact h
 split
 ·exact hs
 ·exact ⟨hs.room,hs.len,hs.keep,hs.left⟩
theorem Fit.trim (h:Fit R k):Fit R.trim k:=⟨h.room,Nat.le_trans (trimW_le _) h.len,h.keep,h.left⟩
theorem Fit.restore (h:Fit R k):Fit R.restore k:=⟨h.room,h.len,h.keep,h.left⟩
theorem Fit.arm (h:Fit R k) (n:Int) (keep:List Int) (hn:n≤9223372036854775807) (hk:keep.length≤1000000):Fit (R.arm n keep) k:=⟨h.room,h.len,hk,fun e=>⟨of_decide_eq_true e,hn⟩⟩
theorem Fit.lhead (h:Fit R k) (node epoch base:Nat) (hd:Hd):Fit (R.lhead node epoch base hd).2 (k+1):=by
 have hs:=puts_size hd
 unfold RF.lhead
 split
 ·exact h.more (by omega)
 split
 ·exact (h.write _ _ _ _).more (by omega)
 ·exact ((h.write _ _ _ _).barrier _ _).more (by omega)
end
def Kp.cells (x:Kp):List Value := [.int .u64 x.lsn, .int .i64 x.at_, .int .i64 x.n, .string x.b]
def kpcells (l:List Kp):List Value:=l.flatMap Kp.cells
def XL.cells (x:XL) (p:Nat) (lv:Value):Array Value :=
 #[.pointer (some ⟨p,0,none⟩), .int .i64 2, .int .i64 10, .int .i64 8, .int .i64 4, .int .i64 32, .int .i64 1, .int .u64 x.epoch,lv, .int .i64 x.wait, .int .u64 x.next, .int .u64 x.first, .int .u64 x.wrote, .int .u64 x.sync, .int .i64 x.place, .bool x.dirty, .bool x.broken, .bool true]
def XLAt (o:Nat→Nat) (c:Nat) (w:World) (q:Nat) (x:XL) (p:Nat):Prop:=∃lv,Blk w q 132 (x.cells p lv)∧o q=c∧OwnS o (c+1) w 204 4 lv x.l.length (kpcells x.l)
section
variable {o o':Nat→Nat} {c cr p q k:Nat} {C:Nat→Prop} {w w':World} {x:XL} {R:RF}
theorem XLAt.step (h:XLAt o c w q x p) (hs:Step o C w o' w') (h0:¬C c) (h1:¬C (c+1)):XLAt o' c w' q x p:=by
 obtain ⟨lv,hb,hc,ho⟩:=h
 exact ⟨lv,hb.step hs (by rw [hc];exact h0),(hs.old q hb.lt).trans hc,ho.step hs h1⟩
theorem XLAt.below_ (h:XLAt o c w q x p) (hb:Below w.heap.size w w'):XLAt o c w' q x p:=h.step (Step.of_below o (fun _=>False) hb) id id
theorem XLAt.drew (h:XLAt o c w q x p):XLAt o c w.drew q x p:=h
theorem RFAt.drew (h:RFAt o c w p R):RFAt o c w.drew p R:=h.below_ ⟨rfl,rfl,rfl,Nat.le_refl _,fun _ _=>rfl⟩
theorem XLAt.nine (h:XLAt o c w q x p):w.cell? ⟨q,0,none⟩=some (.pointer (some ⟨p,0,none⟩))∧w.cell? ⟨q,1,none⟩=some (.int .i64 2)∧w.cell? ⟨q,2,none⟩=some (.int .i64 10)∧w.cell? ⟨q,3,none⟩=some (.int .i64 8)∧w.cell? ⟨q,4,none⟩=some (.int .i64 4)∧w.cell? ⟨q,5,none⟩=some (.int .i64 32)∧w.cell? ⟨q,6,none⟩=some (.int .i64 1)∧w.cell? ⟨q,7,none⟩=some (.int .u64 x.epoch):=by
 obtain ⟨lv,hb,_,_⟩:=h
 exact ⟨hb.cell 0,hb.cell 1,hb.cell 2,hb.cell 3,hb.cell 4,hb.cell 5,hb.cell 6,hb.cell 7⟩
theorem XLAt.six (h:XLAt o c w q x p):w.cell? ⟨q,1,none⟩=some (.int .i64 2)∧w.cell? ⟨q,2,none⟩=some (.int .i64 10)∧w.cell? ⟨q,3,none⟩=some (.int .i64 8)∧w.cell? ⟨q,4,none⟩=some (.int .i64 4)∧w.cell? ⟨q,5,none⟩=some (.int .i64 32)∧w.cell? ⟨q,6,none⟩=some (.int .i64 1):=⟨h.nine.2.1,h.nine.2.2.1,h.nine.2.2.2.1,h.nine.2.2.2.2.1,h.nine.2.2.2.2.2.1,h.nine.2.2.2.2.2.2.1⟩
theorem XLAt.three (h:XLAt o c w q x p):w.cell? ⟨q,0,none⟩=some (.pointer (some ⟨p,0,none⟩))∧w.cell? ⟨q,6,none⟩=some (.int .i64 1)∧w.cell? ⟨q,7,none⟩=some (.int .u64 x.epoch):=⟨h.nine.1,h.nine.2.2.2.2.2.2.1,h.nine.2.2.2.2.2.2.2⟩
set_option maxRecDepth 100000 in
theorem reflogat_one (w:World):Calls Tryz.prog 56 #[.agg #[.int .i64 2, .int .i64 10, .int .i64 8, .int .i64 4, .int .i64 32], .int .i64 1] w fun e w'=>e = .returned (.tuple #[.int .i64 1, .int .i64 0])∧Below w.heap.size w w':=by
 have HB:=Lib.hid ((Below.refl w.heap.size w).alloc (Nat.le_refl _) (.cells #[.int .i64 2, .int .i64 10, .int .i64 8, .int .i64 4, .int .i64 32] 28))
 have HK:=Lib.hid (Blk.new w 28 #[.int .i64 2, .int .i64 10, .int .i64 8, .int .i64 4, .int .i64 32])
 go_enter Tryz.func56,Tryz.ntmps56
 obtain ⟨x0,x1,x2,x3,x4⟩:=HK.out.five
 go_wp2_with fail
 refine (refvalid_any _).mono ?_
 rintro e w1 ⟨rfl,hb1⟩
 have HB1:=Lib.hid (HB.out.trans (hb1.mono HB.out.size))
 have HK1:=Lib.hid (HK.out.below_ hb1)
 clear hb1 x0 x1 x2 x3 x4
 obtain ⟨x0,x1,x2,x3,x4⟩:=HK1.out.five
 go_wp2_with fail
 go_ret2
 exact ⟨rfl,HB1.out⟩
set_option maxRecDepth 100000 in
set_option maxHeartbeats 4000000 in
theorem xlhead_any (h:XLAt o c w q x p) (hd:RFAt o cr w p R) (hf:Fit R k) (hk:k≤80000) (hc:c<cr∨cr+3<c) (hc1:c+1<cr∨cr+3<c+1) (he:x.epoch<18446744073709551616) (lsn:Nat) (hl:lsn<18446744073709551616) (at_:Int) :
 Calls Tryz.prog 57 #[.pointer (some ⟨q,0,none⟩), .int .u64 lsn, .int .i64 at_] w fun e w'=>e = .returned (.int .i64 (R.lhead 1 x.epoch 1 ⟨x.epoch,lsn,at_⟩).1)∧∃o',RFAt o' cr w' p (R.lhead 1 x.epoch 1 ⟨x.epoch,lsn,at_⟩).2∧Step o (cutF cr) w o' w':=by
 have H:=Lib.hid h
 have HD:=Lib.hid hd
 have HT:=Lib.hid hf
 obtain ⟨x0,x1,x2,x3,x4,x5,x6,x7⟩:=h.nine
 have HN1:=Lib.hid (show ¬cutF cr c by unfold cutF;omega)
 have HN2:=Lib.hid (show ¬cutF cr (c+1) by unfold cutF;omega)
 have HK:=Lib.hid hk
 have HE:=Lib.hid he
 have HL:=Lib.hid hl
 have HDE:=Lib.hid (show R.lhead 1 x.epoch 1 ⟨x.epoch,lsn,at_⟩=if (Hd.mk x.epoch lsn at_).putE≠0 then ((Hd.mk x.epoch lsn at_).putE,R) else if (R.write 1 x.epoch 1 (Hd.mk x.epoch lsn at_).putS).1≠0 then R.write 1 x.epoch 1 (Hd.mk x.epoch lsn at_).putS else (R.write 1 x.epoch 1 (Hd.mk x.epoch lsn at_).putS).2.barrier 1 x.epoch from rfl)
 have HPS:=Lib.hid (puts_size ⟨x.epoch,lsn,at_⟩)
 clear h hd hf hk hc hc1 he hl
 go_enter Tryz.func57,Tryz.ntmps57
 go_wp2_with fail
 refine (refputhead_any ⟨x.epoch,lsn,at_⟩ _ HE.out HL.out).mono ?_
 rintro e w1 ⟨rfl,hb1⟩
 have H1:=Lib.hid (H.out.below_ hb1)
 have HD1:=Lib.hid (HD.out.below_ hb1)
 have HS1:=Lib.hid (Step.of_below o (cutF cr) hb1)
 clear hb1 x0 x1 x2 x3 x4 x5 x6 x7
 obtain ⟨E,hE⟩:∃E,(Hd.mk x.epoch lsn at_).putE=E:=⟨_,rfl⟩
 obtain ⟨S,hS⟩:∃S,(Hd.mk x.epoch lsn at_).putS=S:=⟨_,rfl⟩
 rw [hE,hS] at HDE
 rw [hS] at HPS
 rw [hE,hS]
 clear hE hS
 go_upto_region 2 with (fail)
 have x4:=H1.out.drew.six
 go_region_held3 (fun w'=>w'.cell? ⟨q,1,none⟩=some (.int .i64 2)∧w'.cell? ⟨q,2,none⟩=some (.int .i64 10)∧w'.cell? ⟨q,3,none⟩=some (.int .i64 8)∧w'.cell? ⟨q,4,none⟩=some (.int .i64 4)∧w'.cell? ⟨q,5,none⟩=some (.int .i64 32)∧w'.cell? ⟨q,6,none⟩=some (.int .i64 1))
  (first | exact x4 | exact hx2.six | go_keep)
  (first | (go_at_call 56;((with_reducible refine (reflogat_one _).mono ?_);rintro e2 w2 ⟨rfl,hb2⟩;have hx2:=H1.out.drew.below_ hb2)))
 have H2:=Lib.hid hx2
 have HD2:=Lib.hid (HD1.out.drew.below_ hb2)
 have HS2:=Lib.hid (HS1.out.trans (Step.of_drew (Step.of_below o (cutF cr) hb2)))
 clear hx2 hb2 x4
 by_cases h0:E=0
 ·subst h0
  have HD3:=Lib.hid (show R.lhead 1 x.epoch 1 ⟨x.epoch,lsn,at_⟩=if (R.write 1 x.epoch 1 S).1≠0 then R.write 1 x.epoch 1 S else (R.write 1 x.epoch 1 S).2.barrier 1 x.epoch by rw [HDE.out];rfl)
  clear HDE
  go_upto_region 4 with (fail)
  have x4:=H2.out.drew.three
  go_region_held3 (fun w'=>w'.cell? ⟨q,0,none⟩=some (.pointer (some ⟨p,0,none⟩))∧w'.cell? ⟨q,6,none⟩=some (.int .i64 1)∧w'.cell? ⟨q,7,none⟩=some (.int .u64 x.epoch))
   (first | exact x4 | exact hx3.three | go_keep)
   (first | (go_at_call 42;((with_reducible refine (rfwrite_any HD2.out.drew 1 x.epoch 1 S HT.out.left HT.out.keep (by rw [HT.out.room];omega) (by have:=HT.out.len;have:=HK.out;omega) (by have:=HPS.out;unfold maxLen;omega)).mono ?_);rintro e3 w3 ⟨rfl,o3,hd3,hs3⟩;have hx3:=H2.out.drew.step hs3 HN1.out HN2.out)))
  have H3:=Lib.hid hx3
  have HD3':=Lib.hid hd3
  have HS3:=Lib.hid (HS2.out.trans (hs3.of_drew))
  have HT3:=Lib.hid (HT.out.write 1 x.epoch 1 S)
  clear hx3 hd3 hs3 x4
  obtain ⟨F,hF⟩:∃F,R.write 1 x.epoch 1 S=F:=⟨_,rfl⟩
  rw [hF] at HD3 HD3' HT3 ⊢
  obtain ⟨F,R2⟩:=F
  simp only at HD3' HT3 ⊢
  clear hF
  by_cases h1:F=0
  ·subst h1
   have HR:=Lib.hid (show R.lhead 1 x.epoch 1 ⟨x.epoch,lsn,at_⟩=R2.barrier 1 x.epoch by rw [HD3.out];simp)
   clear HD3
   go_upto_region 6 with (fail)
   have x3:=H3.out.drew.three
   go_region_held3 (fun w'=>w'.cell? ⟨q,0,none⟩=some (.pointer (some ⟨p,0,none⟩))∧w'.cell? ⟨q,6,none⟩=some (.int .i64 1)∧w'.cell? ⟨q,7,none⟩=some (.int .u64 x.epoch))
    (first | exact x3 | exact hx4.three | go_keep)
    (first | (go_at_call 43;((with_reducible refine (rfbarrier_any HD3'.out.drew 1 x.epoch HT3.out.left HT3.out.keep (by have:=HT3.out.len;have:=HK.out;have:=HPS.out;omega)).mono ?_);rintro e4 w4 ⟨rfl,o4,hd4,hs4⟩;have hx4:=H3.out.drew.step hs4 HN1.out HN2.out)))
   have HD4:=Lib.hid hd4
   have HS4:=Lib.hid (HS3.out.trans hs4.of_drew)
   clear hx4 hd4 hs4 x3
   go_wp2_with fail
   go_ret
   exact ⟨by rw [HR.out];first | done | rfl,o4,by rw [HR.out];exact HD4.out,HS4.out⟩
  ·have t1:(F == 0)=false:=by simpa using h1
   have HR:=Lib.hid (show R.lhead 1 x.epoch 1 ⟨x.epoch,lsn,at_⟩=(F,R2) by rw [HD3.out,if_pos h1])
   clear h1
   go_wp2_with fail
   go_ret
   exact ⟨by rw [HR.out];first | done | rfl,o3,by rw [HR.out];exact HD3'.out,HS3.out⟩
 ·have t1:(E == 0)=false:=by simpa using h0
  have HR:=Lib.hid (show R.lhead 1 x.epoch 1 ⟨x.epoch,lsn,at_⟩=(E,R) by rw [HDE.out,if_pos h0])
  clear h0
  go_wp2_with fail
  go_ret
  exact ⟨by rw [HR.out];first | done | rfl,o,by rw [HR.out];exact HD2.out,HS2.out⟩
end
end Go.Proofs.YtldoeodkeieejaaGreatDoor
