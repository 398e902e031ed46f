import Derived.Test.YtldoeodkeieejaaGreatDoorKEveP
import Derived.Test.YtldoeodkeieejaaGreatDoorKLogG
namespace Go.Proofs.YtldoeodkeieejaaGreatDoor
open Go.RowKit
def over (f:Int→Option ByteArray) (l:List Ws):Int→Option ByteArray:=l.foldl (fun g x=>upd g x.at_ x.data) f
theorem over_add (f:Int→Option ByteArray) (l:List Ws) (x:Ws):over f (l ++ [x])=upd (over f l) x.at_ x.data:=by
 unfold over
 rw [List.foldl_append]
 rfl
def Chain : Int→List Ws→Int→Prop
 | s,[],t=>s≤t
 | s,x :: l,t=>s<x.seq∧Chain x.seq l t
theorem Chain.le : ∀ {l:List Ws} {s t:Int},Chain s l t→s≤t∧∀x∈l,x.seq≤t
 | [],_,_,h=>⟨h,(fun x hx=>by cases hx)⟩
 | x :: l,s,t,h=>by
   obtain ⟨h1,h2⟩:=h
   obtain ⟨a,b⟩:=h2.le
   refine ⟨by omega,fun y hy => ?_⟩
   rcases List.mem_cons.1 hy with rfl | hy
   ·exact a
   ·exact b y hy
theorem Chain.add : ∀ {l:List Ws} {s t:Int} {x:Ws},Chain s l t→t<x.seq→Chain s (l ++ [x]) x.seq
 | [],_,_,_,h,hx=>⟨Int.lt_of_le_of_lt h hx,Int.le_refl _⟩
 | _ :: _,_,_,_,h,hx=>⟨h.1,h.2.add hx⟩
def lastD (D:Dk):Int→Option ByteArray:=fun k=>(D.lasts k).map (fun x:Ws=>x.data)
structure Sane (D:Dk) (n:Int):Prop where
 nodes:∀x∈D.waits,x.node=n
 now:D.now=over (lastD D) D.waits
 chain:∃s0:Int,0≤s0∧(∀k x,D.lasts k=some x→x.seq≤s0)∧Chain s0 D.waits D.seq
theorem keeps_over : ∀(l:List Ws) (D:Dk) (s t:Int),0≤s→(∀k x,D.lasts k=some x→x.seq≤s)→Chain s l t →
 lastD (l.foldl Dk.keep D)=over (lastD D) l∧∀k x,(l.foldl Dk.keep D).lasts k=some x→x.seq≤t
 | [],D,s,t,_,hl,hc=>⟨rfl,fun k x h=>Int.le_trans (hl k x h) hc⟩
 | x :: l,D,s,t,h0,hl,hc=>by
   obtain ⟨h1,h2⟩:=hc
   have hk:D.keep x = {D with lasts:=upd D.lasts x.at_ x}:=by
    unfold Dk.keep
    rw [if_pos]
    cases hx:D.lasts x.at_ with
    | none=>show (0:Int)<x.seq;omega
    | some y=>have:=hl _ _ hx;show y.seq<x.seq;omega
   have hd:lastD (D.keep x)=upd (lastD D) x.at_ x.data:=by
    rw [hk]
    funext k
    show (upd D.lasts x.at_ x k).map (fun x:Ws=>x.data)=_
    unfold upd lastD
    split <;> rfl
   have hl2:∀k y,(D.keep x).lasts k=some y→y.seq≤x.seq:=by
    rw [hk]
    intro k y hy
    have hy:upd D.lasts x.at_ x k=some y:=hy
    unfold upd at hy
    split at hy
    ·injection hy with hy
     rw [hy]
     exact Int.le_refl _
    ·have:=hl k y hy
     omega
   obtain ⟨a,b⟩:=keeps_over l (D.keep x) x.seq t (by omega) hl2 h2
   refine ⟨?_,b⟩
   show lastD (l.foldl Dk.keep (D.keep x))=over (upd (lastD D) x.at_ x.data) l
   rw [a,hd]
section
variable {D:Dk} {n:Int} {A:Int→ByteArray→Prop}
theorem Sane.settle (h:Sane D n) (m:Int):Sane (D.settle n) m∧(D.settle n).waits = []∧lastD (D.settle n)=D.now:=by
 obtain ⟨s0,h0,hl,hc⟩:=h.chain
 have e1:D.waits.filter (fun x=>x.node=n)=D.waits:=List.filter_eq_self.2 (fun x hx=>decide_eq_true (h.nodes x hx))
 have e2:D.waits.filter (fun x=>¬x.node=n) = []:=List.filter_eq_nil_iff.2 (fun x hx=>by simp [h.nodes x hx])
 obtain ⟨a,b⟩:=keeps_over D.waits D s0 D.seq h0 hl hc
 have e3:D.settle n = {D.waits.foldl Dk.keep D with waits := []}:=by
  unfold Dk.settle
  rw [e1,e2]
 have hw:(D.settle n).waits = []:=by rw [e3]
 have hq:(D.settle n).seq=D.seq:=(settle_same D n).2.2.2.2.2.2
 have hd:lastD (D.settle n)=D.now:=by
  rw [e3]
  exact a.trans h.now.symm
 refine ⟨⟨by rw [hw];simp,?_,D.seq,by omega,?_,?_⟩,hw,hd⟩
 ·rw [settle_now,hw,hd]
  rfl
 ·rw [e3]
  exact b
 ·rw [hw,hq]
  exact Int.le_refl _
theorem Sane.any (h:Sane D n) (hw:D.waits = []) (m:Int):Sane D m:=⟨by rw [hw];simp,h.now,h.chain⟩
theorem Sane.write1 (h:Sane D n) (a:Int) (s:ByteArray):Sane (D.write1 n a s) n:=by
 obtain ⟨s0,h0,hl,hc⟩:=h.chain
 refine ⟨fun x hx => ?_,?_,s0,h0,hl,?_⟩
 ·have hx:x∈D.waits ++ [⟨n,a,(D.seq+1:Nat),s⟩]:=hx
  rcases List.mem_append.1 hx with hx | hx
  ·exact h.nodes x hx
  ·rw [List.mem_singleton.1 hx]
 ·show upd D.now a s=over (lastD D) (D.waits ++ [⟨n,a,(D.seq+1:Nat),s⟩])
  rw [over_add,←h.now]
 ·exact hc.add (x:=⟨n,a,(D.seq+1:Nat),s⟩) (show (D.seq:Int)<((D.seq+1:Nat):Int) by omega)
theorem Sane.writeN (h:Sane D n) (a:Int) (data:ByteArray):∀m,Sane (D.writeN n a data m) n
 | 0=>h
 | m+1=>(Sane.writeN h a data m).write1 _ _
def lsec (D:Dk) (k:Int):ByteArray:=(lastD D k).getD (str (zer 64))
structure Safe (D:Dk) (A:Int→ByteArray→Prop):Prop where
 last:∀k,A k (lsec D k)
 wait:∀x∈D.waits,A x.at_ x.data
theorem over_safe : ∀(l:List Ws) (f:Int→Option ByteArray),(∀k,A k ((f k).getD (str (zer 64))))→(∀x∈l,A x.at_ x.data)→∀k,A k ((over f l k).getD (str (zer 64)))
 | [],_,hf,_=>hf
 | x :: l,f,hf,hl=>over_safe l (upd f x.at_ x.data) (fun k=>by
    unfold upd
    split
    ·rename_i hk
     rw [hk]
     exact hl x (List.mem_cons_self ..)
    ·exact hf k) (fun y hy=>hl y (List.mem_cons_of_mem _ hy))
theorem Safe.sec (h:Safe D A) (hs:Sane D n) (k:Int):A k (D.sec k):=by
 unfold Dk.sec
 rw [hs.now]
 exact over_safe D.waits (lastD D) h.last h.wait k
theorem lsec_sec (hs:Sane D n) (hw:D.waits = []) (k:Int):lsec D k=D.sec k:=by
 unfold lsec Dk.sec
 rw [hs.now,hw]
 rfl
theorem safe_of_sec (hs:Sane D n) (hw:D.waits = []) (h:∀k,A k (D.sec k)):Safe D A:=⟨fun k=>by rw [lsec_sec hs hw];exact h k,by rw [hw];simp⟩
theorem Safe.settle (h:Safe D A) (hs:Sane D n):Safe (D.settle n) A:=by
 obtain ⟨a,b,_⟩:=hs.settle n
 refine safe_of_sec a b (fun k => ?_)
 rw [settle_sec]
 exact h.sec hs k
theorem Safe.write1 (h:Safe D A) {a:Int} {s:ByteArray} (ha:A a s):Safe (D.write1 n a s) A:=by
 refine ⟨h.last,fun x hx => ?_⟩
 have hx:x∈D.waits ++ [⟨n,a,(D.seq+1:Nat),s⟩]:=hx
 rcases List.mem_append.1 hx with hx | hx
 ·exact h.wait x hx
 ·rw [List.mem_singleton.1 hx]
  exact ha
theorem Safe.writeN (h:Safe D A) {a:Int} {data:ByteArray}:∀m:Nat,(∀j:Nat,j<m→A (a+j) (sect data j))→Safe (D.writeN n a data m) A
 | 0,_=>h
 | m+1,hm=>(Safe.writeN h m (fun j hj=>hm j (by omega))).write1 (hm m (by omega))
theorem cutN_lasts (keep:List Int) (k:Int) (x:Ws):∀m,(D.cutN keep m).lasts k=some x→D.lasts k=some x∨(x∈D.waits∧x.at_=k)
 | 0,h => .inl h
 | m+1,h=>by
   unfold Dk.cutN at h
   cases hx:D.waits[m]? with
   | none =>
     rw [hx] at h
     exact cutN_lasts keep k x m h
   | some y =>
     rw [hx] at h
     simp only at h
     split at h
     ·unfold Dk.keep at h
      split at h
      ·have h:upd (D.cutN keep m).lasts y.at_ y k=some x:=h
       unfold upd at h
       split at h
       ·rename_i hk
        injection h with h
        subst h
        exact .inr ⟨List.mem_of_getElem? hx,hk.symm⟩
       ·exact cutN_lasts keep k x m h
      ·exact cutN_lasts keep k x m h
     ·exact cutN_lasts keep k x m h
theorem cutN_none (keep:List Int) (k:Int):∀m,(D.cutN keep m).lasts k=none→D.lasts k=none
 | 0,h=>h
 | m+1,h=>by
   unfold Dk.cutN at h
   cases hx:D.waits[m]? with
   | none =>
     rw [hx] at h
     exact cutN_none keep k m h
   | some y =>
     rw [hx] at h
     simp only at h
     split at h
     ·unfold Dk.keep at h
      split at h
      ·have h:upd (D.cutN keep m).lasts y.at_ y k=none:=h
       unfold upd at h
       split at h
       ·cases h
       ·exact cutN_none keep k m h
      ·exact cutN_none keep k m h
     ·exact cutN_none keep k m h
theorem cut_leaves (h:Sane D n) (hs:Safe D A) (hon:D.on=true) (keep:List Int) (m:Int):Sane (D.cut keep).2 m∧Safe (D.cut keep).2 A∧(D.cut keep).2.waits = []:=by
 have e:(D.cut keep).2=((D.arm (-1) []).cutN keep D.waits.length).off:=by
  unfold Dk.cut
  rw [if_neg (by rw [hon];decide)]
 obtain ⟨s0,h0,hl,hc⟩:=h.chain
 obtain ⟨c1,c2⟩:=hc.le
 have hq:((D.arm (-1) []).cutN keep D.waits.length).seq=D.seq:=(cutN_same (D.arm (-1) []) keep D.waits.length).2.1
 have hla:∀k x,((D.arm (-1) []).cutN keep D.waits.length).lasts k=some x→D.lasts k=some x∨(x∈D.waits∧x.at_=k):=fun k x=>cutN_lasts (D:=D.arm (-1) []) keep k x _
 rw [e]
 have hln:∀k,((D.arm (-1) []).cutN keep D.waits.length).lasts k=none→D.lasts k=none:=fun k=>cutN_none (D:=D.arm (-1) []) keep k _
 generalize (D.arm (-1) []).cutN keep D.waits.length=E at hq hla hln
 have hsa:Sane E.off m:=by
  refine ⟨(fun x hx=>by cases hx),rfl,D.seq,by omega,fun k x hx => ?_,?_⟩
  ·rcases hla k x hx with hx | ⟨hx,_⟩
   ·have:=hl k x hx
    omega
   ·exact c2 x hx
  ·show (D.seq:Int)≤(E.seq:Int)
   rw [hq]
   exact Int.le_refl _
 refine ⟨hsa,⟨fun k => ?_,fun x hx=>by cases hx⟩,rfl⟩
 show A k (((E.lasts k).map (fun x:Ws=>x.data)).getD (str (zer 64)))
 cases hE:E.lasts k with
 | none =>
   have:=hs.last k
   unfold lsec lastD at this
   rw [hln k hE] at this
   exact this
 | some x =>
   rcases hla k x hE with hx | ⟨hx,hk⟩
   ·have:=hs.last k
    unfold lsec lastD at this
    rw [hx] at this
    exact this
   ·have:=hs.wait x hx
    rw [hk] at this
    exact this
end
structure Run1 (D:Dk) (e:Nat) (A:Int→ByteArray→Prop):Prop where
 on:D.on=true
 sectors:D.sectors=37
 t1:D.table 1=e
 sane:Sane D ((1:Nat):Int)
 safe:Safe D A
structure Off1 (D:Dk) (e:Nat) (A:Int→ByteArray→Prop):Prop where
 on:D.on=false
 sectors:D.sectors=37
 t1:D.table 1=e
 sane:Sane D ((1:Nat):Int)
 safe:Safe D A
 waits:D.waits = []
section
variable {D:Dk} {e:Nat} {A B:Int→ByteArray→Prop}
theorem Run1.live (h:Run1 D e A):Live D:=⟨h.on,h.sectors⟩
theorem Run1.left (h:Run1 D e A) (n:Int):Run1 {D with left:=n} e A:=⟨h.on,h.sectors,h.t1,⟨h.sane.nodes,h.sane.now,h.sane.chain⟩,⟨h.safe.last,h.safe.wait⟩⟩
theorem Run1.goes (h:Run1 D e A):(∃n,D.goes=(false,{D with left:=n}))∨(D.armed=true∧D.goes.1=true∧Off1 D.goes.2 e A):=by
 by_cases ha:D.armed=false
 ·exact .inl ⟨D.left,goes_calm ha⟩
 ·by_cases hl:0<D.left
  ·left
   refine ⟨wrap64 (D.left - 1),?_⟩
   unfold Dk.goes
   rw [if_neg ha,if_pos hl]
  ·right
   have eg:D.goes=(true,(D.cut D.stays).2):=by
    unfold Dk.goes
    rw [if_neg ha,if_neg hl]
   obtain ⟨c1,c2,c3⟩:=cut_leaves h.sane h.safe h.on D.stays ((1:Nat):Int)
   obtain ⟨d1,_,d3,_,_,_,d7,_⟩:=cut_same D D.stays
   rw [eg]
   exact ⟨by cases hb:D.armed;exact absurd hb ha;rfl,rfl,d7,d1.trans h.sectors,by rw [d3];exact h.t1,c1,c2,c3⟩
theorem Run1.may (h:Run1 D e A):D.may ((1:Nat):Int)=0:=by
 unfold Dk.may
 rw [if_neg (by rw [h.on];decide),if_neg (by omega)]
theorem Run1.write (h:Run1 D e A) (h0:e≠0) {a:Int} {data:ByteArray} {m:Nat} (hd:data.size=m*64) (m1:1≤m) (m2:m≤16) (a1:0≤a) (a2:a+m≤37) :
 (D.armed=true∧(D.write (1:Nat) e a data).1=14∧Off1 (D.write (1:Nat) e a data).2 e A)∨∃n,D.write (1:Nat) e a data=(0,({D with left:=n}:Dk).writeN (1:Nat) a data m):=by
 have hq:data.size / 64=m:=by omega
 have hr:data.size % 64=0:=by omega
 have hth:D.there a (data.size / 64:Nat)=true:=by
  unfold Dk.there
  rw [hq,h.sectors]
  exact decide_eq_true ⟨a1,by omega,by omega⟩
 have had:D.admits ((1:Nat):Int).toNat e=0:=by
  unfold Dk.admits
  exact if_neg (by show ¬(e=0∨D.table 1≠e);simp [h0,h.t1])
 have ew:D.write (1:Nat) e a data=if D.goes.1=true then (14,D.goes.2) else (0,D.goes.2.writeN (1:Nat) a data m):=by
  unfold Dk.write
  rw [if_neg (by rw [h.may];simp),if_neg (by omega),if_neg (by rw [had];simp),if_neg (by rw [hth];simp),hq]
 rw [ew]
 rcases h.goes with ⟨n,hg⟩ | ⟨g1,g2,g3⟩
 ·right
  rw [hg]
  exact ⟨n,if_neg (by simp)⟩
 ·left
  rw [if_pos g2]
  exact ⟨g1,rfl,g3⟩
theorem Run1.barrier (h:Run1 D e A) (h0:e≠0) :
 (D.armed=true∧(D.barrier (1:Nat) e).1=14∧Off1 (D.barrier (1:Nat) e).2 e A)∨∃n,D.barrier (1:Nat) e=(0,({D with left:=n}:Dk).settle (1:Nat)):=by
 have had:D.admits ((1:Nat):Int).toNat e=0:=by
  unfold Dk.admits
  exact if_neg (by show ¬(e=0∨D.table 1≠e);simp [h0,h.t1])
 have ew:D.barrier (1:Nat) e=if D.goes.1=true then (14,D.goes.2) else (0,D.goes.2.settle (1:Nat)):=by
  unfold Dk.barrier
  rw [if_neg (by rw [h.may];simp),if_neg (by rw [had];simp)]
 rw [ew]
 rcases h.goes with ⟨n,hg⟩ | ⟨g1,g2,g3⟩
 ·right
  rw [hg]
  exact ⟨n,if_neg (by simp)⟩
 ·left
  rw [if_pos g2]
  exact ⟨g1,rfl,g3⟩
theorem Run1.settle (h:Run1 D e A):Run1 (D.settle (1:Nat)) e A∧(D.settle (1:Nat)).waits = []:=by
 obtain ⟨a,b,_⟩:=h.sane.settle ((1:Nat):Int)
 have s:=settle_same D ((1:Nat):Int)
 exact ⟨⟨s.1.trans h.on,s.2.2.1.trans h.sectors,by rw [(settle_tab D _).1];exact h.t1,a,h.safe.settle h.sane⟩,b⟩
theorem Run1.wrote (h:Run1 D e A) {a:Int} {data:ByteArray} {m:Nat} (hm:∀j:Nat,j<m→A (a+j) (sect data j)):Run1 (D.writeN (1:Nat) a data m) e A:=by
 have s:=writeN_same D ((1:Nat):Int) a data m
 exact ⟨s.1.trans h.on,s.2.2.1.trans h.sectors,by rw [s.2.2.2.2.2.1];exact h.t1,h.sane.writeN a data m,h.safe.writeN m hm⟩
theorem Run1.weak (h:Run1 D e A) (hw:D.waits = []) (hb:∀k,B k (D.sec k)):Run1 D e B:=⟨h.on,h.sectors,h.t1,h.sane,safe_of_sec h.sane hw hb⟩
theorem Off1.weak (h:Off1 D e A) (hb:∀k v,A k v→B k v):Off1 D e B:=⟨h.on,h.sectors,h.t1,h.sane,⟨fun k=>hb _ _ (h.safe.last k),fun x hx=>hb _ _ (h.safe.wait x hx)⟩,h.waits⟩
end
def plc (m c:Nat):Nat:=(3*(m - 1)+c) % 7
def hdB (H:Nat):ByteArray:=str (headL ⟨9,H,((3*(H - 1) % 7:Nat):Int)⟩)
structure AA (ims:List Im) (hs:Nat→Prop) (F S:Nat) (k:Int) (s:ByteArray):Prop where
 head:k=1→∃H,hs H∧s=hdB H
 ring:∀j:Nat,j<7→k=2+(j:Int)→∃t,s=str t∧Sound ims t
 exact_:∀(m:Nat) i (c:Nat),F≤m→m≤S→ims[m - 1]? = some i→c<3→k=2+((plc m c:Nat):Int)→s=str (secR m i c)
 rest:9≤k→s=str (zer 64)
theorem AA.mono {ims:List Im} {hs hs':Nat→Prop} {F S F' S':Nat} {k:Int} {s:ByteArray} (h:AA ims hs F S k s) (hh:∀H,hs H→hs' H) (h1:F≤F') (h2:S'≤S):AA ims hs' F' S' k s :=
 ⟨fun e=>by obtain ⟨H,a,b⟩:=h.head e;exact ⟨H,hh H a,b⟩,h.ring,fun m i c a b=>h.exact_ m i c (by omega) (by omega),h.rest⟩
theorem Sound.sub {ims ims':List Im} {s:List UInt8} (h:Sound ims s) (hs:∀(j:Nat) x,ims[j]? = some x→ims'[j]? = some x):Sound ims' s:=by
 rcases h with e | ⟨m,i,k,h1,h2,h3,h4⟩
 ·exact .inl e
 ·exact .inr ⟨m,i,k,h1,hs _ _ h2,h3,h4⟩
theorem AA.sub {ims ims':List Im} {hs:Nat→Prop} {F S:Nat} {k:Int} {s:ByteArray} (h:AA ims hs F S k s) (hF:1≤F) (hS:S≤ims.length) (hsub:∀(j:Nat) x,ims[j]? = some x→ims'[j]? = some x):AA ims' hs F S k s :=
 ⟨h.head,fun j a b=>by obtain ⟨t,e,ht⟩:=h.ring j a b;exact ⟨t,e,ht.sub hsub⟩,fun m i c a b d=>by
  obtain ⟨y,hy⟩:∃y,ims[m - 1]? = some y:=⟨_,List.getElem?_eq_getElem (by omega)⟩
  have:=hsub _ _ hy
  rw [d] at this
  injection this with this
  subst this
  exact h.exact_ m i c a b hy,h.rest⟩
theorem tk_sub {ims:List Im} {n:Nat}:∀(j:Nat) x,(ims.take n)[j]? = some x→ims[j]? = some x:=by
 intro j x h
 rw [List.getElem?_take] at h
 split at h
 ·exact h
 ·cases h
theorem tk_more {ims:List Im} {n n':Nat} (h:n≤n'):∀(j:Nat) x,(ims.take n)[j]? = some x→(ims.take n')[j]? = some x:=by
 intro j x h1
 rw [List.getElem?_take] at h1 ⊢
 split at h1
 ·rw [if_pos (by omega)]
  exact h1
 ·cases h1
theorem tk_get {ims:List Im} {n j:Nat} {x:Im} (h:ims[j]? = some x) (hj:j<n):(ims.take n)[j]? = some x:=by
 rw [List.getElem?_take,if_pos hj]
 exact h
theorem Off1.more {ims ims':List Im} {hs:Nat→Prop} {F S:Nat} {D:Dk} (h:Off1 D 9 (AA ims hs F S)) (hF:1≤F) (hS:S≤ims.length) (hsub:∀(j:Nat) x,ims[j]? = some x→ims'[j]? = some x):Off1 D 9 (AA ims' hs F S):=h.weak (fun _ _ a=>a.sub hF hS hsub)
theorem Run1.more {ims ims':List Im} {hs:Nat→Prop} {F S:Nat} {D:Dk} (h:Run1 D 9 (AA ims hs F S)) (hF:1≤F) (hS:S≤ims.length) (hsub:∀(j:Nat) x,ims[j]? = some x→ims'[j]? = some x):Run1 D 9 (AA ims' hs F S) :=
 ⟨h.on,h.sectors,h.t1,h.sane,⟨fun k=>(h.safe.last k).sub hF hS hsub,fun x hx=>(h.safe.wait x hx).sub hF hS hsub⟩⟩
def enM (m:Nat) (i:Im):En:=enOf m (3*(m - 1) % 7) i
structure Lv (ims:List Im) (D:Dk) (g:Lg):Prop where
 run:Run1 D 9 (AA (ims.take g.written) (fun H=>H=g.first) g.first g.synced)
 node:g.node=1
 epoch:g.epoch=9
 base:g.base=1
 next:g.next=ims.length+1
 at_:g.at_=3*ims.length % 7
 whole:g.broken=false
 f1:1≤g.first
 f2:g.first≤g.synced+1
 sw:g.synced≤g.written
 wn:g.written≤ims.length
 few:ims.length<g.first+2
 fine:∀i∈ims,Fine i
 len:g.live.length=ims.length+1 - g.first
 live:∀(t:Nat) x,g.live[t]? = some x→∃i,ims[g.first+t - 1]? = some i∧x=if g.first+t≤g.written then (enM (g.first+t) i).done else enM (g.first+t) i
 now:∀(m:Nat) i (c:Nat),g.first≤m→m≤g.written→ims[m - 1]? = some i→c<3→D.sec (2+((plc m c:Nat):Int))=str (secR m i c)
 few60:ims.length≤100000
 last:D.last=9
theorem sect_recL (m:Nat) (i:Im) (c n:Nat) (hn:c+n≤3) (j:Nat) (hj:j<n):sect ((str (recL (rcI m i))).extract (c*64) ((c+n)*64)) j=str (secR m i (c+j)):=by
 have h3:secsOf (((rcI m i).images.length:Nat):Int)=3:=secs_one
 have hp:=place_rec (r:=rcI m i) (rest := []) (c+j) (by rw [h3];omega)
 rw [List.append_nil] at hp
 unfold placeL at hp
 rw [extract_str,str_list] at hp
 unfold sect
 rw [extract_str,extract_str]
 congr 1
 unfold secR
 rw [←hp,List.take_drop,List.drop_drop,List.take_take]
 congr 1
 ·omega
 ·congr 1
  omega
theorem ext_size (m:Nat) (i:Im) (c n:Nat) (hn:c+n≤3):((str (recL (rcI m i))).extract (c*64) ((c+n)*64)).size=n*64:=by
 rw [ByteArray.size_extract,str_size,recL_one]
 omega
section
variable {ims:List Im} {D:Dk} {g:Lg}
theorem plc_ne {m m' c c':Nat} (h1:1≤m') (h:m=m'+1) (hc:c<3) (hc':c'<3):plc m c≠plc m' c':=by
 unfold plc
 omega
theorem plc_inj {m c c':Nat} (hc:c<3) (hc':c'<3) (h:plc m c=plc m c'):c=c':=by
 unfold plc at h
 omega
theorem put_go {hs:Nat→Prop} {F S m:Nat} {im:Im} (hg1:g.node=1) (hg2:g.epoch=9) (hg3:g.base=1) (hF:1≤F) (hm1:F≤m) (hmS:S<m) (hmF:m<F+2) (him:ims[m - 1]? = some im):∀(f c:Nat) (D:Dk),3≤c+f→c≤3→Run1 D 9 (AA ims hs F S) →
 (D.armed=true∧(putGo g (enM m im) f c D).1=14∧Off1 (putGo g (enM m im) f c D).2 9 (AA ims hs F S)) ∨
 ((putGo g (enM m im) f c D).1=0∧Run1 (putGo g (enM m im) f c D).2 9 (AA ims hs F S)∧(putGo g (enM m im) f c D).2.armed=D.armed∧(putGo g (enM m im) f c D).2.last=D.last∧(∀d,c≤d→d<3→(putGo g (enM m im) f c D).2.sec (2+((plc m d:Nat):Int))=str (secR m im d)) ∧
   ∀k:Int,(∀d,c≤d→d<3→k≠2+((plc m d:Nat):Int))→(putGo g (enM m im) f c D).2.sec k=D.sec k)
 | 0,c,D,h1,h2,hr => .inr ⟨rfl,hr,rfl,rfl,fun d a b=>by omega,fun k _=>rfl⟩
 | f+1,c,D,h1,h2,hr=>by
   by_cases hc:3≤c
   ·rw [show putGo g (enM m im) (f+1) c D=(0,D) from putGo_le (by show 3≤c;exact hc)]
    exact .inr ⟨rfl,hr,rfl,rfl,fun d a b=>by omega,fun k _=>rfl⟩
   ·obtain ⟨a,ha⟩:∃a,(3*(m - 1) % 7+c) % 7=a:=⟨_,rfl⟩
    obtain ⟨n,hn⟩:∃n,min (3 - c) (7 - a)=n:=⟨_,rfl⟩
    have hal:a<7:=by omega
    have hn1:1≤n∧c+n≤3∧a+n≤7:=by omega
    obtain ⟨data,hdata⟩:∃data,(str (recL (rcI m im))).extract (c*64) ((c+n)*64)=data:=⟨_,rfl⟩
    have hds:data.size=n*64:=by rw [←hdata];exact ext_size m im c n hn1.2.1
    have hsec:∀j,j<n→sect data j=str (secR m im (c+j)):=fun j hj=>by rw [←hdata];exact sect_recL m im c n hn1.2.1 j hj
    have hpl:∀j,j<n→a+j=plc m (c+j):=fun j hj=>by unfold plc;omega
    have eg:putGo g (enM m im) (f+1) c D=if (D.write (1:Nat) 9 ((2+a:Nat):Int) data).1≠0 then D.write (1:Nat) 9 ((2+a:Nat):Int) data else putGo g (enM m im) f (c+n) (D.write (1:Nat) 9 ((2+a:Nat):Int) data).2:=by
     have e0:putGo g (enM m im) (f+1) c D=if (enM m im).n≤c then (0,D) else
      if (D.write g.node g.epoch ((g.base+1+((enM m im).at_+c) % 7:Nat):Int) ((enM m im).bytes.extract (c*64) ((c+min ((enM m im).n - c) (7 - ((enM m im).at_+c) % 7))*64))).1≠0 then D.write g.node g.epoch ((g.base+1+((enM m im).at_+c) % 7:Nat):Int) ((enM m im).bytes.extract (c*64) ((c+min ((enM m im).n - c) (7 - ((enM m im).at_+c) % 7))*64))
      else putGo g (enM m im) f (c+min ((enM m im).n - c) (7 - ((enM m im).at_+c) % 7)) (D.write g.node g.epoch ((g.base+1+((enM m im).at_+c) % 7:Nat):Int) ((enM m im).bytes.extract (c*64) ((c+min ((enM m im).n - c) (7 - ((enM m im).at_+c) % 7))*64))).2:=rfl
     rw [e0,if_neg (show ¬(enM m im).n≤c from hc),show (enM m im).at_=3*(m - 1) % 7 from rfl,show (enM m im).n=3 from rfl,show (enM m im).bytes=str (recL (rcI m im)) from rfl,ha,hn,hdata,hg1,hg2,hg3]
    have hA:∀j:Nat,j<n→AA ims hs F S (((2+a:Nat):Int)+(j:Int)) (sect data j):=by
     intro j hj
     rw [hsec j hj]
     refine ⟨fun e=>by omega,fun j' _ _=>⟨_,rfl, .inr ⟨m,im,c+j,by omega,him,by omega,rfl⟩⟩,fun m' i' c' h3 h4 h5 h6 h7 => ?_,fun e=>by omega⟩
     exfalso
     have h8:=hpl j hj
     exact plc_ne (m:=m) (m':=m') (c:=c+j) (c':=c') (by omega) (by omega) (by omega) h6 (by omega)
    rw [eg]
    rcases hr.write (by decide) hds hn1.1 (by omega) (a:=((2+a:Nat):Int)) (by omega) (by omega) with ⟨w0,w1,w2⟩ | ⟨l,w1⟩
    ·rw [if_pos (by rw [w1];decide)]
     exact .inl ⟨w0,w1,w2⟩
    ·rw [w1,if_neg (by simp)]
     have hr2:=(hr.left l).wrote (m:=n) hA
     have harm:=(writeN_same ({D with left:=l}:Dk) ((1:Nat):Int) ((2+a:Nat):Int) data n).2.1
     have hlas:=(writeN_same ({D with left:=l}:Dk) ((1:Nat):Int) ((2+a:Nat):Int) data n).2.2.2.1
     have hsc:=writeN_sec ({D with left:=l}:Dk) ((1:Nat):Int) ((2+a:Nat):Int) data n
     simp only
     generalize (({D with left:=l}:Dk).writeN ((1:Nat):Int) ((2+a:Nat):Int) data n)=E at hr2 harm hlas hsc ⊢
     have harm:E.armed=D.armed:=harm
     have hlas:E.last=D.last:=hlas
     have hsc:∀k:Int,E.sec k=if ((2+a:Nat):Int)≤k∧k<((2+a:Nat):Int)+(n:Int) then sect data (k - ((2+a:Nat):Int)).toNat else D.sec k:=hsc
     rcases put_go hg1 hg2 hg3 hF hm1 hmS hmF him f (c+n) E (by omega) (by omega) hr2 with ⟨p0,p1,p2⟩ | ⟨p1,p2,p3,p6,p4,p5⟩
     ·exact .inl ⟨by rw [←harm];exact p0,p1,p2⟩
     ·refine .inr ⟨p1,p2,p3.trans harm,p6.trans hlas,fun d d1 d2 => ?_,fun k hk => ?_⟩
      ·by_cases hd:c+n≤d
       ·exact p4 d hd d2
       ·have e5:=hpl (d - c) (by omega)
        rw [show c+(d - c)=d by omega] at e5
        rw [p5 _ (fun d' a1 a2 e=>by have:=plc_inj (m:=m) (c:=d) (c':=d') d2 a2 (by omega);omega),hsc,if_pos (by omega)]
        rw [show (2+((plc m d:Nat):Int) - ((2+a:Nat):Int)).toNat=d - c by omega,hsec (d - c) (by omega),show c+(d - c)=d by omega]
      ·rw [p5 k (fun d a1 a2=>hk d (by omega) a2),hsc,if_neg]
       rintro ⟨k1,k2⟩
       have e5:=hpl (k - ((2+a:Nat):Int)).toNat (by omega)
       exact hk (c+(k - ((2+a:Nat):Int)).toNat) (by omega) (by omega) (by omega)
end
section
variable {ims:List Im} {D:Dk} {g:Lg}
theorem Lv.mono (h:Lv ims D g) {m:Nat} {m':Nat} {c c':Nat} (h1:g.first≤m) (h2:m≤ims.length) (h3:g.first≤m') (h4:m'≤ims.length) (hc:c<3) (hc':c'<3) (e:plc m c=plc m' c'):m=m'∧c=c':=by
 have:=h.few
 have:=h.f1
 by_cases hm:m=m'
 ·subst hm
  exact ⟨rfl,plc_inj hc hc' e⟩
 ·exfalso
  rcases (show m=m'+1∨m'=m+1 by omega) with e1 | e1
  ·exact plc_ne (m:=m) (m':=m') (by omega) e1 hc hc' e
  ·exact plc_ne (m:=m') (m':=m) (by omega) e1 hc' hc e.symm
theorem enM_written (m:Nat) (i:Im):(enM m i).written=false:=rfl
theorem Lv.put (h:Lv ims D g) (hw:g.written<ims.length) {im:Im} (him:ims[g.written]? = some im) :
 (D.armed=true∧(D.put_ g (enM (g.written+1) im)).1=14∧Off1 (D.put_ g (enM (g.written+1) im)).2 9 (AA ims (fun H=>H=g.first) g.first g.synced)) ∨
 ((D.put_ g (enM (g.written+1) im)).1=0∧Lv ims (D.put_ g (enM (g.written+1) im)).2 (g.wrote (g.written+1 - g.first) (enM (g.written+1) im))∧(D.put_ g (enM (g.written+1) im)).2.armed=D.armed):=by
 have f1:=h.f1
 have f2:=h.f2
 have sw:=h.sw
 have few:=h.few
 have len:=h.len
 have htl:(ims.take g.written).length=g.written:=by rw [List.length_take];omega
 have htl2:(ims.take (g.written+1)).length=g.written+1:=by rw [List.length_take];omega
 rcases put_go (ims:=ims.take (g.written+1)) (g:=g) (m:=g.written+1) (im:=im) h.node h.epoch h.base f1 (by omega) (by omega) (by omega) (tk_get (by simpa using him) (by omega)) 3 0 D (by omega) (by omega) (h.run.more f1 (by omega) (tk_more (by omega))) with ⟨p0,p1,p2⟩ | ⟨p1,p2,p3,p6,p4,p5⟩
 ·exact .inl ⟨p0,p1,p2.more f1 (by omega) tk_sub⟩
 ·right
  refine ⟨p1,⟨p2,h.node,h.epoch,h.base,h.next,h.at_,h.whole,f1,f2,?_,?_,few,h.fine,?_,?_,?_,h.few60,p6.trans h.last⟩,p3⟩
  ·show g.synced≤g.written+1
   omega
  ·show g.written+1≤ims.length
   omega
  ·show (g.live.set _ _).length=_
   rw [List.length_set]
   exact len
  ·intro t x hx
   have hx:(g.live.set (g.written+1 - g.first) (enM (g.written+1) im).done)[t]? = some x:=hx
   show ∃i,ims[g.first+t - 1]? = some i∧x=if g.first+t≤g.written+1 then (enM (g.first+t) i).done else enM (g.first+t) i
   by_cases ht:t=g.written+1 - g.first
   ·subst ht
    have hl:=(List.getElem?_eq_some_iff.1 hx).1
    rw [List.length_set] at hl
    rw [List.getElem?_set_self hl] at hx
    injection hx with hx
    have e:g.first+(g.written+1 - g.first)=g.written+1:=by omega
    rw [e]
    exact ⟨im,by simpa using him,by rw [if_pos (Nat.le_refl _)];exact hx.symm⟩
   ·rw [List.getElem?_set_ne (by omega)] at hx
    obtain ⟨i,i0,i1⟩:=h.live t x hx
    refine ⟨i,i0,?_⟩
    rw [i1]
    by_cases h1:g.first+t≤g.written
    ·rw [if_pos h1,if_pos (by omega)]
    ·rw [if_neg h1,if_neg (by omega)]
  ·intro m i c m1 m2 mi hc
   have m2:m≤g.written+1:=m2
   by_cases hm:m=g.written+1
   ·subst hm
    have:i=im:=by
     rw [Nat.add_sub_cancel,him] at mi
     injection mi with mi
     exact mi.symm
    subst this
    exact p4 c (by omega) hc
   ·have m1:g.first≤m:=m1
    have e:=p5 (2+((plc m c:Nat):Int)) (fun d _ d2 e=>hm (h.mono (m:=m) (m':=g.written+1) m1 (by omega) (by omega) (by omega) hc d2 (by omega)).1)
    exact e.trans (h.now m i c m1 (by omega) mi hc)
structure Goes (ims:List Im) (D:Dk) (g:Lg) (R:LgR):Prop where
 err:R.e=0
 lv:Lv ims R.D R.g
 armed:R.D.armed=D.armed
 first:R.g.first=g.first
 more:g.synced≤R.g.synced
def Falls (ims:List Im) (D:Dk) (g:Lg) (R:LgR):Prop:=D.armed=true∧R.e=14∧Off1 R.D 9 (AA ims (fun H=>H=g.first) g.first g.synced)
theorem Lv.wrGo : ∀(l:List En) (k n:Nat) (D:Dk) (g:Lg),Lv ims D g→l=g.live.drop k→(∀t,t<k→t<g.live.length→g.first+t≤g.written) →
 Falls ims D g (wrGo l k n D g)∨(Goes ims D g (wrGo l k n D g)∧(wrGo l k n D g).g.written=ims.length∧(wrGo l k n D g).g.synced=g.synced)
 | [],k,n,D,g,h,hl,hk=>by
   have f2:=h.f2
   have sw:=h.sw
   have wn:=h.wn
   have len:=h.len
   have hkl:g.live.length≤k:=List.drop_eq_nil_iff.1 hl.symm
   refine .inr ⟨⟨rfl,h,rfl,rfl,Nat.le_refl _⟩,?_,rfl⟩
   show g.written=ims.length
   by_cases h0:g.live.length=0
   ·omega
   ·have:=hk (g.live.length - 1) (by omega) (by omega)
    omega
 | x :: l,k,n,D,g,h,hl,hk=>by
   have f2:=h.f2
   have sw:=h.sw
   have wn:=h.wn
   have len:=h.len
   have hx:g.live[k]? = some x:=by
    have:=congrArg (fun z:List En=>z[0]?) hl
    simpa using this.symm
   have hkl:=(List.getElem?_eq_some_iff.1 hx).1
   have hl2:l=g.live.drop (k+1):=by
    have:=congrArg List.tail hl
    simpa [List.tail_drop] using this
   obtain ⟨i,i0,i1⟩:=h.live k x hx
   by_cases hw:g.first+k≤g.written
   ·rw [if_pos hw] at i1
    rw [wrGo_true (by rw [i1];rfl)]
    refine Lv.wrGo l (k+1) n D g h hl2 (fun t h1 h2 => ?_)
    by_cases ht:t=k
    ·subst ht
     exact hw
    ·exact hk t (by omega) h2
   ·rw [if_neg hw] at i1
    have em:g.first+k=g.written+1:=by
     by_cases hk0:k=0
     ·omega
     ·have:=hk (k - 1) (by omega) (by omega)
      omega
    have hwl:g.written<ims.length:=by omega
    rw [em] at i0 i1
    subst i1
    rw [wrGo_false (enM_written _ _)]
    rcases h.put hwl (by simpa using i0) with ⟨p0,p1,p2⟩ | ⟨p1,p2,p3⟩
    ·rw [if_pos (by rw [p1];decide)]
     exact .inl ⟨p0,p1,p2⟩
    ·rw [if_neg (by rw [p1];decide)]
     have ek:g.written+1 - g.first=k:=by omega
     rw [ek] at p2
     have hlen2:(g.wrote k (enM (g.written+1) i)).live.length=g.live.length:=by
      show (g.live.set k _).length=_
      rw [List.length_set]
     rcases Lv.wrGo l (k+1) (n+1) _ _ p2 (by show l=(g.live.set k _).drop (k+1);rw [List.drop_set_of_lt (by omega)];exact hl2) (fun t h1 h2=>by
      show g.first+t≤g.written+1
      omega) with ⟨q0,q1,q2⟩ | ⟨q1,q2,q3⟩
     ·exact .inl ⟨by rw [←p3];exact q0,q1,q2⟩
     ·exact .inr ⟨⟨q1.err,q1.lv,q1.armed.trans p3,q1.first,q1.more⟩,q2,q3⟩
theorem Lv.may (h:Lv ims D g):g.mayE=0:=by
 unfold Lg.mayE
 rw [if_neg (by rw [h.whole];decide)]
theorem Lv.write (h:Lv ims D g):Falls ims D g (writeR D g)∨(Goes ims D g (writeR D g)∧(writeR D g).g.written=ims.length∧(writeR D g).g.synced=g.synced):=by
 unfold writeR
 rw [if_neg (by rw [h.may];decide)]
 exact Lv.wrGo g.live 0 0 D g h rfl (fun t h1=>by omega)
theorem hd_ok {H a:Nat} (h1:1≤H) (h2:a<7):¬(Hd.mk 9 H ((a:Nat):Int)).bad:=by
 unfold Hd.bad
 simp only
 omega
theorem Lv.lsn (h:Lv ims D g):∀(t:Nat) x,g.live[t]? = some x→x.lsn=g.first+t∧x.at_=3*(g.first+t - 1) % 7:=by
 intro t x hx
 obtain ⟨i,_,e⟩:=h.live t x hx
 rw [e]
 split <;> exact ⟨rfl,rfl⟩
end
structure Run2 (D:Dk) (e:Nat) (A:Int→ByteArray→Prop):Prop where
 on:D.on=true
 sectors:D.sectors=37
 t2:D.table 2=e
 sane:Sane D ((2:Nat):Int)
 safe:Safe D A
structure Off2 (D:Dk) (e:Nat) (A:Int→ByteArray→Prop):Prop where
 on:D.on=false
 sectors:D.sectors=37
 t2:D.table 2=e
 sane:Sane D ((2:Nat):Int)
 safe:Safe D A
 waits:D.waits = []
section
variable {D:Dk} {e:Nat} {A B:Int→ByteArray→Prop}
theorem Run2.live (h:Run2 D e A):Live D:=⟨h.on,h.sectors⟩
theorem Run2.left (h:Run2 D e A) (n:Int):Run2 {D with left:=n} e A:=⟨h.on,h.sectors,h.t2,⟨h.sane.nodes,h.sane.now,h.sane.chain⟩,⟨h.safe.last,h.safe.wait⟩⟩
theorem Run2.goes (h:Run2 D e A):(∃n,D.goes=(false,{D with left:=n}))∨(D.armed=true∧D.goes.1=true∧Off2 D.goes.2 e A):=by
 by_cases ha:D.armed=false
 ·exact .inl ⟨D.left,goes_calm ha⟩
 ·by_cases hl:0<D.left
  ·left
   refine ⟨wrap64 (D.left - 1),?_⟩
   unfold Dk.goes
   rw [if_neg ha,if_pos hl]
  ·right
   have eg:D.goes=(true,(D.cut D.stays).2):=by
    unfold Dk.goes
    rw [if_neg ha,if_neg hl]
   obtain ⟨c1,c2,c3⟩:=cut_leaves h.sane h.safe h.on D.stays ((2:Nat):Int)
   obtain ⟨d1,_,d3,_,_,_,d7,_⟩:=cut_same D D.stays
   rw [eg]
   exact ⟨by cases hb:D.armed;exact absurd hb ha;rfl,rfl,d7,d1.trans h.sectors,by rw [d3];exact h.t2,c1,c2,c3⟩
theorem Run2.may (h:Run2 D e A):D.may ((2:Nat):Int)=0:=by
 unfold Dk.may
 rw [if_neg (by rw [h.on];decide),if_neg (by omega)]
theorem Run2.write (h:Run2 D e A) (h0:e≠0) {a:Int} {data:ByteArray} {m:Nat} (hd:data.size=m*64) (m1:1≤m) (m2:m≤16) (a1:0≤a) (a2:a+m≤37) :
 (D.armed=true∧(D.write (2:Nat) e a data).1=14∧Off2 (D.write (2:Nat) e a data).2 e A)∨∃n,D.write (2:Nat) e a data=(0,({D with left:=n}:Dk).writeN (2:Nat) a data m):=by
 have hq:data.size / 64=m:=by omega
 have hr:data.size % 64=0:=by omega
 have hth:D.there a (data.size / 64:Nat)=true:=by
  unfold Dk.there
  rw [hq,h.sectors]
  exact decide_eq_true ⟨a1,by omega,by omega⟩
 have had:D.admits ((2:Nat):Int).toNat e=0:=by
  unfold Dk.admits
  exact if_neg (by show ¬(e=0∨D.table 2≠e);simp [h0,h.t2])
 have ew:D.write (2:Nat) e a data=if D.goes.1=true then (14,D.goes.2) else (0,D.goes.2.writeN (2:Nat) a data m):=by
  unfold Dk.write
  rw [if_neg (by rw [h.may];simp),if_neg (by omega),if_neg (by rw [had];simp),if_neg (by rw [hth];simp),hq]
 rw [ew]
 rcases h.goes with ⟨n,hg⟩ | ⟨g1,g2,g3⟩
 ·right
  rw [hg]
  exact ⟨n,if_neg (by simp)⟩
 ·left
  rw [if_pos g2]
  exact ⟨g1,rfl,g3⟩
theorem Run2.barrier (h:Run2 D e A) (h0:e≠0) :
 (D.armed=true∧(D.barrier (2:Nat) e).1=14∧Off2 (D.barrier (2:Nat) e).2 e A)∨∃n,D.barrier (2:Nat) e=(0,({D with left:=n}:Dk).settle (2:Nat)):=by
 have had:D.admits ((2:Nat):Int).toNat e=0:=by
  unfold Dk.admits
  exact if_neg (by show ¬(e=0∨D.table 2≠e);simp [h0,h.t2])
 have ew:D.barrier (2:Nat) e=if D.goes.1=true then (14,D.goes.2) else (0,D.goes.2.settle (2:Nat)):=by
  unfold Dk.barrier
  rw [if_neg (by rw [h.may];simp),if_neg (by rw [had];simp)]
 rw [ew]
 rcases h.goes with ⟨n,hg⟩ | ⟨g1,g2,g3⟩
 ·right
  rw [hg]
  exact ⟨n,if_neg (by simp)⟩
 ·left
  rw [if_pos g2]
  exact ⟨g1,rfl,g3⟩
theorem Run2.settle (h:Run2 D e A):Run2 (D.settle (2:Nat)) e A∧(D.settle (2:Nat)).waits = []:=by
 obtain ⟨a,b,_⟩:=h.sane.settle ((2:Nat):Int)
 have s:=settle_same D ((2:Nat):Int)
 exact ⟨⟨s.1.trans h.on,s.2.2.1.trans h.sectors,by rw [(settle_tab D _).1];exact h.t2,a,h.safe.settle h.sane⟩,b⟩
theorem Run2.wrote (h:Run2 D e A) {a:Int} {data:ByteArray} {m:Nat} (hm:∀j:Nat,j<m→A (a+j) (sect data j)):Run2 (D.writeN (2:Nat) a data m) e A:=by
 have s:=writeN_same D ((2:Nat):Int) a data m
 exact ⟨s.1.trans h.on,s.2.2.1.trans h.sectors,by rw [s.2.2.2.2.2.1];exact h.t2,h.sane.writeN a data m,h.safe.writeN m hm⟩
theorem Run2.weak (h:Run2 D e A) (hw:D.waits = []) (hb:∀k,B k (D.sec k)):Run2 D e B:=⟨h.on,h.sectors,h.t2,h.sane,safe_of_sec h.sane hw hb⟩
theorem Off2.weak (h:Off2 D e A) (hb:∀k v,A k v→B k v):Off2 D e B:=⟨h.on,h.sectors,h.t2,h.sane,⟨fun k=>hb _ _ (h.safe.last k),fun x hx=>hb _ _ (h.safe.wait x hx)⟩,h.waits⟩
end
def A1 (l:List Im) (lg:Int→ByteArray):Int→ByteArray→Prop:=fun k v=>(k=1→v=str hd9)∧(2≤k→k≤8→v=lg k)∧∀i∈l,(k=17+2*i.block→v=str (zer 64)∨v=str (secL i 0))∧(k=17+2*i.block+1→v=str (zer 64)∨v=str (secL i 1))
def A2 (l:List Im) (lg:Int→ByteArray):Int→ByteArray→Prop:=fun k v=>(k=1→v=str hd9∨v=str (zer 64))∧(2≤k→k≤8→v=lg k)∧∀i∈l,(k=17+2*i.block→v=str (secL i 0))∧(k=17+2*i.block+1→v=str (secL i 1))
end Go.Proofs.YtldoeodkeieejaaGreatDoor
