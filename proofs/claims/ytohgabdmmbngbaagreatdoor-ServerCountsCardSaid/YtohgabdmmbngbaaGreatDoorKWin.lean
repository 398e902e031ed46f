import Derived.Test.YtohgabdmmbngbaaGreatDoorChecked
import Derived.WalkKit
import Derived.WalkLawsBesides
import Derived.WalkSpells
import Derived.Lib.Hide
import Derived.Deep.DeepFit
import Derived.Deep.QuietTactic
import Derived.BigQuiet
import Derived.StillTailTactics
import Derived.Deep.RegionHeld3
import Derived.Deep.RegionWith
import Derived.Deep.RegionLaw
import Derived.Deep.LoopGhost
import Derived.Deep.Draws
import Derived.Maps.AppendAt
import Derived.Deep.AppendLies
import Derived.Test.YtohgabdmmbngbaaGreatDoorRows
import Derived.ProofKit
import Derived.OpenShut
import Derived.Lib.SmallJoins
import Derived.OpenVars
import Derived.Test.YtohgabdmmbngbaaGreatDoorCards
import Derived.Test.YtohgabdmmbngbaaGreatDoorTie
import Derived.Deep.DeepHandedRow
import Derived.ChangeMaps5
import Derived.Lib.LaidTab
import Derived.ArgAppend
namespace Go.Proofs.YtohgabdmmbngbaaGreatDoor
open Go.RowKit
def Blk (w:World) (g:Nat) (t:TypeId) (cs:Array Value):Prop:=w.heap[g]? = some (.cells cs t (0,0))
section
variable {w w':World} {g:Nat} {t:TypeId} {cs:Array Value}
theorem Blk.lt (h:Blk w g t cs):g<w.heap.size:=(Array.getElem?_eq_some_iff.1 h).1
theorem Blk.cell (h:Blk w g t cs) (i:Nat):w.cell? ⟨g,i,none⟩=cs[i]? := cell_of_row w g i cs t (0,0) h
theorem Blk.cell_some (h:Blk w g t cs) {i:Nat} (hi:i<cs.size):∃v,w.cell? ⟨g,i,none⟩=some v:=⟨_,(h.cell i).trans (Array.getElem?_eq_getElem hi)⟩
theorem Blk.frozen (h:Blk w g t cs) (i:Nat):w.frozen? ⟨g,i,none⟩=false:=by
 unfold Blk at h
 simp [World.frozen?,h]
theorem Blk.new (w:World) (t:TypeId) (cs:Array Value):Blk (w.alloc (.cells cs t)) w.heap.size t cs:=heap_alloc_new w _
theorem Blk.drew (h:Blk w g t cs):Blk w.drew g t cs:=h
theorem Blk.drewN (h:Blk w g t cs) (n:Nat):Blk (w.drewN n) g t cs:=h
theorem Blk.alloc (h:Blk w g t cs) (o:Obj):Blk (w.alloc o) g t cs:=(Below.heap_alloc w o g h.lt).trans h
theorem Blk.set_ (h:Blk w g t cs) (i:Nat) (u:Value):Blk (w.setCell ⟨g,i,none⟩ u) g t (cs.setIfInBounds i u):=by
 unfold Blk at h ⊢
 simp [World.setCell,Array.getElem?_modify,h]
theorem Blk.far (h:Blk w g t cs) {p:Addr} (hp:g≠p.block) (u:Value):Blk (w.setCell p u) g t cs:=(Below.heap_setCell w p u g hp).trans h
theorem Blk.below_ (h:Blk w g t cs) (hb:Below w.heap.size w w'):Blk w' g t cs:=(hb.block g h.lt).trans h
theorem Blk.ne_ {g':Nat} {t':TypeId} {cs':Array Value} (h:Blk w g t cs) (h':Blk w g' t' cs') (hne:t≠t'):g≠g':=by
 rintro rfl
 unfold Blk at h h'
 rw [h] at h'
 injection h' with h'
 injection h' with _ ht
 exact hne ht
end
structure Step (o:Nat→Nat) (C:Nat→Prop) (w:World) (o':Nat→Nat) (w':World):Prop where
 os:w'.os=w.os
 tape:w'.tape=w.tape
 output:w'.output=w.output
 size:w.heap.size≤w'.heap.size
 old:∀k,k<w.heap.size→o' k=o k
 fut:∀k,w'.heap.size≤k→o' k=o k
 block:∀k,k<w.heap.size→¬C (o k)→w'.heap[k]? = w.heap[k]?
def only (c:Nat):Nat→Prop:=fun x=>x=c
def Fut (o:Nat→Nat) (w:World):Prop:=∀k,w.heap.size≤k→o k=0
def band (o:Nat→Nat) (n m c:Nat):Nat→Nat:=fun k=>if n≤k∧k<m then c else o k
theorem band_lt {o:Nat→Nat} {n m c k:Nat} (h:k<n):band o n m c k=o k:=if_neg (by omega)
theorem band_ge {o:Nat→Nat} {n m c k:Nat} (h:m≤k):band o n m c k=o k:=if_neg (by omega)
theorem band_in {o:Nat→Nat} {n m c k:Nat} (h:n≤k) (h':k<m):band o n m c k=c:=if_pos ⟨h,h'⟩
section
variable {o o1 o2:Nat→Nat} {C D:Nat→Prop} {w w' a:World}
theorem Step.refl (o:Nat→Nat) (C:Nat→Prop) (w:World):Step o C w o w:=⟨rfl,rfl,rfl,Nat.le_refl _,fun _ _=>rfl,fun _ _=>rfl,fun _ _ _=>rfl⟩
theorem Step.mono (h:Step o C w o1 a) (hCD:∀x,C x→D x):Step o D w o1 a:=⟨h.os,h.tape,h.output,h.size,h.old,h.fut,fun k hk hc=>h.block k hk (fun e=>hc (hCD _ e))⟩
theorem Step.trans {b:World} (h:Step o C w o1 a) (k:Step o1 C a o2 b):Step o C w o2 b :=
 ⟨k.os.trans h.os,k.tape.trans h.tape,k.output.trans h.output,Nat.le_trans h.size k.size,fun i hi=>(k.old i (Nat.lt_of_lt_of_le hi h.size)).trans (h.old i hi),
  fun i hi=>(k.fut i hi).trans (h.fut i (Nat.le_trans k.size hi)),fun i hi hc=>(k.block i (Nat.lt_of_lt_of_le hi h.size) (by rw [h.old i hi];exact hc)).trans (h.block i hi hc)⟩
theorem Step.drew (h:Step o C a o1 w):Step o C a o1 w.drew:=⟨h.os,h.tape,h.output,h.size,h.old,h.fut,h.block⟩
theorem Step.drewN (h:Step o C a o1 w) (n:Nat):Step o C a o1 (w.drewN n):=⟨h.os,h.tape,h.output,h.size,h.old,h.fut,h.block⟩
theorem Step.of_drew (h:Step o C a.drew o1 w):Step o C a o1 w:=⟨h.os,h.tape,h.output,h.size,h.old,h.fut,h.block⟩
theorem Step.of_drewN {n:Nat} (h:Step o C (a.drewN n) o1 w):Step o C a o1 w:=⟨h.os,h.tape,h.output,h.size,h.old,h.fut,h.block⟩
theorem Fut.step (h:Fut o a) (k:Step o C a o1 w):Fut o1 w:=fun i hi=>(k.fut i hi).trans (h i (Nat.le_trans k.size hi))
theorem Fut.below (h:Fut o a) (k:Below a.heap.size a w):Fut o w:=fun i hi=>h i (Nat.le_trans k.size hi)
theorem Fut.alloc (h:Fut o w) (x:Obj):Fut o (w.alloc x):=fun k hk=>h k (by simp at hk;omega)
theorem Fut.drew (h:Fut o w):Fut o w.drew:=h
theorem Fut.drewN (h:Fut o w) (n:Nat):Fut o (w.drewN n):=h
theorem Fut.setCell (h:Fut o w) (p:Addr) (u:Value):Fut o (w.setCell p u):=fun k hk=>h k (by simpa [World.setCell] using hk)
theorem Fut.at_ (h:Fut o w):o w.heap.size=0:=h _ (Nat.le_refl _)
theorem Step.alloc (h:Step o C a o1 w) (x:Obj):Step o C a o1 (w.alloc x) :=
 h.trans ⟨rfl,rfl,rfl,by simp,fun _ _=>rfl,fun _ _=>rfl,fun k hk _=>Below.heap_alloc _ _ _ hk⟩
theorem Step.setCell (h:Step o C a o1 w) {p:Addr} (hp:C (o1 p.block)) (u:Value):Step o C a o1 (w.setCell p u) :=
 h.trans ⟨rfl,rfl,rfl,by simp [World.setCell],fun _ _=>rfl,fun _ _=>rfl,fun k _ hk=>Below.heap_setCell _ _ _ _ (by rintro rfl;exact hk hp)⟩
theorem Step.setNew (h:Step o C a o1 w) {p:Addr} (hp:a.heap.size≤p.block) (u:Value):Step o C a o1 (w.setCell p u) :=
 ⟨h.os,h.tape,h.output,by have:=h.size;simpa [World.setCell] using this,h.old,by intro k hk;exact h.fut k (by simpa [World.setCell] using hk),fun k hk hc=>(Below.heap_setCell _ _ _ _ (by omega)).trans (h.block k hk hc)⟩
theorem Step.grown {c:Nat} {row:Option Nat} (h:Step o C a o1 w) (hg:w.grownBy w' row) (hr:∀k,row=some k→C (o1 k)):Step o C a (band o1 w.heap.size w'.heap.size c) w' :=
 h.trans ⟨hg.os,hg.tape,hg.output,hg.size,fun _ hk=>band_lt hk,fun _ hk=>band_ge hk,fun k hk hc=>hg.block k hk (fun e=>hc (hr k e.symm))⟩
theorem Step.grownNew (c:Nat) {row:Option Nat} (h:Step o C a o1 w) (hg:w.grownBy w' row) (hr:∀k,row=some k→a.heap.size≤k):Step o C a (band o1 w.heap.size w'.heap.size c) w' :=
 ⟨hg.os.trans h.os,hg.tape.trans h.tape,hg.output.trans h.output,Nat.le_trans h.size hg.size,fun k hk=>(band_lt (Nat.lt_of_lt_of_le hk h.size)).trans (h.old k hk),fun k hk=>(band_ge hk).trans (h.fut k (Nat.le_trans hg.size hk)),
  fun k hk hc=>(hg.block k (Nat.lt_of_lt_of_le hk h.size) (fun e=>by have:=hr k e.symm;omega)).trans (h.block k hk hc)⟩
theorem Step.of_below (o:Nat→Nat) (C:Nat→Prop) (h:Below w.heap.size w w'):Step o C w o w':=⟨h.os,h.tape,h.output,h.size,fun _ _=>rfl,fun _ _=>rfl,fun k hk _=>h.block k hk⟩
theorem Step.of_below_band (o:Nat→Nat) (C:Nat→Prop) (d:Nat) (h:Below w.heap.size w w'):Step o C w (band o w.heap.size w'.heap.size d) w' :=
 ⟨h.os,h.tape,h.output,h.size,fun _ hk=>band_lt hk,fun _ hk=>band_ge hk,fun k hk _=>h.block k hk⟩
theorem Blk.step {g:Nat} {t:TypeId} {cs:Array Value} (h:Blk w g t cs) (hk:Step o C w o1 w') (hg:¬C (o g)):Blk w' g t cs:=(hk.block g h.lt hg).trans h
theorem Step.below (h:Step o C w o1 w') {B:Nat} (hB:∀k,k<B→¬C (o k)) (hs:B≤w.heap.size):Below B w w':=⟨h.os,h.tape,h.output,h.size,fun k hk=>h.block k (by omega) (hB k hk)⟩
end
theorem block_of_add (a:Addr) (n:Nat):(a.add n).block=a.block:=by unfold Addr.add;split <;> rfl
theorem add_of_add (a:Addr) (i j:Nat):(a.add i).add j=a.add (i+j):=by
 unfold Addr.add
 by_cases hi:i=0 <;> by_cases hj:j=0 <;> simp [hi,hj,Nat.add_assoc]
def Reads (w:World) (size:Nat) (A:Option Addr) (n:Nat) (xs:List Value):Prop :=
 xs.length=n*size∧(0<n→∃ad,A=some ad∧∀j u,xs[j]? = some u→w.cell? (ad.add j)=some u)
def OwnS (o:Nat→Nat) (c:Nat) (w:World) (e:TypeId) (size:Nat) (v:Value) (n:Nat) (xs:List Value):Prop :=
 w.ownsRow 0 e size v n xs∧∀g,v.ownBlock=some g→o g=c
section
variable {o:Nat→Nat} {c:Nat} {w w':World} {e:TypeId} {size n:Nat} {v:Value} {xs:List Value}
theorem OwnS.nil (o:Nat→Nat) (c:Nat) (w:World) (e:TypeId) (size:Nat):OwnS o c w e size (.slice none 0 0) 0 []:=⟨World.ownsRow_nil _ _ _ _,by simp [Value.ownBlock]⟩
theorem ownsRow_heap (h:w.ownsRow 0 e size v n xs) (hb:∀g,v.ownBlock=some g→w'.heap[g]? = w.heap[g]?):w'.ownsRow 0 e size v n xs:=by
 refine ⟨h.1,?_⟩
 rcases h.2 with hn | ⟨g,cap,cur,rfl,h0,hgg,rest⟩
 ·exact .inl hn
 ·exact .inr ⟨g,cap,cur,rfl,h0,(hb g (by simp [Value.ownBlock])).trans hgg,rest⟩
theorem OwnS.lt (h:OwnS o c w e size v n xs):∀g,v.ownBlock=some g→g<w.heap.size:=fun g hg=>(h.1.lt g hg).2
theorem OwnS.step {o':Nat→Nat} {D:Nat→Prop} (h:OwnS o c w e size v n xs) (hk:Step o D w o' w') (hne:¬D c):OwnS o' c w' e size v n xs :=
 ⟨ownsRow_heap h.1 (fun g hg=>hk.block g (h.lt g hg) (by rw [h.2 g hg];exact hne)),fun g hg=>(hk.old g (h.lt g hg)).trans (h.2 g hg)⟩
theorem OwnS.alloc (h:OwnS o c w e size v n xs) (x:Obj):OwnS o c (w.alloc x) e size v n xs:=⟨h.1.alloc x,h.2⟩
theorem OwnS.below_ (h:OwnS o c w e size v n xs) (hb:Below w.heap.size w w'):OwnS o c w' e size v n xs:=⟨ownsRow_heap h.1 (fun g hg=>hb.block g (h.lt g hg)),h.2⟩
theorem OwnS.drew (h:OwnS o c w e size v n xs):OwnS o c w.drew e size v n xs:=h
theorem OwnS.drewN (h:OwnS o c w e size v n xs) (k:Nat):OwnS o c (w.drewN k) e size v n xs:=h
theorem OwnS.setCell (h:OwnS o c w e size v n xs) {p:Addr} (hp:v.ownBlock≠some p.block) (u:Value):OwnS o c (w.setCell p u) e size v n xs :=
 ⟨ownsRow_heap h.1 (fun g hg=>Below.heap_setCell _ _ _ _ (by rintro rfl;exact hp hg)),h.2⟩
theorem own_blk_ne (h:OwnS o c w e size v n xs) {g:Nat} {t:TypeId} {cs:Array Value} (hg:Blk w g t cs) (hne:e≠t):v.ownBlock≠some g:=by
 rcases h.1.2 with ⟨rfl,_⟩ | ⟨g',cap,cur,rfl,_,hh,_⟩
 ·simp [Value.ownBlock]
 ·intro he
  have:g'=g:=by simpa [Value.ownBlock] using he
  subst this
  exact Blk.ne_ (t:=e) hh hg hne rfl
end
section
variable {o:Nat→Nat} {c:Nat} {w:World} {e:TypeId} {size n cap:Nat} {xs:List Value}
theorem OwnS.blk {A:Option Addr} (h:OwnS o c w e size (.slice A n cap) n xs) (hn:0<n) :
 ∃g cur,A=some ⟨g,0,none⟩∧Blk w g e cur∧o g=c∧n≤cap∧cap≤maxLen∧cur.size=cap*size∧cur.toList.take (n*size)=xs:=by
 rcases h.1.2 with ⟨hv,h0⟩ | ⟨g,cap',cur,hv,_,hg,h1,h2,h3,h4⟩
 ·omega
 ·simp only [Value.slice.injEq] at hv
  obtain ⟨rfl,_,rfl⟩:=hv
  exact ⟨g,cur,rfl,hg,h.2 g rfl,h1,h2,h3,h4⟩
theorem OwnS.at_ {g:Nat} (h:OwnS o c w e size (.slice (some ⟨g,0,none⟩) n cap) n xs) {j:Nat} {u:Value} (hj:xs[j]? = some u):w.cell? ⟨g,j,none⟩=some u:=by
 have h0:=h.1.cells (g:=g) rfl j u hj
 have hadd:(⟨g,0,none⟩:Addr).add j=⟨g,j,none⟩:=by unfold Addr.add;split <;> simp_all
 rwa [hadd] at h0
theorem OwnS.addr {A:Option Addr} (h:OwnS o c w e size (.slice A n cap) n xs) (hn:0<n):∃g,A=some ⟨g,0,none⟩∧g<w.heap.size∧o g=c:=by
 obtain ⟨g,cur,rfl,hb,hc,_⟩:=h.blk hn
 exact ⟨g,rfl,hb.lt,hc⟩
theorem OwnS.of_blk {g:Nat} {cur:Array Value} (hb:Blk w g e cur) (hc:o g=c) (h1:n≤cap) (h2:cap≤maxLen) (h3:cur.size=cap*size) (h4:cur.toList.take (n*size)=xs) :
 OwnS o c w e size (.slice (some ⟨g,0,none⟩) n cap) n xs:=by
 refine ⟨⟨?_, .inr ⟨g,cap,cur,rfl,Nat.zero_le _,hb,h1,h2,h3,h4⟩⟩,?_⟩
 ·rw [←h4,List.length_take]
  have:=Nat.mul_le_mul_right size h1
  simp
  omega
 ·intro g' hg'
  simp only [Value.ownBlock,Option.some.injEq] at hg'
  subst hg'
  exact hc
end
section
variable {w w':World} {size n:Nat} {A:Option Addr} {xs:List Value}
theorem Reads.none_ (w:World) (size:Nat) (A:Option Addr):Reads w size A 0 []:=⟨by simp,fun h=>absurd h (by omega)⟩
theorem Reads.of_own {e:TypeId} {c:Nat} (h:w.ownsRow 0 e size (.slice A n c) n xs):Reads w size A n xs:=by
 refine ⟨h.1,fun hn => ?_⟩
 obtain ⟨g,cap,hv,_,hlt⟩:=h.form hn
 have hA:A=some ⟨g,0,none⟩:=by injection hv
 subst hA
 exact ⟨_,rfl,h.cells (g:=g) rfl⟩
theorem Reads.new (w:World) (t:TypeId) (size n:Nat) (xs:List Value) (cs:Array Value) (h:cs.toList=xs) (hl:xs.length=n*size):Reads (w.alloc (.cells cs t)) size (some ⟨w.heap.size,0,none⟩) n xs:=by
 refine ⟨hl,fun _=>⟨_,rfl,fun j u hu => ?_⟩⟩
 have hadd:(⟨w.heap.size,0,none⟩:Addr).add j=⟨w.heap.size,j,none⟩:=by unfold Addr.add;split <;> simp_all
 rw [hadd,(Blk.new w t cs).cell j,←hu,←h]
 simp
theorem Reads.newAt (w:World) (t:TypeId) (size n:Nat) (xs:List Value) (cs:Array Value) (B:Nat) (hB:w.heap.size=B) (h:cs.toList=xs) (hl:xs.length=n*size):Reads (w.alloc (.cells cs t)) size (some ⟨B,0,none⟩) n xs:=by
 subst hB
 exact Reads.new w t size n xs cs h hl
theorem Reads.keep_ (h:Reads w size A n xs) (hk:∀ad,A=some ad→w'.heap[ad.block]? = w.heap[ad.block]?):Reads w' size A n xs :=
 ⟨h.1,fun hn=>by
  obtain ⟨ad,e,hc⟩:=h.2 hn
  exact ⟨ad,e,fun j u hu=>(World.cell?_of_block (w:=w) (by rw [block_of_add];exact hk ad e)).trans (hc j u hu)⟩⟩
theorem Reads.drew (h:Reads w size A n xs):Reads w.drew size A n xs:=h
theorem Reads.lt (h:Reads w size A n xs) (hs:0<size):∀ad,0<n→A=some ad→ad.block<w.heap.size:=by
 intro ad hn he
 obtain ⟨ad',e',hc⟩:=h.2 hn
 rw [he] at e'
 injection e' with e'
 subst e'
 have hl:0<xs.length:=by rw [h.1];exact Nat.mul_pos hn hs
 have:=World.block_lt_of_cell? w _ (hc 0 _ (List.getElem?_eq_getElem hl))
 rwa [block_of_add] at this
end
section
variable {P:Program} (w:World)
theorem run_append_of_nil (t ty e:TypeId) (i:TypeInfo) (size:Nat) (ht:P.underlying t=some (.slice e)) (hi:P.info? e=some i)
 (v:Value) (n:Nat) (xs:List Value) (hown:w.ownsRow 0 e size v n xs) (c:Nat):(Builtin.append_ #[t,t] ty #[v, .slice none 0 c]).run P w = .ok v w:=by
 rcases hown.2 with ⟨rfl,rfl⟩ | ⟨g,cap,cur,rfl,_,_,hnc,_⟩
 ·simp [Builtin.append_,run_underlying ht,sizeOf,typeInfo,hi,Builtin.lenOf,Builtin.firstCells]
 ·simp [Builtin.append_,run_underlying ht,sizeOf,typeInfo,hi,Builtin.lenOf,Builtin.firstCells,hnc,storeCells]
theorem run_append_S {o:Nat→Nat} {c0:Nat} (t ty e:TypeId) (i:TypeInfo) (z:Value) (size bytes:Nat) (ht:P.underlying t=some (.slice e)) (hi:P.info? e=some i) (hz:i.zero=some z)
 (hsize:i.size=size) (hby:i.bytes=bytes) (hzs:z.cells.size=size) (hsz:0<size)
 (v:Value) (n:Nat) (xs:List Value) (hown:OwnS o c0 w e size v n xs)
 (A:Option Addr) (m c:Nat) (news:List Value) (hr:Reads w size A m news) (h1:∀u∈news,u.oneCell'=true)
 (h63:n+m≤maxLen) (hbytes:(n+m)*bytes≤140737488355328) :
 ∃v' w',(Builtin.append_ #[t,t] ty #[v, .slice A m c]).run P w = .ok v' w'∧OwnS (band o w.heap.size w'.heap.size c0) c0 w' e size v' (n+m) (xs++news)∧Step o (only c0) w (band o w.heap.size w'.heap.size c0) w'∧w.grownBy w' v.ownBlock ∧
  (v'.ownBlock=v.ownBlock∨v'.ownBlock=some w.heap.size):=by
 have fin:∀v' w',w'.ownsRow 0 e size v' (n+m) (xs++news)→w.grownBy w' v.ownBlock→(v'.ownBlock=v.ownBlock∨v'.ownBlock=some w.heap.size) →
  OwnS (band o w.heap.size w'.heap.size c0) c0 w' e size v' (n+m) (xs++news)∧Step o (only c0) w (band o w.heap.size w'.heap.size c0) w'∧w.grownBy w' v.ownBlock∧(v'.ownBlock=v.ownBlock∨v'.ownBlock=some w.heap.size):=by
  intro v' w' h2 h3 h5
  refine ⟨⟨h2,fun g hg => ?_⟩,(Step.refl o (only c0) w).grown h3 hown.2,h3,h5⟩
  have hlt:=(h2.lt g hg).2
  rcases h5 with h5 | h5
  ·rw [band_lt (hown.lt g (h5▸hg))]
   exact hown.2 g (h5▸hg)
  ·rw [h5] at hg
   injection hg with hg
   subst hg
   exact band_in (Nat.le_refl _) hlt
 rcases A with _ | ad
 ·have hm:m=0:=by
   rcases Nat.eq_zero_or_pos m with h0 | h0
   ·exact h0
   ·obtain ⟨ad,h,_⟩:=hr.2 h0
    cases h
  subst hm
  have hn:news = []:=List.eq_nil_of_length_eq_zero (by simpa using hr.1)
  subst hn
  exact ⟨v,w,run_append_of_nil w t ty e i size ht hi v n xs hown.1 c,fin v w (by simpa using hown.1) (World.grownBy.refl w _) (.inl rfl)⟩
 ·have hcells:∀j u,news[j]? = some u→w.cell? (ad.add j)=some u:=by
   intro j u hu
   rcases Nat.eq_zero_or_pos m with h0 | h0
   ·subst h0
    have hn:news = []:=List.eq_nil_of_length_eq_zero (by simpa using hr.1)
    subst hn
    simp at hu
   ·obtain ⟨ad',h,hc⟩:=hr.2 h0
    injection h with h
    subst h
    exact hc j u hu
  obtain ⟨v',w',hrun,h2,h3,_,h5⟩:=run_append_own_at (P:=P) w 0 t ty e i z size bytes ht hi hz hsize hby hzs hsz v n xs hown.1 ad m c news hr.1 hcells h1 h63 hbytes (Nat.zero_le _)
  exact ⟨v',w',hrun,fin v' w' h2 h3 h5⟩
theorem wp_append_S {op:Oper} {a:Act} {K:Act→World→Prop} {Q:Exit→Act→World→Prop} {o:Nat→Nat} {c0:Nat} (s x:Operand) (t:TypeId)
 (ho:op.op = .call {callee := .builtin .append,args:=#[s,x],argTypes:=#[t,t]})
 (e:TypeId) (i:TypeInfo) (z:Value) (size bytes:Nat) (ht:P.underlying t=some (.slice e)) (hi:P.info? e=some i) (hz:i.zero=some z)
 (hsize:i.size=size) (hby:i.bytes=bytes) (hzs:z.cells.size=size) (hsz:0<size)
 (v:Value) (n:Nat) (xs:List Value) (hs:a.eval s=v) (hown:OwnS o c0 w e size v n xs)
 (A:Option Addr) (m c:Nat) (news:List Value) (hx:a.eval x = .slice A m c) (hr:Reads w size A m news) (h1:∀u∈news,u.oneCell'=true)
 (h63:n+m≤maxLen) (hbytes:(n+m)*bytes≤140737488355328)
 (h:∀v' w',OwnS (band o w.heap.size w'.heap.size c0) c0 w' e size v' (n+m) (xs++news)→Step o (only c0) w (band o w.heap.size w'.heap.size c0) w'→w.grownBy w' v.ownBlock→(v'.ownBlock=v.ownBlock∨v'.ownBlock=some w.heap.size)→K (a.put op.dst v') w'):op.wp P a w K Q:=by
 obtain ⟨v',w',hrun,h2,h3,h4,h5⟩:=run_append_S (P:=P) w t op.type e i z size bytes ht hi hz hsize hby hzs hsz v n xs hown A m c news hr h1 h63 hbytes
 unfold Oper.wp execOp
 simp only [ho,resolve,invoke,builtin,Sem.run_bind,Sem.run_pure,Result.andThen_ok,List.map_toArray,List.map_cons,List.map_nil,hs,hx,hrun]
 exact h v' w' h2 h3 h4 h5
theorem wpList_append_S {ops:Array Oper} {rest:List Oper} {op:Oper} {a:Act} {Q:Exit→Act→World→Prop} (hgd:op.guard=none) {o:Nat→Nat} {c0:Nat} (s x:Operand) (t:TypeId)
 (ho:op.op = .call {callee := .builtin .append,args:=#[s,x],argTypes:=#[t,t]})
 (e:TypeId) (i:TypeInfo) (z:Value) (size bytes:Nat) (ht:P.underlying t=some (.slice e)) (hi:P.info? e=some i) (hz:i.zero=some z)
 (hsize:i.size=size) (hby:i.bytes=bytes) (hzs:z.cells.size=size) (hsz:0<size)
 (v:Value) (n:Nat) (xs:List Value) (hs:a.eval s=v) (hown:OwnS o c0 w e size v n xs)
 (A:Option Addr) (m c:Nat) (news:List Value) (hx:a.eval x = .slice A m c) (hr:Reads w size A m news) (h1:∀u∈news,u.oneCell'=true)
 (h63:n+m≤maxLen) (hbytes:(n+m)*bytes≤140737488355328)
 (h:∀v' w',OwnS (band o w.heap.size w'.heap.size c0) c0 w' e size v' (n+m) (xs++news)→Step o (only c0) w (band o w.heap.size w'.heap.size c0) w'→w.grownBy w' v.ownBlock→(v'.ownBlock=v.ownBlock∨v'.ownBlock=some w.heap.size)→wpList P ops Q rest (a.put op.dst v') w'):wpList P ops Q (op :: rest) a w :=
 wpList_plain hgd fun _ hK=>wp_append_S w s x t ho e i z size bytes ht hi hz hsize hby hzs hsz v n xs hs hown A m c news hx hr h1 h63 hbytes fun v' w' h2 h3 h4 h5=>hK _ _ (h v' w' h2 h3 h4 h5)
theorem step_append_S {ops:Array Oper} {op:Oper} {a:Act} {K:Act→World→Prop} {Q:Exit→Act→World→Prop} {E:Prop} (hgd:op.guard=none) {o:Nat→Nat} {c0:Nat} (s x:Operand) (t:TypeId)
 (ho:op.op = .call {callee := .builtin .append,args:=#[s,x],argTypes:=#[t,t]})
 (e:TypeId) (i:TypeInfo) (z:Value) (size bytes:Nat) (ht:P.underlying t=some (.slice e)) (hi:P.info? e=some i) (hz:i.zero=some z)
 (hsize:i.size=size) (hby:i.bytes=bytes) (hzs:z.cells.size=size) (hsz:0<size)
 (v:Value) (n:Nat) (xs:List Value) (hs:a.eval s=v) (hown:OwnS o c0 w e size v n xs)
 (A:Option Addr) (m c:Nat) (news:List Value) (hx:a.eval x = .slice A m c) (hr:Reads w size A m news) (h1:∀u∈news,u.oneCell'=true)
 (h63:n+m≤maxLen) (hbytes:(n+m)*bytes≤140737488355328)
 (h:∀v' w',OwnS (band o w.heap.size w'.heap.size c0) c0 w' e size v' (n+m) (xs++news)→Step o (only c0) w (band o w.heap.size w'.heap.size c0) w'→w.grownBy w' v.ownBlock→(v'.ownBlock=v.ownBlock∨v'.ownBlock=some w.heap.size)→K (a.put op.dst v') w') :
 if Region.wanted op (yielded ops a.tmps)=true then Oper.wp P op a w K Q else E:=by
 have hw:Region.wanted op (yielded ops a.tmps)=true:=by simp [Region.wanted,hgd]
 rw [if_pos hw]
 exact wp_append_S w s x t ho e i z size bytes ht hi hz hsize hby hzs hsz v n xs hs hown A m c news hx hr h1 h63 hbytes h
end
end Go.Proofs.YtohgabdmmbngbaaGreatDoor
namespace Go.Proofs.YtohgabdmmbngbaaGreatDoor
open Go.ChangeShapes Go.WideShapes Go.ChangeAt Go.RowKit Go.Joins Go.Deep
theorem own_ : ownKnob Tryz.prog.godebug=none:=by kernel_rfl
theorem laidOut_ : laidOutB Tryz.prog=true:=by kernel_rfl
section
variable {H:Type} {enc:TypeId×Value→H} {P:Program}
theorem trodAll_stays (hl:laidOutB P=true) {W W':World} {sp:Nat→Bool}:∀(ts:List TypeId) (vs:List Value) (ds:List (DataW H)) (ps:List MemPlace),(∀t∈ts,P.readableRec t=true∧t<P.types.size) →
 DataW.TrodAll enc P W 0 (fun _=>true) true ts vs ds ps→(∀p∈ps,W.sameAt W' p)→(∀p∈ps,sp p.block=true)→DataW.TrodAll enc P W' 0 sp true ts vs ds ps
 | [],vs,ds,ps,_,h,_,_=>by
   obtain ⟨rfl,rfl,rfl⟩:=trodAll_nil h
   exact trodAll_mk0
 | t :: ts,vs,ds,ps,hr,h,hs,hsp=>by
   obtain ⟨v,vs',d,ds',p,q,rfl,rfl,rfl,h0,h1⟩:=trodAll_cons h
   have ht:=hr t (List.mem_cons_self ..)
   refine trodAll_cons_mk (WideElems.Trod_stays hl ht.1 ht.2 h0 (fun x hx=>hs x (List.mem_append_left _ hx)) (fun x hx=>hsp x (List.mem_append_left _ hx))) ?_
   exact trodAll_stays hl ts vs' ds' q (fun t' h'=>hr t' (List.mem_cons_of_mem _ h')) h1 (fun x hx=>hs x (List.mem_append_right _ hx)) (fun x hx=>hsp x (List.mem_append_right _ hx))
theorem post_of_below {f:Func} {s:ChangeSpec} {apart fresh handsOn again:Bool} {W W':World} {args:Array Value} {v:Value} {ds gs:List (DataW H)} {before pa pv:List MemPlace}
 (hW:DataW.Whole enc P f.params.toList s.vars apart W args.toList ds gs before)
 (hres:∀(b:Nat) (sp:Nat→Bool) (hd:Bool),DataW.TrodAll enc P W' b sp hd f.resultTypes.toList (v.resultList f.resultTypes.size) (s.fn H (ds++gs)).results [])
 (hargs:∀sp:Nat→Bool,(∀p∈before,sp p.block=true)→DataW.TrodAll enc P W' 0 sp true f.params.toList args.toList (s.fn H (ds++gs)).args pa)
 (hvars:∀sp:Nat→Bool,(∀p∈before,sp p.block=true)→DataW.TrodVars enc P W' sp s.vars (s.fn H (ds++gs)).vars pv)
 (hps:before=pa++pv) (hb:Below W.heap.size W W')
 (hok:∀(j:Nat) (t:TypeId) (r:Value),f.resultTypes[j]? = some t→(v.resultList f.resultTypes.size)[j]? = some r→Value.okWide P W' .any 0 t r) :
 s.post enc P f apart fresh handsOn again W args v W':=by
 have hlt:∀p∈before,p.block<W.heap.size:=fun p hp=>hW.lt p hp
 have hold:∀p∈before,(fun b=>decide (b<W.heap.size)) p.block=true:=fun p hp=>by simpa using hlt p hp
 refine ⟨ds,gs,before,[],pa,pv,hW,hres _ _ _,hargs _ hold,hvars _ hold,World.keptBut_mono (fun p hp=>⟨hp,?_⟩) (hb.frame (· ∈ before)),fun _ => ?_⟩
 ·rw [hps,List.mem_append] at hp
  exact Or.inr hp
 ·obtain ⟨_,_,_,_,_,hz,hn⟩:=hW
  refine ⟨hok,_,_,([]++pa)++pv,⟨[]++pa,pv,trodAll_append (hargs _ (fun _ _=>rfl)) (hres _ _ _),hvars _ (fun _ _=>rfl),rfl,?_,?_⟩,?_⟩
  ·intro b off hp
   have hin:MemPlace.cell b off∈before:=by rw [hps];simpa using hp
   rw [hb.frozen (hlt _ hin)]
   exact hz b off hin
  ·intro ha
   have:=hn ha
   rw [hps] at this
   simpa using this
  ·intro p hp _
   rw [hps]
   simpa using hp
end
end Go.Proofs.YtohgabdmmbngbaaGreatDoor
namespace Go.Proofs.YtohgabdmmbngbaaGreatDoor
open Go.ChangeShapes Go.WideShapes Go.ChangeAt Go.RowKit Go.Joins Go.Deep
def accCells : List Nat := [128,191,160,191,128,159,144,191,128,143,0,0,0,0,0,0,0,0,0,0,0,0,0,0,0,0,0,0,0,0,0,0]
def u8Cells (l:List Nat):Array Value:=(l.map fun n:Nat=>Value.int .u8 n).toArray
def layCells (cs:Array Value):Obj→Obj
 | .cells _ t frozen => .cells cs t frozen
 | o=>o
noncomputable def laidWorld (os:Os):World :=
 {World.holding Tryz.prog os ⟨#[],#[],[]⟩ with heap:=((World.holding Tryz.prog os ⟨#[],#[],[]⟩).heap.modify 1 (layCells (u8Cells Pinned.utf8FirstZ))).modify 2 (layCells (u8Cells accCells))}
set_option maxRecDepth 100000 in
theorem laid_met (os:Os) (args:Array Value):laidMet Tryz.prog [("unicode/utf8.acceptRanges",Rows.laid_unicode_utf8_acceptRanges),("unicode/utf8.first",Rows.laid_unicode_utf8_first)] ((laidWorld os).forCall (fun _ _=>0) ⟨#[],args,[]⟩).memory :=
 laidMet_of_run' 8 (by kernel_rfl) (by kernel_rfl)
end Go.Proofs.YtohgabdmmbngbaaGreatDoor
namespace Go.Proofs.YtohgabdmmbngbaaGreatDoor
open Go.RowKit
theorem Blk.cells_ {t:TypeId} {g:Nat}:∀(vs:List Value) (o:Nat) (w:World) (cs:Array Value),Blk w g t cs→∃cs',Blk (w.setCells g o vs) g t cs'∧cs'.size=cs.size ∧
 ∀i:Nat,cs'[i]? = if o≤i∧i<o+vs.length∧i<cs.size then vs[i - o]? else cs[i]?
 | [],o,w,cs,h=>⟨cs,h,rfl,fun i=>by rw [if_neg (by simp;omega)]⟩
 | v :: r,o,w,cs,h=>by
   obtain ⟨cs',h1,h2,h3⟩:=Blk.cells_ r (o+1) _ _ (h.set_ o v)
   refine ⟨cs',h1,by simpa using h2,fun i => ?_⟩
   rw [h3 i]
   simp only [Array.size_setIfInBounds,List.length_cons]
   by_cases h4:o+1≤i∧i<o+1+r.length∧i<cs.size
   ·rw [if_pos h4,if_pos (by omega),show i - o=(i - (o+1))+1 by omega]
    simp
   ·rw [if_neg h4]
    by_cases h5:o≤i∧i<o+(r.length+1)∧i<cs.size
    ·have h6:i=o:=by omega
     subst h6
     rw [if_pos h5]
     simp [h5.2.2]
    ·rw [if_neg h5]
     rw [Array.getElem?_setIfInBounds]
     by_cases h6:o=i
     ·subst h6
      have h7:¬o<cs.size:=by omega
      simp [h7]
     ·rw [if_neg h6]
theorem setCells_far {g k:Nat} (hne:k≠g):∀(vs:List Value) (o:Nat) (w:World),(w.setCells g o vs).heap[k]? = w.heap[k]?
 | [],_,_=>rfl
 | _ :: r,o,_=>(setCells_far hne r (o+1) _).trans (Below.heap_setCell _ _ _ _ hne)
theorem setCells_same (g:Nat):∀(vs:List Value) (o:Nat) (w:World),(w.setCells g o vs).os=w.os∧(w.setCells g o vs).tape=w.tape∧(w.setCells g o vs).output=w.output∧(w.setCells g o vs).heap.size=w.heap.size
 | [],_,_=>⟨rfl,rfl,rfl,rfl⟩
 | v :: r,o,w=>by
   obtain ⟨a,b,c,d⟩:=setCells_same g r (o+1) (w.setCell ⟨g,o,none⟩ v)
   exact ⟨a,b,c,by rw [World.setCells,d];simp [World.setCell]⟩
def OwnW (o:Nat→Nat) (c:Nat) (w:World) (e:TypeId) (size:Nat) (v:Value) (n:Nat) (xs:List Value):Prop :=
 xs.length=n*size∧((v = .slice none 0 0∧n=0)∨∃g off cap cur,v = .slice (some ⟨g,off,none⟩) n cap∧Blk w g e cur∧o g=c∧n≤cap∧cap≤maxLen∧off+cap*size≤cur.size∧(cur.toList.drop off).take (n*size)=xs)
section
variable {o:Nat→Nat} {c:Nat} {w w':World} {e:TypeId} {size n:Nat} {v:Value} {xs:List Value}
theorem OwnW.nil (o:Nat→Nat) (c:Nat) (w:World) (e:TypeId) (size:Nat):OwnW o c w e size (.slice none 0 0) 0 []:=⟨by simp, .inl ⟨rfl,rfl⟩⟩
theorem OwnW.of_own (h:OwnS o c w e size v n xs):OwnW o c w e size v n xs:=by
 refine ⟨h.1.1,?_⟩
 rcases h.1.2 with ⟨a,b⟩ | ⟨g,cap,cur,rfl,_,hg,h1,h2,h3,h4⟩
 ·exact .inl ⟨a,b⟩
 ·exact .inr ⟨g,0,cap,cur,rfl,hg,h.2 g rfl,h1,h2,by omega,by simpa using h4⟩
theorem OwnW.heap (h:OwnW o c w e size v n xs) (hb:∀g,v.ownBlock=some g→w'.heap[g]? = w.heap[g]?) {o':Nat→Nat} (ho:∀g,v.ownBlock=some g→o' g=o g):OwnW o' c w' e size v n xs:=by
 refine ⟨h.1,?_⟩
 rcases h.2 with hn | ⟨g,off,cap,cur,rfl,hg,hc,rest⟩
 ·exact .inl hn
 ·exact .inr ⟨g,off,cap,cur,rfl,(hb g rfl).trans hg,(ho g rfl).trans hc,rest⟩
theorem OwnW.lt (h:OwnW o c w e size v n xs):∀g,v.ownBlock=some g→g<w.heap.size∧o g=c:=by
 intro g hg
 rcases h.2 with ⟨rfl,_⟩ | ⟨g',off,cap,cur,rfl,hb,hc,_⟩
 ·simp [Value.ownBlock] at hg
 ·simp only [Value.ownBlock,Option.some.injEq] at hg
  subst hg
  exact ⟨hb.lt,hc⟩
theorem OwnW.step {o':Nat→Nat} {D:Nat→Prop} (h:OwnW o c w e size v n xs) (hk:Step o D w o' w') (hne:¬D c):OwnW o' c w' e size v n xs :=
 h.heap (fun g hg=>hk.block g (h.lt g hg).1 (by rw [(h.lt g hg).2];exact hne)) (fun g hg=>hk.old g (h.lt g hg).1)
theorem OwnW.form (h:OwnW o c w e size v n xs):∃A cap,v = .slice A n cap∧n≤cap∧cap≤maxLen:=by
 rcases h.2 with ⟨rfl,rfl⟩ | ⟨g,off,cap,cur,rfl,_,_,h1,h2,_⟩
 ·exact ⟨none,0,rfl,Nat.le_refl _,Nat.zero_le _⟩
 ·exact ⟨_,_,rfl,h1,h2⟩
theorem drop_take_get {l xs:List Value} {off k:Nat} (h:(l.drop off).take k=xs) {j:Nat} {u:Value} (hj:xs[j]? = some u):l[off+j]? = some u:=by
 rw [←h,List.getElem?_take] at hj
 split at hj
 ·rwa [List.getElem?_drop] at hj
 ·cases hj
theorem OwnW.reads {A:Option Addr} {cap:Nat} (h:OwnW o c w e size (.slice A n cap) n xs):Reads w size A n xs:=by
 refine ⟨h.1,fun hn => ?_⟩
 rcases h.2 with ⟨hv,h0⟩ | ⟨g,off,cap',cur,hv,hb,_,_,_,_,h4⟩
 ·omega
 ·simp only [Value.slice.injEq] at hv
  obtain ⟨rfl,_,_⟩:=hv
  refine ⟨_,rfl,fun j u hu => ?_⟩
  rw [Addr.add_lit,hb.cell]
  have:=drop_take_get h4 hu
  simpa using this
end
section
variable {P:Program} (w:World)
theorem run_append_W {o:Nat→Nat} {c0:Nat} (t ty e:TypeId) (i:TypeInfo) (z:Value) (size bytes:Nat) (ht:P.underlying t=some (.slice e)) (hi:P.info? e=some i) (hz:i.zero=some z)
 (hsize:i.size=size) (hby:i.bytes=bytes) (hzs:z.cells.size=size) (hsz:0<size)
 (v:Value) (n:Nat) (xs:List Value) (hown:OwnW o c0 w e size v n xs)
 (A:Option Addr) (m c:Nat) (news:List Value) (hr:Reads w size A m news) (h1:∀u∈news,u.oneCell'=true)
 (h63:n+m≤maxLen) (hbytes:(n+m)*bytes≤140737488355328) :
 ∃v' w',(Builtin.append_ #[t,t] ty #[v, .slice A m c]).run P w = .ok v' w'∧OwnW (band o w.heap.size w'.heap.size c0) c0 w' e size v' (n+m) (xs++news)∧Step o (only c0) w (band o w.heap.size w'.heap.size c0) w':=by
 have fin:∀v' w',w'.ownsRow w.heap.size e size v' (n+m) (xs++news)→w.grownBy w' none →
  OwnW (band o w.heap.size w'.heap.size c0) c0 w' e size v' (n+m) (xs++news)∧Step o (only c0) w (band o w.heap.size w'.heap.size c0) w':=by
  intro v' w' h2 h3
  refine ⟨OwnW.of_own ⟨⟨h2.1,h2.2.imp id (fun ⟨g,cap,cur,a1,a2,a3⟩=>⟨g,cap,cur,a1,Nat.zero_le _,a3⟩)⟩,fun g hg => ?_⟩,(Step.refl o (only c0) w).grown h3 (by simp)⟩
  have:=h2.lt g hg
  exact band_in this.1 this.2
 have same:OwnW (band o w.heap.size w.heap.size c0) c0 w e size v n xs∧Step o (only c0) w (band o w.heap.size w.heap.size c0) w :=
  ⟨hown.heap (fun _ _=>rfl) (fun g hg=>band_lt (hown.lt g hg).1),⟨rfl,rfl,rfl,Nat.le_refl _,fun _ hk=>band_lt hk,fun _ hk=>band_ge hk,fun _ _ _=>rfl⟩⟩
 by_cases hm:m=0
 ·subst hm
  have hn:news = []:=List.eq_nil_of_length_eq_zero (by simpa using hr.1)
  subst hn
  refine ⟨v,w,?_,by simpa using same.1,same.2⟩
  rcases hown.2 with ⟨rfl,rfl⟩ | ⟨g,off,cap,cur,rfl,_,_,hnc,_⟩
  ·cases A <;> simp [Builtin.append_,run_underlying ht,sizeOf,typeInfo,hi,Builtin.lenOf,Builtin.firstCells,loadCells,loadCellsFrom]
  ·cases A <;> simp [Builtin.append_,run_underlying ht,sizeOf,typeInfo,hi,Builtin.lenOf,Builtin.firstCells,hnc,storeCells,loadCells,loadCellsFrom]
 ·obtain ⟨ad,rfl,hcells⟩:=hr.2 (by omega)
  rcases hown.2 with ⟨rfl,rfl⟩ | ⟨g,off,cap,cur,rfl,hb,hgc,hnc,hcm,hcs,htake⟩
  ·have hx:xs = []:=List.eq_nil_of_length_eq_zero (by simpa using hown.1)
   subst hx
   obtain ⟨v',w',hrun,h2,h3,_⟩:=run_append_own (P:=P) w w.heap.size t ty e i z size bytes ht hi hz hsize hby hzs hsz (.slice none 0 0) 0 [] (World.ownsRow_nil w _ e size) ad m c news hr.1 hcells h1 h63 hbytes (Nat.le_refl _)
   obtain ⟨f1,f2⟩:=fin v' w' h2 (by simpa [Value.ownBlock] using h3)
   exact ⟨v',w',hrun,f1,f2⟩
  ·by_cases hroom:n+m≤cap
   ·subst hsize
    have hfit:off+n*i.size+news.length≤cur.size:=by
     have:(n+m)*i.size≤cap*i.size:=Nat.mul_le_mul_right _ hroom
     rw [Nat.add_mul] at this
     rw [hr.1]
     omega
    have hrun:=run_append_room_cells (P:=P) w t ty e i ht hi g off n cap ad m c news hr.1 hcells h1 hroom
     (fun j hj=>by obtain ⟨u,hu⟩:=hb.cell_some (i:=off+n*i.size+j) (by omega);rw [hu];rfl) (fun j hj=>hb.frozen _)
    obtain ⟨cs',b1,b2,b3⟩:=Blk.cells_ news (off+n*i.size) w cur hb
    obtain ⟨s1,s2,s3,s4⟩:=setCells_same g news (off+n*i.size) w
    refine ⟨_,_,hrun,⟨by rw [List.length_append,hown.1,hr.1,Nat.add_mul], .inr ⟨g,off,cap,cs',rfl,b1,by rw [band_lt hb.lt];exact hgc,hroom,hcm,by omega,?_⟩⟩,⟨s1,s2,s3,by omega,fun _ hk=>band_lt hk,fun _ hk=>band_ge hk,fun k hk hne=>setCells_far (fun e=>hne (by rw [e];exact hgc)) _ _ _⟩⟩
    apply List.ext_getElem?
    intro j
    rw [List.getElem?_take,List.getElem?_drop]
    simp only [Array.getElem?_toList,b3]
    have hxl:=hown.1
    have hnl:=hr.1
    by_cases hj:j<(n+m)*i.size
    ·rw [if_pos hj]
     rw [Nat.add_mul] at hj
     by_cases hj2:j<n*i.size
     ·rw [if_neg (by omega),List.getElem?_append_left (by omega)]
      obtain ⟨u,hu⟩:∃u,xs[j]? = some u:=⟨_,List.getElem?_eq_getElem (by omega)⟩
      rw [hu]
      have:=drop_take_get htake hu
      simpa using this
     ·rw [if_pos (by omega),List.getElem?_append_right (by omega)]
      congr 1
      omega
    ·rw [if_neg hj,List.getElem?_eq_none]
     rw [Nat.add_mul] at hj
     rw [List.length_append]
     omega
   ·obtain ⟨v',w',hrun,h2,h3⟩:=run_append_arg_grows (P:=P) w t ty e i z size bytes ht hi hz hsize hby hzs hsz ⟨g,off,none⟩ n cap xs hown.1 (fun j u hj=>by
     rw [Addr.add_lit,hb.cell]
     have:=drop_take_get htake hj
     simpa using this) ad m c news hr.1 hcells (by omega) h63 hbytes
    obtain ⟨f1,f2⟩:=fin v' w' h2 h3
    exact ⟨v',w',hrun,f1,f2⟩
theorem wp_append_W {op:Oper} {a:Act} {K:Act→World→Prop} {Q:Exit→Act→World→Prop} {o:Nat→Nat} {c0:Nat} (s x:Operand) (t:TypeId)
 (ho:op.op = .call {callee := .builtin .append,args:=#[s,x],argTypes:=#[t,t]})
 (e:TypeId) (i:TypeInfo) (z:Value) (size bytes:Nat) (ht:P.underlying t=some (.slice e)) (hi:P.info? e=some i) (hz:i.zero=some z)
 (hsize:i.size=size) (hby:i.bytes=bytes) (hzs:z.cells.size=size) (hsz:0<size)
 (v:Value) (n:Nat) (xs:List Value) (hs:a.eval s=v) (hown:OwnW o c0 w e size v n xs)
 (A:Option Addr) (m c:Nat) (news:List Value) (hx:a.eval x = .slice A m c) (hr:Reads w size A m news) (h1:∀u∈news,u.oneCell'=true)
 (h63:n+m≤maxLen) (hbytes:(n+m)*bytes≤140737488355328)
 (h:∀v' w',OwnW (band o w.heap.size w'.heap.size c0) c0 w' e size v' (n+m) (xs++news)→Step o (only c0) w (band o w.heap.size w'.heap.size c0) w'→K (a.put op.dst v') w'):op.wp P a w K Q:=by
 obtain ⟨v',w',hrun,h2,h3⟩:=run_append_W (P:=P) w t op.type e i z size bytes ht hi hz hsize hby hzs hsz v n xs hown A m c news hr h1 h63 hbytes
 unfold Oper.wp execOp
 simp only [ho,resolve,invoke,builtin,Sem.run_bind,Sem.run_pure,Result.andThen_ok,List.map_toArray,List.map_cons,List.map_nil,hs,hx,hrun]
 exact h v' w' h2 h3
theorem step_append_W {ops:Array Oper} {op:Oper} {a:Act} {K:Act→World→Prop} {Q:Exit→Act→World→Prop} {E:Prop} (hgd:op.guard=none) {o:Nat→Nat} {c0:Nat} (s x:Operand) (t:TypeId)
 (ho:op.op = .call {callee := .builtin .append,args:=#[s,x],argTypes:=#[t,t]})
 (e:TypeId) (i:TypeInfo) (z:Value) (size bytes:Nat) (ht:P.underlying t=some (.slice e)) (hi:P.info? e=some i) (hz:i.zero=some z)
 (hsize:i.size=size) (hby:i.bytes=bytes) (hzs:z.cells.size=size) (hsz:0<size)
 (v:Value) (n:Nat) (xs:List Value) (hs:a.eval s=v) (hown:OwnW o c0 w e size v n xs)
 (A:Option Addr) (m c:Nat) (news:List Value) (hx:a.eval x = .slice A m c) (hr:Reads w size A m news) (h1:∀u∈news,u.oneCell'=true)
 (h63:n+m≤maxLen) (hbytes:(n+m)*bytes≤140737488355328)
 (h:∀v' w',OwnW (band o w.heap.size w'.heap.size c0) c0 w' e size v' (n+m) (xs++news)→Step o (only c0) w (band o w.heap.size w'.heap.size c0) w'→K (a.put op.dst v') w') :
 if Region.wanted op (yielded ops a.tmps)=true then Oper.wp P op a w K Q else E:=by
 have hw:Region.wanted op (yielded ops a.tmps)=true:=by simp [Region.wanted,hgd]
 rw [if_pos hw]
 exact wp_append_W w s x t ho e i z size bytes ht hi hz hsize hby hzs hsz v n xs hs hown A m c news hx hr h1 h63 hbytes h
end
end Go.Proofs.YtohgabdmmbngbaaGreatDoor
