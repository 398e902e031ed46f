import Derived.Test.YtldoeodkeieejaaGreatDoorChecked
import Derived.WalkKit
import Derived.WalkLawsBesides
import Derived.WalkSpells
import Derived.Lib.Hide
import Derived.Deep.DeepFit
import Derived.Deep.QuietTactic
import Derived.BigQuiet
import Derived.StillTailTactics
import Derived.Deep.RegionHeld3
import Derived.Deep.RegionWith
import Derived.Deep.RegionLaw
import Derived.Deep.LoopGhost
import Derived.Deep.Draws
import Derived.Maps.AppendAt
import Derived.Deep.AppendLies
import Derived.Test.YtldoeodkeieejaaGreatDoorRows
import Derived.ProofKit
import Derived.OpenShut
import Derived.Lib.SmallJoins
import Derived.OpenVars
import Derived.Test.YtldoeodkeieejaaGreatDoorCards
import Derived.Test.YtldoeodkeieejaaGreatDoorTie
import Derived.Deep.DeepHandedRow
import Derived.ChangeMaps5
import Derived.Lib.LaidTab
import Derived.ChangeArms
import Derived.Deep.Slices
namespace Go.Proofs.YtldoeodkeieejaaGreatDoor
open Go.RowKit
def Blk (w:World) (g:Nat) (t:TypeId) (cs:Array Value):Prop:=w.heap[g]? = some (.cells cs t (0,0))
section
variable {w w':World} {g:Nat} {t:TypeId} {cs:Array Value}
theorem Blk.lt (h:Blk w g t cs):g<w.heap.size:=(Array.getElem?_eq_some_iff.1 h).1
theorem Blk.cell (h:Blk w g t cs) (i:Nat):w.cell? ⟨g,i,none⟩=cs[i]? := cell_of_row w g i cs t (0,0) h
theorem Blk.cell_some (h:Blk w g t cs) {i:Nat} (hi:i<cs.size):∃v,w.cell? ⟨g,i,none⟩=some v:=⟨_,(h.cell i).trans (Array.getElem?_eq_getElem hi)⟩
theorem Blk.frozen (h:Blk w g t cs) (i:Nat):w.frozen? ⟨g,i,none⟩=false:=by
 unfold Blk at h
 simp [World.frozen?,h]
theorem Blk.new (w:World) (t:TypeId) (cs:Array Value):Blk (w.alloc (.cells cs t)) w.heap.size t cs:=heap_alloc_new w _
theorem Blk.drew (h:Blk w g t cs):Blk w.drew g t cs:=h
theorem Blk.drewN (h:Blk w g t cs) (n:Nat):Blk (w.drewN n) g t cs:=h
theorem Blk.alloc (h:Blk w g t cs) (o:Obj):Blk (w.alloc o) g t cs:=(Below.heap_alloc w o g h.lt).trans h
theorem Blk.set_ (h:Blk w g t cs) (i:Nat) (u:Value):Blk (w.setCell ⟨g,i,none⟩ u) g t (cs.setIfInBounds i u):=by
 unfold Blk at h ⊢
 simp [World.setCell,Array.getElem?_modify,h]
theorem Blk.far (h:Blk w g t cs) {p:Addr} (hp:g≠p.block) (u:Value):Blk (w.setCell p u) g t cs:=(Below.heap_setCell w p u g hp).trans h
theorem Blk.below_ (h:Blk w g t cs) (hb:Below w.heap.size w w'):Blk w' g t cs:=(hb.block g h.lt).trans h
theorem Blk.ne_ {g':Nat} {t':TypeId} {cs':Array Value} (h:Blk w g t cs) (h':Blk w g' t' cs') (hne:t≠t'):g≠g':=by
 rintro rfl
 unfold Blk at h h'
 rw [h] at h'
 injection h' with h'
 injection h' with _ ht
 exact hne ht
end
structure Step (o:Nat→Nat) (C:Nat→Prop) (w:World) (o':Nat→Nat) (w':World):Prop where
 os:w'.os=w.os
 tape:w'.tape=w.tape
 output:w'.output=w.output
 size:w.heap.size≤w'.heap.size
 old:∀k,k<w.heap.size→o' k=o k
 fut:∀k,w'.heap.size≤k→o' k=o k
 block:∀k,k<w.heap.size→¬C (o k)→w'.heap[k]? = w.heap[k]?
def only (c:Nat):Nat→Prop:=fun x=>x=c
def Fut (o:Nat→Nat) (w:World):Prop:=∀k,w.heap.size≤k→o k=0
def band (o:Nat→Nat) (n m c:Nat):Nat→Nat:=fun k=>if n≤k∧k<m then c else o k
theorem band_lt {o:Nat→Nat} {n m c k:Nat} (h:k<n):band o n m c k=o k:=if_neg (by omega)
theorem band_ge {o:Nat→Nat} {n m c k:Nat} (h:m≤k):band o n m c k=o k:=if_neg (by omega)
theorem band_in {o:Nat→Nat} {n m c k:Nat} (h:n≤k) (h':k<m):band o n m c k=c:=if_pos ⟨h,h'⟩
section
variable {o o1 o2:Nat→Nat} {C D:Nat→Prop} {w w' a:World}
theorem Step.refl (o:Nat→Nat) (C:Nat→Prop) (w:World):Step o C w o w:=⟨rfl,rfl,rfl,Nat.le_refl _,fun _ _=>rfl,fun _ _=>rfl,fun _ _ _=>rfl⟩
theorem Step.mono (h:Step o C w o1 a) (hCD:∀x,C x→D x):Step o D w o1 a:=⟨h.os,h.tape,h.output,h.size,h.old,h.fut,fun k hk hc=>h.block k hk (fun e=>hc (hCD _ e))⟩
theorem Step.trans {b:World} (h:Step o C w o1 a) (k:Step o1 C a o2 b):Step o C w o2 b :=
 ⟨k.os.trans h.os,k.tape.trans h.tape,k.output.trans h.output,Nat.le_trans h.size k.size,fun i hi=>(k.old i (Nat.lt_of_lt_of_le hi h.size)).trans (h.old i hi),
  fun i hi=>(k.fut i hi).trans (h.fut i (Nat.le_trans k.size hi)),fun i hi hc=>(k.block i (Nat.lt_of_lt_of_le hi h.size) (by rw [h.old i hi];exact hc)).trans (h.block i hi hc)⟩
theorem Step.drew (h:Step o C a o1 w):Step o C a o1 w.drew:=⟨h.os,h.tape,h.output,h.size,h.old,h.fut,h.block⟩
theorem Step.drewN (h:Step o C a o1 w) (n:Nat):Step o C a o1 (w.drewN n):=⟨h.os,h.tape,h.output,h.size,h.old,h.fut,h.block⟩
theorem Step.of_drew (h:Step o C a.drew o1 w):Step o C a o1 w:=⟨h.os,h.tape,h.output,h.size,h.old,h.fut,h.block⟩
theorem Step.of_drewN {n:Nat} (h:Step o C (a.drewN n) o1 w):Step o C a o1 w:=⟨h.os,h.tape,h.output,h.size,h.old,h.fut,h.block⟩
theorem Fut.step (h:Fut o a) (k:Step o C a o1 w):Fut o1 w:=fun i hi=>(k.fut i hi).trans (h i (Nat.le_trans k.size hi))
theorem Fut.below (h:Fut o a) (k:Below a.heap.size a w):Fut o w:=fun i hi=>h i (Nat.le_trans k.size hi)
theorem Fut.alloc (h:Fut o w) (x:Obj):Fut o (w.alloc x):=fun k hk=>h k (by simp at hk;omega)
theorem Fut.drew (h:Fut o w):Fut o w.drew:=h
theorem Fut.drewN (h:Fut o w) (n:Nat):Fut o (w.drewN n):=h
theorem Fut.setCell (h:Fut o w) (p:Addr) (u:Value):Fut o (w.setCell p u):=fun k hk=>h k (by simpa [World.setCell] using hk)
theorem Fut.at_ (h:Fut o w):o w.heap.size=0:=h _ (Nat.le_refl _)
theorem Step.alloc (h:Step o C a o1 w) (x:Obj):Step o C a o1 (w.alloc x) :=
 h.trans ⟨rfl,rfl,rfl,by simp,fun _ _=>rfl,fun _ _=>rfl,fun k hk _=>Below.heap_alloc _ _ _ hk⟩
theorem Step.setCell (h:Step o C a o1 w) {p:Addr} (hp:C (o1 p.block)) (u:Value):Step o C a o1 (w.setCell p u) :=
 h.trans ⟨rfl,rfl,rfl,by simp [World.setCell],fun _ _=>rfl,fun _ _=>rfl,fun k _ hk=>Below.heap_setCell _ _ _ _ (by rintro rfl;exact hk hp)⟩
theorem Step.setNew (h:Step o C a o1 w) {p:Addr} (hp:a.heap.size≤p.block) (u:Value):Step o C a o1 (w.setCell p u) :=
 ⟨h.os,h.tape,h.output,by have:=h.size;simpa [World.setCell] using this,h.old,by intro k hk;exact h.fut k (by simpa [World.setCell] using hk),fun k hk hc=>(Below.heap_setCell _ _ _ _ (by omega)).trans (h.block k hk hc)⟩
theorem Step.grown {c:Nat} {row:Option Nat} (h:Step o C a o1 w) (hg:w.grownBy w' row) (hr:∀k,row=some k→C (o1 k)):Step o C a (band o1 w.heap.size w'.heap.size c) w' :=
 h.trans ⟨hg.os,hg.tape,hg.output,hg.size,fun _ hk=>band_lt hk,fun _ hk=>band_ge hk,fun k hk hc=>hg.block k hk (fun e=>hc (hr k e.symm))⟩
theorem Step.grownNew (c:Nat) {row:Option Nat} (h:Step o C a o1 w) (hg:w.grownBy w' row) (hr:∀k,row=some k→a.heap.size≤k):Step o C a (band o1 w.heap.size w'.heap.size c) w' :=
 ⟨hg.os.trans h.os,hg.tape.trans h.tape,hg.output.trans h.output,Nat.le_trans h.size hg.size,fun k hk=>(band_lt (Nat.lt_of_lt_of_le hk h.size)).trans (h.old k hk),fun k hk=>(band_ge hk).trans (h.fut k (Nat.le_trans hg.size hk)),
  fun k hk hc=>(hg.block k (Nat.lt_of_lt_of_le hk h.size) (fun e=>by have:=hr k e.symm;omega)).trans (h.block k hk hc)⟩
theorem Step.of_below (o:Nat→Nat) (C:Nat→Prop) (h:Below w.heap.size w w'):Step o C w o w':=⟨h.os,h.tape,h.output,h.size,fun _ _=>rfl,fun _ _=>rfl,fun k hk _=>h.block k hk⟩
theorem Step.of_below_band (o:Nat→Nat) (C:Nat→Prop) (d:Nat) (h:Below w.heap.size w w'):Step o C w (band o w.heap.size w'.heap.size d) w' :=
 ⟨h.os,h.tape,h.output,h.size,fun _ hk=>band_lt hk,fun _ hk=>band_ge hk,fun k hk _=>h.block k hk⟩
theorem Blk.step {g:Nat} {t:TypeId} {cs:Array Value} (h:Blk w g t cs) (hk:Step o C w o1 w') (hg:¬C (o g)):Blk w' g t cs:=(hk.block g h.lt hg).trans h
theorem Step.below (h:Step o C w o1 w') {B:Nat} (hB:∀k,k<B→¬C (o k)) (hs:B≤w.heap.size):Below B w w':=⟨h.os,h.tape,h.output,h.size,fun k hk=>h.block k (by omega) (hB k hk)⟩
end
theorem block_of_add (a:Addr) (n:Nat):(a.add n).block=a.block:=by unfold Addr.add;split <;> rfl
theorem add_of_add (a:Addr) (i j:Nat):(a.add i).add j=a.add (i+j):=by
 unfold Addr.add
 by_cases hi:i=0 <;> by_cases hj:j=0 <;> simp [hi,hj,Nat.add_assoc]
def Reads (w:World) (size:Nat) (A:Option Addr) (n:Nat) (xs:List Value):Prop :=
 xs.length=n*size∧(0<n→∃ad,A=some ad∧∀j u,xs[j]? = some u→w.cell? (ad.add j)=some u)
def OwnS (o:Nat→Nat) (c:Nat) (w:World) (e:TypeId) (size:Nat) (v:Value) (n:Nat) (xs:List Value):Prop :=
 w.ownsRow 0 e size v n xs∧∀g,v.ownBlock=some g→o g=c
section
variable {o:Nat→Nat} {c:Nat} {w w':World} {e:TypeId} {size n:Nat} {v:Value} {xs:List Value}
theorem OwnS.nil (o:Nat→Nat) (c:Nat) (w:World) (e:TypeId) (size:Nat):OwnS o c w e size (.slice none 0 0) 0 []:=⟨World.ownsRow_nil _ _ _ _,by simp [Value.ownBlock]⟩
theorem ownsRow_heap (h:w.ownsRow 0 e size v n xs) (hb:∀g,v.ownBlock=some g→w'.heap[g]? = w.heap[g]?):w'.ownsRow 0 e size v n xs:=by
 refine ⟨h.1,?_⟩
 rcases h.2 with hn | ⟨g,cap,cur,rfl,h0,hgg,rest⟩
 ·exact .inl hn
 ·exact .inr ⟨g,cap,cur,rfl,h0,(hb g (by simp [Value.ownBlock])).trans hgg,rest⟩
theorem OwnS.lt (h:OwnS o c w e size v n xs):∀g,v.ownBlock=some g→g<w.heap.size:=fun g hg=>(h.1.lt g hg).2
theorem OwnS.color {o':Nat→Nat} (h:OwnS o c w e size v n xs) (ho:∀k,k<w.heap.size→o' k=o k):OwnS o' c w e size v n xs :=
 ⟨h.1,fun g hg=>(ho g (h.lt g hg)).trans (h.2 g hg)⟩
theorem OwnS.step {o':Nat→Nat} {D:Nat→Prop} (h:OwnS o c w e size v n xs) (hk:Step o D w o' w') (hne:¬D c):OwnS o' c w' e size v n xs :=
 ⟨ownsRow_heap h.1 (fun g hg=>hk.block g (h.lt g hg) (by rw [h.2 g hg];exact hne)),fun g hg=>(hk.old g (h.lt g hg)).trans (h.2 g hg)⟩
theorem OwnS.alloc (h:OwnS o c w e size v n xs) (x:Obj):OwnS o c (w.alloc x) e size v n xs:=⟨h.1.alloc x,h.2⟩
theorem OwnS.below_ (h:OwnS o c w e size v n xs) (hb:Below w.heap.size w w'):OwnS o c w' e size v n xs:=⟨ownsRow_heap h.1 (fun g hg=>hb.block g (h.lt g hg)),h.2⟩
theorem OwnS.drew (h:OwnS o c w e size v n xs):OwnS o c w.drew e size v n xs:=h
theorem OwnS.drewN (h:OwnS o c w e size v n xs) (k:Nat):OwnS o c (w.drewN k) e size v n xs:=h
theorem OwnS.setCell (h:OwnS o c w e size v n xs) {p:Addr} (hp:v.ownBlock≠some p.block) (u:Value):OwnS o c (w.setCell p u) e size v n xs :=
 ⟨ownsRow_heap h.1 (fun g hg=>Below.heap_setCell _ _ _ _ (by rintro rfl;exact hp hg)),h.2⟩
theorem own_blk_ne (h:OwnS o c w e size v n xs) {g:Nat} {t:TypeId} {cs:Array Value} (hg:Blk w g t cs) (hne:e≠t):v.ownBlock≠some g:=by
 rcases h.1.2 with ⟨rfl,_⟩ | ⟨g',cap,cur,rfl,_,hh,_⟩
 ·simp [Value.ownBlock]
 ·intro he
  have:g'=g:=by simpa [Value.ownBlock] using he
  subst this
  exact Blk.ne_ (t:=e) hh hg hne rfl
end
section
variable {o:Nat→Nat} {c:Nat} {w:World} {e:TypeId} {size n cap:Nat} {xs:List Value}
theorem OwnS.blk {A:Option Addr} (h:OwnS o c w e size (.slice A n cap) n xs) (hn:0<n) :
 ∃g cur,A=some ⟨g,0,none⟩∧Blk w g e cur∧o g=c∧n≤cap∧cap≤maxLen∧cur.size=cap*size∧cur.toList.take (n*size)=xs:=by
 rcases h.1.2 with ⟨hv,h0⟩ | ⟨g,cap',cur,hv,_,hg,h1,h2,h3,h4⟩
 ·omega
 ·simp only [Value.slice.injEq] at hv
  obtain ⟨rfl,_,rfl⟩:=hv
  exact ⟨g,cur,rfl,hg,h.2 g rfl,h1,h2,h3,h4⟩
theorem OwnS.at_ {g:Nat} (h:OwnS o c w e size (.slice (some ⟨g,0,none⟩) n cap) n xs) {j:Nat} {u:Value} (hj:xs[j]? = some u):w.cell? ⟨g,j,none⟩=some u:=by
 have h0:=h.1.cells (g:=g) rfl j u hj
 have hadd:(⟨g,0,none⟩:Addr).add j=⟨g,j,none⟩:=by unfold Addr.add;split <;> simp_all
 rwa [hadd] at h0
theorem OwnS.of_blk {g:Nat} {cur:Array Value} (hb:Blk w g e cur) (hc:o g=c) (h1:n≤cap) (h2:cap≤maxLen) (h3:cur.size=cap*size) (h4:cur.toList.take (n*size)=xs) :
 OwnS o c w e size (.slice (some ⟨g,0,none⟩) n cap) n xs:=by
 refine ⟨⟨?_, .inr ⟨g,cap,cur,rfl,Nat.zero_le _,hb,h1,h2,h3,h4⟩⟩,?_⟩
 ·rw [←h4,List.length_take]
  have:=Nat.mul_le_mul_right size h1
  simp
  omega
 ·intro g' hg'
  simp only [Value.ownBlock,Option.some.injEq] at hg'
  subst hg'
  exact hc
end
section
variable {w w':World} {size n:Nat} {A:Option Addr} {xs:List Value}
theorem Reads.none_ (w:World) (size:Nat) (A:Option Addr):Reads w size A 0 []:=⟨by simp,fun h=>absurd h (by omega)⟩
theorem Reads.of_own {e:TypeId} {c:Nat} (h:w.ownsRow 0 e size (.slice A n c) n xs):Reads w size A n xs:=by
 refine ⟨h.1,fun hn => ?_⟩
 obtain ⟨g,cap,hv,_,hlt⟩:=h.form hn
 have hA:A=some ⟨g,0,none⟩:=by injection hv
 subst hA
 exact ⟨_,rfl,h.cells (g:=g) rfl⟩
theorem Reads.new (w:World) (t:TypeId) (size n:Nat) (xs:List Value) (cs:Array Value) (h:cs.toList=xs) (hl:xs.length=n*size):Reads (w.alloc (.cells cs t)) size (some ⟨w.heap.size,0,none⟩) n xs:=by
 refine ⟨hl,fun _=>⟨_,rfl,fun j u hu => ?_⟩⟩
 have hadd:(⟨w.heap.size,0,none⟩:Addr).add j=⟨w.heap.size,j,none⟩:=by unfold Addr.add;split <;> simp_all
 rw [hadd,(Blk.new w t cs).cell j,←hu,←h]
 simp
theorem Reads.newAt (w:World) (t:TypeId) (size n:Nat) (xs:List Value) (cs:Array Value) (B:Nat) (hB:w.heap.size=B) (h:cs.toList=xs) (hl:xs.length=n*size):Reads (w.alloc (.cells cs t)) size (some ⟨B,0,none⟩) n xs:=by
 subst hB
 exact Reads.new w t size n xs cs h hl
theorem Reads.cut (h:Reads w size A n xs) {k cap:Nat} (hk:k≤n) (hc:n≤cap) :
 Reads w size (if cap=k then A else A.map (·.add (k*size))) (n - k) (xs.drop (k*size)):=by
 refine ⟨by rw [List.length_drop,h.1,Nat.sub_mul],fun hn => ?_⟩
 obtain ⟨ad,rfl,hcell⟩:=h.2 (by omega)
 rw [if_neg (by omega)]
 refine ⟨ad.add (k*size),rfl,fun j u hu => ?_⟩
 rw [add_of_add]
 exact hcell _ u (by rw [←hu,List.getElem?_drop])
theorem Reads.take (h:Reads w size A n xs) {k:Nat} (hk:k≤n):Reads w size A k (xs.take (k*size)):=by
 refine ⟨by rw [List.length_take,h.1];have:=Nat.mul_le_mul_right size hk;omega,fun hn => ?_⟩
 obtain ⟨ad,rfl,hcell⟩:=h.2 (by omega)
 refine ⟨ad,rfl,fun j u hu=>hcell j u ?_⟩
 rw [List.getElem?_take] at hu
 split at hu
 ·exact hu
 ·cases hu
theorem Reads.keep_ (h:Reads w size A n xs) (hk:∀ad,A=some ad→w'.heap[ad.block]? = w.heap[ad.block]?):Reads w' size A n xs :=
 ⟨h.1,fun hn=>by
  obtain ⟨ad,e,hc⟩:=h.2 hn
  exact ⟨ad,e,fun j u hu=>(World.cell?_of_block (w:=w) (by rw [block_of_add];exact hk ad e)).trans (hc j u hu)⟩⟩
theorem Reads.drew (h:Reads w size A n xs):Reads w.drew size A n xs:=h
theorem Reads.drewN (h:Reads w size A n xs) (k:Nat):Reads (w.drewN k) size A n xs:=h
theorem Reads.lt (h:Reads w size A n xs) (hs:0<size):∀ad,0<n→A=some ad→ad.block<w.heap.size:=by
 intro ad hn he
 obtain ⟨ad',e',hc⟩:=h.2 hn
 rw [he] at e'
 injection e' with e'
 subst e'
 have hl:0<xs.length:=by rw [h.1];exact Nat.mul_pos hn hs
 have:=World.block_lt_of_cell? w _ (hc 0 _ (List.getElem?_eq_getElem hl))
 rwa [block_of_add] at this
end
section
variable {P:Program} (w:World)
theorem run_append_of_nil (t ty e:TypeId) (i:TypeInfo) (size:Nat) (ht:P.underlying t=some (.slice e)) (hi:P.info? e=some i)
 (v:Value) (n:Nat) (xs:List Value) (hown:w.ownsRow 0 e size v n xs) (c:Nat):(Builtin.append_ #[t,t] ty #[v, .slice none 0 c]).run P w = .ok v w:=by
 rcases hown.2 with ⟨rfl,rfl⟩ | ⟨g,cap,cur,rfl,_,_,hnc,_⟩
 ·simp [Builtin.append_,run_underlying ht,sizeOf,typeInfo,hi,Builtin.lenOf,Builtin.firstCells]
 ·simp [Builtin.append_,run_underlying ht,sizeOf,typeInfo,hi,Builtin.lenOf,Builtin.firstCells,hnc,storeCells]
theorem run_append_S {o:Nat→Nat} {c0:Nat} (t ty e:TypeId) (i:TypeInfo) (z:Value) (size bytes:Nat) (ht:P.underlying t=some (.slice e)) (hi:P.info? e=some i) (hz:i.zero=some z)
 (hsize:i.size=size) (hby:i.bytes=bytes) (hzs:z.cells.size=size) (hsz:0<size)
 (v:Value) (n:Nat) (xs:List Value) (hown:OwnS o c0 w e size v n xs)
 (A:Option Addr) (m c:Nat) (news:List Value) (hr:Reads w size A m news) (h1:∀u∈news,u.oneCell'=true)
 (h63:n+m≤maxLen) (hbytes:(n+m)*bytes≤140737488355328) :
 ∃v' w',(Builtin.append_ #[t,t] ty #[v, .slice A m c]).run P w = .ok v' w'∧OwnS (band o w.heap.size w'.heap.size c0) c0 w' e size v' (n+m) (xs++news)∧Step o (only c0) w (band o w.heap.size w'.heap.size c0) w'∧w.grownBy w' v.ownBlock ∧
  (v'.ownBlock=v.ownBlock∨v'.ownBlock=some w.heap.size):=by
 have fin:∀v' w',w'.ownsRow 0 e size v' (n+m) (xs++news)→w.grownBy w' v.ownBlock→(v'.ownBlock=v.ownBlock∨v'.ownBlock=some w.heap.size) →
  OwnS (band o w.heap.size w'.heap.size c0) c0 w' e size v' (n+m) (xs++news)∧Step o (only c0) w (band o w.heap.size w'.heap.size c0) w'∧w.grownBy w' v.ownBlock∧(v'.ownBlock=v.ownBlock∨v'.ownBlock=some w.heap.size):=by
  intro v' w' h2 h3 h5
  refine ⟨⟨h2,fun g hg => ?_⟩,(Step.refl o (only c0) w).grown h3 hown.2,h3,h5⟩
  have hlt:=(h2.lt g hg).2
  rcases h5 with h5 | h5
  ·rw [band_lt (hown.lt g (h5▸hg))]
   exact hown.2 g (h5▸hg)
  ·rw [h5] at hg
   injection hg with hg
   subst hg
   exact band_in (Nat.le_refl _) hlt
 rcases A with _ | ad
 ·have hm:m=0:=by
   rcases Nat.eq_zero_or_pos m with h0 | h0
   ·exact h0
   ·obtain ⟨ad,h,_⟩:=hr.2 h0
    cases h
  subst hm
  have hn:news = []:=List.eq_nil_of_length_eq_zero (by simpa using hr.1)
  subst hn
  exact ⟨v,w,run_append_of_nil w t ty e i size ht hi v n xs hown.1 c,fin v w (by simpa using hown.1) (World.grownBy.refl w _) (.inl rfl)⟩
 ·have hcells:∀j u,news[j]? = some u→w.cell? (ad.add j)=some u:=by
   intro j u hu
   rcases Nat.eq_zero_or_pos m with h0 | h0
   ·subst h0
    have hn:news = []:=List.eq_nil_of_length_eq_zero (by simpa using hr.1)
    subst hn
    simp at hu
   ·obtain ⟨ad',h,hc⟩:=hr.2 h0
    injection h with h
    subst h
    exact hc j u hu
  obtain ⟨v',w',hrun,h2,h3,_,h5⟩:=run_append_own_at (P:=P) w 0 t ty e i z size bytes ht hi hz hsize hby hzs hsz v n xs hown.1 ad m c news hr.1 hcells h1 h63 hbytes (Nat.zero_le _)
  exact ⟨v',w',hrun,fin v' w' h2 h3 h5⟩
theorem wp_append_S {op:Oper} {a:Act} {K:Act→World→Prop} {Q:Exit→Act→World→Prop} {o:Nat→Nat} {c0:Nat} (s x:Operand) (t:TypeId)
 (ho:op.op = .call {callee := .builtin .append,args:=#[s,x],argTypes:=#[t,t]})
 (e:TypeId) (i:TypeInfo) (z:Value) (size bytes:Nat) (ht:P.underlying t=some (.slice e)) (hi:P.info? e=some i) (hz:i.zero=some z)
 (hsize:i.size=size) (hby:i.bytes=bytes) (hzs:z.cells.size=size) (hsz:0<size)
 (v:Value) (n:Nat) (xs:List Value) (hs:a.eval s=v) (hown:OwnS o c0 w e size v n xs)
 (A:Option Addr) (m c:Nat) (news:List Value) (hx:a.eval x = .slice A m c) (hr:Reads w size A m news) (h1:∀u∈news,u.oneCell'=true)
 (h63:n+m≤maxLen) (hbytes:(n+m)*bytes≤140737488355328)
 (h:∀v' w',OwnS (band o w.heap.size w'.heap.size c0) c0 w' e size v' (n+m) (xs++news)→Step o (only c0) w (band o w.heap.size w'.heap.size c0) w'→w.grownBy w' v.ownBlock→(v'.ownBlock=v.ownBlock∨v'.ownBlock=some w.heap.size)→K (a.put op.dst v') w'):op.wp P a w K Q:=by
 obtain ⟨v',w',hrun,h2,h3,h4,h5⟩:=run_append_S (P:=P) w t op.type e i z size bytes ht hi hz hsize hby hzs hsz v n xs hown A m c news hr h1 h63 hbytes
 unfold Oper.wp execOp
 simp only [ho,resolve,invoke,builtin,Sem.run_bind,Sem.run_pure,Result.andThen_ok,List.map_toArray,List.map_cons,List.map_nil,hs,hx,hrun]
 exact h v' w' h2 h3 h4 h5
theorem wpList_append_S {ops:Array Oper} {rest:List Oper} {op:Oper} {a:Act} {Q:Exit→Act→World→Prop} (hgd:op.guard=none) {o:Nat→Nat} {c0:Nat} (s x:Operand) (t:TypeId)
 (ho:op.op = .call {callee := .builtin .append,args:=#[s,x],argTypes:=#[t,t]})
 (e:TypeId) (i:TypeInfo) (z:Value) (size bytes:Nat) (ht:P.underlying t=some (.slice e)) (hi:P.info? e=some i) (hz:i.zero=some z)
 (hsize:i.size=size) (hby:i.bytes=bytes) (hzs:z.cells.size=size) (hsz:0<size)
 (v:Value) (n:Nat) (xs:List Value) (hs:a.eval s=v) (hown:OwnS o c0 w e size v n xs)
 (A:Option Addr) (m c:Nat) (news:List Value) (hx:a.eval x = .slice A m c) (hr:Reads w size A m news) (h1:∀u∈news,u.oneCell'=true)
 (h63:n+m≤maxLen) (hbytes:(n+m)*bytes≤140737488355328)
 (h:∀v' w',OwnS (band o w.heap.size w'.heap.size c0) c0 w' e size v' (n+m) (xs++news)→Step o (only c0) w (band o w.heap.size w'.heap.size c0) w'→w.grownBy w' v.ownBlock→(v'.ownBlock=v.ownBlock∨v'.ownBlock=some w.heap.size)→wpList P ops Q rest (a.put op.dst v') w'):wpList P ops Q (op :: rest) a w :=
 wpList_plain hgd fun _ hK=>wp_append_S w s x t ho e i z size bytes ht hi hz hsize hby hzs hsz v n xs hs hown A m c news hx hr h1 h63 hbytes fun v' w' h2 h3 h4 h5=>hK _ _ (h v' w' h2 h3 h4 h5)
theorem step_append_S {ops:Array Oper} {op:Oper} {a:Act} {K:Act→World→Prop} {Q:Exit→Act→World→Prop} {E:Prop} (hgd:op.guard=none) {o:Nat→Nat} {c0:Nat} (s x:Operand) (t:TypeId)
 (ho:op.op = .call {callee := .builtin .append,args:=#[s,x],argTypes:=#[t,t]})
 (e:TypeId) (i:TypeInfo) (z:Value) (size bytes:Nat) (ht:P.underlying t=some (.slice e)) (hi:P.info? e=some i) (hz:i.zero=some z)
 (hsize:i.size=size) (hby:i.bytes=bytes) (hzs:z.cells.size=size) (hsz:0<size)
 (v:Value) (n:Nat) (xs:List Value) (hs:a.eval s=v) (hown:OwnS o c0 w e size v n xs)
 (A:Option Addr) (m c:Nat) (news:List Value) (hx:a.eval x = .slice A m c) (hr:Reads w size A m news) (h1:∀u∈news,u.oneCell'=true)
 (h63:n+m≤maxLen) (hbytes:(n+m)*bytes≤140737488355328)
 (h:∀v' w',OwnS (band o w.heap.size w'.heap.size c0) c0 w' e size v' (n+m) (xs++news)→Step o (only c0) w (band o w.heap.size w'.heap.size c0) w'→w.grownBy w' v.ownBlock→(v'.ownBlock=v.ownBlock∨v'.ownBlock=some w.heap.size)→K (a.put op.dst v') w') :
 if Region.wanted op (yielded ops a.tmps)=true then Oper.wp P op a w K Q else E:=by
 have hw:Region.wanted op (yielded ops a.tmps)=true:=by simp [Region.wanted,hgd]
 rw [if_pos hw]
 exact wp_append_S w s x t ho e i z size bytes ht hi hz hsize hby hzs hsz v n xs hs hown A m c news hx hr h1 h63 hbytes h
end
end Go.Proofs.YtldoeodkeieejaaGreatDoor
namespace Go.Proofs.YtldoeodkeieejaaGreatDoor
open Go.ChangeShapes Go.WideShapes Go.ChangeAt Go.RowKit Go.Joins Go.Deep
theorem own_ : ownKnob Tryz.prog.godebug=none:=by kernel_rfl
theorem laidOut_ : laidOutB Tryz.prog=true:=by kernel_rfl
section
variable {H:Type} {enc:TypeId×Value→H} {P:Program}
theorem trodAll_stays (hl:laidOutB P=true) {W W':World} {sp:Nat→Bool}:∀(ts:List TypeId) (vs:List Value) (ds:List (DataW H)) (ps:List MemPlace),(∀t∈ts,P.readableRec t=true∧t<P.types.size) →
 DataW.TrodAll enc P W 0 (fun _=>true) true ts vs ds ps→(∀p∈ps,W.sameAt W' p)→(∀p∈ps,sp p.block=true)→DataW.TrodAll enc P W' 0 sp true ts vs ds ps
 | [],vs,ds,ps,_,h,_,_=>by
   obtain ⟨rfl,rfl,rfl⟩:=trodAll_nil h
   exact trodAll_mk0
 | t :: ts,vs,ds,ps,hr,h,hs,hsp=>by
   obtain ⟨v,vs',d,ds',p,q,rfl,rfl,rfl,h0,h1⟩:=trodAll_cons h
   have ht:=hr t (List.mem_cons_self ..)
   refine trodAll_cons_mk (WideElems.Trod_stays hl ht.1 ht.2 h0 (fun x hx=>hs x (List.mem_append_left _ hx)) (fun x hx=>hsp x (List.mem_append_left _ hx))) ?_
   exact trodAll_stays hl ts vs' ds' q (fun t' h'=>hr t' (List.mem_cons_of_mem _ h')) h1 (fun x hx=>hs x (List.mem_append_right _ hx)) (fun x hx=>hsp x (List.mem_append_right _ hx))
theorem post_of_below {f:Func} {s:ChangeSpec} {apart fresh handsOn again:Bool} {W W':World} {args:Array Value} {v:Value} {ds gs:List (DataW H)} {before pa pv:List MemPlace}
 (hW:DataW.Whole enc P f.params.toList s.vars apart W args.toList ds gs before)
 (hres:∀(b:Nat) (sp:Nat→Bool) (hd:Bool),DataW.TrodAll enc P W' b sp hd f.resultTypes.toList (v.resultList f.resultTypes.size) (s.fn H (ds++gs)).results [])
 (hargs:∀sp:Nat→Bool,(∀p∈before,sp p.block=true)→DataW.TrodAll enc P W' 0 sp true f.params.toList args.toList (s.fn H (ds++gs)).args pa)
 (hvars:∀sp:Nat→Bool,(∀p∈before,sp p.block=true)→DataW.TrodVars enc P W' sp s.vars (s.fn H (ds++gs)).vars pv)
 (hps:before=pa++pv) (hb:Below W.heap.size W W')
 (hok:∀(j:Nat) (t:TypeId) (r:Value),f.resultTypes[j]? = some t→(v.resultList f.resultTypes.size)[j]? = some r→Value.okWide P W' .any 0 t r) :
 s.post enc P f apart fresh handsOn again W args v W':=by
 have hlt:∀p∈before,p.block<W.heap.size:=fun p hp=>hW.lt p hp
 have hold:∀p∈before,(fun b=>decide (b<W.heap.size)) p.block=true:=fun p hp=>by simpa using hlt p hp
 refine ⟨ds,gs,before,[],pa,pv,hW,hres _ _ _,hargs _ hold,hvars _ hold,World.keptBut_mono (fun p hp=>⟨hp,?_⟩) (hb.frame (· ∈ before)),fun _ => ?_⟩
 ·rw [hps,List.mem_append] at hp
  exact Or.inr hp
 ·obtain ⟨_,_,_,_,_,hz,hn⟩:=hW
  refine ⟨hok,_,_,([]++pa)++pv,⟨[]++pa,pv,trodAll_append (hargs _ (fun _ _=>rfl)) (hres _ _ _),hvars _ (fun _ _=>rfl),rfl,?_,?_⟩,?_⟩
  ·intro b off hp
   have hin:MemPlace.cell b off∈before:=by rw [hps];simpa using hp
   rw [hb.frozen (hlt _ hin)]
   exact hz b off hin
  ·intro ha
   have:=hn ha
   rw [hps] at this
   simpa using this
  ·intro p hp _
   rw [hps]
   simpa using hp
end
end Go.Proofs.YtldoeodkeieejaaGreatDoor
namespace Go.Proofs.YtldoeodkeieejaaGreatDoor
open Go.ChangeShapes Go.WideShapes Go.ChangeAt Go.RowKit Go.Joins Go.Deep
def accCells : List Nat := [128,191,160,191,128,159,144,191,128,143,0,0,0,0,0,0,0,0,0,0,0,0,0,0,0,0,0,0,0,0,0,0]
def u8Cells (l:List Nat):Array Value:=(l.map fun n:Nat=>Value.int .u8 n).toArray
def layCells (cs:Array Value):Obj→Obj
 | .cells _ t frozen => .cells cs t frozen
 | o=>o
noncomputable def laidWorld (os:Os):World :=
 {World.holding Tryz.prog os ⟨#[],#[],[]⟩ with heap:=((World.holding Tryz.prog os ⟨#[],#[],[]⟩).heap.modify 1 (layCells (u8Cells Pinned.utf8FirstZ))).modify 2 (layCells (u8Cells accCells))}
set_option maxRecDepth 100000 in
theorem laid_met (os:Os) (args:Array Value):laidMet Tryz.prog [("unicode/utf8.acceptRanges",Rows.laid_unicode_utf8_acceptRanges),("unicode/utf8.first",Rows.laid_unicode_utf8_first)] ((laidWorld os).forCall (fun _ _=>0) ⟨#[],args,[]⟩).memory :=
 laidMet_of_run' 8 (by kernel_rfl) (by kernel_rfl)
theorem wf_i64_in {k:Int} (h:(Lit.int .i64 k).wf=true) : -9223372036854775808≤k∧k≤9223372036854775807:=by
 simp [Lit.wf,IntKind.min,IntKind.max,IntKind.signed,IntKind.bits] at h
 omega
theorem wf_u64_in {k:Int} (h:(Lit.int .u64 k).wf=true):0≤k∧k≤18446744073709551615:=by
 simp [Lit.wf,IntKind.min,IntKind.max,IntKind.signed,IntKind.bits] at h
 omega
end Go.Proofs.YtldoeodkeieejaaGreatDoor
namespace Go.Proofs.YtldoeodkeieejaaGreatDoor
open Go.ChangeShapes Go.WideShapes Go.ChangeAt Go.RowKit Go.Joins Go.Deep
inductive Leaf where
 | int (k:IntKind)
 | str
 | bool
 | slice (t:TypeId)
def leavesF (P:Program) (L:TypeId→Option (List Leaf)):List Field→List Leaf→Option (List Leaf)
 | [],acc=>some acc
 | f :: fs,acc=>if f.offset=acc.length then (match L f.type with
   | some l=>if l.length=P.cellsOf f.type then leavesF P L fs (acc++l) else none
   | none=>none) else none
def leaves (P:Program):Nat→TypeId→Option (List Leaf)
 | 0,_=>none
 | n+1,t=>match P.underlying t with
   | some (.int k)=>some [.int k]
   | some .string=>some [.str]
   | some .bool=>some [.bool]
   | some (.slice _)=>some [.slice t]
   | some (.struct fs)=>match leavesF P (leaves P n) fs.toList [] with
     | some l=>if l.length=P.cellsOf t then some l else none
     | none=>none
   | _=>none
section
variable {H:Type} (enc:TypeId×Value→H) (P:Program) (w:World) (base:Nat) (spare:Nat→Bool) (held:Bool)
def LeafOk : Leaf→Value→Prop
 | .int k,v=>∃a,v = .int k a∧(Lit.int k a).wf=true
 | .str,v=>∃s:ByteArray,v = .string s∧s.size≤maxLen
 | .bool,v=>∃b,v = .bool b
 | .slice t,v=>∃fuel x,DataW.trod enc P w base spare held fuel t [v]=some x
def LeavesOk (ls:List Leaf) (cs:List Value):Prop:=ls.length=cs.length∧∀(i:Nat) l c,ls[i]? = some l→cs[i]? = some c→LeafOk enc P w base spare held l c
end
section
variable {H:Type} {enc:TypeId×Value→H} {P:Program} {w:World} {base:Nat} {spare:Nat→Bool} {held:Bool}
theorem LeavesOk.cons {l:Leaf} {ls:List Leaf} {cs:List Value} (h:LeavesOk enc P w base spare held (l :: ls) cs):∃c cs',cs=c :: cs'∧LeafOk enc P w base spare held l c∧LeavesOk enc P w base spare held ls cs':=by
 obtain ⟨h1,h2⟩:=h
 cases cs with
 | nil=>simp at h1
 | cons c cs=>exact ⟨c,cs,rfl,h2 0 l c rfl rfl,by simpa using h1,fun i l' c' h3 h4=>h2 (i+1) l' c' (by simpa using h3) (by simpa using h4)⟩
theorem LeavesOk.nil {cs:List Value} (h:LeavesOk enc P w base spare held [] cs):cs = []:=List.eq_nil_of_length_eq_zero h.1.symm
theorem leavesF_ok {n:Nat} {L:TypeId→Option (List Leaf)} {cs:List Value} (hL:∀t ds x ls,DataW.trod enc P w base spare held n t ds=some x→L t=some ls→LeavesOk enc P w base spare held ls ds) :
 ∀(fs:List Field) (acc ls:List Leaf),(∀f∈fs,∃y,DataW.trod enc P w base spare held n f.type ((cs.drop f.offset).take (P.cellsOf f.type))=some y) →
  (∀(i:Nat) l c,acc[i]? = some l→cs[i]? = some c→LeafOk enc P w base spare held l c)→leavesF P L fs acc=some ls→∀(i:Nat) l c,ls[i]? = some l→cs[i]? = some c→LeafOk enc P w base spare held l c
 | [],acc,ls,_,ha,h=>by
   simp only [leavesF,Option.some.injEq] at h
   subst h
   exact ha
 | f :: fs,acc,ls,hf,ha,h=>by
   simp only [leavesF] at h
   split at h
   ·rename_i hoff
    split at h
    ·rename_i l hl
     split at h
     ·rename_i hk
      refine leavesF_ok hL fs (acc++l) ls (fun g hg=>hf g (List.mem_cons_of_mem _ hg)) ?_ h
      intro i lf c h1 h2
      by_cases hi:i<acc.length
      ·rw [List.getElem?_append_left hi] at h1
       exact ha i lf c h1 h2
      ·rw [List.getElem?_append_right (by omega)] at h1
       obtain ⟨y,hy⟩:=hf f (List.mem_cons_self ..)
       have hlt:=(List.getElem?_eq_some_iff.1 h1).1
       refine (hL _ _ _ _ hy hl).2 (i - acc.length) lf c h1 ?_
       rw [List.getElem?_take,if_pos (by omega),List.getElem?_drop,←h2]
       congr 1
       omega
     ·cases h
    ·cases h
   ·cases h
theorem leaves_ok : ∀(n:Nat) (t:TypeId) (fuel:Nat) (cs:List Value) (x:DataW H×List MemPlace) (ls:List Leaf),DataW.trod enc P w base spare held fuel t cs=some x→leaves P n t=some ls→LeavesOk enc P w base spare held ls cs
 | 0,_,_,_,_,_,_,h=>by cases h
 | n+1,t,fuel,cs,x,ls,hx,h=>by
   have one:∀ {l:Leaf} {c:Value},LeafOk enc P w base spare held l c→LeavesOk enc P w base spare held [l] [c]:=by
    intro l c hc
    refine ⟨rfl,fun i l' c' h1 h2 => ?_⟩
    cases i with
    | zero=>simp at h1 h2;subst h1 h2;exact hc
    | succ i=>simp at h1
   simp only [leaves] at h
   split at h
   ·rename_i k hu
    injection h with h
    subst h
    obtain ⟨a,rfl,_,hw⟩:=DataW.trod_int hu hx
    exact one ⟨a,rfl,hw⟩
   ·rename_i hu
    injection h with h
    subst h
    obtain ⟨s,rfl,_,hw⟩:=DataW.trod_string hu hx
    exact one ⟨s,rfl,hw⟩
   ·rename_i hu
    injection h with h
    subst h
    obtain ⟨b,rfl,_⟩:=DataW.trod_bool hu hx
    exact one ⟨b,rfl⟩
   ·rename_i e hu
    injection h with h
    subst h
    rcases open_slice hu hx with ⟨rfl,_⟩ | ⟨a,len,cap,m,k,D,Pl,rfl,_⟩
    ·exact one ⟨fuel,x,hx⟩
    ·exact one ⟨fuel,x,hx⟩
   ·rename_i fs hu
    obtain ⟨xs,k,rfl,_,hlen,hxl,hg⟩:=DataW.trod_struct hu hx
    split at h
    ·rename_i l hl
     split at h
     ·rename_i hc
      injection h with h
      subst h
      refine ⟨by rw [hc,hlen],leavesF_ok (n:=k) (fun t ds y ls' h1 h2=>leaves_ok n t k ds y ls' h1 h2) fs.toList [] l (fun f hf => ?_) (fun i l c h1=>by simp at h1) hl⟩
      obtain ⟨i,hi,rfl⟩:=List.mem_iff_getElem.1 hf
      have hi2:i<xs.length:=by rw [hxl];simpa using hi
      exact ⟨xs[i],(hg i _ (by simp at hi;simp [hi])).trans (List.getElem?_eq_getElem hi2)⟩
     ·cases h
    ·cases h
   ·cases h
theorem rows_get {s:Nat} {L:List (List Value)} (hs:∀r∈L,r.length=s) {j:Nat} {u:Value} (hs0:0<s) (h:L.flatten[j]? = some u):∃r,L[j / s]? = some r∧r[j % s]? = some u:=by
 induction L generalizing j with
 | nil=>simp at h
 | cons r L ih =>
   have hr:r.length=s:=hs r (List.mem_cons_self ..)
   rw [List.flatten_cons] at h
   by_cases hj:j<s
   ·rw [List.getElem?_append_left (by omega)] at h
    exact ⟨r,by rw [Nat.div_eq_of_lt hj];rfl,by rw [Nat.mod_eq_of_lt hj];exact h⟩
   ·rw [List.getElem?_append_right (by omega),hr] at h
    obtain ⟨r',h1,h2⟩:=ih (fun x hx=>hs x (List.mem_cons_of_mem _ hx)) h
    have e1:j / s=(j - s) / s+1:=by
     rw [←Nat.add_div_right _ hs0]
     congr 1
     omega
    have e2:j % s=(j - s) % s:=by
     rw [←Nat.add_mod_right (j - s) s]
     congr 1
     omega
    exact ⟨r',by rw [e1];simpa using h1,by rw [e2];exact h2⟩
theorem flatten_len {s:Nat} {L:List (List Value)} (hs:∀r∈L,r.length=s):L.flatten.length=L.length*s:=by
 induction L with
 | nil=>simp
 | cons r L ih=>rw [List.flatten_cons,List.length_append,ih (fun x hx=>hs x (List.mem_cons_of_mem _ hx)),hs r (List.mem_cons_self ..),List.length_cons,Nat.add_mul];omega
theorem open_rows {t e:TypeId} {n fuel:Nat} {ls:List Leaf} {A:Option Addr} {len cap:Nat} {x:DataW H×List MemPlace} (ht:P.underlying t=some (.slice e)) (hl:leaves P n e=some ls) (hc:P.cellsOf e=ls.length) (h0:0<ls.length)
 (h:DataW.trod enc P w base spare held fuel t [.slice A len cap]=some x) :
 ∃L:List (List Value),L.length=len∧Reads w ls.length A len L.flatten∧(∀r∈L,LeavesOk enc P w base spare held ls r)∧len≤cap∧cap≤maxLen:=by
 rcases open_slice ht h with ⟨hc,_⟩ | ⟨a,len',cap',m,k,D,Pl,hcs,_,hlc,hcm,hm,_,hi⟩
 ·simp only [List.cons.injEq,Value.slice.injEq,and_true] at hc
  obtain ⟨rfl,rfl,rfl⟩:=hc
  exact ⟨[],rfl,Reads.none_ _ _ _,by simp,Nat.le_refl _,Nat.zero_le _⟩
 ·simp only [List.cons.injEq,Value.slice.injEq,and_true] at hcs
  obtain ⟨rfl,rfl,rfl⟩:=hcs
  have hml:len≤m:=by rw [hm];split <;> omega
  have hall:∀i,∃r:List Value,i<len→LeavesOk enc P w base spare held ls r∧∀j u,r[j]? = some u→w.cell? (a.add (i*ls.length+j))=some u:=by
   intro i
   by_cases hil:i<len
   ·obtain ⟨cs',hcs,htr⟩:=hi i (by omega)
    have hok:=leaves_ok n e k cs' _ ls htr hl
    obtain ⟨_,hl4,hat⟩:=World.cells?_some hcs
    refine ⟨cs',fun _=>⟨hok,fun j u hu => ?_⟩⟩
    have hj:j<cs'.length:=(List.getElem?_eq_some_iff.1 hu).1
    have:=hat j (by rw [hc,hok.1];exact hj)
    rw [hc] at this
    rw [←add_of_add,this]
    exact hu
   ·exact ⟨[],fun h=>absurd h hil⟩
  let f:Nat→List Value:=fun i=>Classical.choose (hall i)
  have hf:∀i,i<len→LeavesOk enc P w base spare held ls (f i)∧∀j u,(f i)[j]? = some u→w.cell? (a.add (i*ls.length+j))=some u:=fun i=>Classical.choose_spec (hall i)
  have hrl:∀r∈(List.range len).map f,LeavesOk enc P w base spare held ls r:=by
   intro r hr
   obtain ⟨i,hi2,rfl⟩:=List.mem_map.1 hr
   exact (hf i (by simpa using hi2)).1
  have hrs:∀r∈(List.range len).map f,r.length=ls.length:=fun r hr=>(hrl r hr).1.symm
  refine ⟨(List.range len).map f,by simp,⟨by rw [flatten_len hrs];simp,fun _=>⟨a,rfl,fun j u hu => ?_⟩⟩,hrl,hlc,hcm⟩
  obtain ⟨r,h5,h6⟩:=rows_get hrs h0 hu
  rw [List.getElem?_map] at h5
  have hlt:j / ls.length<len:=by
   rcases Nat.lt_or_ge (j / ls.length) len with h7 | h7
   ·exact h7
   ·rw [List.getElem?_eq_none (by simpa using h7)] at h5;simp at h5
  rw [List.getElem?_range hlt] at h5
  simp only [Option.map_some,Option.some.injEq] at h5
  subst h5
  have:=(hf (j / ls.length) hlt).2 _ _ h6
  rwa [Nat.div_add_mod'] at this
theorem rows_list {α:Type} {f:α→List Value} {p:α→Prop}:∀(L:List (List Value)),(∀r∈L,∃y,r=f y∧p y)→∃l:List α,L.flatten=l.flatMap f∧L.length=l.length∧∀y∈l,p y
 | [],_=>⟨[],rfl,rfl,by simp⟩
 | r :: L,h=>by
   obtain ⟨y,rfl,hy⟩:=h r (List.mem_cons_self ..)
   obtain ⟨l,h1,h2,h3⟩:=rows_list L (fun x hx=>h x (List.mem_cons_of_mem _ hx))
   exact ⟨y :: l,by rw [List.flatten_cons,h1,List.flatMap_cons],by simp [h2],by
    intro z hz
    rcases List.mem_cons.1 hz with rfl | hz
    ·exact hy
    ·exact h3 z hz⟩
end
end Go.Proofs.YtldoeodkeieejaaGreatDoor
