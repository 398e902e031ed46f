import Derived.Test.YtohgabdmmbngbaaGreatDoorKImapP
import Derived.Test.YtohgabdmmbngbaaGreatDoorKWin
import Derived.Test.YtohgabdmmbngbaaGreatDoorKMsgA
import Derived.Lib.SliceRun
import Derived.Shelf.SlSortCmp.NoneTotal
namespace Go.Proofs.YtohgabdmmbngbaaGreatDoor
open Go.RowKit
def AtP (l:List Lk) (x v:Int):Prop:=∃p∈l,p.a≤x∧x<p.b∧p.m=v
section
variable {l m:List Lk} {p q:Lk} {s t:Sp} {v u x:Int}
theorem atp_nil : ¬AtP [] x v:=fun ⟨p,hp,_⟩=>by cases hp
theorem atp_append : AtP (l++m) x v↔AtP l x v∨AtP m x v:=by
 unfold AtP
 constructor
 ·rintro ⟨p,hp,h⟩
  rcases List.mem_append.1 hp with hp | hp
  ·exact .inl ⟨p,hp,h⟩
  ·exact .inr ⟨p,hp,h⟩
 ·rintro (⟨p,hp,h⟩ | ⟨p,hp,h⟩)
  ·exact ⟨p,List.mem_append_left _ hp,h⟩
  ·exact ⟨p,List.mem_append_right _ hp,h⟩
theorem atp_one : AtP [p] x v↔p.a≤x∧x<p.b∧p.m=v:=by
 unfold AtP
 constructor
 ·rintro ⟨q,hq,h⟩
  rw [List.mem_singleton.1 hq] at h
  exact h
 ·exact fun h=>⟨p,List.mem_singleton.2 rfl,h⟩
theorem atp_cons : AtP (p :: l) x v↔(p.a≤x∧x<p.b∧p.m=v)∨AtP l x v:=by
 have:=atp_append (l := [p]) (m:=l) (x:=x) (v:=v)
 rw [List.singleton_append,atp_one] at this
 exact this
theorem AtP.perm (hp:l.Perm m):AtP l x v↔AtP m x v:=by
 unfold AtP
 constructor
 ·rintro ⟨p,h,e⟩
  exact ⟨p,hp.mem_iff.1 h,e⟩
 ·rintro ⟨p,h,e⟩
  exact ⟨p,hp.mem_iff.2 h,e⟩
theorem atp_glue {out rest:List Lk} (h:WfP (out++p :: rest)):AtP (glue1 out p++rest) x v↔AtP (out++p :: rest) x v:=by
 unfold glue1
 cases hq:out.getLast? with
 | none =>
   simp only
   rw [List.append_assoc]
   exact Iff.rfl
 | some q =>
   simp only
   split
   ·rename_i he
    obtain ⟨out',rfl⟩:=List.getLast?_eq_some_iff.1 hq
    rw [List.dropLast_concat]
    have ho:0≤q.a∧q.a<q.b:=h.ok q (by simp)
    have hp:0≤p.a∧p.a<p.b:=h.ok p (by simp)
    rw [List.append_assoc,List.append_assoc,List.singleton_append,List.singleton_append,atp_append,atp_append,atp_cons,atp_cons,atp_cons]
    have e1:=he.1
    have e2:=he.2
    constructor
    ·rintro (h1 | h1 | h1)
     ·exact .inl h1
     ·have h1:q.a≤x∧x<p.b∧q.m=v:=h1
      by_cases hx:x<q.b
      ·exact .inr (.inl ⟨h1.1,hx,h1.2.2⟩)
      ·exact .inr (.inr (.inl ⟨by omega,h1.2.1,by omega⟩))
     ·exact .inr (.inr (.inr h1))
    ·rintro (h1 | h1 | h1 | h1)
     ·exact .inl h1
     ·exact .inr (.inl ⟨h1.1,by show x<p.b;omega,h1.2.2⟩)
     ·exact .inr (.inl ⟨by show q.a≤x;omega,h1.2.1,by show q.m=v;omega⟩)
     ·exact .inr (.inr h1)
   ·rw [List.append_assoc]
    exact Iff.rfl
theorem atp_glueGo : ∀(rest out:List Lk),WfP (out++rest)→(AtP (rest.foldl glue1 out) x v↔AtP (out++rest) x v)
 | [],out,_=>by rw [List.append_nil];exact Iff.rfl
 | p :: rest,out,h=>(atp_glueGo rest _ (glue_wf h)).trans (atp_glue h)
theorem atp_lay (h:Apart l):AtP (layL l) x v↔AtP l x v :=
 (atp_glueGo (sortP l) [] (by simpa using h.sort)).trans (by rw [List.nil_append];exact AtP.perm (sort_perm l))
theorem minus_at (hp:p.sp.ok) (hs:s.ok):(∃y∈minus1 p.sp s,y.a≤x∧x<y.b)↔(p.a≤x∧x<p.b)∧¬(s.a≤x∧x<s.b):=by
 have hp':0≤p.a∧p.a<p.b:=hp
 have hs':0≤s.a∧s.a<s.b:=hs
 constructor
 ·rintro ⟨y,hy,h⟩
  obtain ⟨_,a,b,c⟩:=minus_mem hp hs hy
  omega
 ·rintro ⟨h1,h2⟩
  unfold minus1
  split
  ·exact ⟨p.sp,List.mem_singleton.2 rfl,h1⟩
  ·by_cases hx:x<s.a
   ·refine ⟨⟨p.a,s.a⟩,List.mem_filter.2 ⟨by simp [Lk.sp],decide_eq_true ?_⟩,h1.1,hx⟩
    show 0≤p.a∧p.a<s.a
    omega
   ·refine ⟨⟨s.b,p.b⟩,List.mem_filter.2 ⟨by simp [Lk.sp],decide_eq_true ?_⟩,?_,h1.2⟩
    ·show 0≤s.b∧s.b<p.b
     omega
    ·show s.b≤x
     omega
theorem atp_without (h:WfP l) (hs:s.ok):AtP (withoutL l s) x v↔AtP l x v∧¬(s.a≤x∧x<s.b):=by
 unfold AtP withoutL
 constructor
 ·rintro ⟨y,hy,h1⟩
  obtain ⟨p,hp,hy⟩:=List.mem_flatMap.1 hy
  obtain ⟨z,hz,rfl⟩:=List.mem_map.1 hy
  obtain ⟨a,b⟩:=(minus_at (h.ok p hp) hs).1 ⟨z,hz,h1.1,h1.2.1⟩
  exact ⟨⟨p,hp,a.1,a.2,h1.2.2⟩,b⟩
 ·rintro ⟨⟨p,hp,a,b,c⟩,h2⟩
  obtain ⟨z,hz,h3⟩:=(minus_at (h.ok p hp) hs).2 ⟨⟨a,b⟩,h2⟩
  exact ⟨⟨z.a,z.b,p.m⟩,List.mem_flatMap.2 ⟨p,hp,List.mem_map.2 ⟨z,hz,rfl⟩⟩,h3.1,h3.2,c⟩
theorem atp_set (h:WfP l) (hs:s.ok):AtP (setL l s u) x v↔(s.a≤x∧x<s.b∧u=v)∨(AtP l x v∧¬(s.a≤x∧x<s.b)):=by
 unfold setL
 rw [atp_lay (Apart.more h hs u),atp_append,atp_one,atp_without h hs]
 exact Or.comm
theorem atp_clear (h:WfP l) (hs:s.ok):AtP (clearL l s) x v↔AtP l x v∧¬(s.a≤x∧x<s.b):=by
 unfold clearL
 rw [atp_lay (h.without hs).apart,atp_without h hs]
theorem parts_mem {y:Lk} (hy:y∈partsL l s):∃p∈l,s.ok∧p.sp.ok∧y.m=p.m∧y.a=max p.a s.a∧y.b=min p.b s.b∧y.a<y.b:=by
 unfold partsL at hy
 obtain ⟨p,hp,he⟩:=List.mem_filterMap.1 hy
 split at he
 ·rename_i hm
  obtain ⟨a,b,c,d⟩:=meet_yes hm
  injection he with he
  rw [d] at he
  subst he
  exact ⟨p,hp,b,a,rfl,rfl,rfl,c⟩
 ·cases he
theorem WfP.parts (h:WfP l):WfP (partsL l s):=by
 refine ⟨fun y hy => ?_,?_⟩
 ·obtain ⟨p,_,h1,h2,_,e2,e3,h3⟩:=parts_mem hy
  have h1:0≤s.a∧s.a<s.b:=h1
  have h2:0≤p.a∧p.a<p.b:=h2
  show 0≤y.a∧y.a<y.b
  omega
 ·unfold partsL
  rw [List.pairwise_filterMap]
  refine h.rise.imp ?_
  intro p q hpq y hy z hz
  split at hy
  ·rename_i hm
   split at hz
   ·rename_i hm2
    obtain ⟨_,_,_,d1⟩:=meet_yes hm
    obtain ⟨_,_,_,d2⟩:=meet_yes hm2
    injection hy with hy
    injection hz with hz
    subst hy hz
    rw [d1,d2]
    show min p.b s.b≤max q.a s.a
    omega
   ·cases hz
  ·cases hy
end
section
variable {o:Nat→Nat} {c:Nat} {w:World} {e:TypeId} {size n g cap:Nat} {xs:List Value}
theorem OwnS.setRow (h:OwnS o c w e size (.slice (some ⟨g,0,none⟩) n cap) n xs) {k:Nat} (hk:k<n) {vals:List Value} (hv:vals.length=size) :
 OwnS o c (w.setCells g (k*size) vals) e size (.slice (some ⟨g,0,none⟩) n cap) n (xs.take (k*size)++vals++xs.drop ((k+1)*size)):=by
 have hkn:(k+1)*size≤n*size:=Nat.mul_le_mul_right _ hk
 have hk1:(k+1)*size=k*size+size:=by rw [Nat.add_mul,Nat.one_mul]
 obtain ⟨g',cur,hg',hb,hc,h1,h2,h3,h4⟩:=h.blk (by omega)
 injection hg' with hg'
 injection hg' with hg'
 subst hg'
 have hxl:=h.1.1
 obtain ⟨cs',b1,b2,b3⟩:=Blk.cells_ vals (k*size) w cur hb
 have hns:n*size≤cap*size:=Nat.mul_le_mul_right _ h1
 refine OwnS.of_blk b1 hc h1 h2 (by omega) ?_
 apply List.ext_getElem?
 intro j
 rw [List.getElem?_take]
 simp only [Array.getElem?_toList,b3]
 by_cases hj:j<n*size
 ·rw [if_pos hj]
  have hxs:∀j',j'<n*size→cur[j']? = xs[j']? := by
   intro j' hj'
   rw [←h4,List.getElem?_take,if_pos hj',Array.getElem?_toList]
  by_cases h5:j<k*size
  ·rw [if_neg (by omega),hxs j hj,List.append_assoc,List.getElem?_append_left (by simp;omega),List.getElem?_take,if_pos h5]
  ·by_cases h6:j<(k+1)*size
   ·rw [if_pos (by omega),List.getElem?_append_left (by simp;omega),List.getElem?_append_right (by simp;omega)]
    congr 1
    simp
    omega
   ·rw [if_neg (by omega),hxs j hj,List.getElem?_append_right (by simp;omega),List.getElem?_drop]
    congr 1
    simp
    omega
 ·rw [if_neg hj,List.getElem?_eq_none]
  simp
  omega
theorem flatS_len {α:Type} {f:α→List Value} (hf:∀x,(f x).length=size) (l:List α):(l.flatMap f).length=l.length*size:=by
 induction l with
 | nil=>simp
 | cons a l ih=>rw [List.flatMap_cons,List.length_append,hf,ih,List.length_cons,Nat.add_mul,Nat.one_mul,Nat.add_comm]
theorem flatS_take {α:Type} {f:α→List Value} (hf:∀x,(f x).length=size):∀(l:List α) (k:Nat),(l.flatMap f).take (k*size)=(l.take k).flatMap f
 | _,0=>by simp
 | [],k+1=>by simp
 | a :: l,k+1=>by
   rw [List.flatMap_cons,List.take_succ_cons,List.flatMap_cons,←flatS_take hf l k,Nat.add_mul,Nat.one_mul,Nat.add_comm (k*size),List.take_append,hf,Nat.add_sub_cancel_left,List.take_of_length_le (by rw [hf];omega)]
theorem flatS_drop {α:Type} {f:α→List Value} (hf:∀x,(f x).length=size):∀(l:List α) (k:Nat),(l.flatMap f).drop (k*size)=(l.drop k).flatMap f
 | _,0=>by simp
 | [],k+1=>by simp
 | a :: l,k+1=>by
   rw [List.flatMap_cons,List.drop_succ_cons,←flatS_drop hf l k,Nat.add_mul,Nat.one_mul,Nat.add_comm (k*size),List.drop_append,hf,Nat.add_sub_cancel_left,List.drop_of_length_le (by rw [hf];omega),List.nil_append]
theorem flatS_set {α:Type} {f:α→List Value} (hf:∀x,(f x).length=size) {l:List α} {k:Nat} (hk:k<l.length) (v:α) :
 (l.flatMap f).take (k*size)++f v++(l.flatMap f).drop ((k+1)*size)=(l.set k v).flatMap f:=by
 rw [flatS_take hf,flatS_drop hf,List.set_eq_take_append_cons_drop,if_pos hk,List.flatMap_append,List.flatMap_cons,List.append_assoc]
theorem OwnS.setAt {α:Type} {f:α→List Value} {l:List α} (h:OwnS o c w e size (.slice (some ⟨g,0,none⟩) n cap) n (l.flatMap f)) (hf:∀x,(f x).length=size) (hn:l.length=n) {k:Nat} (hk:k<n) (v:α) :
 OwnS o c (w.setCells g (k*size) (f v)) e size (.slice (some ⟨g,0,none⟩) n cap) n ((l.set k v).flatMap f):=by
 have h1:=h.setRow hk (hf v)
 rw [flatS_set hf (by omega) v] at h1
 exact h1
theorem OwnS.put1 (h:OwnS o c w e size (.slice (some ⟨g,0,none⟩) n cap) n xs) {j:Nat} (hj:j<n*size) (u:Value) :
 OwnS o c (w.setCell ⟨g,j,none⟩ u) e size (.slice (some ⟨g,0,none⟩) n cap) n (xs.set j u):=by
 have hn:0<n:=by
  rcases Nat.eq_zero_or_pos n with h0 | h0
  ·subst h0
   simp at hj
  ·exact h0
 obtain ⟨g',cur,hg',hb,hc,h1,h2,h3,h4⟩:=h.blk hn
 injection hg' with hg'
 injection hg' with hg'
 subst hg'
 refine OwnS.of_blk (hb.set_ j u) hc h1 h2 (by simpa using h3) ?_
 rw [←h4,Array.toList_setIfInBounds,List.take_set]
theorem setCells_step {p:Nat} {vs:List Value} {i:Nat} (hp:o p=c):Step o (only c) w o (w.setCells p i vs):=by
 obtain ⟨s1,s2,s3,s4⟩:=setCells_same p vs i w
 exact ⟨s1,s2,s3,by omega,fun _ _=>rfl,fun _ _=>rfl,fun k hk hne=>setCells_far (fun e=>hne (by rw [e];exact hp)) _ _ _⟩
variable {P:Program}
theorem run_clear_rows {A:Option Addr} (h:OwnS o c w e size (.slice A n cap) n xs) (t:TypeId) (z:Value) (ht:P.underlying t=some (.slice e)) (hv:∀w,(zeroValue e).run P w = .ok z w) (hz:z.cells.size=size) (h1:∀v∈z.cells.toList,v.oneCell'=true)
 {k:Nat} (hk:k<n) (hs:0<size) (c2:Nat) :
 ∃w',(∀g ty,A=some ⟨g,0,none⟩→(Builtin.clear_ #[t] ty #[.slice (some ⟨g,k*size,none⟩) (n - k) c2]).run P w = .ok (.tuple #[]) w')∧OwnS o c w' e size (.slice A k cap) k (xs.take (k*size))∧Step o (only c) w o w':=by
 obtain ⟨g,cur,rfl,hb,hc,h2,h3,h4,h5⟩:=h.blk (by omega)
 have hm:k*size+(n - k)*size≤cap*size:=by
  rw [←Nat.add_mul]
  exact Nat.mul_le_mul_right _ (by omega)
 have hlen:(Builtin.zeroCells z.cells (n - k)).toList.length=(n - k)*size:=by
  simp [Builtin.zeroCells,hz]
 have hone:∀v∈(Builtin.zeroCells z.cells (n - k)).toList,v.oneCell'=true:=by
  intro v hv
  simp only [Builtin.zeroCells,Array.mem_toList_iff,Array.mem_map,Array.mem_range] at hv
  obtain ⟨i,_,rfl⟩:=hv
  have hi:i % z.cells.size<z.cells.size:=Nat.mod_lt _ (by omega)
  refine h1 _ ?_
  rw [getElem!_pos z.cells _ hi]
  exact Array.mem_toList_iff.2 (Array.getElem_mem hi)
 have hst:=run_storeCells_cells (P:=P) g (k*size) (Builtin.zeroCells z.cells (n - k)).toList 0 w (by
  intro j hj
  rw [hb.cell,Nat.add_zero,Array.getElem?_eq_getElem (by omega)]
  rfl) (fun j _=>hb.frozen _) hone
 refine ⟨w.setCells g (k*size) (Builtin.zeroCells z.cells (n - k)).toList,?_,?_,setCells_step (p:=g) hc⟩
 ·intro g' ty e
  injection e with e
  injection e with e
  subst e
  obtain ⟨m,hm2⟩:∃m,n - k=m+1:=⟨n - k - 1,by omega⟩
  rw [hm2] at hst ⊢
  simp [Builtin.clear_,run_underlying ht,hv,hst]
 ·obtain ⟨cs',b1,b2,b3⟩:=Blk.cells_ (Builtin.zeroCells z.cells (n - k)).toList (k*size) w cur hb
  refine OwnS.of_blk b1 hc (by omega) h3 (by omega) ?_
  have hkn:k*size≤n*size:=Nat.mul_le_mul_right _ (by omega)
  rw [←h5,List.take_take,Nat.min_eq_left hkn]
  apply List.ext_getElem?
  intro j
  rw [List.getElem?_take,List.getElem?_take]
  by_cases hj:j<k*size
  ·rw [if_pos hj,if_pos hj,Array.getElem?_toList,Array.getElem?_toList,b3,if_neg (by omega)]
  ·rw [if_neg hj,if_neg hj]
end
section
variable {o oL:Nat→Nat} {c d size n B:Nat} {w w':World} {e:TypeId} {v:Value} {xs:List Value}
theorem own_new (he:Env oL w w') (h:OwnS oL d w' e size v n xs) (hd:d≠0):w'.ownsRow w.heap.size e size v n xs:=by
 obtain ⟨⟨h1,h2⟩,h3⟩:=h
 refine ⟨h1,?_⟩
 rcases h2 with h2 | ⟨g,cap,cur,rfl,_,hrest⟩
 ·exact .inl h2
 ·refine .inr ⟨g,cap,cur,rfl,?_,hrest⟩
  rcases Nat.lt_or_ge g w.heap.size with hlt | hge
  ·exact absurd ((h3 g rfl).symm.trans (he.old g hlt)) hd
  ·exact hge
theorem own_fut (h:w'.ownsRow w.heap.size e size v n xs) (hf:Fut o w):OwnS o 0 w' e size v n xs:=by
 obtain ⟨h1,h2⟩:=h
 rcases h2 with ⟨rfl,rfl⟩ | ⟨g,cap,cur,rfl,hb,hrest⟩
 ·exact ⟨⟨h1, .inl ⟨rfl,rfl⟩⟩,fun g hg=>by simp [Value.ownBlock] at hg⟩
 ·exact ⟨⟨h1, .inr ⟨g,cap,cur,rfl,Nat.zero_le _,hrest⟩⟩,fun g' hg=>by
   simp [Value.ownBlock] at hg
   subst hg
   exact hf _ hb⟩
theorem own_bandR (h:w'.ownsRow w.heap.size e size v n xs):OwnS (band o w.heap.size w'.heap.size c) c w' e size v n xs:=by
 obtain ⟨h1,h2⟩:=h
 rcases h2 with ⟨rfl,rfl⟩ | ⟨g,cap,cur,rfl,hb,hg,hrest⟩
 ·exact ⟨⟨h1, .inl ⟨rfl,rfl⟩⟩,fun g hg=>by simp [Value.ownBlock] at hg⟩
 ·exact ⟨⟨h1, .inr ⟨g,cap,cur,rfl,Nat.zero_le _,hg,hrest⟩⟩,fun g' hg'=>by
   simp [Value.ownBlock] at hg'
   subst hg'
   exact band_in hb (Array.getElem?_eq_some_iff.1 hg).1⟩
theorem ownsRow_below {B:Nat} (h:w.ownsRow B e size v n xs) (hb:Below w.heap.size w w'):w'.ownsRow B e size v n xs:=by
 obtain ⟨h1,h2⟩:=h
 refine ⟨h1,?_⟩
 rcases h2 with h2 | ⟨g,cap,cur,rfl,hB,hg,hrest⟩
 ·exact .inl h2
 ·exact .inr ⟨g,cap,cur,rfl,hB,(hb.block g (Array.getElem?_eq_some_iff.1 hg).1).trans hg,hrest⟩
theorem ownsRow_less {B B':Nat} (h:w.ownsRow B e size v n xs) (hb:B'≤B):w.ownsRow B' e size v n xs:=by
 obtain ⟨h1,h2⟩:=h
 refine ⟨h1,?_⟩
 rcases h2 with h2 | ⟨g,cap,cur,rfl,hB,hrest⟩
 ·exact .inl h2
 ·exact .inr ⟨g,cap,cur,rfl,by omega,hrest⟩
theorem ownsRow_form {B:Nat} (h:w.ownsRow B e size v n xs):∃A cap,v = .slice A n cap∧n≤cap∧cap≤maxLen:=by
 rcases h.2 with ⟨rfl,rfl⟩ | ⟨g,cap,cur,rfl,_,_,h1,h2,_⟩
 ·exact ⟨none,0,rfl,Nat.le_refl _,Nat.zero_le _⟩
 ·exact ⟨_,_,rfl,h1,h2⟩
end
theorem Reads.low {w w':World} {size n:Nat} {A:Option Addr} {xs:List Value} (h:Reads w size A n xs) (hs:0<size) (hb:Below w.heap.size w w'):Reads w' size A n xs:=by
 rcases Nat.eq_zero_or_pos n with h0 | h0
 ·subst h0
  exact ⟨h.1,fun hn=>absurd hn (by omega)⟩
 ·exact h.keep_ (fun ad e=>hb.block _ (h.lt hs ad h0 e))
theorem Step.less {o o':Nat→Nat} {C D:Nat→Prop} {w w':World} (h:Step o C w o' w') (hd:∀k,k<w.heap.size→C (o k)→D (o k)):Step o D w o' w' :=
 ⟨h.os,h.tape,h.output,h.size,h.old,h.fut,fun k hk hc=>h.block k hk (fun e=>hc (hd k hk e))⟩
theorem fresh_colour (o:Nat→Nat) (w:World) (N:Nat):∃d,N≤d∧∀k,k<w.heap.size→o k<d:=by
 have:∀n,∃d,N≤d∧∀k,k<n→o k<d:=by
  intro n
  induction n with
  | zero=>exact ⟨N,Nat.le_refl _,fun k hk=>by omega⟩
  | succ n ih =>
    obtain ⟨d,h1,h2⟩:=ih
    refine ⟨d+o n+1,by omega,fun k hk => ?_⟩
    by_cases hkn:k=n
    ·subst hkn
     omega
    ·have:=h2 k (by omega)
     omega
 exact this _
end Go.Proofs.YtohgabdmmbngbaaGreatDoor
namespace Go.Proofs.YtohgabdmmbngbaaGreatDoor
section
variable {α:Type} {q:α→Bool} {l M:List α} {i j:Nat} {s v:α}
def idxI (q:α→Bool) (l:List α):Int:=match l.findIdx? q with
 | some i=>(i:Int)
 | none => -1
theorem flatS_at {f:α→List Value} {size:Nat} (hf:∀x,(f x).length=size) (hs:l[i]? = some s) {k:Nat} {u:Value} (hk:(f s)[k]? = some u):(l.flatMap f)[i*size+k]? = some u:=by
 have h1:=flatS_take hf l i
 have h2:=flatS_drop hf l i
 have h3:((l.flatMap f).drop (i*size))[k]? = some u:=by
  rw [h2]
  have:l.drop i=s :: l.drop (i+1):=by
   obtain ⟨hi,rfl⟩:=List.getElem?_eq_some_iff.1 hs
   exact List.drop_eq_getElem_cons hi
  rw [this,List.flatMap_cons,List.getElem?_append_left (List.getElem?_eq_some_iff.1 hk).1]
  exact hk
 rw [List.getElem?_drop] at h3
 exact h3
theorem take_no (h:∀x∈l.take i,q x=false) (hs:l[i]? = some s) (hq:q s=false):∀x∈l.take (i+1),q x=false:=by
 intro x hx
 rw [List.take_add_one,hs] at hx
 rcases List.mem_append.1 hx with hx | hx
 ·exact h x hx
 ·simp at hx
  rw [hx]
  exact hq
theorem idxI_at (h:∀x∈l.take i,q x=false) (hs:l[i]? = some s) (hq:q s=true):idxI q l=(i:Int):=by
 obtain ⟨hi,rfl⟩:=List.getElem?_eq_some_iff.1 hs
 have:l.findIdx? q=some i:=List.findIdx?_eq_some_iff_getElem.2 ⟨hi,hq,fun j hj=>by
  have h2:=h (l[j]) (List.mem_iff_getElem?.2 ⟨j,by rw [List.getElem?_take,if_pos hj];exact List.getElem?_eq_getElem (by omega)⟩)
  rw [h2]
  exact Bool.false_ne_true⟩
 unfold idxI
 rw [this]
theorem idxI_no (h:∀x∈l,q x=false):idxI q l = -1:=by
 have:l.findIdx? q=none:=List.findIdx?_eq_none_iff.2 h
 unfold idxI
 rw [this]
theorem idx_cases (q:α→Bool) (l:List α):(idxI q l = -1∧∀x∈l,q x=false)∨∃i:Nat,idxI q l=(i:Int)∧i<l.length∧l.take i=(l.take (i+1)).filter (fun x => !q x)∧(l.filter (fun x => !q x)).length<l.length:=by
 cases h:l.findIdx? q with
 | none =>
   left
   unfold idxI
   rw [h]
   exact ⟨rfl,List.findIdx?_eq_none_iff.1 h⟩
 | some i =>
   right
   obtain ⟨hi,hq,hn⟩:=List.findIdx?_eq_some_iff_getElem.1 h
   have h1:(l.take i).filter (fun x => !q x)=l.take i:=List.filter_eq_self.2 fun x hx=>by
    obtain ⟨j,hj⟩:=List.mem_iff_getElem?.1 hx
    rw [List.getElem?_take] at hj
    split at hj
    ·rename_i hji
     obtain ⟨hjl,rfl⟩:=List.getElem?_eq_some_iff.1 hj
     simpa using hn j hji
    ·cases hj
   refine ⟨i,by unfold idxI;rw [h],hi,?_,?_⟩
   ·rw [List.take_add_one,List.getElem?_eq_getElem hi,List.filter_append,h1]
    simp [hq]
   ·have h2:l=l.take i++l[i] :: l.drop (i+1):=by
     rw [←List.drop_eq_getElem_cons hi,List.take_append_drop]
    have h3:(l.filter (fun x => !q x)).length≤(l.take i).length+(l.drop (i+1)).length:=by
     conv=>lhs;rw [h2]
     rw [List.filter_append,List.length_append,List.filter_cons,if_neg (by simp [hq])]
     exact Nat.add_le_add (List.length_filter_le _ _) (List.length_filter_le _ _)
    rw [List.length_take,List.length_drop] at h3
    omega
theorem filter_all_no (h:∀x∈l,q x=false):l.filter (fun x => !q x)=l:=List.filter_eq_self.2 fun x hx=>by rw [h x hx];rfl
theorem drop_get (h:M.drop j=l.drop j) (hs:l[j]? = some s):M[j]? = some s:=by
 have h1:(M.drop j)[0]? = (l.drop j)[0]? := by rw [h]
 rw [List.getElem?_drop,List.getElem?_drop,Nat.add_zero] at h1
 rw [h1,hs]
theorem drop_next (h:M.drop j=l.drop j):M.drop (j+1)=l.drop (j+1):=by
 rw [←List.drop_drop,←List.drop_drop,h]
theorem filter_skip (h:M.take i=(l.take j).filter (fun x => !q x)) (hs:l[j]? = some s) (hq:q s=true):M.take i=(l.take (j+1)).filter (fun x => !q x):=by
 rw [List.take_add_one,hs,List.filter_append,←h]
 simp [hq]
theorem filter_take (h:M.take i=(l.take j).filter (fun x => !q x)) (hs:l[j]? = some v) (hq:q v=false) (hij:i<j) (hj:j<l.length) (hM:M.length=l.length):(M.set i v).take (i+1)=(l.take (j+1)).filter (fun x => !q x):=by
 rw [List.take_add_one (l:=l),hs,List.filter_append,←h,List.take_add_one,List.getElem?_set_self (by omega),List.take_set_of_le (Nat.le_refl _)]
 simp [hq]
theorem drop_setM (h:M.drop j=l.drop j) (hij:i<j):(M.set i v).drop (j+1)=l.drop (j+1):=by
 rw [List.drop_set_of_lt (by omega)]
 exact drop_next h
theorem take_all (h:M.take i=(l.take j).filter (fun x => !q x)) (hj:l.length≤j) (hi:i≤M.length):M.take i=l.filter (fun x => !q x)∧(l.filter (fun x => !q x)).length=i:=by
 rw [List.take_of_length_le hj] at h
 refine ⟨h,?_⟩
 rw [←h,List.length_take]
 omega
end
end Go.Proofs.YtohgabdmmbngbaaGreatDoor
namespace Go.Proofs.YtohgabdmmbngbaaGreatDoor
open Go.RowKit
structure Wq where
 id:Int
 node:Int
 l:Lk
def Wq.cells (s:Wq):List Value := [.int .i64 s.id, .int .i64 s.node, .int .i64 s.l.a, .int .i64 s.l.b, .int .i64 s.l.m]
def wqcells (l:List Wq):List Value:=l.flatMap Wq.cells
def raiseL (L:List Lk) (l:Lk):List Lk:=(partsL L l.sp).foldl (fun M p=>setL M p.sp (max p.m l.m)) (setL L l.sp l.m)
def askedL (l:List Lk):List Lk:=l.foldl (fun M x=>if x.m=1∨x.m=2 then raiseL M x else M) []
def covB (a b:Int):Bool:=decide ((0≤a∧a≤2)∧(0≤b∧b≤2)∧b≤a)
def needs1 (H:List Lk) (M:List Lk) (x:Lk):List Lk:=(partsL H x.sp).foldl (fun M p=>if covB p.m x.m=true then clearL M p.sp else M) M
def needsL (H l:List Lk):List Lk:=(askedL l).foldl (needs1 H) (askedL l)
structure Tb where
 nodes:Nat
 held:Nat→List Lk
 waits:List Wq
 last:Int
def Tb.zero (n:Nat):Tb:=⟨n,fun _ => [],[],0⟩
def Tb.is (T:Tb) (node:Int):Prop:=1≤node∧node≤T.nodes
instance (T:Tb) (node:Int):Decidable (T.is node):=by unfold Tb.is;infer_instance
def Tb.hold (T:Tb) (node:Nat) (L:List Lk):Tb := {T with held:=fun k=>if k=node then L else T.held k}
def rightB (l:Lk):Bool:=decide (l.sp.ok∧l.b≤4096∧(l.m=1∨l.m=2))
def hindH (l:Lk) (first:Int) (L:List Lk):Int:=(partsL L l.sp).foldl (fun f p=>if fitB p.m l.m=true then f else min f p.a) first
def Tb.hind1 (T:Tb) (node:Int) (l:Lk):Nat→Int
 | 0=>l.b
 | k+1=>if ((k+1:Nat):Int)=node then T.hind1 node l k else hindH l (T.hind1 node l k) (T.held (k+1))
def hindW (node:Int) (l:Lk) (f:Int) (w:Wq):Int:=if (meetR w.l.sp l.sp).2=true∧w.node≠node∧fitB w.l.m l.m=false then min f (meetR w.l.sp l.sp).1.a else f
def Tb.hinders (T:Tb) (node:Int) (l:Lk) (ahead:List Wq):Int:=ahead.foldl (hindW node l) (T.hind1 node l T.nodes)
def claimW (w:Wq) (x:Int):Wq := {w with l:=⟨w.l.a,x+1,w.l.m⟩}
def Tb.claim1 (T:Tb) (out:List Wq) (w:Wq):List Wq:=if T.hinders w.node w.l out<w.l.b then out ++ [claimW w (T.hinders w.node w.l out)] else out
def Tb.claims (T:Tb):List Wq:=T.waits.foldl T.claim1 []
def Tb.free (T:Tb) (node:Int) (l:Lk):Prop:=¬T.hinders node l T.claims<l.b
instance (T:Tb) (node:Int) (l:Lk):Decidable (T.free node l):=by unfold Tb.free;infer_instance
def shareB (q:Lk):Bool:=decide (q.m=1)
def Tb.dead2 (T:Tb) (node:Int) (w:Wq) (p:Lk):Bool:=(meetR p.sp w.l.sp).2 && decide (p.m=1) && (partsL (T.held node.toNat) (meetR p.sp w.l.sp).1).any shareB
def Tb.dead1 (T:Tb) (node:Int) (l:Lk) (w:Wq):Bool:=decide (w.node≠node) && decide (w.l.m=2) && (partsL (T.held w.node.toNat) l.sp).any (T.dead2 node w)
def Tb.dead (T:Tb) (node:Int) (l:Lk):Bool:=decide (l.m=2) && T.waits.any (T.dead1 node l)
def Tb.raise (T:Tb) (node:Nat) (l:Lk):Tb:=T.hold node (raiseL (T.held node) l)
def Tb.ask (T:Tb) (node:Int) (l:Lk):(Int×Bool×Int)×Tb :=
 if ¬(T.is node∧rightB l=true) then ((0,false,1),T)
 else if needsL (T.held node.toNat) [l] = [] then ((0,true,0),T)
 else if T.free node l then ((0,true,0),T.raise node.toNat l)
 else if T.dead node l=true then ((0,false,33),T)
 else if 1000≤T.waits.length then ((0,false,10),T)
 else ((T.last+1,false,0),{T with waits:=T.waits ++ [⟨T.last+1,node,l⟩],last:=T.last+1})
structure Gr where
 out:List Wq
 left:List Wq
 claims:List Wq
 T:Tb
def Gr.step (G:Gr) (w:Wq):Gr :=
 if G.T.hinders w.node w.l G.claims<w.l.b then {G with left:=G.left ++ [w],claims:=G.claims ++ [claimW w (G.T.hinders w.node w.l G.claims)]}
 else {G with out:=G.out ++ [w],T:=G.T.raise w.node.toNat w.l}
def Tb.grantG (T:Tb):Gr:=T.waits.foldl Gr.step ⟨[],[],[],T⟩
def Tb.grant (T:Tb):List Wq×Tb:=(T.grantG.out,{T.grantG.T with waits:=T.grantG.left})
def rel1 (keep:Int) (M:List Lk) (p:Lk):List Lk:=if p.m≤keep then M else if keep=0 then clearL M p.sp else setL M p.sp keep
def relL (L:List Lk) (s:Sp) (keep:Int):List Lk:=(partsL L s).foldl (rel1 keep) L
def Tb.release (T:Tb) (node:Int) (s:Sp) (keep:Int):(List Wq×Int)×Tb :=
 if T.is node∧s.ok∧(keep=0∨keep=1) then (((T.hold node.toNat (relL (T.held node.toNat) s keep)).grant.1,0),(T.hold node.toNat (relL (T.held node.toNat) s keep)).grant.2)
 else (([],1),T)
def Tb.cancel (T:Tb) (id:Int):(List Wq×Bool)×Tb :=
 if (T.waits.filter (fun w => !decide (w.id=id))).length=T.waits.length then (([],false),{T with waits:=T.waits.filter (fun w => !decide (w.id=id))})
 else (({T with waits:=T.waits.filter (fun w => !decide (w.id=id))}.grant.1,true),{T with waits:=T.waits.filter (fun w => !decide (w.id=id))}.grant.2)
def Tb.drop (T:Tb) (node:Int):List Wq×Tb :=
 if T.is node then {T.hold node.toNat [] with waits:=T.waits.filter (fun w => !decide (w.node=node))}.grant else ([],T)
def fitsL1 (l:Lk) (L:List Lk):Bool:=(partsL L l.sp).all (fun p=>fitB p.m l.m)
def Tb.fits (T:Tb) (node:Int) (l:Lk):Bool:=(List.range T.nodes).all (fun k=>decide (((k+1:Nat):Int)=node) || fitsL1 l (T.held (k+1)))
def Tb.force (T:Tb) (node:Int) (l:Lk):Int×Tb :=
 if ¬(T.is node∧rightB l=true) then (1,T) else if T.fits node l=false then (8,T) else (0,T.raise node.toNat l)
def Tb.mode (T:Tb) (node x:Int):Int:=if T.is node then (getP (T.held node.toNat) x).getD 0 else 0
def keepsI (asked held:Int):Int:=if asked=1∧held=2 then 1 else 0
def rvk2 (keep:Int) (M:List Lk) (q:Lk):List Lk:=if q.m≤keep+1 then clearL M q.sp else M
def rvk1 (l:Lk) (told:List Lk) (M:List Lk) (p:Lk):List Lk :=
 if fitB p.m l.m=true then M else (partsL told p.sp).foldl (rvk2 (keepsI l.m p.m)) (setL M p.sp (keepsI l.m p.m))
def revokedL (L:List Lk) (l:Lk) (told:List Lk):List Lk:=(partsL L l.sp).foldl (rvk1 l told) []
structure Rv where
 out:List (Int×Lk)
 told:Nat→List Lk
def Rv.add (node:Nat) (R:Rv) (l:Lk):Rv:=⟨R.out ++ [((node:Int),l)],fun k=>if k=node then setL (R.told node) l.sp (l.m+1) else R.told k⟩
def Rv.node (T:Tb) (w:Wq) (R:Rv) (node:Nat):Rv:=if ((node:Nat):Int)=w.node then R else (revokedL (T.held node) w.l (R.told node)).foldl (Rv.add node) R
def Rv.wait (T:Tb) (R:Rv) (w:Wq):Rv:=(List.range T.nodes).foldl (fun R k=>Rv.node T w R (k+1)) R
def Tb.revokes (T:Tb):List (Int×Lk):=(T.waits.foldl (Rv.wait T) ⟨[],fun _ => []⟩).out
theorem foldl_next {α β:Type} {f:β→α→β} {b:β} {l:List α} {i:Nat} {x:α} (h:l[i]? = some x):(l.take (i+1)).foldl f b=f ((l.take i).foldl f b) x:=by
 rw [List.take_add_one,h,List.foldl_append]
 rfl
theorem all_next {α:Type} {p:α→Bool} {l:List α} {i:Nat} {x:α} (h:l[i]? = some x):(l.take (i+1)).all p=((l.take i).all p && p x):=by
 rw [List.take_add_one,h,List.all_append]
 simp
theorem any_next {α:Type} {p:α→Bool} {l:List α} {i:Nat} {x:α} (h:l[i]? = some x):(l.take (i+1)).any p=((l.take i).any p || p x):=by
 rw [List.take_add_one,h,List.any_append]
 simp
theorem info_pt : (Tryz.prog.info? 136).map (fun i=>(i.zero,i.size,i.bytes))=some (some (.agg #[.int .i64 0, .int .i64 0, .int .i64 0]),3,24):=by kernel_rfl
theorem lk_size (x:Lk):x.cells.length=3:=rfl
theorem lkcells_app (l m:List Lk):lkcells (l++m)=lkcells l++lkcells m:=by simp [lkcells]
theorem lkcells_one (l:List Lk):∀u∈lkcells l,u.oneCell'=true:=by
 intro u hu
 obtain ⟨x,_,hx⟩:=List.mem_flatMap.1 hu
 exact x.cells_one u hx
def ImAt (o:Nat→Nat) (c:Nat) (w:World) (m:Nat) (L:List Lk):Prop :=
 ∃A cap,Blk w m 175 #[.slice A L.length cap]∧o m=c∧OwnS o c w 136 3 (.slice A L.length cap) L.length (lkcells L)
section
variable {o o':Nat→Nat} {c:Nat} {C:Nat→Prop} {w w':World} {m:Nat} {L:List Lk}
theorem ImAt.step (h:ImAt o c w m L) (hs:Step o C w o' w') (hc:¬C c):ImAt o' c w' m L:=by
 obtain ⟨A,cap,h1,h2,h3⟩:=h
 exact ⟨A,cap,h1.step hs (by rw [h2];exact hc),(hs.old m h1.lt).trans h2,h3.step hs hc⟩
theorem ImAt.below_ (h:ImAt o c w m L) (hb:Below w.heap.size w w'):ImAt o c w' m L:=by
 obtain ⟨A,cap,h1,h2,h3⟩:=h
 exact ⟨A,cap,h1.below_ hb,h2,h3.below_ hb⟩
theorem ImAt.alloc (h:ImAt o c w m L) (x:Obj):ImAt o c (w.alloc x) m L:=h.below_ ((Below.refl _ _).alloc (Nat.le_refl _) x)
theorem ImAt.drew (h:ImAt o c w m L):ImAt o c w.drew m L:=h
theorem ImAt.new (o:Nat→Nat) (w:World) (c:Nat):∃o2,ImAt o2 c (w.alloc (.cells #[.slice none 0 0] 175)) w.heap.size []∧Step o (fun _=>False) w o2 (w.alloc (.cells #[.slice none 0 0] 175))∧(c=0→Fut o w→Fut o2 (w.alloc (.cells #[.slice none 0 0] 175))):=by
 refine ⟨band o w.heap.size (w.alloc (.cells #[.slice none 0 0] 175)).heap.size c,⟨none,0,Blk.new _ _ _,band_in (Nat.le_refl _) (by simp),OwnS.nil _ _ _ _ _⟩,Step.of_below_band o _ c ((Below.refl _ _).alloc (Nat.le_refl _) _),fun _ hf=>hf.step (Step.of_below_band o (fun _=>False) c ((Below.refl _ _).alloc (Nat.le_refl _) _))⟩
theorem inew_any (w:World):Calls Tryz.prog 106 #[] w fun e w'=>e = .returned (.pointer (some ⟨w.heap.size,0,none⟩))∧w'=w.alloc (.cells #[.slice none 0 0] 175):=by
 go_enter Tryz.func106,Tryz.ntmps106
 go_wp2_with fail
 go_ret
 exact ⟨rfl,rfl⟩
theorem parts_next {i:Nat} {p:Lk} (s:Sp) (h:L[i]? = some p):partsL (L.take (i+1)) s=partsL (L.take i) s++(if (meetR p.sp s).2=true then [⟨(meetR p.sp s).1.a,(meetR p.sp s).1.b,p.m⟩] else []):=by
 unfold partsL
 rw [List.take_add_one,h,List.filterMap_append]
 congr 1
 by_cases hm:(meetR p.sp s).2=true <;> simp [hm]
theorem parts_len (L:List Lk) (s:Sp):(partsL L s).length≤L.length:=List.length_filterMap_le _ _
set_option maxRecDepth 100000 in
set_option maxHeartbeats 4000000 in
theorem iparts_any (h:ImAt o c w m L) (hl:L.length≤1000000) (s:Sp) :
 Calls Tryz.prog 131 #[.pointer (some ⟨m,0,none⟩), .agg #[.int .i64 s.a, .int .i64 s.b]] w fun e w'=>∃D cap,e = .returned (.slice D (partsL L s).length cap)∧w'.ownsRow w.heap.size 136 3 (.slice D (partsL L s).length cap) (partsL L s).length (lkcells (partsL L s))∧Below w.heap.size w w':=by
 obtain ⟨i0,hi,hz0,hz1,hz2⟩:=info_parts info_pt
 obtain ⟨A,capA,hb,_,ho⟩:=h
 have HR:=Lib.hid (Reads.of_own ho.1)
 have HM:=Lib.hid hb
 have HL:=Lib.hid hl
 have hlI:(L.length:Int)≤1000000:=by omega
 have HT:=Lib.hid (show partsL (L.take L.length) s=partsL L s by rw [List.take_length])
 have HE0:=Lib.hid (Env.start w)
 have HU0:=Lib.hid (show Fut (fun _=>0) w from fun _ _=>rfl)
 have HS0:=Lib.hid (Keep.new HU0.out 45 #[.int .i64 s.a, .int .i64 s.b])
 have HE1:=Lib.hid (HE0.out.alloc (.cells #[.int .i64 s.a, .int .i64 s.b] 45))
 have HU1:=Lib.hid (HU0.out.alloc (.cells #[.int .i64 s.a, .int .i64 s.b] 45))
 clear hb ho hl HE0 HU0
 go_enter Tryz.func131,Tryz.ntmps131
 go_upto_region 1 with (fail)
 have x0:(w.alloc (.cells #[.int .i64 s.a, .int .i64 s.b] 45)).cell? ⟨m,0,none⟩=some (.slice A L.length capA):=(HM.out.alloc _).cell 0
 generalize w.alloc (.cells #[.int .i64 s.a, .int .i64 s.b] 45)=W0 at HS0 HE1 HU1 x0 ⊢
 generalize w.heap.size=gs at HS0 ⊢
 go_wp2_with fail
 clear x0
 go_loopg [5,17] L.length (fun n t5 t17 wr=>∃(i:Nat) (D:Option Addr) (cap:Nat) (oL:Nat→Nat),n+i=L.length∧t17 = .int .i64 (i:Nat)∧t5 = .slice D (partsL (L.take i) s).length cap∧OwnS oL 1 wr 136 3 (.slice D (partsL (L.take i) s).length cap) (partsL (L.take i) s).length (lkcells (partsL (L.take i) s))∧Keep oL wr gs 45 #[.int .i64 s.a, .int .i64 s.b]∧Env oL w wr∧Fut oL wr)
 case atStart=>exact ⟨0,none,0,fun _=>0,by omega,rfl,rfl,OwnS.nil _ _ _ _ _,HS0.out,HE1.out,HU1.out⟩
 case round =>
  obtain ⟨i,D,cap,oL,hni,rfl,rfl,ho,hk,he,hu⟩:=hrel
  have HNI:=Lib.hid hni
  have HO:=Lib.hid ho
  have HK:=Lib.hid hk
  have HE:=Lib.hid he
  have HU:=Lib.hid hu
  clear hni ho hk he hu HS0 HE1 HU1
  by_cases hlt:i<L.length
  ·have hltI:(i:Int)<(L.length:Int):=by omega
   obtain ⟨p,hp⟩:∃p,L[i]? = some p:=⟨_,List.getElem?_eq_getElem hlt⟩
   have HPN:=Lib.hid (parts_next s hp)
   have HPL:=Lib.hid (show (partsL (L.take i) s).length≤1000000 from Nat.le_trans (parts_len _ _) (by rw [List.length_take];have:=HL.out;omega))
   obtain ⟨ad,rfl,x0,x1,x2⟩:=(HR.out.low (by omega) HE.out.low).lock hp
   have HP:=Lib.hid (Keep.new HU.out 136 #[.int .i64 p.a, .int .i64 p.b, .int .i64 p.m])
   have HO1:=Lib.hid (HO.out.alloc (.cells #[.int .i64 p.a, .int .i64 p.b, .int .i64 p.m] 136))
   have HE1:=Lib.hid (HE.out.alloc (.cells #[.int .i64 p.a, .int .i64 p.b, .int .i64 p.m] 136))
   have HU1:=Lib.hid (HU.out.alloc (.cells #[.int .i64 p.a, .int .i64 p.b, .int .i64 p.m] 136))
   have HK1:=Lib.hid (HK.out.alloc (.cells #[.int .i64 p.a, .int .i64 p.b, .int .i64 p.m] 136))
   clear hp HO HE HU HK
   generalize partsL (L.take i) s=LM at HPN HPL HO1 ⊢
   go_upto_region 7 with (fail)
   generalize wr.alloc (.cells #[.int .i64 p.a, .int .i64 p.b, .int .i64 p.m] 136)=W1 at HP HO1 HE1 HU1 HK1 ⊢
   generalize wr.heap.size=P at HP ⊢
   clear x0 x1 x2
   obtain ⟨y0,y1,y2⟩:=HP.out.1.three
   obtain ⟨z0,z1⟩:=HK1.out.1.pair
   go_wp2_with fail
   refine (spmeet_any p.sp s W1).mono ?_
   rintro e w3 ⟨rfl,hb3⟩
   obtain ⟨⟨⟨ma,mb⟩,mv⟩,hm⟩:∃N,meetR p.sp s=N:=⟨_,rfl⟩
   rw [hm] at HPN ⊢
   simp only at HPN ⊢
   have HO4:=Lib.hid ((HO1.out.below_ hb3).alloc (.cells #[.int .i64 ma, .int .i64 mb] 45))
   have HE4:=Lib.hid ((HE1.out.below_ hb3).alloc (.cells #[.int .i64 ma, .int .i64 mb] 45))
   have HU4:=Lib.hid ((HU1.out.below hb3).alloc (.cells #[.int .i64 ma, .int .i64 mb] 45))
   have HP4:=Lib.hid ((HP.out.below_ hb3).alloc (.cells #[.int .i64 ma, .int .i64 mb] 45))
   have HK4:=Lib.hid ((HK1.out.below_ hb3).alloc (.cells #[.int .i64 ma, .int .i64 mb] 45))
   have HM4:=Lib.hid (Blk.new w3 45 #[.int .i64 ma, .int .i64 mb])
   clear hb3 hm HO1 HE1 HU1 HP HK1 y0 y1 y2 z0 z1
   go_upto_region 8 with (fail)
   generalize w3.alloc (.cells #[.int .i64 ma, .int .i64 mb] 45)=W4 at HO4 HE4 HU4 HP4 HK4 HM4 ⊢
   generalize w3.heap.size=gm at HM4 ⊢
   obtain ⟨y0,y1,y2⟩:=HP4.out.1.three
   obtain ⟨z0,z1⟩:=HM4.out.pair
   cases mv with
   | false =>
     have HN:=Lib.hid (show partsL (L.take (i+1)) s=LM by rw [HPN.out];simp)
     go_wp2_with fail
     go_roundg (L.length - (i+1))
     case measure=>have:=HNI.out;omega
     case rel=>exact ⟨i+1,D,cap,oL,by omega,by go_num,by rw [HN.out],by rw [HN.out];exact HO4.out,HK4.out,HE4.out,HU4.out⟩
   | true =>
     have HN:=Lib.hid (show partsL (L.take (i+1)) s=LM ++ [⟨ma,mb,p.m⟩] by rw [HPN.out];simp)
     have HO5:=Lib.hid (HO4.out.alloc (.cells #[.int .i64 ma, .int .i64 mb, .int .i64 p.m] 136))
     go_wp2_with (at_builtin;refine wpList_append_S _ rfl (.tmp 29) (.tmp 34) 133 rfl 136 i0 _ 3 24 Tryz.underlying133 hi hz0 hz1 hz2 rfl (by omega) (.slice D LM.length cap) LM.length (lkcells LM) rfl HO5.out (some ⟨W4.heap.size,0,none⟩) 1 1 [.int .i64 ma, .int .i64 mb, .int .i64 p.m] rfl (Reads.newAt W4 136 3 1 _ #[.int .i64 ma, .int .i64 mb, .int .i64 p.m] _ rfl rfl rfl) (by simp [Value.oneCell']) (by have:=HPL.out;unfold maxLen;omega) (by have:=HPL.out;omega) ?_;intro v7 w7 hown7 hst7 hgr7 hat7;obtain ⟨A7,cap7,rfl,_,_⟩:=own_form' hown7;have HW7:=Lib.hid hown7;have HS7:=Lib.hid (((Step.refl oL (fun _=>False) W4).alloc (.cells #[.int .i64 ma, .int .i64 mb, .int .i64 p.m] 136)).mono (fun _ h=>h.elim:∀y,False→only 1 y) |>.trans hst7);clear hown7 hst7 hgr7 hat7)
     go_roundg (L.length - (i+1))
     case measure=>have:=HNI.out;omega
     case rel=>exact ⟨i+1,A7,cap7,_,by omega,by go_num,by rw [HN.out,@List.length_append _ LM _];rfl,by rw [HN.out,@List.length_append _ LM _,lkcells_app LM];exact HW7.out,HK4.out.step HS7.out (by unfold only;omega),HE4.out.step HS7.out (by unfold only;omega),HU4.out.step HS7.out⟩
  ·have hltI:¬(i:Int)<(L.length:Int):=by omega
   obtain rfl:i=L.length:=by have:=HNI.out;omega
   rw [HT.out] at HO ⊢
   go_wp2_with fail
   go_ret
   exact ⟨D,cap,rfl,own_new HE.out HO.out (by decide),HE.out.low⟩
end
end Go.Proofs.YtohgabdmmbngbaaGreatDoor
namespace Go.Proofs.YtohgabdmmbngbaaGreatDoor
open Go.RowKit Go.Sort Go.Shelf
section
variable {α:Type} [Inhabited α] {enc:α→List Value} {k:Nat}
theorem flatK_list (hk:∀x,(enc x).length=k) (d:Array α):(flatK enc k d).toList=d.toList.flatMap enc:=by
 apply List.ext_getElem?
 intro t
 have hl:(d.toList.flatMap enc).length=d.size*k:=by
  rw [flatS_len hk]
  simp
 by_cases ht:t<d.size*k
 ·have hk0:0<k:=by
   rcases Nat.eq_zero_or_pos k with h | h
   ·subst h
    simp at ht
   ·exact h
  have h1:t / k<d.size:=(Nat.div_lt_iff_lt_mul hk0).2 ht
  have h2:t % k<k:=Nat.mod_lt _ hk0
  have h3:=flatS_at hk (l:=d.toList) (i:=t / k) (s:=d[t / k]) (by simp [h1]) (k:=t % k) (u:=(enc d[t / k])[t % k]'(by rw [hk];exact h2)) (List.getElem?_eq_getElem _)
  rw [Nat.div_add_mod' t k] at h3
  rw [h3,Array.getElem?_toList,Array.getElem?_eq_getElem (by simpa using ht)]
  have h4:=get_flatK enc k d t ht
  rw [getElem!_pos _ t (by simpa using ht),getElem!_pos d (t / k) h1,getElem!_pos _ (t % k) (by rw [hk];exact h2)] at h4
  rw [h4]
 ·rw [List.getElem?_eq_none (by simp;omega),List.getElem?_eq_none (by omega)]
variable {o:Nat→Nat} {c:Nat} {w:World} {e:TypeId} {n g cap:Nat} {l:List α}
theorem own_holds (hk:∀x,(enc x).length=k) (h:OwnS o c w e k (.slice (some ⟨g,0,none⟩) n cap) n (l.flatMap enc)) (hn:0<n):HoldsK enc k w g 0 l.toArray:=by
 intro j hj
 obtain ⟨g',cur,hg,hb,_⟩:=h.blk hn
 injection hg with hg
 injection hg with hg
 subst hg
 rw [Nat.zero_add]
 refine ⟨h.at_ ?_,hb.frozen j⟩
 have:=flatK_list hk l.toArray
 have h2:l.toArray.toList=l:=rfl
 rw [h2] at this
 rw [←this,Array.getElem?_toList,getElem!_pos _ j hj,Array.getElem?_eq_getElem hj]
 rfl
theorem own_sorted (hk:∀x,(enc x).length=k) (h:OwnS o c w e k (.slice (some ⟨g,0,none⟩) n cap) n (l.flatMap enc)) (hn:0<n) (d:Array α) (hd:d.size=n) (m:Nat) (os:Array Obj) :
 OwnS o c (sortWorldK enc k w g 0 m d os) e k (.slice (some ⟨g,0,none⟩) n cap) n (d.toList.flatMap enc)∧Step o (only c) w o (sortWorldK enc k w g 0 m d os):=by
 obtain ⟨g',cur,hg,hb,hc,h1,h2,h3,h4⟩:=h.blk hn
 injection hg with hg
 injection hg with hg
 subst hg
 have hlt:=hb.lt
 have hnk:n*k≤cap*k:=Nat.mul_le_mul_right _ h1
 have hF:(flatK enc k d).size=n*k:=by rw [size_flatK,hd]
 have hbk:Blk (sortWorldK enc k w g 0 m d os) g e (putCells id 0 (flatK enc k d) cur):=by
  show ((mapBlock (Go.Sort.ahead w m) g (putCells id 0 (flatK enc k d))).heap++os)[g]? = _
  rw [Array.getElem?_append_left (by simpa [mapBlock] using hlt)]
  show (w.heap.modify g (onCells (putCells id 0 (flatK enc k d))))[g]? = _
  unfold Blk at hb
  rw [Array.getElem?_modify,if_pos rfl,hb]
  rfl
 have hcs:(putCells id 0 (flatK enc k d) cur).size=cur.size:=by simp [putCells]
 refine ⟨OwnS.of_blk hbk hc h1 h2 (by omega) ?_,⟨rfl,rfl,rfl,?_,fun _ _=>rfl,fun _ _=>rfl,fun i hi hne => ?_⟩⟩
 ·rw [←flatK_list hk]
  apply List.ext_getElem?
  intro j
  rw [List.getElem?_take]
  by_cases hj:j<n*k
  ·rw [if_pos hj,Array.getElem?_toList,Array.getElem?_toList,Array.getElem?_eq_getElem (by omega),Array.getElem?_eq_getElem (by omega)]
   congr 1
   simp only [putCells,Array.getElem_mapIdx,Nat.zero_le,true_and,Nat.zero_add,Nat.sub_zero]
   rw [if_pos (by omega),getElem!_pos _ j (by omega)]
   rfl
  ·rw [if_neg hj,Array.getElem?_toList,Array.getElem?_eq_none (by omega)]
 ·show w.heap.size≤((w.heap.modify g (onCells (putCells id 0 (flatK enc k d))))++os).size
  simp
 ·show ((w.heap.modify g (onCells (putCells id 0 (flatK enc k d))))++os)[i]? = w.heap[i]?
  rw [Array.getElem?_append_left (by simpa using hi),Array.getElem?_modify,if_neg (by rintro rfl;exact hne hc)]
variable {P:Program} {ρ:Ren}
theorem sortfunc_any (L:SlLaysF0.n6 P ρ) (aE:∀w,(isAgg (ρ.t 24)).run P w = .ok true w) (zE:∀w,(Go.sizeOf (ρ.t 24)).run P w = .ok k w) (hk:∀x,(enc x).length=k) (h1:∀x,∀v∈enc x,v.oneCell'=true)
 (cf:α→α→Int) (hO:SWO (ltOf cf)) (f:Nat) (eg:∀args w,(callFunc f args).run P w = .ok (.enter f args) w)
 (hcmp:∀W x y,Calls P f #[.agg (enc x).toArray, .agg (enc y).toArray] W fun e w'=>e = .returned (.int .i64 (cf x y))∧∃q os',w'=grow (W.drewN q) os')
 {A:Option Addr} (h:OwnS o c w e k (.slice A n cap) n (l.flatMap enc)) (hl:l.length=n) (hn:n≤1000000) :
 Calls P (ρ.f 6) #[.slice A n cap, .func (.func f) #[] #[]] w fun r w'=>r = .returned (.tuple #[])∧∃l':List α,l'.Perm l∧l'.Pairwise (fun x y=>¬cf y x<0)∧OwnS o c w' e k (.slice A n cap) n (l'.flatMap enc)∧Step o (only c) w o w':=by
 rcases Nat.eq_zero_or_pos n with h0 | h0
 ·subst h0
  obtain rfl:l = []:=List.eq_nil_of_length_eq_zero hl
  refine (AnyF.slices_SortFunc_none L A cap _ w).mono ?_
  rintro r w' ⟨rfl,rfl⟩
  exact ⟨rfl,[],List.Perm.refl _,List.Pairwise.nil,h,Step.refl _ _ _⟩
 ·obtain ⟨g,cur,rfl,hb,_⟩:=h.blk h0
  have hds:l.toArray.size=n:=by simpa using hl
  have hs:=AnyQ.slices_SortFunc (P:=P) (ρ:=ρ) L k aE zE enc hk h1 cf hO f #[] g 0 cap l.toArray w eg (fun m os dk hs x y=>by
   have:=hcmp (sortWorldK enc k w g 0 m dk os) x y
   exact this) (own_holds hk h h0) hb.lt (by omega)
  rw [hds] at hs
  refine hs.mono ?_
  rintro r w' ⟨rfl,d',m,os,⟨hp1,_,hp3⟩,hsr,rfl⟩
  have hd':d'.size=n:=hp1.trans hds
  obtain ⟨a,b⟩:=own_sorted hk h h0 d' hd' m os
  refine ⟨rfl,d'.toList,?_,?_,a,b⟩
  ·have e1:d'.extract 0 n=d':=by rw [←hd'];simp
   have e2:l.toArray.extract 0 n=l.toArray:=by rw [←hds];simp
   rw [e1,e2] at hp3
   exact hp3
  ·rw [List.pairwise_iff_getElem]
   intro i j hi hj hij
   have:=hsr i j (Nat.zero_le _) hij (by rw [←hd'];simpa using hj)
   have hi':i<d'.size:=by simpa using hi
   have hj':j<d'.size:=by simpa using hj
   rw [getElem!_pos d' j hj',getElem!_pos d' i hi'] at this
   simpa [ltOf] using this
end
end Go.Proofs.YtohgabdmmbngbaaGreatDoor
