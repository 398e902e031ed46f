import Derived.Test.YtldoeodkeieejaaGreatDoorKLeaf
import Derived.ArgAppend
import Derived.Lib.AppendStr
import Derived.Lib.AppendZerosOnto
import Derived.Deep.Cut
import Derived.Deep.DeepCutAuto
import Derived.Deep.CutBlock
import Derived.Deep.CutRange
namespace Go.Proofs.YtldoeodkeieejaaGreatDoor
open Go.RowKit
theorem Blk.cells_ {t:TypeId} {g:Nat}:∀(vs:List Value) (o:Nat) (w:World) (cs:Array Value),Blk w g t cs→∃cs',Blk (w.setCells g o vs) g t cs'∧cs'.size=cs.size ∧
 ∀i:Nat,cs'[i]? = if o≤i∧i<o+vs.length∧i<cs.size then vs[i - o]? else cs[i]?
 | [],o,w,cs,h=>⟨cs,h,rfl,fun i=>by rw [if_neg (by simp;omega)]⟩
 | v :: r,o,w,cs,h=>by
   obtain ⟨cs',h1,h2,h3⟩:=Blk.cells_ r (o+1) _ _ (h.set_ o v)
   refine ⟨cs',h1,by simpa using h2,fun i => ?_⟩
   rw [h3 i]
   simp only [Array.size_setIfInBounds,List.length_cons]
   by_cases h4:o+1≤i∧i<o+1+r.length∧i<cs.size
   ·rw [if_pos h4,if_pos (by omega),show i - o=(i - (o+1))+1 by omega]
    simp
   ·rw [if_neg h4]
    by_cases h5:o≤i∧i<o+(r.length+1)∧i<cs.size
    ·have h6:i=o:=by omega
     subst h6
     rw [if_pos h5]
     simp [h5.2.2]
    ·rw [if_neg h5]
     rw [Array.getElem?_setIfInBounds]
     by_cases h6:o=i
     ·subst h6
      have h7:¬o<cs.size:=by omega
      simp [h7]
     ·rw [if_neg h6]
theorem setCells_far {g k:Nat} (hne:k≠g):∀(vs:List Value) (o:Nat) (w:World),(w.setCells g o vs).heap[k]? = w.heap[k]?
 | [],_,_=>rfl
 | _ :: r,o,_=>(setCells_far hne r (o+1) _).trans (Below.heap_setCell _ _ _ _ hne)
theorem setCells_same (g:Nat):∀(vs:List Value) (o:Nat) (w:World),(w.setCells g o vs).os=w.os∧(w.setCells g o vs).tape=w.tape∧(w.setCells g o vs).output=w.output∧(w.setCells g o vs).heap.size=w.heap.size
 | [],_,_=>⟨rfl,rfl,rfl,rfl⟩
 | v :: r,o,w=>by
   obtain ⟨a,b,c,d⟩:=setCells_same g r (o+1) (w.setCell ⟨g,o,none⟩ v)
   exact ⟨a,b,c,by rw [World.setCells,d];simp [World.setCell]⟩
def OwnW (o:Nat→Nat) (c:Nat) (w:World) (e:TypeId) (size:Nat) (v:Value) (n:Nat) (xs:List Value):Prop :=
 xs.length=n*size∧((v = .slice none 0 0∧n=0)∨∃g off cap cur,v = .slice (some ⟨g,off,none⟩) n cap∧Blk w g e cur∧o g=c∧n≤cap∧cap≤maxLen∧off+cap*size≤cur.size∧(cur.toList.drop off).take (n*size)=xs)
section
variable {o:Nat→Nat} {c:Nat} {w w':World} {e:TypeId} {size n:Nat} {v:Value} {xs:List Value}
theorem OwnW.nil (o:Nat→Nat) (c:Nat) (w:World) (e:TypeId) (size:Nat):OwnW o c w e size (.slice none 0 0) 0 []:=⟨by simp, .inl ⟨rfl,rfl⟩⟩
theorem OwnW.of_own (h:OwnS o c w e size v n xs):OwnW o c w e size v n xs:=by
 refine ⟨h.1.1,?_⟩
 rcases h.1.2 with ⟨a,b⟩ | ⟨g,cap,cur,rfl,_,hg,h1,h2,h3,h4⟩
 ·exact .inl ⟨a,b⟩
 ·exact .inr ⟨g,0,cap,cur,rfl,hg,h.2 g rfl,h1,h2,by omega,by simpa using h4⟩
theorem OwnW.heap (h:OwnW o c w e size v n xs) (hb:∀g,v.ownBlock=some g→w'.heap[g]? = w.heap[g]?) {o':Nat→Nat} (ho:∀g,v.ownBlock=some g→o' g=o g):OwnW o' c w' e size v n xs:=by
 refine ⟨h.1,?_⟩
 rcases h.2 with hn | ⟨g,off,cap,cur,rfl,hg,hc,rest⟩
 ·exact .inl hn
 ·exact .inr ⟨g,off,cap,cur,rfl,(hb g rfl).trans hg,(ho g rfl).trans hc,rest⟩
theorem OwnW.lt (h:OwnW o c w e size v n xs):∀g,v.ownBlock=some g→g<w.heap.size∧o g=c:=by
 intro g hg
 rcases h.2 with ⟨rfl,_⟩ | ⟨g',off,cap,cur,rfl,hb,hc,_⟩
 ·simp [Value.ownBlock] at hg
 ·simp only [Value.ownBlock,Option.some.injEq] at hg
  subst hg
  exact ⟨hb.lt,hc⟩
theorem OwnW.step {o':Nat→Nat} {D:Nat→Prop} (h:OwnW o c w e size v n xs) (hk:Step o D w o' w') (hne:¬D c):OwnW o' c w' e size v n xs :=
 h.heap (fun g hg=>hk.block g (h.lt g hg).1 (by rw [(h.lt g hg).2];exact hne)) (fun g hg=>hk.old g (h.lt g hg).1)
theorem OwnW.form (h:OwnW o c w e size v n xs):∃A cap,v = .slice A n cap∧n≤cap∧cap≤maxLen:=by
 rcases h.2 with ⟨rfl,rfl⟩ | ⟨g,off,cap,cur,rfl,_,_,h1,h2,_⟩
 ·exact ⟨none,0,rfl,Nat.le_refl _,Nat.zero_le _⟩
 ·exact ⟨_,_,rfl,h1,h2⟩
theorem drop_take_get {l xs:List Value} {off k:Nat} (h:(l.drop off).take k=xs) {j:Nat} {u:Value} (hj:xs[j]? = some u):l[off+j]? = some u:=by
 rw [←h,List.getElem?_take] at hj
 split at hj
 ·rwa [List.getElem?_drop] at hj
 ·cases hj
theorem OwnW.reads {A:Option Addr} {cap:Nat} (h:OwnW o c w e size (.slice A n cap) n xs):Reads w size A n xs:=by
 refine ⟨h.1,fun hn => ?_⟩
 rcases h.2 with ⟨hv,h0⟩ | ⟨g,off,cap',cur,hv,hb,_,_,_,_,h4⟩
 ·omega
 ·simp only [Value.slice.injEq] at hv
  obtain ⟨rfl,_,_⟩:=hv
  refine ⟨_,rfl,fun j u hu => ?_⟩
  rw [Addr.add_lit,hb.cell]
  have:=drop_take_get h4 hu
  simpa using this
theorem OwnW.tail {g off cap:Nat} (h:OwnW o c w e size (.slice (some ⟨g,off,none⟩) n cap) n xs) (hn:0<n) :
 OwnW o c w e size (.slice (some (if cap=1 then ⟨g,off,none⟩ else ⟨g,off+size,none⟩)) (n - 1) (cap - 1)) (n - 1) (xs.drop size):=by
 rcases h.2 with ⟨hv,h0⟩ | ⟨g',off',cap',cur,hv,hb,hc,h1,h2,h3,h4⟩
 ·omega
 ·simp only [Value.slice.injEq,Option.some.injEq,Addr.mk.injEq] at hv
  obtain ⟨⟨rfl,rfl,_⟩,_,rfl⟩:=hv
  have hlen:(xs.drop size).length=(n - 1)*size:=by rw [List.length_drop,h.1,Nat.sub_mul,Nat.one_mul]
  refine ⟨hlen, .inr ?_⟩
  by_cases hc1:cap=1
  ·rw [if_pos hc1]
   subst hc1
   have hn1:n=1:=by omega
   subst hn1
   refine ⟨g,off,0,cur,rfl,hb,hc,by omega,by unfold maxLen;omega,by omega,?_⟩
   have:xs.drop size = []:=List.eq_nil_of_length_eq_zero (by simpa using hlen)
   simp [this]
  ·rw [if_neg hc1]
   refine ⟨g,off+size,cap - 1,cur,rfl,hb,hc,by omega,by omega,?_,?_⟩
   ·have:cap*size=(cap - 1)*size+size:=by rw [←Nat.succ_mul];congr 1;omega
    omega
   ·rw [←h4,List.drop_take,List.drop_drop]
    congr 1
    rw [Nat.sub_mul,Nat.one_mul]
end
section
variable {P:Program} (w:World)
theorem run_append_W {o:Nat→Nat} {c0:Nat} (t ty e:TypeId) (i:TypeInfo) (z:Value) (size bytes:Nat) (ht:P.underlying t=some (.slice e)) (hi:P.info? e=some i) (hz:i.zero=some z)
 (hsize:i.size=size) (hby:i.bytes=bytes) (hzs:z.cells.size=size) (hsz:0<size)
 (v:Value) (n:Nat) (xs:List Value) (hown:OwnW o c0 w e size v n xs)
 (A:Option Addr) (m c:Nat) (news:List Value) (hr:Reads w size A m news) (h1:∀u∈news,u.oneCell'=true)
 (h63:n+m≤maxLen) (hbytes:(n+m)*bytes≤140737488355328) :
 ∃v' w',(Builtin.append_ #[t,t] ty #[v, .slice A m c]).run P w = .ok v' w'∧OwnW (band o w.heap.size w'.heap.size c0) c0 w' e size v' (n+m) (xs++news)∧Step o (only c0) w (band o w.heap.size w'.heap.size c0) w':=by
 have fin:∀v' w',w'.ownsRow w.heap.size e size v' (n+m) (xs++news)→w.grownBy w' none →
  OwnW (band o w.heap.size w'.heap.size c0) c0 w' e size v' (n+m) (xs++news)∧Step o (only c0) w (band o w.heap.size w'.heap.size c0) w':=by
  intro v' w' h2 h3
  refine ⟨OwnW.of_own ⟨⟨h2.1,h2.2.imp id (fun ⟨g,cap,cur,a1,a2,a3⟩=>⟨g,cap,cur,a1,Nat.zero_le _,a3⟩)⟩,fun g hg => ?_⟩,(Step.refl o (only c0) w).grown h3 (by simp)⟩
  have:=h2.lt g hg
  exact band_in this.1 this.2
 have same:OwnW (band o w.heap.size w.heap.size c0) c0 w e size v n xs∧Step o (only c0) w (band o w.heap.size w.heap.size c0) w :=
  ⟨hown.heap (fun _ _=>rfl) (fun g hg=>band_lt (hown.lt g hg).1),⟨rfl,rfl,rfl,Nat.le_refl _,fun _ hk=>band_lt hk,fun _ hk=>band_ge hk,fun _ _ _=>rfl⟩⟩
 by_cases hm:m=0
 ·subst hm
  have hn:news = []:=List.eq_nil_of_length_eq_zero (by simpa using hr.1)
  subst hn
  refine ⟨v,w,?_,by simpa using same.1,same.2⟩
  rcases hown.2 with ⟨rfl,rfl⟩ | ⟨g,off,cap,cur,rfl,_,_,hnc,_⟩
  ·cases A <;> simp [Builtin.append_,run_underlying ht,sizeOf,typeInfo,hi,Builtin.lenOf,Builtin.firstCells,loadCells,loadCellsFrom]
  ·cases A <;> simp [Builtin.append_,run_underlying ht,sizeOf,typeInfo,hi,Builtin.lenOf,Builtin.firstCells,hnc,storeCells,loadCells,loadCellsFrom]
 ·obtain ⟨ad,rfl,hcells⟩:=hr.2 (by omega)
  rcases hown.2 with ⟨rfl,rfl⟩ | ⟨g,off,cap,cur,rfl,hb,hgc,hnc,hcm,hcs,htake⟩
  ·have hx:xs = []:=List.eq_nil_of_length_eq_zero (by simpa using hown.1)
   subst hx
   obtain ⟨v',w',hrun,h2,h3,_⟩:=run_append_own (P:=P) w w.heap.size t ty e i z size bytes ht hi hz hsize hby hzs hsz (.slice none 0 0) 0 [] (World.ownsRow_nil w _ e size) ad m c news hr.1 hcells h1 h63 hbytes (Nat.le_refl _)
   obtain ⟨f1,f2⟩:=fin v' w' h2 (by simpa [Value.ownBlock] using h3)
   exact ⟨v',w',hrun,f1,f2⟩
  ·by_cases hroom:n+m≤cap
   ·subst hsize
    have hfit:off+n*i.size+news.length≤cur.size:=by
     have:(n+m)*i.size≤cap*i.size:=Nat.mul_le_mul_right _ hroom
     rw [Nat.add_mul] at this
     rw [hr.1]
     omega
    have hrun:=run_append_room_cells (P:=P) w t ty e i ht hi g off n cap ad m c news hr.1 hcells h1 hroom
     (fun j hj=>by obtain ⟨u,hu⟩:=hb.cell_some (i:=off+n*i.size+j) (by omega);rw [hu];rfl) (fun j hj=>hb.frozen _)
    obtain ⟨cs',b1,b2,b3⟩:=Blk.cells_ news (off+n*i.size) w cur hb
    obtain ⟨s1,s2,s3,s4⟩:=setCells_same g news (off+n*i.size) w
    refine ⟨_,_,hrun,⟨by rw [List.length_append,hown.1,hr.1,Nat.add_mul], .inr ⟨g,off,cap,cs',rfl,b1,by rw [band_lt hb.lt];exact hgc,hroom,hcm,by omega,?_⟩⟩,⟨s1,s2,s3,by omega,fun _ hk=>band_lt hk,fun _ hk=>band_ge hk,fun k hk hne=>setCells_far (fun e=>hne (by rw [e];exact hgc)) _ _ _⟩⟩
    apply List.ext_getElem?
    intro j
    rw [List.getElem?_take,List.getElem?_drop]
    simp only [Array.getElem?_toList,b3]
    have hxl:=hown.1
    have hnl:=hr.1
    by_cases hj:j<(n+m)*i.size
    ·rw [if_pos hj]
     rw [Nat.add_mul] at hj
     by_cases hj2:j<n*i.size
     ·rw [if_neg (by omega),List.getElem?_append_left (by omega)]
      obtain ⟨u,hu⟩:∃u,xs[j]? = some u:=⟨_,List.getElem?_eq_getElem (by omega)⟩
      rw [hu]
      have:=drop_take_get htake hu
      simpa using this
     ·rw [if_pos (by omega),List.getElem?_append_right (by omega)]
      congr 1
      omega
    ·rw [if_neg hj,List.getElem?_eq_none]
     rw [Nat.add_mul] at hj
     rw [List.length_append]
     omega
   ·obtain ⟨v',w',hrun,h2,h3⟩:=run_append_arg_grows (P:=P) w t ty e i z size bytes ht hi hz hsize hby hzs hsz ⟨g,off,none⟩ n cap xs hown.1 (fun j u hj=>by
     rw [Addr.add_lit,hb.cell]
     have:=drop_take_get htake hj
     simpa using this) ad m c news hr.1 hcells (by omega) h63 hbytes
    obtain ⟨f1,f2⟩:=fin v' w' h2 h3
    exact ⟨v',w',hrun,f1,f2⟩
theorem wp_append_W {op:Oper} {a:Act} {K:Act→World→Prop} {Q:Exit→Act→World→Prop} {o:Nat→Nat} {c0:Nat} (s x:Operand) (t:TypeId)
 (ho:op.op = .call {callee := .builtin .append,args:=#[s,x],argTypes:=#[t,t]})
 (e:TypeId) (i:TypeInfo) (z:Value) (size bytes:Nat) (ht:P.underlying t=some (.slice e)) (hi:P.info? e=some i) (hz:i.zero=some z)
 (hsize:i.size=size) (hby:i.bytes=bytes) (hzs:z.cells.size=size) (hsz:0<size)
 (v:Value) (n:Nat) (xs:List Value) (hs:a.eval s=v) (hown:OwnW o c0 w e size v n xs)
 (A:Option Addr) (m c:Nat) (news:List Value) (hx:a.eval x = .slice A m c) (hr:Reads w size A m news) (h1:∀u∈news,u.oneCell'=true)
 (h63:n+m≤maxLen) (hbytes:(n+m)*bytes≤140737488355328)
 (h:∀v' w',OwnW (band o w.heap.size w'.heap.size c0) c0 w' e size v' (n+m) (xs++news)→Step o (only c0) w (band o w.heap.size w'.heap.size c0) w'→K (a.put op.dst v') w'):op.wp P a w K Q:=by
 obtain ⟨v',w',hrun,h2,h3⟩:=run_append_W (P:=P) w t op.type e i z size bytes ht hi hz hsize hby hzs hsz v n xs hown A m c news hr h1 h63 hbytes
 unfold Oper.wp execOp
 simp only [ho,resolve,invoke,builtin,Sem.run_bind,Sem.run_pure,Result.andThen_ok,List.map_toArray,List.map_cons,List.map_nil,hs,hx,hrun]
 exact h v' w' h2 h3
theorem step_append_W {ops:Array Oper} {op:Oper} {a:Act} {K:Act→World→Prop} {Q:Exit→Act→World→Prop} {E:Prop} (hgd:op.guard=none) {o:Nat→Nat} {c0:Nat} (s x:Operand) (t:TypeId)
 (ho:op.op = .call {callee := .builtin .append,args:=#[s,x],argTypes:=#[t,t]})
 (e:TypeId) (i:TypeInfo) (z:Value) (size bytes:Nat) (ht:P.underlying t=some (.slice e)) (hi:P.info? e=some i) (hz:i.zero=some z)
 (hsize:i.size=size) (hby:i.bytes=bytes) (hzs:z.cells.size=size) (hsz:0<size)
 (v:Value) (n:Nat) (xs:List Value) (hs:a.eval s=v) (hown:OwnW o c0 w e size v n xs)
 (A:Option Addr) (m c:Nat) (news:List Value) (hx:a.eval x = .slice A m c) (hr:Reads w size A m news) (h1:∀u∈news,u.oneCell'=true)
 (h63:n+m≤maxLen) (hbytes:(n+m)*bytes≤140737488355328)
 (h:∀v' w',OwnW (band o w.heap.size w'.heap.size c0) c0 w' e size v' (n+m) (xs++news)→Step o (only c0) w (band o w.heap.size w'.heap.size c0) w'→K (a.put op.dst v') w') :
 if Region.wanted op (yielded ops a.tmps)=true then Oper.wp P op a w K Q else E:=by
 have hw:Region.wanted op (yielded ops a.tmps)=true:=by simp [Region.wanted,hgd]
 rw [if_pos hw]
 exact wp_append_W w s x t ho e i z size bytes ht hi hz hsize hby hzs hsz v n xs hs hown A m c news hx hr h1 h63 hbytes h
end
def bv (b:UInt8):Value := .int .u8 b.toNat
def bvs (l:List UInt8):List Value:=l.map bv
theorem bvs_len (l:List UInt8):(bvs l).length=l.length:=by simp [bvs]
theorem bvs_app (l m:List UInt8):bvs (l++m)=bvs l++bvs m:=by simp [bvs]
theorem bvs_one (l:List UInt8):∀u∈bvs l,u.oneCell'=true:=by
 intro u hu
 obtain ⟨b,_,rfl⟩:=List.mem_map.1 hu
 rfl
section
variable {P:Program} (w:World)
theorem append_arms {o:Nat→Nat} {c0:Nat} (t u ty e:TypeId) (x:Value) (m:Nat) (news:List Value) (hl:news.length=m)
 (hnil:m=0→(Builtin.append_ #[t,u] ty #[.slice none 0 0,x]).run P w = .ok (.slice none 0 0) w)
 (hroom:∀g n cap cur,Blk w g e cur→n+m≤cap→cap=cur.size→(Builtin.append_ #[t,u] ty #[.slice (some ⟨g,0,none⟩) n cap,x]).run P w = .ok (.slice (some ⟨g,0,none⟩) (n+m) cap) (w.setCells g n news))
 (hgrow0:0<m→∃C,m≤C∧C≤maxLen∧∃rest:Array Value,rest.size=C - m∧(Builtin.append_ #[t,u] ty #[.slice none 0 0,x]).run P w = .ok (.slice (some ⟨w.heap.size,0,none⟩) m C) (w.drew.alloc (.cells (news.toArray++rest) e)))
 (v:Value) (n:Nat) (xs:List Value) (hown:OwnS o c0 w e 1 v n xs)
 (hgrow:∀(ad:Addr) (cap:Nat),n≤cap→xs.length=n→(∀j u,xs[j]? = some u→w.cell? (ad.add j)=some u)→cap<n+m→∃C,n+m≤C∧C≤maxLen∧∃rest:Array Value,rest.size=C - (n+m)∧(Builtin.append_ #[t,u] ty #[.slice (some ad) n cap,x]).run P w = .ok (.slice (some ⟨w.heap.size,0,none⟩) (n+m) C) (w.drew.alloc (.cells (xs.toArray++news.toArray++rest) e))) :
 ∃v' w',(Builtin.append_ #[t,u] ty #[v,x]).run P w = .ok v' w'∧OwnS (band o w.heap.size w'.heap.size c0) c0 w' e 1 v' (n+m) (xs++news)∧Step o (only c0) w (band o w.heap.size w'.heap.size c0) w'∧w.grownBy w' v.ownBlock:=by
 have same:OwnS (band o w.heap.size w.heap.size c0) c0 w e 1 v n xs∧Step o (only c0) w (band o w.heap.size w.heap.size c0) w :=
  ⟨hown.color (fun k hk=>band_lt hk),⟨rfl,rfl,rfl,Nat.le_refl _,fun _ hk=>band_lt hk,fun _ hk=>band_ge hk,fun _ _ _=>rfl⟩⟩
 have hxl:xs.length=n:=by simpa using hown.1.1
 have grown:∀(rest:Array Value) (C:Nat),n+m≤C→C≤maxLen→rest.size=C - (n+m)→(Builtin.append_ #[t,u] ty #[v,x]).run P w = .ok (.slice (some ⟨w.heap.size,0,none⟩) (n+m) C) (w.drew.alloc (.cells (xs.toArray++news.toArray++rest) e)) →
  ∃v' w',(Builtin.append_ #[t,u] ty #[v,x]).run P w = .ok v' w'∧OwnS (band o w.heap.size w'.heap.size c0) c0 w' e 1 v' (n+m) (xs++news)∧Step o (only c0) w (band o w.heap.size w'.heap.size c0) w'∧w.grownBy w' v.ownBlock:=by
  intro rest C h1 h2 h3 hrun
  refine ⟨_,_,hrun,?_,?_,⟨rfl,rfl,rfl,by simp,fun k hk _=>Below.heap_alloc w.drew _ k hk⟩⟩
  ·have hb:Blk (w.drew.alloc (.cells (xs.toArray++news.toArray++rest) e)) w.heap.size e (xs.toArray++news.toArray++rest):=Blk.new w.drew _ _
   refine OwnS.of_blk hb (band_in (Nat.le_refl _) (by simp)) h1 h2 (by simp [h3,hxl,hl];omega) ?_
   simp only [Array.toList_append,List.append_assoc]
   rw [←List.append_assoc,show (n+m)*1=(xs++news).length by rw [List.length_append,hxl,hl,Nat.mul_one]]
   exact List.take_left
  ·have:=(((Step.refl o (only c0) w).drew).alloc (.cells (xs.toArray++news.toArray++rest) e))
   exact ⟨this.os,this.tape,this.output,this.size,fun _ hk=>band_lt hk,fun _ hk=>band_ge hk,this.block⟩
 rcases hown.1.2 with ⟨rfl,rfl⟩ | ⟨g,cap,cur,rfl,_,hg,hnc,hcm,hcs,htake⟩
 ·by_cases hm:m=0
  ·subst hm
   have hn:news = []:=List.eq_nil_of_length_eq_zero hl
   subst hn
   exact ⟨_,_,hnil rfl,by simpa using same.1,same.2,World.grownBy.refl w _⟩
  ·have hx:xs = []:=List.eq_nil_of_length_eq_zero hxl
   subst hx
   obtain ⟨C,h1,h2,rest,h3,hrun⟩:=hgrow0 (by omega)
   exact grown rest C (by omega) h2 (by omega) (by simpa using hrun)
 ·by_cases hr:n+m≤cap
  ·have hb:Blk w g e cur:=hg
   obtain ⟨cs',b1,b2,b3⟩:=Blk.cells_ news n w cur hb
   obtain ⟨s1,s2,s3,s4⟩:=setCells_same g news n w
   have hgc:=hown.2 g rfl
   refine ⟨_,_,hroom g n cap cur hb hr (by omega),?_,⟨s1,s2,s3,by omega,fun _ hk=>band_lt hk,fun _ hk=>band_ge hk,fun k hk hne=>setCells_far (fun e=>hne (by rw [e];exact hgc)) _ _ _⟩,⟨s1,s2,s3,by omega,fun k hk hne=>setCells_far (fun e=>hne (by rw [e];rfl)) _ _ _⟩⟩
   refine OwnS.of_blk b1 (by rw [band_lt hb.lt];exact hgc) hr hcm (by omega) ?_
   apply List.ext_getElem?
   intro j
   rw [List.getElem?_take]
   simp only [Array.getElem?_toList,b3]
   by_cases hj:j<(n+m)*1
   ·rw [if_pos hj]
    by_cases hj2:j<n
    ·rw [if_neg (by omega),List.getElem?_append_left (by omega),←htake,List.getElem?_take,if_pos (by omega)]
     simp
    ·rw [if_pos (by omega),List.getElem?_append_right (by omega),hxl]
   ·rw [if_neg hj,List.getElem?_eq_none]
    rw [List.length_append]
    omega
  ·obtain ⟨C,h1,h2,rest,h3,hrun⟩:=hgrow ⟨g,0,none⟩ cap hnc hxl (hown.1.cells (g:=g) rfl) (by omega)
   exact grown rest C h1 h2 h3 hrun
theorem run_append_str_S {o:Nat→Nat} {c0:Nat} (t u ty e:TypeId) (i:TypeInfo) (ht:P.underlying t=some (.slice e)) (hu:P.underlying u=some .string) (hi:P.info? e=some i) (hz:i.zero=some (.int .u8 0))
 (hsize:i.size=1) (hby:i.bytes=1) (v:Value) (n:Nat) (xs:List Value) (hown:OwnS o c0 w e 1 v n xs) (s:ByteArray) (hb:n+s.size≤140737488355328) :
 ∃v' w',(Builtin.append_ #[t,u] ty #[v, .string s]).run P w = .ok v' w'∧OwnS (band o w.heap.size w'.heap.size c0) c0 w' e 1 v' (n+s.size) (xs++bvs s.data.toList)∧Step o (only c0) w (band o w.heap.size w'.heap.size c0) w'∧w.grownBy w' v.ownBlock:=by
 have hsl:(bvs s.data.toList).length=s.size:=by rw [bvs_len];rfl
 refine append_arms w t u ty e (.string s) s.size (bvs s.data.toList) hsl ?_ ?_ ?_ v n xs hown ?_
 ·intro h0
  have hf:=Lib.run_firstCells_string (P:=P) w 1 s
  have he:Lib.strCells s = []:=List.eq_nil_of_length_eq_zero (by rw [Lib.strCells_length];exact h0)
  rw [he,h0] at hf
  simp [Builtin.append_,run_underlying ht,run_underlying hu,sizeOf,typeInfo,hi,hsize,Builtin.lenOf,h0,hf]
 ·intro g n' cap cur hg hr hc
  have hf:=Lib.run_firstCells_string (P:=P) w 1 s
  have hst:=run_storeCells_cells (P:=P) g n' (Lib.strCells s) 0 w (fun j hj=>by
   rw [Lib.strCells_length] at hj
   obtain ⟨u,hu⟩:=hg.cell_some (i:=n'+0+j) (by omega)
   rw [hu];rfl) (fun j _=>hg.frozen _) (Lib.strCells_oneCell s)
  simp only [Nat.add_zero] at hst
  simp [Builtin.append_,run_underlying ht,run_underlying hu,sizeOf,typeInfo,hi,hsize,Builtin.lenOf,hr,hf,Addr.add_lit,hst]
  rfl
 ·intro h0
  have hr:=run_append_nil_string (P:=P) w t u ty e i _ ht hu hi hz s h0 (by omega) (by rw [hby];omega)
  have hge:=grownCap_ge w s.size 0 e
  have hcm:=grownCap_le_maxLen w s.size 0 e (by unfold maxLen;omega)
  refine ⟨_,hge,hcm,Builtin.zeroCells (Value.int .u8 0).cells (grownCap w s.size 0 e - s.size),by rw [size_zeroCells];simp [Value.cells],?_⟩
  rw [hr]
  have e1:s.data.map (fun b=>Value.int .u8 b.toNat)=(bvs s.data.toList).toArray:=by
   apply Array.ext'
   simp [bvs]
   intro b _
   rfl
  rw [e1]
 ·intro ad cap hnc hlo hcells hc
  have hge:=grownCap_ge w (n+s.size) cap e
  have hcm:=grownCap_le_maxLen w (n+s.size) cap e (by unfold maxLen;omega)
  have hr:=Lib.run_append_grow_string (P:=P) w t u ty e i _ ht hu hi hz ad n cap xs (by rw [hlo,hsize,Nat.mul_one]) hcells s hc (by omega) (growslice_fits hc (by rw [hby];omega))
  exact ⟨_,hge,hcm,_,by rw [size_zeroCells];simp [Value.cells],hr⟩
theorem wp_append_str_S {op:Oper} {a:Act} {K:Act→World→Prop} {Q:Exit→Act→World→Prop} {o:Nat→Nat} {c0:Nat} (s x:Operand) (t u:TypeId)
 (ho:op.op = .call {callee := .builtin .append,args:=#[s,x],argTypes:=#[t,u]})
 (e:TypeId) (i:TypeInfo)  (ht:P.underlying t=some (.slice e)) (hu:P.underlying u=some .string) (hi:P.info? e=some i) (hz:i.zero=some (.int .u8 0))
 (hsize:i.size=1) (hby:i.bytes=1) (v:Value) (n:Nat) (xs:List Value) (hs:a.eval s=v) (hown:OwnS o c0 w e 1 v n xs) (b:ByteArray) (hx:a.eval x = .string b) (hb:n+b.size≤140737488355328)
 (h:∀v' w',OwnS (band o w.heap.size w'.heap.size c0) c0 w' e 1 v' (n+b.size) (xs++bvs b.data.toList)→Step o (only c0) w (band o w.heap.size w'.heap.size c0) w'→w.grownBy w' v.ownBlock→K (a.put op.dst v') w'):op.wp P a w K Q:=by
 obtain ⟨v',w',hrun,h2,h3,h4⟩:=run_append_str_S (P:=P) w t u op.type e i ht hu hi hz hsize hby v n xs hown b hb
 unfold Oper.wp execOp
 simp only [ho,resolve,invoke,builtin,Sem.run_bind,Sem.run_pure,Result.andThen_ok,List.map_toArray,List.map_cons,List.map_nil,hs,hx,hrun]
 exact h v' w' h2 h3 h4
theorem step_append_str_S {ops:Array Oper} {op:Oper} {a:Act} {K:Act→World→Prop} {Q:Exit→Act→World→Prop} {E:Prop} (hgd:op.guard=none) {o:Nat→Nat} {c0:Nat} (s x:Operand) (t u:TypeId)
 (ho:op.op = .call {callee := .builtin .append,args:=#[s,x],argTypes:=#[t,u]})
 (e:TypeId) (i:TypeInfo)  (ht:P.underlying t=some (.slice e)) (hu:P.underlying u=some .string) (hi:P.info? e=some i) (hz:i.zero=some (.int .u8 0))
 (hsize:i.size=1) (hby:i.bytes=1) (v:Value) (n:Nat) (xs:List Value) (hs:a.eval s=v) (hown:OwnS o c0 w e 1 v n xs) (b:ByteArray) (hx:a.eval x = .string b) (hb:n+b.size≤140737488355328)
 (h:∀v' w',OwnS (band o w.heap.size w'.heap.size c0) c0 w' e 1 v' (n+b.size) (xs++bvs b.data.toList)→Step o (only c0) w (band o w.heap.size w'.heap.size c0) w'→w.grownBy w' v.ownBlock→K (a.put op.dst v') w') :
 if Region.wanted op (yielded ops a.tmps)=true then Oper.wp P op a w K Q else E:=by
 have hw:Region.wanted op (yielded ops a.tmps)=true:=by simp [Region.wanted,hgd]
 rw [if_pos hw]
 exact wp_append_str_S w s x t u ho e i ht hu hi hz hsize hby v n xs hs hown b hx hb h
end
structure Wr where
 bs:List UInt8
 e:Int
def WrAt (T:TypeId) (o:Nat→Nat) (c:Nat) (w:World) (p:Nat) (W:Wr):Prop :=
 ∃v,Blk w p T #[v, .int .i64 W.e]∧o p=c∧OwnS o c w 5 1 v W.bs.length (bvs W.bs)
section
variable {T:TypeId} {o o':Nat→Nat} {c:Nat} {D:Nat→Prop} {w w':World} {p:Nat} {W:Wr}
theorem WrAt.step (h:WrAt T o c w p W) (hk:Step o D w o' w') (hne:¬D c):WrAt T o' c w' p W:=by
 obtain ⟨v,hb,hc,hv⟩:=h
 exact ⟨v,hb.step hk (by rw [hc];exact hne),(hk.old p hb.lt).trans hc,hv.step hk hne⟩
theorem WrAt.below_ (h:WrAt T o c w p W) (hb:Below w.heap.size w w'):WrAt T o c w' p W:=by
 obtain ⟨v,h1,h2,h3⟩:=h
 exact ⟨v,h1.below_ hb,h2,h3.below_ hb⟩
theorem WrAt.alloc (h:WrAt T o c w p W) (x:Obj):WrAt T o c (w.alloc x) p W:=h.below_ ((Below.refl _ _).alloc (Nat.le_refl _) x)
theorem WrAt.drewN (h:WrAt T o c w p W) (n:Nat):WrAt T o c (w.drewN n) p W:=h
theorem WrAt.lt (h:WrAt T o c w p W):p<w.heap.size:=by obtain ⟨v,hb,_⟩:=h;exact hb.lt
theorem WrAt.open_ (h:WrAt T o c w p W):∃A cap,w.cell? ⟨p,0,none⟩=some (.slice A W.bs.length cap)∧w.cell? ⟨p,1,none⟩=some (.int .i64 W.e)∧w.frozen? ⟨p,0,none⟩=false∧w.frozen? ⟨p,1,none⟩=false∧W.bs.length≤cap∧cap≤9223372036854775807∧p<w.heap.size ∧
 Hid (Blk w p T #[.slice A W.bs.length cap, .int .i64 W.e])∧Hid (o p=c)∧Hid (OwnS o c w 5 1 (.slice A W.bs.length cap) W.bs.length (bvs W.bs)):=by
 obtain ⟨v,hb,hc,hv⟩:=h
 rcases hv.1.2 with ⟨rfl,h0⟩ | ⟨g,cap,cur,rfl,_,_,h1,h2,_⟩
 ·refine ⟨none,0,?_⟩
  have hv':=hv
  rw [h0] at hv' ⊢
  have hb':Blk w p T #[.slice none 0 0, .int .i64 W.e]:=hb
  exact ⟨hb'.cell 0,hb'.cell 1,hb'.frozen 0,hb'.frozen 1,Nat.le_refl _,by omega,hb'.lt,hb',hc,hv'⟩
 ·unfold maxLen at h2
  exact ⟨some ⟨g,0,none⟩,cap,hb.cell 0,hb.cell 1,hb.frozen 0,hb.frozen 1,h1,by omega,hb.lt,hb,hc,hv⟩
theorem WrAt.setE (h:WrAt T o c w p W) (hT:T≠5) (e:Int):WrAt T o c (w.setCell ⟨p,1,none⟩ (.int .i64 e)) p {W with e:=e}:=by
 obtain ⟨v,hb,hc,hv⟩:=h
 exact ⟨v,hb.set_ 1 _,hc,hv.setCell (p:=⟨p,1,none⟩) (own_blk_ne hv hb (fun e=>hT e.symm)) _⟩
theorem WrAt.setB {A:Option Addr} {cap:Nat} {l:List UInt8} {cs:Value} (hb:Blk w p T #[cs, .int .i64 W.e]) (hc:o p=c) (hT:T≠5) (hv:OwnS o c w 5 1 (.slice A l.length cap) l.length (bvs l)) :
 WrAt T o c (w.setCell ⟨p,0,none⟩ (.slice A l.length cap)) p {W with bs:=l} :=
 ⟨_,hb.set_ 0 _,hc,hv.setCell (p:=⟨p,0,none⟩) (own_blk_ne hv hb (fun e=>hT e.symm)) _⟩
end
def numOk (v:Nat) (n:Int):Prop:=1≤n∧n≤8∧v<256 ^ n.toNat
instance (v:Nat) (n:Int):Decidable (numOk v n):=inferInstanceAs (Decidable (_∧_∧_))
section
variable {o:Nat→Nat} {c:Nat} {w:World} {p:Nat} {W:Wr}
set_option maxHeartbeats 400000 in
theorem fails_old (h:WrAt 242 o c w p W) (he:W.e≠0) (e:Int) :
 Calls Tryz.prog 208 #[.pointer (some ⟨p,0,none⟩), .int .i64 e] w fun r w'=>r = .returned (.bool true)∧w=w':=by
 obtain ⟨A,cap,h0,h1,f0,f1,hc1,hc2,hlt,HB,HC,HV⟩:=h.open_
 have t1:(W.e == 0)=false:=beq_eq_false_iff_ne.2 he
 have t2:(W.e != 0)=true:=bne_iff_ne.2 he
 clear h
 go_enter Tryz.func208,Tryz.ntmps208
 go_wp2
 go_ret
 exact ⟨rfl,rfl⟩
set_option maxHeartbeats 400000 in
theorem fails_new (h:WrAt 242 o c w p W) (he:W.e=0) (e:Int) (hne:e≠0) :
 Calls Tryz.prog 208 #[.pointer (some ⟨p,0,none⟩), .int .i64 e] w fun r w'=>r = .returned (.bool true)∧WrAt 242 o c w' p {W with e:=e}∧Step o (only c) w o w':=by
 have HW:=Lib.hid h
 obtain ⟨A,cap,h0,h1,f0,f1,hc1,hc2,hlt,HB,HC,HV⟩:=h.open_
 rw [he] at h1
 have t2:(e != 0)=true:=bne_iff_ne.2 hne
 clear h he
 go_enter Tryz.func208,Tryz.ntmps208
 go_wp2
 go_ret
 exact ⟨rfl,HW.out.setE (by decide) e,(Step.refl o (only c) w).setCell (p:=⟨p,1,none⟩) HC.out _⟩
set_option maxHeartbeats 400000 in
theorem fails_ok (h:WrAt 242 o c w p W) (he:W.e=0) :
 Calls Tryz.prog 208 #[.pointer (some ⟨p,0,none⟩), .int .i64 0] w fun r w'=>r = .returned (.bool false)∧WrAt 242 o c w' p W∧Step o (only c) w o w':=by
 have HW:=Lib.hid h
 obtain ⟨A,cap,h0,h1,f0,f1,hc1,hc2,hlt,HB,HC,HV⟩:=h.open_
 rw [he] at h1
 have HE:=Lib.hid he
 clear h he
 go_enter Tryz.func208,Tryz.ntmps208
 go_wp2
 go_ret
 have h9:=HW.out.setE (by decide) 0
 have e9:({W with e:=0}:Wr)=W:=by
  have:=HE.out
  cases W
  simp at this
  subst this
  rfl
 rw [e9] at h9
 exact ⟨rfl,h9,(Step.refl o (only c) w).setCell (p:=⟨p,1,none⟩) HC.out _⟩
end
theorem wrongNum_out (v n:Int) (w:World) (h:n<1∨8<n):Calls Tryz.prog 195 #[.int .u64 v, .int .i64 n] w fun e w'=>e = .returned (.int .i64 1)∧w=w':=by
 by_cases h0:n<1
 ·go_enter Tryz.func195,Tryz.ntmps195
  go_wp2
  go_ret
  exact ⟨rfl,rfl⟩
 ·have h1:8<n:=by omega
  go_enter Tryz.func195,Tryz.ntmps195
  go_wp2
  go_ret
  exact ⟨rfl,rfl⟩
theorem wrongNum_8 (v:Nat) (w:World):Calls Tryz.prog 195 #[.int .u64 v, .int .i64 8] w fun e w'=>e = .returned (.int .i64 0)∧w=w':=by
 go_enter Tryz.func195,Tryz.ntmps195
 go_wp2
 go_ret
 exact ⟨rfl,rfl⟩
theorem wrongNum_in (v:Nat) (n:Int) (hv:v<18446744073709551616) (h1:1≤n) (h7:n≤7) (w:World) :
 Calls Tryz.prog 195 #[.int .u64 v, .int .i64 n] w fun e w'=>e = .returned (.int .i64 (if v<256 ^ n.toNat then 0 else 1))∧w=w':=by
 have hn:n=1∨n=2∨n=3∨n=4∨n=5∨n=6∨n=7:=by omega
 rcases hn with rfl | rfl | rfl | rfl | rfl | rfl | rfl
 ·have e:(if v<256 ^ (1:Int).toNat then (0:Int) else 1)=if v<256 then 0 else 1:=rfl
  rw [e]
  clear e h1 h7
  by_cases hk:v<256
  ·have t1:((v:Int) / 256 != 0)=false:=by simp;omega
   rw [if_pos hk]
   clear hk
   go_enter Tryz.func195,Tryz.ntmps195
   go_wp2
   go_ret
   exact ⟨rfl,rfl⟩
  ·have t1:((v:Int) / 256 != 0)=true:=by simp;omega
   rw [if_neg hk]
   clear hk
   go_enter Tryz.func195,Tryz.ntmps195
   go_wp2
   go_ret
   exact ⟨rfl,rfl⟩
 ·have e:(if v<256 ^ (2:Int).toNat then (0:Int) else 1)=if v<65536 then 0 else 1:=rfl
  rw [e]
  clear e h1 h7
  by_cases hk:v<65536
  ·have t1:((v:Int) / 65536 != 0)=false:=by simp;omega
   rw [if_pos hk]
   clear hk
   go_enter Tryz.func195,Tryz.ntmps195
   go_wp2
   go_ret
   exact ⟨rfl,rfl⟩
  ·have t1:((v:Int) / 65536 != 0)=true:=by simp;omega
   rw [if_neg hk]
   clear hk
   go_enter Tryz.func195,Tryz.ntmps195
   go_wp2
   go_ret
   exact ⟨rfl,rfl⟩
 ·have e:(if v<256 ^ (3:Int).toNat then (0:Int) else 1)=if v<16777216 then 0 else 1:=rfl
  rw [e]
  clear e h1 h7
  by_cases hk:v<16777216
  ·have t1:((v:Int) / 16777216 != 0)=false:=by simp;omega
   rw [if_pos hk]
   clear hk
   go_enter Tryz.func195,Tryz.ntmps195
   go_wp2
   go_ret
   exact ⟨rfl,rfl⟩
  ·have t1:((v:Int) / 16777216 != 0)=true:=by simp;omega
   rw [if_neg hk]
   clear hk
   go_enter Tryz.func195,Tryz.ntmps195
   go_wp2
   go_ret
   exact ⟨rfl,rfl⟩
 ·have e:(if v<256 ^ (4:Int).toNat then (0:Int) else 1)=if v<4294967296 then 0 else 1:=rfl
  rw [e]
  clear e h1 h7
  by_cases hk:v<4294967296
  ·have t1:((v:Int) / 4294967296 != 0)=false:=by simp;omega
   rw [if_pos hk]
   clear hk
   go_enter Tryz.func195,Tryz.ntmps195
   go_wp2
   go_ret
   exact ⟨rfl,rfl⟩
  ·have t1:((v:Int) / 4294967296 != 0)=true:=by simp;omega
   rw [if_neg hk]
   clear hk
   go_enter Tryz.func195,Tryz.ntmps195
   go_wp2
   go_ret
   exact ⟨rfl,rfl⟩
 ·have e:(if v<256 ^ (5:Int).toNat then (0:Int) else 1)=if v<1099511627776 then 0 else 1:=rfl
  rw [e]
  clear e h1 h7
  by_cases hk:v<1099511627776
  ·have t1:((v:Int) / 1099511627776 != 0)=false:=by simp;omega
   rw [if_pos hk]
   clear hk
   go_enter Tryz.func195,Tryz.ntmps195
   go_wp2
   go_ret
   exact ⟨rfl,rfl⟩
  ·have t1:((v:Int) / 1099511627776 != 0)=true:=by simp;omega
   rw [if_neg hk]
   clear hk
   go_enter Tryz.func195,Tryz.ntmps195
   go_wp2
   go_ret
   exact ⟨rfl,rfl⟩
 ·have e:(if v<256 ^ (6:Int).toNat then (0:Int) else 1)=if v<281474976710656 then 0 else 1:=rfl
  rw [e]
  clear e h1 h7
  by_cases hk:v<281474976710656
  ·have t1:((v:Int) / 281474976710656 != 0)=false:=by simp;omega
   rw [if_pos hk]
   clear hk
   go_enter Tryz.func195,Tryz.ntmps195
   go_wp2
   go_ret
   exact ⟨rfl,rfl⟩
  ·have t1:((v:Int) / 281474976710656 != 0)=true:=by simp;omega
   rw [if_neg hk]
   clear hk
   go_enter Tryz.func195,Tryz.ntmps195
   go_wp2
   go_ret
   exact ⟨rfl,rfl⟩
 ·have e:(if v<256 ^ (7:Int).toNat then (0:Int) else 1)=if v<72057594037927936 then 0 else 1:=rfl
  rw [e]
  clear e h1 h7
  by_cases hk:v<72057594037927936
  ·have t1:((v:Int) / 72057594037927936 != 0)=false:=by simp;omega
   rw [if_pos hk]
   clear hk
   go_enter Tryz.func195,Tryz.ntmps195
   go_wp2
   go_ret
   exact ⟨rfl,rfl⟩
  ·have t1:((v:Int) / 72057594037927936 != 0)=true:=by simp;omega
   rw [if_neg hk]
   clear hk
   go_enter Tryz.func195,Tryz.ntmps195
   go_wp2
   go_ret
   exact ⟨rfl,rfl⟩
theorem wrongNum_any (v:Nat) (n:Int) (hv:v<18446744073709551616) (w:World) :
 Calls Tryz.prog 195 #[.int .u64 v, .int .i64 n] w fun e w'=>e = .returned (.int .i64 (if numOk v n then 0 else 1))∧w=w':=by
 by_cases h0:n<1∨8<n
 ·rw [if_neg (by unfold numOk;omega)]
  exact wrongNum_out v n w h0
 ·by_cases h8:n=8
  ·subst h8
   rw [if_pos (show numOk v 8 from ⟨by omega,by omega,by simpa using hv⟩)]
   exact wrongNum_8 v w
  ·have e:(if numOk v n then (0:Int) else 1)=if v<256 ^ n.toNat then 0 else 1:=by
    by_cases hv2:v<256 ^ n.toNat
    ·rw [if_pos hv2,if_pos ⟨by omega,by omega,hv2⟩]
    ·rw [if_neg hv2,if_neg (fun h=>hv2 h.2.2)]
   rw [e]
   exact wrongNum_in v n hv (by omega) (by omega) w
def le (v:Nat):Nat→List UInt8
 | 0 => []
 | k+1=>le v k ++ [UInt8.ofNat (v / 256 ^ k)]
theorem le_len (v k:Nat):(le v k).length=k:=by
 induction k with
 | zero=>rfl
 | succ k ih=>simp [le,ih]
def Wr.num (W:Wr) (v:Nat) (n:Int):Wr:=if W.e≠0 then W else if numOk v n then {W with bs:=W.bs++le v n.toNat} else {W with e:=1}
theorem info_u8 : (Tryz.prog.info? 5).map (fun i=>(i.zero,i.size,i.bytes))=some (some (.int .u8 0),1,1):=by kernel_rfl
theorem own_form' {o:Nat→Nat} {c:Nat} {w:World} {e:TypeId} {size n:Nat} {v:Value} {xs:List Value} (h:OwnS o c w e size v n xs):∃A cap,v = .slice A n cap∧n≤cap∧cap≤maxLen:=by
 rcases h.1.2 with ⟨rfl,rfl⟩ | ⟨g,cap,cur,rfl,_,_,h1,h2,_⟩
 ·exact ⟨none,0,rfl,Nat.le_refl _,Nat.zero_le _⟩
 ·exact ⟨_,_,rfl,h1,h2⟩
section
variable {o:Nat→Nat} {c:Nat} {w:World} {p:Nat} {W:Wr}
set_option maxHeartbeats 1000000 in
theorem wnum_any (h:WrAt 242 o c w p W) (v:Nat) (n:Int) (hv:v<18446744073709551616) (hb:W.bs.length≤1000000000) :
 Calls Tryz.prog 171 #[.pointer (some ⟨p,0,none⟩), .int .u64 v, .int .i64 n] w fun r w'=>r = .returned (.pointer (some ⟨p,0,none⟩))∧∃o',WrAt 242 o' c w' p (W.num v n)∧Step o (only c) w o' w':=by
 have HW:=Lib.hid h
 clear h
 by_cases he:W.e=0
 ·by_cases hok:numOk v n
  ·have e1:W.num v n = {W with bs:=W.bs++le v n.toNat}:=by unfold Wr.num;rw [if_neg (by simpa using he),if_pos hok]
   have E1:=Lib.hid e1
   obtain ⟨hn1,hn8,_⟩:=hok
   have hok':(if numOk v n then (0:Int) else 1)=0:=if_pos ⟨hn1,hn8,by assumption⟩
   have HOK:=Lib.hid hok'
   have HE:=Lib.hid he
   have HV0:=Lib.hid hv
   clear e1 hok' he hv
   obtain ⟨i0,hi0,hz0,hz1,hz2⟩:=info_parts info_u8
   obtain ⟨m,rfl⟩:∃m:Nat,n=m:=⟨n.toNat,by omega⟩
   go_enter Tryz.func171,Tryz.ntmps171
   go_wp2_with fail
   refine (wrongNum_any v m HV0.out _).mono ?_
   rintro e w1 ⟨rfl,rfl⟩
   rw [HOK.out]
   go_wp2_with fail
   refine (fails_ok HW.out HE.out).mono ?_
   rintro e w1 ⟨rfl,hw1,hs1⟩
   have HW1:=Lib.hid hw1
   have HS1:=Lib.hid hs1
   clear hw1 hs1
   go_wp2_with fail
   go_loopw [1,18] (fun t1 t18 wr=>∃(k:Nat) (o':Nat→Nat),k≤m∧t18 = .int .i64 k∧t1 = .int .u64 ((v / 256 ^ k:Nat):Int)∧WrAt 242 o' c wr p {bs:=W.bs++le v k,e:=0}∧Step o (only c) w o' wr) (fun _ t18 _=>m - (intOf t18).toNat)
   case atStart =>
    refine ⟨0,o,Nat.zero_le _,rfl,by simp,?_,HS1.out⟩
    have:=HW1.out
    have h0:=HE.out
    cases W
    simp at h0
    subst h0
    simpa [le] using this
   case round =>
    obtain ⟨k,o1,hk,rfl,rfl,hw,hst⟩:=hrel
    have hu:v / 256 ^ k<18446744073709551616:=Nat.lt_of_le_of_lt (Nat.div_le_self _ _) HV0.out
    have hL:(W.bs++le v k).length≤1000000008:=by rw [List.length_append,le_len];omega
    have hnext:v / 256 ^ (k+1)=v / 256 ^ k / 256:=by rw [Nat.pow_succ,Nat.div_div_eq_div_mul]
    have hsn:W.bs++le v (k+1)=(W.bs++le v k) ++ [UInt8.ofNat (v / 256 ^ k)]:=by simp [le]
    have hw0:=hw
    have HNX:=Lib.hid hnext
    have HSN:=Lib.hid hsn
    clear hnext hsn
    generalize v / 256 ^ k=u at hu HNX HSN
    generalize hbs:W.bs++le v k=bs at hL hw HSN
    have HBS:=Lib.hid hbs
    clear hbs
    have HST:=Lib.hid hst
    have HWK:=Lib.hid hw0
    clear hst hw0
    by_cases hlt:k<m
    ·have hltI:(k:Int)<(m:Int):=by omega
     have hop:=hw.open_
     simp only at hop
     obtain ⟨A,cap,c0,c1,f0,f1,hc1,hc2,hpl,HB,HC,HV⟩:=hop
     have HU:=Lib.hid hu
     clear hw hu
     have hne:=own_blk_ne HV.out HB.out (by decide)
     have HNE:=Lib.hid hne
     clear hne
     go_wp2_with (at_builtin;refine wpList_append_S _ rfl (.tmp 24) (.tmp 27) 84 rfl 5 i0 _ 1 1 Tryz.underlying84 hi0 hz0 hz1 hz2 rfl (by omega) (.slice A bs.length cap) bs.length (bvs bs) rfl (HV.out.alloc _) (some ⟨wr.heap.size,0,none⟩) 1 1 [.int .u8 ((u:Int) % 256)] rfl (Reads.newAt wr 5 1 1 [.int .u8 ((u:Int) % 256)] #[.int .u8 ((u:Int) % 256)] wr.heap.size rfl rfl rfl) (by simp [Value.oneCell']) (by unfold maxLen;omega) (by omega) ?_;intro v2 w2 hown hst hg hat;have hb2:Blk w2 p 242 _:=(hg.block p (by simp;omega) (fun e=>HNE.out e.symm)).trans (HB.out.alloc _);have k0:=hb2.cell 0;have k1:=hb2.frozen 0;simp at k0 k1;obtain ⟨A2,cap2,rfl,_,_⟩:=own_form' hown;have HO2:=Lib.hid hown;have HS2:=Lib.hid hst;have HB2:=Lib.hid hb2;clear hown hst hg hat hb2)
     go_roundw
     case rel =>
      have hbv:bvs bs ++ [.int .u8 ((u:Int) % 256)]=bvs (bs ++ [UInt8.ofNat u]):=by
       rw [bvs_app]
       simp [bvs,bv]
      have h3:OwnS (band o1 (wr.alloc (.cells #[.int .u8 ((u:Int) % 256)] 5)).heap.size w2.heap.size c) c w2 5 1 (.slice A2 (bs ++ [UInt8.ofNat u]).length cap2) (bs ++ [UInt8.ofNat u]).length (bvs (bs ++ [UInt8.ofNat u])):=by
       rw [←hbv,List.length_append]
       exact HO2.out
      have hcol:=(HS2.out.old p (by simp;omega)).trans HC.out
      have h4:=WrAt.setB (W:=⟨bs,0⟩) (l:=bs ++ [UInt8.ofNat u]) HB2.out hcol (by decide) h3
      refine ⟨k+1,_,by omega,by go_num,by rw [HNX.out];simp,?_,((HST.out.alloc _).trans HS2.out).setCell (p:=⟨p,0,none⟩) hcol _⟩
      rw [HSN.out]
      rw [List.length_append] at h4
      exact h4
     case measure=>simp [intOf];omega
    ·have hltI:¬(k:Int)<(m:Int):=by omega
     go_wp2_with fail
     go_ret
     obtain rfl:k=m:=by omega
     refine ⟨rfl,o1,?_,HST.out⟩
     rw [E1.out,HE.out]
     exact HWK.out
  ·have e1:W.num v n = {W with e:=1}:=by unfold Wr.num;rw [if_neg (by simpa using he),if_neg hok]
   have E1:=Lib.hid e1
   have HOK:=Lib.hid (show (if numOk v n then (0:Int) else 1)=1 from if_neg hok)
   have HE:=Lib.hid he
   have HV0:=Lib.hid hv
   clear e1 hok he hv
   go_enter Tryz.func171,Tryz.ntmps171
   go_wp2_with fail
   refine (wrongNum_any v n HV0.out _).mono ?_
   rintro e w1 ⟨rfl,rfl⟩
   rw [HOK.out]
   go_wp2_with fail
   refine (fails_new HW.out HE.out 1 (by decide)).mono ?_
   rintro e w1 ⟨rfl,hw1,hs1⟩
   have HW1:=Lib.hid hw1
   have HS1:=Lib.hid hs1
   clear hw1 hs1
   go_wp2_with fail
   go_ret
   exact ⟨rfl,o,by rw [E1.out];exact HW1.out,HS1.out⟩
 ·have e1:W.num v n=W:=by unfold Wr.num;rw [if_pos he]
  have E1:=Lib.hid e1
  have HE:=Lib.hid he
  have HV0:=Lib.hid hv
  clear e1 he hv
  go_enter Tryz.func171,Tryz.ntmps171
  go_wp2_with fail
  refine (wrongNum_any v n HV0.out _).mono ?_
  rintro e w1 ⟨rfl,rfl⟩
  generalize (if numOk v n then (0:Int) else 1)=E
  go_wp2_with fail
  refine (fails_old HW.out HE.out _).mono ?_
  rintro e w1 ⟨rfl,rfl⟩
  go_wp2_with fail
  go_ret
  exact ⟨rfl,o,by rw [E1.out];exact HW.out,Step.refl _ _ _⟩
end
def Wr.text (W:Wr) (s:ByteArray) (room:Int):Wr :=
 if W.e≠0 then W else if room<0∨60000<room then {W with e:=1} else if room<s.size then {W with e:=2} else {W with bs:=W.bs++le s.size 2++s.data.toList}
def Wr.flag (W:Wr) (b:Bool):Wr:=W.num (if b then 1 else 0) 1
theorem Wr.num_ok {W:Wr} {v:Nat} {n:Int} (he:W.e=0) (h:numOk v n):W.num v n = {W with bs:=W.bs++le v n.toNat}:=by unfold Wr.num;rw [if_neg (by simpa using he),if_pos h]
section
variable {o:Nat→Nat} {c:Nat} {w:World} {p:Nat} {W:Wr}
def u64 (v:Int):Nat:=(v % 18446744073709551616).toNat
end
end Go.Proofs.YtldoeodkeieejaaGreatDoor
