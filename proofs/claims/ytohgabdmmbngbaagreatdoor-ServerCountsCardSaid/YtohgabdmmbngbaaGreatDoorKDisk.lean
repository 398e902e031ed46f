import Derived.Test.YtohgabdmmbngbaaGreatDoorKWin
import Derived.MapKept
import Derived.Test.YtohgabdmmbngbaaGreatDoorKLtabQ
import Derived.Test.YtohgabdmmbngbaaGreatDoorKSortK
set_option linter.unusedVariables false
set_option linter.unusedSimpArgs false
namespace Go.Proofs.YtohgabdmmbngbaaGreatDoor
open Go.RowKit Go.MapKept
def EsR (es:Array MapEntry) (f:Int→Option Value):Prop:=∀k v,f k=some v↔∃e∈es.toList,e.key = .int .i64 k∧e.val=v
def MapR (o:Nat→Nat) (c:Nat) (w:World) (m:Nat) (f:Int→Option Value):Prop :=
 o m=c∧∃es clock,w.heap[m]? = some (.map es clock)∧Stamped es clock∧(∀x∈es.toList,IsKey (.int .i64) x.key)∧EsR es f
def upd {α:Type} (f:Int→Option α) (k:Int) (v:α):Int→Option α:=fun j=>if j=k then some v else f j
theorem upd_same {α:Type} (f:Int→Option α) (k:Int) (v:α):upd f k v k=some v:=if_pos rfl
theorem upd_other {α:Type} (f:Int→Option α) {k j:Int} (v:α) (h:j≠k):upd f k v j=f j:=if_neg h
theorem nodup_at {l:List Value} (h:l.Nodup) {i j:Nat} {v:Value} (hi:l[i]? = some v) (hj:l[j]? = some v):i=j:=by
 obtain ⟨h1,h2⟩:=List.getElem?_eq_some_iff.1 hi
 obtain ⟨h3,h4⟩:=List.getElem?_eq_some_iff.1 hj
 rcases Nat.lt_trichotomy i j with hlt | he | hlt
 ·exact absurd (h2.trans h4.symm) (List.pairwise_iff_getElem.1 h i j h1 h3 hlt)
 ·exact he
 ·exact absurd (h4.trans h2.symm) (List.pairwise_iff_getElem.1 h j i h3 h1 hlt)
section
variable {o o':Nat→Nat} {c:Nat} {D:Nat→Prop} {w w':World} {m:Nat} {f g:Int→Option Value}
theorem MapR.lt (h:MapR o c w m f):m<w.heap.size:=by
 obtain ⟨_,es,clock,h1,_⟩:=h
 exact (Array.getElem?_eq_some_iff.1 h1).1
theorem MapR.heap (h:MapR o c w m f) (hb:w'.heap[m]? = w.heap[m]?) (ho:o' m=o m):MapR o' c w' m f:=by
 obtain ⟨hc,es,clock,h1,h2⟩:=h
 exact ⟨ho.trans hc,es,clock,hb.trans h1,h2⟩
theorem MapR.step (h:MapR o c w m f) (hk:Step o D w o' w') (hne:¬D c):MapR o' c w' m f :=
 h.heap (hk.block m h.lt (by rw [h.1];exact hne)) (hk.old m h.lt)
theorem MapR.below_ (h:MapR o c w m f) (hb:Below w.heap.size w w'):MapR o c w' m f:=h.heap (hb.block m h.lt) rfl
theorem MapR.drewN (h:MapR o c w m f) (n:Nat):MapR o c (w.drewN n) m f:=h
theorem MapR.new (o:Nat→Nat) (w:World):MapR o (o w.heap.size) (w.alloc (.map #[] 0)) w.heap.size (fun _=>none):=by
 refine ⟨rfl,#[],0,heap_alloc_new w _,stamped_empty 0,by simp,fun k v => ?_⟩
 simp
theorem MapR.newAs (o:Nat→Nat) (w:World) (c:Nat) (h:o w.heap.size=c):MapR o c (w.alloc (.map #[] 0)) w.heap.size (fun _=>none):=by
 subst h
 exact MapR.new o w
section
variable {P:Program} {t kt e:TypeId}
theorem MapR.look (h:MapR o c w m f) (ht:P.underlying t=some (.map kt e)) (hk:P.underlying kt=some (.int .i64)) {z:Value} (hz:(zeroValue e).run P w = .ok z w) (k:Int) (ok:Bool) :
 (Instr.lookup t (.map (some m)) (.int .i64 k) ok).run P w = .ok (if ok then .tuple #[(f k).getD z, .bool (f k).isSome] else (f k).getD z) w:=by
 obtain ⟨_,es,clock,h1,hst,hks,hf⟩:=h
 have hkk:IsKey (.int .i64) (.int .i64 k):=rfl
 rcases findNow_spec hkk es.toList 0 hks with ⟨h3,h4⟩ | ⟨j,x,h3,h4,h5⟩
 ·have hn:f k=none:=by
   cases hfk:f k with
   | none=>rfl
   | some v =>
     obtain ⟨x,hx,e1,_⟩:=(hf k v).1 hfk
     exact absurd e1 (h4 x hx)
  simp [Instr.lookup,run_underlying ht,Go.MapKept.run_getObj_map h1,run_checkKey hk hkk,run_findKey hk h3,Result.andThen,hz,hn]
 ·have hs:f k=some x.val:=(hf k x.val).2 ⟨x,List.mem_of_getElem? h4,h5,rfl⟩
  simp [Instr.lookup,run_underlying ht,Go.MapKept.run_getObj_map h1,run_checkKey hk hkk,run_findKey hk h3,Result.andThen,hs]
theorem setHeap_step (hc:o m=c) (x:Obj):Step o (only c) w o {w with heap:=w.heap.setIfInBounds m x} :=
 ⟨rfl,rfl,rfl,by simp,fun _ _=>rfl,fun _ _=>rfl,fun k _ hne=>by
  have:m≠k:=by
   rintro rfl
   exact hne hc
  simp [this]⟩
theorem setHeap_blk {es:Array MapEntry} {clock:Nat} (h1:w.heap[m]? = some (.map es clock)) (x:Obj):∀g t cs,Blk w g t cs→Blk {w with heap:=w.heap.setIfInBounds m x} g t cs:=by
 intro g t cs h
 unfold Blk at h ⊢
 have:m≠g:=by
  rintro rfl
  rw [h1] at h
  cases h
 simpa [Array.getElem?_setIfInBounds,this] using h
theorem MapR.put (h:MapR o c w m f) (ht:P.underlying t=some (.map kt e)) (hk:P.underlying kt=some (.int .i64)) (k:Int) (v:Value) :
 ∃w',(Instr.mapUpdate t (.map (some m)) (.int .i64 k) v).run P w = .ok () w'∧MapR o c w' m (upd f k v)∧Step o (only c) w o w'∧∀g t cs,Blk w g t cs→Blk w' g t cs:=by
 obtain ⟨hc,es,clock,h1,hst,hks,hf⟩:=h
 have hkk:IsKey (.int .i64) (.int .i64 k):=rfl
 rcases findNow_spec hkk es.toList 0 hks with ⟨h3,h4⟩ | ⟨j,x,h3,h4,h5⟩
 ·refine ⟨_,by simp [Instr.mapUpdate,run_underlying ht,Go.MapKept.run_getObj_map h1,run_checkKey hk hkk,run_findKey hk h3,run_setObj_map _ h1,Result.andThen];rfl,⟨hc,_,_,(heap_set h1).1,stamped_push hst h4,?_,fun j u => ?_⟩,setHeap_step hc _,setHeap_blk h1 _⟩
  ·intro y hy
   simp only [Array.toList_push,List.mem_append,List.mem_singleton] at hy
   rcases hy with hy | rfl
   ·exact hks y hy
   ·exact hkk
  ·simp only [Array.toList_push,List.mem_append,List.mem_singleton]
   by_cases hj:j=k
   ·subst hj
    rw [upd_same]
    constructor
    ·intro hh
     injection hh with hh
     exact ⟨_, .inr rfl,rfl,hh⟩
    ·rintro ⟨y,hy | rfl,e1,e2⟩
     ·exact absurd e1 (h4 y hy)
     ·rw [←e2]
   ·rw [upd_other f v hj,hf j u]
    constructor
    ·rintro ⟨y,hy,e1,e2⟩
     exact ⟨y, .inl hy,e1,e2⟩
    ·rintro ⟨y,hy | rfl,e1,e2⟩
     ·exact ⟨y,hy,e1,e2⟩
     ·injection e1 with _ e1
      exact absurd e1.symm hj
 ·have hj:es[j]? = some x:=by simpa using h4
  have hkey:∀e',es[j]? = some e'→({e' with key := .int .i64 k,val:=v}:MapEntry).key=e'.key:=fun e' he'=>by rw [hj] at he';cases he';exact h5.symm
  refine ⟨{w with heap:=w.heap.setIfInBounds m (.map (es.modify j fun e' => {e' with key := .int .i64 k,val:=v}) clock)},by simp [Instr.mapUpdate,run_underlying ht,Go.MapKept.run_getObj_map h1,run_checkKey hk hkk,run_findKey hk h3,hj,h5,run_keyThatStays hkk,run_setObj_map _ h1,Result.andThen],⟨hc,_,_,(heap_set h1).1,stamped_modify hst _ _ (fun _ _=>rfl) (fun e' _ he'=>hkey e' he'),isKey_modify hks _ _ hkey,fun i u => ?_⟩,setHeap_step hc _,setHeap_blk h1 _⟩
  have hmem:∀y,y∈(es.modify j (fun e' => {e' with key := .int .i64 k,val:=v})).toList↔(y = {x with key := .int .i64 k,val:=v}∨∃i',i'≠j∧es[i']? = some y):=by
   intro y
   rw [Array.mem_toList_iff,Array.mem_iff_getElem?]
   constructor
   ·rintro ⟨i',hi'⟩
    rw [Array.getElem?_modify] at hi'
    by_cases hij:j=i'
    ·subst hij
     simp [hj] at hi'
     exact .inl hi'.symm
    ·rw [if_neg hij] at hi'
     exact .inr ⟨i',fun e=>hij e.symm,hi'⟩
   ·rintro (rfl | ⟨i',hne,hi'⟩)
    ·exact ⟨j,by simp [Array.getElem?_modify,hj]⟩
    ·exact ⟨i',by rw [Array.getElem?_modify,if_neg (fun e=>hne e.symm)];exact hi'⟩
  have huni:∀i' y,i'≠j→es[i']? = some y→y.key ≠ .int .i64 k:=by
   intro i' y hne hi' hky
   refine hne (nodup_at (v := .int .i64 k) hst.2.2 (i:=i') (j:=j) ?_ ?_)
   ·rw [List.getElem?_map,Array.getElem?_toList,hi',Option.map_some,hky]
   ·rw [List.getElem?_map,Array.getElem?_toList,hj,Option.map_some,h5]
  by_cases hik:i=k
  ·subst hik
   rw [upd_same]
   constructor
   ·intro hh
    injection hh with hh
    exact ⟨_,(hmem _).2 (.inl rfl),rfl,hh⟩
   ·rintro ⟨y,hy,e1,e2⟩
    rcases (hmem y).1 hy with rfl | ⟨i',hne,hi'⟩
    ·rw [←e2]
    ·exact absurd e1 (huni i' y hne hi')
  ·rw [upd_other f v hik,hf i u]
   constructor
   ·rintro ⟨y,hy,e1,e2⟩
    refine ⟨y,(hmem y).2 (.inr ?_),e1,e2⟩
    rw [Array.mem_toList_iff,Array.mem_iff_getElem?] at hy
    obtain ⟨i',hi'⟩:=hy
    refine ⟨i',?_,hi'⟩
    rintro rfl
    rw [hj] at hi'
    injection hi' with hi'
    subst hi'
    rw [h5] at e1
    injection e1 with _ e1
    exact hik e1.symm
   ·rintro ⟨y,hy,e1,e2⟩
    rcases (hmem y).1 hy with rfl | ⟨i',hne,hi'⟩
    ·injection e1 with _ e1
     exact absurd e1.symm hik
    ·exact ⟨y,by rw [Array.mem_toList_iff,Array.mem_iff_getElem?];exact ⟨i',hi'⟩,e1,e2⟩
end
end
end Go.Proofs.YtohgabdmmbngbaaGreatDoor
namespace Go.Proofs.YtohgabdmmbngbaaGreatDoor
open Go.RowKit Go.MapKept
def del {α:Type} (f:Int→Option α) (k:Int):Int→Option α:=fun j=>if j=k then none else f j
theorem del_same {α:Type} (f:Int→Option α) (k:Int):del f k k=none:=if_pos rfl
theorem del_other {α:Type} (f:Int→Option α) {k j:Int} (h:j≠k):del f k j=f j:=if_neg h
theorem del_none {α:Type} {f:Int→Option α} {k:Int} (h:f k=none):del f k=f:=by
 funext j
 unfold del
 split
 ·rename_i e
  rw [e,h]
 ·rfl
section
variable {o:Nat→Nat} {c:Nat} {w:World} {m:Nat} {f:Int→Option Value} {P:Program} {t kt e:TypeId}
theorem MapR.del (h:MapR o c w m f) (ht:P.underlying t=some (.map kt e)) (hk:P.underlying kt=some (.int .i64)) (k:Int) (k2 ty:TypeId) :
 ∃w',(Builtin.delete_ #[t,k2] ty #[.map (some m), .int .i64 k]).run P w = .ok (.tuple #[]) w'∧MapR o c w' m (del f k)∧Step o (only c) w o w'∧∀g t cs,Blk w g t cs→Blk w' g t cs:=by
 obtain ⟨hc,es,clock,h1,hst,hks,hf⟩:=h
 have hkk:IsKey (.int .i64) (.int .i64 k):=rfl
 rcases findNow_spec hkk es.toList 0 hks with ⟨h3,h4⟩ | ⟨j,x,h3,h4,h5⟩
 ·refine ⟨_,by simp [Builtin.delete_,run_underlying ht,Go.MapKept.run_getObj_map h1,run_checkKey hk hkk,run_findKey hk h3,run_setObj_map _ h1,Result.andThen],⟨hc,_,_,(heap_set h1).1,hst,hks,fun j u => ?_⟩,setHeap_step hc _,setHeap_blk h1 _⟩
  have hn:f k=none:=by
   cases hfk:f k with
   | none=>rfl
   | some v =>
     obtain ⟨x,hx,e1,_⟩:=(hf k v).1 hfk
     exact absurd e1 (h4 x hx)
  rw [del_none hn]
  exact hf j u
 ·have hj:es[j]? = some x:=by simpa using h4
  have hjs:j<es.size:=(Array.getElem?_eq_some_iff.1 hj).1
  have hsub:(es.eraseIdxIfInBounds j).toList=es.toList.eraseIdx j:=by
   unfold Array.eraseIdxIfInBounds
   rw [dif_pos hjs]
   simp
  refine ⟨_,by simp [Builtin.delete_,run_underlying ht,Go.MapKept.run_getObj_map h1,run_checkKey hk hkk,run_findKey hk h3,run_setObj_map _ h1,Result.andThen],⟨hc,_,_,(heap_set h1).1,stamped_erase hst j,?_,fun i u => ?_⟩,setHeap_step hc _,setHeap_blk h1 _⟩
  ·intro y hy
   rw [hsub] at hy
   exact hks y ((List.eraseIdx_sublist _ _).subset hy)
  ·rw [hsub]
   by_cases hik:i=k
   ·subst hik
    rw [del_same]
    constructor
    ·intro hh
     cases hh
    ·rintro ⟨y,hy,e1,_⟩
     obtain ⟨i',hne,hi'⟩:=List.mem_eraseIdx_iff_getElem?.1 hy
     refine absurd ?_ hne
     refine nodup_at (v := .int .i64 i) hst.2.2 (i:=i') (j:=j) ?_ ?_
     ·rw [List.getElem?_map,hi',Option.map_some,e1]
     ·rw [List.getElem?_map,h4,Option.map_some,h5]
   ·rw [del_other f hik,hf i u]
    constructor
    ·rintro ⟨y,hy,e1,e2⟩
     obtain ⟨i',hi'⟩:=List.mem_iff_getElem?.1 hy
     refine ⟨y,List.mem_eraseIdx_iff_getElem?.2 ⟨i',?_,hi'⟩,e1,e2⟩
     rintro rfl
     rw [h4] at hi'
     injection hi' with hi'
     subst hi'
     rw [h5] at e1
     injection e1 with _ e1
     exact hik e1.symm
    ·rintro ⟨y,hy,e1,e2⟩
     exact ⟨y,(List.eraseIdx_sublist _ _).subset hy,e1,e2⟩
end
def behindI (now n:Int):Int:=if now>9223372036854775807 - n then 9223372036854775807 else now+n
structure Le where
 term:Int
 m:Int→Option Int
def Le.zero (n:Int):Le:=⟨min (max n 1) 100000,fun _=>none⟩
def Le.renew (L:Le) (node now:Int):Bool×Le :=
 match L.m node with
 | none=>(true,{L with m:=upd L.m node (behindI now L.term)})
 | some was=>if behindI now L.term≤was then (false,L) else (true,{L with m:=upd L.m node (behindI now L.term)})
def Le.drop (L:Le) (node:Int):Bool×Le:=((L.m node).isSome,{L with m:=del L.m node})
def Le.ok (L:Le):Prop:=1≤L.term∧L.term≤100000
theorem Le.zero_ok (n:Int):(Le.zero n).ok:=by
 unfold Le.zero Le.ok
 dsimp
 omega
theorem Le.renew_ok {L:Le} (h:L.ok) (node now:Int):(L.renew node now).2.ok:=by
 unfold Le.renew
 cases L.m node with
 | none=>exact h
 | some was =>
   dsimp
   split
   ·exact h
   ·exact h
theorem Le.drop_ok {L:Le} (h:L.ok) (node:Int):(L.drop node).2.ok:=h
def leV (f:Int→Option Int):Int→Option Value:=fun k=>(f k).map (fun x => .int .i64 x)
theorem leV_upd (f:Int→Option Int) (k x:Int):upd (leV f) k (.int .i64 x)=leV (upd f k x):=by
 funext j
 unfold leV upd
 split <;> rfl
theorem leV_del (f:Int→Option Int) (k:Int):del (leV f) k=leV (del f k):=by
 funext j
 unfold leV del
 split <;> rfl
theorem map_nil (m:Nat) (w:World):(binOp .eql 66 (.map (some m)) (.map none)).run Tryz.prog w = .ok (.bool false) w:=by kernel_rfl
theorem zero_i (w:World):(zeroValue 3).run Tryz.prog w = .ok (.int .i64 0) w:=by kernel_rfl
section
variable {o o':Nat→Nat} {c:Nat} {C:Nat→Prop} {w w':World} {t:Nat} {L:Le} {m:Nat}
structure LeIn (o:Nat→Nat) (c:Nat) (w:World) (t:Nat) (L:Le) (m:Nat):Prop where
 blk:Blk w t 168 #[.int .i64 L.term, .map (some m)]
 col:o t=c
 map:MapR o (c+1) w m (leV L.m)
def LeAt (o:Nat→Nat) (c:Nat) (w:World) (t:Nat) (L:Le):Prop:=∃m,LeIn o c w t L m
theorem LeIn.step (h:LeIn o c w t L m) (hs:Step o C w o' w') (h0:¬C c) (h1:¬C (c+1)):LeIn o' c w' t L m :=
 ⟨h.blk.step hs (by rw [h.col];exact h0),(hs.old t h.blk.lt).trans h.col,h.map.step hs h1⟩
theorem LeIn.below_ (h:LeIn o c w t L m) (hb:Below w.heap.size w w'):LeIn o c w' t L m:=⟨h.blk.below_ hb,h.col,h.map.below_ hb⟩
theorem LeAt.step (h:LeAt o c w t L) (hs:Step o C w o' w') (h0:¬C c) (h1:¬C (c+1)):LeAt o' c w' t L:=by
 obtain ⟨m,h⟩:=h
 exact ⟨m,h.step hs h0 h1⟩
theorem LeAt.below_ (h:LeAt o c w t L) (hb:Below w.heap.size w w'):LeAt o c w' t L:=by
 obtain ⟨m,h⟩:=h
 exact ⟨m,h.below_ hb⟩
theorem LeIn.put (h:LeIn o c w t L m) (k x:Int) :
 ∃w',(Instr.mapUpdate 66 (.map (some m)) (.int .i64 k) (.int .i64 x)).run Tryz.prog w = .ok () w'∧LeIn o c w' t {L with m:=upd L.m k x} m∧Step o (only (c+1)) w o w'∧∀g t cs,Blk w g t cs→Blk w' g t cs:=by
 obtain ⟨w',h1,h2,h3,h4⟩:=h.map.put Tryz.underlying66 Tryz.underlying3 k (.int .i64 x)
 rw [leV_upd] at h2
 exact ⟨w',h1,⟨h4 _ _ _ h.blk,h.col,h2⟩,h3,h4⟩
theorem LeIn.delete (h:LeIn o c w t L m) (k:Int) (k2 ty:TypeId) :
 ∃w',(Builtin.delete_ #[66,k2] ty #[.map (some m), .int .i64 k]).run Tryz.prog w = .ok (.tuple #[]) w'∧LeIn o c w' t {L with m:=del L.m k} m∧Step o (only (c+1)) w o w'∧∀g t cs,Blk w g t cs→Blk w' g t cs:=by
 obtain ⟨w',h1,h2,h3,h4⟩:=h.map.del Tryz.underlying66 Tryz.underlying3 k k2 ty
 rw [leV_del] at h2
 exact ⟨w',h1,⟨h4 _ _ _ h.blk,h.col,h2⟩,h3,h4⟩
set_option maxRecDepth 100000 in
theorem lnone_any (h:LeIn o c w t L m):Calls Tryz.prog 109 #[.pointer (some ⟨t,0,none⟩)] w fun e w'=>e = .returned (.bool false)∧w'=w:=by
 have x1:w.cell? ⟨t,1,none⟩=some (.map (some m)):=h.blk.cell 1
 have hmn:=map_nil m w
 clear h
 go_enter Tryz.func109,Tryz.ntmps109
 go_wp2_with fail
 go_ret
 exact ⟨rfl,rfl⟩
theorem lterm_any (n:Int) (w:World):Calls Tryz.prog 105 #[.int .i64 n] w fun e w'=>e = .returned (.int .i64 (min (max n 1) 100000))∧w'=w:=by
 go_enter Tryz.func105,Tryz.ntmps105
 go_wp2_with fail
 go_ret
 exact ⟨rfl,rfl⟩
theorem lbehind_any (now n:Int) (hn:0≤now∧now≤9223372036854775807) (h:1≤n∧n≤100000) (w:World):Calls Tryz.prog 110 #[.int .i64 now, .int .i64 n] w fun e w'=>e = .returned (.int .i64 (behindI now n))∧w'=w:=by
 by_cases hlt:9223372036854775807 - n<now
 ·have HB:=Lib.hid (show behindI now n=9223372036854775807 from if_pos hlt)
  go_enter Tryz.func110,Tryz.ntmps110
  go_wp2_with fail
  go_ret
  exact ⟨by rw [HB.out];first | done | rfl,rfl⟩
 ·have HB:=Lib.hid (show behindI now n=now+n from if_neg hlt)
  go_enter Tryz.func110,Tryz.ntmps110
  go_wp2_with fail
  go_ret
  exact ⟨by rw [HB.out];first | done | rfl,rfl⟩
theorem lnew_any (o:Nat→Nat) (w:World) (c:Nat) (n:Int):Calls Tryz.prog 49 #[.int .i64 n] w fun e w'=>∃t,e = .returned (.pointer (some ⟨t,0,none⟩))∧∃o',LeAt o' c w' t (Le.zero n)∧Step o (fun _=>False) w o' w':=by
 have hb1:=(Below.refl w.heap.size w).alloc (Nat.le_refl _) (.map #[] 0)
 have hs1:=Step.of_below_band o (fun _=>False) (c+1) hb1
 have hm1:=MapR.newAs (band o w.heap.size (w.alloc (.map #[] 0)).heap.size (c+1)) w (c+1) (band_in (Nat.le_refl _) (by simp))
 generalize band o w.heap.size (w.alloc (.map #[] 0)).heap.size (c+1)=o1 at hs1 hm1
 have hb2:=(Below.refl (w.alloc (.map #[] 0)).heap.size (w.alloc (.map #[] 0))).alloc (Nat.le_refl _) (.cells #[.int .i64 (min (max n 1) 100000), .map (some w.heap.size)] 168)
 have hs2:=Step.of_below_band o1 (fun _=>False) c hb2
 have hbk:=Blk.new (w.alloc (.map #[] 0)) 168 #[.int .i64 (min (max n 1) 100000), .map (some w.heap.size)]
 have hl:LeIn _ c _ _ (Le.zero n) w.heap.size:=⟨hbk,band_in (o:=o1) (Nat.le_refl _) (by simp),hm1.step hs2 (fun h=>h)⟩
 have hs:=hs1.trans hs2
 generalize band o1 _ _ c=o2 at hl hs
 rw [show (w.alloc (.map #[] 0)).heap.size=w.heap.size+1 by simp] at hl
 have HL:=Lib.hid hl
 have HS:=Lib.hid hs
 clear hb1 hs1 hm1 hb2 hs2 hbk hl hs
 have hmm := @run_makeMap Tryz.prog
 go_enter Tryz.func49,Tryz.ntmps49
 go_wp2_with fail
 refine (lterm_any n w).mono ?_
 rintro e w1 ⟨rfl,rfl⟩
 go_wp2_with fail
 go_ret
 exact ⟨_,rfl,_,⟨_,HL.out⟩,HS.out⟩
end
section
variable {o o':Nat→Nat} {c:Nat} {C:Nat→Prop} {w w':World} {t:Nat} {L:Le} {m:Nat}
def leaC (c:Nat):Nat→Prop:=fun x=>x=c∨x=c+1
theorem only_lea (c:Nat):∀x,only (c+1) x→leaC c x:=fun x h => .inr h
theorem LeIn.look (h:LeIn o c w t L m) (k:Int) (ok:Bool):(Instr.lookup 66 (.map (some m)) (.int .i64 k) ok).run Tryz.prog w = .ok (if ok then .tuple #[.int .i64 ((L.m k).getD 0), .bool (L.m k).isSome] else .int .i64 ((L.m k).getD 0)) w:=by
 have:=h.map.look Tryz.underlying66 Tryz.underlying3 (zero_i w) k ok
 unfold leV at this
 cases hk:L.m k with
 | none =>
   rw [hk] at this
   exact this
 | some v =>
   rw [hk] at this
   exact this
set_option maxRecDepth 100000 in
set_option maxHeartbeats 4000000 in
theorem lrenew_any (h:LeAt o c w t L) (hl:L.ok) (node now:Int) (hn:0≤now∧now≤9223372036854775807) :
 Calls Tryz.prog 52 #[.pointer (some ⟨t,0,none⟩), .int .i64 node, .int .i64 now] w fun e w'=>e = .returned (.bool (L.renew node now).1)∧LeAt o c w' t (L.renew node now).2∧Step o (leaC c) w o w':=by
 obtain ⟨m,h⟩:=h
 have HL:=Lib.hid h
 have HB:=Lib.hid (lbehind_any now L.term hn hl w)
 have hlk:=h.look node true
 obtain ⟨R,hR⟩:∃R,L.renew node now=R:=⟨_,rfl⟩
 have x0:w.cell? ⟨t,0,none⟩=some (.int .i64 L.term):=h.blk.cell 0
 have x1:w.cell? ⟨t,1,none⟩=some (.map (some m)):=h.blk.cell 1
 have HRD:=Lib.hid hR
 unfold Le.renew at HRD
 rw [hR]
 generalize behindI now L.term=B at HB HRD
 clear h hl hn hR
 obtain ⟨w6,hupd,hl6,hs6,_⟩:=HL.out.put node B
 have HL6:=Lib.hid hl6
 have HS6:=Lib.hid (hs6.mono (only_lea c))
 clear hl6 hs6
 cases hm:L.m node with
 | none =>
   rw [hm] at hlk
   have HF:=Lib.hid (show R=(true,{L with m:=upd L.m node B}) by
    have:=HRD.out
    rw [hm] at this
    exact this.symm)
   simp only [Option.getD_none,Option.isSome_none,if_true] at hlk
   clear HRD hm
   go_enter Tryz.func52,Tryz.ntmps52
   go_wp2_with fail
   refine (lnone_any HL.out).mono ?_
   rintro e w1 ⟨rfl,rfl⟩
   go_wp2_with fail
   refine HB.out.mono ?_
   rintro e w2 ⟨rfl,rfl⟩
   go_wp2_with fail
   go_ret
   exact ⟨by rw [HF.out];first | done | rfl,by rw [HF.out];exact ⟨m,HL6.out⟩,HS6.out⟩
 | some was =>
   rw [hm] at hlk
   simp only [Option.getD_some,Option.isSome_some,if_true] at hlk
   by_cases hle:B≤was
   ·have HF:=Lib.hid (show R=(false,L) by
     have:=HRD.out
     rw [hm] at this
     exact this.symm.trans (if_pos hle))
    clear HRD hm
    go_enter Tryz.func52,Tryz.ntmps52
    go_wp2_with fail
    refine (lnone_any HL.out).mono ?_
    rintro e w1 ⟨rfl,rfl⟩
    go_wp2_with fail
    refine HB.out.mono ?_
    rintro e w2 ⟨rfl,rfl⟩
    go_wp2_with fail
    go_ret
    exact ⟨by rw [HF.out];first | done | rfl,by rw [HF.out];exact ⟨m,HL.out⟩,Step.refl _ _ _⟩
   ·have HF:=Lib.hid (show R=(true,{L with m:=upd L.m node B}) by
     have:=HRD.out
     rw [hm] at this
     exact this.symm.trans (if_neg hle))
    clear HRD hm
    go_enter Tryz.func52,Tryz.ntmps52
    go_wp2_with fail
    refine (lnone_any HL.out).mono ?_
    rintro e w1 ⟨rfl,rfl⟩
    go_wp2_with fail
    refine HB.out.mono ?_
    rintro e w2 ⟨rfl,rfl⟩
    go_wp2_with fail
    go_ret
    exact ⟨by rw [HF.out];first | done | rfl,by rw [HF.out];exact ⟨m,HL6.out⟩,HS6.out⟩
set_option maxRecDepth 100000 in
set_option maxHeartbeats 4000000 in
theorem ldrop_any (h:LeAt o c w t L) (node:Int) :
 Calls Tryz.prog 95 #[.pointer (some ⟨t,0,none⟩), .int .i64 node] w fun e w'=>e = .returned (.bool (L.drop node).1)∧LeAt o c w' t (L.drop node).2∧Step o (leaC c) w o w':=by
 obtain ⟨m,h⟩:=h
 have HL:=Lib.hid h
 have hlk:=h.look node true
 have x1:w.cell? ⟨t,1,none⟩=some (.map (some m)):=h.blk.cell 1
 have HF:=Lib.hid (show L.drop node=((L.m node).isSome,{L with m:=del L.m node}) from rfl)
 obtain ⟨w6,hdel,hl6,hs6,_⟩:=HL.out.delete node 3 0
 have HL6:=Lib.hid hl6
 have HS6:=Lib.hid (hs6.mono (only_lea c))
 generalize (L.m node).isSome=v at HF hlk
 generalize (L.m node).getD 0=u at hlk
 clear h hl6 hs6
 simp only [if_true] at hlk
 go_enter Tryz.func95,Tryz.ntmps95
 go_wp2_with fail
 refine (lnone_any HL.out).mono ?_
 rintro e w1 ⟨rfl,rfl⟩
 go_wp2_with fail
 go_ret
 exact ⟨by rw [HF.out];first | done | rfl,by rw [HF.out];exact ⟨m,HL6.out⟩,HS6.out⟩
end
structure Ws where
 node:Int
 at_:Int
 seq:Int
 data:ByteArray
def Ws.cells (x:Ws):List Value := [.int .i64 x.node, .int .i64 x.at_, .int .i64 x.seq, .string x.data]
def Ws.agg (x:Ws):Value := .agg #[.int .i64 x.node, .int .i64 x.at_, .int .i64 x.seq, .string x.data]
structure Dk where
 sectors:Nat
 on:Bool
 seq:Nat
 now:Int→Option ByteArray
 lasts:Int→Option Ws
 waits:List Ws
 table:Nat→Nat
 words:Nat→Nat
 last:Nat
 armed:Bool
 left:Int
 stays:List Int
def Dk.cells (D:Dk) (mn ml:Nat) (wv sv:Value):Array Value :=
 #[.int .i64 D.sectors, .bool D.on, .int .i64 D.seq, .map (some mn), .map (some ml),wv,
  .int .u64 (D.table 0), .int .u64 (D.table 1), .int .u64 (D.table 2), .int .u64 (D.table 3), .int .u64 (D.table 4), .int .u64 (D.table 5), .int .u64 (D.table 6), .int .u64 (D.table 7), .int .u64 (D.table 8), .int .u64 (D.table 9), .int .u64 (D.table 10), .int .u64 (D.table 11), .int .u64 (D.table 12), .int .u64 (D.table 13), .int .u64 (D.table 14), .int .u64 (D.table 15), .int .u64 (D.table 16),
  .int .u64 (D.words 0), .int .u64 (D.words 1), .int .u64 (D.words 2), .int .u64 (D.words 3), .int .u64 (D.words 4), .int .u64 (D.words 5), .int .u64 (D.words 6), .int .u64 (D.words 7), .int .u64 (D.words 8), .int .u64 (D.words 9), .int .u64 (D.words 10), .int .u64 (D.words 11), .int .u64 (D.words 12), .int .u64 (D.words 13), .int .u64 (D.words 14), .int .u64 (D.words 15), .int .u64 (D.words 16),
  .int .u64 D.last, .bool D.armed, .int .i64 D.left,sv]
def intcells (l:List Int):List Value:=l.map (fun n => .int .i64 n)
structure DiskIn (o:Nat→Nat) (c:Nat) (w:World) (p:Nat) (D:Dk) (mn ml:Nat) (wv sv:Value):Prop where
 blk:Blk w p 103 (D.cells mn ml wv sv)
 col:o p=c
 now:MapR o (c+1) w mn (fun k=>(D.now k).map .string)
 lasts:MapR o (c+2) w ml (fun k=>(D.lasts k).map Ws.agg)
 waits:OwnW o (c+3) w 262 4 wv D.waits.length (D.waits.flatMap Ws.cells)
 stays:OwnW o (c+4) w 3 1 sv D.stays.length (intcells D.stays)
def DiskAt (o:Nat→Nat) (c:Nat) (w:World) (p:Nat) (D:Dk):Prop:=∃mn ml wv sv,DiskIn o c w p D mn ml wv sv
def six (c:Nat):Nat→Prop:=fun x=>c≤x∧x≤c+5
section
variable {o o':Nat→Nat} {c p:Nat} {C:Nat→Prop} {w w':World} {D:Dk} {mn ml:Nat} {wv sv:Value}
theorem DiskIn.step (h:DiskIn o c w p D mn ml wv sv) (hs:Step o C w o' w') (hc:∀x,c≤x→x≤c+4→¬C x):DiskIn o' c w' p D mn ml wv sv :=
 ⟨h.blk.step hs (by rw [h.col];exact hc c (by omega) (by omega)),(hs.old p h.blk.lt).trans h.col,h.now.step hs (hc _ (by omega) (by omega)),h.lasts.step hs (hc _ (by omega) (by omega)),h.waits.step hs (hc _ (by omega) (by omega)),h.stays.step hs (hc _ (by omega) (by omega))⟩
theorem DiskAt.step (h:DiskAt o c w p D) (hs:Step o C w o' w') (hc:∀x,c≤x→x≤c+4→¬C x):DiskAt o' c w' p D:=by
 obtain ⟨mn,ml,wv,sv,h1⟩:=h
 exact ⟨mn,ml,wv,sv,h1.step hs hc⟩
theorem DiskAt.below_ (h:DiskAt o c w p D) (hb:Below w.heap.size w w'):DiskAt o c w' p D:=h.step (Step.of_below o (fun _=>False) hb) (fun _ _ _=>id)
theorem DiskAt.alloc (h:DiskAt o c w p D) (x:Obj):DiskAt o c (w.alloc x) p D:=h.below_ ((Below.refl _ _).alloc (Nat.le_refl _) x)
theorem DiskAt.drew (h:DiskAt o c w p D):DiskAt o c w.drew p D:=h.below_ ⟨rfl,rfl,rfl,Nat.le_refl _,fun _ _=>rfl⟩
theorem DiskIn.table (h:DiskIn o c w p D mn ml wv sv) (k:Nat) (hk:k≤16):w.cell? ⟨p,6+k,none⟩=some (.int .u64 (D.table k)):=by
 rw [h.blk.cell]
 rcases k with _ | _ | _ | _ | _ | _ | _ | _ | _ | _ | _ | _ | _ | _ | _ | _ | _ | k <;> first | rfl | omega
theorem DiskIn.word (h:DiskIn o c w p D mn ml wv sv) (k:Nat) (hk:k≤16):w.cell? ⟨p,23+k,none⟩=some (.int .u64 (D.words k)):=by
 rw [h.blk.cell]
 rcases k with _ | _ | _ | _ | _ | _ | _ | _ | _ | _ | _ | _ | _ | _ | _ | _ | _ | k <;> first | rfl | omega
end
theorem don_any {o:Nat→Nat} {c p:Nat} {w:World} {D:Dk} (h:DiskAt o c w p D):Calls Tryz.prog 149 #[.pointer (some ⟨p,0,none⟩)] w fun e w'=>e = .returned (.bool D.on)∧w=w':=by
 obtain ⟨mn,ml,wv,sv,h1⟩:=h
 have c1:w.cell? ⟨p,1,none⟩=some (.bool D.on):=h1.blk.cell 1
 clear h1
 go_enter Tryz.func149,Tryz.ntmps149
 go_wp2_with fail
 go_ret
 exact ⟨rfl,rfl⟩
def Dk.may (D:Dk) (node:Int):Int:=if D.on=false then 14 else if node<0∨16<node then 1 else 0
theorem dmay_any {o:Nat→Nat} {c p:Nat} {w:World} {D:Dk} (h:DiskAt o c w p D) (node:Int):Calls Tryz.prog 107 #[.pointer (some ⟨p,0,none⟩), .int .i64 node] w fun e w'=>e = .returned (.int .i64 (D.may node))∧w=w':=by
 have H:=Lib.hid h
 clear h
 go_enter Tryz.func107,Tryz.ntmps107
 go_wp2_with fail
 refine (don_any H.out).mono ?_
 rintro e w1 ⟨rfl,rfl⟩
 cases hon:D.on with
 | false =>
   go_wp2_with fail
   go_ret
   exact ⟨by simp [Dk.may,hon],rfl⟩
 | true =>
   by_cases h0:node<0
   ·go_wp2_with fail
    go_ret
    exact ⟨by simp [Dk.may,hon,h0],rfl⟩
   ·by_cases h1:16<node
    ·go_wp2_with fail
     go_ret
     exact ⟨by simp [Dk.may,hon,h1],rfl⟩
    ·go_wp2_with fail
     go_ret
     exact ⟨by simp [Dk.may,hon,h0,h1],rfl⟩
def Dk.admits (D:Dk) (node:Nat) (epoch:Nat):Int:=if epoch=0∨D.table node≠epoch then 34 else 0
theorem dadmits_any {o:Nat→Nat} {c p:Nat} {w:World} {D:Dk} (h:DiskAt o c w p D) (node epoch:Nat) (hn:node≤16):Calls Tryz.prog 147 #[.pointer (some ⟨p,0,none⟩), .int .i64 node, .int .u64 epoch] w fun e w'=>e = .returned (.int .i64 (D.admits node epoch))∧w=w':=by
 obtain ⟨mn,ml,wv,sv,h1⟩:=h
 have ct:=h1.table node hn
 have hnI:(node:Int)<17:=by omega
 clear h1
 unfold Dk.admits
 generalize D.table node=tn at ct
 by_cases h0:epoch=0
 ·have h0I:(epoch:Int)=0:=by omega
  rw [if_pos (.inl h0)]
  go_enter Tryz.func147,Tryz.ntmps147
  go_wp2_with fail
  go_ret
  exact ⟨rfl,rfl⟩
 ·have h0I:¬(epoch:Int)=0:=by omega
  by_cases h2:tn=epoch
  ·subst h2
   rw [if_neg (by simp [h0])]
   go_enter Tryz.func147,Tryz.ntmps147
   go_wp2_with fail
   go_ret
   exact ⟨rfl,rfl⟩
  ·have h2I:((tn:Int) != (epoch:Int))=true:=by simp;omega
   rw [if_pos (.inr h2)]
   go_enter Tryz.func147,Tryz.ntmps147
   go_wp2_with fail
   go_ret
   exact ⟨rfl,rfl⟩
theorem dlast_any {o:Nat→Nat} {c p:Nat} {w:World} {D:Dk} (h:DiskAt o c w p D):Calls Tryz.prog 48 #[.pointer (some ⟨p,0,none⟩)] w fun e w'=>e = .returned (.int .u64 D.last)∧w=w':=by
 obtain ⟨mn,ml,wv,sv,h1⟩:=h
 have c1:w.cell? ⟨p,40,none⟩=some (.int .u64 D.last):=h1.blk.cell 40
 clear h1
 go_enter Tryz.func48,Tryz.ntmps48
 go_wp2_with fail
 go_ret
 exact ⟨rfl,rfl⟩
theorem dsectors_any {o:Nat→Nat} {c p:Nat} {w:World} {D:Dk} (h:DiskAt o c w p D):Calls Tryz.prog 120 #[.pointer (some ⟨p,0,none⟩)] w fun e w'=>e = .returned (.int .i64 D.sectors)∧w=w':=by
 obtain ⟨mn,ml,wv,sv,h1⟩:=h
 have c1:w.cell? ⟨p,0,none⟩=some (.int .i64 D.sectors):=h1.blk.cell 0
 clear h1
 go_enter Tryz.func120,Tryz.ntmps120
 go_wp2_with fail
 go_ret
 exact ⟨rfl,rfl⟩
def Dk.there (D:Dk) (at_ n:Int):Bool:=decide (0≤at_∧at_≤D.sectors∧n≤D.sectors - at_)
theorem dthere_any {o:Nat→Nat} {c p:Nat} {w:World} {D:Dk} (h:DiskAt o c w p D) (at_ n:Int) (hs:D.sectors≤20000):Calls Tryz.prog 150 #[.pointer (some ⟨p,0,none⟩), .int .i64 at_, .int .i64 n] w fun e w'=>e = .returned (.bool (D.there at_ n))∧w=w':=by
 obtain ⟨mn,ml,wv,sv,h1⟩:=h
 have c1:w.cell? ⟨p,0,none⟩=some (.int .i64 D.sectors):=h1.blk.cell 0
 clear h1
 unfold Dk.there
 generalize D.sectors=S at c1 hs
 by_cases h0:0≤at_
 ·by_cases h1:at_≤(S:Int)
  ·have hw:IntKind.i64.wrap ((S:Int) - at_)=(S:Int) - at_:=IntWalk.i64_in _ (by omega)
   by_cases h2:n≤(S:Int) - at_
   ·rw [decide_eq_true ⟨h0,h1,h2⟩]
    go_enter Tryz.func150,Tryz.ntmps150
    go_wp2_with fail
    go_ret
    exact ⟨rfl,rfl⟩
   ·rw [decide_eq_false (fun h=>h2 h.2.2)]
    go_enter Tryz.func150,Tryz.ntmps150
    go_wp2_with fail
    go_ret
    exact ⟨rfl,rfl⟩
  ·rw [decide_eq_false (fun h=>h1 h.2.1)]
   go_enter Tryz.func150,Tryz.ntmps150
   go_wp2_with fail
   go_ret
   exact ⟨rfl,rfl⟩
 ·rw [decide_eq_false (fun h=>h0 h.1)]
  go_enter Tryz.func150,Tryz.ntmps150
  go_wp2_with fail
  go_ret
  exact ⟨rfl,rfl⟩
end Go.Proofs.YtohgabdmmbngbaaGreatDoor
