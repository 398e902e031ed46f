import Derived.Test.YtldoeodkeieejaaGreatDoorKOpenRecs
import Derived.Test.YtldoeodkeieejaaGreatDoorKSumA
namespace Go.Proofs.YtldoeodkeieejaaGreatDoor
open Go.ChangeShapes Go.WideShapes Go.ChangeAt Go.RowKit Go.Joins Go.Deep
structure DOp where
 kind:Int
 node:Int
 at_:Int
 n:Int
 epoch:Nat
 data:ByteArray
 keep:List Int
 own:Bool
structure LOp where
 kind:Int
 n:Int
 v:Nat
 l:List Im
 d:DOp
def DOp.cells (o:DOp) (kv:Value):List Value := [.int .i64 o.kind, .int .i64 o.node, .int .i64 o.at_, .int .i64 o.n, .int .u64 o.epoch, .string o.data,kv, .bool o.own]
def LOp.cells (o:LOp) (lv kv:Value):List Value := [.int .i64 o.kind, .int .i64 o.n, .int .u64 o.v,lv, .int .i64 o.d.kind, .int .i64 o.d.node, .int .i64 o.d.at_, .int .i64 o.d.n, .int .u64 o.d.epoch, .string o.d.data,kv, .bool o.d.own]
structure LOp.InB (o:LOp):Prop where
 kind : -9223372036854775808≤o.kind∧o.kind≤9223372036854775807
 n : -9223372036854775808≤o.n∧o.n≤9223372036854775807
 v:o.v<18446744073709551616
 ims:∀i∈o.l,ImIn i
 dkind : -9223372036854775808≤o.d.kind∧o.d.kind≤9223372036854775807
 dnode : -9223372036854775808≤o.d.node∧o.d.node≤9223372036854775807
 dat : -9223372036854775808≤o.d.at_∧o.d.at_≤9223372036854775807
 dn : -9223372036854775808≤o.d.n∧o.d.n≤9223372036854775807
 depoch:o.d.epoch<18446744073709551616
 ddata:o.d.data.size≤maxLen
 dkeep:o.d.keep.length≤maxLen∧∀n∈o.d.keep,-9223372036854775808≤n∧n≤9223372036854775807
structure OpsRd (w:World) (A:Option Addr) (l:List LOp) (vs:List (Value×Value)):Prop where
 len:vs.length=l.length
 rd:Reads w 12 A l.length ((l.zip vs).flatMap (fun x=>x.1.cells x.2.1 x.2.2))
 ims:∀(k:Nat) o lv kv,l[k]? = some o→vs[k]? = some (lv,kv)→(∃B cp,lv = .slice B o.l.length cp∧Reads w 3 B o.l.length (imcells o.l)∧o.l.length≤cp∧cp≤maxLen)∧∃B cp,kv = .slice B o.d.keep.length cp∧Reads w 1 B o.d.keep.length (intcells o.d.keep)
section
variable {w w':World} {A:Option Addr} {l:List LOp} {vs:List (Value×Value)}
theorem OpsRd.below_ (h:OpsRd w A l vs) (hb:Below w.heap.size w w'):OpsRd w' A l vs :=
 ⟨h.len,h.rd.below' (by omega) hb,fun k o lv kv h1 h2=>by
  obtain ⟨⟨B,cp,e,hr,c1,c2⟩,B',cp',e',hr'⟩:=h.ims k o lv kv h1 h2
  exact ⟨⟨B,cp,e,hr.below' (by omega) hb,c1,c2⟩,B',cp',e',hr'.below' (by omega) hb⟩⟩
theorem OpsRd.at_ (h:OpsRd w A l vs) {k:Nat} {o:LOp} (hk:l[k]? = some o) :
 ∃B cp C cq,vs[k]? = some (.slice B o.l.length cp, .slice C o.d.keep.length cq)∧(Reads w 3 B o.l.length (imcells o.l)∧o.l.length≤cp∧cp≤maxLen)∧Reads w 1 C o.d.keep.length (intcells o.d.keep):=by
 have hkl:=(List.getElem?_eq_some_iff.1 hk).1
 obtain ⟨⟨lv,kv⟩,hv⟩:∃v,vs[k]? = some v:=⟨_,List.getElem?_eq_getElem (by rw [h.len];exact hkl)⟩
 obtain ⟨⟨B,cp,rfl,hr,c1,c2⟩,C,cq,rfl,hr'⟩:=h.ims k o lv kv hk hv
 exact ⟨B,cp,C,cq,hv,⟨hr,c1,c2⟩,hr'⟩
theorem OpsRd.row (h:OpsRd w A l vs) {k:Nat} {o:LOp} {lv kv:Value} (hk:l[k]? = some o) (hv:vs[k]? = some (lv,kv)) :
 ∃ad,A=some ad∧∀(j:Nat) u,(o.cells lv kv)[j]? = some u→w.cell? ((ad.add (k*12)).add j)=some u:=by
 have hz:(l.zip vs)[k]? = some (o,(lv,kv)):=by
  rw [List.getElem?_zip_eq_some]
  exact ⟨hk,hv⟩
 have hl:(l.zip vs).length=l.length:=by rw [List.length_zip,h.len,Nat.min_self]
 have h2:=h.rd
 rw [←hl] at h2
 exact Reads.row (f:=fun x:LOp×(Value×Value)=>x.1.cells x.2.1 x.2.2) (fun _=>rfl) h2 hz
end
theorem leaves_lop : leaves Tryz.prog 6 53=some [.int .i64, .int .i64, .int .u64, .slice 40, .int .i64, .int .i64, .int .i64, .int .i64, .int .u64, .str, .slice 41, .bool]:=by kernel_rfl
theorem cells_lop : Tryz.prog.cellsOf 53=12:=by kernel_rfl
section
variable {H:Type} {enc:TypeId×Value→H} {w:World} {base:Nat} {spare:Nat→Bool} {held:Bool}
theorem open_imgs_cap {fuel:Nat} {A:Option Addr} {len cap:Nat} {x:DataW H×List MemPlace} (hf:DataW.trod enc Tryz.prog w base spare held fuel 40 [.slice A len cap]=some x):len≤cap∧cap≤maxLen:=by
 obtain ⟨L,h1,h2,h3,h4,h5⟩:=open_rows Tryz.underlying40 leaves_img cells_img (by decide) hf
 exact ⟨h4,h5⟩
theorem open_ints_in {fuel:Nat} {A:Option Addr} {len cap:Nat} {x:DataW H×List MemPlace} (hf:DataW.trod enc Tryz.prog w base spare held fuel 41 [.slice A len cap]=some x) :
 ∃l:List Int,len=l.length∧Reads w 1 A l.length (intcells l)∧l.length≤maxLen∧∀n∈l,-9223372036854775808≤n∧n≤9223372036854775807:=by
 obtain ⟨L,h1,h2,h3,h4,h5⟩:=open_rows Tryz.underlying41 leaves_int cells_int (by decide) hf
 obtain ⟨l,e1,e2,e3⟩:=rows_list (f:=fun n:Int => [Value.int .i64 n]) (p:=fun n => -9223372036854775808≤n∧n≤9223372036854775807) L (fun r hr=>by
  obtain ⟨c0,r0,rfl,⟨a0,rfl,w0⟩,k0⟩:=(h3 r hr).cons
  obtain rfl:=k0.nil
  exact ⟨a0,rfl,wf_i64_in w0⟩)
 have e4:len=l.length:=h1.symm.trans e2
 have e5:l.flatMap (fun n:Int => [Value.int .i64 n])=intcells l:=by
  unfold intcells
  exact ints_flat l
 rw [e1,e5] at h2
 subst e4
 exact ⟨l,rfl,h2,by unfold maxLen at *;omega,e3⟩
set_option maxRecDepth 100000 in
theorem open_lops {r:Reach} {b0:Nat} {v:Value} {d:DataW H} {p:List MemPlace} (hv:Value.okWide Tryz.prog w r b0 22 v) (h:DataW.Trod enc Tryz.prog w base spare held 22 v d p) :
 ∃(l:List LOp) (vs:List (Value×Value)) (A:Option Addr) (cap:Nat),v = .slice A l.length cap∧OpsRd w A l vs∧l.length≤maxLen∧∀o∈l,o.InB:=by
 obtain ⟨fuel,hf⟩:=h
 obtain ⟨A,len,cap,rfl⟩:=okWide_slice Tryz.underlying22 hv
 obtain ⟨L,h1,h2,h3,h4,h5⟩:=open_rows Tryz.underlying22 leaves_lop cells_lop (by decide) hf
 obtain ⟨l,e1,e2,e3⟩:=rows_list (f:=fun x:LOp×(Value×Value)=>x.1.cells x.2.1 x.2.2) (p:=fun x=>x.1.InB∧(∃B cp,x.2.1 = .slice B x.1.l.length cp∧Reads w 3 B x.1.l.length (imcells x.1.l)∧x.1.l.length≤cp∧cp≤maxLen)∧∃B cp,x.2.2 = .slice B x.1.d.keep.length cp∧Reads w 1 B x.1.d.keep.length (intcells x.1.d.keep)) L (fun r hr=>by
  obtain ⟨c0,r0,rfl,⟨a0,rfl,w0⟩,k0⟩:=(h3 r hr).cons
  obtain ⟨c1,r1,rfl,⟨a1,rfl,w1⟩,k1⟩:=k0.cons
  obtain ⟨c2,r2,rfl,⟨a2,rfl,w2⟩,k2⟩:=k1.cons
  obtain ⟨c3,r3,rfl,⟨f3,x3,w3⟩,k3⟩:=k2.cons
  obtain ⟨c4,r4,rfl,⟨a4,rfl,w4⟩,k4⟩:=k3.cons
  obtain ⟨c5,r5,rfl,⟨a5,rfl,w5⟩,k5⟩:=k4.cons
  obtain ⟨c6,r6,rfl,⟨a6,rfl,w6⟩,k6⟩:=k5.cons
  obtain ⟨c7,r7,rfl,⟨a7,rfl,w7⟩,k7⟩:=k6.cons
  obtain ⟨c8,r8,rfl,⟨a8,rfl,w8⟩,k8⟩:=k7.cons
  obtain ⟨c9,r9,rfl,⟨s9,rfl,w9⟩,k9⟩:=k8.cons
  obtain ⟨c10,r10,rfl,⟨f10,x10,w10⟩,k10⟩:=k9.cons
  obtain ⟨c11,r11,rfl,⟨b11,rfl⟩,k11⟩:=k10.cons
  obtain rfl:=k11.nil
  obtain ⟨B,n,cp,rfl⟩:=open_slice_w Tryz.underlying40 w3
  obtain ⟨q1,q2⟩:=open_imgs_cap w3
  obtain ⟨ims,rfl,h8,h9,h10⟩:=open_imgs_in w3
  obtain ⟨C,n',cq,rfl⟩:=open_slice_w Tryz.underlying41 w10
  obtain ⟨ks,rfl,h11,h12,h13⟩:=open_ints_in w10
  have b2:=wf_u64_in w2
  have b8:=wf_u64_in w8
  refine ⟨(⟨a0,a1,a2.toNat,ims,⟨a4,a5,a6,a7,a8.toNat,s9,ks,b11⟩⟩,(.slice B ims.length cp, .slice C ks.length cq)),?_,⟨wf_i64_in w0,wf_i64_in w1,show a2.toNat<_ by omega,h10,wf_i64_in w4,wf_i64_in w5,wf_i64_in w6,wf_i64_in w7,show a8.toNat<_ by omega,w9,h12,h13⟩,⟨B,cp,rfl,h8,q1,q2⟩,C,cq,rfl,h11⟩
  show _ = [Value.int .i64 a0, .int .i64 a1, .int .u64 ((a2.toNat:Nat):Int), .slice B ims.length cp, .int .i64 a4, .int .i64 a5, .int .i64 a6, .int .i64 a7, .int .u64 ((a8.toNat:Nat):Int), .string s9, .slice C ks.length cq, .bool b11]
  rw [show ((a2.toNat:Nat):Int)=a2 by omega,show ((a8.toNat:Nat):Int)=a8 by omega])
 have e4:len=l.length:=h1.symm.trans e2
 rw [e1] at h2
 subst e4
 have hz:(l.map Prod.fst).zip (l.map Prod.snd)=l:=by
  rw [List.zip_map']
  simp
 refine ⟨l.map Prod.fst,l.map Prod.snd,A,cap,by simp,⟨by simp,?_,?_⟩,by rw [List.length_map];omega,?_⟩
 ·rw [hz,List.length_map]
  exact h2
 ·intro k o lv kv ho hv
  rw [List.getElem?_map] at ho hv
  cases hl:l[k]? with
  | none=>simp [hl] at ho
  | some x =>
    simp only [hl,Option.map_some,Option.some.injEq] at ho hv
    have h7:=(e3 x (List.mem_of_getElem? hl)).2
    subst ho
    rw [hv] at h7
    exact h7
 ·intro r hr
  obtain ⟨x,hx,rfl⟩:=List.mem_map.1 hr
  exact (e3 x hx).1
end
structure En where
 lsn:Nat
 at_:Nat
 n:Nat
 bytes:ByteArray
 written:Bool
def En.zero : En:=⟨0,0,0,⟨#[]⟩,false⟩
def En.cells (x:En):List Value := [.int .u64 x.lsn, .int .i64 x.at_, .int .i64 x.n, .string x.bytes, .bool x.written]
def En.agg (x:En):Value := .agg #[.int .u64 x.lsn, .int .i64 x.at_, .int .i64 x.n, .string x.bytes, .bool x.written]
def encells (l:List En):List Value:=l.flatMap En.cells
structure Lg where
 node:Nat
 epoch:Nat
 base:Nat
 next:Nat
 first:Nat
 at_:Nat
 written:Nat
 synced:Nat
 live:List En
 broken:Bool
def Lg.cells (g:Lg) (p r:Nat):Array Value :=
 #[.pointer (some ⟨p,0,none⟩), .int .i64 2, .int .i64 10, .int .i64 8, .int .i64 4, .int .i64 32, .int .i64 g.node, .int .u64 g.epoch, .int .i64 g.base, .int .u64 g.next, .int .u64 g.first, .int .i64 g.at_, .int .u64 g.written, .int .u64 g.synced, .pointer (some ⟨r,0,none⟩), .bool g.broken]
def Lg.used (g:Lg):Nat:=g.live.foldl (fun n x=>n+x.n) 0
def Lg.addE (g:Lg) (l:List Im):Int:=if g.broken then 13 else if (Rc.mk g.epoch g.next l).wrongE≠0 then (Rc.mk g.epoch g.next l).wrongE else if 1<l.length then 31 else if 7<secsOf l.length+g.used then 10 else 0
def Lg.entry (g:Lg) (l:List Im):En:=⟨g.next,g.at_,secsOf l.length,(Rc.mk g.epoch g.next l).putS,false⟩
def Lg.addG (g:Lg) (l:List Im):Lg:=if g.addE l≠0 then g else {g with live:=g.live ++ [g.entry l],at_:=(g.at_+secsOf l.length) % 7,next:=(g.next+1) % 18446744073709551616}
theorem encells_one (l:List En):∀u∈encells l,u.oneCell'=true:=by
 intro u hu
 unfold encells at hu
 obtain ⟨x,_,hx⟩:=List.mem_flatMap.1 hu
 simp only [En.cells,List.mem_cons,List.mem_nil_iff,or_false] at hx
 rcases hx with rfl | rfl | rfl | rfl | rfl <;> rfl
theorem encells_cons (x:En) (l:List En):encells (x :: l) = .int .u64 x.lsn :: .int .i64 x.at_ :: .int .i64 x.n :: .string x.bytes :: .bool x.written :: encells l:=rfl
theorem encells_set (x:En):∀(l:List En) (k:Nat),k<l.length→encells (l.set k x)=(((((encells l).set (k*5) (.int .u64 x.lsn)).set (k*5+1) (.int .i64 x.at_)).set (k*5+2) (.int .i64 x.n)).set (k*5+3) (.string x.bytes)).set (k*5+4) (.bool x.written)
 | y :: l,0,_=>by simp [encells_cons]
 | y :: l,k+1,h=>by
   have ih:=encells_set x l k (by simpa using h)
   simp only [List.set_cons_succ,encells_cons,ih]
   rw [show (k+1)*5=k*5+1+1+1+1+1 from by omega]
   simp only [List.set_cons_succ]
def EringAt (o:Nat→Nat) (c:Nat) (w:World) (r:Nat) (most:Int) (l:List En):Prop :=
 ∃v,Blk w r 195 #[v, .int .i64 most]∧o r=c∧OwnS o c w 126 5 v l.length (encells l)
theorem EringAt.step {o o':Nat→Nat} {c:Nat} {D:Nat→Prop} {w w':World} {r:Nat} {most:Int} {l:List En} (h:EringAt o c w r most l) (hk:Step o D w o' w') (hne:¬D c):EringAt o' c w' r most l:=by
 obtain ⟨v,hb,hc,hv⟩:=h
 exact ⟨v,hb.step hk (by rw [hc];exact hne),(hk.old r hb.lt).trans hc,hv.step hk hne⟩
theorem EringAt.alloc {o:Nat→Nat} {c:Nat} {w:World} {r:Nat} {most:Int} {l:List En} (h:EringAt o c w r most l) (x:Obj):EringAt o c (w.alloc x) r most l:=by
 obtain ⟨v,hb,hc,hv⟩:=h
 exact ⟨v,hb.alloc x,hc,hv.alloc x⟩
theorem EringAt.below_ {o:Nat→Nat} {c:Nat} {w w':World} {r:Nat} {most:Int} {l:List En} (h:EringAt o c w r most l) (hb:Below w.heap.size w w'):EringAt o c w' r most l:=by
 obtain ⟨v,h1,h2,h3⟩:=h
 exact ⟨v,h1.below_ hb,h2,⟨ownsRow_heap h3.1 (fun g hg=>hb.block g (h3.lt g hg)),h3.2⟩⟩
theorem EringAt.lt {o:Nat→Nat} {c:Nat} {w:World} {r:Nat} {most:Int} {l:List En} (h:EringAt o c w r most l):r<w.heap.size:=by
 obtain ⟨v,hb,hc,hv⟩:=h
 exact hb.lt
theorem eroom_any (n:Int) (w:World):Calls Tryz.prog 110 #[.int .i64 n] w fun e w'=>e = .returned (.int .i64 (min (max n 0) 100000))∧w=w':=by
 by_cases h0:n<0
 ·go_enter Tryz.func110,Tryz.ntmps110
  go_wp2
  go_ret
  exact ⟨by first | (simp;done) | (simp;omega),rfl⟩
 ·by_cases h1:n<100000
  ·go_enter Tryz.func110,Tryz.ntmps110
   go_wp2
   all_goals go_ret
   all_goals exact ⟨by first | (simp;done) | (simp;omega),rfl⟩
  ·go_enter Tryz.func110,Tryz.ntmps110
   go_wp2
   all_goals go_ret
   all_goals exact ⟨by first | (simp;done) | (simp;omega),rfl⟩
theorem own_form_e {o:Nat→Nat} {c:Nat} {w:World} {e:TypeId} {size n:Nat} {v:Value} {xs:List Value} (h:OwnS o c w e size v n xs):∃A cap,v = .slice A n cap∧n≤cap∧cap≤maxLen:=by
 rcases h.1.2 with ⟨rfl,rfl⟩ | ⟨g,cap,cur,rfl,_,_,h1,h2,_⟩
 ·exact ⟨none,0,rfl,Nat.le_refl _,Nat.zero_le _⟩
 ·exact ⟨_,_,rfl,h1,h2⟩
theorem elen_any {o:Nat→Nat} {c:Nat} {w:World} {r:Nat} {most:Int} {l:List En} (h:EringAt o c w r most l) :
 Calls Tryz.prog 130 #[.pointer (some ⟨r,0,none⟩)] w fun e w'=>e = .returned (.int .i64 l.length)∧w=w':=by
 obtain ⟨v,hb,hc,hv⟩:=h
 obtain ⟨A,cap,rfl,_,_⟩:=own_form_e hv
 have h0:=hb.cell 0
 have h1:=hb.cell 1
 simp at h0 h1
 clear hb hv
 go_enter Tryz.func130,Tryz.ntmps130
 go_wp2
 go_ret
 exact ⟨rfl,rfl⟩
theorem erroom_any {o:Nat→Nat} {c:Nat} {w:World} {r:Nat} {most:Int} {l:List En} (h:EringAt o c w r most l) (hm:0≤most) (hm2:most≤100000) (hl:(l.length:Int)≤most) :
 Calls Tryz.prog 178 #[.pointer (some ⟨r,0,none⟩)] w fun e w'=>e = .returned (.int .i64 (most - l.length))∧∃n,w'=w.drewN n:=by
 obtain ⟨v,hb,hc,hv⟩:=h
 obtain ⟨A,cap,rfl,_,_⟩:=own_form_e hv
 have h0:=hb.cell 0
 have h1:=hb.cell 1
 simp at h0 h1
 clear hb hv
 go_enter Tryz.func178,Tryz.ntmps178
 go_wp2
 go_quiet (fail)
 go_wp2
 go_ret
 exact ⟨rfl,_,rfl⟩
theorem EringAt.open_ {o:Nat→Nat} {c:Nat} {w:World} {r:Nat} {most:Int} {l:List En} (h:EringAt o c w r most l) :
 ∃A cap,w.cell? ⟨r,0,none⟩=some (.slice A l.length cap)∧w.cell? ⟨r,1,none⟩=some (.int .i64 most)∧w.frozen? ⟨r,0,none⟩=false∧l.length≤cap∧cap≤9223372036854775807 ∧
  Hid (Blk w r 195 #[.slice A l.length cap, .int .i64 most])∧Hid (OwnS o c w 126 5 (.slice A l.length cap) l.length (encells l))∧Hid (o r=c)∧Hid ((Value.slice A l.length cap).ownBlock≠some r):=by
 obtain ⟨v,hb,hc,hv⟩:=h
 obtain ⟨A,cap,rfl,h1,h2⟩:=own_form_e hv
 have h0:=hb.cell 0
 have h3:=hb.cell 1
 simp at h0 h3
 unfold maxLen at h2
 exact ⟨A,cap,h0,h3,hb.frozen 0,h1,by omega,hb,hv,hc,own_blk_ne hv hb (by decide)⟩
theorem info_en : (Tryz.prog.info? 126).map (fun i=>(i.zero,i.size,i.bytes))=some (some (.agg #[.int .u64 0, .int .i64 0, .int .i64 0, .string ⟨#[]⟩, .bool false]),5,48):=by kernel_rfl
set_option maxRecDepth 100000 in
set_option maxHeartbeats 1000000 in
theorem eset_any {o:Nat→Nat} {c:Nat} {w:World} {r:Nat} {most:Int} {l:List En} (h:EringAt o c w r most l) (k:Nat) (hk:k<l.length) (x:En) :
 Calls Tryz.prog 128 #[.pointer (some ⟨r,0,none⟩), .int .i64 k,x.agg] w fun e w'=>e = .returned (.bool true)∧EringAt o c w' r most (l.set k x)∧Step o (only c) w o w':=by
 have HR:=Lib.hid h
 obtain ⟨A0,cap0,h0,h1,hfz,hc1,hc2,HB,HV,HO,HNE⟩:=h.open_
 clear h
 obtain ⟨g,cur,rfl,hb,hg,_,hcm,hsz,htk⟩:=HV.out.blk (by omega)
 obtain ⟨v0,q0⟩:=hb.cell_some (i:=k*5) (by omega)
 obtain ⟨v1,q1⟩:=hb.cell_some (i:=k*5+1) (by omega)
 obtain ⟨v2,q2⟩:=hb.cell_some (i:=k*5+2) (by omega)
 obtain ⟨v3,q3⟩:=hb.cell_some (i:=k*5+3) (by omega)
 obtain ⟨v4,q4⟩:=hb.cell_some (i:=k*5+4) (by omega)
 have f0:=hb.frozen (k*5)
 have f1:=hb.frozen (k*5+1)
 have f2:=hb.frozen (k*5+2)
 have f3:=hb.frozen (k*5+3)
 have f4:=hb.frozen (k*5+4)
 have hgl:=hb.lt
 have HG:=Lib.hid hb
 have HGC:=Lib.hid hg
 have HSZ:=Lib.hid hsz
 have HTK:=Lib.hid htk
 have HCM:=Lib.hid hcm
 clear hb hg hsz htk hcm
 have hkI:(k:Int)<(l.length:Int):=by omega
 have hlI:(l.length:Int)≤9223372036854775807:=by omega
 have hrl:=HB.out.lt
 unfold En.agg
 go_enter Tryz.func128,Tryz.ntmps128
 go_wp2_with (go_at_call 130;refine (elen_any (HR.out.alloc _)).mono ?_;rintro e w' ⟨rfl,rfl⟩)
 go_region
 go_wp2
 go_ret
 have hgr:g≠r:=HG.out.ne_ HB.out (by decide)
 have B0:=(((((HG.out.set_ (k*5) (.int .u64 x.lsn)).set_ (k*5+1) (.int .i64 x.at_)).set_ (k*5+2) (.int .i64 x.n)).set_ (k*5+3) (.string x.bytes)).set_ (k*5+4) (.bool x.written))
 have R0:=(((((HB.out.far (p:=⟨g,k*5,none⟩) hgr.symm (.int .u64 x.lsn)).far (p:=⟨g,k*5+1,none⟩) hgr.symm (.int .i64 x.at_)).far (p:=⟨g,k*5+2,none⟩) hgr.symm (.int .i64 x.n)).far (p:=⟨g,k*5+3,none⟩) hgr.symm (.string x.bytes)).far (p:=⟨g,k*5+4,none⟩) hgr.symm (.bool x.written))
 have S0:=((((((Step.refl o (only c) w).setCell (p:=⟨g,k*5,none⟩) HGC.out (.int .u64 x.lsn)).setCell (p:=⟨g,k*5+1,none⟩) HGC.out (.int .i64 x.at_)).setCell (p:=⟨g,k*5+2,none⟩) HGC.out (.int .i64 x.n)).setCell (p:=⟨g,k*5+3,none⟩) HGC.out (.string x.bytes)).setCell (p:=⟨g,k*5+4,none⟩) HGC.out (.bool x.written))
 refine ⟨rfl,⟨_,(R0.alloc _).drew,HO.out,?_⟩,(S0.alloc _).drew⟩
 have hl:(l.set k x).length=l.length:=by simp
 rw [hl]
 refine (OwnS.of_blk (B0.alloc _).drew HGC.out hc1 HCM.out (by simp [HSZ.out]) ?_)
 rw [encells_set x l k hk,←HTK.out]
 simp [List.take_set]
set_option maxRecDepth 100000 in
set_option maxHeartbeats 1000000 in
theorem epush_any {o:Nat→Nat} {c:Nat} {w:World} {r:Nat} {most:Int} {l:List En} (h:EringAt o c w r most l) (hm2:most≤100000) (hl:(l.length:Int)<most)
 (A:Option Addr) (cap:Nat) (x:En) (hr:Reads w 5 A 1 x.cells) (hcap:1≤cap) (hcap2:cap≤maxLen) :
 Calls Tryz.prog 119 #[.pointer (some ⟨r,0,none⟩), .slice A 1 cap] w fun e w'=>e = .returned (.int .i64 1)∧∃o',EringAt o' c w' r most (l ++ [x])∧Step o (only c) w o' w':=by
 have HR:=Lib.hid h
 obtain ⟨v,hb,hc,hv⟩:=h
 obtain ⟨A0,cap0,rfl,hc1,hc2⟩:=own_form_e hv
 have h0:=hb.cell 0
 have h1:=hb.cell 1
 have hfz:=hb.frozen 0
 simp at h0 h1
 have HB:=Lib.hid hb
 have HV:=Lib.hid hv
 obtain ⟨i0,hi,hz0,hz1,hz2⟩:=info_parts info_en
 clear hb hv
 have hmax:cap≤9223372036854775807:=by unfold maxLen at hcap2;omega
 have hcap2:=Lib.hid hcap2
 have hlen:(l.length:Int)≤100000:=by omega
 have hcapI:(1:Int)≤(cap:Int):=by omega
 have hmin:min (1:Int) (most - (l.length:Int))=1:=by omega
 have HO:=Lib.hid hc
 clear hc
 go_enter Tryz.func119,Tryz.ntmps119
 go_wp2_with (go_at_call 178;refine (erroom_any HR.out (by omega) (by omega) (by omega)).mono ?_;rintro e w' ⟨rfl,n,rfl⟩)
 have hrw:=(own_blk_ne HV.out HB.out (by decide))
 have HNE:=Lib.hid hrw
 clear hrw
 go_region_law (refine step_append_S _ rfl (.tmp 17) (.tmp 20) 193 rfl 126 i0 _ 5 48 Tryz.underlying193 hi hz0 hz1 hz2 rfl (by omega) (.slice A0 l.length cap0) l.length (encells l) rfl (HV.out.drewN n).drew A 1 cap x.cells rfl (hr.drewN n).drew (by simp [En.cells,Value.oneCell']) (by unfold maxLen;omega) (by omega) ?_;intro v' w1 hown hk hg hat;have hb1:Blk w1 r 195 _:=(hg.block r (HB.out.lt) (fun e=>HNE.out e.symm)).trans HB.out;have k0:=hb1.cell 0;have k1:=hb1.frozen 0;simp at k0 k1;obtain ⟨A1,cap1,rfl,_,_⟩:=own_form_e hown;have HB1:=Lib.hid hb1;clear hb1 hg;have HOWN:=Lib.hid hown;clear hown;have HAT:=Lib.hid hat;clear hat)
 go_wp2
 go_ret
 have hor:=(hk.old r HB.out.lt).trans HO.out
 refine ⟨rfl,_,⟨_,HB1.out.set_ 0 _,hor,?_⟩,?_⟩
 ·have e1:encells (l ++ [x])=encells l++x.cells:=by simp [encells]
  have h2:=HOWN.out.setCell (p:=⟨r,0,none⟩) (own_blk_ne HOWN.out HB1.out (by decide)) (Value.slice A1 (l.length+1) cap1)
  rw [e1]
  simpa using h2
 ·exact (Step.of_drewN hk).setCell (p:=⟨r,0,none⟩) hor _
set_option maxRecDepth 100000 in
set_option maxHeartbeats 1000000 in
theorem elist_any {o:Nat→Nat} {c:Nat} {w:World} {r:Nat} {most:Int} {l:List En} (d:Nat) (h:EringAt o c w r most l) (hm:l.length≤100000) :
 Calls Tryz.prog 125 #[.pointer (some ⟨r,0,none⟩)] w fun e w'=>∃A cap,e = .returned (.slice A l.length cap)∧OwnS (band o w.heap.size w'.heap.size d) d w' 126 5 (.slice A l.length cap) l.length (encells l)∧Below w.heap.size w w':=by
 obtain ⟨A0,cap0,h0,h1,hfz,hc1,hc2,HB,HV,HO,HNE⟩:=h.open_
 clear h
 obtain ⟨i0,hi,hz0,hz1,hz2⟩:=info_parts info_en
 go_enter Tryz.func125,Tryz.ntmps125
 go_wp2_with (at_builtin;refine wpList_append_S _ rfl (.const (.slice none 0 0)) (.tmp 8) 193 rfl 126 i0 _ 5 48 Tryz.underlying193 hi hz0 hz1 hz2 rfl (by omega) (.slice none 0 0) 0 [] rfl (OwnS.nil o d _ _ _) A0 l.length cap0 (encells l) rfl (Reads.of_own HV.out.1) (encells_one l) (by unfold maxLen;omega) (by omega) ?_;intro v' w1 hown hk hg hat;have hbl:Below w.heap.size w w1:=⟨hg.os,hg.tape,hg.output,hg.size,fun k hk=>hg.block k hk (by simp [Value.ownBlock])⟩;simp only [Nat.zero_add,List.nil_append] at hown;obtain ⟨A1,cap1,rfl,_,_⟩:=own_form_e hown;have HOWN:=Lib.hid hown;clear hown hk hg hat)
 go_ret
 exact ⟨A1,cap1,rfl,HOWN.out,hbl⟩
set_option maxRecDepth 100000 in
set_option maxHeartbeats 1000000 in
theorem enew_any (o:Nat→Nat) (c:Nat) (n:Int) (h0:0≤n) (h1:n≤100000) (w:World) :
 Calls Tryz.prog 54 #[.int .i64 n] w fun e w'=>e = .returned (.pointer (some ⟨w.heap.size,0,none⟩))∧EringAt (band o w.heap.size w'.heap.size c) c w' w.heap.size n []∧Below w.heap.size w w':=by
 go_enter Tryz.func54,Tryz.ntmps54
 go_wp2_with (go_at_call 110;refine (eroom_any _ _).mono ?_;rintro e w' ⟨rfl,rfl⟩)
 go_ret
 have e1:min (max n 0) 100000=n:=by omega
 refine ⟨rfl,⟨_,?_,band_in (Nat.le_refl _) (by simp),OwnS.nil _ _ _ _ _⟩,(Below.refl _ _).alloc (Nat.le_refl _) _⟩
 rw [e1]
 exact Blk.new _ _ _
set_option maxRecDepth 100000 in
set_option maxHeartbeats 2000000 in
theorem clabel_any (ep ls place n:Nat) (A:Option Addr) (m cap:Nat) (w:World) (he:ep<18446744073709551616) (hl:ls<18446744073709551616) (hp:place<256) (hn:n<256) :
 Calls Tryz.prog 149 #[.agg #[.int .u64 (ep:Int), .int .u64 (ls:Int), .slice A m cap], .int .i64 (place:Int), .int .i64 (n:Int)] w fun e w'=>e = .returned (.string (str (le ep 8++(le ls 8++(le place 1++le n 1)))))∧Below w.heap.size w w':=by
 have HNA:=Lib.hid (show numOk ep 8 from ⟨by omega,by omega,by simpa using he⟩)
 have HNB:=Lib.hid (show numOk ls 8 from ⟨by omega,by omega,by simpa using hl⟩)
 have HNC:=Lib.hid (show numOk place 1 from ⟨by omega,by omega,by simpa using hp⟩)
 have HND:=Lib.hid (show numOk n 1 from ⟨by omega,by omega,by simpa using hn⟩)
 have HA6:=Lib.hid he
 have HB6:=Lib.hid hl
 have HC6:=Lib.hid (show place<18446744073709551616 by omega)
 have HD6:=Lib.hid (show n<18446744073709551616 by omega)
 have wp:=wrapu_n (v:=place) (by omega)
 have wn:=wrapu_n (v:=n) (by omega)
 have HL0:=Lib.hid (show ([]:List UInt8).length≤1000000000 by simp)
 have HL1:=Lib.hid (show ([]++le ep (8:Int).toNat).length≤1000000000 by simp [le_len])
 have HL2:=Lib.hid (show ([]++le ep (8:Int).toNat++le ls (8:Int).toNat).length≤1000000000 by simp [le_len])
 have HL3:=Lib.hid (show ([]++le ep (8:Int).toNat++le ls (8:Int).toNat++le place (1:Int).toNat).length≤1000000000 by simp [le_len])
 have HN0:=Lib.hid (show ¬only 1 0 by unfold only;omega)
 clear he hl hp hn
 obtain ⟨o2,hw2,hs2⟩:=Wg.start (w0:=w) ((Below.refl w.heap.size w).alloc (Nat.le_refl _) (.cells #[.int .u64 (ep:Int), .int .u64 (ls:Int), .slice A m cap] 160))
 have hk2:Keep o2 _ w.heap.size 160 _:=Keep.step (o:=fun _=>0) ⟨Blk.new w 160 #[.int .u64 (ep:Int), .int .u64 (ls:Int), .slice A m cap],rfl⟩ (hs2 (fun _=>False)) (by simp)
 rw [show (w.alloc (.cells #[.int .u64 (ep:Int), .int .u64 (ls:Int), .slice A m cap] 160)).heap.size=w.heap.size+1 by simp] at hw2
 have HW2:=Lib.hid hw2
 have HK2:=Lib.hid hk2
 clear hw2 hs2 hk2
 go_enter Tryz.func149,Tryz.ntmps149
 go_upto_region 2 with (fail)
 generalize (w.alloc (.cells #[.int .u64 (ep:Int), .int .u64 (ls:Int), .slice A m cap] 160)).alloc (.cells #[.slice none 0 0, .int .i64 0] 242)=W at HW2 HK2 ⊢
 generalize hpe:w.heap.size+1=p at HW2 ⊢
 generalize hq:w.heap.size=q at HK2 ⊢
 have HPE:=Lib.hid hpe
 have HQ:=Lib.hid hq
 clear hpe hq
 obtain ⟨x0,x1⟩:=HK2.out.1.two
 go_region_held3 (fun w'=>w'.cell? ⟨q,0,none⟩=some (.int .u64 (ep:Int))∧w'.cell? ⟨q,1,none⟩=some (.int .u64 (ls:Int)))
  (first | exact ⟨x0,x1⟩ | exact hk7.1.two | exact hk6.1.two | exact hk5.1.two | exact hk4.1.two | exact hk3.1.two | go_keep)
  (first | (go_at_call 171;((with_reducible refine (wnum_ok HW2.out.drew ep 8 HNA.out HA6.out HL0.out).mono ?_);rintro e3 w3 ⟨rfl,o3,hw3,hs3⟩;have hk3:=HK2.out.drew.step hs3 HN0.out)) | (go_at_call 171;((with_reducible refine (wnum_ok hw3 ls 8 HNB.out HB6.out HL1.out).mono ?_);rintro e4 w4 ⟨rfl,o4,hw4,hs4⟩;have hk4:=hk3.step hs4 HN0.out)) | (go_at_call 171;((with_reducible refine (wnum_ok hw4 place 1 HNC.out HC6.out HL2.out).mono ?_);rintro e5 w5 ⟨rfl,o5,hw5,hs5⟩;have hk5:=hk4.step hs5 HN0.out)) | (go_at_call 171;((with_reducible refine (wnum_ok hw5 n 1 HND.out HD6.out HL3.out).mono ?_);rintro e6 w6 ⟨rfl,o6,hw6,hs6⟩;have hk6:=hk5.step hs6 HN0.out)) | (go_at_call 172;((with_reducible refine (wbytes_okb hw6).mono ?_);rintro e7 w7 ⟨rfl,hw7,hb7⟩;have hk7:=hk6.below_ hb7)))
 have HF:=Lib.hid hw7.env.low
 clear hw3 hs3 hk3 hw4 hs4 hk4 hw5 hs5 hk5 hw6 hs6 hk6 hw7 hb7 hk7 x0 x1 wp wn
 go_wp2_with fail
 go_ret
 exact ⟨rfl,HF.out⟩
theorem bodyL_snoc (l:List Im) (k:Nat) (x:Im) (hx:l[k]? = some x):bodyL (l.take (k+1))=bodyL (l.take k)++imL x:=by
 unfold bodyL
 rw [List.take_add_one,hx,List.flatMap_append]
 simp
set_option maxRecDepth 100000 in
set_option maxHeartbeats 4000000 in
theorem cbody_any (l:List Im) (w:World) (A:Option Addr) (cap:Nat) (h:Reads w 3 A l.length (imcells l)) (hl:l.length≤60) (hcap:l.length≤cap) (hcm:cap≤maxLen) (hr:∀i∈l,i.right) (hv:∀i∈l,i.ver<18446744073709551616) :
 Calls Tryz.prog 176 #[.slice A l.length cap] w fun e w'=>e = .returned (.string (str (bodyL l)))∧Below w.heap.size w w':=by
 unfold maxLen at hcm
 have HR:=Lib.hid h
 have HI:=Lib.hid hr
 have HV:=Lib.hid hv
 have HN0:=Lib.hid (show ¬only 1 0 by unfold only;omega)
 have HL0:=Lib.hid (show ([]:List UInt8).length≤1000000000 by simp)
 clear h hr hv
 go_enter Tryz.func176,Tryz.ntmps176
 go_wp2_with fail
 go_loopw [3,11] (fun t3 t11 wr=>∃k:Nat,k≤l.length∧t11 = .int .i64 k∧t3 = .string (str (bodyL (l.take k)))∧Below w.heap.size w wr) (fun _ t11 _=>l.length - (intOf t11).toNat)
 case atStart=>exact ⟨0,by omega,rfl,rfl,Below.refl _ _⟩
 case round =>
  obtain ⟨k,hk,rfl,rfl,hb⟩:=hrel
  have HB:=Lib.hid hb
  clear hb
  by_cases hlt:k<l.length
  ·have hltI:(k:Int)<(l.length:Int):=by omega
   have hkI:(0:Int)≤(k:Int):=by omega
   obtain ⟨x,hx⟩:∃x,l[k]? = some x:=⟨_,List.getElem?_eq_getElem hlt⟩
   have hxr:=HI.out x (List.mem_of_getElem? hx)
   have hxv:=HV.out x (List.mem_of_getElem? hx)
   have hrd:=HR.out.below' (by omega) HB.out
   obtain ⟨ad,rfl,c0,c1,c2⟩:=hrd.imrow hx
   have HSN:=Lib.hid (bodyL_snoc l k x hx)
   have hlen:=bodyL_len (l:=l.take k) (fun i hi=>HI.out i (List.mem_of_mem_take hi))
   rw [List.length_take] at hlen
   obtain ⟨n,v,d⟩:=x
   obtain ⟨m,rfl⟩:∃m:Nat,n=m:=⟨n.toNat,by have:=hxr.1;simp only at this;omega⟩
   simp only at c0 c1 c2 hxv
   have hm:m<4096:=by have:=hxr.2.1;simp only at this;omega
   have hdz:d.size=96:=hxr.2.2
   have wa:=wrapu_n (v:=m) (by omega)
   have HNA:=Lib.hid (show numOk m 4 from ⟨by omega,by omega,by simp;omega⟩)
   have HNB:=Lib.hid (show numOk v 8 from ⟨by omega,by omega,by simpa using hxv⟩)
   have HA6:=Lib.hid (show m<18446744073709551616 by omega)
   have HB6:=Lib.hid hxv
   have HL1:=Lib.hid (show ([]++le m (4:Int).toNat).length≤1000000000 by simp [le_len])
   have hc1:(str (le m 4++le v 8)).size+d.size≤9223372036854775807:=by rw [str_size,hdz];simp [le_len]
   have HC2:=Lib.hid (show (str (bodyL (l.take k))).size+(str (le m 4++le v 8)++d).size≤9223372036854775807 by rw [str_size,hlen,ByteArray.size_append,str_size,hdz];simp [le_len];omega)
   have HCC:=Lib.hid (show str (bodyL (l.take k))++(str (le m 4++le v 8)++d)=str (bodyL (l.take (k+1))) by
    rw [HSN.out]
    have:=str_append (le m 4++le v 8) d.data.toList
    rw [str_of] at this
    rw [this,str_append]
    unfold imL
    simp)
   have HC1:=Lib.hid hc1
   obtain ⟨o2,hw2,hs2⟩:=Wg.start (w0:=w) (HB.out.alloc HB.out.size (.cells #[.int .i64 (m:Int), .int .u64 (v:Int), .string d] 47))
   have hk2:Keep o2 _ wr.heap.size 47 _:=Keep.step (o:=fun _=>0) ⟨Blk.new wr 47 #[.int .i64 (m:Int), .int .u64 (v:Int), .string d],rfl⟩ (hs2 (fun _=>False)) (by simp)
   rw [show (wr.alloc (.cells #[.int .i64 (m:Int), .int .u64 (v:Int), .string d] 47)).heap.size=wr.heap.size+1 by simp] at hw2
   have HW2:=Lib.hid hw2
   have HK2:=Lib.hid hk2
   clear hx hxr hxv hrd hlen hm hdz hw2 hs2 hk2 hc1
   go_upto_region 6 with (fail)
   clear c0 c1 c2
   generalize (wr.alloc (.cells #[.int .i64 (m:Int), .int .u64 (v:Int), .string d] 47)).alloc (.cells #[.slice none 0 0, .int .i64 0] 242)=W at HW2 HK2 ⊢
   generalize wr.heap.size+1=p at HW2 ⊢
   generalize wr.heap.size=q at HK2 ⊢
   obtain ⟨x0,x1⟩:=HK2.out.1.two
   go_region_held3 (fun w'=>w'.cell? ⟨q,0,none⟩=some (.int .i64 (m:Int))∧w'.cell? ⟨q,1,none⟩=some (.int .u64 (v:Int)))
    (first | exact ⟨x0,x1⟩ | exact hk5.1.two | exact hk4.1.two | exact hk3.1.two | go_keep)
    (first | (go_at_call 171;((with_reducible refine (wnum_ok HW2.out.drew m 4 HNA.out HA6.out HL0.out).mono ?_);rintro e3 w3 ⟨rfl,o3,hw3,hs3⟩;have hk3:=HK2.out.drew.step hs3 HN0.out)) | (go_at_call 171;((with_reducible refine (wnum_ok hw3 v 8 HNB.out HB6.out HL1.out).mono ?_);rintro e4 w4 ⟨rfl,o4,hw4,hs4⟩;have hk4:=hk3.step hs4 HN0.out)) | (go_at_call 172;((with_reducible refine (wbytes_okb hw4).mono ?_);rintro e5 w5 ⟨rfl,hw5,hb5⟩;have hk5:=hk4.below_ hb5)))
   have HW5:=Lib.hid hw5.env.low
   have x2:w5.cell? ⟨q,2,none⟩=some (.string d):=hk5.1.cell 2
   clear hw3 hs3 hk3 hw4 hs4 hk4 hw5 hb5 hk5 x0 x1 wa
   have hc1:=HC1.out
   have hc2:=HC2.out
   go_wp2_with fail
   go_roundw
   case rel=>exact ⟨k+1,by omega,by go_num,by rw [←HCC.out],HW5.out⟩
   case measure=>simp [intOf];omega
  ·have hltI:¬(k:Int)<(l.length:Int):=by omega
   obtain rfl:k=l.length:=by omega
   have HT:=Lib.hid (show bodyL (l.take l.length)=bodyL l by rw [List.take_length])
   go_wp2_with fail
   go_ret
   exact ⟨by rw [←HT.out];rfl,HB.out⟩
set_option maxRecDepth 100000 in
set_option maxHeartbeats 2000000 in
theorem puthead_any (h:Hd) (w:World) (he:h.epoch<18446744073709551616) (hl:h.lsn<18446744073709551616) :
 Calls Tryz.prog 111 #[.agg #[.int .u64 h.epoch, .int .u64 h.lsn, .int .i64 h.at_]] w fun e w'=>e = .returned (.tuple #[.string h.putS, .int .i64 h.putE])∧Below w.heap.size w w':=by
 obtain ⟨ep,ls,a⟩:=h
 simp only at he hl ⊢
 have HB:=Lib.hid ((Below.refl w.heap.size w).alloc (Nat.le_refl _) (.cells #[.int .u64 ep, .int .u64 ls, .int .i64 a] 156))
 have bad:Hd.bad ⟨ep,ls,a⟩→Hd.putS ⟨ep,ls,a⟩=⟨#[]⟩∧Hd.putE ⟨ep,ls,a⟩=1:=fun h=>⟨if_pos h,if_pos h⟩
 by_cases z0:ep=0
 ·obtain ⟨e1,e2⟩:=bad (.inl z0)
  have zI:((ep:Int) == 0)=true:=by simp [z0]
  rw [e1,e2]
  clear e1 e2 bad z0 he hl
  go_enter Tryz.func111,Tryz.ntmps111
  go_wp2_with fail
  go_ret2
  exact ⟨rfl,HB.out⟩
 ·have zI:((ep:Int) == 0)=false:=by simp [z0]
  by_cases z1:ls=0
  ·obtain ⟨e1,e2⟩:=bad (.inr (.inl z1))
   have yI:((ls:Int) == 0)=true:=by simp [z1]
   rw [e1,e2]
   clear e1 e2 bad z0 z1 he hl
   go_enter Tryz.func111,Tryz.ntmps111
   go_wp2_with fail
   go_ret2
   exact ⟨rfl,HB.out⟩
  ·have yI:((ls:Int) == 0)=false:=by simp [z1]
   by_cases z2:a<0
   ·obtain ⟨e1,e2⟩:=bad (.inr (.inr (.inl z2)))
    rw [e1,e2]
    clear e1 e2 bad z0 z1 he hl
    go_enter Tryz.func111,Tryz.ntmps111
    go_wp2_with fail
    go_ret2
    exact ⟨rfl,HB.out⟩
   ·by_cases z3:256<a
    ·obtain ⟨e1,e2⟩:=bad (.inr (.inr (.inr z3)))
     rw [e1,e2]
     clear e1 e2 bad z0 z1 he hl
     go_enter Tryz.func111,Tryz.ntmps111
     go_wp2_with fail
     go_ret2
     exact ⟨rfl,HB.out⟩
    ·have hnb:¬Hd.bad ⟨ep,ls,a⟩:=by unfold Hd.bad;simp only;omega
     obtain ⟨n,rfl⟩:∃n:Nat,a=n:=⟨a.toNat,by omega⟩
     have e1:Hd.putS ⟨ep,ls,n⟩=str (headL ⟨ep,ls,n⟩):=if_neg hnb
     have e2:Hd.putE ⟨ep,ls,n⟩=0:=if_neg hnb
     rw [e1,e2]
     have hn:n≤256:=by omega
     have HNA:=Lib.hid (show numOk ep 8 from ⟨by omega,by omega,by simpa using he⟩)
     have HNB:=Lib.hid (show numOk ls 8 from ⟨by omega,by omega,by simpa using hl⟩)
     have HNC:=Lib.hid (show numOk n 4 from ⟨by omega,by omega,by simp;omega⟩)
     have HA6:=Lib.hid he
     have HB6:=Lib.hid hl
     have HC6:=Lib.hid (show n<18446744073709551616 by omega)
     have wn:=wrapu_n (v:=n) (by omega)
     have HL0:=Lib.hid (show ([]:List UInt8).length≤1000000000 by simp)
     have HL1:=Lib.hid (show ([]++le ep (8:Int).toNat).length≤1000000000 by simp [le_len])
     have HL2:=Lib.hid (show ([]++le ep (8:Int).toNat++le ls (8:Int).toNat).length≤1000000000 by simp [le_len])
     have HN0:=Lib.hid (show ¬only 1 0 by unfold only;omega)
     have hcat:¬9223372036854775807<(ByteArray.mk #[72,69,65,68]).size+(str (le ep 8++(le ls 8++le n 4))).size:=by
      rw [str_size]
      simp [le_len]
      decide
     have HC:=Lib.hid (show ByteArray.mk #[72,69,65,68]++str (le ep 8++(le ls 8++le n 4))=str (headT ⟨ep,ls,n⟩) from str_append [72,69,65,68] _)
     have HZ:=Lib.hid (show (str (headT ⟨ep,ls,n⟩)).size≤60 by rw [str_size,headT_len];omega)
     have HF:=Lib.hid (show str (stampL (str (headT ⟨ep,ls,n⟩)).data.toList 64)=str (headL ⟨ep,ls,n⟩) by rw [str_list];rfl)
     have z3I:¬(256:Int)<(n:Int):=z3
     clear e1 e2 bad z0 z1 z2 z3 he hl hnb
     obtain ⟨o2,hw2,hs2⟩:=Wg.start (w0:=w) ((Below.refl w.heap.size w).alloc (Nat.le_refl _) (.cells #[.int .u64 (ep:Int), .int .u64 (ls:Int), .int .i64 (n:Int)] 156))
     have hk2:Keep o2 _ w.heap.size 156 _:=Keep.step (o:=fun _=>0) ⟨Blk.new w 156 #[.int .u64 (ep:Int), .int .u64 (ls:Int), .int .i64 (n:Int)],rfl⟩ (hs2 (fun _=>False)) (by simp)
     rw [show (w.alloc (.cells #[.int .u64 (ep:Int), .int .u64 (ls:Int), .int .i64 (n:Int)] 156)).heap.size=w.heap.size+1 by simp] at hw2
     have HW2:=Lib.hid hw2
     have HK2:=Lib.hid hk2
     clear hw2 hs2 hk2
     go_enter Tryz.func111,Tryz.ntmps111
     go_upto_region 4 with (fail)
     generalize (w.alloc (.cells #[.int .u64 (ep:Int), .int .u64 (ls:Int), .int .i64 (n:Int)] 156)).alloc (.cells #[.slice none 0 0, .int .i64 0] 242)=W at HW2 HK2 ⊢
     generalize hpe:w.heap.size+1=p at HW2 ⊢
     generalize hq:w.heap.size=q at HK2 ⊢
     have HPE:=Lib.hid hpe
     have HQ:=Lib.hid hq
     clear hpe hq
     obtain ⟨x0,x1,x2⟩:=HK2.out.1.three
     go_region_held3 (fun w'=>w'.cell? ⟨q,0,none⟩=some (.int .u64 (ep:Int))∧w'.cell? ⟨q,1,none⟩=some (.int .u64 (ls:Int))∧w'.cell? ⟨q,2,none⟩=some (.int .i64 (n:Int)))
      (first | exact ⟨x0,x1,x2⟩ | exact hk7.1.three | exact hk5.1.three | exact hk4.1.three | exact hk3.1.three | go_keep)
      (first | (go_at_call 171;((with_reducible refine (wnum_ok HW2.out.drew ep 8 HNA.out HA6.out HL0.out).mono ?_);rintro e3 w3 ⟨rfl,o3,hw3,hs3⟩;have hk3:=HK2.out.drew.step hs3 HN0.out)) | (go_at_call 171;((with_reducible refine (wnum_ok hw3 ls 8 HNB.out HB6.out HL1.out).mono ?_);rintro e4 w4 ⟨rfl,o4,hw4,hs4⟩;have hk4:=hk3.step hs4 HN0.out)) | (go_at_call 171;((with_reducible refine (wnum_ok hw4 n 4 HNC.out HC6.out HL2.out).mono ?_);rintro e5 w5 ⟨rfl,o5,hw5,hs5⟩;have hk5:=hk4.step hs5 HN0.out)) | (go_at_call 172;((with_reducible refine (wbytes_okb hw5).mono ?_);rintro e7 w7 ⟨rfl,hw7,hb7⟩;have hk7:=hk5.below_ hb7)))
     have HF7:=Lib.hid hw7.env.low
     clear hw3 hs3 hk3 hw4 hs4 hk4 hw5 hs5 hk5 hw7 hb7 hk7 x0 x1 x2 wn
     try go_wp2_with fail
     rw [HC.out]
     refine (stamp_any (str (headT ⟨ep,ls,n⟩)) HZ.out w7).mono ?_
     rintro e w8 ⟨rfl,hb8⟩
     rw [HF.out]
     have HB8:=Lib.hid (HF7.out.trans (hb8.mono HF7.out.size))
     clear hb8
     go_wp2_with fail
     go_ret2
     exact ⟨rfl,HB8.out⟩
set_option maxRecDepth 100000 in
set_option maxHeartbeats 4000000 in
theorem gethead_any (b:ByteArray) (w:World) (hb:b.size≤1000000000) :
 Calls Tryz.prog 145 #[.string b] w fun e w'=>e = .returned (.tuple #[(lhG b).agg, .int .i64 (lhE b)])∧Below w.heap.size w w':=by
 have HB0:=Lib.hid ((Env.start w).alloc (.cells #[.int .u64 0, .int .u64 0, .int .i64 0] 156))
 have HZ0:=Lib.hid (Keep.new (fut0 w) 156 #[.int .u64 0, .int .u64 0, .int .i64 0])
 have fin:∀(W:World) (x:Hd) (e:Int),Blk W w.heap.size 156 #[.int .u64 x.epoch, .int .u64 x.lsn, .int .i64 x.at_]→Below w.heap.size w W→lhG b=x→lhE b=e →
  Blk W w.heap.size 156 #[.int .u64 x.epoch, .int .u64 x.lsn, .int .i64 x.at_]∧Below w.heap.size w W∧Ending.returned (.tuple #[.agg #[.int .u64 x.epoch, .int .u64 x.lsn, .int .i64 x.at_], .int .i64 e]) = .returned (.tuple #[(lhG b).agg, .int .i64 (lhE b)]):=fun W x e h1 h2 h3 h4=>⟨h1,h2,by rw [h3,h4];rfl⟩
 have FIN:=Lib.hid fin
 clear fin
 by_cases hs:b.size=64
 ·have hsI:((b.size:Int) != 64)=false:=by simp;omega
  have HLE:=Lib.hid (show lhE b=if readE b.data.toList≠0 then readE b.data.toList else if ¬(lhX b).bad∧(lhX b).putS=b then 0 else 4 by unfold lhE;rw [if_neg (by omega)])
  have HS:=Lib.hid hb
  have HSZ:=Lib.hid hs
  have HLG:=Lib.hid (show lhG b=if lhE b=0 then lhX b else Hd.zero from rfl)
  clear hs hb
  go_enter Tryz.func145,Tryz.ntmps145
  go_wp2_with fail
  generalize w.alloc (.cells #[.int .u64 0, .int .u64 0, .int .i64 0] 156)=W at HB0 HZ0 ⊢
  refine (sread_any b HS.out W).mono ?_
  rintro e w1 ⟨rfl,hb1⟩
  have HB1:=Lib.hid (HB0.out.below_ hb1)
  have HZ1:=Lib.hid (HZ0.out.below_ hb1)
  clear hb1
  obtain ⟨E,hE⟩:∃E,readE b.data.toList=E:=⟨_,rfl⟩
  have HRL:=Lib.hid (fun (h:readE b.data.toList=0)=>readL_len h)
  rw [hE] at HLE HRL ⊢
  have HEE:=Lib.hid hE
  clear hE
  by_cases h0:E=0
  ·subst h0
   have ht:=HRL.out rfl
   rw [show b.data.toList.length=64 from HSZ.out] at ht
   have HX:=Lib.hid (show lhX b=⟨(⟨str ((readL b.data.toList).drop 4),0⟩:Rd).numV 8,((⟨str ((readL b.data.toList).drop 4),0⟩:Rd).numR 8).numV 8,((((⟨str ((readL b.data.toList).drop 4),0⟩:Rd).numR 8).numR 8).numV 4:Nat)⟩ from rfl)
   generalize readL b.data.toList=t at ht HX ⊢
   have hsz:(str t).size=60:=by rw [str_size,ht]
   have s1:(4:Int)≤((str t).size:Int):=by rw [hsz];omega
   have HRS:=Lib.hid (rest_str t 4)
   have HN:=Lib.hid (show (str (t.drop 4)).size≤1000000000 by rw [str_size,List.length_drop,ht];omega)
   have HN0:=Lib.hid (show ¬only 1 0 by unfold only;omega)
   clear hsz ht
   go_wp2_with fail
   rw [HRS.out]
   generalize t.drop 4=u at HX HN ⊢
   refine (newreader_any (fun _=>0) 1 (str u) w1 HN.out).mono ?_
   rintro e w2 ⟨p,o2,rfl,hrd,hb2,hst2⟩
   have HS2:=Lib.hid (show Gs 262 o2 w w2 p ⟨str u,0⟩ from ⟨hrd,HB1.out.step (hst2 (fun _=>False)) (by simp),(show Fut (fun _=>0) w1 from fun _ _=>rfl).step (hst2 (fun _=>False))⟩)
   have HK2:=Lib.hid (HZ1.out.step (hst2 (fun _=>False)) (by simp))
   clear hrd hb2 hst2
   go_wp2_with fail
   refine (rnum_g HS2.out 8).mono ?_
   rintro e w3 ⟨rfl,o3,hg3,hs3⟩
   have HS3:=Lib.hid hg3
   have HK3:=Lib.hid (HK2.out.step hs3 HN0.out)
   clear hg3 hs3
   go_wp2_with fail
   refine (rnum_g HS3.out 8).mono ?_
   rintro e w4 ⟨rfl,o4,hg4,hs4⟩
   have HS4:=Lib.hid hg4
   have HK4:=Lib.hid (HK3.out.step hs4 HN0.out)
   clear hg4 hs4
   go_wp2_with fail
   refine (rnum_g HS4.out 4).mono ?_
   rintro e w5 ⟨rfl,o5,hg5,hs5⟩
   have HK5:=Lib.hid (HK4.out.step hs5 HN0.out)
   have HL5:=Lib.hid hg5.env.low
   clear hg5 hs5
   obtain ⟨a,ha⟩:∃a,(⟨str u,0⟩:Rd).numV 8=a:=⟨_,rfl⟩
   obtain ⟨v,hv⟩:∃v,((⟨str u,0⟩:Rd).numR 8).numV 8=v:=⟨_,rfl⟩
   obtain ⟨c,hc⟩:∃c,(((⟨str u,0⟩:Rd).numR 8).numR 8).numV 4=c:=⟨_,rfl⟩
   have HAL:=Lib.hid (show a<18446744073709551616 by rw [←ha];exact numV_lt _ 8 (by omega))
   have HVL:=Lib.hid (show v<18446744073709551616 by rw [←hv];exact numV_lt _ 8 (by omega))
   have hcl:c<4294967296:=by rw [←hc];exact numV_lt _ 4 (by omega)
   have hwc:=wrap_small hcl
   rw [ha,hv,hc] at HX ⊢
   clear ha hv hc hcl
   have HX5:=Lib.hid (Blk.new w5 156 #[.int .u64 (a:Int), .int .u64 (v:Int), .int .i64 (c:Int)])
   have HB5:=Lib.hid (HL5.out.alloc HL5.out.size (.cells #[.int .u64 (a:Int), .int .u64 (v:Int), .int .i64 (c:Int)] 156))
   have HZ5:=Lib.hid (HK5.out.1.alloc (.cells #[.int .u64 (a:Int), .int .u64 (v:Int), .int .i64 (c:Int)] 156))
   go_wp2_with fail
   generalize w5.alloc (.cells #[.int .u64 (a:Int), .int .u64 (v:Int), .int .i64 (c:Int)] 156)=W5 at HX5 HB5 HZ5 ⊢
   generalize w5.heap.size=gX at HX5 ⊢
   refine (puthead_any ⟨a,v,(c:Int)⟩ W5 HAL.out HVL.out).mono ?_
   rintro e w6 ⟨rfl,hb6⟩
   have HB6:=Lib.hid (HB5.out.trans (hb6.mono HB5.out.size))
   have HZ6:=Lib.hid (HZ5.out.below_ hb6)
   obtain ⟨x0,x1,x2⟩:=(HX5.out.below_ hb6).three
   obtain ⟨y0,y1,y2⟩:=HZ6.out.three
   have f0:=HZ6.out.frozen 0
   have f1:=HZ6.out.frozen 1
   have f2:=HZ6.out.frozen 2
   clear hb6 hwc
   obtain ⟨X,hX⟩:∃X:Hd,X=⟨a,v,(c:Int)⟩:=⟨_,rfl⟩
   rw [←hX] at HX ⊢
   rw [HX.out] at HLE HLG
   have HXX:=Lib.hid hX
   clear hX
   by_cases hbad:X.bad
   ·have t1:X.putE=1:=if_pos hbad
    have HE:=Lib.hid (show lhE b=4 by rw [HLE.out];simp [hbad])
    have HG:=Lib.hid (show lhG b=Hd.zero by rw [HLG.out,HE.out];rfl)
    rw [t1]
    generalize X.putS=PS
    clear hbad t1
    go_wp2_with fail
    obtain ⟨hz3,hb3,he⟩:=FIN.out _ Hd.zero 4 (HZ6.out.put3 (.int .u64 0) (.int .u64 0) (.int .i64 0)) (below_put3 HB6.out (Nat.le_refl _) _ _ _) HG.out HE.out
    rw [←he]
    clear x0 x1 x2 y0 y1 y2 f0 f1 f2
    generalize ((w6.setCell ⟨w.heap.size,0,none⟩ (.int .u64 0)).setCell ⟨w.heap.size,1,none⟩ (.int .u64 0)).setCell ⟨w.heap.size,2,none⟩ (.int .i64 0)=WE at hz3 hb3 ⊢
    obtain ⟨q0,q1,q2⟩:=hz3.three
    exact bodyPost_ret (v := .tuple #[.agg #[.int .u64 0, .int .u64 0, .int .i64 0], .int .i64 4]) (by simp [results,Tryz.results145,go_sem,q0,q1,q2,Hd.zero]) rfl ⟨rfl,hb3⟩
   ·have t1:X.putE=0:=if_neg hbad
    rw [t1]
    by_cases hsb:X.putS=b
    ·have HE:=Lib.hid (show lhE b=0 by rw [HLE.out];simp [hbad,hsb])
     have HG:=Lib.hid (show lhG b=⟨a,v,(c:Int)⟩ by rw [HLG.out,HE.out,HXX.out];rfl)
     rw [hsb]
     have t2:(b.toList == b.toList)=true:=beq_self_eq_true _
     clear hbad hsb t1
     go_wp2_with fail
     obtain ⟨hz3,hb3,he⟩:=FIN.out _ ⟨a,v,(c:Int)⟩ 0 (HZ6.out.put3 (.int .u64 (a:Int)) (.int .u64 (v:Int)) (.int .i64 (c:Int))) (below_put3 HB6.out (Nat.le_refl _) _ _ _) HG.out HE.out
     rw [←he]
     clear x0 x1 x2 y0 y1 y2 f0 f1 f2 t2
     generalize ((w6.setCell ⟨w.heap.size,0,none⟩ (.int .u64 (a:Int))).setCell ⟨w.heap.size,1,none⟩ (.int .u64 (v:Int))).setCell ⟨w.heap.size,2,none⟩ (.int .i64 (c:Int))=WE at hz3 hb3 ⊢
     obtain ⟨q0,q1,q2⟩:=hz3.three
     exact bodyPost_ret (v := .tuple #[.agg #[.int .u64 (a:Int), .int .u64 (v:Int), .int .i64 (c:Int)], .int .i64 0]) (by simp [results,Tryz.results145,go_sem,q0,q1,q2]) rfl ⟨rfl,hb3⟩
    ·have HE:=Lib.hid (show lhE b=4 by rw [HLE.out];simp [hbad,hsb])
     have HG:=Lib.hid (show lhG b=Hd.zero by rw [HLG.out,HE.out];rfl)
     have t2:=str_neq hsb
     generalize X.putS=PS at t2 ⊢
     clear hbad hsb t1
     go_wp2_with fail
     obtain ⟨hz3,hb3,he⟩:=FIN.out _ Hd.zero 4 (HZ6.out.put3 (.int .u64 0) (.int .u64 0) (.int .i64 0)) (below_put3 HB6.out (Nat.le_refl _) _ _ _) HG.out HE.out
     rw [←he]
     clear x0 x1 x2 y0 y1 y2 f0 f1 f2 t2
     generalize ((w6.setCell ⟨w.heap.size,0,none⟩ (.int .u64 0)).setCell ⟨w.heap.size,1,none⟩ (.int .u64 0)).setCell ⟨w.heap.size,2,none⟩ (.int .i64 0)=WE at hz3 hb3 ⊢
     obtain ⟨q0,q1,q2⟩:=hz3.three
     exact bodyPost_ret (v := .tuple #[.agg #[.int .u64 0, .int .u64 0, .int .i64 0], .int .i64 4]) (by simp [results,Tryz.results145,go_sem,q0,q1,q2,Hd.zero]) rfl ⟨rfl,hb3⟩
  ·have t1:(E != 0)=true:=bne_iff_ne.2 h0
   have HE:=Lib.hid (show lhE b=E by rw [HLE.out];simp [h0])
   have HG:=Lib.hid (show lhG b=Hd.zero by rw [HLG.out,HE.out];exact if_neg h0)
   obtain ⟨y0,y1,y2⟩:=HZ1.out.1.three
   have f0:=HZ1.out.1.frozen 0
   have f1:=HZ1.out.1.frozen 1
   have f2:=HZ1.out.1.frozen 2
   clear h0
   go_wp2_with fail
   obtain ⟨hz3,hb3,he⟩:=FIN.out _ Hd.zero E (HZ1.out.1.put3 (.int .u64 0) (.int .u64 0) (.int .i64 0)) (below_put3 HB1.out.low (Nat.le_refl _) _ _ _) HG.out HE.out
   rw [←he]
   clear y0 y1 y2 f0 f1 f2
   generalize ((w1.setCell ⟨w.heap.size,0,none⟩ (.int .u64 0)).setCell ⟨w.heap.size,1,none⟩ (.int .u64 0)).setCell ⟨w.heap.size,2,none⟩ (.int .i64 0)=WE at hz3 hb3 ⊢
   obtain ⟨q0,q1,q2⟩:=hz3.three
   exact bodyPost_ret (v := .tuple #[.agg #[.int .u64 0, .int .u64 0, .int .i64 0], .int .i64 E]) (by simp [results,Tryz.results145,go_sem,q0,q1,q2,Hd.zero]) rfl ⟨rfl,hb3⟩
 ·have hsI:((b.size:Int) != 64)=true:=by simp;omega
  have HE:=Lib.hid (show lhE b=5 by unfold lhE;rw [if_pos hs])
  have HG:=Lib.hid (show lhG b=Hd.zero by unfold lhG;rw [HE.out];rfl)
  clear hs
  go_enter Tryz.func145,Tryz.ntmps145
  go_wp2_with fail
  obtain ⟨hz,hb,he⟩:=FIN.out _ Hd.zero 5 HZ0.out.1 HB0.out.low HG.out HE.out
  rw [←he]
  exact bodyPost_ret (v := .tuple #[.agg #[.int .u64 0, .int .u64 0, .int .i64 0], .int .i64 5]) (by simp [results,Tryz.results145,go_sem]) rfl ⟨rfl,hb⟩
end Go.Proofs.YtldoeodkeieejaaGreatDoor
