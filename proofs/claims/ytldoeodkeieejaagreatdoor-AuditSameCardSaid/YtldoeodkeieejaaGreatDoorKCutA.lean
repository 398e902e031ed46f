import Derived.Test.YtldoeodkeieejaaGreatDoorKMapR
import Derived.Test.YtldoeodkeieejaaGreatDoorKWireC
import Derived.Test.YtldoeodkeieejaaGreatDoorKLeaf
import Derived.Maps.RangeWalk
import Derived.Shelf.Slices.Clone
import Derived.Ground.Names2Prog
import Derived.Test.YtldoeodkeieejaaGreatDoorProg
namespace Go.Proofs.YtldoeodkeieejaaGreatDoor
open Go.RowKit
structure Ws where
 node:Int
 at_:Int
 seq:Int
 data:ByteArray
def Ws.cells (x:Ws):List Value := [.int .i64 x.node, .int .i64 x.at_, .int .i64 x.seq, .string x.data]
def Ws.agg (x:Ws):Value := .agg #[.int .i64 x.node, .int .i64 x.at_, .int .i64 x.seq, .string x.data]
structure Dk where
 sectors:Nat
 on:Bool
 seq:Nat
 now:Int→Option ByteArray
 lasts:Int→Option Ws
 waits:List Ws
 table:Nat→Nat
 words:Nat→Nat
 last:Nat
 armed:Bool
 left:Int
 stays:List Int
def Dk.cells (D:Dk) (mn ml:Nat) (wv sv:Value):Array Value :=
 #[.int .i64 D.sectors, .bool D.on, .int .i64 D.seq, .map (some mn), .map (some ml),wv,
  .int .u64 (D.table 0), .int .u64 (D.table 1), .int .u64 (D.table 2), .int .u64 (D.table 3), .int .u64 (D.table 4), .int .u64 (D.table 5), .int .u64 (D.table 6), .int .u64 (D.table 7), .int .u64 (D.table 8), .int .u64 (D.table 9), .int .u64 (D.table 10), .int .u64 (D.table 11), .int .u64 (D.table 12), .int .u64 (D.table 13), .int .u64 (D.table 14), .int .u64 (D.table 15), .int .u64 (D.table 16),
  .int .u64 (D.words 0), .int .u64 (D.words 1), .int .u64 (D.words 2), .int .u64 (D.words 3), .int .u64 (D.words 4), .int .u64 (D.words 5), .int .u64 (D.words 6), .int .u64 (D.words 7), .int .u64 (D.words 8), .int .u64 (D.words 9), .int .u64 (D.words 10), .int .u64 (D.words 11), .int .u64 (D.words 12), .int .u64 (D.words 13), .int .u64 (D.words 14), .int .u64 (D.words 15), .int .u64 (D.words 16),
  .int .u64 D.last, .bool D.armed, .int .i64 D.left,sv]
def intcells (l:List Int):List Value:=l.map (fun n => .int .i64 n)
structure DiskIn (o:Nat→Nat) (c:Nat) (w:World) (p:Nat) (D:Dk) (mn ml:Nat) (wv sv:Value):Prop where
 blk:Blk w p 81 (D.cells mn ml wv sv)
 col:o p=c
 now:MapR o (c+1) w mn (fun k=>(D.now k).map .string)
 lasts:MapR o (c+2) w ml (fun k=>(D.lasts k).map Ws.agg)
 waits:OwnW o (c+3) w 153 4 wv D.waits.length (D.waits.flatMap Ws.cells)
 stays:OwnW o (c+4) w 3 1 sv D.stays.length (intcells D.stays)
def DiskAt (o:Nat→Nat) (c:Nat) (w:World) (p:Nat) (D:Dk):Prop:=∃mn ml wv sv,DiskIn o c w p D mn ml wv sv
def six (c:Nat):Nat→Prop:=fun x=>c≤x∧x≤c+5
section
variable {o o':Nat→Nat} {c p:Nat} {C:Nat→Prop} {w w':World} {D:Dk} {mn ml:Nat} {wv sv:Value}
theorem DiskIn.step (h:DiskIn o c w p D mn ml wv sv) (hs:Step o C w o' w') (hc:∀x,c≤x→x≤c+4→¬C x):DiskIn o' c w' p D mn ml wv sv :=
 ⟨h.blk.step hs (by rw [h.col];exact hc c (by omega) (by omega)),(hs.old p h.blk.lt).trans h.col,h.now.step hs (hc _ (by omega) (by omega)),h.lasts.step hs (hc _ (by omega) (by omega)),h.waits.step hs (hc _ (by omega) (by omega)),h.stays.step hs (hc _ (by omega) (by omega))⟩
theorem DiskAt.step (h:DiskAt o c w p D) (hs:Step o C w o' w') (hc:∀x,c≤x→x≤c+4→¬C x):DiskAt o' c w' p D:=by
 obtain ⟨mn,ml,wv,sv,h1⟩:=h
 exact ⟨mn,ml,wv,sv,h1.step hs hc⟩
theorem DiskAt.below_ (h:DiskAt o c w p D) (hb:Below w.heap.size w w'):DiskAt o c w' p D:=h.step (Step.of_below o (fun _=>False) hb) (fun _ _ _=>id)
theorem DiskAt.alloc (h:DiskAt o c w p D) (x:Obj):DiskAt o c (w.alloc x) p D:=h.below_ ((Below.refl _ _).alloc (Nat.le_refl _) x)
theorem DiskAt.drewN (h:DiskAt o c w p D) (n:Nat):DiskAt o c (w.drewN n) p D:=h.below_ ⟨rfl,rfl,rfl,Nat.le_refl _,fun _ _=>rfl⟩
theorem DiskAt.drew (h:DiskAt o c w p D):DiskAt o c w.drew p D:=h.below_ ⟨rfl,rfl,rfl,Nat.le_refl _,fun _ _=>rfl⟩
theorem DiskIn.table (h:DiskIn o c w p D mn ml wv sv) (k:Nat) (hk:k≤16):w.cell? ⟨p,6+k,none⟩=some (.int .u64 (D.table k)):=by
 rw [h.blk.cell]
 rcases k with _ | _ | _ | _ | _ | _ | _ | _ | _ | _ | _ | _ | _ | _ | _ | _ | _ | k <;> first | rfl | omega
theorem DiskIn.word (h:DiskIn o c w p D mn ml wv sv) (k:Nat) (hk:k≤16):w.cell? ⟨p,23+k,none⟩=some (.int .u64 (D.words k)):=by
 rw [h.blk.cell]
 rcases k with _ | _ | _ | _ | _ | _ | _ | _ | _ | _ | _ | _ | _ | _ | _ | _ | _ | k <;> first | rfl | omega
end
theorem don_any {o:Nat→Nat} {c p:Nat} {w:World} {D:Dk} (h:DiskAt o c w p D):Calls Tryz.prog 25 #[.pointer (some ⟨p,0,none⟩)] w fun e w'=>e = .returned (.bool D.on)∧w=w':=by
 obtain ⟨mn,ml,wv,sv,h1⟩:=h
 have c1:w.cell? ⟨p,1,none⟩=some (.bool D.on):=h1.blk.cell 1
 clear h1
 go_enter Tryz.func25,Tryz.ntmps25
 go_wp2_with fail
 go_ret
 exact ⟨rfl,rfl⟩
def Dk.may (D:Dk) (node:Int):Int:=if D.on=false then 14 else if node<0∨16<node then 1 else 0
theorem dmay_any {o:Nat→Nat} {c p:Nat} {w:World} {D:Dk} (h:DiskAt o c w p D) (node:Int):Calls Tryz.prog 45 #[.pointer (some ⟨p,0,none⟩), .int .i64 node] w fun e w'=>e = .returned (.int .i64 (D.may node))∧w=w':=by
 have H:=Lib.hid h
 clear h
 go_enter Tryz.func45,Tryz.ntmps45
 go_wp2_with fail
 refine (don_any H.out).mono ?_
 rintro e w1 ⟨rfl,rfl⟩
 cases hon:D.on with
 | false =>
   go_wp2_with fail
   go_ret
   exact ⟨by simp [Dk.may,hon],rfl⟩
 | true =>
   by_cases h0:node<0
   ·go_wp2_with fail
    go_ret
    exact ⟨by simp [Dk.may,hon,h0],rfl⟩
   ·by_cases h1:16<node
    ·go_wp2_with fail
     go_ret
     exact ⟨by simp [Dk.may,hon,h1],rfl⟩
    ·go_wp2_with fail
     go_ret
     exact ⟨by simp [Dk.may,hon,h0,h1],rfl⟩
def Dk.admits (D:Dk) (node:Nat) (epoch:Nat):Int:=if epoch=0∨D.table node≠epoch then 34 else 0
theorem dadmits_any {o:Nat→Nat} {c p:Nat} {w:World} {D:Dk} (h:DiskAt o c w p D) (node epoch:Nat) (hn:node≤16):Calls Tryz.prog 152 #[.pointer (some ⟨p,0,none⟩), .int .i64 node, .int .u64 epoch] w fun e w'=>e = .returned (.int .i64 (D.admits node epoch))∧w=w':=by
 obtain ⟨mn,ml,wv,sv,h1⟩:=h
 have ct:=h1.table node hn
 have hnI:(node:Int)<17:=by omega
 clear h1
 unfold Dk.admits
 generalize D.table node=tn at ct
 by_cases h0:epoch=0
 ·have h0I:(epoch:Int)=0:=by omega
  rw [if_pos (.inl h0)]
  go_enter Tryz.func152,Tryz.ntmps152
  go_wp2_with fail
  go_ret
  exact ⟨rfl,rfl⟩
 ·have h0I:¬(epoch:Int)=0:=by omega
  by_cases h2:tn=epoch
  ·subst h2
   rw [if_neg (by simp [h0])]
   go_enter Tryz.func152,Tryz.ntmps152
   go_wp2_with fail
   go_ret
   exact ⟨rfl,rfl⟩
  ·have h2I:((tn:Int) != (epoch:Int))=true:=by simp;omega
   rw [if_pos (.inr h2)]
   go_enter Tryz.func152,Tryz.ntmps152
   go_wp2_with fail
   go_ret
   exact ⟨rfl,rfl⟩
theorem dlast_any {o:Nat→Nat} {c p:Nat} {w:World} {D:Dk} (h:DiskAt o c w p D):Calls Tryz.prog 10 #[.pointer (some ⟨p,0,none⟩)] w fun e w'=>e = .returned (.int .u64 D.last)∧w=w':=by
 obtain ⟨mn,ml,wv,sv,h1⟩:=h
 have c1:w.cell? ⟨p,40,none⟩=some (.int .u64 D.last):=h1.blk.cell 40
 clear h1
 go_enter Tryz.func10,Tryz.ntmps10
 go_wp2_with fail
 go_ret
 exact ⟨rfl,rfl⟩
theorem dsectors_any {o:Nat→Nat} {c p:Nat} {w:World} {D:Dk} (h:DiskAt o c w p D):Calls Tryz.prog 9 #[.pointer (some ⟨p,0,none⟩)] w fun e w'=>e = .returned (.int .i64 D.sectors)∧w=w':=by
 obtain ⟨mn,ml,wv,sv,h1⟩:=h
 have c1:w.cell? ⟨p,0,none⟩=some (.int .i64 D.sectors):=h1.blk.cell 0
 clear h1
 go_enter Tryz.func9,Tryz.ntmps9
 go_wp2_with fail
 go_ret
 exact ⟨rfl,rfl⟩
def Dk.there (D:Dk) (at_ n:Int):Bool:=decide (0≤at_∧at_≤D.sectors∧n≤D.sectors - at_)
theorem dthere_any {o:Nat→Nat} {c p:Nat} {w:World} {D:Dk} (h:DiskAt o c w p D) (at_ n:Int) (hs:D.sectors≤20000):Calls Tryz.prog 26 #[.pointer (some ⟨p,0,none⟩), .int .i64 at_, .int .i64 n] w fun e w'=>e = .returned (.bool (D.there at_ n))∧w=w':=by
 obtain ⟨mn,ml,wv,sv,h1⟩:=h
 have c1:w.cell? ⟨p,0,none⟩=some (.int .i64 D.sectors):=h1.blk.cell 0
 clear h1
 unfold Dk.there
 generalize D.sectors=S at c1 hs
 by_cases h0:0≤at_
 ·by_cases h1:at_≤(S:Int)
  ·have hw:IntKind.i64.wrap ((S:Int) - at_)=(S:Int) - at_:=IntWalk.i64_in _ (by omega)
   by_cases h2:n≤(S:Int) - at_
   ·rw [decide_eq_true ⟨h0,h1,h2⟩]
    go_enter Tryz.func26,Tryz.ntmps26
    go_wp2_with fail
    go_ret
    exact ⟨rfl,rfl⟩
   ·rw [decide_eq_false (fun h=>h2 h.2.2)]
    go_enter Tryz.func26,Tryz.ntmps26
    go_wp2_with fail
    go_ret
    exact ⟨rfl,rfl⟩
  ·rw [decide_eq_false (fun h=>h1 h.2.1)]
   go_enter Tryz.func26,Tryz.ntmps26
   go_wp2_with fail
   go_ret
   exact ⟨rfl,rfl⟩
 ·rw [decide_eq_false (fun h=>h0 h.1)]
  go_enter Tryz.func26,Tryz.ntmps26
  go_wp2_with fail
  go_ret
  exact ⟨rfl,rfl⟩
end Go.Proofs.YtldoeodkeieejaaGreatDoor
namespace Go.Proofs.YtldoeodkeieejaaGreatDoor
open Go.ChangeShapes Go.WideShapes Go.ChangeAt Go.RowKit Go.Joins Go.Deep
theorem leaves_img : leaves Tryz.prog 6 47=some [.int .i64, .int .u64, .str]:=by kernel_rfl
theorem cells_img : Tryz.prog.cellsOf 47=3:=by kernel_rfl
theorem leaves_int : leaves Tryz.prog 6 3=some [.int .i64]:=by kernel_rfl
theorem cells_int : Tryz.prog.cellsOf 3=1:=by kernel_rfl
theorem ints_flat (l:List Int):l.flatMap (fun n:Int => [Value.int .i64 n])=l.map (fun n:Int=>Value.int .i64 n):=by
 induction l with
 | nil=>rfl
 | cons a l ih=>rw [List.flatMap_cons,ih];rfl
theorem flat_at {α:Type} {f:α→List Value} {s:Nat} (hs:∀x,(f x).length=s) {l:List α} {k:Nat} {y:α} (h:l[k]? = some y) {j:Nat} (hj:j<s):(l.flatMap f)[k*s+j]? = (f y)[j]? := by
 induction l generalizing k with
 | nil=>simp at h
 | cons x r ih =>
   rw [List.flatMap_cons]
   cases k with
   | zero =>
     simp at h
     subst h
     rw [List.getElem?_append_left (by rw [hs];omega)]
     simp
   | succ k =>
     have h':r[k]? = some y:=by simpa using h
     have e:(k+1)*s+j - s=k*s+j:=by rw [Nat.add_mul];omega
     rw [List.getElem?_append_right (by rw [hs,Nat.add_mul];omega),hs,e]
     exact ih h'
theorem Reads.row {α:Type} {f:α→List Value} {s:Nat} (hs:∀x,(f x).length=s) {w:World} {A:Option Addr} {l:List α} (h:Reads w s A l.length (l.flatMap f)) {k:Nat} {y:α} (hy:l[k]? = some y) :
 ∃ad,A=some ad∧∀j u,(f y)[j]? = some u→w.cell? ((ad.add (k*s)).add j)=some u:=by
 have hk:k<l.length:=(List.getElem?_eq_some_iff.1 hy).1
 obtain ⟨ad,rfl,hc⟩:=h.2 (by omega)
 refine ⟨ad,rfl,fun j u hu => ?_⟩
 rw [add_of_add]
 have hj:j<s:=by have:=(List.getElem?_eq_some_iff.1 hu).1;rwa [hs] at this
 exact hc _ u ((flat_at hs hy hj).trans hu)
theorem Reads.step {o o':Nat→Nat} {C:Nat→Prop} {w w':World} {A:Option Addr} {s n:Nat} {xs:List Value} (h:Reads w s A n xs) (hs:0<s) (hb:Step o C w o' w') (hc:∀ad,A=some ad→¬C (o ad.block)):Reads w' s A n xs:=by
 rcases Nat.eq_zero_or_pos n with h0 | h0
 ·exact ⟨h.1,fun h1=>absurd h1 (by omega)⟩
 ·exact h.keep_ (fun ad had=>hb.block _ (h.lt hs ad h0 had) (hc ad had))
theorem toList_loop (b:ByteArray) (i:Nat) (r:List UInt8):ByteArray.toList.loop b i r=r.reverse++b.data.toList.drop i:=by
 unfold ByteArray.toList.loop
 split
 ·rename_i h
  rw [toList_loop b (i+1)]
  have h':i<b.data.toList.length:=h
  rw [List.drop_eq_getElem_cons h',List.reverse_cons,List.append_assoc]
  congr 2
  rw [List.singleton_append]
  congr 1
  show b.data[i]! = _
  rw [getElem!_pos b.data i h]
  rfl
 ·rename_i h
  rw [List.drop_of_length_le (Nat.le_of_not_lt h),List.append_nil]
termination_by b.size - i
theorem toList_data (b:ByteArray):b.toList=b.data.toList:=by
 unfold ByteArray.toList
 rw [toList_loop]
 simp
theorem str_neq {a b:ByteArray} (h:a≠b):(a.toList == b.toList)=false:=by
 refine beq_eq_false_iff_ne.2 (fun e=>h ?_)
 rw [toList_data,toList_data] at e
 cases a;cases b
 congr 1
 exact Array.toList_inj.1 e
def Ws.zero : Ws:=⟨0,0,0,⟨#[]⟩⟩
def Dk.keep (D:Dk) (x:Ws):Dk:=if ((D.lasts x.at_).getD Ws.zero).seq<x.seq then {D with lasts:=upd D.lasts x.at_ x} else D
theorem zero_ws (w:World):(zeroValue 153).run Tryz.prog w = .ok (.agg #[.int .i64 0, .int .i64 0, .int .i64 0, .string ⟨#[]⟩]) w:=by kernel_rfl
theorem lasts_upd (f:Int→Option Ws) (k:Int) (x:Ws):upd (fun k=>(f k).map Ws.agg) k x.agg=fun j=>(upd f k x j).map Ws.agg:=by
 funext j
 unfold upd
 split <;> rfl
theorem DiskIn.lasts_put {o:Nat→Nat} {c p:Nat} {w:World} {D:Dk} {mn ml:Nat} {wv sv:Value} (h:DiskIn o c w p D mn ml wv sv) (x:Ws) :
 ∃w',(Instr.mapUpdate 77 (.map (some ml)) (.int .i64 x.at_) x.agg).run Tryz.prog w = .ok () w'∧DiskIn o c w' p {D with lasts:=upd D.lasts x.at_ x} mn ml wv sv∧Step o (only (c+2)) w o w'∧∀g t cs,Blk w g t cs→Blk w' g t cs:=by
 obtain ⟨w',h1,h2,h3,h4⟩:=h.lasts.put Tryz.underlying77 Tryz.underlying3 x.at_ x.agg
 rw [lasts_upd] at h2
 exact ⟨w',h1,⟨h.blk.step h3 (by rw [h.col];unfold only;omega),h.col,h.now.step h3 (by unfold only;omega),h2,h.waits.step h3 (by unfold only;omega),h.stays.step h3 (by unfold only;omega)⟩,h3,h4⟩
theorem lasts_get (l:Option Ws):(l.map Ws.agg).getD (.agg #[.int .i64 0, .int .i64 0, .int .i64 0, .string ⟨#[]⟩])=(l.getD Ws.zero).agg:=by
 cases l <;> rfl
theorem DiskIn.drew {o:Nat→Nat} {c p:Nat} {w:World} {D:Dk} {mn ml:Nat} {wv sv:Value} (h:DiskIn o c w p D mn ml wv sv):DiskIn o c w.drew p D mn ml wv sv:=h.step (Step.of_below o (fun _=>False) ⟨rfl,rfl,rfl,Nat.le_refl _,fun _ _=>rfl⟩) (fun _ _ _=>id)
theorem field_ws (a b q d:Value) (hq:∃z,q = .int .i64 z) (W:World):(Instr.field 153 (.agg #[a,b,q,d]) 2).run Tryz.prog W = .ok q W:=by
 obtain ⟨z,rfl⟩:=hq
 kernel_rfl
set_option maxRecDepth 100000 in
set_option maxHeartbeats 1000000 in
theorem dkeep_in {o:Nat→Nat} {c p:Nat} {w:World} {D:Dk} {mn ml:Nat} {wv sv:Value} (h1:DiskIn o c w p D mn ml wv sv) (x:Ws):Calls Tryz.prog 165 #[.pointer (some ⟨p,0,none⟩), .agg #[.int .i64 x.node, .int .i64 x.at_, .int .i64 x.seq, .string x.data]] w fun e w'=>e = .returned (.tuple #[])∧DiskIn o c w' p (D.keep x) mn ml wv sv∧Step o (only (c+2)) w o w':=by
 have ha:DiskIn o c (w.alloc (.cells #[.int .i64 x.node, .int .i64 x.at_, .int .i64 x.seq, .string x.data] 153)) p D mn ml wv sv:=h1.step ((Step.refl o (fun _=>False) w).alloc _) (fun _ _ _=>id)
 have hx:=Blk.new w 153 #[.int .i64 x.node, .int .i64 x.at_, .int .i64 x.seq, .string x.data]
 obtain ⟨y,hy⟩:∃y,(D.lasts x.at_).getD Ws.zero=y:=⟨_,rfl⟩
 have HZ:=Lib.hid hy
 have hlook:∀n,(Instr.lookup 77 (.map (some ml)) (.int .i64 x.at_) false).run Tryz.prog ((w.alloc (.cells #[.int .i64 x.node, .int .i64 x.at_, .int .i64 x.seq, .string x.data] 153)).drewN n) = .ok (.agg #[.int .i64 y.node, .int .i64 y.at_, .int .i64 y.seq, .string y.data]) ((w.alloc (.cells #[.int .i64 x.node, .int .i64 x.at_, .int .i64 x.seq, .string x.data] 153)).drewN n):=fun n=>by
  have:=(ha.lasts.drewN n).look Tryz.underlying77 Tryz.underlying3 (zero_ws _) x.at_ false
  rw [lasts_get,hy] at this
  exact this
 have HX:=Lib.hid hx
 have HA:=Lib.hid ha
 have c4:(w.alloc (.cells #[.int .i64 x.node, .int .i64 x.at_, .int .i64 x.seq, .string x.data] 153)).cell? ⟨p,4,none⟩=some (.map (some ml)):=ha.blk.cell 4
 clear h1 ha hx hy
 go_enter Tryz.func165,Tryz.ntmps165
 go_wp2_with fail
 have HWS:=Lib.hid ((Step.refl o (only (c+2)) w).alloc (.cells #[.int .i64 x.node, .int .i64 x.at_, .int .i64 x.seq, .string x.data] 153))
 generalize w.alloc (.cells #[.int .i64 x.node, .int .i64 x.at_, .int .i64 x.seq, .string x.data] 153)=W at hlook HA HX c4 HWS ⊢
 have x0:=HX.out.cell 0
 have x1:=HX.out.cell 1
 have x2:=HX.out.cell 2
 have x3:=HX.out.cell 3
 simp at x0 x1 x2 x3
 have hlookD:=hlook 1
 rw [show W.drewN 1=W.drew from rfl] at hlookD
 have hfld:=fun W=>field_ws (.int .i64 y.node) (.int .i64 y.at_) (.int .i64 y.seq) (.string y.data) ⟨_,rfl⟩ W
 go_region_held3 (fun w'=>w'.cell? ⟨p,4,none⟩=some (.map (some ml))∧w'.cell? ⟨w.heap.size,1,none⟩=some (.int .i64 x.at_)∧w'.cell? ⟨w.heap.size,2,none⟩=some (.int .i64 x.seq))
  (first | exact ⟨c4,x1,x2⟩ | go_keep)
  (fail)
 by_cases hlt:y.seq<x.seq
 ·obtain ⟨w6,hupd,hd6,hs6,hsz⟩:=(show DiskIn o c W.drew.drew p D mn ml wv sv from HA.out.step (Step.of_below o (fun _=>False) ⟨rfl,rfl,rfl,Nat.le_refl _,fun _ _=>rfl⟩) (fun _ _ _=>id)).lasts_put x
  unfold Ws.agg at hupd
  have k4:w6.cell? ⟨p,4,none⟩=some (.map (some ml)):=hd6.blk.cell 4
  have hx6:Blk w6 w.heap.size 153 #[.int .i64 x.node, .int .i64 x.at_, .int .i64 x.seq, .string x.data]:=hsz _ _ _ HX.out
  have k0:=hx6.cell 0
  have k1:=hx6.cell 1
  have k2:=hx6.cell 2
  have k3:=hx6.cell 3
  simp at k0 k1 k2 k3
  have HF:=Lib.hid (show DiskIn o c w6 p (D.keep x) mn ml wv sv from by rw [show D.keep x = {D with lasts:=upd D.lasts x.at_ x} from if_pos (by rw [HZ.out];exact hlt)];exact hd6)
  have HS:=Lib.hid hs6
  clear hd6 hs6 hsz hx6 hlook hlookD hfld
  go_wp2_with fail
  go_region_held3 (fun w'=>w'.cell? ⟨p,4,none⟩=some (.map (some ml))∧w'.cell? ⟨w.heap.size,0,none⟩=some (.int .i64 x.node)∧w'.cell? ⟨w.heap.size,1,none⟩=some (.int .i64 x.at_)∧w'.cell? ⟨w.heap.size,2,none⟩=some (.int .i64 x.seq)∧w'.cell? ⟨w.heap.size,3,none⟩=some (.string x.data))
   (first | exact ⟨c4,x0,x1,x2,x3⟩ | exact ⟨k4,k0,k1,k2,k3⟩ | go_keep)
   (fail)
  go_end0
  exact ⟨rfl,HF.out,HWS.out.trans HS.out.of_drew.of_drew⟩
 ·have HF:=Lib.hid (show DiskIn o c W.drew p (D.keep x) mn ml wv sv from by rw [show D.keep x=D from if_neg (by rw [HZ.out];exact hlt)];exact HA.out.drew)
  clear hlook hlookD hfld
  go_wp2_with fail
  go_end0
  exact ⟨rfl,HF.out,HWS.out.drew⟩
def Dk.settle (D:Dk) (node:Int):Dk := {(D.waits.filter (fun x=>x.node=node)).foldl Dk.keep D with waits:=D.waits.filter (fun x=>¬x.node=node)}
theorem keep_waits (D:Dk) (x:Ws):(D.keep x).waits=D.waits:=by unfold Dk.keep;split <;> rfl
theorem keeps_waits (l:List Ws):∀D:Dk,(l.foldl Dk.keep D).waits=D.waits:=by
 induction l with
 | nil=>intro D;rfl
 | cons x l ih=>intro D;rw [List.foldl_cons,ih,keep_waits]
theorem ws_one (l:List Ws):∀u∈l.flatMap Ws.cells,u.oneCell'=true:=by
 intro u hu
 simp only [List.mem_flatMap,Ws.cells,List.mem_cons,List.not_mem_nil,or_false] at hu
 obtain ⟨x,_,rfl | rfl | rfl | rfl⟩:=hu <;> rfl
theorem info_ws : (Tryz.prog.info? 153).map (fun i=>(i.zero,i.size,i.bytes))=some (some (.agg #[.int .i64 0, .int .i64 0, .int .i64 0, .string ⟨#[]⟩]),4,40):=by kernel_rfl
theorem Reads.wrow {w:World} {A:Option Addr} {l:List Ws} (h:Reads w 4 A l.length (l.flatMap Ws.cells)) {k:Nat} {y:Ws} (hy:l[k]? = some y) :
 ∃ad,A=some ad∧w.cell? (ad.add (k*4))=some (.int .i64 y.node)∧w.cell? ⟨(ad.add (k*4)).block,(ad.add (k*4)).off+1,none⟩=some (.int .i64 y.at_)∧w.cell? ⟨(ad.add (k*4)).block,(ad.add (k*4)).off+2,none⟩=some (.int .i64 y.seq)∧w.cell? ⟨(ad.add (k*4)).block,(ad.add (k*4)).off+3,none⟩=some (.string y.data):=by
 obtain ⟨ad,rfl,hc⟩:=Reads.row (f:=Ws.cells) (fun _=>rfl) h hy
 exact ⟨ad,rfl,hc 0 _ rfl,hc 1 _ rfl,hc 2 _ rfl,hc 3 _ rfl⟩
structure SetAt (o o':Nat→Nat) (c:Nat) (w wr:World) (p:Nat) (D:Dk) (mn ml:Nat) (wv sv:Value) (node:Int) (k n:Nat) (V:Value):Prop where
 disk:DiskIn o' c wr p (((D.waits.take k).filter (fun x=>x.node=node)).foldl Dk.keep D) mn ml wv sv
 len:n=((D.waits.take k).filter (fun x=>¬x.node=node)).length
 left:OwnS o' (c+5) wr 153 4 V n (((D.waits.take k).filter (fun x=>¬x.node=node)).flatMap Ws.cells)
 new:∀g,V.ownBlock=some g→w.heap.size≤g
 step:Step o (six c) w o' wr
section
variable {o o' o2:Nat→Nat} {c p mn ml k n:Nat} {w wr w2:World} {D:Dk} {wv sv V:Value} {node:Int} {x:Ws}
theorem take_more (hx:D.waits[k]? = some x):D.waits.take (k+1)=D.waits.take k ++ [x]:=by rw [List.take_add_one,hx];rfl
theorem SetAt.row (h:SetAt o o' c w wr p D mn ml wv sv node k n V) {A:Option Addr} {cap:Nat} (hv:wv = .slice A D.waits.length cap):Reads wr 4 A D.waits.length (D.waits.flatMap Ws.cells):=by
 have:=h.disk.waits
 rw [keeps_waits,hv] at this
 exact OwnW.reads this
theorem SetAt.kept (h:SetAt o o' c w wr p D mn ml wv sv node k n V) (hx:D.waits[k]? = some x) (hn:x.node=node) (hd:DiskIn o' c w2 p ((((D.waits.take k).filter (fun x=>x.node=node)).foldl Dk.keep D).keep x) mn ml wv sv) (hs:Step o' (only (c+2)) wr o' w2):SetAt o o' c w w2 p D mn ml wv sv node (k+1) n V:=by
 have e1:(D.waits.take (k+1)).filter (fun x=>x.node=node)=(D.waits.take k).filter (fun x=>x.node=node) ++ [x]:=by rw [take_more hx,List.filter_append];simp [hn]
 have e2:(D.waits.take (k+1)).filter (fun x=>¬x.node=node)=(D.waits.take k).filter (fun x=>¬x.node=node):=by rw [take_more hx,List.filter_append];simp [hn]
 refine ⟨?_,by rw [e2];exact h.len,by rw [e2];exact h.left.step hs (by unfold only;omega),h.new,h.step.trans (hs.mono (fun y hy=>by unfold only at hy;unfold six;omega))⟩
 rw [e1,List.foldl_append]
 exact hd
theorem SetAt.more {V2:Value} (h:SetAt o o' c w wr p D mn ml wv sv node k n V) (hx:D.waits[k]? = some x) (hn:¬x.node=node) (ho:OwnS o2 (c+5) w2 153 4 V2 (n+1) (((D.waits.take k).filter (fun x=>¬x.node=node)).flatMap Ws.cells ++ [.int .i64 x.node, .int .i64 x.at_, .int .i64 x.seq, .string x.data])) (hs:Step o' (only (c+5)) wr o2 w2) (hat:V2.ownBlock=V.ownBlock∨V2.ownBlock=some wr.heap.size):SetAt o o2 c w w2 p D mn ml wv sv node (k+1) (n+1) V2:=by
 have e1:(D.waits.take (k+1)).filter (fun x=>x.node=node)=(D.waits.take k).filter (fun x=>x.node=node):=by rw [take_more hx,List.filter_append];simp [hn]
 have e2:(D.waits.take (k+1)).filter (fun x=>¬x.node=node)=(D.waits.take k).filter (fun x=>¬x.node=node) ++ [x]:=by rw [take_more hx,List.filter_append];simp [hn]
 refine ⟨by rw [e1];exact h.disk.step hs (fun y h1 h2=>by unfold only;omega),by rw [e2,List.length_append,←h.len];rfl,?_,fun g hg => ?_,h.step.trans (hs.mono (fun y hy=>by unfold only at hy;unfold six;omega))⟩
 ·rw [e2,List.flatMap_append]
  exact ho
 ·rcases hat with e | e
  ·exact h.new g (e▸hg)
  ·rw [e] at hg
   injection hg with hg
   have:=h.step.size
   omega
theorem SetAt.alloc (h:SetAt o o' c w wr p D mn ml wv sv node k n V) (y:Obj):SetAt o o' c w (wr.alloc y) p D mn ml wv sv node k n V :=
 ⟨h.disk.step ((Step.refl o' (fun _=>False) wr).alloc y) (fun _ _ _=>id),h.len,h.left.alloc y,h.new,h.step.alloc y⟩
theorem SetAt.done (h:SetAt o o' c w wr p D mn ml wv sv node D.waits.length n V):∃o2,DiskAt o2 c (wr.setCell ⟨p,5,none⟩ V) p (D.settle node)∧Step o (six c) w o2 (wr.setCell ⟨p,5,none⟩ V):=by
 have hd:=h.disk
 have hl:=h.left
 have hlen:=h.len
 rw [List.take_length] at hd hl hlen
 have hs:Step o' (only c) wr o' (wr.setCell ⟨p,5,none⟩ V):=(Step.refl o' (only c) wr).setCell (p:=⟨p,5,none⟩) hd.col V
 have hne:∀k,o' k≠c+5→(if V.ownBlock=some k then c+3 else o' k)=o' k:=fun k hk=>if_neg (fun e=>hk (hl.2 k e))
 refine ⟨fun k=>if V.ownBlock=some k then c+3 else o' k,⟨mn,ml,V,sv,⟨hd.blk.set_ 5 V,(hne p (by rw [hd.col];omega)).trans hd.col,?_,?_,?_,?_⟩⟩,?_⟩
 ·have h1:=hd.now.step hs (by unfold only;omega)
  exact h1.heap rfl (hne mn (by rw [h1.1];omega))
 ·have h1:=hd.lasts.step hs (by unfold only;omega)
  exact h1.heap rfl (hne ml (by rw [h1.1];omega))
 ·have h1:=hl.step hs (by unfold only;omega)
  refine OwnW.of_own ⟨?_,fun g hg=>if_pos hg⟩
  have e:(D.settle node).waits.length=n:=hlen.symm
  rw [e]
  exact h1.1
 ·have h1:=hd.stays.step hs (by unfold only;omega)
  rw [show (List.foldl Dk.keep D (List.filter (fun x=>decide (x.node=node)) D.waits)).stays=(D.settle node).stays from rfl] at h1
  exact h1.heap (fun _ _=>rfl) (fun g hg=>hne g (by rw [(h1.lt g hg).2];omega))
 ·have h2:=h.step.trans (hs.mono (fun y hy=>by unfold only at hy;unfold six;omega:∀y,only c y→six c y))
  refine ⟨h2.os,h2.tape,h2.output,h2.size,fun k hk => ?_,fun k hk => ?_,h2.block⟩
  ·refine Eq.trans (if_neg (fun e => ?_)) (h2.old k hk)
   have:=h.new k e
   omega
  ·refine Eq.trans (if_neg (fun e => ?_)) (h2.fut k hk)
   have h3:=hl.lt k e
   have:(wr.setCell ⟨p,5,none⟩ V).heap.size=wr.heap.size:=by simp [World.setCell]
   omega
end
set_option maxRecDepth 100000 in
set_option maxHeartbeats 2000000 in
theorem dsettle_any {o:Nat→Nat} {c p:Nat} {w:World} {D:Dk} (h:DiskAt o c w p D) (node:Int) (hl:D.waits.length≤1000000):Calls Tryz.prog 153 #[.pointer (some ⟨p,0,none⟩), .int .i64 node] w fun e w'=>e = .returned (.tuple #[])∧∃o',DiskAt o' c w' p (D.settle node)∧Step o (six c) w o' w':=by
 obtain ⟨mn,ml,wv,sv,h1⟩:=h
 obtain ⟨i0,hi,hz0,hz1,hz2⟩:=info_parts info_ws
 obtain ⟨A5,cap5,e5,hc5,_⟩:=h1.waits.form
 subst e5
 have c5:w.cell? ⟨p,5,none⟩=some (.slice A5 D.waits.length cap5):=h1.blk.cell 5
 have H:=Lib.hid h1
 have HS0:=Lib.hid (show SetAt o o c w w p D mn ml (.slice A5 D.waits.length cap5) sv node 0 0 (.slice none 0 0) from ⟨by simpa using h1,by simp,by simpa using OwnS.nil o (c+5) w 153 4,by simp [Value.ownBlock],Step.refl _ _ _⟩)
 clear h1
 go_enter Tryz.func153,Tryz.ntmps153
 go_wp2_with fail
 clear c5
 go_loopw [4,12] (fun t4 t12 wr=>∃(k n:Nat) (A:Option Addr) (cap:Nat) (o':Nat→Nat),k≤D.waits.length∧n≤k∧t4 = .slice A n cap∧t12 = .int .i64 k∧SetAt o o' c w wr p D mn ml (.slice A5 D.waits.length cap5) sv node k n (.slice A n cap)) (fun _ t12 _=>D.waits.length - (intOf t12).toNat)
 case atStart=>exact ⟨0,0,none,0,o,by omega,by omega,rfl,rfl,HS0.out⟩
 case round =>
  obtain ⟨k,n,A,cap,o1,hk,hnk,rfl,rfl,hsa⟩:=hrel
  have HSA:=Lib.hid hsa
  clear hsa
  by_cases hlt:k<D.waits.length
  ·have hltI:(k:Int)<(D.waits.length:Int):=by omega
   obtain ⟨x,hx⟩:∃x,D.waits[k]? = some x:=⟨_,List.getElem?_eq_getElem hlt⟩
   obtain ⟨ad,rfl,c0,c1,c2,c3⟩:=Reads.wrow (HSA.out.row rfl) hx
   have HX:=Lib.hid hx
   clear hx
   by_cases hn:x.node=node
   ·have hnB:(x.node == node)=true:=by simp [hn]
    have HNN:=Lib.hid hn
    clear hn
    go_wp2_with fail
    refine (dkeep_in (HSA.out.alloc (.cells #[.int .i64 x.node, .int .i64 x.at_, .int .i64 x.seq, .string x.data] 153)).disk x).mono ?_
    rintro e w2 ⟨rfl,hd2,hs2⟩
    have HN:=Lib.hid ((HSA.out.alloc (.cells #[.int .i64 x.node, .int .i64 x.at_, .int .i64 x.seq, .string x.data] 153)).kept HX.out HNN.out hd2 hs2)
    clear hd2 hs2 c0 c1 c2 c3
    go_wp2_with fail
    go_roundw
    case rel=>exact ⟨k+1,n,A,cap,o1,by omega,by omega,by go_num,by go_num,HN.out⟩
    case measure=>simp [intOf];omega
   ·have hnB:(x.node == node)=false:=by simp [hn]
    have HNN:=Lib.hid hn
    clear hn
    go_wp2_with (at_builtin;refine wpList_append_S _ rfl (.tmp 23) (.tmp 25) 78 rfl 153 i0 _ 4 40 Tryz.underlying78 hi hz0 hz1 hz2 rfl (by omega) (.slice A n cap) n _ rfl ((HSA.out.alloc (.cells #[.int .i64 x.node, .int .i64 x.at_, .int .i64 x.seq, .string x.data] 153)).alloc (.cells #[.int .i64 x.node, .int .i64 x.at_, .int .i64 x.seq, .string x.data] 153)).left _ 1 1 [.int .i64 x.node, .int .i64 x.at_, .int .i64 x.seq, .string x.data] rfl (Reads.newAt _ 153 4 1 _ _ _ (by simp) rfl rfl) (by simp [Value.oneCell']) (by unfold maxLen;omega) (by omega) ?_;intro v2 w2 hown hst hg hat;obtain ⟨A2,cap2,rfl,_,_⟩:=(OwnW.of_own hown).form;have HN:=Lib.hid (((HSA.out.alloc (.cells #[.int .i64 x.node, .int .i64 x.at_, .int .i64 x.seq, .string x.data] 153)).alloc (.cells #[.int .i64 x.node, .int .i64 x.at_, .int .i64 x.seq, .string x.data] 153)).more HX.out HNN.out hown hst hat);clear hown hst hg hat)
    go_roundw
    case rel=>exact ⟨k+1,n+1,A2,cap2,_,by omega,by omega,by go_num,by go_num,HN.out⟩
    case measure=>simp [intOf];omega
  ·have hltI:¬(k:Int)<(D.waits.length:Int):=by omega
   obtain rfl:k=D.waits.length:=by omega
   have y5:wr.cell? ⟨p,5,none⟩=some (.slice A5 D.waits.length cap5):=HSA.out.disk.blk.cell 5
   have f5:=HSA.out.disk.blk.frozen 5
   have HF:=Lib.hid HSA.out.done
   go_wp2_with fail
   go_end0
   exact ⟨rfl,HF.out⟩
end Go.Proofs.YtldoeodkeieejaaGreatDoor
namespace Go.Proofs.YtldoeodkeieejaaGreatDoor
open Go.RowKit Go.MapKept
theorem alloc_as (o:Nat→Nat) (w:World) (x:Obj) (c:Nat):∃o2,o2 w.heap.size=c∧Step o (fun _=>False) w o2 (w.alloc x):=by
 refine ⟨fun k=>if k=w.heap.size then c else o k,by simp,rfl,rfl,rfl,by simp,fun k hk=>if_neg (by omega),fun k hk=>if_neg (by simp at hk;omega),fun k hk _=>Below.heap_alloc _ _ _ hk⟩
theorem map_inj {α β:Type} {f:α→β}:∀ {l:List α},(l.map f).Nodup→∀ {x y:α},x∈l→y∈l→f x=f y→x=y
 | a :: l,hn,x,y,hx,hy,e=>by
   have hn':=List.nodup_cons.1 hn
   rcases List.mem_cons.1 hx with hx1 | hx1
   ·rcases List.mem_cons.1 hy with hy1 | hy1
    ·rw [hx1,hy1]
    ·exact absurd (List.mem_map.2 ⟨y,hy1,by rw [←e,hx1]⟩) hn'.1
   ·rcases List.mem_cons.1 hy with hy1 | hy1
    ·exact absurd (List.mem_map.2 ⟨x,hx1,by rw [e,hy1]⟩) hn'.1
    ·exact map_inj hn'.2 hx1 hy1 e
def IterR (o:Nat→Nat) (d:Nat) (w:World) (r m:Nat) (f:Int→Option Value) (left:Int→Bool) (n:Nat):Prop :=
 o r=d∧∃es clock since seen c0,w.heap[r]? = some (.mapIter (some m) since seen c0)∧w.heap[m]? = some (.map es clock)∧Stamped es clock∧(∀x∈es.toList,IsKey (.int .i64) x.key)∧EsR es f∧(∀x∈es.toList,x.born<since)∧since≤c0∧since≤clock∧n=(leftOf es seen).size ∧
  ∀x∈es.toList,∀k,x.key = .int .i64 k→(left k=true↔seen.contains x.born=false)
section
variable {o o':Nat→Nat} {C:Nat→Prop} {c d:Nat} {w w':World} {r m n:Nat} {f:Int→Option Value} {left:Int→Bool} {P:Program}
theorem IterR.lt (h:IterR o d w r m f left n):r<w.heap.size∧m<w.heap.size:=by
 obtain ⟨_,es,clock,since,seen,c0,h1,h2,_⟩:=h
 exact ⟨(Array.getElem?_eq_some_iff.1 h1).1,(Array.getElem?_eq_some_iff.1 h2).1⟩
theorem IterR.step (h:IterR o d w r m f left n) (hs:Step o C w o' w') (h0:¬C d) (hm:¬C (o m)):IterR o' d w' r m f left n:=by
 obtain ⟨l1,l2⟩:=h.lt
 obtain ⟨a,es,clock,since,seen,c0,h1,h2,h3⟩:=h
 exact ⟨(hs.old r l1).trans a,es,clock,since,seen,c0,(hs.block r l1 (by rw [a];exact h0)).trans h1,(hs.block m l2 hm).trans h2,h3⟩
theorem IterR.start (h:MapR o c w m f) {t kt e:TypeId} (ht:P.underlying t=some (.map kt e)) (d:Nat):∃(x:Obj) (n:Nat) (o2:Nat→Nat),(Instr.range t (.map (some m))).run P w = .ok (.pointer (some ⟨w.heap.size,0,none⟩)) (w.alloc x)∧IterR o2 d (w.alloc x) w.heap.size m f (fun _=>true) n∧Step o (fun _=>False) w o2 (w.alloc x):=by
 obtain ⟨_,es,clock,h1,hst,hk,hes⟩:=h
 obtain ⟨o2,h0,hs2⟩:=alloc_as o w (.mapIter (some m) clock #[] clock) d
 refine ⟨.mapIter (some m) clock #[] clock,_,o2,run_range_map w t kt e m es clock ht h1,⟨h0,es,clock,clock,#[],clock,heap_alloc_new w _,?_,hst,hk,hes,hst.1,Nat.le_refl _,Nat.le_refl _,rfl,fun x _ k _ => ?_⟩,hs2⟩
 ·rw [heap_alloc_old w _ (Array.getElem?_eq_some_iff.1 h1).1]
  exact h1
 ·simp
theorem key_of {x:MapEntry} (h:IsKey (.int .i64) x.key):∃k,x.key = .int .i64 k:=by
 revert h
 cases hxk:x.key with
 | int kd a=>cases kd <;> simp [IsKey]
 | _=>simp [IsKey]
theorem next_ty {a:Option Nat} {b d:Nat} {sn:Array Nat} (h1:w.heap[r]? = some (.mapIter a b sn d)) (ty ty':TypeId):(Instr.next (.pointer (some ⟨r,0,none⟩)) false ty).run P w=(Instr.next (.pointer (some ⟨r,0,none⟩)) false ty').run P w:=by
 simp only [Instr.next,getObj,Sem.run_bind,Sem.run,h1,Result.andThen]
theorem IterR.next (h:IterR o d w r m f left n) :
 ((∀k,left k=true→f k=none)∧∀ty,(Instr.next (.pointer (some ⟨r,0,none⟩)) false ty).run P w = .ok (.tuple #[.bool false]) w) ∨
 ∃(k:Int) (v:Value) (w1:World) (n1:Nat),f k=some v∧left k=true∧(∀ty,(Instr.next (.pointer (some ⟨r,0,none⟩)) false ty).run P w = .ok (.tuple #[.bool true, .int .i64 k,v]) w1)∧IterR o d w1 r m f (fun j=>left j && decide (j≠k)) n1∧n1<n∧Step o (only d) w o w1 ∧
  (Instr.entry (.pointer (some ⟨r,0,none⟩))).run P w1 = .ok (.tuple #[.int .i64 k,v]) w1:=by
 obtain ⟨a,es,clock,since,seen,c0,h1,h2,hst,hk,hes,hold,hsc,hcl,hn,hl⟩:=h
 have hmr:r≠m:=by
  rintro rfl
  rw [h1] at h2
  cases h2
 rcases run_next_at (P:=P) w 0 r m since c0 seen es clock h1 h2 hold hsc with ⟨hz,hr⟩ | ⟨e,he,w1,hw1,hr⟩
 ·left
  refine ⟨fun k hk2 => ?_,fun ty=>(next_ty h1 ty 0).trans hr⟩
  cases hfk:f k with
  | none=>rfl
  | some v =>
    obtain ⟨x,hx,e1,_⟩:=(hes k v).1 hfk
    have h3:=(hl x hx k e1).1 hk2
    have:x∈(leftOf es seen):=Array.mem_filter.2 ⟨Array.mem_toList_iff.1 hx,by rw [h3];rfl⟩
    have h4:=Array.size_pos_of_mem this
    omega
 ·right
  obtain ⟨m1,m2⟩:=mem_left he
  obtain ⟨k,ek⟩:=key_of (hk e m1)
  rw [ek] at hr
  have h1':w1.heap[r]? = some (.mapIter (some m) since seen c0):=by rcases hw1 with rfl | rfl <;> exact h1
  have h2':w1.heap[m]? = some (.map es clock):=by rcases hw1 with rfl | rfl <;> exact h2
  have hs1:Step o (only d) w o w1:=by
   rcases hw1 with rfl | rfl
   ·exact Step.refl _ _ _
   ·exact (Step.refl _ _ _).drew
  have lt1:=(Array.getElem?_eq_some_iff.1 h1').1
  have hsr:(Go.ChangeMaps.setBlock w1 r (.mapIter (some m) since (seen.push e.born) clock)).heap[r]? = some (.mapIter (some m) since (seen.push e.born) clock):=by
   show (w1.heap.setIfInBounds r _)[r]? = _
   rw [Array.getElem?_setIfInBounds_self_of_lt lt1]
  have hsm:(Go.ChangeMaps.setBlock w1 r (.mapIter (some m) since (seen.push e.born) clock)).heap[m]? = some (.map es clock):=by
   show (w1.heap.setIfInBounds r _)[m]? = _
   rw [Array.getElem?_setIfInBounds,if_neg hmr]
   exact h2'
  refine ⟨k,e.val,_,_,(hes k e.val).2 ⟨e,m1,ek,rfl⟩,(hl e m1 k ek).2 m2,fun ty=>(next_ty h1 ty 0).trans hr,⟨a,es,clock,since,seen.push e.born,clock,hsr,hsm,hst,hk,hes,hold,hcl,hcl,rfl,?_⟩,?_,hs1.trans (setHeap_step a _),?_⟩
  ·intro x hx j hj
   rw [contains_push]
   have hb:(x.born == e.born)=decide (j=k):=by
    by_cases hjk:j=k
    ·subst hjk
     rw [map_inj hst.2.2 hx m1 (hj.trans ek.symm)]
     simp
    ·have:x.born≠e.born:=fun e0=>hjk (by
      have:=map_inj hst.2.1 hx m1 e0
      subst this
      rw [hj] at ek
      injection ek)
     simp [hjk,this]
   rw [hb,Bool.and_eq_true,hl x hx j hj]
   by_cases hjk:j=k <;> simp [hjk]
  ·rw [hn]
   exact left_shrinks es seen e he
  ·rw [←ek]
   exact run_entry_at _ r m since seen es clock e hsr hsm m1 hst.2.1
end
end Go.Proofs.YtldoeodkeieejaaGreatDoor
namespace Go.Proofs
open Go.Shelf
def Tryz.laysCl_ren : Go.Shelf.Ren:=⟨fun | 15=>24 | n=>n,fun | 22=>41 | 3=>3 | 4=>4 | n=>n,fun | n=>n⟩
theorem Tryz.laysCl : Go.Proofs.Lays2.n15 Tryz.prog Tryz.laysCl_ren := {
 mixed:=by kernel_rfl
 f15:=Tryz.func24.trans (congrArg some (by kernel_rfl))
 t3:=Tryz.underlying3
 a3:=Tryz.isAgg3
 z3:=Tryz.sizeOf3
 v3:=Tryz.zeroValue3
 t4:=Tryz.underlying4
 a4:=Tryz.isAgg4
 z4:=Tryz.sizeOf4
 v4:=Tryz.zeroValue4
 t22:=Tryz.underlying41
 a22:=Tryz.isAgg41
 z22:=Tryz.sizeOf41
 v22:=Tryz.zeroValue41
 i3:=by kernel_rfl}
end Go.Proofs
namespace Go.Proofs.YtldoeodkeieejaaGreatDoor
open Go.RowKit
theorem DiskIn.set_ {o:Nat→Nat} {c p:Nat} {w:World} {D D2:Dk} {mn ml:Nat} {wv sv:Value} (h:DiskIn o c w p D mn ml wv sv) (i:Nat) (v:Value) (hc:(D.cells mn ml wv sv).setIfInBounds i v=D2.cells mn ml wv sv) (h1:D2.now=D.now) (h2:D2.lasts=D.lasts) (h3:D2.waits=D.waits) (h4:D2.stays=D.stays) :
 DiskIn o c (w.setCell ⟨p,i,none⟩ v) p D2 mn ml wv sv∧Step o (only c) w o (w.setCell ⟨p,i,none⟩ v):=by
 have hs:Step o (only c) w o (w.setCell ⟨p,i,none⟩ v):=(Step.refl o (only c) w).setCell (p:=⟨p,i,none⟩) h.col v
 refine ⟨⟨?_,h.col,?_,?_,?_,?_⟩,hs⟩
 ·rw [←hc]
  exact h.blk.set_ i v
 ·rw [h1]
  exact h.now.step hs (by unfold only;omega)
 ·rw [h2]
  exact h.lasts.step hs (by unfold only;omega)
 ·rw [h3]
  exact h.waits.step hs (by unfold only;omega)
 ·rw [h4]
  exact h.stays.step hs (by unfold only;omega)
theorem only_six (c:Nat):∀x,only c x→six c x:=by unfold only six;omega
theorem now_upd (f:Int→Option ByteArray) (k:Int) (s:ByteArray):upd (fun k=>(f k).map .string) k (.string s)=fun j=>(upd f k s j).map Value.string:=by
 funext j
 unfold upd
 split <;> rfl
theorem DiskIn.now_put {o:Nat→Nat} {c p:Nat} {w:World} {D:Dk} {mn ml:Nat} {wv sv:Value} (h:DiskIn o c w p D mn ml wv sv) (k:Int) (s:ByteArray) :
 ∃w',(Instr.mapUpdate 76 (.map (some mn)) (.int .i64 k) (.string s)).run Tryz.prog w = .ok () w'∧DiskIn o c w' p {D with now:=upd D.now k s} mn ml wv sv∧Step o (only (c+1)) w o w'∧∀g t cs,Blk w g t cs→Blk w' g t cs:=by
 obtain ⟨w',h1,h2,h3,h4⟩:=h.now.put Tryz.underlying76 Tryz.underlying3 k (.string s)
 rw [now_upd] at h2
 exact ⟨w',h1,⟨h.blk.step h3 (by rw [h.col];unfold only;omega),h.col,h2,h.lasts.step h3 (by unfold only;omega),h.waits.step h3 (by unfold only;omega),h.stays.step h3 (by unfold only;omega)⟩,h3,h4⟩
theorem own_from {o:Nat→Nat} {c B n size:Nat} {w:World} {e:TypeId} {v:Value} {xs:List Value} (h:w.ownsRow B e size v n xs) (hz:∀g,B≤g→o g=c):OwnS o c w e size v n xs:=by
 obtain ⟨h1,h2⟩:=h
 rcases h2 with ⟨rfl,rfl⟩ | ⟨g,cap,cur,rfl,hb,hrest⟩
 ·exact ⟨⟨h1, .inl ⟨rfl,rfl⟩⟩,fun g hg=>by simp [Value.ownBlock] at hg⟩
 ·exact ⟨⟨h1, .inr ⟨g,cap,cur,rfl,Nat.zero_le _,hrest⟩⟩,fun g' hg=>by
   simp [Value.ownBlock] at hg
   subst hg
   exact hz _ hb⟩
theorem own_band {o:Nat→Nat} {c n size:Nat} {w w':World} {e:TypeId} {v:Value} {xs:List Value} (h:w'.ownsRow w.heap.size e size v n xs):OwnS (band o w.heap.size w'.heap.size c) c w' e size v n xs:=by
 have h1:=own_from (o:=fun _=>c) (c:=c) h (fun _ _=>rfl)
 refine ⟨h1.1,fun g hg=>band_in ?_ (h1.lt g hg)⟩
 obtain ⟨_,h2⟩:=h
 rcases h2 with ⟨rfl,_⟩ | ⟨g',cap,cur,rfl,hb,_⟩
 ·simp [Value.ownBlock] at hg
 ·simp [Value.ownBlock] at hg
  omega
theorem Reads.flat {w:World} {A:Option Addr} {n:Nat} {xs:List Value} (h:Reads w 1 A n xs) (hn:0<n):∃b off,A=some ⟨b,off,none⟩∧∀j u,xs[j]? = some u→w.cell? ⟨b,off+j,none⟩=some u:=by
 obtain ⟨⟨b,off,sp⟩,rfl,hc⟩:=h.2 hn
 have hl:=h.1
 obtain ⟨u,hu⟩:∃u,xs[0]? = some u:=⟨_,List.getElem?_eq_getElem (by omega)⟩
 have h0:=hc 0 u hu
 have e:(⟨b,off,sp⟩:Addr).add 0=⟨b,off,sp⟩:=rfl
 rw [e] at h0
 have hs:sp=none:=by
  unfold World.cell? at h0
  split at h0
  ·split at h0
   ·cases h0
   ·rename_i hsp
    cases sp with
    | none=>rfl
    | some z=>exact absurd rfl hsp
  ·cases h0
 subst hs
 refine ⟨b,off,rfl,fun j v hj => ?_⟩
 have:=hc j v hj
 unfold Addr.add at this
 split at this
 ·rename_i hz
  subst hz
  exact this
 ·exact this
theorem intcells_get {l:List Int} {j:Nat} (h:j<l.length):(intcells l)[j]? = some (.int .i64 (l.getD j 0)):=by
 unfold intcells
 rw [List.getElem?_map,List.getElem?_eq_getElem h,List.getD_eq_getElem?_getD,List.getElem?_eq_getElem h]
 rfl
theorem cloneints_any (o:Nat→Nat) (d:Nat) (w:World) (A:Option Addr) (cap:Nat) (l:List Int) (h:Reads w 1 A l.length (intcells l)) (hl:l.length≤1000000000) :
 Calls Tryz.prog 24 #[.slice A l.length cap] w fun e w'=>∃v,e = .returned v∧OwnW (band o w.heap.size w'.heap.size d) d w' 3 1 v l.length (intcells l)∧Below w.heap.size w w':=by
 by_cases h0:l = []
 ·subst h0
  cases A with
  | none =>
    refine (Any.slices_Clone_int_nil Tryz.laysCl 0 cap w).mono ?_
    rintro e w' ⟨rfl,rfl⟩
    exact ⟨_,rfl,OwnW.nil _ _ _ _ _,Below.refl _ _⟩
  | some a =>
    refine (Any.slices_Clone_int_zero Tryz.laysCl a cap w).mono ?_
    rintro e w' ⟨v,rfl,ho,_,hb⟩
    exact ⟨v,rfl,OwnW.of_own (own_band ho),hb⟩
 ·have hp:0<l.length:=List.length_pos_iff.2 h0
  obtain ⟨b,off,rfl,hc⟩:=h.flat hp
  refine (Any.slices_Clone_int Tryz.laysCl b off l.length cap l w (Nat.le_refl _) (by omega) (fun j hj=>hc j _ (intcells_get hj))).mono ?_
  rintro e w' ⟨v,rfl,ho,_,hb⟩
  rw [List.take_length] at ho
  exact ⟨v,rfl,OwnW.of_own (own_band ho),hb⟩
def Dk.arm (D:Dk) (n:Int) (keep:List Int):Dk := {D with armed:=decide (0≤n),left:=n,stays:=keep}
theorem DiskIn.armed_ {o:Nat→Nat} {c p:Nat} {w:World} {D:Dk} {mn ml:Nat} {wv sv:Value} (h:DiskIn o c w p D mn ml wv sv) (n:Int) (keep:List Int) {v:Value} (hv:OwnW o (c+4) w 3 1 v keep.length (intcells keep)) :
 DiskIn o c (((w.setCell ⟨p,41,none⟩ (.bool (decide (0≤n)))).setCell ⟨p,42,none⟩ (.int .i64 n)).setCell ⟨p,43,none⟩ v) p (D.arm n keep) mn ml wv v∧Step o (only c) w o (((w.setCell ⟨p,41,none⟩ (.bool (decide (0≤n)))).setCell ⟨p,42,none⟩ (.int .i64 n)).setCell ⟨p,43,none⟩ v):=by
 have hs:Step o (only c) w o (((w.setCell ⟨p,41,none⟩ (.bool (decide (0≤n)))).setCell ⟨p,42,none⟩ (.int .i64 n)).setCell ⟨p,43,none⟩ v):=(((Step.refl o (only c) w).setCell (p:=⟨p,41,none⟩) h.col _).setCell (p:=⟨p,42,none⟩) h.col _).setCell (p:=⟨p,43,none⟩) h.col _
 refine ⟨⟨((h.blk.set_ 41 _).set_ 42 _).set_ 43 _,h.col,h.now.step hs (by unfold only;omega),h.lasts.step hs (by unfold only;omega),h.waits.step hs (by unfold only;omega),hv.step hs (by unfold only;omega)⟩,hs⟩
set_option maxRecDepth 100000 in
set_option maxHeartbeats 2000000 in
theorem darm_any {o:Nat→Nat} {c p:Nat} {w:World} {D:Dk} (h:DiskAt o c w p D) (n:Int) (keep:List Int) (A:Option Addr) (cap:Nat) (hrd:Reads w 1 A keep.length (intcells keep)) (hk:keep.length≤1000000000) :
 Calls Tryz.prog 7 #[.pointer (some ⟨p,0,none⟩), .int .i64 n, .slice A keep.length cap] w fun e w'=>e = .returned (.tuple #[])∧∃o',DiskAt o' c w' p (D.arm n keep)∧Step o (only c) w o' w':=by
 obtain ⟨mn,ml,wv,sv,h1⟩:=h
 have H:=Lib.hid h1
 have HR:=Lib.hid hrd
 clear h1 hrd
 by_cases hn:0≤n
 ·have HN:=Lib.hid (show decide (0≤n)=true from decide_eq_true hn)
  go_enter Tryz.func7,Tryz.ntmps7
  go_wp2_with fail
  refine (cloneints_any o (c+4) w A cap keep HR.out hk).mono ?_
  rintro e w1 ⟨v,rfl,hv,hb⟩
  obtain ⟨A2,cap2,rfl,_,_⟩:=hv.form
  have hs1:Step o (fun _=>False) w (band o w.heap.size w1.heap.size (c+4)) w1:=Step.of_below_band o _ (c+4) hb
  have h2:=H.out.step hs1 (fun _ _ _=>id)
  have f1:=h2.blk.frozen 41
  have f2:=h2.blk.frozen 42
  have f3:=h2.blk.frozen 43
  have c1:w1.cell? ⟨p,41,none⟩=some (.bool D.armed):=h2.blk.cell 41
  have c2:w1.cell? ⟨p,42,none⟩=some (.int .i64 D.left):=h2.blk.cell 42
  have c3:w1.cell? ⟨p,43,none⟩=some sv:=h2.blk.cell 43
  obtain ⟨h3,h4⟩:=h2.armed_ n keep hv
  rw [HN.out] at h3 h4
  have HF:=Lib.hid (show ∃o',DiskAt o' c (((w1.setCell ⟨p,41,none⟩ (.bool true)).setCell ⟨p,42,none⟩ (.int .i64 n)).setCell ⟨p,43,none⟩ (.slice A2 keep.length cap2)) p (D.arm n keep)∧Step o (only c) w o' (((w1.setCell ⟨p,41,none⟩ (.bool true)).setCell ⟨p,42,none⟩ (.int .i64 n)).setCell ⟨p,43,none⟩ (.slice A2 keep.length cap2)) from ⟨_,⟨mn,ml,wv,_,h3⟩,(hs1.mono (fun _ h=>h.elim)).trans h4⟩)
  clear hs1 h2 h3 h4 hv hb
  go_wp2_with fail
  go_end0
  exact ⟨rfl,HF.out⟩
 ·have HN:=Lib.hid (show decide (0≤n)=false from decide_eq_false hn)
  go_enter Tryz.func7,Tryz.ntmps7
  go_wp2_with fail
  refine (cloneints_any o (c+4) w A cap keep HR.out hk).mono ?_
  rintro e w1 ⟨v,rfl,hv,hb⟩
  obtain ⟨A2,cap2,rfl,_,_⟩:=hv.form
  have hs1:Step o (fun _=>False) w (band o w.heap.size w1.heap.size (c+4)) w1:=Step.of_below_band o _ (c+4) hb
  have h2:=H.out.step hs1 (fun _ _ _=>id)
  have f1:=h2.blk.frozen 41
  have f2:=h2.blk.frozen 42
  have f3:=h2.blk.frozen 43
  have c1:w1.cell? ⟨p,41,none⟩=some (.bool D.armed):=h2.blk.cell 41
  have c2:w1.cell? ⟨p,42,none⟩=some (.int .i64 D.left):=h2.blk.cell 42
  have c3:w1.cell? ⟨p,43,none⟩=some sv:=h2.blk.cell 43
  obtain ⟨h3,h4⟩:=h2.armed_ n keep hv
  rw [HN.out] at h3 h4
  have HF:=Lib.hid (show ∃o',DiskAt o' c (((w1.setCell ⟨p,41,none⟩ (.bool false)).setCell ⟨p,42,none⟩ (.int .i64 n)).setCell ⟨p,43,none⟩ (.slice A2 keep.length cap2)) p (D.arm n keep)∧Step o (only c) w o' (((w1.setCell ⟨p,41,none⟩ (.bool false)).setCell ⟨p,42,none⟩ (.int .i64 n)).setCell ⟨p,43,none⟩ (.slice A2 keep.length cap2)) from ⟨_,⟨mn,ml,wv,_,h3⟩,(hs1.mono (fun _ h=>h.elim)).trans h4⟩)
  clear hs1 h2 h3 h4 hv hb
  go_wp2_with fail
  go_end0
  exact ⟨rfl,HF.out⟩
end Go.Proofs.YtldoeodkeieejaaGreatDoor
