import Derived.Test.YtohgabdmmbngbaaGreatDoorKDisk
import Derived.Test.YtohgabdmmbngbaaGreatDoorKMsgA
import Derived.Maps.RangeWalk
import Derived.Shelf.Slices.Clone
import Derived.Ground.Names2Prog
import Derived.Test.YtohgabdmmbngbaaGreatDoorProg
import Derived.Deep.CutRange
set_option linter.unusedVariables false
set_option linter.unusedSimpArgs false
namespace Go.Proofs.YtohgabdmmbngbaaGreatDoor
open Go.RowKit
def Ws.zero : Ws:=⟨0,0,0,⟨#[]⟩⟩
def Dk.keep (D:Dk) (x:Ws):Dk:=if ((D.lasts x.at_).getD Ws.zero).seq<x.seq then {D with lasts:=upd D.lasts x.at_ x} else D
theorem zero_ws (w:World):(zeroValue 262).run Tryz.prog w = .ok (.agg #[.int .i64 0, .int .i64 0, .int .i64 0, .string ⟨#[]⟩]) w:=by kernel_rfl
theorem lasts_upd (f:Int→Option Ws) (k:Int) (x:Ws):upd (fun k=>(f k).map Ws.agg) k x.agg=fun j=>(upd f k x j).map Ws.agg:=by
 funext j
 unfold upd
 split <;> rfl
theorem DiskIn.lasts_put {o:Nat→Nat} {c p:Nat} {w:World} {D:Dk} {mn ml:Nat} {wv sv:Value} (h:DiskIn o c w p D mn ml wv sv) (x:Ws) :
 ∃w',(Instr.mapUpdate 99 (.map (some ml)) (.int .i64 x.at_) x.agg).run Tryz.prog w = .ok () w'∧DiskIn o c w' p {D with lasts:=upd D.lasts x.at_ x} mn ml wv sv∧Step o (only (c+2)) w o w'∧∀g t cs,Blk w g t cs→Blk w' g t cs:=by
 obtain ⟨w',h1,h2,h3,h4⟩:=h.lasts.put Tryz.underlying99 Tryz.underlying3 x.at_ x.agg
 rw [lasts_upd] at h2
 exact ⟨w',h1,⟨h.blk.step h3 (by rw [h.col];unfold only;omega),h.col,h.now.step h3 (by unfold only;omega),h2,h.waits.step h3 (by unfold only;omega),h.stays.step h3 (by unfold only;omega)⟩,h3,h4⟩
theorem lasts_get (l:Option Ws):(l.map Ws.agg).getD (.agg #[.int .i64 0, .int .i64 0, .int .i64 0, .string ⟨#[]⟩])=(l.getD Ws.zero).agg:=by
 cases l <;> rfl
theorem DiskIn.drew {o:Nat→Nat} {c p:Nat} {w:World} {D:Dk} {mn ml:Nat} {wv sv:Value} (h:DiskIn o c w p D mn ml wv sv):DiskIn o c w.drew p D mn ml wv sv:=h.step (Step.of_below o (fun _=>False) ⟨rfl,rfl,rfl,Nat.le_refl _,fun _ _=>rfl⟩) (fun _ _ _=>id)
theorem field_ws (a b q d:Value) (hq:∃z,q = .int .i64 z) (W:World):(Instr.field 262 (.agg #[a,b,q,d]) 2).run Tryz.prog W = .ok q W:=by
 obtain ⟨z,rfl⟩:=hq
 kernel_rfl
set_option maxRecDepth 100000 in
set_option maxHeartbeats 1000000 in
theorem dkeep_in {o:Nat→Nat} {c p:Nat} {w:World} {D:Dk} {mn ml:Nat} {wv sv:Value} (h1:DiskIn o c w p D mn ml wv sv) (x:Ws):Calls Tryz.prog 196 #[.pointer (some ⟨p,0,none⟩), .agg #[.int .i64 x.node, .int .i64 x.at_, .int .i64 x.seq, .string x.data]] w fun e w'=>e = .returned (.tuple #[])∧DiskIn o c w' p (D.keep x) mn ml wv sv∧Step o (only (c+2)) w o w':=by
 have ha:DiskIn o c (w.alloc (.cells #[.int .i64 x.node, .int .i64 x.at_, .int .i64 x.seq, .string x.data] 262)) p D mn ml wv sv:=h1.step ((Step.refl o (fun _=>False) w).alloc _) (fun _ _ _=>id)
 have hx:=Blk.new w 262 #[.int .i64 x.node, .int .i64 x.at_, .int .i64 x.seq, .string x.data]
 obtain ⟨y,hy⟩:∃y,(D.lasts x.at_).getD Ws.zero=y:=⟨_,rfl⟩
 have HZ:=Lib.hid hy
 have hlook:∀n,(Instr.lookup 99 (.map (some ml)) (.int .i64 x.at_) false).run Tryz.prog ((w.alloc (.cells #[.int .i64 x.node, .int .i64 x.at_, .int .i64 x.seq, .string x.data] 262)).drewN n) = .ok (.agg #[.int .i64 y.node, .int .i64 y.at_, .int .i64 y.seq, .string y.data]) ((w.alloc (.cells #[.int .i64 x.node, .int .i64 x.at_, .int .i64 x.seq, .string x.data] 262)).drewN n):=fun n=>by
  have:=(ha.lasts.drewN n).look Tryz.underlying99 Tryz.underlying3 (zero_ws _) x.at_ false
  rw [lasts_get,hy] at this
  exact this
 have HX:=Lib.hid hx
 have HA:=Lib.hid ha
 have c4:(w.alloc (.cells #[.int .i64 x.node, .int .i64 x.at_, .int .i64 x.seq, .string x.data] 262)).cell? ⟨p,4,none⟩=some (.map (some ml)):=ha.blk.cell 4
 clear h1 ha hx hy
 go_enter Tryz.func196,Tryz.ntmps196
 go_wp2_with fail
 have HWS:=Lib.hid ((Step.refl o (only (c+2)) w).alloc (.cells #[.int .i64 x.node, .int .i64 x.at_, .int .i64 x.seq, .string x.data] 262))
 generalize w.alloc (.cells #[.int .i64 x.node, .int .i64 x.at_, .int .i64 x.seq, .string x.data] 262)=W at hlook HA HX c4 HWS ⊢
 have x0:=HX.out.cell 0
 have x1:=HX.out.cell 1
 have x2:=HX.out.cell 2
 have x3:=HX.out.cell 3
 simp at x0 x1 x2 x3
 have hlookD:=hlook 1
 rw [show W.drewN 1=W.drew from rfl] at hlookD
 have hfld:=fun W=>field_ws (.int .i64 y.node) (.int .i64 y.at_) (.int .i64 y.seq) (.string y.data) ⟨_,rfl⟩ W
 go_region_held3 (fun w'=>w'.cell? ⟨p,4,none⟩=some (.map (some ml))∧w'.cell? ⟨w.heap.size,1,none⟩=some (.int .i64 x.at_)∧w'.cell? ⟨w.heap.size,2,none⟩=some (.int .i64 x.seq))
  (first | exact ⟨c4,x1,x2⟩ | go_keep)
  (fail)
 by_cases hlt:y.seq<x.seq
 ·obtain ⟨w6,hupd,hd6,hs6,hsz⟩:=(show DiskIn o c W.drew.drew p D mn ml wv sv from HA.out.step (Step.of_below o (fun _=>False) ⟨rfl,rfl,rfl,Nat.le_refl _,fun _ _=>rfl⟩) (fun _ _ _=>id)).lasts_put x
  unfold Ws.agg at hupd
  have k4:w6.cell? ⟨p,4,none⟩=some (.map (some ml)):=hd6.blk.cell 4
  have hx6:Blk w6 w.heap.size 262 #[.int .i64 x.node, .int .i64 x.at_, .int .i64 x.seq, .string x.data]:=hsz _ _ _ HX.out
  have k0:=hx6.cell 0
  have k1:=hx6.cell 1
  have k2:=hx6.cell 2
  have k3:=hx6.cell 3
  simp at k0 k1 k2 k3
  have HF:=Lib.hid (show DiskIn o c w6 p (D.keep x) mn ml wv sv from by rw [show D.keep x = {D with lasts:=upd D.lasts x.at_ x} from if_pos (by rw [HZ.out];exact hlt)];exact hd6)
  have HS:=Lib.hid hs6
  clear hd6 hs6 hsz hx6 hlook hlookD hfld
  go_wp2_with fail
  go_region_held3 (fun w'=>w'.cell? ⟨p,4,none⟩=some (.map (some ml))∧w'.cell? ⟨w.heap.size,0,none⟩=some (.int .i64 x.node)∧w'.cell? ⟨w.heap.size,1,none⟩=some (.int .i64 x.at_)∧w'.cell? ⟨w.heap.size,2,none⟩=some (.int .i64 x.seq)∧w'.cell? ⟨w.heap.size,3,none⟩=some (.string x.data))
   (first | exact ⟨c4,x0,x1,x2,x3⟩ | exact ⟨k4,k0,k1,k2,k3⟩ | go_keep)
   (fail)
  go_end0
  exact ⟨rfl,HF.out,HWS.out.trans HS.out.of_drew.of_drew⟩
 ·have HF:=Lib.hid (show DiskIn o c W.drew p (D.keep x) mn ml wv sv from by rw [show D.keep x=D from if_neg (by rw [HZ.out];exact hlt)];exact HA.out.drew)
  clear hlook hlookD hfld
  go_wp2_with fail
  go_end0
  exact ⟨rfl,HF.out,HWS.out.drew⟩
def Dk.settle (D:Dk) (node:Int):Dk := {(D.waits.filter (fun x=>x.node=node)).foldl Dk.keep D with waits:=D.waits.filter (fun x=>¬x.node=node)}
theorem keep_waits (D:Dk) (x:Ws):(D.keep x).waits=D.waits:=by unfold Dk.keep;split <;> rfl
theorem keeps_waits (l:List Ws):∀D:Dk,(l.foldl Dk.keep D).waits=D.waits:=by
 induction l with
 | nil=>intro D;rfl
 | cons x l ih=>intro D;rw [List.foldl_cons,ih,keep_waits]
theorem info_ws : (Tryz.prog.info? 262).map (fun i=>(i.zero,i.size,i.bytes))=some (some (.agg #[.int .i64 0, .int .i64 0, .int .i64 0, .string ⟨#[]⟩]),4,40):=by kernel_rfl
theorem Reads.wrow {w:World} {A:Option Addr} {l:List Ws} (h:Reads w 4 A l.length (l.flatMap Ws.cells)) {k:Nat} {y:Ws} (hy:l[k]? = some y) :
 ∃ad,A=some ad∧w.cell? (ad.add (k*4))=some (.int .i64 y.node)∧w.cell? ⟨(ad.add (k*4)).block,(ad.add (k*4)).off+1,none⟩=some (.int .i64 y.at_)∧w.cell? ⟨(ad.add (k*4)).block,(ad.add (k*4)).off+2,none⟩=some (.int .i64 y.seq)∧w.cell? ⟨(ad.add (k*4)).block,(ad.add (k*4)).off+3,none⟩=some (.string y.data):=by
 obtain ⟨ad,rfl,hc⟩:=Reads.row (f:=Ws.cells) (fun _=>rfl) h hy
 exact ⟨ad,rfl,hc 0 _ rfl,hc 1 _ rfl,hc 2 _ rfl,hc 3 _ rfl⟩
structure SetAt (o o':Nat→Nat) (c:Nat) (w wr:World) (p:Nat) (D:Dk) (mn ml:Nat) (wv sv:Value) (node:Int) (k n:Nat) (V:Value):Prop where
 disk:DiskIn o' c wr p (((D.waits.take k).filter (fun x=>x.node=node)).foldl Dk.keep D) mn ml wv sv
 len:n=((D.waits.take k).filter (fun x=>¬x.node=node)).length
 left:OwnS o' (c+5) wr 262 4 V n (((D.waits.take k).filter (fun x=>¬x.node=node)).flatMap Ws.cells)
 new:∀g,V.ownBlock=some g→w.heap.size≤g
 step:Step o (six c) w o' wr
section
variable {o o' o2:Nat→Nat} {c p mn ml k n:Nat} {w wr w2:World} {D:Dk} {wv sv V:Value} {node:Int} {x:Ws}
theorem take_more (hx:D.waits[k]? = some x):D.waits.take (k+1)=D.waits.take k ++ [x]:=by rw [List.take_add_one,hx];rfl
theorem SetAt.row (h:SetAt o o' c w wr p D mn ml wv sv node k n V) {A:Option Addr} {cap:Nat} (hv:wv = .slice A D.waits.length cap):Reads wr 4 A D.waits.length (D.waits.flatMap Ws.cells):=by
 have:=h.disk.waits
 rw [keeps_waits,hv] at this
 exact OwnW.reads this
theorem SetAt.kept (h:SetAt o o' c w wr p D mn ml wv sv node k n V) (hx:D.waits[k]? = some x) (hn:x.node=node) (hd:DiskIn o' c w2 p ((((D.waits.take k).filter (fun x=>x.node=node)).foldl Dk.keep D).keep x) mn ml wv sv) (hs:Step o' (only (c+2)) wr o' w2):SetAt o o' c w w2 p D mn ml wv sv node (k+1) n V:=by
 have e1:(D.waits.take (k+1)).filter (fun x=>x.node=node)=(D.waits.take k).filter (fun x=>x.node=node) ++ [x]:=by rw [take_more hx,List.filter_append];simp [hn]
 have e2:(D.waits.take (k+1)).filter (fun x=>¬x.node=node)=(D.waits.take k).filter (fun x=>¬x.node=node):=by rw [take_more hx,List.filter_append];simp [hn]
 refine ⟨?_,by rw [e2];exact h.len,by rw [e2];exact h.left.step hs (by unfold only;omega),h.new,h.step.trans (hs.mono (fun y hy=>by unfold only at hy;unfold six;omega))⟩
 rw [e1,List.foldl_append]
 exact hd
theorem SetAt.more {V2:Value} (h:SetAt o o' c w wr p D mn ml wv sv node k n V) (hx:D.waits[k]? = some x) (hn:¬x.node=node) (ho:OwnS o2 (c+5) w2 262 4 V2 (n+1) (((D.waits.take k).filter (fun x=>¬x.node=node)).flatMap Ws.cells ++ [.int .i64 x.node, .int .i64 x.at_, .int .i64 x.seq, .string x.data])) (hs:Step o' (only (c+5)) wr o2 w2) (hat:V2.ownBlock=V.ownBlock∨V2.ownBlock=some wr.heap.size):SetAt o o2 c w w2 p D mn ml wv sv node (k+1) (n+1) V2:=by
 have e1:(D.waits.take (k+1)).filter (fun x=>x.node=node)=(D.waits.take k).filter (fun x=>x.node=node):=by rw [take_more hx,List.filter_append];simp [hn]
 have e2:(D.waits.take (k+1)).filter (fun x=>¬x.node=node)=(D.waits.take k).filter (fun x=>¬x.node=node) ++ [x]:=by rw [take_more hx,List.filter_append];simp [hn]
 refine ⟨by rw [e1];exact h.disk.step hs (fun y h1 h2=>by unfold only;omega),by rw [e2,List.length_append,←h.len];rfl,?_,fun g hg => ?_,h.step.trans (hs.mono (fun y hy=>by unfold only at hy;unfold six;omega))⟩
 ·rw [e2,List.flatMap_append]
  exact ho
 ·rcases hat with e | e
  ·exact h.new g (e▸hg)
  ·rw [e] at hg
   injection hg with hg
   have:=h.step.size
   omega
theorem SetAt.alloc (h:SetAt o o' c w wr p D mn ml wv sv node k n V) (y:Obj):SetAt o o' c w (wr.alloc y) p D mn ml wv sv node k n V :=
 ⟨h.disk.step ((Step.refl o' (fun _=>False) wr).alloc y) (fun _ _ _=>id),h.len,h.left.alloc y,h.new,h.step.alloc y⟩
theorem SetAt.done (h:SetAt o o' c w wr p D mn ml wv sv node D.waits.length n V):∃o2,DiskAt o2 c (wr.setCell ⟨p,5,none⟩ V) p (D.settle node)∧Step o (six c) w o2 (wr.setCell ⟨p,5,none⟩ V):=by
 have hd:=h.disk
 have hl:=h.left
 have hlen:=h.len
 rw [List.take_length] at hd hl hlen
 have hs:Step o' (only c) wr o' (wr.setCell ⟨p,5,none⟩ V):=(Step.refl o' (only c) wr).setCell (p:=⟨p,5,none⟩) hd.col V
 have hne:∀k,o' k≠c+5→(if V.ownBlock=some k then c+3 else o' k)=o' k:=fun k hk=>if_neg (fun e=>hk (hl.2 k e))
 refine ⟨fun k=>if V.ownBlock=some k then c+3 else o' k,⟨mn,ml,V,sv,⟨hd.blk.set_ 5 V,(hne p (by rw [hd.col];omega)).trans hd.col,?_,?_,?_,?_⟩⟩,?_⟩
 ·have h1:=hd.now.step hs (by unfold only;omega)
  exact h1.heap rfl (hne mn (by rw [h1.1];omega))
 ·have h1:=hd.lasts.step hs (by unfold only;omega)
  exact h1.heap rfl (hne ml (by rw [h1.1];omega))
 ·have h1:=hl.step hs (by unfold only;omega)
  refine OwnW.of_own ⟨?_,fun g hg=>if_pos hg⟩
  have e:(D.settle node).waits.length=n:=hlen.symm
  rw [e]
  exact h1.1
 ·have h1:=hd.stays.step hs (by unfold only;omega)
  rw [show (List.foldl Dk.keep D (List.filter (fun x=>decide (x.node=node)) D.waits)).stays=(D.settle node).stays from rfl] at h1
  exact h1.heap (fun _ _=>rfl) (fun g hg=>hne g (by rw [(h1.lt g hg).2];omega))
 ·have h2:=h.step.trans (hs.mono (fun y hy=>by unfold only at hy;unfold six;omega:∀y,only c y→six c y))
  refine ⟨h2.os,h2.tape,h2.output,h2.size,fun k hk => ?_,fun k hk => ?_,h2.block⟩
  ·refine Eq.trans (if_neg (fun e => ?_)) (h2.old k hk)
   have:=h.new k e
   omega
  ·refine Eq.trans (if_neg (fun e => ?_)) (h2.fut k hk)
   have h3:=hl.lt k e
   have:(wr.setCell ⟨p,5,none⟩ V).heap.size=wr.heap.size:=by simp [World.setCell]
   omega
end
set_option maxRecDepth 100000 in
set_option maxHeartbeats 2000000 in
theorem dsettle_any {o:Nat→Nat} {c p:Nat} {w:World} {D:Dk} (h:DiskAt o c w p D) (node:Int) (hl:D.waits.length≤1000000):Calls Tryz.prog 148 #[.pointer (some ⟨p,0,none⟩), .int .i64 node] w fun e w'=>e = .returned (.tuple #[])∧∃o',DiskAt o' c w' p (D.settle node)∧Step o (six c) w o' w':=by
 obtain ⟨mn,ml,wv,sv,h1⟩:=h
 obtain ⟨i0,hi,hz0,hz1,hz2⟩:=info_parts info_ws
 obtain ⟨A5,cap5,e5,hc5,_⟩:=h1.waits.form
 subst e5
 have c5:w.cell? ⟨p,5,none⟩=some (.slice A5 D.waits.length cap5):=h1.blk.cell 5
 have H:=Lib.hid h1
 have HS0:=Lib.hid (show SetAt o o c w w p D mn ml (.slice A5 D.waits.length cap5) sv node 0 0 (.slice none 0 0) from ⟨by simpa using h1,by simp,by simpa using OwnS.nil o (c+5) w 262 4,by simp [Value.ownBlock],Step.refl _ _ _⟩)
 clear h1
 go_enter Tryz.func148,Tryz.ntmps148
 go_wp2_with fail
 clear c5
 go_loopw [4,12] (fun t4 t12 wr=>∃(k n:Nat) (A:Option Addr) (cap:Nat) (o':Nat→Nat),k≤D.waits.length∧n≤k∧t4 = .slice A n cap∧t12 = .int .i64 k∧SetAt o o' c w wr p D mn ml (.slice A5 D.waits.length cap5) sv node k n (.slice A n cap)) (fun _ t12 _=>D.waits.length - (intOf t12).toNat)
 case atStart=>exact ⟨0,0,none,0,o,by omega,by omega,rfl,rfl,HS0.out⟩
 case round =>
  obtain ⟨k,n,A,cap,o1,hk,hnk,rfl,rfl,hsa⟩:=hrel
  have HSA:=Lib.hid hsa
  clear hsa
  by_cases hlt:k<D.waits.length
  ·have hltI:(k:Int)<(D.waits.length:Int):=by omega
   obtain ⟨x,hx⟩:∃x,D.waits[k]? = some x:=⟨_,List.getElem?_eq_getElem hlt⟩
   obtain ⟨ad,rfl,c0,c1,c2,c3⟩:=Reads.wrow (HSA.out.row rfl) hx
   have HX:=Lib.hid hx
   clear hx
   by_cases hn:x.node=node
   ·have hnB:(x.node == node)=true:=by simp [hn]
    have HNN:=Lib.hid hn
    clear hn
    go_wp2_with fail
    refine (dkeep_in (HSA.out.alloc (.cells #[.int .i64 x.node, .int .i64 x.at_, .int .i64 x.seq, .string x.data] 262)).disk x).mono ?_
    rintro e w2 ⟨rfl,hd2,hs2⟩
    have HN:=Lib.hid ((HSA.out.alloc (.cells #[.int .i64 x.node, .int .i64 x.at_, .int .i64 x.seq, .string x.data] 262)).kept HX.out HNN.out hd2 hs2)
    clear hd2 hs2 c0 c1 c2 c3
    go_wp2_with fail
    go_roundw
    case rel=>exact ⟨k+1,n,A,cap,o1,by omega,by omega,by go_num,by go_num,HN.out⟩
    case measure=>simp [intOf];omega
   ·have hnB:(x.node == node)=false:=by simp [hn]
    have HNN:=Lib.hid hn
    clear hn
    go_wp2_with (at_builtin;refine wpList_append_S _ rfl (.tmp 23) (.tmp 25) 100 rfl 262 i0 _ 4 40 Tryz.underlying100 hi hz0 hz1 hz2 rfl (by omega) (.slice A n cap) n _ rfl ((HSA.out.alloc (.cells #[.int .i64 x.node, .int .i64 x.at_, .int .i64 x.seq, .string x.data] 262)).alloc (.cells #[.int .i64 x.node, .int .i64 x.at_, .int .i64 x.seq, .string x.data] 262)).left _ 1 1 [.int .i64 x.node, .int .i64 x.at_, .int .i64 x.seq, .string x.data] rfl (Reads.newAt _ 262 4 1 _ _ _ (by simp) rfl rfl) (by simp [Value.oneCell']) (by unfold maxLen;omega) (by omega) ?_;intro v2 w2 hown hst hg hat;obtain ⟨A2,cap2,rfl,_,_⟩:=(OwnW.of_own hown).form;have HN:=Lib.hid (((HSA.out.alloc (.cells #[.int .i64 x.node, .int .i64 x.at_, .int .i64 x.seq, .string x.data] 262)).alloc (.cells #[.int .i64 x.node, .int .i64 x.at_, .int .i64 x.seq, .string x.data] 262)).more HX.out HNN.out hown hst hat);clear hown hst hg hat)
    go_roundw
    case rel=>exact ⟨k+1,n+1,A2,cap2,_,by omega,by omega,by go_num,by go_num,HN.out⟩
    case measure=>simp [intOf];omega
  ·have hltI:¬(k:Int)<(D.waits.length:Int):=by omega
   obtain rfl:k=D.waits.length:=by omega
   have y5:wr.cell? ⟨p,5,none⟩=some (.slice A5 D.waits.length cap5):=HSA.out.disk.blk.cell 5
   have f5:=HSA.out.disk.blk.frozen 5
   have HF:=Lib.hid HSA.out.done
   go_wp2_with fail
   go_end0
   exact ⟨rfl,HF.out⟩
end Go.Proofs.YtohgabdmmbngbaaGreatDoor
namespace Go.Proofs.YtohgabdmmbngbaaGreatDoor
open Go.RowKit Go.MapKept
theorem alloc_as (o:Nat→Nat) (w:World) (x:Obj) (c:Nat):∃o2,o2 w.heap.size=c∧Step o (fun _=>False) w o2 (w.alloc x):=by
 refine ⟨fun k=>if k=w.heap.size then c else o k,by simp,rfl,rfl,rfl,by simp,fun k hk=>if_neg (by omega),fun k hk=>if_neg (by simp at hk;omega),fun k hk _=>Below.heap_alloc _ _ _ hk⟩
theorem map_inj {α β:Type} {f:α→β}:∀ {l:List α},(l.map f).Nodup→∀ {x y:α},x∈l→y∈l→f x=f y→x=y
 | a :: l,hn,x,y,hx,hy,e=>by
   have hn':=List.nodup_cons.1 hn
   rcases List.mem_cons.1 hx with hx1 | hx1
   ·rcases List.mem_cons.1 hy with hy1 | hy1
    ·rw [hx1,hy1]
    ·exact absurd (List.mem_map.2 ⟨y,hy1,by rw [←e,hx1]⟩) hn'.1
   ·rcases List.mem_cons.1 hy with hy1 | hy1
    ·exact absurd (List.mem_map.2 ⟨x,hx1,by rw [e,hy1]⟩) hn'.1
    ·exact map_inj hn'.2 hx1 hy1 e
def IterR (o:Nat→Nat) (d:Nat) (w:World) (r m:Nat) (f:Int→Option Value) (left:Int→Bool) (n:Nat):Prop :=
 o r=d∧∃es clock since seen c0,w.heap[r]? = some (.mapIter (some m) since seen c0)∧w.heap[m]? = some (.map es clock)∧Stamped es clock∧(∀x∈es.toList,IsKey (.int .i64) x.key)∧EsR es f∧(∀x∈es.toList,x.born<since)∧since≤c0∧since≤clock∧n=(leftOf es seen).size ∧
  ∀x∈es.toList,∀k,x.key = .int .i64 k→(left k=true↔seen.contains x.born=false)
section
variable {o o':Nat→Nat} {C:Nat→Prop} {c d:Nat} {w w':World} {r m n:Nat} {f:Int→Option Value} {left:Int→Bool} {P:Program}
theorem IterR.lt (h:IterR o d w r m f left n):r<w.heap.size∧m<w.heap.size:=by
 obtain ⟨_,es,clock,since,seen,c0,h1,h2,_⟩:=h
 exact ⟨(Array.getElem?_eq_some_iff.1 h1).1,(Array.getElem?_eq_some_iff.1 h2).1⟩
theorem IterR.step (h:IterR o d w r m f left n) (hs:Step o C w o' w') (h0:¬C d) (hm:¬C (o m)):IterR o' d w' r m f left n:=by
 obtain ⟨l1,l2⟩:=h.lt
 obtain ⟨a,es,clock,since,seen,c0,h1,h2,h3⟩:=h
 exact ⟨(hs.old r l1).trans a,es,clock,since,seen,c0,(hs.block r l1 (by rw [a];exact h0)).trans h1,(hs.block m l2 hm).trans h2,h3⟩
theorem IterR.start (h:MapR o c w m f) {t kt e:TypeId} (ht:P.underlying t=some (.map kt e)) (d:Nat):∃(x:Obj) (n:Nat) (o2:Nat→Nat),(Instr.range t (.map (some m))).run P w = .ok (.pointer (some ⟨w.heap.size,0,none⟩)) (w.alloc x)∧IterR o2 d (w.alloc x) w.heap.size m f (fun _=>true) n∧Step o (fun _=>False) w o2 (w.alloc x):=by
 obtain ⟨_,es,clock,h1,hst,hk,hes⟩:=h
 obtain ⟨o2,h0,hs2⟩:=alloc_as o w (.mapIter (some m) clock #[] clock) d
 refine ⟨.mapIter (some m) clock #[] clock,_,o2,run_range_map w t kt e m es clock ht h1,⟨h0,es,clock,clock,#[],clock,heap_alloc_new w _,?_,hst,hk,hes,hst.1,Nat.le_refl _,Nat.le_refl _,rfl,fun x _ k _ => ?_⟩,hs2⟩
 ·rw [heap_alloc_old w _ (Array.getElem?_eq_some_iff.1 h1).1]
  exact h1
 ·simp
theorem key_of {x:MapEntry} (h:IsKey (.int .i64) x.key):∃k,x.key = .int .i64 k:=by
 revert h
 cases hxk:x.key with
 | int kd a=>cases kd <;> simp [IsKey]
 | _=>simp [IsKey]
theorem next_ty {a:Option Nat} {b d:Nat} {sn:Array Nat} (h1:w.heap[r]? = some (.mapIter a b sn d)) (ty ty':TypeId):(Instr.next (.pointer (some ⟨r,0,none⟩)) false ty).run P w=(Instr.next (.pointer (some ⟨r,0,none⟩)) false ty').run P w:=by
 simp only [Instr.next,getObj,Sem.run_bind,Sem.run,h1,Result.andThen]
theorem IterR.next (h:IterR o d w r m f left n) :
 ((∀k,left k=true→f k=none)∧∀ty,(Instr.next (.pointer (some ⟨r,0,none⟩)) false ty).run P w = .ok (.tuple #[.bool false]) w) ∨
 ∃(k:Int) (v:Value) (w1:World) (n1:Nat),f k=some v∧left k=true∧(∀ty,(Instr.next (.pointer (some ⟨r,0,none⟩)) false ty).run P w = .ok (.tuple #[.bool true, .int .i64 k,v]) w1)∧IterR o d w1 r m f (fun j=>left j && decide (j≠k)) n1∧n1<n∧Step o (only d) w o w1 ∧
  (Instr.entry (.pointer (some ⟨r,0,none⟩))).run P w1 = .ok (.tuple #[.int .i64 k,v]) w1:=by
 obtain ⟨a,es,clock,since,seen,c0,h1,h2,hst,hk,hes,hold,hsc,hcl,hn,hl⟩:=h
 have hmr:r≠m:=by
  rintro rfl
  rw [h1] at h2
  cases h2
 rcases run_next_at (P:=P) w 0 r m since c0 seen es clock h1 h2 hold hsc with ⟨hz,hr⟩ | ⟨e,he,w1,hw1,hr⟩
 ·left
  refine ⟨fun k hk2 => ?_,fun ty=>(next_ty h1 ty 0).trans hr⟩
  cases hfk:f k with
  | none=>rfl
  | some v =>
    obtain ⟨x,hx,e1,_⟩:=(hes k v).1 hfk
    have h3:=(hl x hx k e1).1 hk2
    have:x∈(leftOf es seen):=Array.mem_filter.2 ⟨Array.mem_toList_iff.1 hx,by rw [h3];rfl⟩
    have h4:=Array.size_pos_of_mem this
    omega
 ·right
  obtain ⟨m1,m2⟩:=mem_left he
  obtain ⟨k,ek⟩:=key_of (hk e m1)
  rw [ek] at hr
  have h1':w1.heap[r]? = some (.mapIter (some m) since seen c0):=by rcases hw1 with rfl | rfl <;> exact h1
  have h2':w1.heap[m]? = some (.map es clock):=by rcases hw1 with rfl | rfl <;> exact h2
  have hs1:Step o (only d) w o w1:=by
   rcases hw1 with rfl | rfl
   ·exact Step.refl _ _ _
   ·exact (Step.refl _ _ _).drew
  have lt1:=(Array.getElem?_eq_some_iff.1 h1').1
  have hsr:(Go.ChangeMaps.setBlock w1 r (.mapIter (some m) since (seen.push e.born) clock)).heap[r]? = some (.mapIter (some m) since (seen.push e.born) clock):=by
   show (w1.heap.setIfInBounds r _)[r]? = _
   rw [Array.getElem?_setIfInBounds_self_of_lt lt1]
  have hsm:(Go.ChangeMaps.setBlock w1 r (.mapIter (some m) since (seen.push e.born) clock)).heap[m]? = some (.map es clock):=by
   show (w1.heap.setIfInBounds r _)[m]? = _
   rw [Array.getElem?_setIfInBounds,if_neg hmr]
   exact h2'
  refine ⟨k,e.val,_,_,(hes k e.val).2 ⟨e,m1,ek,rfl⟩,(hl e m1 k ek).2 m2,fun ty=>(next_ty h1 ty 0).trans hr,⟨a,es,clock,since,seen.push e.born,clock,hsr,hsm,hst,hk,hes,hold,hcl,hcl,rfl,?_⟩,?_,hs1.trans (setHeap_step a _),?_⟩
  ·intro x hx j hj
   rw [contains_push]
   have hb:(x.born == e.born)=decide (j=k):=by
    by_cases hjk:j=k
    ·subst hjk
     rw [map_inj hst.2.2 hx m1 (hj.trans ek.symm)]
     simp
    ·have:x.born≠e.born:=fun e0=>hjk (by
      have:=map_inj hst.2.1 hx m1 e0
      subst this
      rw [hj] at ek
      injection ek)
     simp [hjk,this]
   rw [hb,Bool.and_eq_true,hl x hx j hj]
   by_cases hjk:j=k <;> simp [hjk]
  ·rw [hn]
   exact left_shrinks es seen e he
  ·rw [←ek]
   exact run_entry_at _ r m since seen es clock e hsr hsm m1 hst.2.1
end
end Go.Proofs.YtohgabdmmbngbaaGreatDoor
namespace Go.Proofs
open Go.Shelf
def Tryz.laysCl_ren : Go.Shelf.Ren:=⟨fun | 15=>241 | n=>n,fun | 22=>57 | 3=>3 | 4=>4 | n=>n,fun | n=>n⟩
theorem Tryz.laysCl : Go.Proofs.Lays2.n15 Tryz.prog Tryz.laysCl_ren := {
 mixed:=by kernel_rfl
 f15:=Tryz.func241.trans (congrArg some (by kernel_rfl))
 t3:=Tryz.underlying3
 a3:=Tryz.isAgg3
 z3:=Tryz.sizeOf3
 v3:=Tryz.zeroValue3
 t4:=Tryz.underlying4
 a4:=Tryz.isAgg4
 z4:=Tryz.sizeOf4
 v4:=Tryz.zeroValue4
 t22:=Tryz.underlying57
 a22:=Tryz.isAgg57
 z22:=Tryz.sizeOf57
 v22:=Tryz.zeroValue57
 i3:=by kernel_rfl}
end Go.Proofs
namespace Go.Proofs.YtohgabdmmbngbaaGreatDoor
open Go.RowKit
theorem DiskIn.set_ {o:Nat→Nat} {c p:Nat} {w:World} {D D2:Dk} {mn ml:Nat} {wv sv:Value} (h:DiskIn o c w p D mn ml wv sv) (i:Nat) (v:Value) (hc:(D.cells mn ml wv sv).setIfInBounds i v=D2.cells mn ml wv sv) (h1:D2.now=D.now) (h2:D2.lasts=D.lasts) (h3:D2.waits=D.waits) (h4:D2.stays=D.stays) :
 DiskIn o c (w.setCell ⟨p,i,none⟩ v) p D2 mn ml wv sv∧Step o (only c) w o (w.setCell ⟨p,i,none⟩ v):=by
 have hs:Step o (only c) w o (w.setCell ⟨p,i,none⟩ v):=(Step.refl o (only c) w).setCell (p:=⟨p,i,none⟩) h.col v
 refine ⟨⟨?_,h.col,?_,?_,?_,?_⟩,hs⟩
 ·rw [←hc]
  exact h.blk.set_ i v
 ·rw [h1]
  exact h.now.step hs (by unfold only;omega)
 ·rw [h2]
  exact h.lasts.step hs (by unfold only;omega)
 ·rw [h3]
  exact h.waits.step hs (by unfold only;omega)
 ·rw [h4]
  exact h.stays.step hs (by unfold only;omega)
theorem only_six (c:Nat):∀x,only c x→six c x:=by unfold only six;omega
theorem now_upd (f:Int→Option ByteArray) (k:Int) (s:ByteArray):upd (fun k=>(f k).map .string) k (.string s)=fun j=>(upd f k s j).map Value.string:=by
 funext j
 unfold upd
 split <;> rfl
theorem DiskIn.now_put {o:Nat→Nat} {c p:Nat} {w:World} {D:Dk} {mn ml:Nat} {wv sv:Value} (h:DiskIn o c w p D mn ml wv sv) (k:Int) (s:ByteArray) :
 ∃w',(Instr.mapUpdate 98 (.map (some mn)) (.int .i64 k) (.string s)).run Tryz.prog w = .ok () w'∧DiskIn o c w' p {D with now:=upd D.now k s} mn ml wv sv∧Step o (only (c+1)) w o w'∧∀g t cs,Blk w g t cs→Blk w' g t cs:=by
 obtain ⟨w',h1,h2,h3,h4⟩:=h.now.put Tryz.underlying98 Tryz.underlying3 k (.string s)
 rw [now_upd] at h2
 exact ⟨w',h1,⟨h.blk.step h3 (by rw [h.col];unfold only;omega),h.col,h2,h.lasts.step h3 (by unfold only;omega),h.waits.step h3 (by unfold only;omega),h.stays.step h3 (by unfold only;omega)⟩,h3,h4⟩
theorem own_from {o:Nat→Nat} {c B n size:Nat} {w:World} {e:TypeId} {v:Value} {xs:List Value} (h:w.ownsRow B e size v n xs) (hz:∀g,B≤g→o g=c):OwnS o c w e size v n xs:=by
 obtain ⟨h1,h2⟩:=h
 rcases h2 with ⟨rfl,rfl⟩ | ⟨g,cap,cur,rfl,hb,hrest⟩
 ·exact ⟨⟨h1, .inl ⟨rfl,rfl⟩⟩,fun g hg=>by simp [Value.ownBlock] at hg⟩
 ·exact ⟨⟨h1, .inr ⟨g,cap,cur,rfl,Nat.zero_le _,hrest⟩⟩,fun g' hg=>by
   simp [Value.ownBlock] at hg
   subst hg
   exact hz _ hb⟩
theorem own_band {o:Nat→Nat} {c n size:Nat} {w w':World} {e:TypeId} {v:Value} {xs:List Value} (h:w'.ownsRow w.heap.size e size v n xs):OwnS (band o w.heap.size w'.heap.size c) c w' e size v n xs:=by
 have h1:=own_from (o:=fun _=>c) (c:=c) h (fun _ _=>rfl)
 refine ⟨h1.1,fun g hg=>band_in ?_ (h1.lt g hg)⟩
 obtain ⟨_,h2⟩:=h
 rcases h2 with ⟨rfl,_⟩ | ⟨g',cap,cur,rfl,hb,_⟩
 ·simp [Value.ownBlock] at hg
 ·simp [Value.ownBlock] at hg
  omega
theorem Reads.flat {w:World} {A:Option Addr} {n:Nat} {xs:List Value} (h:Reads w 1 A n xs) (hn:0<n):∃b off,A=some ⟨b,off,none⟩∧∀j u,xs[j]? = some u→w.cell? ⟨b,off+j,none⟩=some u:=by
 obtain ⟨⟨b,off,sp⟩,rfl,hc⟩:=h.2 hn
 have hl:=h.1
 obtain ⟨u,hu⟩:∃u,xs[0]? = some u:=⟨_,List.getElem?_eq_getElem (by omega)⟩
 have h0:=hc 0 u hu
 have e:(⟨b,off,sp⟩:Addr).add 0=⟨b,off,sp⟩:=rfl
 rw [e] at h0
 have hs:sp=none:=by
  unfold World.cell? at h0
  split at h0
  ·split at h0
   ·cases h0
   ·rename_i hsp
    cases sp with
    | none=>rfl
    | some z=>exact absurd rfl hsp
  ·cases h0
 subst hs
 refine ⟨b,off,rfl,fun j v hj => ?_⟩
 have:=hc j v hj
 unfold Addr.add at this
 split at this
 ·rename_i hz
  subst hz
  exact this
 ·exact this
theorem intcells_get {l:List Int} {j:Nat} (h:j<l.length):(intcells l)[j]? = some (.int .i64 (l.getD j 0)):=by
 unfold intcells
 rw [List.getElem?_map,List.getElem?_eq_getElem h,List.getD_eq_getElem?_getD,List.getElem?_eq_getElem h]
 rfl
theorem cloneints_any (o:Nat→Nat) (d:Nat) (w:World) (A:Option Addr) (cap:Nat) (l:List Int) (h:Reads w 1 A l.length (intcells l)) (hl:l.length≤1000000000) :
 Calls Tryz.prog 241 #[.slice A l.length cap] w fun e w'=>∃v,e = .returned v∧OwnW (band o w.heap.size w'.heap.size d) d w' 3 1 v l.length (intcells l)∧Below w.heap.size w w':=by
 by_cases h0:l = []
 ·subst h0
  cases A with
  | none =>
    refine (Any.slices_Clone_int_nil Tryz.laysCl 0 cap w).mono ?_
    rintro e w' ⟨rfl,rfl⟩
    exact ⟨_,rfl,OwnW.nil _ _ _ _ _,Below.refl _ _⟩
  | some a =>
    refine (Any.slices_Clone_int_zero Tryz.laysCl a cap w).mono ?_
    rintro e w' ⟨v,rfl,ho,_,hb⟩
    exact ⟨v,rfl,OwnW.of_own (own_band ho),hb⟩
 ·have hp:0<l.length:=List.length_pos_iff.2 h0
  obtain ⟨b,off,rfl,hc⟩:=h.flat hp
  refine (Any.slices_Clone_int Tryz.laysCl b off l.length cap l w (Nat.le_refl _) (by omega) (fun j hj=>hc j _ (intcells_get hj))).mono ?_
  rintro e w' ⟨v,rfl,ho,_,hb⟩
  rw [List.take_length] at ho
  exact ⟨v,rfl,OwnW.of_own (own_band ho),hb⟩
def Dk.arm (D:Dk) (n:Int) (keep:List Int):Dk := {D with armed:=decide (0≤n),left:=n,stays:=keep}
theorem DiskIn.armed_ {o:Nat→Nat} {c p:Nat} {w:World} {D:Dk} {mn ml:Nat} {wv sv:Value} (h:DiskIn o c w p D mn ml wv sv) (n:Int) (keep:List Int) {v:Value} (hv:OwnW o (c+4) w 3 1 v keep.length (intcells keep)) :
 DiskIn o c (((w.setCell ⟨p,41,none⟩ (.bool (decide (0≤n)))).setCell ⟨p,42,none⟩ (.int .i64 n)).setCell ⟨p,43,none⟩ v) p (D.arm n keep) mn ml wv v∧Step o (only c) w o (((w.setCell ⟨p,41,none⟩ (.bool (decide (0≤n)))).setCell ⟨p,42,none⟩ (.int .i64 n)).setCell ⟨p,43,none⟩ v):=by
 have hs:Step o (only c) w o (((w.setCell ⟨p,41,none⟩ (.bool (decide (0≤n)))).setCell ⟨p,42,none⟩ (.int .i64 n)).setCell ⟨p,43,none⟩ v):=(((Step.refl o (only c) w).setCell (p:=⟨p,41,none⟩) h.col _).setCell (p:=⟨p,42,none⟩) h.col _).setCell (p:=⟨p,43,none⟩) h.col _
 refine ⟨⟨((h.blk.set_ 41 _).set_ 42 _).set_ 43 _,h.col,h.now.step hs (by unfold only;omega),h.lasts.step hs (by unfold only;omega),h.waits.step hs (by unfold only;omega),hv.step hs (by unfold only;omega)⟩,hs⟩
set_option maxRecDepth 100000 in
set_option maxHeartbeats 2000000 in
theorem darm_any {o:Nat→Nat} {c p:Nat} {w:World} {D:Dk} (h:DiskAt o c w p D) (n:Int) (keep:List Int) (A:Option Addr) (cap:Nat) (hrd:Reads w 1 A keep.length (intcells keep)) (hk:keep.length≤1000000000) :
 Calls Tryz.prog 214 #[.pointer (some ⟨p,0,none⟩), .int .i64 n, .slice A keep.length cap] w fun e w'=>e = .returned (.tuple #[])∧∃o',DiskAt o' c w' p (D.arm n keep)∧Step o (only c) w o' w':=by
 obtain ⟨mn,ml,wv,sv,h1⟩:=h
 have H:=Lib.hid h1
 have HR:=Lib.hid hrd
 clear h1 hrd
 by_cases hn:0≤n
 ·have HN:=Lib.hid (show decide (0≤n)=true from decide_eq_true hn)
  go_enter Tryz.func214,Tryz.ntmps214
  go_wp2_with fail
  refine (cloneints_any o (c+4) w A cap keep HR.out hk).mono ?_
  rintro e w1 ⟨v,rfl,hv,hb⟩
  obtain ⟨A2,cap2,rfl,_,_⟩:=hv.form
  have hs1:Step o (fun _=>False) w (band o w.heap.size w1.heap.size (c+4)) w1:=Step.of_below_band o _ (c+4) hb
  have h2:=H.out.step hs1 (fun _ _ _=>id)
  have f1:=h2.blk.frozen 41
  have f2:=h2.blk.frozen 42
  have f3:=h2.blk.frozen 43
  have c1:w1.cell? ⟨p,41,none⟩=some (.bool D.armed):=h2.blk.cell 41
  have c2:w1.cell? ⟨p,42,none⟩=some (.int .i64 D.left):=h2.blk.cell 42
  have c3:w1.cell? ⟨p,43,none⟩=some sv:=h2.blk.cell 43
  obtain ⟨h3,h4⟩:=h2.armed_ n keep hv
  rw [HN.out] at h3 h4
  have HF:=Lib.hid (show ∃o',DiskAt o' c (((w1.setCell ⟨p,41,none⟩ (.bool true)).setCell ⟨p,42,none⟩ (.int .i64 n)).setCell ⟨p,43,none⟩ (.slice A2 keep.length cap2)) p (D.arm n keep)∧Step o (only c) w o' (((w1.setCell ⟨p,41,none⟩ (.bool true)).setCell ⟨p,42,none⟩ (.int .i64 n)).setCell ⟨p,43,none⟩ (.slice A2 keep.length cap2)) from ⟨_,⟨mn,ml,wv,_,h3⟩,(hs1.mono (fun _ h=>h.elim)).trans h4⟩)
  clear hs1 h2 h3 h4 hv hb
  go_wp2_with fail
  go_end0
  exact ⟨rfl,HF.out⟩
 ·have HN:=Lib.hid (show decide (0≤n)=false from decide_eq_false hn)
  go_enter Tryz.func214,Tryz.ntmps214
  go_wp2_with fail
  refine (cloneints_any o (c+4) w A cap keep HR.out hk).mono ?_
  rintro e w1 ⟨v,rfl,hv,hb⟩
  obtain ⟨A2,cap2,rfl,_,_⟩:=hv.form
  have hs1:Step o (fun _=>False) w (band o w.heap.size w1.heap.size (c+4)) w1:=Step.of_below_band o _ (c+4) hb
  have h2:=H.out.step hs1 (fun _ _ _=>id)
  have f1:=h2.blk.frozen 41
  have f2:=h2.blk.frozen 42
  have f3:=h2.blk.frozen 43
  have c1:w1.cell? ⟨p,41,none⟩=some (.bool D.armed):=h2.blk.cell 41
  have c2:w1.cell? ⟨p,42,none⟩=some (.int .i64 D.left):=h2.blk.cell 42
  have c3:w1.cell? ⟨p,43,none⟩=some sv:=h2.blk.cell 43
  obtain ⟨h3,h4⟩:=h2.armed_ n keep hv
  rw [HN.out] at h3 h4
  have HF:=Lib.hid (show ∃o',DiskAt o' c (((w1.setCell ⟨p,41,none⟩ (.bool false)).setCell ⟨p,42,none⟩ (.int .i64 n)).setCell ⟨p,43,none⟩ (.slice A2 keep.length cap2)) p (D.arm n keep)∧Step o (only c) w o' (((w1.setCell ⟨p,41,none⟩ (.bool false)).setCell ⟨p,42,none⟩ (.int .i64 n)).setCell ⟨p,43,none⟩ (.slice A2 keep.length cap2)) from ⟨_,⟨mn,ml,wv,_,h3⟩,(hs1.mono (fun _ h=>h.elim)).trans h4⟩)
  clear hs1 h2 h3 h4 hv hb
  go_wp2_with fail
  go_end0
  exact ⟨rfl,HF.out⟩
def bitI (n:Int):Int:=bits BinOp.and IntKind.i64 n 1
def stayB (keep:List Int) (k:Nat):Bool:=decide (k<keep.length) && decide (bitI (keep.getD k 0)=1)
def Dk.cutN (D:Dk) (keep:List Int):Nat→Dk
 | 0=>D
 | k+1=>match D.waits[k]? with
   | some x=>if stayB keep k=true then (D.cutN keep k).keep x else D.cutN keep k
   | none=>D.cutN keep k
def Dk.off (E:Dk):Dk := {E with on:=false,now:=fun k=>(E.lasts k).map (fun x:Ws=>x.data),waits := []}
def Dk.cut (D:Dk) (keep:List Int):Nat×Dk:=if D.on=false then (0,D.arm (-1) []) else (D.waits.length,((D.arm (-1) []).cutN keep D.waits.length).off)
def cutC (c:Nat):Nat→Prop:=fun x=>x=c∨x=c+1∨x=c+2∨x=c+5
theorem cutN_waits (D:Dk) (keep:List Int) (k:Nat):(D.cutN keep k).waits=D.waits:=by
 induction k with
 | zero=>rfl
 | succ k ih =>
   unfold Dk.cutN
   split
   ·split
    ·rw [keep_waits,ih]
    ·exact ih
   ·exact ih
theorem cutN_succ {D:Dk} {keep:List Int} {k:Nat} {x:Ws} (h:D.waits[k]? = some x):D.cutN keep (k+1)=if stayB keep k=true then (D.cutN keep k).keep x else D.cutN keep k:=by
 show (match D.waits[k]? with | some x=>_ | none=>_)=_
 rw [h]
def nowP (E:Dk) (left:Int→Bool):Int→Option ByteArray:=fun k=>if left k=true then none else (E.lasts k).map (fun x:Ws=>x.data)
def Dk.withNow (E:Dk) (f:Int→Option ByteArray) (l:List Ws):Dk := {E with on:=false,now:=f,waits:=l}
def Dk.part (E:Dk) (left:Int→Bool):Dk:=E.withNow (nowP E left) E.waits
theorem part_next {E:Dk} {left:Int→Bool} {k:Int} {x:Ws} (h:E.lasts k=some x):({E.part left with now:=upd (E.part left).now k x.data}:Dk)=E.part (fun j=>left j && decide (j≠k)):=by
 show E.withNow (upd (nowP E left) k x.data) E.waits=E.withNow (nowP E _) E.waits
 congr 1
 funext j
 unfold upd nowP
 by_cases hj:j=k
 ·subst hj
  simp [h]
 ·simp [hj]
theorem part_end {E:Dk} {left:Int→Bool} (h:∀k,left k=true→(E.lasts k).map Ws.agg=none):({E.part left with waits := []}:Dk)=E.off:=by
 show E.withNow (nowP E left) []=E.withNow (fun k=>(E.lasts k).map (fun x:Ws=>x.data)) []
 congr 1
 funext k
 unfold nowP
 by_cases hk:left k=true
 ·rw [if_pos hk]
  have:=h k hk
  cases hl:E.lasts k with
  | none=>rfl
  | some x=>rw [hl] at this;cases this
 ·rw [if_neg hk]
theorem Reads.int {w:World} {A:Option Addr} {l:List Int} (h:Reads w 1 A l.length (intcells l)) {k:Nat} (hk:k<l.length):∃ad,A=some ad∧w.cell? (ad.add k)=some (.int .i64 (l.getD k 0)):=by
 obtain ⟨ad,rfl,hc⟩:=h.2 (by omega)
 exact ⟨ad,rfl,hc k _ (intcells_get hk)⟩
set_option maxRecDepth 100000 in
set_option maxHeartbeats 8000000 in
theorem dcut_any {o:Nat→Nat} {c p:Nat} {w:World} {D:Dk} (h:DiskAt o c w p D) (keep:List Int) (A:Option Addr) (cap:Nat) (hK:∀o' w',Step o (cutC c) w o' w'→Reads w' 1 A keep.length (intcells keep)) (hk:keep.length≤maxLen) :
 Calls Tryz.prog 169 #[.pointer (some ⟨p,0,none⟩), .slice A keep.length cap] w fun e w'=>e = .returned (.int .i64 (D.cut keep).1)∧∃o',DiskAt o' c w' p (D.cut keep).2∧Step o (cutC c) w o' w':=by
 have H:=Lib.hid h
 have HK:=Lib.hid hK
 have HKL:=Lib.hid hk
 clear h hK hk
 go_enter Tryz.func169,Tryz.ntmps169
 go_wp2_with fail
 refine (darm_any H.out (-1) [] none 0 (Reads.none_ _ _ _) (by simp)).mono ?_
 rintro e w1 ⟨rfl,o1,hd,hs⟩
 have HD1:=Lib.hid hd
 have HS1:=Lib.hid (hs.mono (fun y hy=>by unfold only at hy;unfold cutC;omega:∀y,only c y→cutC c y))
 clear hd hs H
 go_wp2_with fail
 refine (don_any HD1.out).mono ?_
 rintro e w2 ⟨rfl,rfl⟩
 obtain ⟨b,hb⟩:∃b,D.on=b:=⟨_,rfl⟩
 have hb':(D.arm (-1) []).on=b:=hb
 rw [hb']
 cases b with
 | false =>
   have HC:=Lib.hid (show D.cut keep=(0,D.arm (-1) []) from if_pos hb)
   clear hb hb'
   go_wp2_with fail
   go_ret
   rw [HC.out]
   exact ⟨rfl,o1,HD1.out,HS1.out⟩
 | true =>
   have HC:=Lib.hid (show D.cut keep=(D.waits.length,((D.arm (-1) []).cutN keep D.waits.length).off) from if_neg (by rw [hb];decide))
   have hwe:(D.arm (-1) []).waits=D.waits:=rfl
   generalize D.arm (-1) []=E0 at HD1 HC hwe
   rw [←hwe] at HC
   clear hb hb' hwe
   obtain ⟨mn,ml,wv,sv,hd⟩:=HD1.out
   obtain ⟨A5,cap5,rfl,hc5,hm5⟩:=hd.waits.form
   have c5:w1.cell? ⟨p,5,none⟩=some (.slice A5 E0.waits.length cap5):=hd.blk.cell 5
   have HD2:=Lib.hid hd
   obtain ⟨N,hN⟩:∃N,E0.waits.length=N:=⟨_,rfl⟩
   have HN:=Lib.hid hN
   have hNI:(N:Int)≤9223372036854775807:=by unfold maxLen at hm5;omega
   rw [hN] at c5
   clear hd hN HD1 hc5
   go_wp2_with fail
   clear c5
   go_loopw [21] (fun t21 wr=>∃(k:Nat) (o2:Nat→Nat),k≤N∧t21 = .int .i64 k∧DiskIn o2 c wr p (E0.cutN keep k) mn ml (.slice A5 E0.waits.length cap5) sv∧Step o (cutC c) w o2 wr) (fun t21 _=>N - (intOf t21).toNat)
   case atStart=>exact ⟨0,o1,by omega,rfl,HD2.out,HS1.out⟩
   case round =>
    obtain ⟨k,o2,hkn,rfl,hd,hs⟩:=hrel
    have HDr:=Lib.hid hd
    have HSr:=Lib.hid hs
    clear hd hs HD2 HS1
    by_cases hlt:k<N
    ·have hltI:(k:Int)<(N:Int):=by omega
     obtain ⟨x,hx⟩:∃x,E0.waits[k]? = some x:=⟨_,List.getElem?_eq_getElem (by rw [HN.out];exact hlt)⟩
     have HX:=Lib.hid (cutN_succ (keep:=keep) hx)
     have hrow:Reads wr 4 A5 E0.waits.length (E0.waits.flatMap Ws.cells):=by
      have:=HDr.out.waits
      rw [cutN_waits] at this
      exact OwnW.reads this
     obtain ⟨ad,rfl,y0,y1,y2,y3⟩:=hrow.wrow hx
     have HB:=Lib.hid (Blk.new wr 262 #[.int .i64 x.node, .int .i64 x.at_, .int .i64 x.seq, .string x.data])
     have HD3:=Lib.hid (HDr.out.step ((Step.refl o2 (fun _=>False) wr).alloc (.cells #[.int .i64 x.node, .int .i64 x.at_, .int .i64 x.seq, .string x.data] 262)) (fun _ _ _=>id))
     have HS3:=Lib.hid (HSr.out.alloc (.cells #[.int .i64 x.node, .int .i64 x.at_, .int .i64 x.seq, .string x.data] 262))
     clear hrow hx
     go_upto_region 8 with (fail)
     generalize wr.alloc (.cells #[.int .i64 x.node, .int .i64 x.at_, .int .i64 x.seq, .string x.data] 262)=W at HB HD3 HS3 ⊢
     generalize wr.heap.size=X at HB ⊢
     clear y0 y1 y2 y3
     have z0:W.cell? ⟨X,0,none⟩=some (.int .i64 x.node):=HB.out.cell 0
     have z1:W.cell? ⟨X,1,none⟩=some (.int .i64 x.at_):=HB.out.cell 1
     have z2:W.cell? ⟨X,2,none⟩=some (.int .i64 x.seq):=HB.out.cell 2
     have z3:W.cell? ⟨X,3,none⟩=some (.string x.data):=HB.out.cell 3
     by_cases hkk:k<keep.length
     ·have hkI:(k:Int)<(keep.length:Int):=by omega
      obtain ⟨ak,rfl,ck⟩:=(HK.out _ _ HS3.out).int hkk
      obtain ⟨bt,hbt⟩:∃bt,keep.getD k 0=bt:=⟨_,rfl⟩
      rw [hbt] at ck
      by_cases hb1:bits BinOp.and IntKind.i64 bt 1=1
      ·have HS:=Lib.hid (show stayB keep k=true by unfold stayB bitI;rw [hbt,hb1];simp [hkk])
       have hbB:(bits BinOp.and IntKind.i64 bt 1 == 1)=true:=by rw [hb1];rfl
       clear hbt
       go_upto_region 9 with (fail)
       clear ck hb1 hbB
       go_wp2_with fail
       refine (dkeep_in HD3.out x).mono ?_
       rintro e w4 ⟨rfl,hd,hs⟩
       have HD4:=Lib.hid (show DiskIn o2 c w4 p (E0.cutN keep (k+1)) mn ml (.slice (some ad) E0.waits.length cap5) sv by rw [HX.out,if_pos HS.out];exact hd)
       have HS4:=Lib.hid (HS3.out.trans (hs.mono (fun y hy=>by unfold only at hy;unfold cutC;omega:∀y,only (c+2) y→cutC c y)))
       clear hd hs z0 z1 z2 z3
       go_wp2_with fail
       go_roundw
       case rel=>exact ⟨k+1,o2,by omega,by go_num,HD4.out,HS4.out⟩
       case measure=>simp [intOf];omega
      ·have HS:=Lib.hid (show ¬stayB keep k=true by unfold stayB bitI;rw [hbt];simp [hb1])
       have hbB:(bits BinOp.and IntKind.i64 bt 1 == 1)=false:=by simp [hb1]
       have HD4:=Lib.hid (show DiskIn o2 c W p (E0.cutN keep (k+1)) mn ml (.slice (some ad) E0.waits.length cap5) sv by rw [HX.out,if_neg HS.out];exact HD3.out)
       clear hbt z0 z1 z2 z3
       go_wp2_with fail
       go_roundw
       case rel=>exact ⟨k+1,o2,by omega,by go_num,HD4.out,HS3.out⟩
       case measure=>simp [intOf];omega
     ·have hkI:¬(k:Int)<(keep.length:Int):=by omega
      have HS:=Lib.hid (show ¬stayB keep k=true by unfold stayB;simp [hkk])
      have HD4:=Lib.hid (show DiskIn o2 c W p (E0.cutN keep (k+1)) mn ml (.slice (some ad) E0.waits.length cap5) sv by rw [HX.out,if_neg HS.out];exact HD3.out)
      clear z0 z1 z2 z3
      go_wp2_with fail
      go_roundw
      case rel=>exact ⟨k+1,o2,by omega,by go_num,HD4.out,HS3.out⟩
      case measure=>simp [intOf];omega
    ·have hltI:¬(k:Int)<(N:Int):=by omega
     obtain rfl:k=N:=by omega
     have HC2:=Lib.hid (show D.cut keep=(k,(E0.cutN keep k).off) by rw [HC.out,HN.out])
     have hwk:=cutN_waits E0 keep k
     generalize E0.cutN keep k=E1 at HDr HC2 hwk
     rw [HN.out] at HDr
     have hmm := @run_makeMap Tryz.prog
     obtain ⟨o3,h03,hs3⟩:=alloc_as o2 wr (.map #[] 0) (c+1)
     have hd3:=HDr.out.step hs3 (fun _ _ _=>id)
     have hm3:MapR o3 (c+1) (wr.alloc (.map #[] 0)) wr.heap.size (fun _=>none):=MapR.newAs o3 wr (c+1) h03
     have x1:(wr.alloc (.map #[] 0)).cell? ⟨p,1,none⟩=some (.bool E1.on):=hd3.blk.cell 1
     have x3:(wr.alloc (.map #[] 0)).cell? ⟨p,3,none⟩=some (.map (some mn)):=hd3.blk.cell 3
     have f1:=hd3.blk.frozen 1
     have f3:=hd3.blk.frozen 3
     go_upto_region 12 with (fail)
     have hs4:Step o3 (only c) (wr.alloc (.map #[] 0)) o3 (((wr.alloc (.map #[] 0)).setCell ⟨p,1,none⟩ (.bool false)).setCell ⟨p,3,none⟩ (.map (some wr.heap.size))):=((Step.refl o3 (only c) _).setCell (p:=⟨p,1,none⟩) hd3.col _).setCell (p:=⟨p,3,none⟩) hd3.col _
     have HD4:=Lib.hid (show DiskIn o3 c (((wr.alloc (.map #[] 0)).setCell ⟨p,1,none⟩ (.bool false)).setCell ⟨p,3,none⟩ (.map (some wr.heap.size))) p (E1.part (fun _=>true)) wr.heap.size ml (.slice A5 k cap5) sv from
      ⟨(hd3.blk.set_ 1 _).set_ 3 _,hd3.col,hm3.step hs4 (by unfold only;omega),hd3.lasts.step hs4 (by unfold only;omega),hd3.waits.step hs4 (by unfold only;omega),hd3.stays.step hs4 (by unfold only;omega)⟩)
     have HS4:=Lib.hid ((HSr.out.trans (hs3.mono (fun _ h=>h.elim))).trans (hs4.mono (fun y hy=>by unfold only at hy;unfold cutC;omega:∀y,only c y→cutC c y)))
     clear hs3 hs4 hd3 hm3 x1 x3 f1 f3 hmm h03
     generalize ((wr.alloc (.map #[] 0)).setCell ⟨p,1,none⟩ (.bool false)).setCell ⟨p,3,none⟩ (.map (some wr.heap.size))=W4 at HD4 HS4 ⊢
     generalize wr.heap.size=M at HD4 ⊢
     obtain ⟨ob,n0,o5,hrng,hit,hs5⟩:=IterR.start (P:=Tryz.prog) HD4.out.lasts Tryz.underlying99 (c+5)
     have HIT:=Lib.hid hit
     have HD5:=Lib.hid (HD4.out.step hs5 (fun _ _ _=>id))
     have HS5:=Lib.hid (HS4.out.trans (hs5.mono (fun _ h=>h.elim)))
     have c4:W4.cell? ⟨p,4,none⟩=some (.map (some ml)):=HD4.out.blk.cell 4
     clear hit hs5
     go_wp2_with fail
     generalize W4.alloc ob=W5 at HIT HD5 HS5 hrng ⊢
     generalize W4.heap.size=R at HIT hrng ⊢
     clear c4 hrng
     go_loopg [8] n0 (fun n _ w5=>∃(left:Int→Bool) (o6:Nat→Nat),DiskIn o6 c w5 p (E1.part left) M ml (.slice A5 k cap5) sv∧IterR o6 (c+5) w5 R ml (fun j=>(E1.lasts j).map Ws.agg) left n∧Step o (cutC c) w o6 w5)
     case atStart=>exact ⟨_,o5,HD5.out,HIT.out,HS5.out⟩
     case round =>
      obtain ⟨left,o6,hd,hit,hs⟩:=hrel
      have HDr:=Lib.hid hd
      have HSr2:=Lib.hid hs
      have HIr:=Lib.hid hit
      clear hd hs hit HD5 HS5 HIT
      rcases HIr.out.next (P:=Tryz.prog) with ⟨hdone,hrun⟩ | ⟨q,v,w5,n1,hfk,hlk,hrun,hit5,hlt5,hs5,hent⟩
      ·have HE:=Lib.hid (part_end (E:=E1) (left:=left) hdone)
       have y5:wr.cell? ⟨p,5,none⟩=some (.slice A5 k cap5):=HDr.out.blk.cell 5
       have f5:=HDr.out.blk.frozen 5
       have hs6:Step o6 (only c) wr o6 (wr.setCell ⟨p,5,none⟩ (.slice none 0 0)):=(Step.refl o6 (only c) _).setCell (p:=⟨p,5,none⟩) HDr.out.col _
       have HD6:=Lib.hid (show DiskIn o6 c (wr.setCell ⟨p,5,none⟩ (.slice none 0 0)) p E1.off M ml (.slice none 0 0) sv by
        rw [←HE.out]
        exact ⟨HDr.out.blk.set_ 5 _,HDr.out.col,HDr.out.now.step hs6 (by unfold only;omega),HDr.out.lasts.step hs6 (by unfold only;omega),OwnW.nil _ _ _ _ _,HDr.out.stays.step hs6 (by unfold only;omega)⟩)
       have HS6:=Lib.hid (HSr2.out.trans (hs6.mono (fun y hy=>by unfold only at hy;unfold cutC;omega:∀y,only c y→cutC c y)))
       clear hs6 hdone
       go_wp2_with fail
       go_ret
       rw [HC2.out]
       exact ⟨rfl,o6,⟨M,ml,_,sv,HD6.out⟩,HS6.out⟩
      ·obtain ⟨x,hx,rfl⟩:∃x,E1.lasts q=some x∧v=x.agg:=by
        cases hl:E1.lasts q with
        | none=>simp [hl] at hfk
        | some x=>simp [hl] at hfk;exact ⟨x,rfl,hfk.symm⟩
       unfold Ws.agg at hrun hent
       have HPN:=Lib.hid (part_next (left:=left) hx)
       have hd5:=HDr.out.step hs5 (fun y h1 h2=>by unfold only;omega)
       obtain ⟨o7,h07,hs7⟩:=alloc_as o6 w5 (.cells #[.int .i64 x.node, .int .i64 x.at_, .int .i64 x.seq, .string x.data] 262) 0
       have hd7:=hd5.step hs7 (fun _ _ _=>id)
       have HI7:=Lib.hid (hit5.step hs7 id id)
       have HS7:=Lib.hid ((HSr2.out.trans (hs5.mono (fun y hy=>by unfold only at hy;unfold cutC;omega:∀y,only (c+5) y→cutC c y))).trans (hs7.mono (fun _ h=>h.elim)))
       have hb7:=Blk.new w5 262 #[.int .i64 x.node, .int .i64 x.at_, .int .i64 x.seq, .string x.data]
       obtain ⟨w8,hupd,hd8,hs8,hbk8⟩:=hd7.drew.now_put q x.data
       rw [HPN.out] at hd8
       have x8:=hbk8 _ _ _ hb7
       have c3:(w5.alloc (.cells #[.int .i64 x.node, .int .i64 x.at_, .int .i64 x.seq, .string x.data] 262)).cell? ⟨p,3,none⟩=some (.map (some M)):=hd7.blk.cell 3
       have z3:w8.cell? ⟨p,3,none⟩=some (.map (some M)):=hd8.blk.cell 3
       have b3:(w5.alloc (.cells #[.int .i64 x.node, .int .i64 x.at_, .int .i64 x.seq, .string x.data] 262)).cell? ⟨w5.heap.size,3,none⟩=some (.string x.data):=hb7.cell 3
       have e3:w8.cell? ⟨w5.heap.size,3,none⟩=some (.string x.data):=x8.cell 3
       have HD8:=Lib.hid hd8
       have HI8:=Lib.hid (HI7.out.step (Step.of_drew hs8) (by unfold only;omega) (by rw [hd7.lasts.1];unfold only;omega))
       have HS8:=Lib.hid (HS7.out.trans ((Step.of_drew hs8).mono (fun y hy=>by unfold only at hy;unfold cutC;omega:∀y,only (c+1) y→cutC c y)))
       clear hd5 hs7 hd7 hb7 hd8 hs8 hbk8 x8 hs5 hit5 h07 hx hfk hlk
       go_upto_region 15 with (fail)
       go_region_held3 (fun w'=>w'.cell? ⟨p,3,none⟩=some (.map (some M))∧w'.cell? ⟨w5.heap.size,3,none⟩=some (.string x.data))
        (first | exact ⟨c3,b3⟩ | exact ⟨z3,e3⟩ | go_keep)
        (fail)
       clear hupd c3 z3 b3 e3 hrun hent
       go_wp2_with fail
       go_roundg n1
       case measure=>omega
       case rel=>exact ⟨_,o7,HD8.out,HI8.out,HS8.out⟩
theorem cutC_six (c:Nat):∀x,cutC c x→six c x:=by unfold cutC six;omega
def Dk.goes (D:Dk):Bool×Dk:=if D.armed=false then (false,D) else if 0<D.left then (false,{D with left:=wrap64 (D.left - 1)}) else (true,(D.cut D.stays).2)
theorem goes_calm {D:Dk} (h:D.armed=false):D.goes=(false,D):=if_pos h
set_option maxRecDepth 100000 in
set_option maxHeartbeats 2000000 in
theorem dgoes_any {o:Nat→Nat} {c p:Nat} {w:World} {D:Dk} (h:DiskAt o c w p D):Calls Tryz.prog 108 #[.pointer (some ⟨p,0,none⟩)] w fun e w'=>e = .returned (.bool D.goes.1)∧∃o',DiskAt o' c w' p D.goes.2∧Step o (six c) w o' w':=by
 obtain ⟨mn,ml,wv,sv,h1⟩:=h
 obtain ⟨b,hb⟩:∃b,D.armed=b:=⟨_,rfl⟩
 have c1:w.cell? ⟨p,41,none⟩=some (.bool D.armed):=h1.blk.cell 41
 have c2:w.cell? ⟨p,42,none⟩=some (.int .i64 D.left):=h1.blk.cell 42
 have f2:=h1.blk.frozen 42
 rw [hb] at c1
 have H:=Lib.hid h1
 cases b with
 | false =>
   have HG:=Lib.hid (goes_calm hb)
   clear h1 hb
   go_enter Tryz.func108,Tryz.ntmps108
   go_wp2_with fail
   go_ret
   rw [HG.out]
   exact ⟨rfl,o,⟨mn,ml,wv,sv,H.out⟩,Step.refl _ _ _⟩
 | true =>
   by_cases hl:0<D.left
   ·have HG:=Lib.hid (show D.goes=(false,{D with left:=wrap64 (D.left - 1)}) by unfold Dk.goes;rw [if_neg (by rw [hb];decide),if_pos hl])
    obtain ⟨h2,h3⟩:=h1.set_ (D2 := {D with left:=wrap64 (D.left - 1)}) 42 (.int .i64 (wrap64 (D.left - 1))) rfl rfl rfl rfl rfl
    have HF:=Lib.hid (show DiskAt o c (w.setCell ⟨p,42,none⟩ (.int .i64 (wrap64 (D.left - 1)))) p {D with left:=wrap64 (D.left - 1)}∧Step o (six c) w o (w.setCell ⟨p,42,none⟩ (.int .i64 (wrap64 (D.left - 1)))) from ⟨⟨mn,ml,wv,sv,h2⟩,h3.mono (only_six c)⟩)
    clear h1 hb h2 h3
    go_enter Tryz.func108,Tryz.ntmps108
    go_wp2_with fail
    go_ret
    rw [HG.out]
    exact ⟨rfl,o,HF.out⟩
   ·have HG:=Lib.hid (show D.goes=(true,(D.cut D.stays).2) by unfold Dk.goes;rw [if_neg (by rw [hb];decide),if_neg hl])
    obtain ⟨A,cap,e,hc,hm⟩:=h1.stays.form
    have c3:w.cell? ⟨p,43,none⟩=some sv:=h1.blk.cell 43
    subst e
    have HK:=Lib.hid (show ∀o' w',Step o (cutC c) w o' w'→Reads w' 1 A D.stays.length (intcells D.stays) from fun o' w' hs=>(h1.stays.step hs (by unfold cutC;omega)).reads)
    have HM:=Lib.hid (Nat.le_trans hc hm)
    clear h1 hb hc hm
    go_enter Tryz.func108,Tryz.ntmps108
    go_wp2_with fail
    refine (dcut_any ⟨mn,ml,wv,_,H.out⟩ D.stays A cap HK.out HM.out).mono ?_
    rintro e w1 ⟨rfl,o1,hd,hs⟩
    have HF:=Lib.hid (show ∃o',DiskAt o' c w1 p (D.cut D.stays).2∧Step o (six c) w o' w1 from ⟨o1,hd,hs.mono (cutC_six c)⟩)
    clear hd hs c1 c2 c3 f2
    go_wp2_with fail
    go_ret
    rw [HG.out]
    exact ⟨rfl,HF.out⟩
end Go.Proofs.YtohgabdmmbngbaaGreatDoor
