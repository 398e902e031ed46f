import Derived.Test.YtldoeodkeieejaaGreatDoorKMadP
import Derived.Test.YtldoeodkeieejaaGreatDoorKDiskC
import Derived.Test.YtldoeodkeieejaaGreatDoorKSimR
import Derived.Test.YtldoeodkeieejaaGreatDoorKLawQ
namespace Go.Proofs.YtldoeodkeieejaaGreatDoor
open Go.RowKit
theorem info_int : (Tryz.prog.info? 3).map (fun i=>(i.zero,i.size,i.bytes))=some (some (.int .i64 0),1,8):=by kernel_rfl
theorem intcells_one (l:List Int):∀u∈intcells l,u.oneCell'=true:=by
 intro u hu
 obtain ⟨n,_,rfl⟩:=List.mem_map.1 hu
 rfl
theorem cutW_app (keep:List Int) (x:RW):∀(l:List RW) (k:Nat),cutW keep k (l ++ [x])=cutW keep k l++(if x.lasts=true then [x] else if stayB keep (k+waitsN l)=true then [{x with lasts:=true}] else [])
 | [],k=>by
   show (if x.lasts=true then x :: cutW keep k [] else if stayB keep k=true then {x with lasts:=true} :: cutW keep (k+1) [] else cutW keep (k+1) []) = []++_
   rw [show k+waitsN []=k from rfl,List.nil_append]
   rfl
 | y :: l,k=>by
   rw [List.cons_append]
   unfold cutW
   by_cases hy:y.lasts=true
   ·have e:waitsN (y :: l)=waitsN l:=by unfold waitsN;rw [List.filter_cons_of_neg (by simp [hy])]
    rw [if_pos hy,if_pos hy,cutW_app keep x l k,e,List.cons_append]
   ·have e:waitsN (y :: l)=waitsN l+1:=by unfold waitsN;rw [List.filter_cons_of_pos (by simp [hy]),List.length_cons]
    rw [if_neg hy,if_neg hy,cutW_app keep x l (k+1),e,show k+1+waitsN l=k+(waitsN l+1) by omega]
    split
    ·rw [List.cons_append]
    ·rfl
theorem waitsN_app (l:List RW) (x:RW):waitsN (l ++ [x])=waitsN l+(if x.lasts=true then 0 else 1):=by
 unfold waitsN
 rw [List.filter_append,List.length_append]
 cases h:x.lasts <;> simp [h]
theorem waitsN_le (l:List RW):waitsN l≤l.length:=List.length_filter_le _ _
theorem rwtake (l:List RW) {i:Nat} {x:RW} (h:l[i]? = some x):l.take (i+1)=l.take i ++ [x]:=by rw [List.take_add_one,h];rfl
def cutF (c:Nat):Nat→Prop:=fun x=>x=c∨x=c+1∨x=c+3
theorem logL_cutF (c:Nat):∀x,logL c x→cutF c x:=by unfold logL cutF;omega
structure GrowF (o o':Nat→Nat) (c:Nat) (w wr:World) (p:Nat) (R:RF) (kv V:Value) (l:List RW):Prop where
 disk:RefIn o' c wr p R kv
 own:OwnS o' (c+3) wr 142 4 V l.length (rwcells l)
 new:∀g,V.ownBlock=some g→w.heap.size≤g
 step:Step o (only (c+3)) w o' wr
section
variable {o o' o2:Nat→Nat} {c p:Nat} {C:Nat→Prop} {w wr w' w2:World} {R R2:RF} {kv V V2:Value} {l:List RW} {x:RW}
theorem GrowF.start (h:RefIn o c w p R kv):GrowF o o c w w p R kv (.slice none 0 0) []:=⟨h,OwnS.nil _ _ _ _ _,by simp [Value.ownBlock],Step.refl _ _ _⟩
theorem GrowF.below_ (h:GrowF o o' c w wr p R kv V l) (hb:Below wr.heap.size wr w'):GrowF o o' c w w' p R kv V l:=⟨h.disk.below_ hb,h.own.below_ hb,h.new,h.step.trans (Step.of_below o' _ hb)⟩
theorem GrowF.alloc (h:GrowF o o' c w wr p R kv V l) (y:Obj):GrowF o o' c w (wr.alloc y) p R kv V l:=h.below_ ((Below.refl _ _).alloc (Nat.le_refl _) y)
theorem GrowF.more {m:Nat} (h:GrowF o o' c w wr p R kv V l) (hm:l.length=m) (ho:OwnS o2 (c+3) w2 142 4 V2 (m+1) (rwcells l++x.cells)) (hs:Step o' (only (c+3)) wr o2 w2) (hat:V2.ownBlock=V.ownBlock∨V2.ownBlock=some wr.heap.size):GrowF o o2 c w w2 p R kv V2 (l ++ [x]):=by
 subst hm
 refine ⟨h.disk.step hs (by unfold only;omega) (by unfold only;omega),?_,fun g hg => ?_,h.step.trans hs⟩
 ·rw [rwcells_app,List.length_append,show rwcells [x]=x.cells from by simp [rwcells]]
  exact ho
 ·rcases hat with e | e
  ·exact h.new g (e▸hg)
  ·rw [e] at hg
   injection hg with hg
   have:=h.step.size
   omega
theorem GrowF.done (h:GrowF o o' c w wr p R kv V l) (hb:Blk w2 p 111 (R2.cells V kv)) (hl:R2.ws=l) (hs:Step o' (only c) wr o' w2) (hsz:w2.heap.size=wr.heap.size):∃o3,RefIn o3 c w2 p R2 kv∧Step o (cutF c) w o3 w2:=by
 obtain ⟨lv,hb0,hc,_⟩:=h.disk
 have hne:∀k,o' k≠c+3→(if V.ownBlock=some k then c+1 else o' k)=o' k:=fun k hk=>if_neg (fun e=>hk (h.own.2 k e))
 refine ⟨fun k=>if V.ownBlock=some k then c+1 else o' k,⟨V,hb,(hne p (by rw [hc];omega)).trans hc,?_⟩,?_⟩
 ·have h1:=h.own.step hs (by unfold only;omega)
  rw [hl]
  exact ⟨h1.1,fun g hg=>if_pos hg⟩
 ·have h2:=(h.step.mono (fun y hy=>by unfold only at hy;unfold cutF;omega:∀y,only (c+3) y→cutF c y)).trans (hs.mono (fun y hy=>by unfold only at hy;unfold cutF;omega:∀y,only c y→cutF c y))
  refine ⟨h2.os,h2.tape,h2.output,h2.size,fun k hk => ?_,fun k hk => ?_,h2.block⟩
  ·refine Eq.trans (if_neg (fun e => ?_)) (h2.old k hk)
   have:=h.new k e
   omega
  ·refine Eq.trans (if_neg (fun e => ?_)) (h2.fut k hk)
   have h3:=h.own.lt k e
   omega
theorem GrowF.idle (h:GrowF o o' c w wr p R kv V l) (hs:Step o' (fun _=>False) wr o2 w'):GrowF o o2 c w w' p R kv V l :=
 ⟨h.disk.step hs id id,h.own.step hs id,h.new,h.step.trans (hs.mono (fun _ h=>h.elim))⟩
theorem arm_done {lv v:Value} {n:Int} {keep:List Int} {bb:Bool} (hb:Blk wr p 111 (R.cells lv kv)) (hc:o' p=c) (ho:OwnS o' (c+1) wr 142 4 lv R.ws.length (rwcells R.ws)) (hv:OwnS o' (c+2) wr 3 1 v keep.length (intcells keep)) (hbb:decide (0≤n)=bb) :
 RFAt o' c (((wr.setCell ⟨p,38,none⟩ (.bool bb)).setCell ⟨p,39,none⟩ (.int .i64 n)).setCell ⟨p,40,none⟩ v) p (R.arm n keep)∧Step o' (three c) wr o' (((wr.setCell ⟨p,38,none⟩ (.bool bb)).setCell ⟨p,39,none⟩ (.int .i64 n)).setCell ⟨p,40,none⟩ v):=by
 subst hbb
 have hs:Step o' (only c) wr o' (((wr.setCell ⟨p,38,none⟩ (.bool (decide (0≤n)))).setCell ⟨p,39,none⟩ (.int .i64 n)).setCell ⟨p,40,none⟩ v):=(((Step.refl o' (only c) wr).setCell (p:=⟨p,38,none⟩) hc _).setCell (p:=⟨p,39,none⟩) hc _).setCell (p:=⟨p,40,none⟩) hc _
 exact ⟨⟨v,⟨lv,((hb.set_ 38 _).set_ 39 _).set_ 40 _,hc,ho.step hs (by unfold only;omega)⟩,OwnW.of_own (hv.step hs (by unfold only;omega))⟩,hs.mono (fun y hy => .inl hy)⟩
set_option maxRecDepth 100000 in
set_option maxHeartbeats 2000000 in
theorem rfarm_any (h:RFAt o c w p R) (n:Int) (keep:List Int) (A:Option Addr) (cap:Nat) (hrd:Reads w 1 A keep.length (intcells keep)) (hk:keep.length≤1000000) :
 Calls Tryz.prog 136 #[.pointer (some ⟨p,0,none⟩), .int .i64 n, .slice A keep.length cap] w fun e w'=>e = .returned (.tuple #[])∧∃o',RFAt o' c w' p (R.arm n keep)∧Step o (three c) w o' w':=by
 obtain ⟨kv,⟨lv,hb,hc,ho⟩,_⟩:=h
 obtain ⟨i0,hi,hz0,hz1,hz2⟩:=info_parts info_int
 have HB:=Lib.hid hb
 have HC:=Lib.hid hc
 have HO:=Lib.hid ho
 have HR:=Lib.hid hrd
 clear hb hc ho hrd
 by_cases hn:0≤n
 ·have HN:=Lib.hid (show decide (0≤n)=true from decide_eq_true hn)
  go_enter Tryz.func136,Tryz.ntmps136
  go_wp2_with (at_builtin;refine wpList_append_S _ rfl (.const (.slice none 0 0)) (.tmp 12) 41 rfl 3 i0 _ 1 8 Tryz.underlying41 hi hz0 hz1 hz2 rfl (by omega) (.slice none 0 0) 0 [] rfl (OwnS.nil o (c+2) _ _ _) A keep.length cap (intcells keep) rfl HR.out (intcells_one keep) (by unfold maxLen;omega) (by omega) ?_;intro v7 w7 hown7 hst7 hgr7 hat7;simp only [Nat.zero_add,List.nil_append] at hown7;obtain ⟨A7,cap7,rfl,hq1,hq2⟩:=own_form' hown7;have hb7:=HB.out.step hst7 (by rw [HC.out];unfold only;omega);have y1:w7.cell? ⟨p,38,none⟩=some (.bool R.armed):=hb7.cell 38;have y2:w7.cell? ⟨p,39,none⟩=some (.int .i64 R.left):=hb7.cell 39;have y3:w7.cell? ⟨p,40,none⟩=some kv:=hb7.cell 40;have g1:=hb7.frozen 38;have g2:=hb7.frozen 39;have g3:=hb7.frozen 40;have HF:=Lib.hid (arm_done hb7 ((hst7.old p HB.out.lt).trans HC.out) (HO.out.step hst7 (by unfold only;omega)) hown7 HN.out);have HS7:=Lib.hid (hst7.mono (fun y hy => .inr (.inr hy):∀y,only (c+2) y→three c y));clear hown7 hst7 hgr7 hat7 hb7)
  go_end0
  exact ⟨rfl,_,HF.out.1,HS7.out.trans HF.out.2⟩
 ·have HN:=Lib.hid (show decide (0≤n)=false from decide_eq_false hn)
  go_enter Tryz.func136,Tryz.ntmps136
  go_wp2_with (at_builtin;refine wpList_append_S _ rfl (.const (.slice none 0 0)) (.tmp 12) 41 rfl 3 i0 _ 1 8 Tryz.underlying41 hi hz0 hz1 hz2 rfl (by omega) (.slice none 0 0) 0 [] rfl (OwnS.nil o (c+2) _ _ _) A keep.length cap (intcells keep) rfl HR.out (intcells_one keep) (by unfold maxLen;omega) (by omega) ?_;intro v7 w7 hown7 hst7 hgr7 hat7;simp only [Nat.zero_add,List.nil_append] at hown7;obtain ⟨A7,cap7,rfl,hq1,hq2⟩:=own_form' hown7;have hb7:=HB.out.step hst7 (by rw [HC.out];unfold only;omega);have y1:w7.cell? ⟨p,38,none⟩=some (.bool R.armed):=hb7.cell 38;have y2:w7.cell? ⟨p,39,none⟩=some (.int .i64 R.left):=hb7.cell 39;have y3:w7.cell? ⟨p,40,none⟩=some kv:=hb7.cell 40;have g1:=hb7.frozen 38;have g2:=hb7.frozen 39;have g3:=hb7.frozen 40;have HF:=Lib.hid (arm_done hb7 ((hst7.old p HB.out.lt).trans HC.out) (HO.out.step hst7 (by unfold only;omega)) hown7 HN.out);have HS7:=Lib.hid (hst7.mono (fun y hy => .inr (.inr hy):∀y,only (c+2) y→three c y));clear hown7 hst7 hgr7 hat7 hb7)
  go_end0
  exact ⟨rfl,_,HF.out.1,HS7.out.trans HF.out.2⟩
set_option maxRecDepth 100000 in
set_option maxHeartbeats 4000000 in
theorem rfcut_any (h:RefIn o c w p R kv) (keep:List Int) (A:Option Addr) (cap:Nat) (hkr:∀(o':Nat→Nat) (w':World),Step o (only (c+3)) w o' w'→Reads w' 1 A keep.length (intcells keep)) (hk:keep.length≤1000000) (hl:R.ws.length≤100000) :
 Calls Tryz.prog 133 #[.pointer (some ⟨p,0,none⟩), .slice A keep.length cap] w fun e w'=>e = .returned (.int .i64 (R.cut keep).1)∧∃o',RefIn o' c w' p (R.cut keep).2 kv∧Step o (cutF c) w o' w':=by
 obtain ⟨A1,cap1,HB,HC,HO,x1,f1,hcap,hcm⟩:=h.row
 obtain ⟨i0,hi,hz0,hz1,hz2⟩:=info_parts info_rw
 have x2:w.cell? ⟨p,2,none⟩=some (.bool R.off):=HB.out.cell 2
 have x38:w.cell? ⟨p,38,none⟩=some (.bool R.armed):=HB.out.cell 38
 have f38:=HB.out.frozen 38
 have H0:=Lib.hid (GrowF.start h)
 have HK:=Lib.hid hkr
 have HKL:=Lib.hid hk
 have HL:=Lib.hid hl
 obtain ⟨b,hb⟩:∃b,R.off=b:=⟨_,rfl⟩
 rw [hb] at x2
 clear h hkr hk hl hcap hcm
 cases b with
 | true =>
   rw [show R.cut keep=(0,{R with armed:=false}) from if_pos hb]
   clear hb
   have HF:=Lib.hid (show ∃o',RefIn o' c (w.setCell ⟨p,38,none⟩ (.bool false)) p {R with armed:=false} kv∧Step o (cutF c) w o' (w.setCell ⟨p,38,none⟩ (.bool false)) from
    ⟨o,⟨_,HB.out.set_ 38 (.bool false),HC.out,HO.out.setCell (p:=⟨p,38,none⟩) (own_blk_ne HO.out HB.out (by decide)) _⟩,(Step.refl o (cutF c) w).setCell (p:=⟨p,38,none⟩) (.inl HC.out) _⟩)
   go_enter Tryz.func133,Tryz.ntmps133
   go_wp2_with fail
   go_ret
   exact ⟨rfl,HF.out⟩
 | false =>
   rw [show R.cut keep=(waitsN R.ws,{R with ws:=cutW keep 0 R.ws,off:=true,armed:=false}) from if_neg (by rw [hb];decide)]
   clear x38 f38 HB HC HO x1 f1 hb
   have hLI:(R.ws.length:Int)≤100000:=by have:=HL.out;omega
   go_enter Tryz.func133,Tryz.ntmps133
   go_wp2_with fail
   clear x2
   go_loopg [5,6,7,8,9] R.ws.length (fun n t5 t6 t7 _ _ wr=>∃(i m:Nat) (A5:Option Addr) (cap5:Nat) (o1:Nat→Nat),n+i=R.ws.length∧m≤i∧t5 = .slice A5 m cap5∧t6 = .int .i64 (waitsN (R.ws.take i):Nat)∧t7 = .int .i64 (i:Nat)∧(cutW keep 0 (R.ws.take i)).length=m∧GrowF o o1 c w wr p R kv (.slice A5 m cap5) (cutW keep 0 (R.ws.take i)))
   case atStart=>exact ⟨0,0,none,0,o,by omega,Nat.le_refl _,rfl,rfl,rfl,rfl,H0.out⟩
   case round =>
    obtain ⟨i,m,A5,cap5,o1,hni,hmi,rfl,rfl,rfl,hml,hg⟩:=hrel
    have HNI:=Lib.hid hni
    have HMI:=Lib.hid hmi
    have HML:=Lib.hid hml
    have HG:=Lib.hid hg
    clear hni hmi hml hg H0
    obtain ⟨A9,cap9,HB9,HC9,HO9,y1,g1,hcap9,hcm9⟩:=HG.out.disk.row
    have hcm9':cap9≤9223372036854775807:=by unfold maxLen at hcm9;omega
    clear hcm9
    by_cases hlt:i<R.ws.length
    ·have hltI:(i:Int)<(R.ws.length:Int):=by omega
     obtain ⟨x,hx⟩:∃x,R.ws[i]? = some x:=⟨_,List.getElem?_eq_getElem hlt⟩
     obtain ⟨ad,rfl,v0,v1,v2,v3⟩:=(Reads.of_own HO9.out.1).rwrow hx
     have HTK:=Lib.hid (rwtake R.ws hx)
     clear hx
     have HB:=Lib.hid (Blk.new wr 142 #[.int .i64 x.node, .int .i64 x.at_, .string x.data, .bool x.lasts])
     have hsa:Step o1 (fun _=>False) wr o1 (wr.alloc (.cells #[.int .i64 x.node, .int .i64 x.at_, .string x.data, .bool x.lasts] 142)):=(Step.refl o1 _ wr).alloc _
     have HGA:=Lib.hid (HG.out.idle hsa)
     have HSB:=Lib.hid (fun (u:Value)=>hsa.setNew (p:=⟨wr.heap.size,3,none⟩) (Nat.le_refl _) u)
     have HS3:=Lib.hid ((HG.out.step).trans (hsa.mono (fun _ h=>h.elim:∀x,False→only (c+3) x)))
     have hmx:m≤100000:=by have:=HMI.out;have:=HL.out;omega
     have HMX:=Lib.hid hmx
     clear hsa
     go_upto_region 10 with (fail)
     generalize wr.alloc (.cells #[.int .i64 x.node, .int .i64 x.at_, .string x.data, .bool x.lasts] 142)=W at HB HGA HSB HS3 ⊢
     generalize wr.heap.size=X at HB HSB ⊢
     clear v0 v1 v2 v3 y1 g1
     have z0:W.cell? ⟨X,0,none⟩=some (.int .i64 x.node):=HB.out.cell 0
     have z1:W.cell? ⟨X,1,none⟩=some (.int .i64 x.at_):=HB.out.cell 1
     have z2:W.cell? ⟨X,2,none⟩=some (.string x.data):=HB.out.cell 2
     have z3:W.cell? ⟨X,3,none⟩=some (.bool x.lasts):=HB.out.cell 3
     have f3:W.frozen? ⟨X,3,none⟩=false:=HB.out.frozen 3
     obtain ⟨xn,xa,xd,xl⟩:=x
     simp only at z0 z1 z2 z3 HTK
     have hkn:waitsN (R.ws.take i)≤i:=Nat.le_trans (waitsN_le _) (by rw [List.length_take];omega)
     obtain ⟨kk,hkk⟩:∃kk,waitsN (R.ws.take i)=kk:=⟨_,rfl⟩
     rw [hkk] at hkn ⊢
     have HKK:=Lib.hid hkk
     have hknI:(kk:Int)≤100000:=by omega
     have hkw:IntKind.i64.wrap ((kk:Int)+1)=((kk+1:Nat):Int):=by rw [IntWalk.i64_in _ (by omega)];omega
     clear hkk
     cases xl with
     | true =>
       have HCW:=Lib.hid (show cutW keep 0 (R.ws.take (i+1))=cutW keep 0 (R.ws.take i) ++ [⟨xn,xa,xd,true⟩]∧waitsN (R.ws.take (i+1))=kk from by
        rw [HTK.out,cutW_app,waitsN_app,HKK.out]
        exact ⟨rfl,rfl⟩)
       clear hkw
       have HG4:=Lib.hid ((HG.out.idle (HSB.out (.bool true))).alloc (.cells #[.int .i64 xn, .int .i64 xa, .string xd, .bool true] 142))
       have HO4:=Lib.hid (show OwnS o1 (c+3) ((W.setCell ⟨X,3,none⟩ (.bool true)).alloc (.cells #[.int .i64 xn, .int .i64 xa, .string xd, .bool true] 142)) 142 4 (.slice A5 m cap5) m (rwcells (cutW keep 0 (R.ws.take i))) from by
        have h4:=HG4.out.own
        rw [HML.out] at h4
        exact h4)
       go_wp2_with (at_builtin;refine wpList_append_S _ rfl (.tmp 54) (.tmp 56) 109 rfl 142 i0 _ 4 40 Tryz.underlying109 hi hz0 hz1 hz2 rfl (by omega) (.slice A5 m cap5) m _ rfl HO4.out _ 1 1 [.int .i64 xn, .int .i64 xa, .string xd, .bool true] rfl (Reads.newAt _ 142 4 1 _ _ _ (by simp) rfl rfl) (by simp [Value.oneCell']) (by unfold maxLen;omega) (by omega) ?_;intro v2 w2 hown hst hg hat;obtain ⟨A2,cap2,rfl,_,_⟩:=(OwnW.of_own hown).form;have HN:=Lib.hid (HG4.out.more (x:=⟨xn,xa,xd,true⟩) HML.out hown hst hat);clear hown hst hg hat)
       go_roundg (R.ws.length - (i+1))
       case measure=>have:=HNI.out;omega
       case rel=>exact ⟨i+1,m+1,A2,cap2,_,by omega,by have:=HMI.out;omega,rfl,by rw [HCW.out.2];first | done | rfl | rw [hkw],by go_num,by rw [HCW.out.1,List.length_append,HML.out];rfl,by rw [HCW.out.1];exact HN.out⟩
     | false =>
       have hcw:cutW keep 0 (R.ws.take (i+1))=cutW keep 0 (R.ws.take i)++(if stayB keep kk=true then [⟨xn,xa,xd,true⟩] else [])∧waitsN (R.ws.take (i+1))=kk+1:=by
        rw [HTK.out,cutW_app,waitsN_app,Nat.zero_add,HKK.out]
        exact ⟨rfl,rfl⟩
       by_cases hkq:kk<keep.length
       ·have hkI:(kk:Int)<(keep.length:Int):=by omega
        obtain ⟨ak,rfl,ck⟩:=(HK.out _ _ HS3.out).int hkq
        obtain ⟨bt,hbt⟩:∃bt,keep.getD kk 0=bt:=⟨_,rfl⟩
        rw [hbt] at ck
        by_cases hb1:bits BinOp.and IntKind.i64 bt 1=1
        ·have hS:stayB keep kk=true:=by unfold stayB bitI;rw [hbt,hb1];simp [hkq]
         have HCW:=Lib.hid (show cutW keep 0 (R.ws.take (i+1))=cutW keep 0 (R.ws.take i) ++ [⟨xn,xa,xd,true⟩]∧waitsN (R.ws.take (i+1))=kk+1 from by rw [hcw.1,hcw.2,if_pos hS];exact ⟨rfl,rfl⟩)
         have hbB:(bits BinOp.and IntKind.i64 bt 1 == 1)=true:=by rw [hb1];rfl
         clear hbt hcw hS
         go_upto_region 14 with (fail)
         clear ck hb1 hbB
         have HG4:=Lib.hid ((HG.out.idle (HSB.out (.bool true))).alloc (.cells #[.int .i64 xn, .int .i64 xa, .string xd, .bool true] 142))
         have HO4:=Lib.hid (show OwnS o1 (c+3) ((W.setCell ⟨X,3,none⟩ (.bool true)).alloc (.cells #[.int .i64 xn, .int .i64 xa, .string xd, .bool true] 142)) 142 4 (.slice A5 m cap5) m (rwcells (cutW keep 0 (R.ws.take i))) from by
          have h4:=HG4.out.own
          rw [HML.out] at h4
          exact h4)
         go_wp2_with (at_builtin;refine wpList_append_S _ rfl (.tmp 54) (.tmp 56) 109 rfl 142 i0 _ 4 40 Tryz.underlying109 hi hz0 hz1 hz2 rfl (by omega) (.slice A5 m cap5) m _ rfl HO4.out _ 1 1 [.int .i64 xn, .int .i64 xa, .string xd, .bool true] rfl (Reads.newAt _ 142 4 1 _ _ _ (by simp) rfl rfl) (by simp [Value.oneCell']) (by unfold maxLen;omega) (by omega) ?_;intro v2 w2 hown hst hg hat;obtain ⟨A2,cap2,rfl,_,_⟩:=(OwnW.of_own hown).form;have HN:=Lib.hid (HG4.out.more (x:=⟨xn,xa,xd,true⟩) HML.out hown hst hat);clear hown hst hg hat)
         go_roundg (R.ws.length - (i+1))
         case measure=>have:=HNI.out;omega
         case rel=>exact ⟨i+1,m+1,A2,cap2,_,by omega,by have:=HMI.out;omega,rfl,by rw [HCW.out.2];first | done | rfl | rw [hkw],by go_num,by rw [HCW.out.1,List.length_append,HML.out];rfl,by rw [HCW.out.1];exact HN.out⟩
        ·have hS:¬stayB keep kk=true:=by unfold stayB bitI;rw [hbt];simp [hb1]
         have HCW:=Lib.hid (show cutW keep 0 (R.ws.take (i+1))=cutW keep 0 (R.ws.take i)∧waitsN (R.ws.take (i+1))=kk+1 from by rw [hcw.1,hcw.2,if_neg hS,List.append_nil];exact ⟨rfl,rfl⟩)
         have hbB:(bits BinOp.and IntKind.i64 bt 1 == 1)=false:=by simp [hb1]
         clear hbt hcw hS z0 z1 z2
         go_wp2_with fail
         go_roundg (R.ws.length - (i+1))
         case measure=>have:=HNI.out;omega
         case rel=>exact ⟨i+1,m,A5,cap5,o1,by omega,by have:=HMI.out;omega,rfl,by rw [HCW.out.2];first | done | rfl | rw [hkw],by go_num,by rw [HCW.out.1];exact HML.out,by rw [HCW.out.1];exact HGA.out⟩
       ·have hkI:¬(kk:Int)<(keep.length:Int):=by omega
        have hS:¬stayB keep kk=true:=by unfold stayB;simp [hkq]
        have HCW:=Lib.hid (show cutW keep 0 (R.ws.take (i+1))=cutW keep 0 (R.ws.take i)∧waitsN (R.ws.take (i+1))=kk+1 from by rw [hcw.1,hcw.2,if_neg hS,List.append_nil];exact ⟨rfl,rfl⟩)
        clear hcw hS z0 z1 z2
        go_wp2_with fail
        go_roundg (R.ws.length - (i+1))
        case measure=>have:=HNI.out;omega
        case rel=>exact ⟨i+1,m,A5,cap5,o1,by omega,by have:=HMI.out;omega,rfl,by rw [HCW.out.2];first | done | rfl | rw [hkw],by go_num,by rw [HCW.out.1];exact HML.out,by rw [HCW.out.1];exact HGA.out⟩
    ·have hltI:¬(i:Int)<(R.ws.length:Int):=by omega
     obtain rfl:i=R.ws.length:=by have:=HNI.out;omega
     rw [List.take_length] at HML HG ⊢
     have y2:wr.cell? ⟨p,2,none⟩=some (.bool R.off):=HB9.out.cell 2
     have y38:wr.cell? ⟨p,38,none⟩=some (.bool R.armed):=HB9.out.cell 38
     have g2:=HB9.out.frozen 2
     have g38:=HB9.out.frozen 38
     have HF:=Lib.hid (HG.out.done (R2 := {R with ws:=cutW keep 0 R.ws,off:=true,armed:=false}) (((HB9.out.set_ 1 (.slice A5 m cap5)).set_ 2 (.bool true)).set_ 38 (.bool false)) rfl ((((Step.refl o1 (only c) wr).setCell (p:=⟨p,1,none⟩) HC9.out _).setCell (p:=⟨p,2,none⟩) HC9.out _).setCell (p:=⟨p,38,none⟩) HC9.out _) (by simp [World.setCell]))
     go_wp2_with fail
     go_ret
     exact ⟨rfl,HF.out⟩
end
theorem own_none {o oL:Nat→Nat} {d size n:Nat} {w w':World} {e:TypeId} {v:Value} {xs:List Value} (hf:Fut o w) (he:Env oL w w') (h:OwnS oL d w' e size v n xs) (hd:d≠0):OwnS o 0 w' e size v n xs :=
 ⟨h.1,fun g hg=>hf g (by
  rcases Nat.lt_or_ge g w.heap.size with hlt | hge
  ·exact absurd ((h.2 g hg).symm.trans (he.old g hlt)) hd
  ·exact hge)⟩
section
variable {D:Dk}
theorem arrL_some {i:Nat} {x:Im} (h:D.load i=(x,0)) (hv:0<x.ver):D.arrL (i+1)=D.arrL i ++ [x]:=by
 unfold Dk.arrL
 rw [List.range_succ,List.filterMap_append]
 have e:D.arrI i=some x:=by
  unfold Dk.arrI
  rw [h,if_pos ⟨rfl,hv⟩]
 simp [e]
theorem arrL_none {i:Nat} (h:¬((D.load i).2=0∧0<(D.load i).1.ver)):D.arrL (i+1)=D.arrL i:=by
 unfold Dk.arrL
 rw [List.range_succ,List.filterMap_append]
 have e:D.arrI i=none:=if_neg h
 simp [e]
theorem arrB_some {i:Nat} (h:(D.load i).2≠0):D.arrB (i+1)=D.arrB i ++ [(i:Int)]:=by
 unfold Dk.arrB
 rw [List.range_succ,List.filter_append,List.map_append]
 simp [h]
theorem arrB_none {i:Nat} (h:(D.load i).2=0):D.arrB (i+1)=D.arrB i:=by
 unfold Dk.arrB
 rw [List.range_succ,List.filter_append,List.map_append]
 simp [h]
theorem arrL_len : ∀i:Nat,(D.arrL i).length≤i
 | 0=>Nat.le_refl _
 | i+1=>by
   have:=arrL_len i
   unfold Dk.arrL at this ⊢
   refine Nat.le_trans (List.length_filterMap_le _ _) ?_
   rw [List.length_range]
   exact Nat.le_refl _
theorem arrB_len (i:Nat):(D.arrB i).length≤i:=by
 unfold Dk.arrB
 rw [List.length_map]
 refine Nat.le_trans (List.length_filter_le _ _) ?_
 rw [List.length_range]
 exact Nat.le_refl _
end
def ArrPost (o:Nat→Nat) (w:World) (D:Dk) (e:Ending) (w':World):Prop :=
 ∃A cap B cb,e = .returned (.tuple #[.slice A (D.arrL 10).length cap, .slice B (D.arrB 10).length cb])∧OwnS o 0 w' 47 3 (.slice A (D.arrL 10).length cap) (D.arrL 10).length (imcells (D.arrL 10))∧OwnS o 0 w' 3 1 (.slice B (D.arrB 10).length cb) (D.arrB 10).length (intcells (D.arrB 10))∧Below w.heap.size w w'
theorem intcells_app (l m:List Int):intcells (l++m)=intcells l++intcells m:=by simp [intcells]
section
variable {o:Nat→Nat} {c p k:Nat} {w:World} {D:Dk}
set_option maxRecDepth 100000 in
set_option maxHeartbeats 4000000 in
theorem aarray_any (hd:DiskAt o c w p D) (ht:Tame D k) (hf:Fut o w) :
 Calls Tryz.prog 11 #[.pointer (some ⟨p,0,none⟩), .agg #[.int .i64 2, .int .i64 10, .int .i64 8, .int .i64 4, .int .i64 32]] w (ArrPost o w D):=by
 obtain ⟨i0,hi,hz0,hz1,hz2⟩:=info_parts info_im
 obtain ⟨j0,hj,hy0,hy1,hy2⟩:=info_parts info_int
 have HD:=Lib.hid hd
 have HT:=Lib.hid ht
 have HF:=Lib.hid hf
 have hf0:Fut (fun _=>0) w:=fun _ _=>rfl
 have HX0:=Lib.hid (Keep.new hf0 30 #[.int .i64 2, .int .i64 10, .int .i64 8, .int .i64 4, .int .i64 32])
 have HE0:=Lib.hid ((Env.start w).alloc (.cells #[.int .i64 2, .int .i64 10, .int .i64 8, .int .i64 4, .int .i64 32] 30))
 have HU0:=Lib.hid (hf0.alloc (.cells #[.int .i64 2, .int .i64 10, .int .i64 8, .int .i64 4, .int .i64 32] 30))
 clear hd ht hf hf0
 go_enter Tryz.func11,Tryz.ntmps11
 go_upto_region 3 with (fail)
 generalize w.alloc (.cells #[.int .i64 2, .int .i64 10, .int .i64 8, .int .i64 4, .int .i64 32] 30)=W1 at HX0 HE0 HU0 ⊢
 generalize w.heap.size=X at HX0 ⊢
 obtain ⟨x0,x1,x2,x3,x4⟩:=HX0.out.1.five
 go_wp2_with fail
 clear x0 x1 x2 x3 x4
 go_loopg [6,7,16] 10 (fun n t6 t7 t16 wr=>∃(i:Nat) (A:Option Addr) (cap:Nat) (B:Option Addr) (cb:Nat) (oL:Nat→Nat),n+i=10∧t16 = .int .i64 (i:Nat)∧t6 = .slice A (D.arrL i).length cap∧t7 = .slice B (D.arrB i).length cb∧OwnS oL 1 wr 47 3 (.slice A (D.arrL i).length cap) (D.arrL i).length (imcells (D.arrL i))∧OwnS oL 2 wr 3 1 (.slice B (D.arrB i).length cb) (D.arrB i).length (intcells (D.arrB i))∧Keep oL wr X 30 #[.int .i64 2, .int .i64 10, .int .i64 8, .int .i64 4, .int .i64 32]∧Env oL w wr∧Fut oL wr)
 case atStart=>exact ⟨0,none,0,none,0,fun _=>0,by omega,rfl,rfl,rfl,OwnS.nil _ _ _ _ _,OwnS.nil _ _ _ _ _,HX0.out,HE0.out,HU0.out⟩
 case round =>
  obtain ⟨i,A,cap,B,cb,oL,hni,rfl,rfl,rfl,ha,hb,hx,he,hu⟩:=hrel
  have HNI:=Lib.hid hni
  have HA:=Lib.hid ha
  have HB:=Lib.hid hb
  have HX:=Lib.hid hx
  have HE:=Lib.hid he
  have HU:=Lib.hid hu
  have HLA:=Lib.hid (arrL_len (D:=D) i)
  have HLB:=Lib.hid (arrB_len (D:=D) i)
  clear hni ha hb hx he hu HX0 HE0 HU0
  by_cases hlt:i<10
  ·have hltI:(i:Int)<10:=by omega
   obtain ⟨⟨⟨xb,xv,xd⟩,xe⟩,hL⟩:∃L,D.load i=L:=⟨_,rfl⟩
   have hload:=kload_any (HD.out.below_ HE.out.low) (by rw [HT.out.sectors];decide) HT.out.wf (i:Int)
   rw [hL] at hload
   have hag:(Im.mk xb xv xd).agg = .agg #[.int .i64 xb, .int .u64 xv, .string xd]:=rfl
   simp only at hload
   rw [hag] at hload
   have HLD:=Lib.hid hload
   have HL:=Lib.hid hL
   clear hload hL hag
   obtain ⟨x0,x1,x2,x3,x4⟩:=HX.out.1.five
   go_wp2_with fail
   refine HLD.out.mono ?_
   rintro e9 w9 ⟨rfl,hb9⟩
   have HE9:=Lib.hid ((HE.out.below_ hb9).alloc (.cells #[.int .i64 xb, .int .u64 xv, .string xd] 47))
   have HA9:=Lib.hid ((HA.out.below_ hb9).alloc (.cells #[.int .i64 xb, .int .u64 xv, .string xd] 47))
   have HB9:=Lib.hid ((HB.out.below_ hb9).alloc (.cells #[.int .i64 xb, .int .u64 xv, .string xd] 47))
   have HX9:=Lib.hid ((HX.out.below_ hb9).alloc (.cells #[.int .i64 xb, .int .u64 xv, .string xd] 47))
   have HU9:=Lib.hid ((HU.out.below hb9).alloc (.cells #[.int .i64 xb, .int .u64 xv, .string xd] 47))
   have HI9:=Lib.hid (Blk.new w9 47 #[.int .i64 xb, .int .u64 xv, .string xd])
   clear hb9 x0 x1 x2 x3 x4 HA HB HX HE HU HLD
   go_upto_region 9 with (fail)
   generalize w9.alloc (.cells #[.int .i64 xb, .int .u64 xv, .string xd] 47)=W9 at HE9 HA9 HB9 HX9 HU9 HI9 ⊢
   generalize w9.heap.size=gI at HI9 ⊢
   by_cases he0:xe=0
   ·subst he0
    have HBN:=Lib.hid (arrB_none (D:=D) (i:=i) (by rw [HL.out]))
    by_cases hv:0<xv
    ·have HLS:=Lib.hid (arrL_some HL.out hv)
     have hvI:(0:Int)<(xv:Int):=by omega
     obtain ⟨z0,z1,z2⟩:=HI9.out.three
     have HA10:=Lib.hid (HA9.out.alloc (.cells #[.int .i64 xb, .int .u64 xv, .string xd] 47))
     go_wp2_with (at_builtin;refine wpList_append_S _ rfl (.tmp 37) (.tmp 39) 40 rfl 47 i0 _ 3 32 Tryz.underlying40 hi hz0 hz1 hz2 rfl (by omega) (.slice A (D.arrL i).length cap) (D.arrL i).length (imcells (D.arrL i)) rfl HA10.out (some ⟨W9.heap.size,0,none⟩) 1 1 [.int .i64 xb, .int .u64 xv, .string xd] rfl (Reads.newAt W9 47 3 1 _ #[.int .i64 xb, .int .u64 xv, .string xd] _ rfl rfl rfl) (by simp [Value.oneCell']) (by have:=HLA.out;have:=HNI.out;unfold maxLen;omega) (by have:=HLA.out;have:=HNI.out;omega) ?_;intro v7 w7 hown7 hst7 hgr7 hat7;obtain ⟨A7,cap7,rfl,_,_⟩:=own_form' hown7;have HW7:=Lib.hid hown7;have HS7:=Lib.hid (((Step.refl oL (fun _=>False) W9).alloc (.cells #[.int .i64 xb, .int .u64 xv, .string xd] 47)).mono (fun _ h=>h.elim:∀y,False→only 1 y) |>.trans hst7);clear hown7 hst7 hgr7 hat7 z0 z1 z2)
     go_roundg (10 - (i+1))
     case measure=>have:=HNI.out;omega
     case rel=>exact ⟨i+1,A7,cap7,B,cb,_,by omega,by go_num,by rw [HLS.out,List.length_append];rfl,by rw [HBN.out],by rw [HLS.out,List.length_append,imcells_app];exact HW7.out,by rw [HBN.out];exact HB9.out.step HS7.out (by unfold only;omega),HX9.out.step HS7.out (by unfold only;omega),HE9.out.step HS7.out (by unfold only;omega),HU9.out.step HS7.out⟩
    ·have HLN:=Lib.hid (arrL_none (D:=D) (i:=i) (by rw [HL.out];exact fun h=>hv h.2))
     have hvI:¬(0:Int)<(xv:Int):=by omega
     obtain ⟨z0,z1,z2⟩:=HI9.out.three
     go_wp2_with fail
     go_roundg (10 - (i+1))
     case measure=>have:=HNI.out;omega
     case rel=>exact ⟨i+1,A,cap,B,cb,oL,by omega,by go_num,by rw [HLN.out],by rw [HBN.out],by rw [HLN.out];exact HA9.out,by rw [HBN.out];exact HB9.out,HX9.out,HE9.out,HU9.out⟩
   ·have HBS:=Lib.hid (arrB_some (D:=D) (i:=i) (by rw [HL.out];exact he0))
    have HLN:=Lib.hid (arrL_none (D:=D) (i:=i) (by rw [HL.out];exact fun h=>he0 h.1))
    have beI:(xe != 0)=true:=by simp [he0]
    have HB10:=Lib.hid (HB9.out.alloc (.cells #[.int .i64 (i:Nat)] 3))
    clear he0
    go_wp2_with (at_builtin;refine wpList_append_S _ rfl (.tmp 29) (.tmp 31) 41 rfl 3 j0 _ 1 8 Tryz.underlying41 hj hy0 hy1 hy2 rfl (by omega) (.slice B (D.arrB i).length cb) (D.arrB i).length (intcells (D.arrB i)) rfl HB10.out (some ⟨W9.heap.size,0,none⟩) 1 1 [.int .i64 (i:Nat)] rfl (Reads.newAt W9 3 1 1 _ #[.int .i64 (i:Nat)] _ rfl rfl rfl) (by simp [Value.oneCell']) (by have:=HLB.out;have:=HNI.out;unfold maxLen;omega) (by have:=HLB.out;have:=HNI.out;omega) ?_;intro v7 w7 hown7 hst7 hgr7 hat7;obtain ⟨A7,cap7,rfl,_,_⟩:=own_form' hown7;have HW7:=Lib.hid hown7;have HS7:=Lib.hid (((Step.refl oL (fun _=>False) W9).alloc (.cells #[.int .i64 (i:Nat)] 3)).mono (fun _ h=>h.elim:∀y,False→only 2 y) |>.trans hst7);clear hown7 hst7 hgr7 hat7)
    go_roundg (10 - (i+1))
    case measure=>have:=HNI.out;omega
    case rel=>exact ⟨i+1,A,cap,A7,cap7,_,by omega,by go_num,by rw [HLN.out],by rw [HBS.out,List.length_append];rfl,by rw [HLN.out];exact HA9.out.step HS7.out (by unfold only;omega),by rw [HBS.out,List.length_append,intcells_app];exact HW7.out,HX9.out.step HS7.out (by unfold only;omega),HE9.out.step HS7.out (by unfold only;omega),HU9.out.step HS7.out⟩
  ·have hltI:¬(i:Int)<10:=by omega
   obtain rfl:i=10:=by have:=HNI.out;omega
   go_wp2_with fail
   go_ret2
   exact ⟨A,cap,B,cb,rfl,own_none HF.out HE.out HA.out (by decide),own_none HF.out HE.out HB.out (by decide),HE.out.low⟩
end
def RF.leftIn (R:RF):Prop:=R.armed=true→0≤R.left∧R.left≤9223372036854775807
theorem cutW_le (keep:List Int):∀(l:List RW) (k:Nat),(cutW keep k l).length≤l.length
 | [],_=>Nat.le_refl _
 | x :: l,k=>by
   have h1:=cutW_le keep l k
   have h2:=cutW_le keep l (k+1)
   unfold cutW
   split
   ·simp only [List.length_cons];omega
   ·split <;> simp only [List.length_cons] <;> omega
theorem spend_len (R:RF):R.spend.2.ws.length≤R.ws.length∧R.spend.2.keep=R.keep:=by
 unfold RF.spend
 split
 ·exact ⟨Nat.le_refl _,rfl⟩
 split
 ·unfold RF.cut
  split
  ·exact ⟨Nat.le_refl _,rfl⟩
  ·exact ⟨cutW_le _ _ _,rfl⟩
 ·exact ⟨Nat.le_refl _,rfl⟩
section
variable {o o':Nat→Nat} {c p:Nat} {C:Nat→Prop} {w w':World} {R:RF} {kv:Value}
theorem RFAt.movedF {R2:RF} (h:OwnW o (c+2) w 3 1 kv R.keep.length (intcells R.keep)) (hk:R2.keep=R.keep) (h2:RefIn o' c w' p R2 kv) (hs:Step o (cutF c) w o' w'):RFAt o' c w' p R2 :=
 ⟨kv,h2,by rw [hk];exact h.step hs (by unfold cutF;omega)⟩
set_option maxRecDepth 100000 in
set_option maxHeartbeats 2000000 in
theorem rfspend_any (h:RFAt o c w p R) (hlo:R.leftIn) (hl:R.ws.length≤100000) (hkl:R.keep.length≤1000000):Calls Tryz.prog 94 #[.pointer (some ⟨p,0,none⟩)] w fun e w'=>e = .returned (.int .i64 R.spend.1)∧∃o',RFAt o' c w' p R.spend.2∧Step o (cutF c) w o' w':=by
 have H:=Lib.hid h
 have HL:=Lib.hid hl
 have HKL:=Lib.hid hkl
 obtain ⟨kv,h1,h2⟩:=h
 have HI:=Lib.hid h1
 have HKV:=Lib.hid h2
 obtain ⟨A,cap,rfl,_,_⟩:=h2.form
 obtain ⟨lv,hb,hc,ho⟩:=h1
 have x38:w.cell? ⟨p,38,none⟩=some (.bool R.armed):=hb.cell 38
 have x39:w.cell? ⟨p,39,none⟩=some (.int .i64 R.left):=hb.cell 39
 have x40:w.cell? ⟨p,40,none⟩=some (.slice A R.keep.length cap):=hb.cell 40
 have f39:=hb.frozen 39
 have HB:=Lib.hid hb
 have HC:=Lib.hid hc
 have HO:=Lib.hid ho
 have HLO:=Lib.hid hlo
 obtain ⟨b,hab⟩:∃b,R.armed=b:=⟨_,rfl⟩
 rw [hab] at x38
 have HAB:=Lib.hid hab
 clear h2 hb hc ho hl hkl hlo hab
 cases b with
 | false =>
   rw [show R.spend=(0,R) from if_pos HAB.out]
   go_enter Tryz.func94,Tryz.ntmps94
   go_wp2_with fail
   go_ret
   exact ⟨rfl,o,H.out,Step.refl _ _ _⟩
 | true =>
   by_cases h0:R.left=0
   ·rw [show R.spend=(14,(R.cut R.keep).2) from (if_neg (by rw [HAB.out];decide)).trans (if_pos h0)]
    rw [h0] at x39
    clear f39
    go_enter Tryz.func94,Tryz.ntmps94
    go_wp2_with fail
    refine (rfcut_any HI.out R.keep A cap (fun o' w' hs=>(HKV.out.step hs (by unfold only;omega)).reads) HKL.out HL.out).mono ?_
    rintro r w1 ⟨rfl,o1,hr1,hs1⟩
    have hkk:(R.cut R.keep).2.keep=R.keep:=by unfold RF.cut;split <;> rfl
    have HF:=Lib.hid (RFAt.movedF (R:=R) (R2:=(R.cut R.keep).2) HKV.out hkk hr1 hs1)
    have HS:=Lib.hid hs1
    clear hr1 hs1 hkk x38 x39 x40
    go_wp2_with fail
    go_ret
    exact ⟨rfl,o1,HF.out,HS.out⟩
   ·rw [show R.spend=(0,{R with left:=R.left - 1}) from (if_neg (by rw [HAB.out];decide)).trans (if_neg h0)]
    have hq:=HLO.out HAB.out
    have hw:IntKind.i64.wrap (R.left - 1)=R.left - 1:=IntWalk.i64_in _ (by omega)
    have h0I:¬R.left=0:=h0
    have HF:=Lib.hid (show RFAt o c (w.setCell ⟨p,39,none⟩ (.int .i64 (R.left - 1))) p {R with left:=R.left - 1}∧Step o (cutF c) w o (w.setCell ⟨p,39,none⟩ (.int .i64 (R.left - 1))) from by
     have hs:Step o (only c) w o (w.setCell ⟨p,39,none⟩ (.int .i64 (R.left - 1))):=(Step.refl o (only c) w).setCell (p:=⟨p,39,none⟩) HC.out _
     exact ⟨⟨_,⟨lv,HB.out.set_ 39 _,HC.out,HO.out.step hs (by unfold only;omega)⟩,HKV.out.step hs (by unfold only;omega)⟩,hs.mono (fun y hy => .inl hy)⟩)
    clear hq
    go_enter Tryz.func94,Tryz.ntmps94
    go_wp2_with fail
    go_ret
    exact ⟨rfl,o,HF.out.1,HF.out.2⟩
set_option maxRecDepth 100000 in
set_option maxHeartbeats 4000000 in
theorem rfwrite_go (h:RFAt o c w p R) (k e:Nat) (at_:Int) (data:ByteArray) (m:Nat) (hof:R.off=false) (hsp:R.spend.1=0) (hlo:R.leftIn) (hkl:R.keep.length≤1000000) (hk:k≤16) (he:R.table k=e) (h0:e≠0) (hd:data.size=m*64) (h1:1≤m) (h2:m≤16) (h3:0≤at_) (h4:at_+m≤R.room) (hr:R.room≤100000) (hl:R.ws.length≤90000) :
 Calls Tryz.prog 42 #[.pointer (some ⟨p,0,none⟩), .int .i64 (k:Int), .int .u64 (e:Int), .int .i64 at_, .string data] w fun r w'=>r = .returned (.int .i64 0)∧∃o',RFAt o' c w' p (R.spend.2.wrote k at_ data m)∧Step o (cutF c) w o' w':=by
 have H:=Lib.hid h
 have HSP:=Lib.hid hsp
 have HLO:=Lib.hid hlo
 have HKL:=Lib.hid hkl
 obtain ⟨kv0,h1,_⟩:=h
 have HL:=Lib.hid hl
 have HM:=Lib.hid (rfmay_zero h1 k e hof hk he h0)
 have HDS:=Lib.hid hd
 have HM2:=Lib.hid h2
 obtain ⟨lv,hb,hc,ho⟩:=h1
 have x0:w.cell? ⟨p,0,none⟩=some (.int .i64 R.room):=hb.cell 0
 have x2:w.cell? ⟨p,2,none⟩=some (.bool false):=by rw [←hof];exact hb.cell 2
 have hn:nodeOk (k:Int)=true:=decide_eq_true (by omega)
 have hq:(data.size:Int).tdiv 64=(m:Int):=tdiv64 (by omega)
 have hqw:IntKind.i64.wrap (m:Int)=(m:Int):=IntWalk.i64_in _ (by omega)
 have hrem:(data.size:Int).tmod 64=0:=tmod64 (r:=0) (by omega)
 have hm1:¬(m:Int)<1:=by omega
 have hm2:¬16<(m:Int):=by omega
 have hm1':(1:Int)≤(m:Int):=by omega
 have hm2':(m:Int)≤16:=by omega
 have hsub:IntKind.i64.wrap ((R.room:Int) - (m:Int))=(R.room:Int) - (m:Int):=IntWalk.i64_in _ (by omega)
 have hat:¬(R.room:Int) - (m:Int)<at_:=by omega
 have hat2:at_≤(R.room:Int) - (m:Int):=by omega
 have hat0:¬at_<0:=by omega
 have HAT:=Lib.hid h4
 have HRM:=Lib.hid hr
 clear hb hc ho hl hk he h0 hd h1 h2 h4 hr hof hsp hlo hkl
 go_enter Tryz.func42,Tryz.ntmps42
 go_wp2_with fail
 refine (rfnode_any k w).mono ?_
 rintro r w1 ⟨rfl,rfl⟩
 rw [hn]
 go_wp2_with fail
 refine HM.out.mono ?_
 rintro r w1 ⟨rfl,rfl⟩
 go_wp2_with fail
 refine (rfspend_any H.out HLO.out (by have:=HL.out;omega) HKL.out).mono ?_
 rintro r w1 ⟨rfl,o0,hr0,hs0⟩
 rw [HSP.out]
 obtain ⟨R1,hR1⟩:∃R1,R.spend.2=R1:=⟨_,rfl⟩
 rw [hR1] at hr0
 have HRE:=Lib.hid hR1
 have hl1:=(spend_len R).1
 have hm1k:=(spend_keeps R).1
 rw [hR1] at hl1 hm1k
 have HL1:=Lib.hid (show R1.ws.length≤90000 by have:=HL.out;omega)
 obtain ⟨kv,hr0,hkv⟩:=hr0
 have HI1:=Lib.hid hr0
 have HKV:=Lib.hid hkv
 have HS0:=Lib.hid hs0
 clear hr0 hkv hs0 hR1 hl1 hm1k
 go_wp2_with fail
 clear x0 x2 hn hq hqw hrem hm1 hm2 hm1' hm2' hsub hat hat2
 have H0:=Lib.hid (show RefIn o0 c w1 p (R1.wrote k at_ data 0) kv from by rw [show R1.wrote k at_ data 0=R1 from by unfold RF.wrote rwsN;simp];exact HI1.out)
 go_loopw [13] (fun t13 wr=>∃(i:Nat) (o1:Nat→Nat),i≤m∧t13 = .int .i64 i∧RefIn o1 c wr p (R1.wrote k at_ data i) kv∧Step o0 (logL c) w1 o1 wr) (fun t13 _=>m - (intOf t13).toNat)
 case atStart=>exact ⟨0,o0,by omega,rfl,H0.out,Step.refl _ _ _⟩
 case round =>
  obtain ⟨i,o1,hi,rfl,hr,hs⟩:=hrel
  have HRR:=Lib.hid hr
  have HSS:=Lib.hid hs
  clear hr hs
  by_cases hlt:i<m
  ·have hltI:(i:Int)<(m:Int):=by omega
   have HIL:=Lib.hid hlt
   obtain ⟨A9,cap9,HB9,HC9,HO9,x1,f1,hcap9,hcm9⟩:=HRR.out.row
   obtain ⟨i0,hi0,hz0,hz1,hz2⟩:=info_parts info_rw
   have hWL:(R1.wrote k at_ data i).ws.length=R1.ws.length+i:=by show (R1.ws++rwsN k at_ data i).length=_;rw [List.length_append];unfold rwsN;rw [List.length_map,List.length_range]
   have HWS:=Lib.hid (show (R1.wrote k at_ data (i+1)).ws=(R1.wrote k at_ data i).ws ++ [⟨k,at_+i,sect data i,false⟩] by show R1.ws++rwsN k at_ data (i+1)=(R1.ws++rwsN k at_ data i)++_;rw [rwsN_succ,List.append_assoc])
   obtain ⟨Q,hQ⟩:∃Q,R1.wrote k at_ data i=Q:=⟨_,rfl⟩
   have HQC:=Lib.hid (show ∀lv,(R1.wrote k at_ data (i+1)).cells lv kv=Q.cells lv kv from fun lv=>by rw [←hQ];rfl)
   rw [hQ] at HB9 HO9 x1 hcap9 hWL HWS
   have hWL2:Q.ws.length≤100000:=by have:=HL1.out;have:=HM2.out;omega
   have hcm9':cap9≤9223372036854775807:=by unfold maxLen at hcm9;omega
   have HCM9:=Lib.hid hcm9
   clear hcm9 hWL hQ
   obtain ⟨lo,hlo⟩:∃lo,i*64=lo:=⟨_,rfl⟩
   obtain ⟨hi',hhi⟩:∃hi',(i+1)*64=hi':=⟨_,rfl⟩
   have hhs:hi'≤data.size:=by have:=HDS.out;omega
   have e1:IntKind.i64.wrap (at_+(i:Int))=at_+i:=IntWalk.i64_in _ (by have:=HAT.out;have:=HRM.out;omega)
   have e2:IntKind.i64.wrap (64*(i:Int))=(lo:Int):=by rw [IntWalk.i64_in _ (by have:=HM2.out;omega)];omega
   have e3:IntKind.i64.wrap ((lo:Int)+64)=(hi':Int):=by rw [IntWalk.i64_in _ (by have:=HM2.out;omega)];omega
   have b0:(0:Int)≤(lo:Int):=by omega
   have b1:(lo:Int)≤(hi':Int):=by omega
   have b2:(hi':Int)≤(data.size:Int):=by omega
   obtain ⟨S,hS⟩:∃S,data.extract lo hi'=S:=⟨_,rfl⟩
   have HSE:=Lib.hid (show sect data i=S by unfold sect;rw [hlo,hhi,hS])
   have HO10:=Lib.hid (HO9.out.alloc (.cells #[.int .i64 (k:Int), .int .i64 (at_+(i:Int)), .string S, .bool false] 142)).drew
   have HB10:=Lib.hid (HB9.out.alloc (.cells #[.int .i64 (k:Int), .int .i64 (at_+(i:Int)), .string S, .bool false] 142)).drew
   have HSA:=Lib.hid (HSS.out.alloc (.cells #[.int .i64 (k:Int), .int .i64 (at_+(i:Int)), .string S, .bool false] 142)).drew
   have z1:wr.drew.cell? ⟨p,1,none⟩=some (.slice A9 Q.ws.length cap9):=x1
   have z1b:(wr.alloc (.cells #[.int .i64 (k:Int), .int .i64 (at_+(i:Int)), .string S, .bool false] 142)).cell? ⟨p,1,none⟩=some (.slice A9 Q.ws.length cap9):=(HB9.out.alloc (.cells #[.int .i64 (k:Int), .int .i64 (at_+(i:Int)), .string S, .bool false] 142)).cell 1
   clear hlo hhi hhs
   go_upto_region 17 with (fail)
   go_region_law ((refine step_append_S _ rfl (.tmp 71) (.tmp 84) 109 rfl 142 i0 _ 4 40 Tryz.underlying109 hi0 hz0 hz1 hz2 rfl (by omega) (.slice A9 Q.ws.length cap9) Q.ws.length (rwcells Q.ws) rfl HO10.out (some ⟨wr.heap.size,0,none⟩) 1 1 [.int .i64 (k:Int), .int .i64 (at_+(i:Int)), .string S, .bool false] rfl (Reads.newAt wr 142 4 1 _ #[.int .i64 (k:Int), .int .i64 (at_+(i:Int)), .string S, .bool false] _ rfl rfl rfl).drew (by simp [Value.oneCell']) (by unfold maxLen;omega) (by omega) ?_;intro v7 w7 hown7 hst7 hgr7 hat7;obtain ⟨A7,cap7,rfl,_,_⟩:=own_form' hown7;have hb7:=HB10.out.step hst7 (by rw [HC9.out];unfold only;omega);have y1:w7.cell? ⟨p,1,none⟩=some (.slice A9 Q.ws.length cap9):=hb7.cell 1;have g1:=hb7.frozen 1;have HB7:=Lib.hid hb7;have HO7:=Lib.hid hown7;have HS7:=Lib.hid hst7;clear hown7 hst7 hgr7 hat7 hb7))
   all_goals
    have hc7:=(HS7.out.old p HB10.out.lt).trans HC9.out
    have hne:=own_blk_ne HO7.out HB7.out (by decide)
    have HF:=Lib.hid (show ∃o2,RefIn o2 c (w7.setCell ⟨p,1,none⟩ (.slice A7 (Q.ws.length+1) cap7)) p (R1.wrote k at_ data (i+1)) kv∧Step o0 (logL c) w1 o2 (w7.setCell ⟨p,1,none⟩ (.slice A7 (Q.ws.length+1) cap7)) from by
     refine ⟨_,⟨.slice A7 (Q.ws.length+1) cap7,?_,hc7,?_⟩,(HSA.out.trans (HS7.out.mono (logL_ring c))).setCell (p:=⟨p,1,none⟩) (.inl hc7) _⟩
     ·rw [HQC.out]
      exact HB7.out.set_ 1 (.slice A7 (Q.ws.length+1) cap7)
     ·have h2:=HO7.out.setCell (p:=⟨p,1,none⟩) hne (.slice A7 (Q.ws.length+1) cap7)
      rw [HWS.out,rwcells_app,HSE.out,List.length_append]
      exact h2)
    clear hc7 hne HO7 HS7 HB7
    go_wp2_with fail
    go_roundw
    case rel=>exact ⟨i+1,HF.out.choose,by have:=HIL.out;omega,by go_num,HF.out.choose_spec.1,HF.out.choose_spec.2⟩
    case measure=>have:=HIL.out;simp [intOf];omega
  ·have hltI:¬(i:Int)<(m:Int):=by omega
   obtain rfl:i=m:=by omega
   go_wp2_with fail
   go_ret
   exact ⟨rfl,o1,by rw [HRE.out];exact RFAt.moved (R:=R1) (R2:=R1.wrote k at_ data i) HKV.out rfl HRR.out HSS.out,HS0.out.trans (HSS.out.mono (logL_cutF c))⟩
set_option maxRecDepth 100000 in
set_option maxHeartbeats 2000000 in
theorem rfwrite_any (h:RFAt o c w p R) (n:Int) (e:Nat) (at_:Int) (data:ByteArray) (hlo:R.leftIn) (hkl:R.keep.length≤1000000) (hr:R.room≤100000) (hl:R.ws.length≤90000) (hds:data.size≤maxLen) :
 Calls Tryz.prog 42 #[.pointer (some ⟨p,0,none⟩), .int .i64 n, .int .u64 (e:Int), .int .i64 at_, .string data] w fun r w'=>r = .returned (.int .i64 (R.write n e at_ data).1)∧∃o',RFAt o' c w' p (R.write n e at_ data).2∧Step o (cutF c) w o' w':=by
 have H:=Lib.hid h
 obtain ⟨kv,h1,h2⟩:=h
 have HI:=Lib.hid h1
 have HW:=Lib.hid h2
 have HLO:=Lib.hid hlo
 have HKL:=Lib.hid hkl
 obtain ⟨lv,hb,_,_⟩:=h1
 have x2:w.cell? ⟨p,2,none⟩=some (.bool R.off):=hb.cell 2
 have x0:w.cell? ⟨p,0,none⟩=some (.int .i64 R.room):=hb.cell 0
 clear hb h2
 unfold RF.write
 clear hlo hkl
 obtain ⟨b,hb⟩:∃b,R.off=b:=⟨_,rfl⟩
 rw [hb] at x2 ⊢
 have HOF:=Lib.hid hb
 clear hb
 cases b with
 | true =>
   clear x0
   go_enter Tryz.func42,Tryz.ntmps42
   go_wp2_with fail
   go_ret
   exact ⟨rfl,o,H.out,Step.refl _ _ _⟩
 | false =>
   rw [if_neg (by decide)]
   obtain ⟨q,hq⟩:∃q,data.size / 64=q:=⟨_,rfl⟩
   obtain ⟨rm,hrm⟩:∃rm,data.size % 64=rm:=⟨_,rfl⟩
   have dq:(data.size:Int).tdiv 64=(q:Int):=tdiv64 hq
   have dr:(data.size:Int).tmod 64=(rm:Int):=tmod64 hrm
   have hsz:data.size=q*64+rm:=by omega
   have hqb:q≤9223372036854775807:=by unfold maxLen at hds;omega
   have dqw:IntKind.i64.wrap (q:Int)=(q:Int):=IntWalk.i64_in _ (by omega)
   rw [hq,hrm]
   have HSZ:=Lib.hid hsz
   clear hq hrm hsz hds
   by_cases hn:nodeOk n=false
   ·rw [if_pos (.inl hn)]
    clear x0
    go_enter Tryz.func42,Tryz.ntmps42
    go_wp2_with fail
    refine (rfnode_any n w).mono ?_
    rintro r w1 ⟨rfl,rfl⟩
    rw [hn]
    go_wp2_with fail
    go_ret
    exact ⟨rfl,o,H.out,Step.refl _ _ _⟩
   have hn2:nodeOk n=true:=by simpa using hn
   by_cases c1:rm=0
   rotate_left
   ·rw [if_pos (.inr (.inl c1))]
    have c1I:¬(rm:Int)=0:=by omega
    clear x0
    go_enter Tryz.func42,Tryz.ntmps42
    go_wp2_with fail
    refine (rfnode_any n w).mono ?_
    rintro r w1 ⟨rfl,rfl⟩
    rw [hn2]
    go_wp2_with fail
    go_ret
    exact ⟨rfl,o,H.out,Step.refl _ _ _⟩
   have c1I:(rm:Int)=0:=by omega
   by_cases c2:q<1
   ·rw [if_pos (.inr (.inr (.inl c2)))]
    have c2I:(q:Int)<1:=by omega
    clear x0
    go_enter Tryz.func42,Tryz.ntmps42
    go_wp2_with fail
    refine (rfnode_any n w).mono ?_
    rintro r w1 ⟨rfl,rfl⟩
    rw [hn2]
    go_wp2_with fail
    go_ret
    exact ⟨rfl,o,H.out,Step.refl _ _ _⟩
   have c2I:¬(q:Int)<1:=by omega
   by_cases c3:16<q
   ·rw [if_pos (.inr (.inr (.inr c3)))]
    have c3I:16<(q:Int):=by omega
    clear x0
    go_enter Tryz.func42,Tryz.ntmps42
    go_wp2_with fail
    refine (rfnode_any n w).mono ?_
    rintro r w1 ⟨rfl,rfl⟩
    rw [hn2]
    go_wp2_with fail
    go_ret
    exact ⟨rfl,o,H.out,Step.refl _ _ _⟩
   have c3I:¬16<(q:Int):=by omega
   rw [if_neg (show ¬(nodeOk n=false∨rm≠0∨q<1∨16<q) from fun x=>by rcases x with x | x | x | x <;> first | exact hn x | omega)]
   by_cases hm:R.may n e=0
   rotate_left
   ·rw [if_pos hm]
    obtain ⟨m,hme⟩:∃m,R.may n e=m:=⟨_,rfl⟩
    rw [hme] at hm ⊢
    clear x0
    go_enter Tryz.func42,Tryz.ntmps42
    go_wp2_with fail
    refine (rfnode_any n w).mono ?_
    rintro r w1 ⟨rfl,rfl⟩
    rw [hn2]
    go_wp2_with fail
    refine (rfmay_any HI.out n e).mono ?_
    rintro r w1 ⟨rfl,rfl⟩
    rw [hme]
    go_wp2_with fail
    go_ret
    exact ⟨rfl,o,H.out,Step.refl _ _ _⟩
   rw [if_neg (show ¬R.may n e≠0 from fun x=>x hm)]
   have wsub:IntKind.i64.wrap ((R.room:Int) - (q:Int))=(R.room:Int) - (q:Int):=IntWalk.i64_in _ (by omega)
   by_cases c4:at_<0∨(R.room:Int) - (q:Int)<at_
   ·rw [if_pos c4]
    by_cases c5:at_<0
    ·go_enter Tryz.func42,Tryz.ntmps42
     go_wp2_with fail
     refine (rfnode_any n w).mono ?_
     rintro r w1 ⟨rfl,rfl⟩
     rw [hn2]
     go_wp2_with fail
     refine (rfmay_any HI.out n e).mono ?_
     rintro r w1 ⟨rfl,rfl⟩
     rw [hm]
     go_wp2_with fail
     go_ret
     exact ⟨rfl,o,H.out,Step.refl _ _ _⟩
    ·have c6:(R.room:Int) - (q:Int)<at_:=by omega
     go_enter Tryz.func42,Tryz.ntmps42
     go_wp2_with fail
     refine (rfnode_any n w).mono ?_
     rintro r w1 ⟨rfl,rfl⟩
     rw [hn2]
     go_wp2_with fail
     refine (rfmay_any HI.out n e).mono ?_
     rintro r w1 ⟨rfl,rfl⟩
     rw [hm]
     go_wp2_with fail
     go_ret
     exact ⟨rfl,o,H.out,Step.refl _ _ _⟩
   ·rw [if_neg c4]
    have hnn:0≤n∧n≤16:=of_decide_eq_true hn2
    obtain ⟨k,rfl⟩:∃k:Nat,n=k:=⟨n.toNat,by omega⟩
    have hm2:R.table k=e∧e≠0:=by
     unfold RF.may at hm
     rw [if_neg (by rw [HOF.out];decide),if_neg (by rw [hn2];decide),Int.toNat_natCast] at hm
     split at hm
     ·omega
     ·omega
    by_cases hsp:R.spend.1=0
    ·rw [if_neg (show ¬R.spend.1≠0 from fun x=>x hsp)]
     refine (rfwrite_go H.out k e at_ data q HOF.out hsp HLO.out HKL.out (by omega) hm2.1 hm2.2 (by have:=HSZ.out;omega) (by omega) (by omega) (by omega) (by omega) hr hl).mono ?_
     rintro r w2 ⟨rfl,o2,hr2,hs2⟩
     exact ⟨rfl,o2,hr2,hs2⟩
    ·rw [if_pos hsp]
     have c5:¬at_<0:=by omega
     have c6:¬(R.room:Int) - (q:Int)<at_:=by omega
     obtain ⟨sv,hsv⟩:∃sv,R.spend.1=sv:=⟨_,rfl⟩
     have HSV:=Lib.hid hsv
     rw [hsv] at hsp ⊢
     have HLL:=Lib.hid hl
     clear hsv
     go_enter Tryz.func42,Tryz.ntmps42
     go_wp2_with fail
     refine (rfnode_any k w).mono ?_
     rintro r w1 ⟨rfl,rfl⟩
     rw [hn2]
     go_wp2_with fail
     refine (rfmay_any HI.out k e).mono ?_
     rintro r w1 ⟨rfl,rfl⟩
     rw [hm]
     go_wp2_with fail
     refine (rfspend_any H.out HLO.out (by have:=HLL.out;omega) HKL.out).mono ?_
     rintro r w1 ⟨rfl,o1,hr1,hs1⟩
     rw [HSV.out]
     have HR1:=Lib.hid hr1
     have HS1:=Lib.hid hs1
     clear hr1 hs1
     go_wp2_with fail
     go_ret
     exact ⟨rfl,o1,HR1.out,HS1.out⟩
theorem rfbarrier_any (h:RFAt o c w p R) (n:Int) (e:Nat) (hlo:R.leftIn) (hkl:R.keep.length≤1000000) (hl:R.ws.length≤100000):Calls Tryz.prog 43 #[.pointer (some ⟨p,0,none⟩), .int .i64 n, .int .u64 (e:Int)] w fun r w'=>r = .returned (.int .i64 (R.barrier n e).1)∧∃o',RFAt o' c w' p (R.barrier n e).2∧Step o (cutF c) w o' w':=by
 have H:=Lib.hid h
 obtain ⟨kv,h1,h2⟩:=h
 have HI:=Lib.hid h1
 have HL:=Lib.hid hl
 have HLO:=Lib.hid hlo
 have HKL:=Lib.hid hkl
 unfold RF.barrier
 clear h1 h2 hl hlo hkl
 by_cases hm:R.may n e=0
 ·rw [if_neg (show ¬R.may n e≠0 from fun x=>x hm)]
  by_cases hsp:R.spend.1=0
  ·rw [if_neg (show ¬R.spend.1≠0 from fun x=>x hsp)]
   have HSP:=Lib.hid hsp
   clear hsp
   go_enter Tryz.func43,Tryz.ntmps43
   go_wp2_with fail
   refine (rfmay_any HI.out n e).mono ?_
   rintro r w1 ⟨rfl,rfl⟩
   rw [hm]
   go_wp2_with fail
   refine (rfspend_any H.out HLO.out HL.out HKL.out).mono ?_
   rintro r w1 ⟨rfl,o1,⟨kv1,hr1,hk1⟩,hs1⟩
   rw [HSP.out]
   have HI1:=Lib.hid hr1
   have HK1:=Lib.hid hk1
   have HS1:=Lib.hid hs1
   clear hr1 hk1 hs1
   go_wp2_with fail
   refine (rfkeep_in HI1.out n (by have:=(spend_len R).1;have:=HL.out;omega)).mono ?_
   rintro r w2 ⟨rfl,o2,hr2,hs2⟩
   have HF:=Lib.hid (RFAt.moved (R:=R.spend.2) (R2:=R.spend.2.settle n) HK1.out rfl hr2 hs2)
   have HS:=Lib.hid (HS1.out.trans (hs2.mono (logL_cutF c)))
   clear hr2 hs2
   go_wp2_with fail
   go_ret
   exact ⟨rfl,o2,HF.out,HS.out⟩
  ·rw [if_pos hsp]
   obtain ⟨sv,hsv⟩:∃sv,R.spend.1=sv:=⟨_,rfl⟩
   have HSV:=Lib.hid hsv
   rw [hsv] at hsp ⊢
   clear hsv
   go_enter Tryz.func43,Tryz.ntmps43
   go_wp2_with fail
   refine (rfmay_any HI.out n e).mono ?_
   rintro r w1 ⟨rfl,rfl⟩
   rw [hm]
   go_wp2_with fail
   refine (rfspend_any H.out HLO.out HL.out HKL.out).mono ?_
   rintro r w1 ⟨rfl,o1,hr1,hs1⟩
   rw [HSV.out]
   have HR1:=Lib.hid hr1
   have HS1:=Lib.hid hs1
   clear hr1 hs1
   go_wp2_with fail
   go_ret
   exact ⟨rfl,o1,HR1.out,HS1.out⟩
 ·rw [if_pos hm]
  have hmv:∃m,R.may n e=m:=⟨_,rfl⟩
  obtain ⟨m,hme⟩:=hmv
  rw [hme] at hm ⊢
  go_enter Tryz.func43,Tryz.ntmps43
  go_wp2_with fail
  refine (rfmay_any HI.out n e).mono ?_
  rintro r w1 ⟨rfl,rfl⟩
  rw [hme]
  go_wp2_with fail
  go_ret
  exact ⟨rfl,o,H.out,Step.refl _ _ _⟩
end
end Go.Proofs.YtldoeodkeieejaaGreatDoor
