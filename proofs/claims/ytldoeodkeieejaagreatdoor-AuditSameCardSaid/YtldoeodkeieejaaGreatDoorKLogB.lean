import Derived.Test.YtldoeodkeieejaaGreatDoorKRecE
import Derived.Test.YtldoeodkeieejaaGreatDoorKBlkD
namespace Go.Proofs.YtldoeodkeieejaaGreatDoor
open Go.RowKit
theorem trim_zero (s:ByteArray) (w:World) (hs:s.size≤1000000000):Calls Tryz.prog 146 #[.string s, .string ⟨#[0]⟩] w fun e w'=>e = .returned (.string ⟨(Lib.trimB s.data.toList 0).toArray⟩)∧Below w.heap.size w w':=by
 refine (Tryz.strings_Trim_one s 0 (by decide) w (by omega)).mono ?_
 rintro e w2 ⟨rfl,hw2⟩
 refine ⟨rfl,?_⟩
 rcases hw2 with rfl | rfl
 ·exact Below.refl _ _
 ·exact ⟨rfl,rfl,rfl,Nat.le_refl _,fun _ _=>rfl⟩
theorem readE_le {D:Dk}:D.wf→∀at_:Int,(D.readS at_ 1).size≤64:=fun h at_=>readS_size h at_ 1
set_option maxRecDepth 100000 in
set_option maxHeartbeats 4000000 in
theorem ehead_any {o:Nat→Nat} {c p:Nat} {w:World} {D:Dk} (h:DiskAt o c w p D) (hsec:D.sectors≤20000) (hwf:D.wf) (node:Int) :
 Calls Tryz.prog 77 #[.pointer (some ⟨p,0,none⟩), .agg #[.int .i64 2, .int .i64 10, .int .i64 8, .int .i64 4, .int .i64 32], .int .i64 node] w fun e w'=>e = .returned (.tuple #[(D.headH node).agg, .bool (D.headI node), .int .i64 (D.headE node)])∧Below w.heap.size w w':=by
 have hB0:=(Below.refl w.heap.size w).alloc (Nat.le_refl _) (.cells #[.int .i64 2, .int .i64 10, .int .i64 8, .int .i64 4, .int .i64 32] 30)
 have HL:=Lib.hid ((Blk.new w 30 #[.int .i64 2, .int .i64 10, .int .i64 8, .int .i64 4, .int .i64 32]).alloc (.cells #[.int .u64 0, .int .u64 0, .int .i64 0] 156))
 have HZ:=Lib.hid (Blk.new (w.alloc (.cells #[.int .i64 2, .int .i64 10, .int .i64 8, .int .i64 4, .int .i64 32] 30)) 156 #[.int .u64 0, .int .u64 0, .int .i64 0])
 have HB:=Lib.hid (hB0.alloc hB0.size (.cells #[.int .u64 0, .int .u64 0, .int .i64 0] 156))
 have HD:=Lib.hid ((h.alloc (.cells #[.int .i64 2, .int .i64 10, .int .i64 8, .int .i64 4, .int .i64 32] 30)).alloc (.cells #[.int .u64 0, .int .u64 0, .int .i64 0] 156))
 rw [show (w.alloc (.cells #[.int .i64 2, .int .i64 10, .int .i64 8, .int .i64 4, .int .i64 32] 30)).heap.size=w.heap.size+1 by simp] at HZ
 obtain ⟨g,hg⟩:∃g,g=w.heap.size+1:=⟨_,rfl⟩
 obtain ⟨gl,hgl⟩:∃g,g=w.heap.size:=⟨_,rfl⟩
 have HG:=Lib.hid (show w.heap.size≤g by omega)
 have HNE:=Lib.hid (show gl≠g by omega)
 have HW:=Lib.hid hwf
 have HSB:=Lib.hid (show (D.headB node).size≤1000000000 by have:(D.headB node).size≤64:=readE_le hwf _;omega)
 have HHE:=Lib.hid (show D.headE1 node=if (logAt node).2≠0 then (logAt node).2 else D.readE (logAt node).1 1 from rfl)
 have HHB:=Lib.hid (show D.readS (logAt node).1 1=D.headB node from rfl)
 have fin:∀(W:World) (x:Hd) (i:Bool) (e:Int),Blk W g 156 #[.int .u64 x.epoch, .int .u64 x.lsn, .int .i64 x.at_]→Below w.heap.size w W→D.headH node=x→D.headI node=i→D.headE node=e →
  Blk W g 156 #[.int .u64 x.epoch, .int .u64 x.lsn, .int .i64 x.at_]∧Below w.heap.size w W∧Ending.returned (.tuple #[.agg #[.int .u64 x.epoch, .int .u64 x.lsn, .int .i64 x.at_], .bool i, .int .i64 e]) = .returned (.tuple #[(D.headH node).agg, .bool (D.headI node), .int .i64 (D.headE node)]):=fun W x i e h1 h2 h3 h4 h5=>⟨h1,h2,by rw [h3,h4,h5];rfl⟩
 have FIN:=Lib.hid fin
 have bad:∀e,D.headE1 node=e→e≠0→D.headH node=Hd.zero∧D.headI node=false∧D.headE node=e:=fun e h1 h2=>⟨if_neg (fun h=>h2 (h1▸h.1)),decide_eq_false (fun h=>h2 (h1▸h.1)),by unfold Dk.headE;rw [h1,if_pos h2]⟩
 have BAD:=Lib.hid bad
 clear h hwf hB0 fin bad
 go_enter Tryz.func77,Tryz.ntmps77
 go_wp2_with fail
 rw [←hg] at HZ ⊢
 rw [←hgl] at HL ⊢
 generalize (w.alloc (.cells #[.int .i64 2, .int .i64 10, .int .i64 8, .int .i64 4, .int .i64 32] 30)).alloc (.cells #[.int .u64 0, .int .u64 0, .int .i64 0] 156)=W at HL HZ HB HD ⊢
 clear hg hgl
 refine (logat_any node W).mono ?_
 rintro r w1 ⟨rfl,hb1⟩
 have HD1:=Lib.hid (HD.out.below_ hb1)
 have HB1:=Lib.hid (HB.out.trans (hb1.mono HB.out.size))
 have HZ1:=Lib.hid (HZ.out.below_ hb1)
 have HL1:=Lib.hid (HL.out.below_ hb1)
 clear hb1
 obtain ⟨A,hA⟩:∃A,logAt node=A:=⟨_,rfl⟩
 rw [hA] at HHE HHB ⊢
 obtain ⟨a,E⟩:=A
 simp only at HHE HHB ⊢
 clear hA
 by_cases h0:E=0
 ·subst h0
  go_wp2_with fail
  refine (dread_any HD1.out a 1 hsec HW.out).mono ?_
  rintro r w2 ⟨rfl,hb2⟩
  have HB2:=Lib.hid (HB1.out.trans (hb2.mono HB1.out.size))
  have HZ2:=Lib.hid (HZ1.out.below_ hb2)
  have HL2:=Lib.hid (HL1.out.below_ hb2)
  clear hb2
  obtain ⟨F,hF⟩:∃F,D.readE a 1=F:=⟨_,rfl⟩
  rw [hF] at HHE ⊢
  rw [HHB.out]
  clear hF
  obtain ⟨b,hb⟩:∃b,D.headB node=b:=⟨_,rfl⟩
  rw [hb] at HSB ⊢
  have HHB2:=Lib.hid hb
  clear hb
  by_cases h1:F=0
  ·subst h1
   have HE1:=Lib.hid (show D.headE1 node=0 by rw [HHE.out];rfl)
   go_wp2_with fail
   refine (gethead_any b w2 HSB.out).mono ?_
   rintro r w3 ⟨rfl,hb3⟩
   obtain ⟨X,hX⟩:∃X,lhG b=X:=⟨_,rfl⟩
   obtain ⟨Q,hQ⟩:∃Q,lhE b=Q:=⟨_,rfl⟩
   obtain ⟨xe,xl,xa⟩:=X
   rw [hX,hQ]
   unfold Hd.agg
   have HLX:=Lib.hid hX
   have HLQ:=Lib.hid hQ
   have hBa:=HB2.out.trans (hb3.mono HB2.out.size)
   have HB3:=Lib.hid (hBa.alloc hBa.size (.cells #[.int .u64 xe, .int .u64 xl, .int .i64 xa] 156))
   have HZ3:=Lib.hid ((HZ2.out.below_ hb3).alloc (.cells #[.int .u64 xe, .int .u64 xl, .int .i64 xa] 156))
   have HL3:=Lib.hid ((HL2.out.below_ hb3).alloc (.cells #[.int .u64 xe, .int .u64 xl, .int .i64 xa] 156))
   have HX3:=Lib.hid (Blk.new w3 156 #[.int .u64 xe, .int .u64 xl, .int .i64 xa])
   have HXG:=Lib.hid (show w3.heap.size≠g from (Nat.ne_of_lt (HZ2.out.below_ hb3).lt).symm)
   clear hb3 hBa hX hQ
   by_cases hq:Q=0
   ·subst hq
    have r1:D.headH node=⟨xe,xl,xa⟩:=by unfold Dk.headH;rw [HHB2.out,if_pos ⟨HE1.out,HLQ.out⟩];exact HLX.out
    have r2:D.headI node=decide (xa<7):=by
     unfold Dk.headI
     rw [HHB2.out,HE1.out,HLQ.out,HLX.out]
     simp
    have r3:D.headE node=0:=by unfold Dk.headE;rw [HHB2.out,HE1.out,if_neg (by decide),HLQ.out,if_pos rfl]
    have HR:=Lib.hid (show D.headH node=⟨xe,xl,xa⟩∧D.headI node=decide (xa<7)∧D.headE node=0 from ⟨r1,r2,r3⟩)
    clear r1 r2 r3
    go_upto_region 11 with (fail)
    generalize w3.alloc (.cells #[.int .u64 xe, .int .u64 xl, .int .i64 xa] 156)=W3 at HB3 HZ3 HL3 HX3 ⊢
    generalize w3.heap.size=gX at HX3 HXG ⊢
    obtain ⟨x0,x1,x2⟩:=HX3.out.drew.three
    obtain ⟨y0,y1,y2⟩:=HZ3.out.three
    have f0:=HZ3.out.frozen 0
    have f1:=HZ3.out.frozen 1
    have f2:=HZ3.out.frozen 2
    have hw7:IntKind.i64.wrap 7=7:=by rw [IntKind.wrap_i64];decide
    have l2:W3.drew.cell? ⟨gl,2,none⟩=some (.int .i64 8):=HL3.out.cell 2
    have hxk:=(((HX3.out.drew.far (p:=⟨g,0,none⟩) HXG.out (.int .u64 xe)).far (p:=⟨g,1,none⟩) HXG.out (.int .u64 xl)).far (p:=⟨g,2,none⟩) HXG.out (.int .i64 xa)).three
    have hlk:((((W3.drew.setCell ⟨g,0,none⟩ (.int .u64 xe)).setCell ⟨g,1,none⟩ (.int .u64 xl)).setCell ⟨g,2,none⟩ (.int .i64 xa)).cell? ⟨gl,2,none⟩)=some (.int .i64 8):=(((HL3.out.drew.far (p:=⟨g,0,none⟩) HNE.out (.int .u64 xe)).far (p:=⟨g,1,none⟩) HNE.out (.int .u64 xl)).far (p:=⟨g,2,none⟩) HNE.out (.int .i64 xa)).cell 2
    go_region_held3 (fun w'=>w'.cell? ⟨gX,0,none⟩=some (.int .u64 xe)∧w'.cell? ⟨gX,1,none⟩=some (.int .u64 xl)∧w'.cell? ⟨gX,2,none⟩=some (.int .i64 xa)∧w'.cell? ⟨gl,2,none⟩=some (.int .i64 8))
     (first | exact ⟨x0,x1,x2,l2⟩ | exact ⟨hxk.1,hxk.2.1,hxk.2.2,hlk⟩ | go_keep)
     (fail)
    all_goals
     try go_wp2_with fail
     obtain ⟨r1,r2,r3⟩:=HR.out
     obtain ⟨hz4,hb4,he⟩:=FIN.out _ ⟨xe,xl,xa⟩ (decide (xa<7)) 0 (HZ3.out.put3 (.int .u64 xe) (.int .u64 xl) (.int .i64 xa)).drew (below_drew' (below_put3 HB3.out HG.out _ _ _)) r1 r2 r3
     rw [←he]
     generalize (((W3.setCell ⟨g,0,none⟩ (.int .u64 xe)).setCell ⟨g,1,none⟩ (.int .u64 xl)).setCell ⟨g,2,none⟩ (.int .i64 xa)).drew=WE at hz4 hb4 ⊢
     obtain ⟨q0,q1,q2⟩:=hz4.three
     exact bodyPost_ret (v := .tuple #[.agg #[.int .u64 xe, .int .u64 xl, .int .i64 xa], .bool (decide (xa<7)), .int .i64 0]) (by simp [results,Tryz.results77,go_sem,q0,q1,q2]) rfl ⟨rfl,hb4⟩
   ·have t1:(Q == 0)=false:=beq_eq_false_iff_ne.2 hq
    have r1:D.headH node=Hd.zero:=by unfold Dk.headH;rw [HHB2.out,if_neg (fun h=>hq (HLQ.out▸h.2))]
    have r2:D.headI node=false:=by unfold Dk.headI;rw [HHB2.out];exact decide_eq_false (fun h=>hq (HLQ.out▸h.2.1))
    have r3:D.headE node=if allZero b then 0 else 15:=by unfold Dk.headE;rw [HHB2.out,HE1.out,if_neg (by decide),HLQ.out,if_neg hq]
    have HR:=Lib.hid (show D.headH node=Hd.zero∧D.headI node=false from ⟨r1,r2⟩)
    have HR3:=Lib.hid r3
    have HBZ:=Lib.hid (show b.size≤1000000000 from HSB.out)
    clear r1 r2 r3 hq
    go_wp2_with fail
    generalize w3.alloc (.cells #[.int .u64 xe, .int .u64 xl, .int .i64 xa] 156)=W3 at HB3 HZ3 HL3 HX3 ⊢
    refine (trim_zero b W3 HBZ.out).mono ?_
    rintro r w4 ⟨rfl,hb4⟩
    have HB4:=Lib.hid (HB3.out.trans (hb4.mono HB3.out.size))
    have HZ4:=Lib.hid (HZ3.out.below_ hb4)
    clear hb4
    obtain ⟨y0,y1,y2⟩:=HZ4.out.three
    have f0:=HZ4.out.frozen 0
    have f1:=HZ4.out.frozen 1
    have f2:=HZ4.out.frozen 2
    by_cases hz:allZero b
    ·have e2:Lib.trimB b.data.toList 0 = []:=(trim_nil _).2 hz
     have HE:=Lib.hid (show D.headE node=0 by rw [HR3.out,if_pos hz])
     rw [e2]
     clear e2 hz
     go_wp2_with fail
     obtain ⟨r1,r2⟩:=HR.out
     obtain ⟨hz4,hb5,he⟩:=FIN.out _ Hd.zero false 0 (HZ4.out.put3 (.int .u64 0) (.int .u64 0) (.int .i64 0)) (below_put3 HB4.out HG.out _ _ _) r1 r2 HE.out
     rw [←he]
     clear y0 y1 y2 f0 f1 f2
     generalize ((w4.setCell ⟨g,0,none⟩ (.int .u64 0)).setCell ⟨g,1,none⟩ (.int .u64 0)).setCell ⟨g,2,none⟩ (.int .i64 0)=WE at hz4 hb5 ⊢
     obtain ⟨q0,q1,q2⟩:=hz4.three
     exact bodyPost_ret (v := .tuple #[.agg #[.int .u64 0, .int .u64 0, .int .i64 0], .bool false, .int .i64 0]) (by simp [results,Tryz.results77,go_sem,q0,q1,q2,Hd.zero]) rfl ⟨rfl,hb5⟩
    ·have e2:¬Lib.trimB b.data.toList 0 = []:=fun h=>hz ((trim_nil _).1 h)
     have HE:=Lib.hid (show D.headE node=15 by rw [HR3.out,if_neg hz])
     have e4:(Lib.trimB b.data.toList 0).isEmpty=false:=by simpa using e2
     generalize Lib.trimB b.data.toList 0=t at e2 e4 ⊢
     clear hz
     go_wp2_with fail
     obtain ⟨r1,r2⟩:=HR.out
     obtain ⟨hz4,hb5,he⟩:=FIN.out _ Hd.zero false 15 (HZ4.out.put3 (.int .u64 0) (.int .u64 0) (.int .i64 0)) (below_put3 HB4.out HG.out _ _ _) r1 r2 HE.out
     rw [←he]
     clear y0 y1 y2 f0 f1 f2
     generalize ((w4.setCell ⟨g,0,none⟩ (.int .u64 0)).setCell ⟨g,1,none⟩ (.int .u64 0)).setCell ⟨g,2,none⟩ (.int .i64 0)=WE at hz4 hb5 ⊢
     obtain ⟨q0,q1,q2⟩:=hz4.three
     exact bodyPost_ret (v := .tuple #[.agg #[.int .u64 0, .int .u64 0, .int .i64 0], .bool false, .int .i64 15]) (by simp [results,Tryz.results77,go_sem,q0,q1,q2,Hd.zero]) rfl ⟨rfl,hb5⟩
  ·have t1:(F != 0)=true:=bne_iff_ne.2 h1
   obtain ⟨r1,r2,r3⟩:=BAD.out F (by rw [HHE.out];rfl) h1
   obtain ⟨y0,y1,y2⟩:=HZ2.out.three
   have f0:=HZ2.out.frozen 0
   have f1:=HZ2.out.frozen 1
   have f2:=HZ2.out.frozen 2
   have HR:=Lib.hid (show D.headH node=Hd.zero∧D.headI node=false∧D.headE node=F from ⟨r1,r2,r3⟩)
   clear h1 r1 r2 r3
   go_wp2_with fail
   obtain ⟨r1,r2,r3⟩:=HR.out
   obtain ⟨hz4,hb5,he⟩:=FIN.out _ Hd.zero false F (HZ2.out.put3 (.int .u64 0) (.int .u64 0) (.int .i64 0)) (below_put3 HB2.out HG.out _ _ _) r1 r2 r3
   rw [←he]
   clear y0 y1 y2 f0 f1 f2
   generalize ((w2.setCell ⟨g,0,none⟩ (.int .u64 0)).setCell ⟨g,1,none⟩ (.int .u64 0)).setCell ⟨g,2,none⟩ (.int .i64 0)=WE at hz4 hb5 ⊢
   obtain ⟨q0,q1,q2⟩:=hz4.three
   exact bodyPost_ret (v := .tuple #[.agg #[.int .u64 0, .int .u64 0, .int .i64 0], .bool false, .int .i64 F]) (by simp [results,Tryz.results77,go_sem,q0,q1,q2,Hd.zero]) rfl ⟨rfl,hb5⟩
 ·have t1:(E != 0)=true:=bne_iff_ne.2 h0
  obtain ⟨r1,r2,r3⟩:=BAD.out E (by rw [HHE.out,if_pos h0]) h0
  obtain ⟨y0,y1,y2⟩:=HZ1.out.three
  have f0:=HZ1.out.frozen 0
  have f1:=HZ1.out.frozen 1
  have f2:=HZ1.out.frozen 2
  have HR:=Lib.hid (show D.headH node=Hd.zero∧D.headI node=false∧D.headE node=E from ⟨r1,r2,r3⟩)
  clear h0 r1 r2 r3
  go_wp2_with fail
  obtain ⟨r1,r2,r3⟩:=HR.out
  obtain ⟨hz4,hb5,he⟩:=FIN.out _ Hd.zero false E (HZ1.out.put3 (.int .u64 0) (.int .u64 0) (.int .i64 0)) (below_put3 HB1.out HG.out _ _ _) r1 r2 r3
  rw [←he]
  clear y0 y1 y2 f0 f1 f2
  generalize ((w1.setCell ⟨g,0,none⟩ (.int .u64 0)).setCell ⟨g,1,none⟩ (.int .u64 0)).setCell ⟨g,2,none⟩ (.int .i64 0)=WE at hz4 hb5 ⊢
  obtain ⟨q0,q1,q2⟩:=hz4.three
  exact bodyPost_ret (v := .tuple #[.agg #[.int .u64 0, .int .u64 0, .int .i64 0], .bool false, .int .i64 E]) (by simp [results,Tryz.results77,go_sem,q0,q1,q2,Hd.zero]) rfl ⟨rfl,hb5⟩
def LogAt (o:Nat→Nat) (c:Nat) (w:World) (q:Nat) (g:Lg) (p:Nat):Prop:=∃r,Blk w q 128 (g.cells p r)∧o q=c∧EringAt o (c+1) w r 100000 g.live
section
variable {o o':Nat→Nat} {c p q:Nat} {C:Nat→Prop} {w w':World} {g:Lg}
theorem LogAt.step (h:LogAt o c w q g p) (hk:Step o C w o' w') (h0:¬C c) (h1:¬C (c+1)):LogAt o' c w' q g p:=by
 obtain ⟨r,hb,hc,hv⟩:=h
 exact ⟨r,hb.step hk (by rw [hc];exact h0),(hk.old q hb.lt).trans hc,hv.step hk h1⟩
theorem LogAt.alloc (h:LogAt o c w q g p) (x:Obj):LogAt o c (w.alloc x) q g p:=by
 obtain ⟨r,hb,hc,hv⟩:=h
 exact ⟨r,hb.alloc x,hc,hv.alloc x⟩
theorem LogAt.below_ (h:LogAt o c w q g p) (hb:Below w.heap.size w w'):LogAt o c w' q g p:=by
 obtain ⟨r,h1,h2,h3⟩:=h
 exact ⟨r,h1.below_ hb,h2,h3.below_ hb⟩
theorem LogAt.lt (h:LogAt o c w q g p):q<w.heap.size:=by
 obtain ⟨r,h1,h2,h3⟩:=h
 exact h1.lt
theorem LogAt.drew (h:LogAt o c w q g p):LogAt o c w.drew q g p:=h
theorem LogAt.drewN (h:LogAt o c w q g p) (n:Nat):LogAt o c (w.drewN n) q g p:=h
theorem gnone_any (h:LogAt o c w q g p):Calls Tryz.prog 174 #[.pointer (some ⟨q,0,none⟩)] w fun e w'=>e = .returned (.bool false)∧w=w':=by
 obtain ⟨r,hb,_,_⟩:=h
 have x0:w.cell? ⟨q,0,none⟩=some (.pointer (some ⟨p,0,none⟩)):=hb.cell 0
 clear hb
 go_enter Tryz.func174,Tryz.ntmps174
 go_wp2
 go_ret
 exact ⟨rfl,rfl⟩
def Lg.mayE (g:Lg):Int:=if g.broken then 13 else 0
theorem gmay_any (h:LogAt o c w q g p):Calls Tryz.prog 114 #[.pointer (some ⟨q,0,none⟩)] w fun e w'=>e = .returned (.int .i64 g.mayE)∧w=w':=by
 have H:=Lib.hid h
 obtain ⟨r,hb,_,_⟩:=h
 have x11:w.cell? ⟨q,15,none⟩=some (.bool g.broken):=hb.cell 15
 clear hb
 have HM:=Lib.hid (show g.mayE=if g.broken then 13 else 0 from rfl)
 generalize g.mayE=E at HM ⊢
 go_enter Tryz.func114,Tryz.ntmps114
 go_wp2_with fail
 refine (gnone_any H.out).mono ?_
 rintro e w1 ⟨rfl,rfl⟩
 cases hg:g.broken with
 | true =>
   rw [hg] at x11
   have HE:=Lib.hid (show E=13 by rw [HM.out,hg];rfl)
   clear hg
   go_wp2_with fail
   go_ret
   exact ⟨by rw [HE.out];rfl,rfl⟩
 | false =>
   rw [hg] at x11
   have HE:=Lib.hid (show E=0 by rw [HM.out,hg];rfl)
   clear hg
   go_wp2_with fail
   go_ret
   exact ⟨by rw [HE.out];rfl,rfl⟩
theorem gsize_any (h:LogAt o c w q g p):Calls Tryz.prog 120 #[.pointer (some ⟨q,0,none⟩)] w fun e w'=>e = .returned (.int .i64 7)∧w=w':=by
 obtain ⟨r,hb,_,_⟩:=h
 have x3:w.cell? ⟨q,3,none⟩=some (.int .i64 8):=hb.cell 3
 have hw7:IntKind.i64.wrap 7=7:=by rw [IntKind.wrap_i64];decide
 clear hb
 go_enter Tryz.func120,Tryz.ntmps120
 go_wp2
 go_ret
 exact ⟨rfl,rfl⟩
def Lg.failG (g:Lg) (e:Int):Lg:=if e≠0 then {g with broken:=true} else g
theorem gfail_any (h:LogAt o c w q g p) (e:Int):Calls Tryz.prog 127 #[.pointer (some ⟨q,0,none⟩), .int .i64 e] w fun r w'=>r = .returned (.int .i64 e)∧LogAt o c w' q (g.failG e) p∧Step o (only c) w o w':=by
 obtain ⟨r,hb,hc,hr⟩:=h
 have x11:w.cell? ⟨q,15,none⟩=some (.bool g.broken):=hb.cell 15
 have f11:=hb.frozen 15
 have HB:=Lib.hid hb
 have HC:=Lib.hid hc
 have HR:=Lib.hid hr
 clear hb hc hr
 by_cases he:e=0
 ·subst he
  go_enter Tryz.func127,Tryz.ntmps127
  go_wp2_with fail
  go_ret
  exact ⟨rfl,⟨r,HB.out,HC.out,HR.out⟩,Step.refl _ _ _⟩
 ·have t1:(e != 0)=true:=bne_iff_ne.2 he
  have HG:=Lib.hid (show g.failG e = {g with broken:=true} from if_pos he)
  clear he
  go_enter Tryz.func127,Tryz.ntmps127
  go_wp2_with fail
  go_ret
  have S:=(Step.refl o (only c) w).setCell (p:=⟨q,15,none⟩) HC.out (.bool true)
  refine ⟨rfl,?_,S⟩
  rw [HG.out]
  exact ⟨r,HB.out.set_ 15 (.bool true),HC.out,HR.out.step S (by simp [only])⟩
def usedN (l:List En) (k:Nat):Nat:=(l.take k).foldl (fun n x=>n+x.n) 0
theorem usedN_succ {l:List En} {k:Nat} {x:En} (h:l[k]? = some x):usedN l (k+1)=usedN l k+x.n:=by
 unfold usedN
 rw [List.take_add_one,h]
 simp [List.foldl_append]
theorem foldl_ge (l:List En):∀a:Nat,a≤l.foldl (fun n x=>n+x.n) a:=by
 induction l with
 | nil=>exact fun a=>Nat.le_refl _
 | cons x l ih=>exact fun a=>Nat.le_trans (Nat.le_add_right a x.n) (ih (a+x.n))
theorem usedN_le (l:List En) (k:Nat):usedN l k≤usedN l l.length:=by
 unfold usedN
 rw [List.take_length]
 conv=>rhs;rw [←List.take_append_drop k l]
 rw [List.foldl_append]
 exact foldl_ge _ _
theorem Reads.enrow {w:World} {A:Option Addr} {l:List En} (h:Reads w 5 A l.length (encells l)) {k:Nat} {x:En} (hx:l[k]? = some x) :
 ∃ad,A=some ad∧w.cell? (ad.add (k*5))=some (.int .u64 x.lsn)∧w.cell? ⟨(ad.add (k*5)).block,(ad.add (k*5)).off+1,none⟩=some (.int .i64 x.at_)∧w.cell? ⟨(ad.add (k*5)).block,(ad.add (k*5)).off+2,none⟩=some (.int .i64 x.n)∧w.cell? ⟨(ad.add (k*5)).block,(ad.add (k*5)).off+3,none⟩=some (.string x.bytes)∧w.cell? ⟨(ad.add (k*5)).block,(ad.add (k*5)).off+4,none⟩=some (.bool x.written):=by
 obtain ⟨ad,rfl,hc⟩:=Reads.row (f:=En.cells) (fun _=>rfl) h hx
 exact ⟨ad,rfl,hc 0 _ rfl,hc 1 _ rfl,hc 2 _ rfl,hc 3 _ rfl,hc 4 _ rfl⟩
end
section
variable {o:Nat→Nat} {c p q:Nat} {w:World} {g:Lg}
set_option maxRecDepth 100000 in
set_option maxHeartbeats 2000000 in
theorem gused_any (h:LogAt o c w q g p) (hl:g.live.length≤100000) (hu:g.used≤1000000):Calls Tryz.prog 177 #[.pointer (some ⟨q,0,none⟩)] w fun e w'=>e = .returned (.int .i64 g.used)∧Below w.heap.size w w':=by
 have H:=Lib.hid h
 obtain ⟨r,hb,_,hr⟩:=h
 have x14:w.cell? ⟨q,14,none⟩=some (.pointer (some ⟨r,0,none⟩)):=hb.cell 14
 have HR:=Lib.hid hr
 have hlI:(g.live.length:Int)≤100000:=by omega
 have HU:=Lib.hid hu
 have HL:=Lib.hid hl
 have HUE:=Lib.hid (show usedN g.live g.live.length=g.used by unfold usedN Lg.used;rw [List.take_length])
 clear hb hr
 go_enter Tryz.func177,Tryz.ntmps177
 go_wp2_with fail
 refine (gnone_any H.out).mono ?_
 rintro e w1 ⟨rfl,rfl⟩
 go_wp2_with fail
 refine (elist_any 0 HR.out HL.out).mono ?_
 rintro e w1 ⟨A,cap,rfl,hv,hb1⟩
 have HV:=Lib.hid (Reads.of_own hv.1)
 have HB1:=Lib.hid hb1
 clear hv hb1
 go_wp2_with fail
 go_loopw [3,14] (fun t3 t14 wr=>∃k:Nat,k≤g.live.length∧t3 = .int .i64 (usedN g.live k)∧t14 = .int .i64 k∧Below w1.heap.size w1 wr) (fun _ t14 _=>g.live.length - (intOf t14).toNat)
 case atStart=>exact ⟨0,by omega,rfl,rfl,Below.refl _ _⟩
 case round =>
  obtain ⟨k,hk,rfl,rfl,hwr⟩:=hrel
  have HWR:=Lib.hid hwr
  by_cases hlt:k<g.live.length
  ·have hltI:(k:Int)<(g.live.length:Int):=by omega
   obtain ⟨x,hx⟩:∃x,g.live[k]? = some x:=⟨_,List.getElem?_eq_getElem hlt⟩
   obtain ⟨ad,rfl,y0,y1,y2,y3,y4⟩:=(HV.out.below' (by omega) hwr).enrow hx
   have HUS:=Lib.hid (usedN_succ hx)
   have HUB:=Lib.hid (show usedN g.live (k+1)≤1000000 from Nat.le_trans (usedN_le _ _) (by rw [HUE.out];exact HU.out))
   have HWR2:=Lib.hid (hwr.alloc hwr.size (.cells #[.int .u64 x.lsn, .int .i64 x.at_, .int .i64 x.n, .string x.bytes, .bool x.written] 126))
   have hw0:IntKind.i64.wrap ((usedN g.live k:Int)+(x.n:Int))=((usedN g.live k+x.n:Nat):Int):=by rw [IntWalk.i64_in _ (by have:=HUS.out;have:=HUB.out;omega)];omega
   clear hx hwr
   go_wp2_with fail
   go_roundw
   case rel=>exact ⟨k+1,by omega,by rw [HUS.out,←hw0];go_num,by go_num,HWR2.out⟩
   case measure=>simp [intOf];omega
  ·have hltI:¬(k:Int)<(g.live.length:Int):=by omega
   obtain rfl:k=g.live.length:=by omega
   go_wp2_with fail
   go_ret
   exact ⟨by rw [HUE.out];rfl,HB1.out.trans (HWR.out.mono HB1.out.size)⟩
set_option maxRecDepth 100000 in
theorem most_eight (w:World):Calls Tryz.prog 116 #[.int .i64 8] w fun e w'=>e = .returned (.int .i64 1)∧w=w':=by
 have hs1:secsOf 1=3:=by decide
 have hs2:secsOf 2=6:=by decide
 go_enter Tryz.func116,Tryz.ntmps116
 go_wp2_with fail
 go_loopw [3] (fun t3 wr=>∃j:Nat,j≤1∧t3 = .int .i64 j∧w=wr) (fun t3 _=>1 - (intOf t3).toNat)
 case atStart=>exact ⟨0,by omega,rfl,rfl⟩
 case round =>
  obtain ⟨j,hj,rfl,rfl⟩:=hrel
  by_cases h0:j=0
  ·subst h0
   go_wp2_with fail
   refine (secs_any _ _).mono ?_
   rintro e w1 ⟨rfl,rfl⟩
   rw [hs1]
   go_wp2_with fail
   go_roundw
   case rel=>exact ⟨1,by omega,by go_num,by first | rfl | trivial⟩
   case measure=>simp [intOf]
  ·obtain rfl:j=1:=by omega
   go_wp2_with fail
   refine (secs_any _ _).mono ?_
   rintro e w1 ⟨rfl,rfl⟩
   rw [hs2]
   go_wp2_with fail
   go_ret
   exact ⟨rfl,rfl⟩
def Lg.fits (g:Lg) (n:Int):Bool:=decide (g.mayE=0∧n=1∧3+g.used≤7)
set_option maxRecDepth 100000 in
set_option maxHeartbeats 2000000 in
theorem gfits_any (h:LogAt o c w q g p) (hl:g.live.length≤100000) (hu:g.used≤1000000) (n:Int):Calls Tryz.prog 117 #[.pointer (some ⟨q,0,none⟩), .int .i64 n] w fun e w'=>e = .returned (.bool (g.fits n))∧Below w.heap.size w w':=by
 have H:=Lib.hid h
 obtain ⟨r,hb,_,hr⟩:=h
 have x3:w.cell? ⟨q,3,none⟩=some (.int .i64 8):=hb.cell 3
 have HU:=Lib.hid hu
 have HF:=Lib.hid (show g.fits n=decide (g.mayE=0∧n=1∧3+g.used≤7) from rfl)
 generalize g.fits n=F at HF ⊢
 clear hb hr
 by_cases h0:g.mayE=0
 ·by_cases h1:n<1
  ·have HE:=Lib.hid (show F=false by rw [HF.out];exact decide_eq_false (by omega))
   go_enter Tryz.func117,Tryz.ntmps117
   go_wp2_with fail
   refine (gmay_any H.out).mono ?_
   rintro e w1 ⟨rfl,rfl⟩
   rw [h0]
   go_wp2_with fail
   go_ret
   exact ⟨by rw [HE.out];rfl,Below.refl _ _⟩
  ·by_cases h2:1<n
   ·have HE:=Lib.hid (show F=false by rw [HF.out];exact decide_eq_false (by omega))
    go_enter Tryz.func117,Tryz.ntmps117
    go_wp2_with fail
    refine (gmay_any H.out).mono ?_
    rintro e w1 ⟨rfl,rfl⟩
    rw [h0]
    go_wp2_with fail
    refine (most_eight _).mono ?_
    rintro e w1 ⟨rfl,rfl⟩
    go_wp2_with fail
    go_ret
    exact ⟨by rw [HE.out];rfl,Below.refl _ _⟩
   ·obtain rfl:n=1:=by omega
    have hsub:IntKind.i64.wrap (7 - (g.used:Int))=7 - (g.used:Int):=IntWalk.i64_in _ (by omega)
    have hs1:secsOf 1=3:=by decide
    clear h1 h2
    go_enter Tryz.func117,Tryz.ntmps117
    go_wp2_with fail
    refine (gmay_any H.out).mono ?_
    rintro e w1 ⟨rfl,rfl⟩
    rw [h0]
    go_wp2_with fail
    refine (most_eight _).mono ?_
    rintro e w1 ⟨rfl,rfl⟩
    go_wp2_with fail
    refine (secs_any 1 _).mono ?_
    rintro e w1 ⟨rfl,rfl⟩
    rw [hs1]
    go_wp2_with fail
    refine (gsize_any H.out).mono ?_
    rintro e w1 ⟨rfl,rfl⟩
    go_wp2_with fail
    refine (gused_any H.out hl HU.out).mono ?_
    rintro e w1 ⟨rfl,hb1⟩
    have HB1:=Lib.hid hb1
    clear hb1
    have HE:=Lib.hid (show F=decide ((3:Int)≤7 - (g.used:Int)) by rw [HF.out];by_cases hq:3+g.used≤7 <;> simp [h0,hq] <;> omega)
    go_wp2_with fail
    go_ret
    exact ⟨by rw [HE.out];rfl,HB1.out⟩
 ·have t1:(g.mayE != 0)=true:=bne_iff_ne.2 h0
  have HE:=Lib.hid (show F=false by rw [HF.out];exact decide_eq_false (by omega))
  clear h0
  go_enter Tryz.func117,Tryz.ntmps117
  go_wp2_with fail
  refine (gmay_any H.out).mono ?_
  rintro e w1 ⟨rfl,rfl⟩
  go_wp2_with fail
  go_ret
  exact ⟨by rw [HE.out];rfl,Below.refl _ _⟩
end
structure Tame (D:Dk) (k:Nat):Prop where
 sectors:D.sectors=37
 waits:D.waits.length≤k
 seq:D.seq≤k
 wf:D.wf
theorem Calm.tame {D:Dk} {k:Nat} (h:Calm D k):Tame D k:=⟨h.sectors,h.waits,h.seq,h.wf⟩
section
variable {D:Dk} {k:Nat}
theorem Tame.mono (h:Tame D k) {m:Nat} (hm:k≤m):Tame D m:=⟨h.sectors,Nat.le_trans h.waits hm,Nat.le_trans h.seq hm,h.wf⟩
theorem Tame.settle (h:Tame D k) (n:Int):Tame (D.settle n) k:=by
 obtain ⟨a1,a2,a3,a4,a5,a6,a7⟩:=settle_same D n
 exact ⟨a3.trans h.sectors,Nat.le_trans (settle_waits D n) h.waits,a7▸h.seq,settle_wf h.wf n⟩
theorem Tame.goes (h:Tame D k):Tame D.goes.2 k:=by
 obtain ⟨a1,a2,_,_,_,a6⟩:=goes_keeps D
 exact ⟨a1.trans h.sectors,Nat.le_trans a6 h.waits,by rw [a2];exact h.seq,goes_wf h.wf⟩
theorem Tame.barrier (h:Tame D k) (n:Int) (e:Nat):Tame (D.barrier n e).2 k:=by
 unfold Dk.barrier
 split
 ·exact h
 ·split
  ·exact h
  ·split
   ·exact h.goes
   ·exact h.goes.settle n
theorem Tame.write (h:Tame D k) (n:Int) (e:Nat) (at_:Int) (data:ByteArray):Tame (D.write n e at_ data).2 (k+data.size / 64):=by
 unfold Dk.write
 split
 ·exact h.mono (by omega)
 ·split
  ·exact h.mono (by omega)
  ·split
   ·exact h.mono (by omega)
   ·split
    ·exact h.mono (by omega)
    ·split
     ·exact h.goes.mono (by omega)
     ·have hg:=h.goes
      obtain ⟨a1,a2,a3,_,_,_,_,a8,a9⟩:=writeN_same D.goes.2 n at_ data (data.size / 64)
      exact ⟨a3.trans hg.sectors,by have:=hg.waits;simp only;omega,by have:=hg.seq;simp only;omega,writeN_wf hg.wf n at_ data _ (by omega)⟩
end
def Dk.lhead (D:Dk) (g:Lg) (h:Hd):Int×Dk:=if h.putE≠0 then (h.putE,D) else if (D.write g.node g.epoch g.base h.putS).1≠0 then D.write g.node g.epoch g.base h.putS else (D.write g.node g.epoch g.base h.putS).2.barrier g.node g.epoch
theorem puts_size (h:Hd):h.putS.size≤64:=by
 unfold Hd.putS
 split
 ·exact Nat.zero_le _
 ·rw [str_size,headL_len]
  omega
theorem Tame.lhead {D:Dk} {k:Nat} (ht:Tame D k) (g:Lg) (h:Hd):Tame (D.lhead g h).2 (k+1):=by
 have hs:=puts_size h
 unfold Dk.lhead
 split
 ·exact ht.mono (by omega)
 ·split
  ·exact (ht.write _ _ _ _).mono (by omega)
  ·exact ((ht.write _ _ _ _).barrier _ _).mono (by omega)
def putGo (g:Lg) (x:En):Nat→Nat→Dk→Int×Dk
 | 0,_,D=>(0,D)
 | f+1,i,D=>if x.n≤i then (0,D) else
    if (D.write g.node g.epoch ((g.base+1+(x.at_+i) % 7:Nat):Int) (x.bytes.extract (i*64) ((i+min (x.n - i) (7 - (x.at_+i) % 7))*64))).1≠0 then D.write g.node g.epoch ((g.base+1+(x.at_+i) % 7:Nat):Int) (x.bytes.extract (i*64) ((i+min (x.n - i) (7 - (x.at_+i) % 7))*64))
    else putGo g x f (i+min (x.n - i) (7 - (x.at_+i) % 7)) (D.write g.node g.epoch ((g.base+1+(x.at_+i) % 7:Nat):Int) (x.bytes.extract (i*64) ((i+min (x.n - i) (7 - (x.at_+i) % 7))*64))).2
def Dk.put_ (D:Dk) (g:Lg) (x:En):Int×Dk:=putGo g x x.n 0 D
theorem LogAt.four {o:Nat→Nat} {c p q:Nat} {w:World} {g:Lg} (h:LogAt o c w q g p):w.cell? ⟨q,0,none⟩=some (.pointer (some ⟨p,0,none⟩))∧w.cell? ⟨q,6,none⟩=some (.int .i64 g.node)∧w.cell? ⟨q,7,none⟩=some (.int .u64 g.epoch)∧w.cell? ⟨q,8,none⟩=some (.int .i64 g.base):=by
 obtain ⟨r,hb,_,_⟩:=h
 exact ⟨hb.cell 0,hb.cell 6,hb.cell 7,hb.cell 8⟩
theorem LogAt.three {o:Nat→Nat} {c p q:Nat} {w:World} {g:Lg} (h:LogAt o c w q g p):w.cell? ⟨q,0,none⟩=some (.pointer (some ⟨p,0,none⟩))∧w.cell? ⟨q,6,none⟩=some (.int .i64 g.node)∧w.cell? ⟨q,7,none⟩=some (.int .u64 g.epoch):=⟨h.four.1,h.four.2.1,h.four.2.2.1⟩
section
variable {o:Nat→Nat} {c cd p q k:Nat} {w:World} {g:Lg} {D:Dk}
set_option maxRecDepth 100000 in
set_option maxHeartbeats 4000000 in
theorem ghead_any (h:LogAt o c w q g p) (hd:DiskAt o cd w p D) (ht:Tame D k) (hk:k≤800000) (hcd:1≤cd) (hc:cd+5<c) (he:g.epoch<18446744073709551616) (lsn:Nat) (hl:lsn<18446744073709551616) (at_:Int) :
 Calls Tryz.prog 55 #[.pointer (some ⟨q,0,none⟩), .int .u64 lsn, .int .i64 at_] w fun e w'=>e = .returned (.int .i64 (D.lhead g ⟨g.epoch,lsn,at_⟩).1)∧∃o',DiskAt o' cd w' p (D.lhead g ⟨g.epoch,lsn,at_⟩).2∧Step o (six cd) w o' w':=by
 have H:=Lib.hid h
 have HD:=Lib.hid hd
 have HT:=Lib.hid ht
 obtain ⟨x0,x6,x7,x8⟩:=h.four
 have HN1:=Lib.hid (show ¬six cd c by unfold six;omega)
 have HN2:=Lib.hid (show ¬six cd (c+1) by unfold six;omega)
 have HK:=Lib.hid hk
 have HCD:=Lib.hid hcd
 have HE:=Lib.hid he
 have HL:=Lib.hid hl
 have HDE:=Lib.hid (show D.lhead g ⟨g.epoch,lsn,at_⟩=if (Hd.mk g.epoch lsn at_).putE≠0 then ((Hd.mk g.epoch lsn at_).putE,D) else if (D.write g.node g.epoch g.base (Hd.mk g.epoch lsn at_).putS).1≠0 then D.write g.node g.epoch g.base (Hd.mk g.epoch lsn at_).putS else (D.write g.node g.epoch g.base (Hd.mk g.epoch lsn at_).putS).2.barrier g.node g.epoch from rfl)
 have HPS:=Lib.hid (puts_size ⟨g.epoch,lsn,at_⟩)
 clear h hd ht hk hcd hc he hl
 go_enter Tryz.func55,Tryz.ntmps55
 go_wp2_with fail
 refine (puthead_any ⟨g.epoch,lsn,at_⟩ _ HE.out HL.out).mono ?_
 rintro e w1 ⟨rfl,hb1⟩
 have H1:=Lib.hid (H.out.below_ hb1)
 have HD1:=Lib.hid (HD.out.below_ hb1)
 have HS1:=Lib.hid (Step.of_below o (six cd) hb1)
 clear hb1 x0 x6 x7 x8
 obtain ⟨E,hE⟩:∃E,(Hd.mk g.epoch lsn at_).putE=E:=⟨_,rfl⟩
 obtain ⟨S,hS⟩:∃S,(Hd.mk g.epoch lsn at_).putS=S:=⟨_,rfl⟩
 rw [hE,hS] at HDE
 rw [hS] at HPS
 rw [hE,hS]
 clear hE hS
 by_cases h0:E=0
 ·subst h0
  have HD2:=Lib.hid (show D.lhead g ⟨g.epoch,lsn,at_⟩=if (D.write g.node g.epoch g.base S).1≠0 then D.write g.node g.epoch g.base S else (D.write g.node g.epoch g.base S).2.barrier g.node g.epoch by rw [HDE.out];rfl)
  clear HDE
  go_upto_region 4 with (fail)
  have x4:=H1.out.drew.four
  go_region_held3 (fun w'=>w'.cell? ⟨q,0,none⟩=some (.pointer (some ⟨p,0,none⟩))∧w'.cell? ⟨q,6,none⟩=some (.int .i64 g.node)∧w'.cell? ⟨q,7,none⟩=some (.int .u64 g.epoch)∧w'.cell? ⟨q,8,none⟩=some (.int .i64 g.base))
   (first | exact x4 | exact hx2.four | go_keep)
   (first | (go_at_call 112;((with_reducible refine (dwrite_calm HD1.out.drew g.node g.epoch g.base S (by have:=HT.out.waits;have:=HK.out;omega) (by rw [HT.out.sectors];omega) (by have:=HT.out.seq;have:=HK.out;omega) (by have:=HPS.out;omega) HCD.out).mono ?_);rintro e2 w2 ⟨rfl,o2,hd2,hs2⟩;have hx2:=H1.out.drew.step hs2 HN1.out HN2.out)))
  have H2:=Lib.hid hx2
  have HD2':=Lib.hid hd2
  have HS2:=Lib.hid (HS1.out.trans (hs2.of_drew))
  have HT2:=Lib.hid (HT.out.write g.node g.epoch g.base S)
  clear hx2 hd2 hs2 x4
  obtain ⟨F,hF⟩:∃F,D.write g.node g.epoch g.base S=F:=⟨_,rfl⟩
  rw [hF] at HD2 HD2' HT2 ⊢
  obtain ⟨F,D2⟩:=F
  simp only at HD2' HT2 ⊢
  clear hF
  by_cases h1:F=0
  ·subst h1
   have HR:=Lib.hid (show D.lhead g ⟨g.epoch,lsn,at_⟩=D2.barrier g.node g.epoch by rw [HD2.out];simp)
   clear HD2
   go_upto_region 7 with (fail)
   have x3:=H2.out.drew.three
   go_region_held3 (fun w'=>w'.cell? ⟨q,0,none⟩=some (.pointer (some ⟨p,0,none⟩))∧w'.cell? ⟨q,6,none⟩=some (.int .i64 g.node)∧w'.cell? ⟨q,7,none⟩=some (.int .u64 g.epoch))
    (first | exact x3 | exact hx3.three | go_keep)
    (first | (go_at_call 80;((with_reducible refine (dbarrier_calm HD2'.out.drew g.node g.epoch (by have:=HT2.out.waits;have:=HK.out;have:=HPS.out;omega)).mono ?_);rintro e3 w3 ⟨rfl,o3,hd3,hs3⟩;have hx3:=H2.out.drew.step hs3 HN1.out HN2.out)))
   have HD3:=Lib.hid hd3
   have HS3:=Lib.hid (HS2.out.trans hs3.of_drew)
   clear hx3 hd3 hs3 x3
   go_wp2_with fail
   go_ret
   exact ⟨by rw [HR.out];rfl,o3,by rw [HR.out];exact HD3.out,HS3.out⟩
  ·have t1:(F != 0)=true:=bne_iff_ne.2 h1
   have HR:=Lib.hid (show D.lhead g ⟨g.epoch,lsn,at_⟩=(F,D2) by rw [HD2.out,if_pos h1])
   clear h1
   go_wp2_with fail
   go_ret
   exact ⟨by rw [HR.out];rfl,o2,by rw [HR.out];exact HD2'.out,HS2.out⟩
 ·have t1:(E != 0)=true:=bne_iff_ne.2 h0
  have HR:=Lib.hid (show D.lhead g ⟨g.epoch,lsn,at_⟩=(E,D) by rw [HDE.out,if_pos h0])
  clear h0
  go_wp2_with fail
  go_ret
  exact ⟨by rw [HR.out];rfl,o,by rw [HR.out];exact HD1.out,HS1.out⟩
theorem putGo_le {g:Lg} {x:En} {f i:Nat} {D:Dk} (h:x.n≤i):putGo g x f i D=(0,D):=by
 cases f with
 | zero=>rfl
 | succ f=>exact if_pos h
set_option maxRecDepth 100000 in
set_option maxHeartbeats 4000000 in
theorem gput_any (h:LogAt o c w q g p) (hd:DiskAt o cd w p D) (ht:Tame D k) (hk:k≤700000) (hcd:1≤cd) (hc:cd+5<c) (hf:Fut o w) (hb:g.base≤1000) (x:En) (ha:x.at_<7) (hn:x.n≤7) (hs:x.bytes.size=x.n*64) :
 Calls Tryz.prog 126 #[.pointer (some ⟨q,0,none⟩),x.agg] w fun e w'=>e = .returned (.int .i64 (D.put_ g x).1)∧∃o',DiskAt o' cd w' p (D.put_ g x).2∧Tame (D.put_ g x).2 (k+x.n)∧Step o (six cd) w o' w':=by
 have H:=Lib.hid (h.alloc (.cells #[.int .u64 x.lsn, .int .i64 x.at_, .int .i64 x.n, .string x.bytes, .bool x.written] 126))
 have HD:=Lib.hid (hd.alloc (.cells #[.int .u64 x.lsn, .int .i64 x.at_, .int .i64 x.n, .string x.bytes, .bool x.written] 126))
 have HX:=Lib.hid (Keep.new hf 126 #[.int .u64 x.lsn, .int .i64 x.at_, .int .i64 x.n, .string x.bytes, .bool x.written])
 have HS:=Lib.hid ((Step.refl o (six cd) w).alloc (.cells #[.int .u64 x.lsn, .int .i64 x.at_, .int .i64 x.n, .string x.bytes, .bool x.written] 126))
 have HT:=Lib.hid ht
 have HN0:=Lib.hid (no_six hcd)
 have HN1:=Lib.hid (show ¬six cd c by unfold six;omega)
 have HN2:=Lib.hid (show ¬six cd (c+1) by unfold six;omega)
 have HK:=Lib.hid hk
 have HCD:=Lib.hid hcd
 have HBA:=Lib.hid hb
 have HA:=Lib.hid ha
 have HN:=Lib.hid hn
 have HSZ:=Lib.hid hs
 have HPE:=Lib.hid (show D.put_ g x=putGo g x x.n 0 D from rfl)
 generalize D.put_ g x=R at HPE ⊢
 unfold En.agg
 clear h hd ht hk hcd hc hb ha hn hs hf
 go_enter Tryz.func126,Tryz.ntmps126
 go_wp2_with fail
 generalize w.alloc (.cells #[.int .u64 x.lsn, .int .i64 x.at_, .int .i64 x.n, .string x.bytes, .bool x.written] 126)=W at H HD HX HS ⊢
 generalize w.heap.size=X at HX ⊢
 go_loopw [5] (fun t5 wr=>∃(i f:Nat) (D1:Dk) (o1:Nat→Nat),i≤x.n∧t5 = .int .i64 i∧DiskAt o1 cd wr p D1∧Tame D1 (k+i)∧Step o (six cd) w o1 wr∧LogAt o1 c wr q g p∧Keep o1 wr X 126 #[.int .u64 x.lsn, .int .i64 x.at_, .int .i64 x.n, .string x.bytes, .bool x.written]∧x.n≤i+f∧R=putGo g x f i D1) (fun t5 _=>x.n - (intOf t5).toNat)
 case atStart=>exact ⟨0,x.n,D,o,by omega,rfl,HD.out,HT.out,HS.out,H.out,HX.out,by omega,HPE.out⟩
 case round =>
  obtain ⟨i,f,D1,o1,hi,rfl,hd,ht,hs,hh,hx,hf,hr⟩:=hrel
  have HD1:=Lib.hid hd
  have HT1:=Lib.hid ht
  have HS1:=Lib.hid hs
  have H1:=Lib.hid hh
  have HX1:=Lib.hid hx
  have HF:=Lib.hid hf
  have HR:=Lib.hid hr
  have y1:wr.cell? ⟨X,1,none⟩=some (.int .i64 x.at_):=hx.1.cell 1
  have y2:wr.cell? ⟨X,2,none⟩=some (.int .i64 x.n):=hx.1.cell 2
  have y3:wr.cell? ⟨X,3,none⟩=some (.string x.bytes):=hx.1.cell 3
  clear hd ht hs hh hx hf hr
  by_cases hlt:i<x.n
  ·have hltI:(i:Int)<(x.n:Int):=by omega
   obtain ⟨s,hs⟩:∃s,x.at_+i=s:=⟨_,rfl⟩
   obtain ⟨a,ha⟩:∃a,s % 7=a:=⟨_,rfl⟩
   have e1:IntKind.i64.wrap ((x.at_:Int)+(i:Int))=(s:Int):=by rw [IntWalk.i64_in _ (by have:=HA.out;have:=HN.out;omega)];omega
   have e2:((s:Int)).tmod 7=(a:Int):=by rw [Int.tmod_eq_emod_of_nonneg (by omega)];omega
   have ea:IntKind.i64.wrap (a:Int)=(a:Int):=IntWalk.i64_in _ (by omega)
   have hal:a<7:=by omega
   obtain ⟨rr,hrr⟩:∃rr,x.n - i=rr:=⟨_,rfl⟩
   obtain ⟨b,hbb⟩:∃b,7 - a=b:=⟨_,rfl⟩
   have e3:IntKind.i64.wrap ((x.n:Int) - (i:Int))=(rr:Int):=by rw [IntWalk.i64_in _ (by have:=HN.out;omega)];omega
   have e4:IntKind.i64.wrap (7 - (a:Int))=(b:Int):=by rw [IntWalk.i64_in _ (by omega)];omega
   obtain ⟨n,hn⟩:∃n,min rr b=n:=⟨_,rfl⟩
   have e5:min (min 16 (rr:Int)) (b:Int)=(n:Int):=by have:=HN.out;omega
   have e6:(if (b:Int)<if (rr:Int)<16 then (rr:Int) else 16 then (b:Int) else if (rr:Int)<16 then (rr:Int) else 16)=(n:Int):=by
    have:=HN.out
    rw [if_pos (show (rr:Int)<16 by omega)]
    split <;> omega
   have HAA:=Lib.hid ha
   have HAS:=Lib.hid hs
   have HRR:=Lib.hid hrr
   have HB_:=Lib.hid hbb
   have HNN:=Lib.hid hn
   have HAL:=Lib.hid hal
   clear ha hs hrr hbb hn hal
   go_upto_region 3 with (fail)
   have z1:wr.drew.cell? ⟨X,1,none⟩=some (.int .i64 x.at_):=y1
   go_region_held3 (fun w'=>w'.cell? ⟨X,1,none⟩=some (.int .i64 x.at_)) (first | exact z1 | go_keep) (first | (go_at_call 120;((with_reducible refine (gsize_any H1.out.drew).mono ?_);rintro e2 w2 ⟨rfl,rfl⟩)))
   go_upto_region 4 with (fail)
   have z2:wr.drew.drew.cell? ⟨X,2,none⟩=some (.int .i64 x.n):=y2
   go_region_held3 (fun w'=>w'.cell? ⟨X,2,none⟩=some (.int .i64 x.n)) (first | exact z2 | go_keep) (first | (go_at_call 120;((with_reducible refine (gsize_any H1.out.drew.drew).mono ?_);rintro e2 w2 ⟨rfl,rfl⟩)))
   clear e1 e2 e3 e4 e5 e6 ea y1 y2 z1 z2
   obtain ⟨lo,hlo⟩:∃lo,i*64=lo:=⟨_,rfl⟩
   obtain ⟨hi',hhi⟩:∃hi',(i+n)*64=hi':=⟨_,rfl⟩
   obtain ⟨m,hm⟩:∃m,i+n=m:=⟨_,rfl⟩
   obtain ⟨B,hB⟩:∃B,g.base+1+a=B:=⟨_,rfl⟩
   have hmn:m≤x.n:=by have:=HNN.out;have:=HRR.out;omega
   have b0:(0:Int)≤(lo:Int):=by omega
   have b1:(lo:Int)≤(hi':Int):=by omega
   have b2:(hi':Int)≤(x.bytes.size:Int):=by have:=HSZ.out;omega
   have w1:IntKind.i64.wrap ((i:Int)*64)=(lo:Int):=by rw [IntWalk.i64_in _ (by have:=HN.out;omega)];omega
   have w2:IntKind.i64.wrap ((i:Int)+(n:Int))=(m:Int):=by rw [IntWalk.i64_in _ (by have:=HN.out;omega)];omega
   have w3:IntKind.i64.wrap ((m:Int)*64)=(hi':Int):=by rw [IntWalk.i64_in _ (by have:=HN.out;omega)];omega
   have w4:IntKind.i64.wrap ((g.base:Int)+1)=(g.base:Int)+1:=IntWalk.i64_in _ (by have:=HBA.out;omega)
   have w5:IntKind.i64.wrap ((g.base:Int)+1+(a:Int))=(B:Int):=by rw [IntWalk.i64_in _ (by have:=HBA.out;have:=HAL.out;omega)];omega
   have HMN:=Lib.hid hmn
   have HMI:=Lib.hid (show i<m by have:=HNN.out;have:=HRR.out;have:=HB_.out;have:=HAL.out;omega)
   have hds:(x.bytes.extract lo hi').size=n*64:=by rw [ByteArray.size_extract];have:=HSZ.out;omega
   obtain ⟨S,hS⟩:∃S,x.bytes.extract lo hi'=S:=⟨_,rfl⟩
   rw [hS] at hds
   obtain ⟨f',hf'⟩:∃f',f=f'+1:=⟨f - 1,by have:=HF.out;omega⟩
   have HRS:=Lib.hid (show R=if (D1.write g.node g.epoch (B:Int) S).1≠0 then D1.write g.node g.epoch (B:Int) S else putGo g x f' m (D1.write g.node g.epoch (B:Int) S).2 by
    have h1:=HR.out
    rw [hf'] at h1
    have h2:putGo g x (f'+1) i D1=if x.n≤i then (0,D1) else if (D1.write g.node g.epoch ((g.base+1+(x.at_+i) % 7:Nat):Int) (x.bytes.extract (i*64) ((i+min (x.n - i) (7 - (x.at_+i) % 7))*64))).1≠0 then D1.write g.node g.epoch ((g.base+1+(x.at_+i) % 7:Nat):Int) (x.bytes.extract (i*64) ((i+min (x.n - i) (7 - (x.at_+i) % 7))*64))
     else putGo g x f' (i+min (x.n - i) (7 - (x.at_+i) % 7)) (D1.write g.node g.epoch ((g.base+1+(x.at_+i) % 7:Nat):Int) (x.bytes.extract (i*64) ((i+min (x.n - i) (7 - (x.at_+i) % 7))*64))).2:=rfl
    rw [h2,if_neg (by omega),HAS.out,HAA.out,HRR.out,HB_.out,HNN.out,hB,hlo,hhi,hS,hm] at h1
    exact h1)
   have HFF:=Lib.hid (show x.n≤m+f' by have:=HF.out;have:=HMI.out;omega)
   have HDS:=Lib.hid hds
   have HME:=Lib.hid hm
   clear hlo hhi hm hB hmn hds hf'
   have x4:=H1.out.drew.drew.drew.four
   have z3:wr.drew.drew.drew.cell? ⟨X,3,none⟩=some (.string x.bytes):=y3
   clear y3
   go_upto_region 5 with (fail)
   go_region_held3 (fun w'=>w'.cell? ⟨q,0,none⟩=some (.pointer (some ⟨p,0,none⟩))∧w'.cell? ⟨q,6,none⟩=some (.int .i64 g.node)∧w'.cell? ⟨q,7,none⟩=some (.int .u64 g.epoch)∧w'.cell? ⟨q,8,none⟩=some (.int .i64 g.base)∧w'.cell? ⟨X,3,none⟩=some (.string x.bytes))
    (first | exact ⟨x4.1,x4.2.1,x4.2.2.1,x4.2.2.2,z3⟩ | exact ⟨hx2.four.1,hx2.four.2.1,hx2.four.2.2.1,hx2.four.2.2.2,hk2.1.cell 3⟩ | go_keep)
    (first | (go_at_call 112;((with_reducible refine (dwrite_calm HD1.out.drew.drew.drew g.node g.epoch (B:Int) S (by have:=HT1.out.waits;have:=HK.out;have:=HN.out;omega) (by rw [HT1.out.sectors];omega) (by have:=HT1.out.seq;have:=HK.out;have:=HN.out;omega) (by have:=HDS.out;have:=HN.out;have:=HMN.out;have:=HNN.out;have:=HRR.out;omega) HCD.out).mono ?_);rintro e2 w2 ⟨rfl,o2,hd2,hs2⟩;have hx2:=H1.out.drew.drew.drew.step hs2 HN1.out HN2.out;have hk2:=HX1.out.drew.drew.drew.step hs2 HN0.out)))
   have H2:=Lib.hid hx2
   have HX2:=Lib.hid hk2
   have HD2:=Lib.hid hd2
   have HS2:=Lib.hid (HS1.out.trans (hs2.of_drewN (n:=3)))
   have HT2:=Lib.hid ((HT1.out.write g.node g.epoch (B:Int) S).mono (m:=k+m) (by rw [HDS.out,Nat.mul_div_cancel _ (by omega),←HME.out];omega))
   clear hx2 hk2 hd2 hs2 x4 z3 w1 w3 w4 w5 b0 b1 b2 hS
   obtain ⟨F,hF⟩:∃F,D1.write g.node g.epoch (B:Int) S=F:=⟨_,rfl⟩
   rw [hF] at HRS HD2 HT2 ⊢
   obtain ⟨F,D2⟩:=F
   simp only at HD2 HT2 ⊢
   clear hF
   by_cases h1:F=0
   ·subst h1
    have HR2:=Lib.hid (show R=putGo g x f' m D2 by rw [HRS.out];simp)
    clear HRS
    go_wp2_with fail
    go_roundw
    case rel=>exact ⟨m,f',D2,o2,HMN.out,by go_num,HD2.out,HT2.out,HS2.out,H2.out,HX2.out,HFF.out,HR2.out⟩
    case measure=>have:=HMI.out;have:=HMN.out;simp [intOf];omega
   ·have t1:(F != 0)=true:=bne_iff_ne.2 h1
    have HR2:=Lib.hid (show R=(F,D2) by rw [HRS.out,if_pos h1])
    clear h1 HRS
    go_wp2_with fail
    go_ret
    exact ⟨by rw [HR2.out];rfl,o2,by rw [HR2.out];exact HD2.out,by rw [HR2.out];exact HT2.out.mono (by have:=HMN.out;omega),HS2.out⟩
  ·have hltI:¬(i:Int)<(x.n:Int):=by omega
   have HR2:=Lib.hid (show R=(0,D1) by rw [HR.out,putGo_le (by omega)])
   go_wp2_with fail
   go_ret
   exact ⟨by rw [HR2.out];rfl,o1,by rw [HR2.out];exact HD1.out,by rw [HR2.out];exact HT1.out.mono (by omega),HS1.out⟩
end
end Go.Proofs.YtldoeodkeieejaaGreatDoor
