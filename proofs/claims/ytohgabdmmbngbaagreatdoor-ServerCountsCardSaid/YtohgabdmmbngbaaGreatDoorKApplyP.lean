import Derived.Test.YtohgabdmmbngbaaGreatDoorKRecE
import Derived.Test.YtohgabdmmbngbaaGreatDoorKDiskF
import Derived.Test.YtohgabdmmbngbaaGreatDoorKBlkD
set_option linter.unusedVariables false
set_option linter.unusedSimpArgs false
namespace Go.Proofs.YtohgabdmmbngbaaGreatDoor
open Go.RowKit
theorem trim_zero (s:ByteArray) (w:World) (hs:s.size≤1000000000):Calls Tryz.prog 216 #[.string s, .string ⟨#[0]⟩] w fun e w'=>e = .returned (.string ⟨(Lib.trimB s.data.toList 0).toArray⟩)∧Below w.heap.size w w':=by
 refine (Tryz.strings_Trim_one s 0 (by decide) w (by omega)).mono ?_
 rintro e w2 ⟨rfl,hw2⟩
 refine ⟨rfl,?_⟩
 rcases hw2 with rfl | rfl
 ·exact Below.refl _ _
 ·exact ⟨rfl,rfl,rfl,Nat.le_refl _,fun _ _=>rfl⟩
theorem readE_le {D:Dk}:D.wf→∀at_:Int,(D.readS at_ 1).size≤64:=fun h at_=>readS_size h at_ 1
set_option maxRecDepth 100000 in
set_option maxHeartbeats 4000000 in
theorem ehead_any {o:Nat→Nat} {c p:Nat} {w:World} {D:Dk} (h:DiskAt o c w p D) (hsec:D.sectors≤20000) (hwf:D.wf) (node:Int) :
 Calls Tryz.prog 170 #[.pointer (some ⟨p,0,none⟩), .agg #[.int .i64 3, .int .i64 12, .int .i64 12, .int .i64 6, .int .i64 32], .int .i64 node] w fun e w'=>e = .returned (.tuple #[(D.headH node).agg, .bool (D.headI node), .int .i64 (D.headE node)])∧Below w.heap.size w w':=by
 have hB0:=(Below.refl w.heap.size w).alloc (Nat.le_refl _) (.cells #[.int .i64 3, .int .i64 12, .int .i64 12, .int .i64 6, .int .i64 32] 27)
 have HL:=Lib.hid ((Blk.new w 27 #[.int .i64 3, .int .i64 12, .int .i64 12, .int .i64 6, .int .i64 32]).alloc (.cells #[.int .u64 0, .int .u64 0, .int .i64 0] 194))
 have HZ:=Lib.hid (Blk.new (w.alloc (.cells #[.int .i64 3, .int .i64 12, .int .i64 12, .int .i64 6, .int .i64 32] 27)) 194 #[.int .u64 0, .int .u64 0, .int .i64 0])
 have HB:=Lib.hid (hB0.alloc hB0.size (.cells #[.int .u64 0, .int .u64 0, .int .i64 0] 194))
 have HD:=Lib.hid ((h.alloc (.cells #[.int .i64 3, .int .i64 12, .int .i64 12, .int .i64 6, .int .i64 32] 27)).alloc (.cells #[.int .u64 0, .int .u64 0, .int .i64 0] 194))
 rw [show (w.alloc (.cells #[.int .i64 3, .int .i64 12, .int .i64 12, .int .i64 6, .int .i64 32] 27)).heap.size=w.heap.size+1 by simp] at HZ
 obtain ⟨g,hg⟩:∃g,g=w.heap.size+1:=⟨_,rfl⟩
 obtain ⟨gl,hgl⟩:∃g,g=w.heap.size:=⟨_,rfl⟩
 have HG:=Lib.hid (show w.heap.size≤g by omega)
 have HNE:=Lib.hid (show gl≠g by omega)
 have HW:=Lib.hid hwf
 have HSB:=Lib.hid (show (D.headB node).size≤1000000000 by have:(D.headB node).size≤64:=readE_le hwf _;omega)
 have HHE:=Lib.hid (show D.headE1 node=if (logAt node).2≠0 then (logAt node).2 else D.readE (logAt node).1 1 from rfl)
 have HHB:=Lib.hid (show D.readS (logAt node).1 1=D.headB node from rfl)
 have fin:∀(W:World) (x:Hd) (i:Bool) (e:Int),Blk W g 194 #[.int .u64 x.epoch, .int .u64 x.lsn, .int .i64 x.at_]→Below w.heap.size w W→D.headH node=x→D.headI node=i→D.headE node=e →
  Blk W g 194 #[.int .u64 x.epoch, .int .u64 x.lsn, .int .i64 x.at_]∧Below w.heap.size w W∧Ending.returned (.tuple #[.agg #[.int .u64 x.epoch, .int .u64 x.lsn, .int .i64 x.at_], .bool i, .int .i64 e]) = .returned (.tuple #[(D.headH node).agg, .bool (D.headI node), .int .i64 (D.headE node)]):=fun W x i e h1 h2 h3 h4 h5=>⟨h1,h2,by rw [h3,h4,h5];rfl⟩
 have FIN:=Lib.hid fin
 have bad:∀e,D.headE1 node=e→e≠0→D.headH node=Hd.zero∧D.headI node=false∧D.headE node=e:=fun e h1 h2=>⟨if_neg (fun h=>h2 (h1▸h.1)),decide_eq_false (fun h=>h2 (h1▸h.1)),by unfold Dk.headE;rw [h1,if_pos h2]⟩
 have BAD:=Lib.hid bad
 clear h hwf hB0 fin bad
 go_enter Tryz.func170,Tryz.ntmps170
 go_wp2_with fail
 rw [←hg] at HZ ⊢
 rw [←hgl] at HL ⊢
 generalize (w.alloc (.cells #[.int .i64 3, .int .i64 12, .int .i64 12, .int .i64 6, .int .i64 32] 27)).alloc (.cells #[.int .u64 0, .int .u64 0, .int .i64 0] 194)=W at HL HZ HB HD ⊢
 clear hg hgl
 refine (logat_any node W).mono ?_
 rintro r w1 ⟨rfl,hb1⟩
 have HD1:=Lib.hid (HD.out.below_ hb1)
 have HB1:=Lib.hid (HB.out.trans (hb1.mono HB.out.size))
 have HZ1:=Lib.hid (HZ.out.below_ hb1)
 have HL1:=Lib.hid (HL.out.below_ hb1)
 clear hb1
 obtain ⟨A,hA⟩:∃A,logAt node=A:=⟨_,rfl⟩
 rw [hA] at HHE HHB ⊢
 obtain ⟨a,E⟩:=A
 simp only at HHE HHB ⊢
 clear hA
 by_cases h0:E=0
 ·subst h0
  go_wp2_with fail
  refine (dread_any HD1.out a 1 hsec HW.out).mono ?_
  rintro r w2 ⟨rfl,hb2⟩
  have HB2:=Lib.hid (HB1.out.trans (hb2.mono HB1.out.size))
  have HZ2:=Lib.hid (HZ1.out.below_ hb2)
  have HL2:=Lib.hid (HL1.out.below_ hb2)
  clear hb2
  obtain ⟨F,hF⟩:∃F,D.readE a 1=F:=⟨_,rfl⟩
  rw [hF] at HHE ⊢
  rw [HHB.out]
  clear hF
  obtain ⟨b,hb⟩:∃b,D.headB node=b:=⟨_,rfl⟩
  rw [hb] at HSB ⊢
  have HHB2:=Lib.hid hb
  clear hb
  by_cases h1:F=0
  ·subst h1
   have HE1:=Lib.hid (show D.headE1 node=0 by rw [HHE.out];rfl)
   go_wp2_with fail
   refine (gethead_any b w2 HSB.out).mono ?_
   rintro r w3 ⟨rfl,hb3⟩
   obtain ⟨X,hX⟩:∃X,lhG b=X:=⟨_,rfl⟩
   obtain ⟨Q,hQ⟩:∃Q,lhE b=Q:=⟨_,rfl⟩
   obtain ⟨xe,xl,xa⟩:=X
   rw [hX,hQ]
   unfold Hd.agg
   have HLX:=Lib.hid hX
   have HLQ:=Lib.hid hQ
   have hBa:=HB2.out.trans (hb3.mono HB2.out.size)
   have HB3:=Lib.hid (hBa.alloc hBa.size (.cells #[.int .u64 xe, .int .u64 xl, .int .i64 xa] 194))
   have HZ3:=Lib.hid ((HZ2.out.below_ hb3).alloc (.cells #[.int .u64 xe, .int .u64 xl, .int .i64 xa] 194))
   have HL3:=Lib.hid ((HL2.out.below_ hb3).alloc (.cells #[.int .u64 xe, .int .u64 xl, .int .i64 xa] 194))
   have HX3:=Lib.hid (Blk.new w3 194 #[.int .u64 xe, .int .u64 xl, .int .i64 xa])
   have HXG:=Lib.hid (show w3.heap.size≠g from (Nat.ne_of_lt (HZ2.out.below_ hb3).lt).symm)
   clear hb3 hBa hX hQ
   by_cases hq:Q=0
   ·subst hq
    have r1:D.headH node=⟨xe,xl,xa⟩:=by unfold Dk.headH;rw [HHB2.out,if_pos ⟨HE1.out,HLQ.out⟩];exact HLX.out
    have r2:D.headI node=decide (xa<11):=by
     unfold Dk.headI
     rw [HHB2.out,HE1.out,HLQ.out,HLX.out]
     simp
    have r3:D.headE node=0:=by unfold Dk.headE;rw [HHB2.out,HE1.out,if_neg (by decide),HLQ.out,if_pos rfl]
    have HR:=Lib.hid (show D.headH node=⟨xe,xl,xa⟩∧D.headI node=decide (xa<11)∧D.headE node=0 from ⟨r1,r2,r3⟩)
    clear r1 r2 r3
    go_upto_region 11 with (fail)
    generalize w3.alloc (.cells #[.int .u64 xe, .int .u64 xl, .int .i64 xa] 194)=W3 at HB3 HZ3 HL3 HX3 ⊢
    generalize w3.heap.size=gX at HX3 HXG ⊢
    obtain ⟨x0,x1,x2⟩:=HX3.out.drew.three
    obtain ⟨y0,y1,y2⟩:=HZ3.out.three
    have f0:=HZ3.out.frozen 0
    have f1:=HZ3.out.frozen 1
    have f2:=HZ3.out.frozen 2
    have hw7:IntKind.i64.wrap 11=11:=by rw [IntKind.wrap_i64];decide
    have l2:W3.drew.cell? ⟨gl,2,none⟩=some (.int .i64 12):=HL3.out.cell 2
    have hxk:=(((HX3.out.drew.far (p:=⟨g,0,none⟩) HXG.out (.int .u64 xe)).far (p:=⟨g,1,none⟩) HXG.out (.int .u64 xl)).far (p:=⟨g,2,none⟩) HXG.out (.int .i64 xa)).three
    have hlk:((((W3.drew.setCell ⟨g,0,none⟩ (.int .u64 xe)).setCell ⟨g,1,none⟩ (.int .u64 xl)).setCell ⟨g,2,none⟩ (.int .i64 xa)).cell? ⟨gl,2,none⟩)=some (.int .i64 12):=(((HL3.out.drew.far (p:=⟨g,0,none⟩) HNE.out (.int .u64 xe)).far (p:=⟨g,1,none⟩) HNE.out (.int .u64 xl)).far (p:=⟨g,2,none⟩) HNE.out (.int .i64 xa)).cell 2
    go_region_held3 (fun w'=>w'.cell? ⟨gX,0,none⟩=some (.int .u64 xe)∧w'.cell? ⟨gX,1,none⟩=some (.int .u64 xl)∧w'.cell? ⟨gX,2,none⟩=some (.int .i64 xa)∧w'.cell? ⟨gl,2,none⟩=some (.int .i64 12))
     (first | exact ⟨x0,x1,x2,l2⟩ | exact ⟨hxk.1,hxk.2.1,hxk.2.2,hlk⟩ | go_keep)
     (fail)
    all_goals
     try go_wp2_with fail
     obtain ⟨r1,r2,r3⟩:=HR.out
     obtain ⟨hz4,hb4,he⟩:=FIN.out _ ⟨xe,xl,xa⟩ (decide (xa<11)) 0 (HZ3.out.put3 (.int .u64 xe) (.int .u64 xl) (.int .i64 xa)).drew (below_drew' (below_put3 HB3.out HG.out _ _ _)) r1 r2 r3
     rw [←he]
     generalize (((W3.setCell ⟨g,0,none⟩ (.int .u64 xe)).setCell ⟨g,1,none⟩ (.int .u64 xl)).setCell ⟨g,2,none⟩ (.int .i64 xa)).drew=WE at hz4 hb4 ⊢
     obtain ⟨q0,q1,q2⟩:=hz4.three
     exact bodyPost_ret (v := .tuple #[.agg #[.int .u64 xe, .int .u64 xl, .int .i64 xa], .bool (decide (xa<11)), .int .i64 0]) (by simp [results,Tryz.results170,go_sem,q0,q1,q2]) rfl ⟨rfl,hb4⟩
   ·have t1:(Q == 0)=false:=beq_eq_false_iff_ne.2 hq
    have r1:D.headH node=Hd.zero:=by unfold Dk.headH;rw [HHB2.out,if_neg (fun h=>hq (HLQ.out▸h.2))]
    have r2:D.headI node=false:=by unfold Dk.headI;rw [HHB2.out];exact decide_eq_false (fun h=>hq (HLQ.out▸h.2.1))
    have r3:D.headE node=if allZero b then 0 else 15:=by unfold Dk.headE;rw [HHB2.out,HE1.out,if_neg (by decide),HLQ.out,if_neg hq]
    have HR:=Lib.hid (show D.headH node=Hd.zero∧D.headI node=false from ⟨r1,r2⟩)
    have HR3:=Lib.hid r3
    have HBZ:=Lib.hid (show b.size≤1000000000 from HSB.out)
    clear r1 r2 r3 hq
    go_wp2_with fail
    generalize w3.alloc (.cells #[.int .u64 xe, .int .u64 xl, .int .i64 xa] 194)=W3 at HB3 HZ3 HL3 HX3 ⊢
    refine (trim_zero b W3 HBZ.out).mono ?_
    rintro r w4 ⟨rfl,hb4⟩
    have HB4:=Lib.hid (HB3.out.trans (hb4.mono HB3.out.size))
    have HZ4:=Lib.hid (HZ3.out.below_ hb4)
    clear hb4
    obtain ⟨y0,y1,y2⟩:=HZ4.out.three
    have f0:=HZ4.out.frozen 0
    have f1:=HZ4.out.frozen 1
    have f2:=HZ4.out.frozen 2
    by_cases hz:allZero b
    ·have e2:Lib.trimB b.data.toList 0 = []:=(trim_nil _).2 hz
     have HE:=Lib.hid (show D.headE node=0 by rw [HR3.out,if_pos hz])
     rw [e2]
     clear e2 hz
     go_wp2_with fail
     obtain ⟨r1,r2⟩:=HR.out
     obtain ⟨hz4,hb5,he⟩:=FIN.out _ Hd.zero false 0 (HZ4.out.put3 (.int .u64 0) (.int .u64 0) (.int .i64 0)) (below_put3 HB4.out HG.out _ _ _) r1 r2 HE.out
     rw [←he]
     clear y0 y1 y2 f0 f1 f2
     generalize ((w4.setCell ⟨g,0,none⟩ (.int .u64 0)).setCell ⟨g,1,none⟩ (.int .u64 0)).setCell ⟨g,2,none⟩ (.int .i64 0)=WE at hz4 hb5 ⊢
     obtain ⟨q0,q1,q2⟩:=hz4.three
     exact bodyPost_ret (v := .tuple #[.agg #[.int .u64 0, .int .u64 0, .int .i64 0], .bool false, .int .i64 0]) (by simp [results,Tryz.results170,go_sem,q0,q1,q2,Hd.zero]) rfl ⟨rfl,hb5⟩
    ·have e2:¬Lib.trimB b.data.toList 0 = []:=fun h=>hz ((trim_nil _).1 h)
     have HE:=Lib.hid (show D.headE node=15 by rw [HR3.out,if_neg hz])
     have e4:(Lib.trimB b.data.toList 0).isEmpty=false:=by simpa using e2
     generalize Lib.trimB b.data.toList 0=t at e2 e4 ⊢
     clear hz
     go_wp2_with fail
     obtain ⟨r1,r2⟩:=HR.out
     obtain ⟨hz4,hb5,he⟩:=FIN.out _ Hd.zero false 15 (HZ4.out.put3 (.int .u64 0) (.int .u64 0) (.int .i64 0)) (below_put3 HB4.out HG.out _ _ _) r1 r2 HE.out
     rw [←he]
     clear y0 y1 y2 f0 f1 f2
     generalize ((w4.setCell ⟨g,0,none⟩ (.int .u64 0)).setCell ⟨g,1,none⟩ (.int .u64 0)).setCell ⟨g,2,none⟩ (.int .i64 0)=WE at hz4 hb5 ⊢
     obtain ⟨q0,q1,q2⟩:=hz4.three
     exact bodyPost_ret (v := .tuple #[.agg #[.int .u64 0, .int .u64 0, .int .i64 0], .bool false, .int .i64 15]) (by simp [results,Tryz.results170,go_sem,q0,q1,q2,Hd.zero]) rfl ⟨rfl,hb5⟩
  ·have t1:(F != 0)=true:=bne_iff_ne.2 h1
   obtain ⟨r1,r2,r3⟩:=BAD.out F (by rw [HHE.out];rfl) h1
   obtain ⟨y0,y1,y2⟩:=HZ2.out.three
   have f0:=HZ2.out.frozen 0
   have f1:=HZ2.out.frozen 1
   have f2:=HZ2.out.frozen 2
   have HR:=Lib.hid (show D.headH node=Hd.zero∧D.headI node=false∧D.headE node=F from ⟨r1,r2,r3⟩)
   clear h1 r1 r2 r3
   go_wp2_with fail
   obtain ⟨r1,r2,r3⟩:=HR.out
   obtain ⟨hz4,hb5,he⟩:=FIN.out _ Hd.zero false F (HZ2.out.put3 (.int .u64 0) (.int .u64 0) (.int .i64 0)) (below_put3 HB2.out HG.out _ _ _) r1 r2 r3
   rw [←he]
   clear y0 y1 y2 f0 f1 f2
   generalize ((w2.setCell ⟨g,0,none⟩ (.int .u64 0)).setCell ⟨g,1,none⟩ (.int .u64 0)).setCell ⟨g,2,none⟩ (.int .i64 0)=WE at hz4 hb5 ⊢
   obtain ⟨q0,q1,q2⟩:=hz4.three
   exact bodyPost_ret (v := .tuple #[.agg #[.int .u64 0, .int .u64 0, .int .i64 0], .bool false, .int .i64 F]) (by simp [results,Tryz.results170,go_sem,q0,q1,q2,Hd.zero]) rfl ⟨rfl,hb5⟩
 ·have t1:(E != 0)=true:=bne_iff_ne.2 h0
  obtain ⟨r1,r2,r3⟩:=BAD.out E (by rw [HHE.out,if_pos h0]) h0
  obtain ⟨y0,y1,y2⟩:=HZ1.out.three
  have f0:=HZ1.out.frozen 0
  have f1:=HZ1.out.frozen 1
  have f2:=HZ1.out.frozen 2
  have HR:=Lib.hid (show D.headH node=Hd.zero∧D.headI node=false∧D.headE node=E from ⟨r1,r2,r3⟩)
  clear h0 r1 r2 r3
  go_wp2_with fail
  obtain ⟨r1,r2,r3⟩:=HR.out
  obtain ⟨hz4,hb5,he⟩:=FIN.out _ Hd.zero false E (HZ1.out.put3 (.int .u64 0) (.int .u64 0) (.int .i64 0)) (below_put3 HB1.out HG.out _ _ _) r1 r2 r3
  rw [←he]
  clear y0 y1 y2 f0 f1 f2
  generalize ((w1.setCell ⟨g,0,none⟩ (.int .u64 0)).setCell ⟨g,1,none⟩ (.int .u64 0)).setCell ⟨g,2,none⟩ (.int .i64 0)=WE at hz4 hb5 ⊢
  obtain ⟨q0,q1,q2⟩:=hz4.three
  exact bodyPost_ret (v := .tuple #[.agg #[.int .u64 0, .int .u64 0, .int .i64 0], .bool false, .int .i64 E]) (by simp [results,Tryz.results170,go_sem,q0,q1,q2,Hd.zero]) rfl ⟨rfl,hb5⟩
structure Tame (D:Dk) (k:Nat):Prop where
 sectors:D.sectors=61
 waits:D.waits.length≤k
 seq:D.seq≤k
 wf:D.wf
theorem Calm.tame {D:Dk} {k:Nat} (h:Calm D k):Tame D k:=⟨h.sectors,h.waits,h.seq,h.wf⟩
structure ApR where
 n:Nat
 e:Int
 D:Dk
def tornE (e:Int):Bool:=decide (e=6∨e=4)
def applyGo (node:Int) (epoch:Nat):List Im→Nat→Dk→ApR
 | [],n,D=>⟨n,0,D⟩
 | i :: l,n,D=>if (D.load i.block).2≠0∧tornE (D.load i.block).2=false then ⟨0,(D.load i.block).2,D⟩
   else if tornE (D.load i.block).2=false∧i.ver≤(D.load i.block).1.ver then applyGo node epoch l n D
   else if (D.store node epoch i).1≠0 then ⟨0,(D.store node epoch i).1,(D.store node epoch i).2⟩
   else applyGo node epoch l (n+1) (D.store node epoch i).2
def applyR (D:Dk) (node:Int) (epoch:Nat) (l:List Im):ApR :=
 if (applyGo node epoch l 0 D).e≠0 then applyGo node epoch l 0 D else if (applyGo node epoch l 0 D).n=0 then applyGo node epoch l 0 D
 else if ((applyGo node epoch l 0 D).D.barrier node epoch).1≠0 then ⟨0,((applyGo node epoch l 0 D).D.barrier node epoch).1,((applyGo node epoch l 0 D).D.barrier node epoch).2⟩
 else ⟨(applyGo node epoch l 0 D).n,0,((applyGo node epoch l 0 D).D.barrier node epoch).2⟩
def runR (D:Dk) (node:Int) (of_:Nat) (by_:Int) (epoch:Nat):ApR :=
 if D.headE node≠0 then ⟨0,D.headE node,D⟩ else if D.headI node=false∨(D.headH node).epoch≠of_ then ⟨0,0,D⟩
 else if D.scanE node≠0 then ⟨0,D.scanE node,D⟩
 else if (applyR D by_ epoch (planOf (D.scan node))).e≠0 then ⟨0,(applyR D by_ epoch (planOf (D.scan node))).e,(applyR D by_ epoch (planOf (D.scan node))).D⟩
 else if ((applyR D by_ epoch (planOf (D.scan node))).D.write by_ epoch (logAt node).1 (str (zer 64))).1≠0 then ⟨0,((applyR D by_ epoch (planOf (D.scan node))).D.write by_ epoch (logAt node).1 (str (zer 64))).1,((applyR D by_ epoch (planOf (D.scan node))).D.write by_ epoch (logAt node).1 (str (zer 64))).2⟩
 else if (((applyR D by_ epoch (planOf (D.scan node))).D.write by_ epoch (logAt node).1 (str (zer 64))).2.barrier by_ epoch).1≠0 then ⟨0,(((applyR D by_ epoch (planOf (D.scan node))).D.write by_ epoch (logAt node).1 (str (zer 64))).2.barrier by_ epoch).1,(((applyR D by_ epoch (planOf (D.scan node))).D.write by_ epoch (logAt node).1 (str (zer 64))).2.barrier by_ epoch).2⟩
 else ⟨(applyR D by_ epoch (planOf (D.scan node))).n,0,(((applyR D by_ epoch (planOf (D.scan node))).D.write by_ epoch (logAt node).1 (str (zer 64))).2.barrier by_ epoch).2⟩
end Go.Proofs.YtohgabdmmbngbaaGreatDoor
