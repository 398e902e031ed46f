import Derived.Test.YtldoeodkeieejaaGreatDoorKRefR
import Derived.Test.YtldoeodkeieejaaGreatDoorKReadyS
namespace Go.Proofs.YtldoeodkeieejaaGreatDoor
open Go.RowKit
def Ms.trim (S:Ms):Ms := {S with R:=S.R.trim}
def made0 : Ms:=⟨(readyD.lhead lg0 ⟨9,1,0⟩).2,((RF.of readyR).lhead 1 9 1 ⟨9,1,0⟩).2,lg0,XL.new 9⟩
def madeS (l:List LOp):Ms:=l.foldl (fun S x=>(x.doS S).trim) made0
theorem madeS_succ {l:List LOp} {i:Nat} {x:LOp} (h:l[i]? = some x):madeS (l.take (i+1))=(x.doS (madeS (l.take i))).trim:=by
 unfold madeS
 rw [List.take_add_one,h,Option.toList_some,List.foldl_append]
 rfl
theorem new_sim : LSim lg0 (XL.new 9) 0∧XOk (XL.new 9) 0:=by
 refine ⟨⟨[],[],?_⟩,?_⟩
 ·exact {
   node:=rfl
   epoch:=rfl
   next:=rfl
   first:=rfl
   at_:=rfl
   written:=rfl
   synced:=rfl
   broken:=rfl
   dirty:=rfl
   le:=Nat.le_refl _
   lt:=Nat.lt_succ_self 0
   nxt:=Nat.le_refl _
   rows:=rfl
   wait:=rfl
   live:=rfl
   rise:=List.Pairwise.nil
   fresh:=fun k hk=>by cases hk}
 ·exact ⟨rfl,rfl,(fun y hy=>by cases hy),Nat.le_refl _,Nat.zero_le _,by decide⟩
set_option maxRecDepth 100000 in
theorem made_first : Mad made0 100 0∧NineD made0.D∧((RF.of readyR).lhead 1 9 1 ⟨9,1,0⟩).1=0∧Fit (RF.of readyR) 1:=by
 obtain ⟨h1,h2⟩:=ready_sim
 obtain ⟨lv,e0,ha⟩:=lv_open
 have hv:=readyV
 have hl0:(RF.of readyR).leftOk:=by
  unfold RF.leftOk
  show (0:Int)≤_
  omega
 obtain ⟨a,b,c⟩:=h1.lhead hl0 lg0 ⟨9,1,0⟩
 have hf0:Fit (RF.of readyR) 1:=⟨h1.room.symm.trans hv.calm.sectors,h2.ws,Nat.zero_le _,fun e=>by cases e⟩
 have ht:Tame (readyD.lhead lg0 ⟨9,1,0⟩).2 100:=(hv.openV.2.calm.tame).mono (by omega)
 have hF:Fit ((RF.of readyR).lhead 1 9 1 ⟨9,1,0⟩).2 100:=(hf0.lhead 1 9 1 ⟨9,1,0⟩).more (by omega)
 have h2':Both2 (readyD.lhead lg0 ⟨9,1,0⟩).2 ((RF.of readyR).lhead 1 9 1 ⟨9,1,0⟩).2 100:=⟨b,ht,hF,c⟩
 have hx:LSim lg0 (XL.new 9) 0∧XOk (XL.new 9) 0:=new_sim
 refine ⟨⟨h2',hx.1,hx.2,rfl⟩,?_,a.symm.trans e0,hf0⟩
 ·have key:∀(k:Int) (s:ByteArray),k=1→AA (([]:List Im).take lg0.written) (fun H=>H=lg0.first) lg0.first lg0.synced k s→Nine9 s:=by
   intro k s hk hA
   obtain ⟨H,rfl,e⟩:=hA.head hk
   rw [e]
   intro _
   unfold hdB
   rw [(hd_put (hd_ok (show 1≤lg0.first from Nat.le_refl 1) (Nat.mod_lt _ (by decide))) (show 9<18446744073709551616 by decide) (show lg0.first<18446744073709551616 by decide)).2]
  have hsafe:=lv.run.safe
  have hsane:=lv.run.sane
  refine ⟨fun t ht => ?_,fun x hx => ?_,fun x hx h1 => ?_⟩
  ·have:=hsafe.sec hsane 1
   unfold Dk.sec at this
   have ht:(readyD.lhead lg0 ⟨9,1,0⟩).2.now 1=some t:=ht
   rw [ht,Option.getD_some] at this
   exact key 1 t rfl this
  ·have:=hsafe.last 1
   have hx:(readyD.lhead lg0 ⟨9,1,0⟩).2.lasts 1=some x:=hx
   unfold lsec lastD at this
   rw [hx] at this
   exact key 1 x.data rfl this
  ·exact key x.at_ x.data h1 (hsafe.wait x hx)
theorem Mad.trim {S:Ms} {k m:Nat} (h:Mad S k m):Mad S.trim k m:=⟨h.two.trim,h.sim,h.ok,h.base⟩
def Quiet5 (l:List LOp):Prop:=∀x∈l,x.kind=5→x.d.kind≠1
theorem nine_step {S:Ms} {k m:Nat} (h:Mad S k m) (hn:NineD S.D) (x:LOp) (hv:x.v<18446744073709551616) (hx:x.kind=5→x.d.kind≠1):NineD (x.doS S).D:=by
 unfold LOp.doS
 split
 ·exact hn
 split
 ·exact (hn.writeR h.base).1
 split
 ·exact hn.syncR h.base
 split
 ·exact hn.freeR h.base h.facts.2.2.2.2.1 hv
 split
 ·rename_i h5
  exact hn.step S.R x.d (hx h5)
 ·exact hn
section
variable {o o':Nat→Nat} {p q r s k k' m m':Nat} {C:Nat→Prop} {W w w':World} {S:Ms}
theorem rftrim_at {R:RF} {c:Nat} (h:RFAt o c w p R) (hl:R.ws.length≤100000) :
 Calls Tryz.prog 23 #[.pointer (some ⟨p,0,none⟩)] w fun e w'=>e = .returned (.tuple #[])∧∃o',RFAt o' c w' p R.trim∧Step o (cutF c) w o' w':=by
 obtain ⟨kv,hr,ho⟩:=h
 refine (rftrim_any hr hl).mono ?_
 rintro e w1 ⟨rfl,o1,h1,hs⟩
 exact ⟨rfl,o1,⟨kv,h1,ho.step hs (by unfold cutF;omega)⟩,hs⟩
theorem MadAt.trim (h:MadAt o w p q r s S) (hr:RFAt o' 10 w' r S.R.trim) (hs:Step o (cutF 10) w o' w'):MadAt o' w' p q r s S.trim :=
 ⟨h.disk.step hs (by unfold cutF;omega),h.log.step hs (by unfold cutF;omega) (by unfold cutF;omega),hr,h.xlog.step hs (by unfold cutF;omega) (by unfold cutF;omega)⟩
theorem nz_cutF : ∀x,cutF 10 x→nz x:=fun x hx=>by unfold cutF at hx;unfold nz;omega
def MadePost (W:World) (l:List LOp) (e:Ending) (w':World):Prop :=
 ∃p r,e = .returned (.tuple #[.pointer (some ⟨p,0,none⟩), .pointer (some ⟨r,0,none⟩), .agg #[.int .i64 2, .int .i64 10, .int .i64 8, .int .i64 4, .int .i64 32], .bool true])∧∃(o':Nat→Nat) (q s:Nat),MadAt o' w' p q r s (madeS l)∧Mad (madeS l) 50000 61∧(Quiet5 l→NineD (madeS l).D)∧Fut o' w'∧Step (fun _=>0) nz W o' w'
set_option maxRecDepth 100000 in
set_option maxHeartbeats 8000000 in
theorem made_any (l:List LOp) (vs:List (Value×Value)) (A:Option Addr) (cap:Nat) (hs0:Step (fun _=>0) nz W (fun _=>0) w) (hrd:OpsRd W A l vs) (hlt:LightL l) (hin:∀o∈l,o.InB) :
 Calls Tryz.prog 6 #[.slice A l.length cap] w (MadePost W l):=by
 have HR:=Lib.hid hrd
 have HLL:=Lib.hid hlt
 have HIN:=Lib.hid hin
 have hN0:(l.length:Int)≤60:=by have:=hlt.1;omega
 have hf0:Fut (fun _=>0) w:=fun _ _=>rfl
 have HX0:=Lib.hid (Keep.new hf0 30 #[.int .i64 0, .int .i64 0, .int .i64 0, .int .i64 0, .int .i64 0])
 have HF0:=Lib.hid (hf0.alloc (.cells #[.int .i64 0, .int .i64 0, .int .i64 0, .int .i64 0, .int .i64 0] 30))
 have HS0:=Lib.hid (hs0.alloc (.cells #[.int .i64 0, .int .i64 0, .int .i64 0, .int .i64 0, .int .i64 0] 30))
 have HG4:=Lib.hid hs0.size
 clear hrd hlt hin hs0 hf0
 go_enter Tryz.func6,Tryz.ntmps6
 go_upto_region 1 with (fail)
 generalize w.alloc (.cells #[.int .i64 0, .int .i64 0, .int .i64 0, .int .i64 0, .int .i64 0] 30)=W0 at HX0 HF0 HS0 ⊢
 generalize w.heap.size=g4 at HX0 HG4 ⊢
 go_wp2_with fail
 refine (ready_any (cd:=1) (cr:=10) HF0.out (by omega) (by omega)).mono ?_
 rintro e w1 ⟨p,r,rfl,o1,hd,hr,hs⟩
 have hf1:=HF0.out.step hs
 have HX:=Lib.hid (Keep.new hf1 30 #[.int .i64 2, .int .i64 10, .int .i64 8, .int .i64 4, .int .i64 32])
 have HX1:=Lib.hid ((HX0.out.step hs (by unfold readyC six logL;omega)).alloc (.cells #[.int .i64 2, .int .i64 10, .int .i64 8, .int .i64 4, .int .i64 32] 30))
 have HD:=Lib.hid (hd.alloc (.cells #[.int .i64 2, .int .i64 10, .int .i64 8, .int .i64 4, .int .i64 32] 30))
 have HRF:=Lib.hid ((RFAt.of hr).alloc (.cells #[.int .i64 2, .int .i64 10, .int .i64 8, .int .i64 4, .int .i64 32] 30))
 have HF1:=Lib.hid (hf1.alloc (.cells #[.int .i64 2, .int .i64 10, .int .i64 8, .int .i64 4, .int .i64 32] 30))
 have HS1:=Lib.hid ((HS0.out.trans (hs.mono nz_ready)).alloc (.cells #[.int .i64 2, .int .i64 10, .int .i64 8, .int .i64 4, .int .i64 32] 30))
 clear hd hr hs hf1 HF0 HS0 HX0
 go_upto_region 4 with (fail)
 generalize w1.alloc (.cells #[.int .i64 2, .int .i64 10, .int .i64 8, .int .i64 4, .int .i64 32] 30)=W1 at HX HX1 HD HRF HF1 HS1 ⊢
 generalize w1.heap.size=gl at HX ⊢
 have HV:=Lib.hid readyV
 obtain ⟨m1,m2,m3,m4⟩:=made_first
 have HM:=Lib.hid m1
 have HN0:=Lib.hid m2
 have HME:=Lib.hid m3
 have HMF:=Lib.hid m4
 clear m1 m2 m3 m4
 obtain ⟨s0,s1,s2,s3,s4⟩:=HX.out.1.five
 go_wp2_with fail
 refine (gopen_any (c:=20) HD.out HV.out.calm.tame (by omega) (by omega) (by omega) HF1.out 1 9 1 rfl (by omega) HV.out.openV.1).mono ?_
 rintro e w2 ⟨q,rfl,o2,hd,hl,hs⟩
 have HD2:=Lib.hid hd
 have HL2:=Lib.hid hl
 have HX2:=Lib.hid (HX.out.step hs (no_six (by omega)))
 have HX12:=Lib.hid (HX1.out.step hs (no_six (by omega)))
 have HF2:=Lib.hid (HF1.out.step hs)
 have HS2:=Lib.hid (HS1.out.trans (hs.mono (nz_six 1 (by omega))))
 have HRF2:=Lib.hid (HRF.out.step hs (by unfold three six;omega))
 clear hd hl hs HD HX HX1 HF1 HS1 HRF s0 s1 s2 s3 s4
 obtain ⟨s0,s1,s2,s3,s4⟩:=HX2.out.1.five
 go_wp2_with fail
 refine (xlopen_any (c:=30) HRF2.out HMF.out (by omega) ap_log 9 (by omega) HME.out).mono ?_
 rintro e w3 ⟨s,rfl,hsz,o3,hr3,hl3,hs3⟩
 have HB3:=Lib.hid (show MadAt o3 w3 p q r s made0 from ⟨HD2.out.step hs3 (by unfold cutF;omega),HL2.out.step hs3 (by unfold cutF;omega) (by unfold cutF;omega),hr3,hl3⟩)
 have HX3:=Lib.hid (HX2.out.step hs3 (by unfold cutF;omega))
 have HX13:=Lib.hid (HX12.out.step hs3 (by unfold cutF;omega))
 have HF3:=Lib.hid (HF2.out.step hs3)
 have HS3:=Lib.hid (HS2.out.trans (hs3.mono nz_cutF))
 clear hsz hr3 hl3 hs3 HD2 HL2 HX2 HX12 HF2 HS2 HRF2 HME HMF HV s0 s1 s2 s3 s4
 go_wp2_with fail
 go_loopg [14] l.length (fun n t14 wr=>∃(i:Nat) (o:Nat→Nat),n+i=l.length∧t14 = .int .i64 (i:Nat)∧MadAt o wr p q r s (madeS (l.take i))∧Mad (madeS (l.take i)) (100+800*i) i∧(Quiet5 l→NineD (madeS (l.take i)).D)∧Keep o wr gl 30 #[.int .i64 2, .int .i64 10, .int .i64 8, .int .i64 4, .int .i64 32]∧Keep o wr g4 30 #[.int .i64 0, .int .i64 0, .int .i64 0, .int .i64 0, .int .i64 0]∧Fut o wr∧Step (fun _=>0) nz W o wr)
 case atStart=>exact ⟨0,o3,by omega,rfl,HB3.out,HM.out,(fun _=>HN0.out),HX3.out,HX13.out,HF3.out,HS3.out⟩
 case round =>
  obtain ⟨i,o4,hni,rfl,hat,hm,hnn,hx,hx1,hf,hs⟩:=hrel
  have HNI:=Lib.hid hni
  have HB:=Lib.hid hat
  have HMM:=Lib.hid hm
  have HXX:=Lib.hid hx
  have HXY:=Lib.hid hx1
  have HFF:=Lib.hid hf
  have HSS:=Lib.hid hs
  have HNN:=Lib.hid hnn
  clear hnn hni hat hm hx hx1 hf hs HB3 HX3 HX13 HF3 HS3 HM
  by_cases hlt:i<l.length
  ·have hltI:(i:Int)<(l.length:Int):=by omega
   have HI60:=Lib.hid (show i≤59 by have:=HLL.out.1;omega)
   obtain ⟨x,hx⟩:∃x,l[i]? = some x:=⟨_,List.getElem?_eq_getElem hlt⟩
   have HSU:=Lib.hid (madeS_succ hx)
   have HIX:=Lib.hid (HIN.out x (List.mem_of_getElem? hx))
   have HMX:=Lib.hid (List.mem_of_getElem? hx)
   have HLX:=Lib.hid (HLL.out.2 x (List.mem_of_getElem? hx))
   obtain ⟨B,cp,C,cq,hvs,⟨hxr,hxc,hxm⟩,hkr⟩:=HR.out.at_ hx
   obtain ⟨ad,rfl,hc⟩:=(HR.out.inz HSS.out).row hx hvs
   have HXR:=Lib.hid hxr
   have HXC:=Lib.hid hxc
   have HXM:=Lib.hid hxm
   have HKR:=Lib.hid hkr
   have y0:wr.cell? (ad.add (i*12))=some (.int .i64 x.kind):=hc 0 _ rfl
   have y1:wr.cell? ⟨(ad.add (i*12)).block,(ad.add (i*12)).off+1,none⟩=some (.int .i64 x.n):=hc 1 _ rfl
   have y2:wr.cell? ⟨(ad.add (i*12)).block,(ad.add (i*12)).off+2,none⟩=some (.int .u64 x.v):=hc 2 _ rfl
   have y3:wr.cell? ⟨(ad.add (i*12)).block,(ad.add (i*12)).off+3,none⟩=some (.slice B x.l.length cp):=hc 3 _ rfl
   have y4:wr.cell? ⟨(ad.add (i*12)).block,(ad.add (i*12)).off+4,none⟩=some (.int .i64 x.d.kind):=hc 4 _ rfl
   have y5:wr.cell? ⟨(ad.add (i*12)).block,(ad.add (i*12)).off+5,none⟩=some (.int .i64 x.d.node):=hc 5 _ rfl
   have y6:wr.cell? ⟨(ad.add (i*12)).block,(ad.add (i*12)).off+6,none⟩=some (.int .i64 x.d.at_):=hc 6 _ rfl
   have y7:wr.cell? ⟨(ad.add (i*12)).block,(ad.add (i*12)).off+7,none⟩=some (.int .i64 x.d.n):=hc 7 _ rfl
   have y8:wr.cell? ⟨(ad.add (i*12)).block,(ad.add (i*12)).off+8,none⟩=some (.int .u64 x.d.epoch):=hc 8 _ rfl
   have y9:wr.cell? ⟨(ad.add (i*12)).block,(ad.add (i*12)).off+9,none⟩=some (.string x.d.data):=hc 9 _ rfl
   have y10:wr.cell? ⟨(ad.add (i*12)).block,(ad.add (i*12)).off+10,none⟩=some (.slice C x.d.keep.length cq):=hc 10 _ rfl
   have y11:wr.cell? ⟨(ad.add (i*12)).block,(ad.add (i*12)).off+11,none⟩=some (.bool x.d.own):=hc 11 _ rfl
   clear hx hvs hc hxr hxc hxm hkr
   go_wp2_with fail
   refine (do13_any HB.out HMM.out (by have:=HI60.out;omega) (by have:=HI60.out;omega) HFF.out x HIX.out HLX.out.1 HLX.out.2 B cp ⟨HXC.out,HXM.out⟩ C cq (fun o' w' hs=>(HSS.out.trans hs).inzE (by omega) HXR.out) (fun o' w' hs=>(HSS.out.trans hs).inzE (by omega) HKR.out)).mono ?_
   rintro e5 w5 ⟨rfl,o5,hb5,hm5,hs5⟩
   have HB5:=Lib.hid hb5
   have HM5:=Lib.hid hm5
   have HX5:=Lib.hid (HXX.out.step hs5 (by unfold nz;omega))
   have HY5:=Lib.hid (HXY.out.step hs5 (by unfold nz;omega))
   have HF5:=Lib.hid (HFF.out.step hs5)
   have HS5:=Lib.hid (HSS.out.trans hs5)
   clear hb5 hm5 hs5 y0 y1 y2 y3 y4 y5 y6 y7 y8 y9 y10 y11
   go_wp2_with fail
   refine (rftrim_at HB5.out.ref (Nat.le_trans HM5.out.two.fit.len (by have:=HI60.out;omega))).mono ?_
   rintro e6 w6 ⟨rfl,o6,hr6,hs6⟩
   have HB6:=Lib.hid (show MadAt o6 w6 p q r s (madeS (l.take (i+1))) by rw [HSU.out];exact HB5.out.trim hr6 hs6)
   have HM6:=Lib.hid (show Mad (madeS (l.take (i+1))) (100+800*(i+1)) (i+1) by rw [HSU.out];exact HM5.out.trim)
   have HN6:=Lib.hid (show Quiet5 l→NineD (madeS (l.take (i+1))).D by rw [HSU.out];exact fun hq=>nine_step HMM.out (HNN.out hq) x HIX.out.v (hq x HMX.out))
   have HX6:=Lib.hid (HX5.out.step hs6 (by unfold cutF;omega))
   have HY6:=Lib.hid (HY5.out.step hs6 (by unfold cutF;omega))
   have HF6:=Lib.hid (HF5.out.step hs6)
   have HS6:=Lib.hid (HS5.out.trans (hs6.mono nz_cutF))
   clear hr6 hs6
   go_wp2_with fail
   go_roundg (l.length - (i+1))
   case measure=>have:=HNI.out;omega
   case rel=>exact ⟨i+1,o6,by omega,by go_num,HB6.out,HM6.out,HN6.out,HX6.out,HY6.out,HF6.out,HS6.out⟩
  ·have hltI:¬(i:Int)<(l.length:Int):=by omega
   have HEQ:=Lib.hid (show l.take i=l by rw [List.take_of_length_le (by omega)])
   have HI60:=Lib.hid (show i≤60 by have:=HLL.out.1;have:=HNI.out;omega)
   rw [HEQ.out] at HB HMM HNN
   obtain ⟨s0,s1,s2,s3,s4⟩:=HXX.out.1.five
   obtain ⟨u0,u1,u2,u3,u4⟩:=HXY.out.1.five
   have f0:=HXY.out.1.frozen 0
   have f1:=HXY.out.1.frozen 1
   have f2:=HXY.out.1.frozen 2
   have f3:=HXY.out.1.frozen 3
   have f4:=HXY.out.1.frozen 4
   go_upto_region 14 with (fail)
   go_region
   have S5:=((((((Step.refl o4 (only 0) wr).setCell (p:=⟨g4,0,none⟩) HXY.out.2 (.int .i64 2)).setCell (p:=⟨g4,1,none⟩) HXY.out.2 (.int .i64 10)).setCell (p:=⟨g4,2,none⟩) HXY.out.2 (.int .i64 8)).setCell (p:=⟨g4,3,none⟩) HXY.out.2 (.int .i64 4)).setCell (p:=⟨g4,4,none⟩) HXY.out.2 (.int .i64 32)).drew
   have HX15:=Lib.hid ((HXY.out.1.put5 (.int .i64 2) (.int .i64 10) (.int .i64 8) (.int .i64 4) (.int .i64 32)).drew)
   have HB15:=Lib.hid (HB.out.step S5 (by unfold only;omega))
   have HF15:=Lib.hid (HFF.out.step S5)
   have HT15:=Lib.hid (((((((HSS.out).setNew (p:=⟨g4,0,none⟩) HG4.out (.int .i64 2)).setNew (p:=⟨g4,1,none⟩) HG4.out (.int .i64 10)).setNew (p:=⟨g4,2,none⟩) HG4.out (.int .i64 8)).setNew (p:=⟨g4,3,none⟩) HG4.out (.int .i64 4)).setNew (p:=⟨g4,4,none⟩) HG4.out (.int .i64 32)).drew)
   have HM15:=Lib.hid (HMM.out.more (k':=50000) (m':=61) (by have:=HI60.out;omega) (by have:=HI60.out;omega))
   clear S5 s0 s1 s2 s3 s4 u0 u1 u2 u3 u4 f0 f1 f2 f3 f4
   generalize ((((((wr).setCell ⟨g4,0,none⟩ (.int .i64 2)).setCell ⟨g4,1,none⟩ (.int .i64 10)).setCell ⟨g4,2,none⟩ (.int .i64 8)).setCell ⟨g4,3,none⟩ (.int .i64 4)).setCell ⟨g4,4,none⟩ (.int .i64 32)).drew=WE at HX15 HB15 HF15 HT15 ⊢
   obtain ⟨q0,q1,q2,q3,q4⟩:=HX15.out.five
   go_wp2_with fail
   exact bodyPost_ret (v := .tuple #[.pointer (some ⟨p,0,none⟩), .pointer (some ⟨r,0,none⟩), .agg #[.int .i64 2, .int .i64 10, .int .i64 8, .int .i64 4, .int .i64 32], .bool true]) (by simp [results,Tryz.results6,go_sem,q0,q1,q2,q3,q4]) rfl ⟨p,r,rfl,o4,q,s,HB15.out,HM15.out,HNN.out,HF15.out,HT15.out⟩
end
section
variable {D:Dk} {g:Lg}
theorem last_keep (D:Dk) (x:Ws):(D.keep x).last=D.last:=by unfold Dk.keep;split <;> rfl
theorem last_settle (D:Dk) (n:Int):(D.settle n).last=D.last:=(settle_same D n).2.2.2.1
theorem last_cutN (D:Dk) (keep:List Int):∀k,(D.cutN keep k).last=D.last
 | 0=>rfl
 | k+1=>by
   have ih:=last_cutN D keep k
   unfold Dk.cutN
   cases hx:D.waits[k]? with
   | none=>exact ih
   | some x =>
     simp only
     split
     ·rw [last_keep]
      exact ih
     ·exact ih
theorem last_cut (D:Dk) (keep:List Int):(D.cut keep).2.last=D.last:=by
 unfold Dk.cut
 split
 ·rfl
 ·show ((D.arm (-1) []).cutN keep D.waits.length).last=D.last
  rw [last_cutN]
  rfl
theorem last_goes (D:Dk):D.goes.2.last=D.last:=by
 unfold Dk.goes
 split
 ·rfl
 split
 ·rfl
 ·exact last_cut _ _
theorem last_barrier (D:Dk) (n:Int) (e:Nat):(D.barrier n e).2.last=D.last:=by
 unfold Dk.barrier
 split
 ·rfl
 split
 ·rfl
 split
 ·exact last_goes D
 ·exact (last_settle _ _).trans (last_goes D)
theorem last_fence (D:Dk) (n:Int):(D.fence n).2.last=D.last:=by
 unfold Dk.fence
 split
 ·rfl
 split
 ·exact last_goes D
 ·exact (last_settle _ _).trans (last_goes D)
theorem last_put (D:Dk) (n:Int) (v:Nat):(D.put n v).2.last=D.last:=by
 unfold Dk.put
 split
 ·rfl
 split
 ·exact last_goes D
 ·exact last_goes D
theorem last_admit {B:Nat} (h:D.last<B) (n:Int) {e:Nat} (he:e<B):(D.admit n e).2.last<B:=by
 unfold Dk.admit
 split
 ·exact h
 split
 ·exact h
 split
 ·rw [last_goes]
  exact h
 ·exact he
theorem last_write (D:Dk) (n:Int) (e:Nat) (a:Int) (data:ByteArray):(D.write n e a data).2.last=D.last:=by
 unfold Dk.write
 split
 ·rfl
 split
 ·rfl
 split
 ·rfl
 split
 ·rfl
 split
 ·exact last_goes D
 ·exact (writeN_same _ _ _ _ _).2.2.2.1.trans (last_goes D)
theorem last_lhead (D:Dk) (g:Lg) (h:Hd):(D.lhead g h).2.last=D.last:=by
 unfold Dk.lhead
 split
 ·rfl
 split
 ·exact last_write _ _ _ _ _
 ·exact (last_barrier _ _ _).trans (last_write _ _ _ _ _)
theorem last_putGo (g:Lg) (x:En):∀(f i:Nat) (D:Dk),(putGo g x f i D).2.last=D.last
 | 0,_,_=>rfl
 | f+1,i,D=>by
   unfold Go.Proofs.YtldoeodkeieejaaGreatDoor.putGo
   split
   ·rfl
   split
   ·exact last_write _ _ _ _ _
   ·exact (last_putGo g x f _ _).trans (last_write _ _ _ _ _)
theorem last_wrGo : ∀(l:List En) (k n:Nat) (D:Dk) (g:Lg),(wrGo l k n D g).D.last=D.last
 | [],_,_,_,_=>rfl
 | x :: l,k,n,D,g=>by
   unfold Go.Proofs.YtldoeodkeieejaaGreatDoor.wrGo
   split
   ·exact last_wrGo l _ _ D g
   have hp:(D.put_ g x).2.last=D.last:=last_putGo g x x.n 0 D
   split
   ·exact hp
   ·exact (last_wrGo l _ _ _ _).trans hp
theorem last_writeR (D:Dk) (g:Lg):(writeR D g).D.last=D.last:=by
 unfold Go.Proofs.YtldoeodkeieejaaGreatDoor.writeR
 split
 ·rfl
 ·exact last_wrGo _ _ _ _ _
theorem last_syncR (D:Dk) (g:Lg):(syncR D g).D.last=D.last:=by
 have hw:=last_writeR D g
 unfold Go.Proofs.YtldoeodkeieejaaGreatDoor.syncR
 split
 ·exact hw
 split
 ·exact hw
 split
 ·exact (last_barrier _ _ _).trans hw
 ·exact (last_barrier _ _ _).trans hw
theorem last_freeR (D:Dk) (g:Lg) (b:Nat):(freeR D g b).D.last=D.last:=by
 have hh:=last_lhead D g ⟨g.epoch,b,(g.leftAt b:Int)⟩
 unfold Go.Proofs.YtldoeodkeieejaaGreatDoor.freeR
 split
 ·rfl
 split
 ·rfl
 split
 ·rfl
 split
 ·exact hh
 ·exact hh
theorem last_doD {B:Nat} (h:D.last<B) (h64:18446744073709551616≤B) (R:RF) (o:DOp) (he:o.epoch<B):(o.doD R D).last<B:=by
 unfold DOp.doD
 split
 ·rw [last_write]
  exact h
 split
 ·rw [last_barrier]
  exact h
 split
 ·refine last_admit h _ ?_
  unfold DOp.ep3
  split
  ·omega
  ·rename_i ho
   unfold DOp.ep
   rw [if_neg (fun hc=>ho hc.1)]
   exact he
 split
 ·rw [last_fence]
  exact h
 split
 ·rw [last_put]
  exact h
 split
 ·rw [last_cut]
  exact h
 split
 ·exact h
 split
 ·exact h
 ·exact h
theorem last_doS {B:Nat} {S:Ms} (h:S.D.last<B) (h64:18446744073709551616≤B) (x:LOp) (he:x.d.epoch<B):(x.doS S).D.last<B:=by
 unfold LOp.doS
 split
 ·exact h
 split
 ·show (writeR S.D S.g).D.last<B
  rw [last_writeR]
  exact h
 split
 ·show (syncR S.D S.g).D.last<B
  rw [last_syncR]
  exact h
 split
 ·show (freeR S.D S.g x.v).D.last<B
  rw [last_freeR]
  exact h
 split
 ·exact last_doD h h64 S.R x.d he
 ·exact h
theorem last_fold {B:Nat} (h64:18446744073709551616≤B):∀(l:List LOp) (S:Ms),S.D.last<B→(∀x∈l,x.d.epoch<B)→(l.foldl (fun S x=>(x.doS S).trim) S).D.last<B
 | [],_,h,_=>h
 | x :: l,_,h,hl=>last_fold h64 l _ (last_doS h h64 x (hl x (List.mem_cons_self ..))) (fun y hy=>hl y (List.mem_cons_of_mem _ hy))
set_option maxRecDepth 100000 in
theorem made_last {l:List LOp} (hl:∀x∈l,x.InB):(madeS l).D.last<18446744073709551616:=by
 refine last_fold (Nat.le_refl _) l made0 ?_ (fun x hx=>(hl x hx).depoch)
 show (readyD.lhead lg0 ⟨9,1,0⟩).2.last<_
 rw [last_lhead,ready_facts.2.1]
 decide
end
end Go.Proofs.YtldoeodkeieejaaGreatDoor
