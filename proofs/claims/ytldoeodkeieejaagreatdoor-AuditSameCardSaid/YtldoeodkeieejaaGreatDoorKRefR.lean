import Derived.Test.YtldoeodkeieejaaGreatDoorKMadO
import Derived.Test.YtldoeodkeieejaaGreatDoorKMadR
import Derived.Test.YtldoeodkeieejaaGreatDoorKRefN
namespace Go.Proofs.YtldoeodkeieejaaGreatDoor
open Go.RowKit
structure Ms where
 D:Dk
 R:RF
 g:Lg
 x:XL
def LOp.doS (o:LOp) (S:Ms):Ms :=
 if o.kind=1 then ⟨S.D,S.R,S.g.addG o.l,S.x.addX o.l⟩
 else if o.kind=2 then ⟨(writeR S.D S.g).D,(xwriteR 1 S.R S.x).R,(writeR S.D S.g).g,(xwriteR 1 S.R S.x).x⟩
 else if o.kind=3 then ⟨(syncR S.D S.g).D,(xsyncR 1 S.R S.x).R,(syncR S.D S.g).g,(xsyncR 1 S.R S.x).x⟩
 else if o.kind=4 then ⟨(freeR S.D S.g o.v).D,(xfreeR 1 S.R S.x o.v).R,(freeR S.D S.g o.v).g,(xfreeR 1 S.R S.x o.v).x⟩
 else if o.kind=5 then ⟨o.d.doD S.R S.D,o.d.doR S.R,S.g,S.x⟩ else S
structure Mad (S:Ms) (k m:Nat):Prop where
 two:Both2 S.D S.R k
 sim:LSim S.g S.x m
 ok:XOk S.x m
 base:S.g.base=1
structure MadAt (o:Nat→Nat) (w:World) (p q r s:Nat) (S:Ms):Prop where
 disk:DiskAt o 1 w p S.D
 log:LogAt o 20 w q S.g p
 ref:RFAt o 10 w r S.R
 xlog:XLAt o 30 w s S.x r
section
variable {o o':Nat→Nat} {p q r s k k' m m':Nat} {C:Nat→Prop} {w w':World} {S:Ms}
theorem LSim.more {g:Lg} {x:XL} (h:LSim g x m) (hm:m≤m'):LSim g x m':=by
 obtain ⟨A,B,d⟩:=h
 exact ⟨A,B,d.node,d.epoch,d.next,d.first,d.at_,d.written,d.synced,d.broken,d.dirty,d.le,d.lt,by have:=d.nxt;omega,d.rows,d.wait,d.live,d.rise,d.fresh⟩
theorem Mad.more (h:Mad S k m) (hk:k≤k') (hm:m≤m'):Mad S k' m':=⟨h.two.more hk,h.sim.more hm,h.ok.more hm,h.base⟩
theorem Mad.facts (h:Mad S k m):S.g.live.length≤m∧Ens S.g.live∧S.g.used≤7∧S.g.at_<7∧S.g.epoch=9∧S.g.next≤m+1∧S.g.synced≤m∧S.x.next≤m+1∧S.x.wait≤S.x.l.length∧S.x.sync≤m:=by
 obtain ⟨A,B,d⟩:=h.sim
 have hl:=h.ok.len
 have hk:=h.ok.kps
 have h1:=d.le
 have h2:=d.lt
 have h3:=d.nxt
 rw [d.rows] at hl hk
 rw [List.length_append] at hl
 refine ⟨?_,?_,?_,?_,?_,?_,?_,d.nxt,?_,by omega⟩
 ·rw [d.live,List.length_append,List.length_map,List.length_map];exact hl
 ·intro y hy
  rw [d.live] at hy
  rcases List.mem_append.1 hy with hy | hy
  ·obtain ⟨z,hz,rfl⟩:=List.mem_map.1 hy
   obtain ⟨a,b,_⟩:=hk z (List.mem_append_left _ hz)
   exact ⟨a,b,fun e=>by cases e⟩
  ·obtain ⟨z,hz,rfl⟩:=List.mem_map.1 hy
   obtain ⟨a,b,c⟩:=hk z (List.mem_append_right _ hz)
   exact ⟨a,b,fun _=>c⟩
 ·rw [d.used];exact h.ok.used
 ·rw [d.at_];exact h.ok.place
 ·rw [d.epoch];exact h.ok.epoch
 ·rw [d.next];omega
 ·rw [d.synced];omega
 ·rw [d.wait,d.rows,List.length_append];omega
theorem MadAt.step (h:MadAt o w p q r s S) (hs:Step o C w o' w') (hc:∀x,1≤x→¬C x):MadAt o' w' p q r s S :=
 ⟨h.disk.step hs (fun x h1 _=>hc x h1),h.log.step hs (hc _ (by omega)) (hc _ (by omega)),h.ref.step hs (fun x hx=>hc x (by unfold three at hx;omega)),h.xlog.step hs (hc _ (by omega)) (hc _ (by omega))⟩
theorem MadAt.drew (h:MadAt o w p q r s S):MadAt o w.drew p q r s S:=h.step ((Step.refl o (fun _=>False) w).drew) (fun _ _=>id)
theorem MadAt.alloc (h:MadAt o w p q r s S) (y:Obj):MadAt o (w.alloc y) p q r s S:=h.step ((Step.refl o (fun _=>False) w).alloc y) (fun _ _=>id)
theorem MadAt.glog (h:MadAt o w p q r s S) {g:Lg} (hg:LogAt o' 20 w' q g p) (hs:Step o (logL 20) w o' w'):MadAt o' w' p q r s {S with g:=g} :=
 ⟨h.disk.step hs (by unfold logL;omega),hg,h.ref.step hs (by unfold logL three;omega),h.xlog.step hs (by unfold logL;omega) (by unfold logL;omega)⟩
theorem MadAt.xlog_ (h:MadAt o w p q r s S) {x:XL} (hx:XLAt o' 30 w' s x r) (hs:Step o (logL 30) w o' w'):MadAt o' w' p q r s {S with x:=x} :=
 ⟨h.disk.step hs (by unfold logL;omega),h.log.step hs (by unfold logL;omega) (by unfold logL;omega),h.ref.step hs (by unfold logL three;omega),hx⟩
theorem MadAt.real (h:MadAt o w p q r s S) {D:Dk} {g:Lg} (hd:DiskAt o' 1 w' p D) (hg:LogAt o' 20 w' q g p) (hs:Step o (logC 1 20) w o' w'):MadAt o' w' p q r s {S with D:=D,g:=g} :=
 ⟨hd,hg,h.ref.step hs (by unfold logC six three;omega),h.xlog.step hs (by unfold logC six;omega) (by unfold logC six;omega)⟩
theorem MadAt.docs (h:MadAt o w p q r s S) {R:RF} {x:XL} (hr:RFAt o' 10 w' r R) (hx:XLAt o' 30 w' s x r) (hs:Step o (xlC 10 30) w o' w'):MadAt o' w' p q r s {S with R:=R,x:=x} :=
 ⟨h.disk.step hs (by unfold xlC cutF;omega),h.log.step hs (by unfold xlC cutF;omega) (by unfold xlC cutF;omega),hr,hx⟩
theorem MadAt.disks (h:MadAt o w p q r s S) {D:Dk} {R:RF} (hd:DiskAt o' 1 w' p D) (hr:RFAt o' 10 w' r R) (hs:Step o (bothC 1 10) w o' w'):MadAt o' w' p q r s {S with D:=D,R:=R} :=
 ⟨hd,h.log.step hs (by unfold bothC six cutF three;omega) (by unfold bothC six cutF three;omega),hr,h.xlog.step hs (by unfold bothC six cutF three;omega) (by unfold bothC six cutF three;omega)⟩
theorem nz_xlC : ∀x,xlC 10 30 x→nz x:=fun x hx=>by unfold xlC cutF at hx;unfold nz;omega
theorem nz_both : ∀x,bothC 1 10 x→nz x:=fun x hx=>by unfold bothC six cutF three at hx;unfold nz;omega
theorem ap_log : apart2 10 30:=by unfold apart2;omega
theorem do8_any {D:Dk} {R:RF} (hd:DiskAt o 1 w p D) (hr:RFAt o 10 w r R) (h2:Both2 D R k) (hk:k≤60000) (hf:Fut o w) (x:DOp) (hlt:x.Lt) (A:Option Addr) (cap:Nat) (hkr:∀(o':Nat→Nat) (w':World),Step o nz w o' w'→Reads w' 1 A x.keep.length (intcells x.keep)) :
 Calls Tryz.prog 66 #[.pointer (some ⟨p,0,none⟩), .pointer (some ⟨r,0,none⟩), .agg #[.int .i64 x.kind, .int .i64 x.node, .int .i64 x.at_, .int .i64 x.n, .int .u64 (x.epoch:Nat), .string x.data, .slice A x.keep.length cap, .bool x.own]] w (Do8Post o 1 10 p r w (x.doD R D) (x.doR R)):=by
 obtain ⟨xK,xn,xa,xm,xe,xd,xk,xo⟩:=x
 obtain ⟨l1,l2⟩:=hlt
 simp only at l1 l2 hkr ⊢
 have hkr2:∀(o':Nat→Nat) (w':World),Step o (bothC 1 10) w o' w'→Reads w' 1 A xk.length (intcells xk):=fun o' w' hs=>hkr o' w' (hs.mono nz_both)
 by_cases k1:xK=1
 ·subst k1;exact do8_k1 hd hr h2 hk (by omega) (by omega) hf xn xa xm xe xd l1 A xk cap xo
 by_cases k2:xK=2
 ·subst k2;exact do8_k2 hd hr h2 hk (by omega) (by omega) hf xn xa xm xe xd l1 A xk cap xo
 by_cases k3:xK=3
 ·subst k3;exact do8_k3 hd hr h2 hk (by omega) (by omega) hf xn xa xm xe xd l1 A xk cap xo
 by_cases k4:xK=4
 ·subst k4;exact do8_k4 hd hr h2 hk (by omega) (by omega) hf xn xa xm xe xd l1 A xk cap xo
 by_cases k5:xK=5
 ·subst k5;exact do8_k5 hd hr h2 hk (by omega) (by omega) hf xn xa xm xe xd l1 A xk cap xo
 by_cases k6:xK=6
 ·subst k6;exact do8_k6 hd hr h2 hk (by omega) (by omega) hf xn xa xm xe xd l1 A xk cap xo hkr2 l2
 by_cases k7:xK=7
 ·subst k7;exact do8_k7 hd hr h2 hk (by omega) (by omega) hf xn xa xm xe xd l1 A xk cap xo
 by_cases k9:xK=9
 ·subst k9;exact do8_k9 hd hr h2 hk (by omega) (by omega) hf xn xa xm xe xd l1 A xk cap xo hkr2 l2
 ·exact do8_k0 hd hr h2 hk (by omega) (by omega) hf xn xa xm xe xd l1 A xk cap xo xK k1 k2 k3 k4 k5 k6 k7 k9
def Do13Post (o:Nat→Nat) (p q r s k m:Nat) (w:World) (S:Ms) (e:Ending) (w':World):Prop:=e = .returned (.bool true)∧∃o',MadAt o' w' p q r s S∧Mad S k m∧Step o nz w o' w'
def opBox (xk xn:Int) (xv:Nat) (lv:Value) (yk yn ya ym:Int) (ye:Nat) (yd:ByteArray) (kv:Value) (yo:Bool):Array Value:=#[.int .i64 xk, .int .i64 xn, .int .u64 (xv:Nat),lv, .int .i64 yk, .int .i64 yn, .int .i64 ya, .int .i64 ym, .int .u64 (ye:Nat), .string yd,kv, .bool yo]
theorem Mad.add (hm:Mad S k m) (hmm:m≤60) (l:List Im):S.g.addE l=S.x.addE l∧Mad ⟨S.D,S.R,S.g.addG l,S.x.addX l⟩ k (m+1):=by
 obtain ⟨a,b,c⟩:=hm.sim.add (by omega) l
 exact ⟨a,hm.two,b,hm.ok.add l,c.trans hm.base⟩
theorem Mad.write (hm:Mad S k m) (ht:Tame (writeR S.D S.g).D k') (hf:Fit (xwriteR 1 S.R S.x).R k'):(writeR S.D S.g).e=(xwriteR 1 S.R S.x).e∧Mad ⟨(writeR S.D S.g).D,(xwriteR 1 S.R S.x).R,(writeR S.D S.g).g,(xwriteR 1 S.R S.x).x⟩ k' m:=by
 obtain ⟨a,b,c,d,e⟩:=hm.sim.write hm.two.sim hm.two.left
 rw [hm.base] at a b c d e
 exact ⟨a,⟨b,ht,hf,c⟩,d,hm.ok.write 1 S.R,e⟩
theorem Mad.sync (hm:Mad S k m) (ht:Tame (syncR S.D S.g).D k') (hf:Fit (xsyncR 1 S.R S.x).R k'):(syncR S.D S.g).e=(xsyncR 1 S.R S.x).e∧Mad ⟨(syncR S.D S.g).D,(xsyncR 1 S.R S.x).R,(syncR S.D S.g).g,(xsyncR 1 S.R S.x).x⟩ k' m:=by
 obtain ⟨a,b,c,d,e⟩:=hm.sim.sync hm.two.sim hm.two.left
 rw [hm.base] at a b c d e
 exact ⟨a,⟨b,ht,hf,c⟩,d,hm.ok.sync 1 S.R,e⟩
theorem Mad.free (hm:Mad S k m) (v:Nat) (ht:Tame (freeR S.D S.g v).D k') (hf:Fit (xfreeR 1 S.R S.x v).R k'):(freeR S.D S.g v).e=(xfreeR 1 S.R S.x v).e∧Mad ⟨(freeR S.D S.g v).D,(xfreeR 1 S.R S.x v).R,(freeR S.D S.g v).g,(xfreeR 1 S.R S.x v).x⟩ k' m:=by
 obtain ⟨a,b,c,d,e⟩:=hm.sim.free hm.two.sim hm.two.left v
 rw [hm.base] at a b c d e
 exact ⟨a,⟨b,ht,hf,c⟩,d,hm.ok.free 1 S.R v,e⟩
theorem Mad.disks (hm:Mad S k m) (x:DOp) (hn:x.n≤9223372036854775807) (hlt:x.Lt):Mad ⟨x.doD S.R S.D,x.doR S.R,S.g,S.x⟩ (k+800) (m+1):=by
 have h2:=hm.two.step x hn (by have:=hlt.2;omega)
 exact ⟨h2.more (by have:=hlt.1;omega),hm.sim.more (by omega),hm.ok.more (by omega),hm.base⟩
set_option maxRecDepth 100000 in
set_option maxHeartbeats 8000000 in
theorem do13_any (hat:MadAt o w p q r s S) (hm:Mad S k m) (hk:k≤50000) (hmm:m≤60) (hf:Fut o w) (x:LOp) (hin:x.InB) (hl70:x.l.length≤70) (hlt:x.d.Lt) (B:Option Addr) (cp:Nat) (hcp:x.l.length≤cp∧cp≤maxLen) (A:Option Addr) (cap:Nat)
 (hri:∀(o':Nat→Nat) (w':World),Step o nz w o' w'→Reads w' 3 B x.l.length (imcells x.l)) (hrk:∀(o':Nat→Nat) (w':World),Step o nz w o' w'→Reads w' 1 A x.d.keep.length (intcells x.d.keep)) :
 Calls Tryz.prog 22 #[.pointer (some ⟨p,0,none⟩), .pointer (some ⟨r,0,none⟩), .pointer (some ⟨q,0,none⟩), .pointer (some ⟨s,0,none⟩), .agg (opBox x.kind x.n x.v (.slice B x.l.length cp) x.d.kind x.d.node x.d.at_ x.d.n x.d.epoch x.d.data (.slice A x.d.keep.length cap) x.d.own)] w (Do13Post o p q r s (k+800) (m+1) w (x.doS S)):=by
 obtain ⟨f1,f2,f3,f4,f5,f6,f7,f8,f9,f10⟩:=hm.facts
 have HB:=Lib.hid (hat.alloc (.cells (opBox x.kind x.n x.v (.slice B x.l.length cp) x.d.kind x.d.node x.d.at_ x.d.n x.d.epoch x.d.data (.slice A x.d.keep.length cap) x.d.own) 53))
 have HS:=Lib.hid ((Step.refl o nz w).alloc (.cells (opBox x.kind x.n x.v (.slice B x.l.length cp) x.d.kind x.d.node x.d.at_ x.d.n x.d.epoch x.d.data (.slice A x.d.keep.length cap) x.d.own) 53))
 have HX:=Lib.hid (Keep.new hf 53 (opBox x.kind x.n x.v (.slice B x.l.length cp) x.d.kind x.d.node x.d.at_ x.d.n x.d.epoch x.d.data (.slice A x.d.keep.length cap) x.d.own))
 have HF:=Lib.hid (hf.alloc (.cells (opBox x.kind x.n x.v (.slice B x.l.length cp) x.d.kind x.d.node x.d.at_ x.d.n x.d.epoch x.d.data (.slice A x.d.keep.length cap) x.d.own) 53))
 have HRI:=Lib.hid hri
 have HRK:=Lib.hid hrk
 have HM:=Lib.hid hm
 have HK:=Lib.hid hk
 have HMM:=Lib.hid hmm
 have HIN:=Lib.hid hin
 have HL70:=Lib.hid hl70
 have HLT:=Lib.hid hlt
 have HCP:=Lib.hid hcp
 have HF1:=Lib.hid f1
 have HF2:=Lib.hid f2
 have HF3:=Lib.hid f3
 have HF4:=Lib.hid f4
 have HF5:=Lib.hid f5
 have HF6:=Lib.hid f6
 have HF7:=Lib.hid f7
 have HF8:=Lib.hid f8
 have HF9:=Lib.hid f9
 have HF10:=Lib.hid f10
 have HXN:=Lib.hid hm.ok.len
 have HXE:=Lib.hid hm.ok.epoch
 clear hat hm hk hmm hf hin hl70 hlt hcp hri hrk f1 f2 f3 f4 f5 f6 f7 f8 f9 f10
 unfold opBox at HB HS HX HF ⊢
 go_enter Tryz.func22,Tryz.ntmps22
 go_upto_region 1 with (fail)
 generalize w.alloc (.cells #[.int .i64 x.kind, .int .i64 x.n, .int .u64 (x.v:Nat), .slice B x.l.length cp, .int .i64 x.d.kind, .int .i64 x.d.node, .int .i64 x.d.at_, .int .i64 x.d.n, .int .u64 (x.d.epoch:Nat), .string x.d.data, .slice A x.d.keep.length cap, .bool x.d.own] 53)=W at HB HS HX HF ⊢
 generalize w.heap.size=X at HX ⊢
 have y0:W.cell? ⟨X,0,none⟩=some (.int .i64 x.kind):=HX.out.1.cell 0
 by_cases k1:x.kind=1
 ·have e:x.doS S=⟨S.D,S.R,S.g.addG x.l,S.x.addX x.l⟩:=if_pos k1
  have HEQ:=Lib.hid e
  clear e
  rw [k1] at y0
  have y3:W.cell? ⟨X,3,none⟩=some (.slice B x.l.length cp):=HX.out.1.cell 3
  go_wp2_with fail
  refine (gadd_any HB.out.log x.l B cp (HRI.out o W HS.out) (by have:=HL70.out;omega) HCP.out.1 HCP.out.2 (fun j hj=>(HIN.out.ims j hj).2.1) (fun j hj=>(HIN.out.ims j hj).1) (by rw [HF5.out];decide) (by have:=HF6.out;have:=HMM.out;omega) (by have:=HF1.out;have:=HMM.out;omega) (by have:=HF3.out;omega) HF4.out (by omega) HF.out).mono ?_
  rintro e1 w1 ⟨rfl,o1,hl1,hs1⟩
  have HB1:=Lib.hid (HB.out.glog hl1 hs1)
  have HS1:=Lib.hid (HS.out.trans (hs1.mono (nz_logL 20 (by omega))))
  have HX1:=Lib.hid (HX.out.step hs1 (by unfold logL;omega))
  have HF1':=Lib.hid (HF.out.step hs1)
  clear hl1 hs1 y0 y3
  have y3:w1.cell? ⟨X,3,none⟩=some (.slice B x.l.length cp):=HX1.out.1.cell 3
  go_wp2_with fail
  refine (xladd_any (show XLAt o1 30 w1 s S.x r from HB1.out.xlog) x.l B cp (HRI.out o1 w1 HS1.out) (by have:=HL70.out;omega) HCP.out.1 HCP.out.2 (fun j hj=>(HIN.out.ims j hj).1) (by rw [HXE.out];decide) (by have:=HF8.out;have:=HMM.out;omega) (by have:=HXN.out;have:=HMM.out;omega) (by have:=HF9.out;have:=HXN.out;have:=HMM.out;omega) (by have:=HM.out.ok.used;omega) HM.out.ok.place (by omega) HF1'.out).mono ?_
  rintro e2 w2 ⟨N2,rfl,o2,hl2,hs2⟩
  have HB2:=Lib.hid (HB1.out.xlog_ hl2 hs2)
  have HS2:=Lib.hid (HS1.out.trans (hs2.mono (nz_logL 30 (by omega))))
  clear hl2 hs2 y3
  have ha:=HM.out.add HMM.out x.l
  rw [ha.1]
  have HM2:=Lib.hid (ha.2.more (k':=k+800) (by omega) (Nat.le_refl _))
  clear ha
  generalize S.x.addE x.l=E
  go_wp2_with fail
  go_ret
  exact ⟨by simp,o2,by rw [HEQ.out];exact HB2.out,by rw [HEQ.out];exact HM2.out,HS2.out⟩
 have b1:(x.kind == 1)=false:=by simp [k1]
 by_cases k2:x.kind=2
 ·have e:x.doS S=⟨(writeR S.D S.g).D,(xwriteR 1 S.R S.x).R,(writeR S.D S.g).g,(xwriteR 1 S.R S.x).x⟩:=(if_neg k1).trans (if_pos k2)
  have HEQ:=Lib.hid e
  clear e b1
  rw [k2] at y0
  go_wp2_with fail
  refine (gwrite_any HB.out.log HB.out.disk HM.out.two.tame (by have:=HK.out;omega) (by omega) (by omega) HF.out (by rw [HM.out.base];decide) (by have:=HF1.out;have:=HMM.out;omega) HF2.out).mono ?_
  rintro e1 w1 ⟨rfl,o1,hd1,hl1,ht1,hs1⟩
  have HB1:=Lib.hid (HB.out.real hd1 hl1 hs1)
  have HS1:=Lib.hid (HS.out.trans (hs1.mono (nz_logC 1 20 (by omega) (by omega))))
  have HF1':=Lib.hid (HF.out.step hs1)
  have HT1:=Lib.hid (ht1.mono (m:=k+800) (by have:=HF1.out;have:=HMM.out;omega))
  clear hd1 hl1 ht1 hs1 y0
  go_wp2_with fail
  refine (xlwrite_any (show XLAt o1 30 w1 s S.x r from HB1.out.xlog) (show RFAt o1 10 w1 r S.R from HB1.out.ref) HM.out.two.fit (by have:=HK.out;omega) (by omega) ap_log HF1'.out HM.out.ok.node (by have:=HXN.out;have:=HMM.out;omega) HF9.out HM.out.ok.kps).mono ?_
  rintro e2 w2 ⟨N2,rfl,o2,hr2,hl2,hf2,hs2⟩
  have HB2:=Lib.hid (HB1.out.docs hr2 hl2 hs2)
  have HS2:=Lib.hid (HS1.out.trans (hs2.mono nz_xlC))
  have ha:=HM.out.write HT1.out (hf2.more (k':=k+800) (by have:=HXN.out;have:=HMM.out;omega))
  clear hr2 hl2 hf2 hs2
  rw [ha.1]
  have HM2:=Lib.hid (ha.2.more (k':=k+800) (m':=m+1) (Nat.le_refl _) (by omega))
  clear ha
  generalize (xwriteR 1 S.R S.x).e=E
  go_wp2_with fail
  go_ret
  exact ⟨by simp,o2,by rw [HEQ.out];exact HB2.out,by rw [HEQ.out];exact HM2.out,HS2.out⟩
 have b2:(x.kind == 2)=false:=by simp [k2]
 by_cases k3:x.kind=3
 ·have e:x.doS S=⟨(syncR S.D S.g).D,(xsyncR 1 S.R S.x).R,(syncR S.D S.g).g,(xsyncR 1 S.R S.x).x⟩:=(if_neg k1).trans ((if_neg k2).trans (if_pos k3))
  have HEQ:=Lib.hid e
  clear e b1 b2
  rw [k3] at y0
  go_wp2_with fail
  refine (gsync_any HB.out.log HB.out.disk HM.out.two.tame (by have:=HK.out;omega) (by omega) (by omega) HF.out (by rw [HM.out.base];decide) (by have:=HF1.out;have:=HMM.out;omega) HF2.out).mono ?_
  rintro e1 w1 ⟨rfl,o1,hd1,hl1,ht1,hs1⟩
  have HB1:=Lib.hid (HB.out.real hd1 hl1 hs1)
  have HS1:=Lib.hid (HS.out.trans (hs1.mono (nz_logC 1 20 (by omega) (by omega))))
  have HF1':=Lib.hid (HF.out.step hs1)
  have HT1:=Lib.hid (ht1.mono (m:=k+800) (by have:=HF1.out;have:=HMM.out;omega))
  clear hd1 hl1 ht1 hs1 y0
  go_wp2_with fail
  refine (xlsync_any (show XLAt o1 30 w1 s S.x r from HB1.out.xlog) (show RFAt o1 10 w1 r S.R from HB1.out.ref) HM.out.two.fit (by have:=HK.out;omega) (by omega) ap_log HF1'.out HM.out.ok.node (by have:=HXN.out;have:=HMM.out;omega) HF9.out HM.out.ok.kps).mono ?_
  rintro e2 w2 ⟨rfl,o2,hr2,hl2,hf2,hs2⟩
  have HB2:=Lib.hid (HB1.out.docs hr2 hl2 hs2)
  have HS2:=Lib.hid (HS1.out.trans (hs2.mono nz_xlC))
  have ha:=HM.out.sync HT1.out (hf2.more (k':=k+800) (by have:=HXN.out;have:=HMM.out;omega))
  clear hr2 hl2 hf2 hs2
  rw [ha.1]
  have HM2:=Lib.hid (ha.2.more (k':=k+800) (m':=m+1) (Nat.le_refl _) (by omega))
  clear ha
  generalize (xsyncR 1 S.R S.x).e=E
  go_wp2_with fail
  go_ret
  exact ⟨by simp,o2,by rw [HEQ.out];exact HB2.out,by rw [HEQ.out];exact HM2.out,HS2.out⟩
 have b3:(x.kind == 3)=false:=by simp [k3]
 by_cases k4:x.kind=4
 ·have e:x.doS S=⟨(freeR S.D S.g x.v).D,(xfreeR 1 S.R S.x x.v).R,(freeR S.D S.g x.v).g,(xfreeR 1 S.R S.x x.v).x⟩:=(if_neg k1).trans ((if_neg k2).trans ((if_neg k3).trans (if_pos k4)))
  have HEQ:=Lib.hid e
  clear e b1 b2 b3
  rw [k4] at y0
  go_upto_region 13 with (fail)
  clear y0
  have z2:W.drew.cell? ⟨X,2,none⟩=some (.int .u64 (x.v:Nat)):=HX.out.1.cell 2
  go_region_held3 (fun w'=>w'.cell? ⟨X,2,none⟩=some (.int .u64 (x.v:Nat)))
   (first | exact z2 | exact hk5.1.cell 2 | exact hk4.1.cell 2 | go_keep)
   (first
     | (go_at_call 64;((with_reducible refine (gfree_any HB.out.drew.log HB.out.drew.disk HM.out.two.tame (by have:=HK.out;omega) (by omega) (by omega) (by rw [HF5.out];decide) (by have:=HF1.out;have:=HMM.out;omega) (by have:=HF7.out;have:=HMM.out;omega) x.v HIN.out.v).mono ?_);rintro e4 w4 ⟨rfl,o4,hd4,hl4,ht4,hs4⟩;have hk4:=HX.out.drew.step hs4 (by unfold logC six;omega);have hb4:=HB.out.drew.real hd4 hl4 hs4))
     | (go_at_call 65;((with_reducible refine (xlfree_any (show XLAt o4 30 w4 s S.x r from hb4.xlog) (show RFAt o4 10 w4 r S.R from hb4.ref) HM.out.two.fit (by have:=HK.out;omega) ap_log HM.out.ok.node (by rw [HXE.out];decide) (by have:=HXN.out;have:=HMM.out;omega) (by have:=HF10.out;have:=HMM.out;omega) x.v HIN.out.v).mono ?_);rintro e5 w5 ⟨rfl,o5,hr5,hl5,hf5,hs5⟩;have hk5:=hk4.step hs5 (by unfold xlC cutF;omega))))
  have HB5:=Lib.hid (hb4.docs hr5 hl5 hs5)
  have HS5:=Lib.hid (HS.out.trans (((Step.of_drew hs4).mono (nz_logC 1 20 (by omega) (by omega))).trans (hs5.mono nz_xlC)))
  have ha:=HM.out.free x.v (ht4.mono (m:=k+800) (by omega)) (hf5.more (k':=k+800) (by omega))
  rw [ha.1]
  have HM5:=Lib.hid (ha.2.more (k':=k+800) (m':=m+1) (Nat.le_refl _) (by omega))
  clear ha hd4 hl4 ht4 hs4 hk4 hb4 hr5 hl5 hf5 hs5 hk5 z2
  generalize (xfreeR 1 S.R S.x x.v).e=E
  go_wp2_with fail
  go_ret
  exact ⟨by simp,o5,by rw [HEQ.out];exact HB5.out,by rw [HEQ.out];exact HM5.out,HS5.out⟩
 have b4:(x.kind == 4)=false:=by simp [k4]
 by_cases k5:x.kind=5
 ·have e:x.doS S=⟨x.d.doD S.R S.D,x.d.doR S.R,S.g,S.x⟩:=(if_neg k1).trans ((if_neg k2).trans ((if_neg k3).trans ((if_neg k4).trans (if_pos k5))))
  have HEQ:=Lib.hid e
  clear e b1 b2 b3 b4
  rw [k5] at y0
  have HM5:=Lib.hid (HM.out.disks x.d HIN.out.dn.2 HLT.out)
  have y4:W.cell? ⟨X,4,none⟩=some (.int .i64 x.d.kind):=HX.out.1.cell 4
  by_cases k8:x.d.kind=8
  ·have e1:x.d.doD S.R S.D=S.D:=by
    unfold DOp.doD
    rw [k8]
    rfl
   have e2:x.d.doR S.R=S.R:=by
    unfold DOp.doR
    rw [k8]
    rfl
   rw [e1,e2] at HM5 HEQ
   clear e1 e2
   rw [k8] at y4
   go_wp2_with fail
   go_ret
   exact ⟨by simp,o,by rw [HEQ.out];exact HB.out,by rw [HEQ.out];exact HM5.out,HS.out⟩
  ·have b8:(x.d.kind == 8)=false:=by simp [k8]
   have y5:W.cell? ⟨X,5,none⟩=some (.int .i64 x.d.node):=HX.out.1.cell 5
   have y6:W.cell? ⟨X,6,none⟩=some (.int .i64 x.d.at_):=HX.out.1.cell 6
   have y7:W.cell? ⟨X,7,none⟩=some (.int .i64 x.d.n):=HX.out.1.cell 7
   have y8:W.cell? ⟨X,8,none⟩=some (.int .u64 (x.d.epoch:Nat)):=HX.out.1.cell 8
   have y9:W.cell? ⟨X,9,none⟩=some (.string x.d.data):=HX.out.1.cell 9
   have y10:W.cell? ⟨X,10,none⟩=some (.slice A x.d.keep.length cap):=HX.out.1.cell 10
   have y11:W.cell? ⟨X,11,none⟩=some (.bool x.d.own):=HX.out.1.cell 11
   go_wp2_with fail
   refine (do8_any HB.out.disk HB.out.ref HM.out.two (by have:=HK.out;omega) HF.out x.d HLT.out A cap (fun o' w' hs=>HRK.out o' w' (HS.out.trans hs))).mono ?_
   rintro e1 w1 ⟨rfl,o1,hd1,hr1,hs1⟩
   have HB1:=Lib.hid (HB.out.disks hd1 hr1 hs1)
   have HS1:=Lib.hid (HS.out.trans (hs1.mono nz_both))
   clear hd1 hr1 hs1 y0 y4 y5 y6 y7 y8 y9 y10 y11 b8
   go_wp2_with fail
   go_ret
   exact ⟨by simp,o1,by rw [HEQ.out];exact HB1.out,by rw [HEQ.out];exact HM5.out,HS1.out⟩
 have b5:(x.kind == 5)=false:=by simp [k5]
 have e:x.doS S=S:=(if_neg k1).trans ((if_neg k2).trans ((if_neg k3).trans ((if_neg k4).trans (if_neg k5))))
 have HEQ:=Lib.hid e
 clear e
 have HM5:=Lib.hid (HM.out.more (k':=k+800) (m':=m+1) (by omega) (by omega))
 go_wp2_with fail
 go_ret
 exact ⟨by first | done | rfl | simp,o,by rw [HEQ.out];exact HB.out,by rw [HEQ.out];exact HM5.out,HS.out⟩
end
structure Mild (R:RF) (k:Nat):Prop where
 room:R.room≤100000
 armed:R.armed=false
 ws:R.ws.length≤k
 wf:∀x∈R.ws,x.data.size=64
section
variable {R:RF} {k:Nat}
theorem Mild.mono (h:Mild R k) {m:Nat} (hm:k≤m):Mild R m:=⟨h.room,h.armed,Nat.le_trans h.ws hm,h.wf⟩
theorem Mild.spend (h:Mild R k):R.spend=(0,R):=if_pos h.armed
theorem Mild.settle (h:Mild R k) (n:Int):Mild (R.settle n) k:=by
 refine ⟨h.room,h.armed,by show (R.ws.map (RW.keep n)).length≤k;rw [List.length_map];exact h.ws,fun x hx => ?_⟩
 obtain ⟨y,hy,rfl⟩:=List.mem_map.1 hx
 rw [(rk_same n y).2.2]
 exact h.wf y hy
theorem Mild.barrier (h:Mild R k) (n:Int) (e:Nat):Mild (R.barrier n e).2 k:=by
 unfold RF.barrier
 rw [h.spend]
 split
 ·exact h
 ·split
  ·exact h
  ·exact h.settle n
theorem Mild.write (h:Mild R k) (n:Int) (e:Nat) (at_:Int) (data:ByteArray):Mild (R.write n e at_ data).2 (k+data.size / 64):=by
 unfold RF.write
 rw [h.spend]
 split
 ·exact h.mono (by omega)
 ·split
  ·exact h.mono (by omega)
  ·rename_i h2
   split
   ·exact h.mono (by omega)
   ·split
    ·exact h.mono (by omega)
    ·split
     ·exact h.mono (by omega)
     ·refine ⟨h.room,h.armed,?_,fun x hx => ?_⟩
      ·show (R.ws++rwsN n at_ data (data.size / 64)).length≤_
       rw [List.length_append]
       have:=h.ws
       unfold rwsN
       rw [List.length_map,List.length_range]
       omega
      ·have hx:x∈R.ws++rwsN n at_ data (data.size / 64):=hx
       rcases List.mem_append.1 hx with hx | hx
       ·exact h.wf x hx
       ·unfold rwsN at hx
        obtain ⟨t,ht,rfl⟩:=List.mem_map.1 hx
        have:=List.mem_range.1 ht
        exact sect_size (by omega)
theorem Mild.store (h:Mild R k) (n:Int) (e:Nat) (i:Im):Mild (R.store n e i).2 (k+2):=by
 unfold RF.store
 split
 ·exact h.mono (by omega)
 ·split
  ·exact h.mono (by omega)
  ·rename_i hr
   have hr:i.right:=by simpa using hr
   have:=h.write n e (blockAt i.block).1 (str (blkL i))
   rw [str_size,blkL_len hr] at this
   exact this
end
end Go.Proofs.YtldoeodkeieejaaGreatDoor
