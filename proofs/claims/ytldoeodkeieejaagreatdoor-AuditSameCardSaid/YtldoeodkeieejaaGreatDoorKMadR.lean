import Derived.Test.YtldoeodkeieejaaGreatDoorKMadO
import Derived.Test.YtldoeodkeieejaaGreatDoorKLightA
namespace Go.Proofs.YtldoeodkeieejaaGreatDoor
open Go.RowKit
section
variable {o o':Nat→Nat} {cd cr p r k:Nat} {w w':World} {D:Dk} {R:RF}
def Do8Post (o:Nat→Nat) (cd cr p r:Nat) (w:World) (D':Dk) (R':RF) (e:Ending) (w':World):Prop:=e = .returned (.bool true)∧∃o',DiskAt o' cd w' p D'∧RFAt o' cr w' r R'∧Step o (bothC cd cr) w o' w'
theorem both_six (cd cr:Nat):∀y,six cd y→bothC cd cr y:=fun _ h => .inl h
theorem both_cutF (cd cr:Nat):∀y,cutF cr y→bothC cd cr y:=fun _ h => .inr (.inl h)
theorem both_row (cd cr:Nat):∀y,only (cr+3) y→bothC cd cr y:=fun _ h => .inr (.inl (.inr (.inr h)))
theorem both_three (cd cr:Nat):∀y,three cr y→bothC cd cr y:=fun _ h => .inr (.inr h)
theorem rfcut_keep (R:RF) (keep:List Int):(R.cut keep).2.keep=R.keep:=by
 unfold RF.cut
 split <;> rfl
theorem rfcut_n (h:RFAt o cr w p R) (keep:List Int) (A:Option Addr) (cap:Nat) (hkr:∀(o':Nat→Nat) (w':World),Step o (only (cr+3)) w o' w'→Reads w' 1 A keep.length (intcells keep)) (hk:keep.length≤1000000) (hl:R.ws.length≤100000) (N:Nat) (hN:(R.cut keep).1=N) :
 Calls Tryz.prog 133 #[.pointer (some ⟨p,0,none⟩), .slice A keep.length cap] w fun e w'=>e = .returned (.int .i64 N)∧∃o',RFAt o' cr w' p (R.cut keep).2∧Step o (cutF cr) w o' w':=by
 subst hN
 obtain ⟨kv,hr,ho⟩:=h
 refine (rfcut_any hr keep A cap hkr hk hl).mono ?_
 rintro e w1 ⟨rfl,o1,h1,hs⟩
 exact ⟨rfl,o1,⟨kv,h1,by rw [rfcut_keep];exact ho.step hs (by unfold cutF;omega)⟩,hs⟩
theorem dcut_n (h:DiskAt o cd w p D) (keep:List Int) (A:Option Addr) (cap:Nat) (hK:∀o' w',Step o (cutC cd) w o' w'→Reads w' 1 A keep.length (intcells keep)) (hk:keep.length≤maxLen) (N:Nat) (hN:(D.cut keep).1=N) :
 Calls Tryz.prog 97 #[.pointer (some ⟨p,0,none⟩), .slice A keep.length cap] w fun e w'=>e = .returned (.int .i64 N)∧∃o',DiskAt o' cd w' p (D.cut keep).2∧Step o (six cd) w o' w':=by
 subst hN
 refine (dcut_any h keep A cap hK hk).mono ?_
 rintro e w1 ⟨rfl,o1,h1,hs⟩
 exact ⟨rfl,o1,h1,hs.mono (cutC_six cd)⟩
theorem lent_rd {A:Option Addr} {l:List Int} {cap:Nat} (h:OwnS o 0 w 3 1 (.slice A (l.length+1) cap) (l.length+1) (intcells (markL l))):Reads w 1 A (l.length+1) (intcells (markL l)):=Reads.of_own h.1
theorem rf_restore (h:RFAt o cr w r R):RFAt o cr (w.setCell ⟨r,2,none⟩ (.bool false)) r R.restore∧Step o (bothC cd cr) w o (w.setCell ⟨r,2,none⟩ (.bool false))∧Step o (only cr) w o (w.setCell ⟨r,2,none⟩ (.bool false)):=by
 obtain ⟨kv,⟨lv,hb,hc,ho⟩,hk⟩:=h
 have hs:Step o (only cr) w o (w.setCell ⟨r,2,none⟩ (.bool false)):=(Step.refl o (only cr) w).setCell (p:=⟨r,2,none⟩) hc _
 exact ⟨⟨kv,⟨lv,hb.set_ 2 _,hc,ho.step hs (by unfold only;omega)⟩,hk.step hs (by unfold only;omega)⟩,hs.mono (fun y hy => .inr (.inl (.inl hy))),hs⟩
set_option maxRecDepth 100000 in
set_option maxHeartbeats 4000000 in
theorem do8_k1 (hd:DiskAt o cd w p D) (hr:RFAt o cr w r R) (h2:Both2 D R k) (hk:k≤60000) (hcd:1≤cd) (hap:cd+5<cr) (hf:Fut o w) (xn xa xm:Int) (xe:Nat) (xd:ByteArray) (hds:xd.size≤20000) (A:Option Addr) (xk:List Int) (cap:Nat) (xo:Bool) :
 Calls Tryz.prog 66 #[.pointer (some ⟨p,0,none⟩), .pointer (some ⟨r,0,none⟩), .agg #[.int .i64 1, .int .i64 xn, .int .i64 xa, .int .i64 xm, .int .u64 (xe:Nat), .string xd, .slice A xk.length cap, .bool xo]] w (Do8Post o cd cr p r w (DOp.doD ⟨1,xn,xa,xm,xe,xd,xk,xo⟩ R D) (DOp.doR ⟨1,xn,xa,xm,xe,xd,xk,xo⟩ R)):=by
 have hkx:=Keep.new hf 51 #[.int .i64 1, .int .i64 xn, .int .i64 xa, .int .i64 xm, .int .u64 (xe:Nat), .string xd, .slice A xk.length cap, .bool xo]
 have HX:=Lib.hid hkx
 have HD:=Lib.hid (hd.step ((Step.refl o (fun _=>False) w).alloc (.cells #[.int .i64 1, .int .i64 xn, .int .i64 xa, .int .i64 xm, .int .u64 (xe:Nat), .string xd, .slice A xk.length cap, .bool xo] 51)) (fun _ _ _=>id))
 have HR:=Lib.hid (hr.alloc (.cells #[.int .i64 1, .int .i64 xn, .int .i64 xa, .int .i64 xm, .int .u64 (xe:Nat), .string xd, .slice A xk.length cap, .bool xo] 51))
 have HS:=Lib.hid ((Step.refl o (bothC cd cr) w).alloc (.cells #[.int .i64 1, .int .i64 xn, .int .i64 xa, .int .i64 xm, .int .u64 (xe:Nat), .string xd, .slice A xk.length cap, .bool xo] 51))
 have H2:=Lib.hid h2
 have HK:=Lib.hid hk
 have HA:=Lib.hid hap
 have HC:=Lib.hid hcd
 have HDS:=Lib.hid hds
 obtain ⟨x0,x1,x2,x3,x4,x5,x6,x7⟩:=hkx.1.eight
 clear hd hr h2 hk hcd hap hf hkx hds
 obtain ⟨ep,hep⟩:∃ep,DOp.ep ⟨1,xn,xa,xm,xe,xd,xk,xo⟩ R=ep:=⟨_,rfl⟩
 obtain ⟨G,hG⟩:∃G,decide (xo=true∧0≤xn∧xn≤16)=G:=⟨_,rfl⟩
 have HGG:=Lib.hid hG
 have HEP:=Lib.hid (show (G=false→xe=ep)∧(G=true→0≤xn∧xn≤16∧R.table xn.toNat=ep) from by
  unfold DOp.ep at hep
  simp only at hep
  refine ⟨fun h => ?_,fun h => ?_⟩
  ·rwa [if_neg (fun h'=>by rw [decide_eq_true h'] at hG;rw [←hG] at h;cases h)] at hep
  ·have h':=of_decide_eq_true (hG.trans h)
   rw [if_pos h'] at hep
   exact ⟨h'.2.1,h'.2.2,hep⟩)
 clear hG
 have HDD:=Lib.hid (show DOp.doD ⟨1,xn,xa,xm,xe,xd,xk,xo⟩ R D=(D.write xn ep xa xd).2 from by first | done | rfl | (rw [←hep];rfl))
 have HRR:=Lib.hid (show DOp.doR ⟨1,xn,xa,xm,xe,xd,xk,xo⟩ R=(R.write xn ep xa xd).2 from by first | done | rfl | (rw [←hep];rfl))
 rw [HDD.out,HRR.out]
 clear hep HDD HRR
 go_enter Tryz.func66,Tryz.ntmps66
 go_upto_region 3 with (fail)
 clear x0 x1 x2 x3 x4 x5 x6 x7
 generalize w.alloc (.cells #[.int .i64 1, .int .i64 xn, .int .i64 xa, .int .i64 xm, .int .u64 (xe:Nat), .string xd, .slice A xk.length cap, .bool xo] 51)=W at HX HD HR HS ⊢
 generalize w.heap.size=X at HX ⊢
 have x7:W.cell? ⟨X,7,none⟩=some (.bool xo):=HX.out.1.cell 7
 go_cut [25] from 14 to 25 (fun t25 wx=>t25 = .bool G∧∃n,wx=W.drewN n)
 case first =>
  have x1:W.cell? ⟨X,1,none⟩=some (.int .i64 xn):=HX.out.1.cell 1
  cases xo with
  | false =>
    have HG:=Lib.hid (show G=false by rw [←HGG.out];rfl)
    go_wp2_with fail
    go_meet
    case rel=>exact ⟨by rw [HG.out],0,rfl⟩
  | true =>
    by_cases h0:0≤xn
    ·by_cases h1:xn≤16
     ·have HG:=Lib.hid (show G=true by rw [←HGG.out];exact decide_eq_true ⟨rfl,h0,h1⟩)
      go_wp2_with fail
      go_meet
      case rel=>exact ⟨by rw [HG.out],0,rfl⟩
     ·have HG:=Lib.hid (show G=false by rw [←HGG.out];exact decide_eq_false (fun h=>h1 h.2.2))
      go_wp2_with fail
      go_meet
      case rel=>exact ⟨by rw [HG.out],0,rfl⟩
    ·have HG:=Lib.hid (show G=false by rw [←HGG.out];exact decide_eq_false (fun h=>h0 h.2.1))
     go_wp2_with fail
     go_meet
     case rel=>exact ⟨by rw [HG.out],0,rfl⟩
 case rest =>
 obtain ⟨rfl,n0,rfl⟩:=hcut
 clear x7
 replace HX:=Lib.hid (HX.out.step ((Step.refl o (fun _=>False) W).drewN n0) id)
 replace HD:=Lib.hid (HD.out.drewN n0)
 replace HR:=Lib.hid (HR.out.step ((Step.refl o (fun _=>False) W).drewN n0) (fun _ _ h=>h))
 replace HS:=Lib.hid (HS.out.drewN n0)
 generalize W.drewN n0=V0 at HX HD HR HS ⊢
 go_upto_if 25 with (fail)
 go_cut [9] from 26 to 33 (fun t9 wx=>∃n,t9 = .int .u64 (ep:Nat)∧wx=V0.drewN n)
 case first =>
  cases G with
  | false =>
    have HE:=Lib.hid (show xe=ep from HEP.out.1 rfl)
    go_wp2_with fail
    go_meet
    case rel=>exact ⟨0,by rw [HE.out],rfl⟩
  | true =>
    obtain ⟨h0,h1,he⟩:=HEP.out.2 rfl
    obtain ⟨m,rfl⟩:∃m:Nat,xn=m:=⟨xn.toNat,by omega⟩
    have HE:=Lib.hid (show R.table m=ep from he)
    have x1:V0.cell? ⟨X,1,none⟩=some (.int .i64 (m:Nat)):=HX.out.1.cell 1
    have ct:V0.cell? ⟨r,3+m,none⟩=some (.int .u64 (R.table m:Nat)):=by
     obtain ⟨kv,⟨lv,hb,_⟩,_⟩:=HR.out
     rw [hb.cell,rf_table R lv kv m (by omega)]
    have hmI:(m:Int)<17:=by omega
    clear he h0 h1
    go_upto_region 4 with (fail)
    go_quiet (fail)
    go_wp2_with fail
    go_meet
    case rel=>exact ⟨nq,by rw [HE.out],rfl⟩
 case rest =>
  obtain ⟨n,rfl,rfl⟩:=hcut
  replace HX:=Lib.hid (HX.out.step ((Step.refl o (fun _=>False) V0).drewN n) id)
  replace HD:=Lib.hid (HD.out.drewN n)
  replace HR:=Lib.hid (HR.out.step ((Step.refl o (fun _=>False) V0).drewN n) (fun _ _ h=>h))
  replace HS:=Lib.hid (HS.out.drewN n)
  generalize V0.drewN n=V at HX HD HR HS ⊢
  have x0:V.cell? ⟨X,0,none⟩=some (.int .i64 1):=HX.out.1.cell 0
  go_upto_region 7 with (fail)
  clear x0
  have z1:V.drew.cell? ⟨X,1,none⟩=some (.int .i64 xn):=HX.out.1.cell 1
  have z2:V.drew.cell? ⟨X,2,none⟩=some (.int .i64 xa):=HX.out.1.cell 2
  have z5:V.drew.cell? ⟨X,5,none⟩=some (.string xd):=HX.out.1.cell 5
  go_region_held3 (fun w'=>w'.cell? ⟨X,1,none⟩=some (.int .i64 xn)∧w'.cell? ⟨X,2,none⟩=some (.int .i64 xa)∧w'.cell? ⟨X,5,none⟩=some (.string xd))
   (first | exact ⟨z1,z2,z5⟩ | exact ⟨hk5.1.cell 1,hk5.1.cell 2,hk5.1.cell 5⟩ | exact ⟨hk4.1.cell 1,hk4.1.cell 2,hk4.1.cell 5⟩ | go_keep)
   (first
     | (go_at_call 112;((with_reducible refine (dwrite_calm HD.out.drew xn ep xa xd (by have:=H2.out.tame.waits;have:=HK.out;omega) (by rw [H2.out.tame.sectors];decide) (by have:=H2.out.tame.seq;have:=HK.out;omega) (by have:=HDS.out;omega) HC.out).mono ?_);rintro e4 w4 ⟨rfl,o4,hd4,hs4⟩;have hk4:=HX.out.drew.step hs4 (no_six HC.out);have hr4:=HR.out.drew.step hs4 (by have:=HA.out;unfold three six;omega)))
     | (go_at_call 42;((with_reducible refine (rfwrite_any hr4 xn ep xa xd H2.out.fit.left H2.out.fit.keep (by rw [H2.out.fit.room];decide) (by have:=H2.out.fit.len;have:=HK.out;omega) (by have:=HDS.out;unfold maxLen;omega)).mono ?_);rintro e5 w5 ⟨rfl,o5,hr5,hs5⟩;have hk5:=hk4.step hs5 (by have:=HA.out;unfold cutF;omega))))
  have HD5:=Lib.hid (hd4.step hs5 (by have:=HA.out;unfold cutF;omega))
  have HR5:=Lib.hid hr5
  have HS5:=Lib.hid (HS.out.trans (((Step.of_drew hs4).mono (both_six cd cr)).trans (hs5.mono (both_cutF cd cr))))
  rw [(H2.out.sim.write H2.out.left xn ep xa xd).1]
  clear hd4 hr5 hs4 hs5 hk4 hk5 hr4 z1 z2 z5
  generalize (R.write xn ep xa xd).1=E
  go_wp2_with fail
  go_ret
  exact ⟨by simp,o5,HD5.out,HR5.out,HS5.out⟩
set_option maxRecDepth 100000 in
set_option maxHeartbeats 4000000 in
theorem do8_k2 (hd:DiskAt o cd w p D) (hr:RFAt o cr w r R) (h2:Both2 D R k) (hk:k≤60000) (hcd:1≤cd) (hap:cd+5<cr) (hf:Fut o w) (xn xa xm:Int) (xe:Nat) (xd:ByteArray) (hds:xd.size≤20000) (A:Option Addr) (xk:List Int) (cap:Nat) (xo:Bool) :
 Calls Tryz.prog 66 #[.pointer (some ⟨p,0,none⟩), .pointer (some ⟨r,0,none⟩), .agg #[.int .i64 2, .int .i64 xn, .int .i64 xa, .int .i64 xm, .int .u64 (xe:Nat), .string xd, .slice A xk.length cap, .bool xo]] w (Do8Post o cd cr p r w (DOp.doD ⟨2,xn,xa,xm,xe,xd,xk,xo⟩ R D) (DOp.doR ⟨2,xn,xa,xm,xe,xd,xk,xo⟩ R)):=by
 have hkx:=Keep.new hf 51 #[.int .i64 2, .int .i64 xn, .int .i64 xa, .int .i64 xm, .int .u64 (xe:Nat), .string xd, .slice A xk.length cap, .bool xo]
 have HX:=Lib.hid hkx
 have HD:=Lib.hid (hd.step ((Step.refl o (fun _=>False) w).alloc (.cells #[.int .i64 2, .int .i64 xn, .int .i64 xa, .int .i64 xm, .int .u64 (xe:Nat), .string xd, .slice A xk.length cap, .bool xo] 51)) (fun _ _ _=>id))
 have HR:=Lib.hid (hr.alloc (.cells #[.int .i64 2, .int .i64 xn, .int .i64 xa, .int .i64 xm, .int .u64 (xe:Nat), .string xd, .slice A xk.length cap, .bool xo] 51))
 have HS:=Lib.hid ((Step.refl o (bothC cd cr) w).alloc (.cells #[.int .i64 2, .int .i64 xn, .int .i64 xa, .int .i64 xm, .int .u64 (xe:Nat), .string xd, .slice A xk.length cap, .bool xo] 51))
 have H2:=Lib.hid h2
 have HK:=Lib.hid hk
 have HA:=Lib.hid hap
 have HC:=Lib.hid hcd
 have HDS:=Lib.hid hds
 obtain ⟨x0,x1,x2,x3,x4,x5,x6,x7⟩:=hkx.1.eight
 clear hd hr h2 hk hcd hap hf hkx hds
 obtain ⟨ep,hep⟩:∃ep,DOp.ep ⟨2,xn,xa,xm,xe,xd,xk,xo⟩ R=ep:=⟨_,rfl⟩
 obtain ⟨G,hG⟩:∃G,decide (xo=true∧0≤xn∧xn≤16)=G:=⟨_,rfl⟩
 have HGG:=Lib.hid hG
 have HEP:=Lib.hid (show (G=false→xe=ep)∧(G=true→0≤xn∧xn≤16∧R.table xn.toNat=ep) from by
  unfold DOp.ep at hep
  simp only at hep
  refine ⟨fun h => ?_,fun h => ?_⟩
  ·rwa [if_neg (fun h'=>by rw [decide_eq_true h'] at hG;rw [←hG] at h;cases h)] at hep
  ·have h':=of_decide_eq_true (hG.trans h)
   rw [if_pos h'] at hep
   exact ⟨h'.2.1,h'.2.2,hep⟩)
 clear hG
 have HDD:=Lib.hid (show DOp.doD ⟨2,xn,xa,xm,xe,xd,xk,xo⟩ R D=(D.barrier xn ep).2 from by first | done | rfl | (rw [←hep];rfl))
 have HRR:=Lib.hid (show DOp.doR ⟨2,xn,xa,xm,xe,xd,xk,xo⟩ R=(R.barrier xn ep).2 from by first | done | rfl | (rw [←hep];rfl))
 rw [HDD.out,HRR.out]
 clear hep HDD HRR
 go_enter Tryz.func66,Tryz.ntmps66
 go_upto_region 3 with (fail)
 clear x0 x1 x2 x3 x4 x5 x6 x7
 generalize w.alloc (.cells #[.int .i64 2, .int .i64 xn, .int .i64 xa, .int .i64 xm, .int .u64 (xe:Nat), .string xd, .slice A xk.length cap, .bool xo] 51)=W at HX HD HR HS ⊢
 generalize w.heap.size=X at HX ⊢
 have x7:W.cell? ⟨X,7,none⟩=some (.bool xo):=HX.out.1.cell 7
 go_cut [25] from 14 to 25 (fun t25 wx=>t25 = .bool G∧∃n,wx=W.drewN n)
 case first =>
  have x1:W.cell? ⟨X,1,none⟩=some (.int .i64 xn):=HX.out.1.cell 1
  cases xo with
  | false =>
    have HG:=Lib.hid (show G=false by rw [←HGG.out];rfl)
    go_wp2_with fail
    go_meet
    case rel=>exact ⟨by rw [HG.out],0,rfl⟩
  | true =>
    by_cases h0:0≤xn
    ·by_cases h1:xn≤16
     ·have HG:=Lib.hid (show G=true by rw [←HGG.out];exact decide_eq_true ⟨rfl,h0,h1⟩)
      go_wp2_with fail
      go_meet
      case rel=>exact ⟨by rw [HG.out],0,rfl⟩
     ·have HG:=Lib.hid (show G=false by rw [←HGG.out];exact decide_eq_false (fun h=>h1 h.2.2))
      go_wp2_with fail
      go_meet
      case rel=>exact ⟨by rw [HG.out],0,rfl⟩
    ·have HG:=Lib.hid (show G=false by rw [←HGG.out];exact decide_eq_false (fun h=>h0 h.2.1))
     go_wp2_with fail
     go_meet
     case rel=>exact ⟨by rw [HG.out],0,rfl⟩
 case rest =>
 obtain ⟨rfl,n0,rfl⟩:=hcut
 clear x7
 replace HX:=Lib.hid (HX.out.step ((Step.refl o (fun _=>False) W).drewN n0) id)
 replace HD:=Lib.hid (HD.out.drewN n0)
 replace HR:=Lib.hid (HR.out.step ((Step.refl o (fun _=>False) W).drewN n0) (fun _ _ h=>h))
 replace HS:=Lib.hid (HS.out.drewN n0)
 generalize W.drewN n0=V0 at HX HD HR HS ⊢
 go_upto_if 25 with (fail)
 go_cut [9] from 26 to 33 (fun t9 wx=>∃n,t9 = .int .u64 (ep:Nat)∧wx=V0.drewN n)
 case first =>
  cases G with
  | false =>
    have HE:=Lib.hid (show xe=ep from HEP.out.1 rfl)
    go_wp2_with fail
    go_meet
    case rel=>exact ⟨0,by rw [HE.out],rfl⟩
  | true =>
    obtain ⟨h0,h1,he⟩:=HEP.out.2 rfl
    obtain ⟨m,rfl⟩:∃m:Nat,xn=m:=⟨xn.toNat,by omega⟩
    have HE:=Lib.hid (show R.table m=ep from he)
    have x1:V0.cell? ⟨X,1,none⟩=some (.int .i64 (m:Nat)):=HX.out.1.cell 1
    have ct:V0.cell? ⟨r,3+m,none⟩=some (.int .u64 (R.table m:Nat)):=by
     obtain ⟨kv,⟨lv,hb,_⟩,_⟩:=HR.out
     rw [hb.cell,rf_table R lv kv m (by omega)]
    have hmI:(m:Int)<17:=by omega
    clear he h0 h1
    go_upto_region 4 with (fail)
    go_quiet (fail)
    go_wp2_with fail
    go_meet
    case rel=>exact ⟨nq,by rw [HE.out],rfl⟩
 case rest =>
  obtain ⟨n,rfl,rfl⟩:=hcut
  replace HX:=Lib.hid (HX.out.step ((Step.refl o (fun _=>False) V0).drewN n) id)
  replace HD:=Lib.hid (HD.out.drewN n)
  replace HR:=Lib.hid (HR.out.step ((Step.refl o (fun _=>False) V0).drewN n) (fun _ _ h=>h))
  replace HS:=Lib.hid (HS.out.drewN n)
  generalize V0.drewN n=V at HX HD HR HS ⊢
  have x0:V.cell? ⟨X,0,none⟩=some (.int .i64 2):=HX.out.1.cell 0
  go_upto_region 9 with (fail)
  clear x0
  have z1:V.drew.cell? ⟨X,1,none⟩=some (.int .i64 xn):=HX.out.1.cell 1
  go_region_held3 (fun w'=>w'.cell? ⟨X,1,none⟩=some (.int .i64 xn))
   (first | exact z1 | exact hk5.1.cell 1 | exact hk4.1.cell 1 | go_keep)
   (first
     | (go_at_call 80;((with_reducible refine (dbarrier_calm HD.out.drew xn ep (by have:=H2.out.tame.waits;have:=HK.out;omega)).mono ?_);rintro e4 w4 ⟨rfl,o4,hd4,hs4⟩;have hk4:=HX.out.drew.step hs4 (no_six HC.out);have hr4:=HR.out.drew.step hs4 (by have:=HA.out;unfold three six;omega)))
     | (go_at_call 43;((with_reducible refine (rfbarrier_any hr4 xn ep H2.out.fit.left H2.out.fit.keep (by have:=H2.out.fit.len;have:=HK.out;omega)).mono ?_);rintro e5 w5 ⟨rfl,o5,hr5,hs5⟩;have hk5:=hk4.step hs5 (by have:=HA.out;unfold cutF;omega))))
  have HD5:=Lib.hid (hd4.step hs5 (by have:=HA.out;unfold cutF;omega))
  have HR5:=Lib.hid hr5
  have HS5:=Lib.hid (HS.out.trans (((Step.of_drew hs4).mono (both_six cd cr)).trans (hs5.mono (both_cutF cd cr))))
  rw [(H2.out.sim.barrier H2.out.left xn ep).1]
  clear hd4 hr5 hs4 hs5 hk4 hk5 hr4 z1
  generalize (R.barrier xn ep).1=E
  go_wp2_with fail
  go_ret
  exact ⟨by simp,o5,HD5.out,HR5.out,HS5.out⟩
set_option maxRecDepth 100000 in
set_option maxHeartbeats 4000000 in
theorem do8_k4 (hd:DiskAt o cd w p D) (hr:RFAt o cr w r R) (h2:Both2 D R k) (hk:k≤60000) (hcd:1≤cd) (hap:cd+5<cr) (hf:Fut o w) (xn xa xm:Int) (xe:Nat) (xd:ByteArray) (hds:xd.size≤20000) (A:Option Addr) (xk:List Int) (cap:Nat) (xo:Bool) :
 Calls Tryz.prog 66 #[.pointer (some ⟨p,0,none⟩), .pointer (some ⟨r,0,none⟩), .agg #[.int .i64 4, .int .i64 xn, .int .i64 xa, .int .i64 xm, .int .u64 (xe:Nat), .string xd, .slice A xk.length cap, .bool xo]] w (Do8Post o cd cr p r w (DOp.doD ⟨4,xn,xa,xm,xe,xd,xk,xo⟩ R D) (DOp.doR ⟨4,xn,xa,xm,xe,xd,xk,xo⟩ R)):=by
 have hkx:=Keep.new hf 51 #[.int .i64 4, .int .i64 xn, .int .i64 xa, .int .i64 xm, .int .u64 (xe:Nat), .string xd, .slice A xk.length cap, .bool xo]
 have HX:=Lib.hid hkx
 have HD:=Lib.hid (hd.step ((Step.refl o (fun _=>False) w).alloc (.cells #[.int .i64 4, .int .i64 xn, .int .i64 xa, .int .i64 xm, .int .u64 (xe:Nat), .string xd, .slice A xk.length cap, .bool xo] 51)) (fun _ _ _=>id))
 have HR:=Lib.hid (hr.alloc (.cells #[.int .i64 4, .int .i64 xn, .int .i64 xa, .int .i64 xm, .int .u64 (xe:Nat), .string xd, .slice A xk.length cap, .bool xo] 51))
 have HS:=Lib.hid ((Step.refl o (bothC cd cr) w).alloc (.cells #[.int .i64 4, .int .i64 xn, .int .i64 xa, .int .i64 xm, .int .u64 (xe:Nat), .string xd, .slice A xk.length cap, .bool xo] 51))
 have H2:=Lib.hid h2
 have HK:=Lib.hid hk
 have HA:=Lib.hid hap
 have HC:=Lib.hid hcd
 have HDS:=Lib.hid hds
 obtain ⟨x0,x1,x2,x3,x4,x5,x6,x7⟩:=hkx.1.eight
 clear hd hr h2 hk hcd hap hf hkx hds
 obtain ⟨ep,hep⟩:∃ep,DOp.ep ⟨4,xn,xa,xm,xe,xd,xk,xo⟩ R=ep:=⟨_,rfl⟩
 obtain ⟨G,hG⟩:∃G,decide (xo=true∧0≤xn∧xn≤16)=G:=⟨_,rfl⟩
 have HGG:=Lib.hid hG
 have HEP:=Lib.hid (show (G=false→xe=ep)∧(G=true→0≤xn∧xn≤16∧R.table xn.toNat=ep) from by
  unfold DOp.ep at hep
  simp only at hep
  refine ⟨fun h => ?_,fun h => ?_⟩
  ·rwa [if_neg (fun h'=>by rw [decide_eq_true h'] at hG;rw [←hG] at h;cases h)] at hep
  ·have h':=of_decide_eq_true (hG.trans h)
   rw [if_pos h'] at hep
   exact ⟨h'.2.1,h'.2.2,hep⟩)
 clear hG
 have HDD:=Lib.hid (show DOp.doD ⟨4,xn,xa,xm,xe,xd,xk,xo⟩ R D=(D.fence xn).2 from by first | done | rfl | (rw [←hep];rfl))
 have HRR:=Lib.hid (show DOp.doR ⟨4,xn,xa,xm,xe,xd,xk,xo⟩ R=(R.fence xn).2 from by first | done | rfl | (rw [←hep];rfl))
 rw [HDD.out,HRR.out]
 clear hep HDD HRR
 go_enter Tryz.func66,Tryz.ntmps66
 go_upto_region 3 with (fail)
 clear x0 x1 x2 x3 x4 x5 x6 x7
 generalize w.alloc (.cells #[.int .i64 4, .int .i64 xn, .int .i64 xa, .int .i64 xm, .int .u64 (xe:Nat), .string xd, .slice A xk.length cap, .bool xo] 51)=W at HX HD HR HS ⊢
 generalize w.heap.size=X at HX ⊢
 have x7:W.cell? ⟨X,7,none⟩=some (.bool xo):=HX.out.1.cell 7
 go_cut [25] from 14 to 25 (fun t25 wx=>t25 = .bool G∧∃n,wx=W.drewN n)
 case first =>
  have x1:W.cell? ⟨X,1,none⟩=some (.int .i64 xn):=HX.out.1.cell 1
  cases xo with
  | false =>
    have HG:=Lib.hid (show G=false by rw [←HGG.out];rfl)
    go_wp2_with fail
    go_meet
    case rel=>exact ⟨by rw [HG.out],0,rfl⟩
  | true =>
    by_cases h0:0≤xn
    ·by_cases h1:xn≤16
     ·have HG:=Lib.hid (show G=true by rw [←HGG.out];exact decide_eq_true ⟨rfl,h0,h1⟩)
      go_wp2_with fail
      go_meet
      case rel=>exact ⟨by rw [HG.out],0,rfl⟩
     ·have HG:=Lib.hid (show G=false by rw [←HGG.out];exact decide_eq_false (fun h=>h1 h.2.2))
      go_wp2_with fail
      go_meet
      case rel=>exact ⟨by rw [HG.out],0,rfl⟩
    ·have HG:=Lib.hid (show G=false by rw [←HGG.out];exact decide_eq_false (fun h=>h0 h.2.1))
     go_wp2_with fail
     go_meet
     case rel=>exact ⟨by rw [HG.out],0,rfl⟩
 case rest =>
 obtain ⟨rfl,n0,rfl⟩:=hcut
 clear x7
 replace HX:=Lib.hid (HX.out.step ((Step.refl o (fun _=>False) W).drewN n0) id)
 replace HD:=Lib.hid (HD.out.drewN n0)
 replace HR:=Lib.hid (HR.out.step ((Step.refl o (fun _=>False) W).drewN n0) (fun _ _ h=>h))
 replace HS:=Lib.hid (HS.out.drewN n0)
 generalize W.drewN n0=V0 at HX HD HR HS ⊢
 go_upto_if 25 with (fail)
 go_cut [9] from 26 to 33 (fun t9 wx=>∃n,t9 = .int .u64 (ep:Nat)∧wx=V0.drewN n)
 case first =>
  cases G with
  | false =>
    have HE:=Lib.hid (show xe=ep from HEP.out.1 rfl)
    go_wp2_with fail
    go_meet
    case rel=>exact ⟨0,by rw [HE.out],rfl⟩
  | true =>
    obtain ⟨h0,h1,he⟩:=HEP.out.2 rfl
    obtain ⟨m,rfl⟩:∃m:Nat,xn=m:=⟨xn.toNat,by omega⟩
    have HE:=Lib.hid (show R.table m=ep from he)
    have x1:V0.cell? ⟨X,1,none⟩=some (.int .i64 (m:Nat)):=HX.out.1.cell 1
    have ct:V0.cell? ⟨r,3+m,none⟩=some (.int .u64 (R.table m:Nat)):=by
     obtain ⟨kv,⟨lv,hb,_⟩,_⟩:=HR.out
     rw [hb.cell,rf_table R lv kv m (by omega)]
    have hmI:(m:Int)<17:=by omega
    clear he h0 h1
    go_upto_region 4 with (fail)
    go_quiet (fail)
    go_wp2_with fail
    go_meet
    case rel=>exact ⟨nq,by rw [HE.out],rfl⟩
 case rest =>
  obtain ⟨n,rfl,rfl⟩:=hcut
  replace HX:=Lib.hid (HX.out.step ((Step.refl o (fun _=>False) V0).drewN n) id)
  replace HD:=Lib.hid (HD.out.drewN n)
  replace HR:=Lib.hid (HR.out.step ((Step.refl o (fun _=>False) V0).drewN n) (fun _ _ h=>h))
  replace HS:=Lib.hid (HS.out.drewN n)
  generalize V0.drewN n=V at HX HD HR HS ⊢
  have x0:V.cell? ⟨X,0,none⟩=some (.int .i64 4):=HX.out.1.cell 0
  go_upto_region 15 with (fail)
  clear x0
  have z1:V.drew.cell? ⟨X,1,none⟩=some (.int .i64 xn):=HX.out.1.cell 1
  go_region_held3 (fun w'=>w'.cell? ⟨X,1,none⟩=some (.int .i64 xn))
   (first | exact z1 | exact hk5.1.cell 1 | exact hk4.1.cell 1 | go_keep)
   (first
     | (go_at_call 87;((with_reducible refine (dfence_calm HD.out.drew xn (by have:=H2.out.tame.waits;have:=HK.out;omega)).mono ?_);rintro e4 w4 ⟨rfl,o4,hd4,hs4⟩;have hk4:=HX.out.drew.step hs4 (no_six HC.out);have hr4:=HR.out.drew.step hs4 (by have:=HA.out;unfold three six;omega)))
     | (go_at_call 44;((with_reducible refine (rffence_any hr4 xn H2.out.fit.left H2.out.fit.keep (by have:=H2.out.fit.len;have:=HK.out;omega)).mono ?_);rintro e5 w5 ⟨rfl,o5,hr5,hs5⟩;have hk5:=hk4.step hs5 (by have:=HA.out;unfold cutF;omega))))
  have HD5:=Lib.hid (hd4.step hs5 (by have:=HA.out;unfold cutF;omega))
  have HR5:=Lib.hid hr5
  have HS5:=Lib.hid (HS.out.trans (((Step.of_drew hs4).mono (both_six cd cr)).trans (hs5.mono (both_cutF cd cr))))
  rw [(H2.out.sim.fence H2.out.left xn).1]
  clear hd4 hr5 hs4 hs5 hk4 hk5 hr4 z1
  generalize (R.fence xn).1=E
  go_wp2_with fail
  go_ret
  exact ⟨by simp,o5,HD5.out,HR5.out,HS5.out⟩
set_option maxRecDepth 100000 in
set_option maxHeartbeats 4000000 in
theorem do8_k5 (hd:DiskAt o cd w p D) (hr:RFAt o cr w r R) (h2:Both2 D R k) (hk:k≤60000) (hcd:1≤cd) (hap:cd+5<cr) (hf:Fut o w) (xn xa xm:Int) (xe:Nat) (xd:ByteArray) (hds:xd.size≤20000) (A:Option Addr) (xk:List Int) (cap:Nat) (xo:Bool) :
 Calls Tryz.prog 66 #[.pointer (some ⟨p,0,none⟩), .pointer (some ⟨r,0,none⟩), .agg #[.int .i64 5, .int .i64 xn, .int .i64 xa, .int .i64 xm, .int .u64 (xe:Nat), .string xd, .slice A xk.length cap, .bool xo]] w (Do8Post o cd cr p r w (DOp.doD ⟨5,xn,xa,xm,xe,xd,xk,xo⟩ R D) (DOp.doR ⟨5,xn,xa,xm,xe,xd,xk,xo⟩ R)):=by
 have hkx:=Keep.new hf 51 #[.int .i64 5, .int .i64 xn, .int .i64 xa, .int .i64 xm, .int .u64 (xe:Nat), .string xd, .slice A xk.length cap, .bool xo]
 have HX:=Lib.hid hkx
 have HD:=Lib.hid (hd.step ((Step.refl o (fun _=>False) w).alloc (.cells #[.int .i64 5, .int .i64 xn, .int .i64 xa, .int .i64 xm, .int .u64 (xe:Nat), .string xd, .slice A xk.length cap, .bool xo] 51)) (fun _ _ _=>id))
 have HR:=Lib.hid (hr.alloc (.cells #[.int .i64 5, .int .i64 xn, .int .i64 xa, .int .i64 xm, .int .u64 (xe:Nat), .string xd, .slice A xk.length cap, .bool xo] 51))
 have HS:=Lib.hid ((Step.refl o (bothC cd cr) w).alloc (.cells #[.int .i64 5, .int .i64 xn, .int .i64 xa, .int .i64 xm, .int .u64 (xe:Nat), .string xd, .slice A xk.length cap, .bool xo] 51))
 have H2:=Lib.hid h2
 have HK:=Lib.hid hk
 have HA:=Lib.hid hap
 have HC:=Lib.hid hcd
 have HDS:=Lib.hid hds
 obtain ⟨x0,x1,x2,x3,x4,x5,x6,x7⟩:=hkx.1.eight
 clear hd hr h2 hk hcd hap hf hkx hds
 obtain ⟨ep,hep⟩:∃ep,DOp.ep ⟨5,xn,xa,xm,xe,xd,xk,xo⟩ R=ep:=⟨_,rfl⟩
 obtain ⟨G,hG⟩:∃G,decide (xo=true∧0≤xn∧xn≤16)=G:=⟨_,rfl⟩
 have HGG:=Lib.hid hG
 have HEP:=Lib.hid (show (G=false→xe=ep)∧(G=true→0≤xn∧xn≤16∧R.table xn.toNat=ep) from by
  unfold DOp.ep at hep
  simp only at hep
  refine ⟨fun h => ?_,fun h => ?_⟩
  ·rwa [if_neg (fun h'=>by rw [decide_eq_true h'] at hG;rw [←hG] at h;cases h)] at hep
  ·have h':=of_decide_eq_true (hG.trans h)
   rw [if_pos h'] at hep
   exact ⟨h'.2.1,h'.2.2,hep⟩)
 clear hG
 have HDD:=Lib.hid (show DOp.doD ⟨5,xn,xa,xm,xe,xd,xk,xo⟩ R D=(D.put xn xe).2 from by first | done | rfl | (rw [←hep];rfl))
 have HRR:=Lib.hid (show DOp.doR ⟨5,xn,xa,xm,xe,xd,xk,xo⟩ R=(R.put xn xe).2 from by first | done | rfl | (rw [←hep];rfl))
 rw [HDD.out,HRR.out]
 clear hep HDD HRR
 go_enter Tryz.func66,Tryz.ntmps66
 go_upto_region 3 with (fail)
 clear x0 x1 x2 x3 x4 x5 x6 x7
 generalize w.alloc (.cells #[.int .i64 5, .int .i64 xn, .int .i64 xa, .int .i64 xm, .int .u64 (xe:Nat), .string xd, .slice A xk.length cap, .bool xo] 51)=W at HX HD HR HS ⊢
 generalize w.heap.size=X at HX ⊢
 have x7:W.cell? ⟨X,7,none⟩=some (.bool xo):=HX.out.1.cell 7
 go_cut [25] from 14 to 25 (fun t25 wx=>t25 = .bool G∧∃n,wx=W.drewN n)
 case first =>
  have x1:W.cell? ⟨X,1,none⟩=some (.int .i64 xn):=HX.out.1.cell 1
  cases xo with
  | false =>
    have HG:=Lib.hid (show G=false by rw [←HGG.out];rfl)
    go_wp2_with fail
    go_meet
    case rel=>exact ⟨by rw [HG.out],0,rfl⟩
  | true =>
    by_cases h0:0≤xn
    ·by_cases h1:xn≤16
     ·have HG:=Lib.hid (show G=true by rw [←HGG.out];exact decide_eq_true ⟨rfl,h0,h1⟩)
      go_wp2_with fail
      go_meet
      case rel=>exact ⟨by rw [HG.out],0,rfl⟩
     ·have HG:=Lib.hid (show G=false by rw [←HGG.out];exact decide_eq_false (fun h=>h1 h.2.2))
      go_wp2_with fail
      go_meet
      case rel=>exact ⟨by rw [HG.out],0,rfl⟩
    ·have HG:=Lib.hid (show G=false by rw [←HGG.out];exact decide_eq_false (fun h=>h0 h.2.1))
     go_wp2_with fail
     go_meet
     case rel=>exact ⟨by rw [HG.out],0,rfl⟩
 case rest =>
 obtain ⟨rfl,n0,rfl⟩:=hcut
 clear x7
 replace HX:=Lib.hid (HX.out.step ((Step.refl o (fun _=>False) W).drewN n0) id)
 replace HD:=Lib.hid (HD.out.drewN n0)
 replace HR:=Lib.hid (HR.out.step ((Step.refl o (fun _=>False) W).drewN n0) (fun _ _ h=>h))
 replace HS:=Lib.hid (HS.out.drewN n0)
 generalize W.drewN n0=V0 at HX HD HR HS ⊢
 go_upto_if 25 with (fail)
 go_cut [9] from 26 to 33 (fun t9 wx=>∃n,t9 = .int .u64 (ep:Nat)∧wx=V0.drewN n)
 case first =>
  cases G with
  | false =>
    have HE:=Lib.hid (show xe=ep from HEP.out.1 rfl)
    go_wp2_with fail
    go_meet
    case rel=>exact ⟨0,by rw [HE.out],rfl⟩
  | true =>
    obtain ⟨h0,h1,he⟩:=HEP.out.2 rfl
    obtain ⟨m,rfl⟩:∃m:Nat,xn=m:=⟨xn.toNat,by omega⟩
    have HE:=Lib.hid (show R.table m=ep from he)
    have x1:V0.cell? ⟨X,1,none⟩=some (.int .i64 (m:Nat)):=HX.out.1.cell 1
    have ct:V0.cell? ⟨r,3+m,none⟩=some (.int .u64 (R.table m:Nat)):=by
     obtain ⟨kv,⟨lv,hb,_⟩,_⟩:=HR.out
     rw [hb.cell,rf_table R lv kv m (by omega)]
    have hmI:(m:Int)<17:=by omega
    clear he h0 h1
    go_upto_region 4 with (fail)
    go_quiet (fail)
    go_wp2_with fail
    go_meet
    case rel=>exact ⟨nq,by rw [HE.out],rfl⟩
 case rest =>
  obtain ⟨n,rfl,rfl⟩:=hcut
  replace HX:=Lib.hid (HX.out.step ((Step.refl o (fun _=>False) V0).drewN n) id)
  replace HD:=Lib.hid (HD.out.drewN n)
  replace HR:=Lib.hid (HR.out.step ((Step.refl o (fun _=>False) V0).drewN n) (fun _ _ h=>h))
  replace HS:=Lib.hid (HS.out.drewN n)
  generalize V0.drewN n=V at HX HD HR HS ⊢
  have x0:V.cell? ⟨X,0,none⟩=some (.int .i64 5):=HX.out.1.cell 0
  go_upto_region 17 with (fail)
  clear x0
  have z1:V.drew.cell? ⟨X,1,none⟩=some (.int .i64 xn):=HX.out.1.cell 1
  have z4:V.drew.cell? ⟨X,4,none⟩=some (.int .u64 (xe:Nat)):=HX.out.1.cell 4
  go_region_held3 (fun w'=>w'.cell? ⟨X,1,none⟩=some (.int .i64 xn)∧w'.cell? ⟨X,4,none⟩=some (.int .u64 (xe:Nat)))
   (first | exact ⟨z1,z4⟩ | exact ⟨hk5.1.cell 1,hk5.1.cell 4⟩ | exact ⟨hk4.1.cell 1,hk4.1.cell 4⟩ | go_keep)
   (first
     | (go_at_call 88;((with_reducible refine (dput_calm HD.out.drew xn xe).mono ?_);rintro e4 w4 ⟨rfl,o4,hd4,hs4⟩;have hk4:=HX.out.drew.step hs4 (no_six HC.out);have hr4:=HR.out.drew.step hs4 (by have:=HA.out;unfold three six;omega)))
     | (go_at_call 131;((with_reducible refine (rfput_any hr4 xn xe H2.out.fit.left H2.out.fit.keep (by have:=H2.out.fit.len;have:=HK.out;omega)).mono ?_);rintro e5 w5 ⟨rfl,o5,hr5,hs5⟩;have hk5:=hk4.step hs5 (by have:=HA.out;unfold cutF;omega))))
  have HD5:=Lib.hid (hd4.step hs5 (by have:=HA.out;unfold cutF;omega))
  have HR5:=Lib.hid hr5
  have HS5:=Lib.hid (HS.out.trans (((Step.of_drew hs4).mono (both_six cd cr)).trans (hs5.mono (both_cutF cd cr))))
  rw [(H2.out.sim.put H2.out.left xn xe).1]
  clear hd4 hr5 hs4 hs5 hk4 hk5 hr4 z1 z4
  generalize (R.put xn xe).1=E
  go_wp2_with fail
  go_ret
  exact ⟨by simp,o5,HD5.out,HR5.out,HS5.out⟩
set_option maxRecDepth 100000 in
set_option maxHeartbeats 4000000 in
theorem do8_k3 (hd:DiskAt o cd w p D) (hr:RFAt o cr w r R) (h2:Both2 D R k) (hk:k≤60000) (hcd:1≤cd) (hap:cd+5<cr) (hf:Fut o w) (xn xa xm:Int) (xe:Nat) (xd:ByteArray) (hds:xd.size≤20000) (A:Option Addr) (xk:List Int) (cap:Nat) (xo:Bool) :
 Calls Tryz.prog 66 #[.pointer (some ⟨p,0,none⟩), .pointer (some ⟨r,0,none⟩), .agg #[.int .i64 3, .int .i64 xn, .int .i64 xa, .int .i64 xm, .int .u64 (xe:Nat), .string xd, .slice A xk.length cap, .bool xo]] w (Do8Post o cd cr p r w (DOp.doD ⟨3,xn,xa,xm,xe,xd,xk,xo⟩ R D) (DOp.doR ⟨3,xn,xa,xm,xe,xd,xk,xo⟩ R)):=by
 have hkx:=Keep.new hf 51 #[.int .i64 3, .int .i64 xn, .int .i64 xa, .int .i64 xm, .int .u64 (xe:Nat), .string xd, .slice A xk.length cap, .bool xo]
 have HX:=Lib.hid hkx
 have HD:=Lib.hid (hd.step ((Step.refl o (fun _=>False) w).alloc (.cells #[.int .i64 3, .int .i64 xn, .int .i64 xa, .int .i64 xm, .int .u64 (xe:Nat), .string xd, .slice A xk.length cap, .bool xo] 51)) (fun _ _ _=>id))
 have HR:=Lib.hid (hr.alloc (.cells #[.int .i64 3, .int .i64 xn, .int .i64 xa, .int .i64 xm, .int .u64 (xe:Nat), .string xd, .slice A xk.length cap, .bool xo] 51))
 have HS:=Lib.hid ((Step.refl o (bothC cd cr) w).alloc (.cells #[.int .i64 3, .int .i64 xn, .int .i64 xa, .int .i64 xm, .int .u64 (xe:Nat), .string xd, .slice A xk.length cap, .bool xo] 51))
 have H2:=Lib.hid h2
 have HK:=Lib.hid hk
 have HA:=Lib.hid hap
 have HC:=Lib.hid hcd
 have HDS:=Lib.hid hds
 obtain ⟨x0,x1,x2,x3,x4,x5,x6,x7⟩:=hkx.1.eight
 clear hd hr h2 hk hcd hap hf hkx hds
 obtain ⟨ep,hep⟩:∃ep,DOp.ep ⟨3,xn,xa,xm,xe,xd,xk,xo⟩ R=ep:=⟨_,rfl⟩
 obtain ⟨G,hG⟩:∃G,decide (xo=true∧0≤xn∧xn≤16)=G:=⟨_,rfl⟩
 have HGG:=Lib.hid hG
 have HEP:=Lib.hid (show (G=false→xe=ep)∧(G=true→0≤xn∧xn≤16∧R.table xn.toNat=ep) from by
  unfold DOp.ep at hep
  simp only at hep
  refine ⟨fun h => ?_,fun h => ?_⟩
  ·rwa [if_neg (fun h'=>by rw [decide_eq_true h'] at hG;rw [←hG] at h;cases h)] at hep
  ·have h':=of_decide_eq_true (hG.trans h)
   rw [if_pos h'] at hep
   exact ⟨h'.2.1,h'.2.2,hep⟩)
 clear hG
 have HE3:=Lib.hid (show DOp.ep3 ⟨3,xn,xa,xm,xe,xd,xk,xo⟩ R=if xo=true then (R.last+1) % 18446744073709551616 else ep from by first | done | rfl | (rw [←hep];rfl))
 have HDD:=Lib.hid (show DOp.doD ⟨3,xn,xa,xm,xe,xd,xk,xo⟩ R D=(D.admit xn (DOp.ep3 ⟨3,xn,xa,xm,xe,xd,xk,xo⟩ R)).2 from rfl)
 have HRR:=Lib.hid (show DOp.doR ⟨3,xn,xa,xm,xe,xd,xk,xo⟩ R=(R.admit8 xn (DOp.ep3 ⟨3,xn,xa,xm,xe,xd,xk,xo⟩ R)).2 from rfl)
 rw [HDD.out,HRR.out,HE3.out]
 clear hep HDD HRR HE3
 obtain ⟨e3,he3⟩:∃e3,(if xo=true then (R.last+1) % 18446744073709551616 else ep)=e3:=⟨_,rfl⟩
 rw [he3]
 have HE3:=Lib.hid he3
 clear he3
 go_enter Tryz.func66,Tryz.ntmps66
 go_upto_region 3 with (fail)
 clear x0 x1 x2 x3 x4 x5 x6 x7
 generalize w.alloc (.cells #[.int .i64 3, .int .i64 xn, .int .i64 xa, .int .i64 xm, .int .u64 (xe:Nat), .string xd, .slice A xk.length cap, .bool xo] 51)=W at HX HD HR HS ⊢
 generalize w.heap.size=X at HX ⊢
 have x7:W.cell? ⟨X,7,none⟩=some (.bool xo):=HX.out.1.cell 7
 go_cut [25] from 14 to 25 (fun t25 wx=>t25 = .bool G∧∃n,wx=W.drewN n)
 case first =>
  have x1:W.cell? ⟨X,1,none⟩=some (.int .i64 xn):=HX.out.1.cell 1
  cases xo with
  | false =>
    have HG:=Lib.hid (show G=false by rw [←HGG.out];rfl)
    go_wp2_with fail
    go_meet
    case rel=>exact ⟨by rw [HG.out],0,rfl⟩
  | true =>
    by_cases h0:0≤xn
    ·by_cases h1:xn≤16
     ·have HG:=Lib.hid (show G=true by rw [←HGG.out];exact decide_eq_true ⟨rfl,h0,h1⟩)
      go_wp2_with fail
      go_meet
      case rel=>exact ⟨by rw [HG.out],0,rfl⟩
     ·have HG:=Lib.hid (show G=false by rw [←HGG.out];exact decide_eq_false (fun h=>h1 h.2.2))
      go_wp2_with fail
      go_meet
      case rel=>exact ⟨by rw [HG.out],0,rfl⟩
    ·have HG:=Lib.hid (show G=false by rw [←HGG.out];exact decide_eq_false (fun h=>h0 h.2.1))
     go_wp2_with fail
     go_meet
     case rel=>exact ⟨by rw [HG.out],0,rfl⟩
 case rest =>
 obtain ⟨rfl,n0,rfl⟩:=hcut
 clear x7
 replace HX:=Lib.hid (HX.out.step ((Step.refl o (fun _=>False) W).drewN n0) id)
 replace HD:=Lib.hid (HD.out.drewN n0)
 replace HR:=Lib.hid (HR.out.step ((Step.refl o (fun _=>False) W).drewN n0) (fun _ _ h=>h))
 replace HS:=Lib.hid (HS.out.drewN n0)
 generalize W.drewN n0=V0 at HX HD HR HS ⊢
 go_upto_if 25 with (fail)
 go_cut [9] from 26 to 33 (fun t9 wx=>∃n,t9 = .int .u64 (ep:Nat)∧wx=V0.drewN n)
 case first =>
  cases G with
  | false =>
    have HE:=Lib.hid (show xe=ep from HEP.out.1 rfl)
    go_wp2_with fail
    go_meet
    case rel=>exact ⟨0,by rw [HE.out],rfl⟩
  | true =>
    obtain ⟨h0,h1,he⟩:=HEP.out.2 rfl
    obtain ⟨m,rfl⟩:∃m:Nat,xn=m:=⟨xn.toNat,by omega⟩
    have HE:=Lib.hid (show R.table m=ep from he)
    have x1:V0.cell? ⟨X,1,none⟩=some (.int .i64 (m:Nat)):=HX.out.1.cell 1
    have ct:V0.cell? ⟨r,3+m,none⟩=some (.int .u64 (R.table m:Nat)):=by
     obtain ⟨kv,⟨lv,hb,_⟩,_⟩:=HR.out
     rw [hb.cell,rf_table R lv kv m (by omega)]
    have hmI:(m:Int)<17:=by omega
    clear he h0 h1
    go_upto_region 4 with (fail)
    go_quiet (fail)
    go_wp2_with fail
    go_meet
    case rel=>exact ⟨nq,by rw [HE.out],rfl⟩
 case rest =>
  obtain ⟨n,rfl,rfl⟩:=hcut
  replace HX:=Lib.hid (HX.out.step ((Step.refl o (fun _=>False) V0).drewN n) id)
  replace HD:=Lib.hid (HD.out.drewN n)
  replace HR:=Lib.hid (HR.out.step ((Step.refl o (fun _=>False) V0).drewN n) (fun _ _ h=>h))
  replace HS:=Lib.hid (HS.out.drewN n)
  generalize V0.drewN n=V at HX HD HR HS ⊢
  have x0:V.cell? ⟨X,0,none⟩=some (.int .i64 3):=HX.out.1.cell 0
  have x7:V.cell? ⟨X,7,none⟩=some (.bool xo):=HX.out.1.cell 7
  cases xo with
  | false =>
    obtain rfl:ep=e3:=by have h:=HE3.out;rwa [if_neg (by decide)] at h
    go_upto_region 13 with (fail)
    clear x0 x7
    have z1:V.drew.cell? ⟨X,1,none⟩=some (.int .i64 xn):=HX.out.1.cell 1
    go_region_held3 (fun w'=>w'.cell? ⟨X,1,none⟩=some (.int .i64 xn))
     (first | exact z1 | exact hk5.1.cell 1 | exact hk4.1.cell 1 | go_keep)
     (first
       | (go_at_call 17;((with_reducible refine (dadmit_calm HD.out.drew xn ep).mono ?_);rintro e4 w4 ⟨rfl,o4,hd4,hs4⟩;have hk4:=HX.out.drew.step hs4 (no_six HC.out);have hr4:=HR.out.drew.step hs4 (by have:=HA.out;unfold three six;omega)))
       | (go_at_call 41;((with_reducible refine (rfadmit_any hr4 xn ep H2.out.fit.left H2.out.fit.keep (by have:=H2.out.fit.len;have:=HK.out;omega)).mono ?_);rintro e5 w5 ⟨rfl,o5,hr5,hs5⟩;have hk5:=hk4.step hs5 (by have:=HA.out;unfold cutF;omega))))
    have HD5:=Lib.hid (hd4.step hs5 (by have:=HA.out;unfold cutF;omega))
    have HR5:=Lib.hid hr5
    have HS5:=Lib.hid (HS.out.trans (((Step.of_drew hs4).mono (both_six cd cr)).trans (hs5.mono (both_cutF cd cr))))
    rw [(H2.out.sim.admit H2.out.left xn ep).1]
    clear hd4 hr5 hs4 hs5 hk4 hk5 hr4 z1
    generalize (R.admit8 xn ep).1=E
    go_wp2_with fail
    go_ret
    exact ⟨by simp,o5,HD5.out,HR5.out,HS5.out⟩
  | true =>
    have hlc:V.cell? ⟨r,37,none⟩=some (.int .u64 (R.last:Nat)):=by
     obtain ⟨kv,⟨lv,hb,_⟩,_⟩:=HR.out
     exact hb.cell 37
    have hw:IntKind.u64.wrap ((R.last:Int)+1)=(e3:Int):=by have h:=HE3.out;rw [if_pos rfl] at h;rw [IntKind.wrap_u64];omega
    go_upto_region 13 with (fail)
    first | rw [hw] | skip
    clear x0 x7 hlc hw
    have z1:V.drew.cell? ⟨X,1,none⟩=some (.int .i64 xn):=HX.out.1.cell 1
    go_region_held3 (fun w'=>w'.cell? ⟨X,1,none⟩=some (.int .i64 xn))
     (first | exact z1 | exact hk5.1.cell 1 | exact hk4.1.cell 1 | go_keep)
     (first
       | (go_at_call 17;((with_reducible refine (dadmit_calm HD.out.drew xn e3).mono ?_);rintro e4 w4 ⟨rfl,o4,hd4,hs4⟩;have hk4:=HX.out.drew.step hs4 (no_six HC.out);have hr4:=HR.out.drew.step hs4 (by have:=HA.out;unfold three six;omega)))
       | (go_at_call 41;((with_reducible refine (rfadmit_any hr4 xn e3 H2.out.fit.left H2.out.fit.keep (by have:=H2.out.fit.len;have:=HK.out;omega)).mono ?_);rintro e5 w5 ⟨rfl,o5,hr5,hs5⟩;have hk5:=hk4.step hs5 (by have:=HA.out;unfold cutF;omega))))
    have HD5:=Lib.hid (hd4.step hs5 (by have:=HA.out;unfold cutF;omega))
    have HR5:=Lib.hid hr5
    have HS5:=Lib.hid (HS.out.trans (((Step.of_drew hs4).mono (both_six cd cr)).trans (hs5.mono (both_cutF cd cr))))
    rw [(H2.out.sim.admit H2.out.left xn e3).1]
    clear hd4 hr5 hs4 hs5 hk4 hk5 hr4 z1
    generalize (R.admit8 xn e3).1=E
    go_wp2_with fail
    go_ret
    exact ⟨by simp,o5,HD5.out,HR5.out,HS5.out⟩
set_option maxRecDepth 100000 in
set_option maxHeartbeats 4000000 in
theorem do8_k6 (hd:DiskAt o cd w p D) (hr:RFAt o cr w r R) (h2:Both2 D R k) (hk:k≤60000) (hcd:1≤cd) (hap:cd+5<cr) (hf:Fut o w) (xn xa xm:Int) (xe:Nat) (xd:ByteArray) (hds:xd.size≤20000) (A:Option Addr) (xk:List Int) (cap:Nat) (xo:Bool) (hkr:∀(o':Nat→Nat) (w':World),Step o (bothC cd cr) w o' w'→Reads w' 1 A xk.length (intcells xk)) (hkl:xk.length≤20000) :
 Calls Tryz.prog 66 #[.pointer (some ⟨p,0,none⟩), .pointer (some ⟨r,0,none⟩), .agg #[.int .i64 6, .int .i64 xn, .int .i64 xa, .int .i64 xm, .int .u64 (xe:Nat), .string xd, .slice A xk.length cap, .bool xo]] w (Do8Post o cd cr p r w (DOp.doD ⟨6,xn,xa,xm,xe,xd,xk,xo⟩ R D) (DOp.doR ⟨6,xn,xa,xm,xe,xd,xk,xo⟩ R)):=by
 have hkx:=Keep.new hf 51 #[.int .i64 6, .int .i64 xn, .int .i64 xa, .int .i64 xm, .int .u64 (xe:Nat), .string xd, .slice A xk.length cap, .bool xo]
 have HX:=Lib.hid hkx
 have HD:=Lib.hid (hd.step ((Step.refl o (fun _=>False) w).alloc (.cells #[.int .i64 6, .int .i64 xn, .int .i64 xa, .int .i64 xm, .int .u64 (xe:Nat), .string xd, .slice A xk.length cap, .bool xo] 51)) (fun _ _ _=>id))
 have HR:=Lib.hid (hr.alloc (.cells #[.int .i64 6, .int .i64 xn, .int .i64 xa, .int .i64 xm, .int .u64 (xe:Nat), .string xd, .slice A xk.length cap, .bool xo] 51))
 have HS:=Lib.hid ((Step.refl o (bothC cd cr) w).alloc (.cells #[.int .i64 6, .int .i64 xn, .int .i64 xa, .int .i64 xm, .int .u64 (xe:Nat), .string xd, .slice A xk.length cap, .bool xo] 51))
 have H2:=Lib.hid h2
 have HK:=Lib.hid hk
 have HA:=Lib.hid hap
 have HC:=Lib.hid hcd
 have HDS:=Lib.hid hds
 have HKR:=Lib.hid hkr
 have HKL:=Lib.hid hkl
 clear hkr hkl
 obtain ⟨x0,x1,x2,x3,x4,x5,x6,x7⟩:=hkx.1.eight
 clear hd hr h2 hk hcd hap hf hkx hds
 obtain ⟨ep,hep⟩:∃ep,DOp.ep ⟨6,xn,xa,xm,xe,xd,xk,xo⟩ R=ep:=⟨_,rfl⟩
 obtain ⟨G,hG⟩:∃G,decide (xo=true∧0≤xn∧xn≤16)=G:=⟨_,rfl⟩
 have HGG:=Lib.hid hG
 have HEP:=Lib.hid (show (G=false→xe=ep)∧(G=true→0≤xn∧xn≤16∧R.table xn.toNat=ep) from by
  unfold DOp.ep at hep
  simp only at hep
  refine ⟨fun h => ?_,fun h => ?_⟩
  ·rwa [if_neg (fun h'=>by rw [decide_eq_true h'] at hG;rw [←hG] at h;cases h)] at hep
  ·have h':=of_decide_eq_true (hG.trans h)
   rw [if_pos h'] at hep
   exact ⟨h'.2.1,h'.2.2,hep⟩)
 clear hG
 have HDD:=Lib.hid (show DOp.doD ⟨6,xn,xa,xm,xe,xd,xk,xo⟩ R D=(D.cut xk).2 from rfl)
 have HRR:=Lib.hid (show DOp.doR ⟨6,xn,xa,xm,xe,xd,xk,xo⟩ R=(R.cut xk).2 from rfl)
 rw [HDD.out,HRR.out]
 clear hep HDD HRR
 go_enter Tryz.func66,Tryz.ntmps66
 go_upto_region 3 with (fail)
 clear x0 x1 x2 x3 x4 x5 x6 x7
 generalize w.alloc (.cells #[.int .i64 6, .int .i64 xn, .int .i64 xa, .int .i64 xm, .int .u64 (xe:Nat), .string xd, .slice A xk.length cap, .bool xo] 51)=W at HX HD HR HS ⊢
 generalize w.heap.size=X at HX ⊢
 have x7:W.cell? ⟨X,7,none⟩=some (.bool xo):=HX.out.1.cell 7
 go_cut [25] from 14 to 25 (fun t25 wx=>t25 = .bool G∧∃n,wx=W.drewN n)
 case first =>
  have x1:W.cell? ⟨X,1,none⟩=some (.int .i64 xn):=HX.out.1.cell 1
  cases xo with
  | false =>
    have HG:=Lib.hid (show G=false by rw [←HGG.out];rfl)
    go_wp2_with fail
    go_meet
    case rel=>exact ⟨by rw [HG.out],0,rfl⟩
  | true =>
    by_cases h0:0≤xn
    ·by_cases h1:xn≤16
     ·have HG:=Lib.hid (show G=true by rw [←HGG.out];exact decide_eq_true ⟨rfl,h0,h1⟩)
      go_wp2_with fail
      go_meet
      case rel=>exact ⟨by rw [HG.out],0,rfl⟩
     ·have HG:=Lib.hid (show G=false by rw [←HGG.out];exact decide_eq_false (fun h=>h1 h.2.2))
      go_wp2_with fail
      go_meet
      case rel=>exact ⟨by rw [HG.out],0,rfl⟩
    ·have HG:=Lib.hid (show G=false by rw [←HGG.out];exact decide_eq_false (fun h=>h0 h.2.1))
     go_wp2_with fail
     go_meet
     case rel=>exact ⟨by rw [HG.out],0,rfl⟩
 case rest =>
 obtain ⟨rfl,n0,rfl⟩:=hcut
 clear x7
 replace HX:=Lib.hid (HX.out.step ((Step.refl o (fun _=>False) W).drewN n0) id)
 replace HD:=Lib.hid (HD.out.drewN n0)
 replace HR:=Lib.hid (HR.out.step ((Step.refl o (fun _=>False) W).drewN n0) (fun _ _ h=>h))
 replace HS:=Lib.hid (HS.out.drewN n0)
 generalize W.drewN n0=V0 at HX HD HR HS ⊢
 go_upto_if 25 with (fail)
 go_cut [9] from 26 to 33 (fun t9 wx=>∃n,t9 = .int .u64 (ep:Nat)∧wx=V0.drewN n)
 case first =>
  cases G with
  | false =>
    have HE:=Lib.hid (show xe=ep from HEP.out.1 rfl)
    go_wp2_with fail
    go_meet
    case rel=>exact ⟨0,by rw [HE.out],rfl⟩
  | true =>
    obtain ⟨h0,h1,he⟩:=HEP.out.2 rfl
    obtain ⟨m,rfl⟩:∃m:Nat,xn=m:=⟨xn.toNat,by omega⟩
    have HE:=Lib.hid (show R.table m=ep from he)
    have x1:V0.cell? ⟨X,1,none⟩=some (.int .i64 (m:Nat)):=HX.out.1.cell 1
    have ct:V0.cell? ⟨r,3+m,none⟩=some (.int .u64 (R.table m:Nat)):=by
     obtain ⟨kv,⟨lv,hb,_⟩,_⟩:=HR.out
     rw [hb.cell,rf_table R lv kv m (by omega)]
    have hmI:(m:Int)<17:=by omega
    clear he h0 h1
    go_upto_region 4 with (fail)
    go_quiet (fail)
    go_wp2_with fail
    go_meet
    case rel=>exact ⟨nq,by rw [HE.out],rfl⟩
 case rest =>
  obtain ⟨n,rfl,rfl⟩:=hcut
  replace HX:=Lib.hid (HX.out.step ((Step.refl o (fun _=>False) V0).drewN n) id)
  replace HD:=Lib.hid (HD.out.drewN n)
  replace HR:=Lib.hid (HR.out.step ((Step.refl o (fun _=>False) V0).drewN n) (fun _ _ h=>h))
  replace HS:=Lib.hid (HS.out.drewN n)
  generalize V0.drewN n=V at HX HD HR HS ⊢
  have x0:V.cell? ⟨X,0,none⟩=some (.int .i64 6):=HX.out.1.cell 0
  have x6:V.cell? ⟨X,6,none⟩=some (.slice A xk.length cap):=HX.out.1.cell 6
  go_wp2_with fail
  refine (lentints_any o 0 V A cap xk (HKR.out o V HS.out) (by have:=HKL.out;omega)).mono ?_
  rintro e1 w1 ⟨A',cap',o1,rfl,hc',how,hs1⟩
  have hn0:∀x:Nat,(fun _:Nat=>False) x→bothC cd cr x:=fun _ h=>h.elim
  have HX1:=Lib.hid (HX.out.step hs1 id)
  have HD1:=Lib.hid (HD.out.step hs1 (fun _ _ _=>id))
  have HR1:=Lib.hid (HR.out.step hs1 (fun _ _ h=>h))
  have HS1:=Lib.hid (HS.out.trans (hs1.mono hn0))
  have HO1:=Lib.hid how
  have HC1:=Lib.hid hc'
  obtain ⟨N,hN⟩:∃N,(R.cut xk).1=N:=⟨_,rfl⟩
  have HN:=Lib.hid hN
  have HM:=Lib.hid ((H2.out.sim.cut xk).1.trans hN)
  clear hN how hc' hs1 x6 x0 HX HD HR HS hn0
  go_upto_region 20 with (fail)
  have z6:w1.drew.cell? ⟨X,6,none⟩=some (.slice A xk.length cap):=HX1.out.1.cell 6
  go_region_held3 (fun w'=>w'.cell? ⟨X,6,none⟩=some (.slice A xk.length cap))
   (first | exact z6 | exact hk6.1.cell 6 | exact hk5.1.cell 6 | exact hk4.1.cell 6 | go_keep)
   (first
     | (go_at_call 97;((with_reducible refine (dcut_n HD1.out.drew xk A' cap' (fun o' w' hs=>(lent_rd (HO1.out.drew.step hs (by have:=HC.out;unfold cutC;omega))).lentN) (by have:=HKL.out;unfold maxLen;omega) N HM.out).mono ?_);rintro e4 w4 ⟨rfl,o4,hd4,hs4⟩;have hk4:=HX1.out.drew.step hs4 (no_six HC.out);have hr4:=HR1.out.drew.step hs4 (by have:=HA.out;unfold three six;omega);have ho4:=HO1.out.drew.step hs4 (no_six HC.out);have hss4:=HS1.out.trans ((Step.of_drew hs4).mono (both_six cd cr))))
     | (go_at_call 133;((with_reducible refine (rfcut_n hr4 xk A cap (fun o' w' hs=>HKR.out o' w' (hss4.trans (hs.mono (both_row cd cr)))) (by have:=HKL.out;omega) (by have:=H2.out.fit.len;have:=HK.out;omega) N HN.out).mono ?_);rintro e5 w5 ⟨rfl,o5,hr5,hs5⟩;have hk5:=hk4.step hs5 (by have:=HA.out;unfold cutF;omega);have ho5:=ho4.step hs5 (by have:=HA.out;unfold cutF;omega);have hss5:=hss4.trans (hs5.mono (both_cutF cd cr))))
     | (go_at_call 134;((with_reducible refine (staysints_any w5 A' A cap' cap xk (lent_rd ho5) (HKR.out o5 w5 hss5) HC1.out (by have:=HKL.out;omega)).mono ?_);rintro e6 w6 ⟨rfl,n6,rfl⟩;have hk6:=hk5.drewN n6)))
  have HD5:=Lib.hid ((hd4.step hs5 (by have:=HA.out;unfold cutF;omega)).drewN n6)
  have HR5:=Lib.hid (hr5.step ((Step.refl o5 (fun _=>False) w5).drewN n6) (fun _ _ h=>h))
  have HS5:=Lib.hid (hss5.drewN n6)
  clear hd4 hr5 hs4 hs5 hk4 hk5 hk6 hr4 hss4 hss5 ho4 ho5 z6
  go_wp2_with fail
  go_ret
  exact ⟨by simp,o5,HD5.out,HR5.out,HS5.out⟩
set_option maxRecDepth 100000 in
set_option maxHeartbeats 4000000 in
theorem do8_k7 (hd:DiskAt o cd w p D) (hr:RFAt o cr w r R) (h2:Both2 D R k) (hk:k≤60000) (hcd:1≤cd) (hap:cd+5<cr) (hf:Fut o w) (xn xa xm:Int) (xe:Nat) (xd:ByteArray) (hds:xd.size≤20000) (A:Option Addr) (xk:List Int) (cap:Nat) (xo:Bool) :
 Calls Tryz.prog 66 #[.pointer (some ⟨p,0,none⟩), .pointer (some ⟨r,0,none⟩), .agg #[.int .i64 7, .int .i64 xn, .int .i64 xa, .int .i64 xm, .int .u64 (xe:Nat), .string xd, .slice A xk.length cap, .bool xo]] w (Do8Post o cd cr p r w (DOp.doD ⟨7,xn,xa,xm,xe,xd,xk,xo⟩ R D) (DOp.doR ⟨7,xn,xa,xm,xe,xd,xk,xo⟩ R)):=by
 have hkx:=Keep.new hf 51 #[.int .i64 7, .int .i64 xn, .int .i64 xa, .int .i64 xm, .int .u64 (xe:Nat), .string xd, .slice A xk.length cap, .bool xo]
 have HX:=Lib.hid hkx
 have HD:=Lib.hid (hd.step ((Step.refl o (fun _=>False) w).alloc (.cells #[.int .i64 7, .int .i64 xn, .int .i64 xa, .int .i64 xm, .int .u64 (xe:Nat), .string xd, .slice A xk.length cap, .bool xo] 51)) (fun _ _ _=>id))
 have HR:=Lib.hid (hr.alloc (.cells #[.int .i64 7, .int .i64 xn, .int .i64 xa, .int .i64 xm, .int .u64 (xe:Nat), .string xd, .slice A xk.length cap, .bool xo] 51))
 have HS:=Lib.hid ((Step.refl o (bothC cd cr) w).alloc (.cells #[.int .i64 7, .int .i64 xn, .int .i64 xa, .int .i64 xm, .int .u64 (xe:Nat), .string xd, .slice A xk.length cap, .bool xo] 51))
 have H2:=Lib.hid h2
 have HK:=Lib.hid hk
 have HA:=Lib.hid hap
 have HC:=Lib.hid hcd
 have HDS:=Lib.hid hds
 obtain ⟨x0,x1,x2,x3,x4,x5,x6,x7⟩:=hkx.1.eight
 clear hd hr h2 hk hcd hap hf hkx hds
 obtain ⟨ep,hep⟩:∃ep,DOp.ep ⟨7,xn,xa,xm,xe,xd,xk,xo⟩ R=ep:=⟨_,rfl⟩
 obtain ⟨G,hG⟩:∃G,decide (xo=true∧0≤xn∧xn≤16)=G:=⟨_,rfl⟩
 have HGG:=Lib.hid hG
 have HEP:=Lib.hid (show (G=false→xe=ep)∧(G=true→0≤xn∧xn≤16∧R.table xn.toNat=ep) from by
  unfold DOp.ep at hep
  simp only at hep
  refine ⟨fun h => ?_,fun h => ?_⟩
  ·rwa [if_neg (fun h'=>by rw [decide_eq_true h'] at hG;rw [←hG] at h;cases h)] at hep
  ·have h':=of_decide_eq_true (hG.trans h)
   rw [if_pos h'] at hep
   exact ⟨h'.2.1,h'.2.2,hep⟩)
 clear hG
 have HDD:=Lib.hid (show DOp.doD ⟨7,xn,xa,xm,xe,xd,xk,xo⟩ R D=D.restore from rfl)
 have HRR:=Lib.hid (show DOp.doR ⟨7,xn,xa,xm,xe,xd,xk,xo⟩ R=R.restore from rfl)
 rw [HDD.out,HRR.out]
 clear hep HDD HRR
 go_enter Tryz.func66,Tryz.ntmps66
 go_upto_region 3 with (fail)
 clear x0 x1 x2 x3 x4 x5 x6 x7
 generalize w.alloc (.cells #[.int .i64 7, .int .i64 xn, .int .i64 xa, .int .i64 xm, .int .u64 (xe:Nat), .string xd, .slice A xk.length cap, .bool xo] 51)=W at HX HD HR HS ⊢
 generalize w.heap.size=X at HX ⊢
 have x7:W.cell? ⟨X,7,none⟩=some (.bool xo):=HX.out.1.cell 7
 go_cut [25] from 14 to 25 (fun t25 wx=>t25 = .bool G∧∃n,wx=W.drewN n)
 case first =>
  have x1:W.cell? ⟨X,1,none⟩=some (.int .i64 xn):=HX.out.1.cell 1
  cases xo with
  | false =>
    have HG:=Lib.hid (show G=false by rw [←HGG.out];rfl)
    go_wp2_with fail
    go_meet
    case rel=>exact ⟨by rw [HG.out],0,rfl⟩
  | true =>
    by_cases h0:0≤xn
    ·by_cases h1:xn≤16
     ·have HG:=Lib.hid (show G=true by rw [←HGG.out];exact decide_eq_true ⟨rfl,h0,h1⟩)
      go_wp2_with fail
      go_meet
      case rel=>exact ⟨by rw [HG.out],0,rfl⟩
     ·have HG:=Lib.hid (show G=false by rw [←HGG.out];exact decide_eq_false (fun h=>h1 h.2.2))
      go_wp2_with fail
      go_meet
      case rel=>exact ⟨by rw [HG.out],0,rfl⟩
    ·have HG:=Lib.hid (show G=false by rw [←HGG.out];exact decide_eq_false (fun h=>h0 h.2.1))
     go_wp2_with fail
     go_meet
     case rel=>exact ⟨by rw [HG.out],0,rfl⟩
 case rest =>
 obtain ⟨rfl,n0,rfl⟩:=hcut
 clear x7
 replace HX:=Lib.hid (HX.out.step ((Step.refl o (fun _=>False) W).drewN n0) id)
 replace HD:=Lib.hid (HD.out.drewN n0)
 replace HR:=Lib.hid (HR.out.step ((Step.refl o (fun _=>False) W).drewN n0) (fun _ _ h=>h))
 replace HS:=Lib.hid (HS.out.drewN n0)
 generalize W.drewN n0=V0 at HX HD HR HS ⊢
 go_upto_if 25 with (fail)
 go_cut [9] from 26 to 33 (fun t9 wx=>∃n,t9 = .int .u64 (ep:Nat)∧wx=V0.drewN n)
 case first =>
  cases G with
  | false =>
    have HE:=Lib.hid (show xe=ep from HEP.out.1 rfl)
    go_wp2_with fail
    go_meet
    case rel=>exact ⟨0,by rw [HE.out],rfl⟩
  | true =>
    obtain ⟨h0,h1,he⟩:=HEP.out.2 rfl
    obtain ⟨m,rfl⟩:∃m:Nat,xn=m:=⟨xn.toNat,by omega⟩
    have HE:=Lib.hid (show R.table m=ep from he)
    have x1:V0.cell? ⟨X,1,none⟩=some (.int .i64 (m:Nat)):=HX.out.1.cell 1
    have ct:V0.cell? ⟨r,3+m,none⟩=some (.int .u64 (R.table m:Nat)):=by
     obtain ⟨kv,⟨lv,hb,_⟩,_⟩:=HR.out
     rw [hb.cell,rf_table R lv kv m (by omega)]
    have hmI:(m:Int)<17:=by omega
    clear he h0 h1
    go_upto_region 4 with (fail)
    go_quiet (fail)
    go_wp2_with fail
    go_meet
    case rel=>exact ⟨nq,by rw [HE.out],rfl⟩
 case rest =>
  obtain ⟨n,rfl,rfl⟩:=hcut
  replace HX:=Lib.hid (HX.out.step ((Step.refl o (fun _=>False) V0).drewN n) id)
  replace HD:=Lib.hid (HD.out.drewN n)
  replace HR:=Lib.hid (HR.out.step ((Step.refl o (fun _=>False) V0).drewN n) (fun _ _ h=>h))
  replace HS:=Lib.hid (HS.out.drewN n)
  generalize V0.drewN n=V at HX HD HR HS ⊢
  have x0:V.cell? ⟨X,0,none⟩=some (.int .i64 7):=HX.out.1.cell 0
  go_wp2_with fail
  refine (drestore_any HD.out (by rw [H2.out.tame.sectors];decide)).mono ?_
  rintro e1 w1 ⟨rfl,o1,hd1,hs1⟩
  have hr1:=HR.out.step hs1 (by have:=HA.out;unfold only three;omega)
  have hrs:=rf_restore (cd:=cd) hr1
  have HD1:=Lib.hid (hd1.step hrs.2.2 (by have:=HA.out;unfold only;omega))
  have HR1:=Lib.hid hrs.1
  have HS1:=Lib.hid ((HS.out.trans (hs1.mono (fun y hy => .inl ⟨Nat.le_of_eq (Eq.symm hy),by unfold only at hy;omega⟩))).trans (hrs.2.1))
  have x2:w1.cell? ⟨r,2,none⟩=some (.bool R.off):=by
   obtain ⟨kv,⟨lv,hb,_⟩,_⟩:=hr1
   exact hb.cell 2
  have f2:w1.frozen? ⟨r,2,none⟩=false:=by
   obtain ⟨kv,⟨lv,hb,_⟩,_⟩:=hr1
   exact hb.frozen 2
  have x1':w1.cell? ⟨X,0,none⟩=some (.int .i64 7):=(HX.out.step hs1 (by have:=HC.out;unfold only;omega)).1.cell 0
  clear hrs hr1 hd1 hs1 x0
  go_wp2_with fail
  go_ret
  exact ⟨by simp,o1,HD1.out,HR1.out,HS1.out⟩
set_option maxRecDepth 100000 in
set_option maxHeartbeats 4000000 in
theorem do8_k9 (hd:DiskAt o cd w p D) (hr:RFAt o cr w r R) (h2:Both2 D R k) (hk:k≤60000) (hcd:1≤cd) (hap:cd+5<cr) (hf:Fut o w) (xn xa xm:Int) (xe:Nat) (xd:ByteArray) (hds:xd.size≤20000) (A:Option Addr) (xk:List Int) (cap:Nat) (xo:Bool) (hkr:∀(o':Nat→Nat) (w':World),Step o (bothC cd cr) w o' w'→Reads w' 1 A xk.length (intcells xk)) (hkl:xk.length≤20000) :
 Calls Tryz.prog 66 #[.pointer (some ⟨p,0,none⟩), .pointer (some ⟨r,0,none⟩), .agg #[.int .i64 9, .int .i64 xn, .int .i64 xa, .int .i64 xm, .int .u64 (xe:Nat), .string xd, .slice A xk.length cap, .bool xo]] w (Do8Post o cd cr p r w (DOp.doD ⟨9,xn,xa,xm,xe,xd,xk,xo⟩ R D) (DOp.doR ⟨9,xn,xa,xm,xe,xd,xk,xo⟩ R)):=by
 have hkx:=Keep.new hf 51 #[.int .i64 9, .int .i64 xn, .int .i64 xa, .int .i64 xm, .int .u64 (xe:Nat), .string xd, .slice A xk.length cap, .bool xo]
 have HX:=Lib.hid hkx
 have HD:=Lib.hid (hd.step ((Step.refl o (fun _=>False) w).alloc (.cells #[.int .i64 9, .int .i64 xn, .int .i64 xa, .int .i64 xm, .int .u64 (xe:Nat), .string xd, .slice A xk.length cap, .bool xo] 51)) (fun _ _ _=>id))
 have HR:=Lib.hid (hr.alloc (.cells #[.int .i64 9, .int .i64 xn, .int .i64 xa, .int .i64 xm, .int .u64 (xe:Nat), .string xd, .slice A xk.length cap, .bool xo] 51))
 have HS:=Lib.hid ((Step.refl o (bothC cd cr) w).alloc (.cells #[.int .i64 9, .int .i64 xn, .int .i64 xa, .int .i64 xm, .int .u64 (xe:Nat), .string xd, .slice A xk.length cap, .bool xo] 51))
 have H2:=Lib.hid h2
 have HK:=Lib.hid hk
 have HA:=Lib.hid hap
 have HC:=Lib.hid hcd
 have HDS:=Lib.hid hds
 have HKR:=Lib.hid hkr
 have HKL:=Lib.hid hkl
 clear hkr hkl
 obtain ⟨x0,x1,x2,x3,x4,x5,x6,x7⟩:=hkx.1.eight
 clear hd hr h2 hk hcd hap hf hkx hds
 obtain ⟨ep,hep⟩:∃ep,DOp.ep ⟨9,xn,xa,xm,xe,xd,xk,xo⟩ R=ep:=⟨_,rfl⟩
 obtain ⟨G,hG⟩:∃G,decide (xo=true∧0≤xn∧xn≤16)=G:=⟨_,rfl⟩
 have HGG:=Lib.hid hG
 have HEP:=Lib.hid (show (G=false→xe=ep)∧(G=true→0≤xn∧xn≤16∧R.table xn.toNat=ep) from by
  unfold DOp.ep at hep
  simp only at hep
  refine ⟨fun h => ?_,fun h => ?_⟩
  ·rwa [if_neg (fun h'=>by rw [decide_eq_true h'] at hG;rw [←hG] at h;cases h)] at hep
  ·have h':=of_decide_eq_true (hG.trans h)
   rw [if_pos h'] at hep
   exact ⟨h'.2.1,h'.2.2,hep⟩)
 clear hG
 have HDD:=Lib.hid (show DOp.doD ⟨9,xn,xa,xm,xe,xd,xk,xo⟩ R D=D.arm xm xk from rfl)
 have HRR:=Lib.hid (show DOp.doR ⟨9,xn,xa,xm,xe,xd,xk,xo⟩ R=R.arm xm xk from rfl)
 rw [HDD.out,HRR.out]
 clear hep HDD HRR
 go_enter Tryz.func66,Tryz.ntmps66
 go_upto_region 3 with (fail)
 clear x0 x1 x2 x3 x4 x5 x6 x7
 generalize w.alloc (.cells #[.int .i64 9, .int .i64 xn, .int .i64 xa, .int .i64 xm, .int .u64 (xe:Nat), .string xd, .slice A xk.length cap, .bool xo] 51)=W at HX HD HR HS ⊢
 generalize w.heap.size=X at HX ⊢
 have x7:W.cell? ⟨X,7,none⟩=some (.bool xo):=HX.out.1.cell 7
 go_cut [25] from 14 to 25 (fun t25 wx=>t25 = .bool G∧∃n,wx=W.drewN n)
 case first =>
  have x1:W.cell? ⟨X,1,none⟩=some (.int .i64 xn):=HX.out.1.cell 1
  cases xo with
  | false =>
    have HG:=Lib.hid (show G=false by rw [←HGG.out];rfl)
    go_wp2_with fail
    go_meet
    case rel=>exact ⟨by rw [HG.out],0,rfl⟩
  | true =>
    by_cases h0:0≤xn
    ·by_cases h1:xn≤16
     ·have HG:=Lib.hid (show G=true by rw [←HGG.out];exact decide_eq_true ⟨rfl,h0,h1⟩)
      go_wp2_with fail
      go_meet
      case rel=>exact ⟨by rw [HG.out],0,rfl⟩
     ·have HG:=Lib.hid (show G=false by rw [←HGG.out];exact decide_eq_false (fun h=>h1 h.2.2))
      go_wp2_with fail
      go_meet
      case rel=>exact ⟨by rw [HG.out],0,rfl⟩
    ·have HG:=Lib.hid (show G=false by rw [←HGG.out];exact decide_eq_false (fun h=>h0 h.2.1))
     go_wp2_with fail
     go_meet
     case rel=>exact ⟨by rw [HG.out],0,rfl⟩
 case rest =>
 obtain ⟨rfl,n0,rfl⟩:=hcut
 clear x7
 replace HX:=Lib.hid (HX.out.step ((Step.refl o (fun _=>False) W).drewN n0) id)
 replace HD:=Lib.hid (HD.out.drewN n0)
 replace HR:=Lib.hid (HR.out.step ((Step.refl o (fun _=>False) W).drewN n0) (fun _ _ h=>h))
 replace HS:=Lib.hid (HS.out.drewN n0)
 generalize W.drewN n0=V0 at HX HD HR HS ⊢
 go_upto_if 25 with (fail)
 go_cut [9] from 26 to 33 (fun t9 wx=>∃n,t9 = .int .u64 (ep:Nat)∧wx=V0.drewN n)
 case first =>
  cases G with
  | false =>
    have HE:=Lib.hid (show xe=ep from HEP.out.1 rfl)
    go_wp2_with fail
    go_meet
    case rel=>exact ⟨0,by rw [HE.out],rfl⟩
  | true =>
    obtain ⟨h0,h1,he⟩:=HEP.out.2 rfl
    obtain ⟨m,rfl⟩:∃m:Nat,xn=m:=⟨xn.toNat,by omega⟩
    have HE:=Lib.hid (show R.table m=ep from he)
    have x1:V0.cell? ⟨X,1,none⟩=some (.int .i64 (m:Nat)):=HX.out.1.cell 1
    have ct:V0.cell? ⟨r,3+m,none⟩=some (.int .u64 (R.table m:Nat)):=by
     obtain ⟨kv,⟨lv,hb,_⟩,_⟩:=HR.out
     rw [hb.cell,rf_table R lv kv m (by omega)]
    have hmI:(m:Int)<17:=by omega
    clear he h0 h1
    go_upto_region 4 with (fail)
    go_quiet (fail)
    go_wp2_with fail
    go_meet
    case rel=>exact ⟨nq,by rw [HE.out],rfl⟩
 case rest =>
  obtain ⟨n,rfl,rfl⟩:=hcut
  replace HX:=Lib.hid (HX.out.step ((Step.refl o (fun _=>False) V0).drewN n) id)
  replace HD:=Lib.hid (HD.out.drewN n)
  replace HR:=Lib.hid (HR.out.step ((Step.refl o (fun _=>False) V0).drewN n) (fun _ _ h=>h))
  replace HS:=Lib.hid (HS.out.drewN n)
  generalize V0.drewN n=V at HX HD HR HS ⊢
  have x0:V.cell? ⟨X,0,none⟩=some (.int .i64 9):=HX.out.1.cell 0
  have x6:V.cell? ⟨X,6,none⟩=some (.slice A xk.length cap):=HX.out.1.cell 6
  go_wp2_with fail
  refine (lentints_any o 0 V A cap xk (HKR.out o V HS.out) (by have:=HKL.out;omega)).mono ?_
  rintro e1 w1 ⟨A',cap',o1,rfl,hc',how,hs1⟩
  have hn0:∀x:Nat,(fun _:Nat=>False) x→bothC cd cr x:=fun _ h=>h.elim
  have HX1:=Lib.hid (HX.out.step hs1 id)
  have HD1:=Lib.hid (HD.out.step hs1 (fun _ _ _=>id))
  have HR1:=Lib.hid (HR.out.step hs1 (fun _ _ h=>h))
  have HS1:=Lib.hid (HS.out.trans (hs1.mono hn0))
  have HO1:=Lib.hid how
  have HC1:=Lib.hid hc'
  clear how hc' hs1 x6 x0 HX HD HR HS hn0
  have x3:w1.cell? ⟨X,3,none⟩=some (.int .i64 xm):=HX1.out.1.cell 3
  go_wp2_with fail
  refine (darm_any HD1.out xm xk A' cap' (lent_rd HO1.out).lentN (by have:=HKL.out;omega)).mono ?_
  rintro e2 w2 ⟨rfl,o2,hd2,hs2⟩
  have HX2:=Lib.hid (HX1.out.step hs2 (by have:=HC.out;unfold only;omega))
  have HD2:=Lib.hid hd2
  have HR2:=Lib.hid (HR1.out.step hs2 (by have:=HA.out;unfold only three;omega))
  have HS2:=Lib.hid (HS1.out.trans (hs2.mono (fun y hy=>both_six cd cr y ⟨Nat.le_of_eq (Eq.symm hy),by unfold only at hy;omega⟩)))
  have HO2:=Lib.hid (HO1.out.step hs2 (by have:=HC.out;unfold only;omega))
  clear hd2 hs2 x3
  have x3:w2.cell? ⟨X,3,none⟩=some (.int .i64 xm):=HX2.out.1.cell 3
  have x6:w2.cell? ⟨X,6,none⟩=some (.slice A xk.length cap):=HX2.out.1.cell 6
  go_wp2_with fail
  refine (rfarm_any HR2.out xm xk A cap (HKR.out o2 w2 HS2.out) (by have:=HKL.out;omega)).mono ?_
  rintro e3 w3 ⟨rfl,o3,hr3,hs3⟩
  have HX3:=Lib.hid (HX2.out.step hs3 (by have:=HA.out;unfold three;omega))
  have HD3:=Lib.hid (HD2.out.step hs3 (by have:=HA.out;unfold three;omega))
  have HR3:=Lib.hid hr3
  have HS3:=Lib.hid (HS2.out.trans (hs3.mono (both_three cd cr)))
  have HO3:=Lib.hid (HO2.out.step hs3 (by have:=HA.out;unfold three;omega))
  clear hr3 hs3 x3 x6
  have x6:w3.cell? ⟨X,6,none⟩=some (.slice A xk.length cap):=HX3.out.1.cell 6
  go_wp2_with fail
  refine (staysints_any w3 A' A cap' cap xk (lent_rd HO3.out) (HKR.out o3 w3 HS3.out) HC1.out (by have:=HKL.out;omega)).mono ?_
  rintro e4 w4 ⟨rfl,n4,rfl⟩
  go_wp2_with fail
  go_ret
  exact ⟨by simp,o3,HD3.out.drewN n4,HR3.out.step ((Step.refl o3 (fun _=>False) w3).drewN n4) (fun _ _ h=>h),HS3.out.drewN n4⟩
set_option maxRecDepth 100000 in
set_option maxHeartbeats 4000000 in
theorem do8_k0 (hd:DiskAt o cd w p D) (hr:RFAt o cr w r R) (h2:Both2 D R k) (hk:k≤60000) (hcd:1≤cd) (hap:cd+5<cr) (hf:Fut o w) (xn xa xm:Int) (xe:Nat) (xd:ByteArray) (hds:xd.size≤20000) (A:Option Addr) (xk:List Int) (cap:Nat) (xo:Bool) (K:Int) (b1:K≠1) (b2:K≠2) (b3:K≠3) (b4:K≠4) (b5:K≠5) (b6:K≠6) (b7:K≠7) (b9:K≠9) :
 Calls Tryz.prog 66 #[.pointer (some ⟨p,0,none⟩), .pointer (some ⟨r,0,none⟩), .agg #[.int .i64 K, .int .i64 xn, .int .i64 xa, .int .i64 xm, .int .u64 (xe:Nat), .string xd, .slice A xk.length cap, .bool xo]] w (Do8Post o cd cr p r w (DOp.doD ⟨K,xn,xa,xm,xe,xd,xk,xo⟩ R D) (DOp.doR ⟨K,xn,xa,xm,xe,xd,xk,xo⟩ R)):=by
 have hkx:=Keep.new hf 51 #[.int .i64 K, .int .i64 xn, .int .i64 xa, .int .i64 xm, .int .u64 (xe:Nat), .string xd, .slice A xk.length cap, .bool xo]
 have HX:=Lib.hid hkx
 have HD:=Lib.hid (hd.step ((Step.refl o (fun _=>False) w).alloc (.cells #[.int .i64 K, .int .i64 xn, .int .i64 xa, .int .i64 xm, .int .u64 (xe:Nat), .string xd, .slice A xk.length cap, .bool xo] 51)) (fun _ _ _=>id))
 have HR:=Lib.hid (hr.alloc (.cells #[.int .i64 K, .int .i64 xn, .int .i64 xa, .int .i64 xm, .int .u64 (xe:Nat), .string xd, .slice A xk.length cap, .bool xo] 51))
 have HS:=Lib.hid ((Step.refl o (bothC cd cr) w).alloc (.cells #[.int .i64 K, .int .i64 xn, .int .i64 xa, .int .i64 xm, .int .u64 (xe:Nat), .string xd, .slice A xk.length cap, .bool xo] 51))
 have H2:=Lib.hid h2
 have HK:=Lib.hid hk
 have HA:=Lib.hid hap
 have HC:=Lib.hid hcd
 have HDS:=Lib.hid hds
 obtain ⟨x0,x1,x2,x3,x4,x5,x6,x7⟩:=hkx.1.eight
 clear hd hr h2 hk hcd hap hf hkx hds
 obtain ⟨ep,hep⟩:∃ep,DOp.ep ⟨K,xn,xa,xm,xe,xd,xk,xo⟩ R=ep:=⟨_,rfl⟩
 obtain ⟨G,hG⟩:∃G,decide (xo=true∧0≤xn∧xn≤16)=G:=⟨_,rfl⟩
 have HGG:=Lib.hid hG
 have HEP:=Lib.hid (show (G=false→xe=ep)∧(G=true→0≤xn∧xn≤16∧R.table xn.toNat=ep) from by
  unfold DOp.ep at hep
  simp only at hep
  refine ⟨fun h => ?_,fun h => ?_⟩
  ·rwa [if_neg (fun h'=>by rw [decide_eq_true h'] at hG;rw [←hG] at h;cases h)] at hep
  ·have h':=of_decide_eq_true (hG.trans h)
   rw [if_pos h'] at hep
   exact ⟨h'.2.1,h'.2.2,hep⟩)
 clear hG
 have HDD:=Lib.hid (show DOp.doD ⟨K,xn,xa,xm,xe,xd,xk,xo⟩ R D=D from by unfold DOp.doD;rw [if_neg b1,if_neg b2,if_neg b3,if_neg b4,if_neg b5,if_neg b6,if_neg b7,if_neg b9])
 have HRR:=Lib.hid (show DOp.doR ⟨K,xn,xa,xm,xe,xd,xk,xo⟩ R=R from by unfold DOp.doR;rw [if_neg b1,if_neg b2,if_neg b3,if_neg b4,if_neg b5,if_neg b6,if_neg b7,if_neg b9])
 rw [HDD.out,HRR.out]
 clear hep HDD HRR
 replace b1:(K == 1)=false:=by simp [b1]
 replace b2:(K == 2)=false:=by simp [b2]
 replace b3:(K == 3)=false:=by simp [b3]
 replace b4:(K == 4)=false:=by simp [b4]
 replace b5:(K == 5)=false:=by simp [b5]
 replace b6:(K == 6)=false:=by simp [b6]
 replace b7:(K == 7)=false:=by simp [b7]
 replace b9:(K == 9)=false:=by simp [b9]
 go_enter Tryz.func66,Tryz.ntmps66
 go_upto_region 3 with (fail)
 clear x0 x1 x2 x3 x4 x5 x6 x7
 generalize w.alloc (.cells #[.int .i64 K, .int .i64 xn, .int .i64 xa, .int .i64 xm, .int .u64 (xe:Nat), .string xd, .slice A xk.length cap, .bool xo] 51)=W at HX HD HR HS ⊢
 generalize w.heap.size=X at HX ⊢
 have x7:W.cell? ⟨X,7,none⟩=some (.bool xo):=HX.out.1.cell 7
 go_cut [25] from 14 to 25 (fun t25 wx=>t25 = .bool G∧∃n,wx=W.drewN n)
 case first =>
  have x1:W.cell? ⟨X,1,none⟩=some (.int .i64 xn):=HX.out.1.cell 1
  cases xo with
  | false =>
    have HG:=Lib.hid (show G=false by rw [←HGG.out];rfl)
    go_wp2_with fail
    go_meet
    case rel=>exact ⟨by rw [HG.out],0,rfl⟩
  | true =>
    by_cases h0:0≤xn
    ·by_cases h1:xn≤16
     ·have HG:=Lib.hid (show G=true by rw [←HGG.out];exact decide_eq_true ⟨rfl,h0,h1⟩)
      go_wp2_with fail
      go_meet
      case rel=>exact ⟨by rw [HG.out],0,rfl⟩
     ·have HG:=Lib.hid (show G=false by rw [←HGG.out];exact decide_eq_false (fun h=>h1 h.2.2))
      go_wp2_with fail
      go_meet
      case rel=>exact ⟨by rw [HG.out],0,rfl⟩
    ·have HG:=Lib.hid (show G=false by rw [←HGG.out];exact decide_eq_false (fun h=>h0 h.2.1))
     go_wp2_with fail
     go_meet
     case rel=>exact ⟨by rw [HG.out],0,rfl⟩
 case rest =>
 obtain ⟨rfl,n0,rfl⟩:=hcut
 clear x7
 replace HX:=Lib.hid (HX.out.step ((Step.refl o (fun _=>False) W).drewN n0) id)
 replace HD:=Lib.hid (HD.out.drewN n0)
 replace HR:=Lib.hid (HR.out.step ((Step.refl o (fun _=>False) W).drewN n0) (fun _ _ h=>h))
 replace HS:=Lib.hid (HS.out.drewN n0)
 generalize W.drewN n0=V0 at HX HD HR HS ⊢
 go_upto_if 25 with (fail)
 go_cut [9] from 26 to 33 (fun t9 wx=>∃n,t9 = .int .u64 (ep:Nat)∧wx=V0.drewN n)
 case first =>
  cases G with
  | false =>
    have HE:=Lib.hid (show xe=ep from HEP.out.1 rfl)
    go_wp2_with fail
    go_meet
    case rel=>exact ⟨0,by rw [HE.out],rfl⟩
  | true =>
    obtain ⟨h0,h1,he⟩:=HEP.out.2 rfl
    obtain ⟨m,rfl⟩:∃m:Nat,xn=m:=⟨xn.toNat,by omega⟩
    have HE:=Lib.hid (show R.table m=ep from he)
    have x1:V0.cell? ⟨X,1,none⟩=some (.int .i64 (m:Nat)):=HX.out.1.cell 1
    have ct:V0.cell? ⟨r,3+m,none⟩=some (.int .u64 (R.table m:Nat)):=by
     obtain ⟨kv,⟨lv,hb,_⟩,_⟩:=HR.out
     rw [hb.cell,rf_table R lv kv m (by omega)]
    have hmI:(m:Int)<17:=by omega
    clear he h0 h1
    go_upto_region 4 with (fail)
    go_quiet (fail)
    go_wp2_with fail
    go_meet
    case rel=>exact ⟨nq,by rw [HE.out],rfl⟩
 case rest =>
  obtain ⟨n,rfl,rfl⟩:=hcut
  replace HX:=Lib.hid (HX.out.step ((Step.refl o (fun _=>False) V0).drewN n) id)
  replace HD:=Lib.hid (HD.out.drewN n)
  replace HR:=Lib.hid (HR.out.step ((Step.refl o (fun _=>False) V0).drewN n) (fun _ _ h=>h))
  replace HS:=Lib.hid (HS.out.drewN n)
  generalize V0.drewN n=V at HX HD HR HS ⊢
  have x0:V.cell? ⟨X,0,none⟩=some (.int .i64 K):=HX.out.1.cell 0
  go_wp2_with fail
  go_ret
  exact ⟨by simp,o,HD.out,HR.out,HS.out⟩
end
end Go.Proofs.YtldoeodkeieejaaGreatDoor
