import Derived.Test.YtohgabdmmbngbaaGreatDoorKSrvU
import Derived.Test.YtohgabdmmbngbaaGreatDoorKSrvV
set_option linter.unusedVariables false
set_option linter.unusedSimpArgs false
namespace Go.Proofs.YtohgabdmmbngbaaGreatDoor
open Go.RowKit
structure Bnd.small (b:Bnd):Prop where
 out:b.out≤900000
 kept:b.kept≤100000
 gw:b.gw≤500000
 gr:b.gr≤900000000
 st:b.st≤900000000
 last:b.last≤1000000000000
 tl:b.tl≤800000000
section
variable {o o':Nat→Nat} {c n:Nat} {C:Nat→Prop} {w w':World} {s:Nat} {S:Sv} {P:SvP} {v:Value} {b:Bnd} {L:List Lk}
theorem SvOk.dw (h:SvOk b S):S.D.waits.length≤1000000:=Nat.le_trans h.calm.waits (by omega)
theorem SvOk.nowI (h:SvOk b S):0≤S.now∧S.now≤9223372036854775807:=by have:=h.now;omega
theorem clonelk_any (h:RowL o w v n (lkcells L)) (hL:L.length=n) (hn:n≤1000000):Calls Tryz.prog 97 #[v] w fun e w'=>∃D cap',e = .returned (.slice D n cap')∧w'.ownsRow w.heap.size 47 3 (.slice D n cap') n (lkcells L)∧Below w.heap.size w w':=by
 obtain ⟨A,cap,rfl,_⟩:=h.form
 exact clone_reads Tryz.clLk (z := .agg #[.int .i64 0, .int .i64 0, .int .i64 0]) (size:=3) (bytes:=24) (by kernel_rfl) rfl (by omega) (by omega) Tryz.sizeOf47 h.reads h.nil_ h.spot hn (lkcells_one L)
theorem rqcells_app (l m:List RqV):rqcells (l++m)=rqcells l++rqcells m:=by simp [rqcells]
theorem info_req : (Tryz.prog.info? 161).map (fun i=>(i.zero,i.size,i.bytes))=some (some (.agg #[.int .i64 0, .int .i64 0, .int .i64 0, .int .i64 0, .int .i64 0, .int .i64 0, .int .u64 0, .int .i64 0, .slice none 0 0]),9,88):=by kernel_rfl
theorem kept_push {rows:List RqV} {l:List Rq} {r:Rq} {D:Option Addr} {cap:Nat} {o1:Nat→Nat} {w1:World} {A7:Option Addr} {cap7:Nat} (h1:rows.map RqV.r=l) (h3:∀x∈rows,x.n=x.r.m.locks.length∧OwnS o 0 w 47 3 (.slice x.A x.n x.cap) x.n (lkcells x.r.m.locks)) (hn:r.m.locks.length=n)
 (hl:OwnS o 0 w 47 3 (.slice D n cap) n (lkcells r.m.locks)) (hs:Step o (only (c+2)) w o1 w1) (ho:OwnS o1 (c+2) w1 161 9 (.slice A7 (rows.length+1) cap7) (rows.length+1) (rqcells rows ++ [.int .i64 r.node, .int .i64 r.m.kind, .int .i64 r.m.id, .int .i64 r.m.node, .int .i64 r.m.gen, .int .i64 r.m.stamp, .int .u64 r.m.epoch, .int .i64 r.m.err, .slice D n cap])) :
 KeptAt o1 (c+2) w1 (.slice A7 (rows.length+1) cap7) (l ++ [r]):=by
 have h0:¬only (c+2) 0:=by unfold only;omega
 refine ⟨rows ++ [⟨r,D,n,cap⟩],by rw [List.map_append,h1];rfl,?_,fun x hx => ?_⟩
 ·rw [rqcells_app,List.length_append]
  exact ho
 ·rcases List.mem_append.1 hx with hx | hx
  ·exact ⟨(h3 x hx).1,(h3 x hx).2.step hs h0⟩
  ·rw [List.mem_singleton.1 hx]
   exact ⟨hn.symm,hl.step hs h0⟩
theorem dfence_sv (h:SvIn o c w s S P) (hc1:1≤c) (hw:S.D.waits.length≤1000000) (k:Nat) :
 Calls Tryz.prog 101 #[.pointer (some ⟨P.dp,0,none⟩), .int .i64 (k:Nat)] w fun e w'=>e = .returned (.int .i64 (S.D.fence k).1)∧∃o',SvIn o' c w' s {S with D:=(S.D.fence k).2} P∧Step o (six (c+43)) w o' w':=by
 refine (dfence_calm h.rest.disk (k:Nat) hw).mono ?_
 rintro e w1 ⟨rfl,o1,hd1,hs1⟩
 exact ⟨rfl,o1,h.onD hc1 hs1 hd1,hs1⟩
theorem locks_ok {m:Mg} (h:m.ok):∀l∈m.locks,l.sp.ok:=fun l hl=>by
 have:=h.2.2 l hl
 unfold Lk.ok at this
 show 0≤l.a∧l.a<l.b
 omega
set_option maxRecDepth 100000 in
set_option maxHeartbeats 16000000 in
theorem vlive_any (h:SvAt o c w s S) (hf:Fut o w) (hc1:1≤c) (ok:SvOk b S) (hb:b.small) (k:Nat) (hk1:1≤k) (hkn:k≤S.n) (m:Mg) (lv:Value) (hl:RowL o w lv m.locks.length (lkcells m.locks)) (hm:m.ok)
 (htb:m.kind=15→∀ {o1:Nat→Nat} {w1:World},SvAt o1 c w1 s S→Fut o1 w1→Calls Tryz.prog 98 #[.pointer (some ⟨s,0,none⟩), .int .i64 (k:Nat), .int .i64 m.id] w1 fun e w'=>e = .returned (.tuple #[])∧∃o',SvAt o' c w' s (S.takeBack k m.id)∧Step o1 (svC c) w1 o' w') :
 Calls Tryz.prog 45 #[.pointer (some ⟨s,0,none⟩), .int .i64 (k:Nat), .agg #[.int .i64 m.kind, .int .i64 m.id, .int .i64 m.node, .int .i64 m.gen, .int .i64 m.stamp, .int .u64 m.epoch, .int .i64 m.err,lv]] w fun e w'=>e = .returned (.tuple #[])∧∃o',SvAt o' c w' s (S.live k m)∧Step o (svC c) w o' w':=by
 obtain ⟨i0,hi,hz0,hz1,hz2⟩:=info_parts info_req
 obtain ⟨P,h⟩:=h
 have hnn:=h.rest.nn
 have hk16:k≤16:=by omega
 have HC:=Lib.hid hc1
 have HOK:=Lib.hid ok
 have HBS:=Lib.hid hb
 have HM:=Lib.hid hm
 have HKN:=Lib.hid hkn
 have HTB:=Lib.hid htb
 obtain ⟨D,cap,rfl,_⟩:=hl.form
 have HVw:=Lib.hid h
 have HV0:=Lib.hid (h.alloc (.cells #[.int .i64 m.kind, .int .i64 m.id, .int .i64 m.node, .int .i64 m.gen, .int .i64 m.stamp, .int .u64 m.epoch, .int .i64 m.err, .slice D m.locks.length cap] 38))
 have HK0:=Lib.hid (Keep.new hf 38 #[.int .i64 m.kind, .int .i64 m.id, .int .i64 m.node, .int .i64 m.gen, .int .i64 m.stamp, .int .u64 m.epoch, .int .i64 m.err, .slice D m.locks.length cap])
 have HL0:=Lib.hid (hl.alloc (.cells #[.int .i64 m.kind, .int .i64 m.id, .int .i64 m.node, .int .i64 m.gen, .int .i64 m.stamp, .int .u64 m.epoch, .int .i64 m.err, .slice D m.locks.length cap] 38))
 have HF0:=Lib.hid (hf.alloc (.cells #[.int .i64 m.kind, .int .i64 m.id, .int .i64 m.node, .int .i64 m.gen, .int .i64 m.stamp, .int .u64 m.epoch, .int .i64 m.err, .slice D m.locks.length cap] 38))
 have HB0:=Lib.hid ((Below.refl w.heap.size w).alloc (Nat.le_refl _) (.cells #[.int .i64 m.kind, .int .i64 m.id, .int .i64 m.node, .int .i64 m.gen, .int .i64 m.stamp, .int .u64 m.epoch, .int .i64 m.err, .slice D m.locks.length cap] 38))
 have HS0:=Lib.hid ((Step.refl o (svC c) w).alloc (.cells #[.int .i64 m.kind, .int .i64 m.id, .int .i64 m.node, .int .i64 m.gen, .int .i64 m.stamp, .int .u64 m.epoch, .int .i64 m.err, .slice D m.locks.length cap] 38))
 obtain ⟨R,hR⟩:∃R,S.live k m=R:=⟨_,rfl⟩
 have HRD:=Lib.hid hR
 unfold Sv.live at HRD
 rw [hR]
 clear h hf hc1 ok hb hl hm hkn htb hR
 go_enter Tryz.func45,Tryz.ntmps45
 go_upto_region 1 with (fail)
 generalize w.alloc (.cells #[.int .i64 m.kind, .int .i64 m.id, .int .i64 m.node, .int .i64 m.gen, .int .i64 m.stamp, .int .u64 m.epoch, .int .i64 m.err, .slice D m.locks.length cap] 38)=W0 at HV0 HK0 HL0 HF0 HS0 HB0 ⊢
 obtain ⟨gm,hgm⟩:∃gm,w.heap.size=gm:=⟨_,rfl⟩
 rw [hgm] at HK0 ⊢
 have HGM:=Lib.hid hgm
 clear hgm
 obtain ⟨y0,y1,y2,y3,y4,y5,y6,y7⟩:=Blk.eight HK0.out.1
 by_cases k3:m.kind=3
 ·have b3:(m.kind == 3)=true:=by simp [k3]
  have HN:=Lib.hid ((if_pos k3).symm.trans HRD.out)
  have HLE:=Lib.hid (show Calls Tryz.prog 52 #[.pointer (some ⟨P.lp,0,none⟩), .int .i64 (k:Nat), .int .i64 S.now] W0.drew _ from lrenew_any HV0.out.drew.rest.lease HOK.out.lok (k:Nat) S.now HOK.out.nowI)
  have q1:W0.drew.cell? ⟨s,163,none⟩=some (.pointer (some ⟨P.lp,0,none⟩)):=HV0.out.drew.t (k:=0) rfl
  have q2:W0.drew.cell? ⟨s,8,none⟩=some (.int .i64 S.now):=HV0.out.drew.h (k:=8) (by omega) rfl
  clear k3 HRD
  go_wp2_with fail
  go_region_held3 (fun w'=>w'.cell? ⟨s,163,none⟩=some (.pointer (some ⟨P.lp,0,none⟩))∧w'.cell? ⟨s,8,none⟩=some (.int .i64 S.now))
   (first | exact ⟨q1,q2⟩ | exact ⟨g1,g2⟩ | go_keep)
   ((go_at_call 52;((with_reducible refine HLE.out.mono ?_);rintro e w1 ⟨rfl,hl1,hs1⟩;have hv1:=HV0.out.drew.onL HC.out hs1 hl1;have HV1:=Lib.hid hv1;have HS1:=Lib.hid hs1;have g1:w1.cell? ⟨s,163,none⟩=some (.pointer (some ⟨P.lp,0,none⟩)):=hv1.t (k:=0) rfl;have g2:w1.cell? ⟨s,8,none⟩=some (.int .i64 S.now):=hv1.h (k:=8) (by omega) rfl;clear hl1 hs1 hv1)))
  have HF1:=Lib.hid (HF0.out.drew.step HS1.out)
  have HT1:=Lib.hid (HS0.out.drew.trans (HS1.out.mono lea_sv))
  have hk1':=HK0.out.drew.step HS1.out (by unfold leaC;omega)
  have z4:w1.cell? ⟨gm,4,none⟩=some (.int .i64 m.stamp):=hk1'.1.cell 4
  have HT:=Lib.hid (vtell_any ⟨P,HV1.out⟩ HF1.out HC.out (Nat.le_trans HOK.out.out (by have:=HBS.out.out;omega)) k hk16 {Mg.zero with kind:=4,stamp:=m.stamp} (.slice none 0 0) (OwnS.nil _ _ _ _ _))
  clear hk1' g1 g2 q1 q2 y0 y1 y2 y3 y4 y5 y6 y7
  go_wp2_with fail
  refine HT.out.mono ?_
  rintro e w2 ⟨rfl,o2,hv2,hs2⟩
  have HV2:=Lib.hid hv2
  have HS2:=Lib.hid (HT1.out.trans hs2)
  clear hv2 hs2
  go_wp2_with fail
  go_end0
  exact ⟨rfl,o2,by rw [←HN.out];exact HV2.out,HS2.out⟩
 ·have b3:(m.kind == 3)=false:=by simp [k3]
  have HR3:=Lib.hid ((if_neg k3).symm.trans HRD.out)
  clear HRD
  by_cases k5:m.kind=5
  ·have b5:(m.kind == 5)=true:=by simp [k5]
   have HR5:=Lib.hid ((if_pos k5).symm.trans HR3.out)
   clear HR3
   go_wp2_with fail
   refine (vReady_any HV0.out).mono ?_
   rintro e w1 ⟨rfl,hb1⟩
   have HV1:=Lib.hid (HV0.out.below_ hb1)
   have HK1:=Lib.hid (HK0.out.below_ hb1)
   have HL1:=Lib.hid (HL0.out.below_ hb1)
   have HF1:=Lib.hid (HF0.out.below hb1)
   have HB1:=Lib.hid (HB0.out.trans (hb1.mono HB0.out.size))
   have HS1:=Lib.hid (HS0.out.trans (Step.of_below o (svC c) hb1))
   obtain ⟨q,hq⟩:∃q,S.ready=q:=⟨_,rfl⟩
   rw [hq] at HR5 ⊢
   clear hb1 y0 y1 y2 y3 y4 y5 y6 y7 HV0 HK0 HL0 HF0 HB0 HS0 hq k3 k5
   obtain ⟨y0,y1,y2,y3,y4,y5,y6,y7⟩:=Blk.eight HK1.out.1
   cases q with
   | true =>
     have HN:=Lib.hid ((if_pos rfl).symm.trans HR5.out)
     have HA:=Lib.hid (vacquire_any ⟨P,HV1.out⟩ HF1.out HC.out (Nat.le_trans HOK.out.out (by have:=HBS.out.out;omega)) HOK.out.wf k hk16 (by have:=HOK.out.gr k;have:=HBS.out.gr;omega) m (.slice D m.locks.length cap) HL1.out HM.out.locks)
     go_wp2_with fail
     refine HA.out.mono ?_
     rintro e w2 ⟨rfl,o2,hv2,hs2⟩
     have HV2:=Lib.hid hv2
     have HS2:=Lib.hid (HS1.out.trans hs2)
     clear hv2 hs2
     go_wp2_with fail
     go_end0
     exact ⟨rfl,o2,by rw [←HN.out];exact HV2.out,HS2.out⟩
   | false =>
     have HN:=Lib.hid ((if_neg Bool.false_ne_true).symm.trans HR5.out)
     have HCL:=Lib.hid (clonelk_any HL1.out rfl (by have:=HM.out.locks;omega))
     obtain ⟨LS,hLS⟩:∃LS,m.locks=LS:=⟨_,rfl⟩
     obtain ⟨nl,hnl⟩:∃nl,m.locks.length=nl:=⟨_,rfl⟩
     have HNL:=Lib.hid hnl
     rw [hnl] at HCL y7 HK1
     clear HR5 hnl hLS
     go_wp2_with fail
     refine HCL.out.mono ?_
     rintro e w2 ⟨D2,cap2,rfl,hr2,hb2⟩
     have HBx:=Lib.hid (HB1.out.trans (hb2.mono HB1.out.size))
     have HR2:=Lib.hid (own_from' (c:=0) (o:=o) hr2 (fun g hg=>HF1.out g hg))
     have HK2:=Lib.hid (HK1.out.below_ hb2)
     have HF2:=Lib.hid (HF1.out.below hb2)
     obtain ⟨z0,z1,z2,z3,z4,z5,z6,z7⟩:=Blk.eight HK2.out.1
     have f7:=HK2.out.1.frozen 7
     clear hr2 hb2 y0 y1 y2 y3 y4 y5 y6 y7
     go_upto_region 9 with (fail)
     have HR3:=Lib.hid (HR2.out.setCell (p:=⟨gm,7,none⟩) (own_blk_ne HR2.out HK2.out.1 (by decide)) (.slice D2 nl cap2))
     have HB3:=Lib.hid (HBx.out.setCell (p:=⟨gm,7,none⟩) (by rw [HGM.out];exact Nat.le_refl _) (.slice D2 nl cap2))
     have HK3:=Lib.hid (show Blk (w2.setCell ⟨gm,7,none⟩ (.slice D2 nl cap2)) gm 38 #[.int .i64 m.kind, .int .i64 m.id, .int .i64 m.node, .int .i64 m.gen, .int .i64 m.stamp, .int .u64 m.epoch, .int .i64 m.err, .slice D2 nl cap2] from HK2.out.1.set_ 7 _)
     have HF3:=Lib.hid (HF2.out.setCell ⟨gm,7,none⟩ (.slice D2 nl cap2))
     clear z0 z1 z2 z3 z4 z5 z6 z7 f7
     generalize w2.setCell ⟨gm,7,none⟩ (.slice D2 nl cap2)=V at HR3 HB3 HK3 HF3 ⊢
     have HV3:=Lib.hid (HVw.out.below_ HB3.out)
     have HS3:=Lib.hid (Step.of_below o (svC c) HB3.out)
     obtain ⟨rows,hr1,hr2,hr3⟩:=HV3.out.rest.kept
     obtain ⟨A,kcap,hkv,_⟩:=own_form' hr2
     rw [hkv] at hr2
     have HO:=Lib.hid hr2
     have HRR:=Lib.hid hr1
     have HRA:=Lib.hid hr3
     have hrl:rows.length≤100000:=by
      have h1:=HOK.out.kept
      have h2:=HBS.out.kept
      rw [←hr1,List.length_map] at h1
      omega
     have z166:V.cell? ⟨s,166,none⟩=some (.slice A rows.length kcap):=(HV3.out.t (k:=3) rfl).trans (by rw [hkv])
     obtain ⟨x0,x1,x2,x3,x4,x5,x6,x7⟩:=Blk.eight HK3.out
     have d166:(V.alloc (.cells #[.int .i64 (k:Nat), .int .i64 m.kind, .int .i64 m.id, .int .i64 m.node, .int .i64 m.gen, .int .i64 m.stamp, .int .u64 m.epoch, .int .i64 m.err, .slice D2 nl cap2] 161)).cell? ⟨s,166,none⟩=some (.slice A rows.length kcap):=((HV3.out.alloc _).t (k:=3) rfl).trans (by rw [hkv])
     clear hr1 hr2 hr3 hkv
     go_wp2_with fail
     go_region_law (refine step_append_S _ rfl (.tmp 42) (.tmp 46) 67 rfl 161 i0 _ 9 88 Tryz.underlying67 hi hz0 hz1 hz2 rfl (by omega) (.slice A rows.length kcap) rows.length (rqcells rows) rfl (HO.out.alloc (.cells #[.int .i64 (k:Nat), .int .i64 m.kind, .int .i64 m.id, .int .i64 m.node, .int .i64 m.gen, .int .i64 m.stamp, .int .u64 m.epoch, .int .i64 m.err, .slice D2 nl cap2] 161)) (some ⟨V.heap.size,0,none⟩) 1 1 [.int .i64 (k:Nat), .int .i64 m.kind, .int .i64 m.id, .int .i64 m.node, .int .i64 m.gen, .int .i64 m.stamp, .int .u64 m.epoch, .int .i64 m.err, .slice D2 nl cap2] rfl (Reads.newAt V 161 9 1 _ #[.int .i64 (k:Nat), .int .i64 m.kind, .int .i64 m.id, .int .i64 m.node, .int .i64 m.gen, .int .i64 m.stamp, .int .u64 m.epoch, .int .i64 m.err, .slice D2 nl cap2] _ rfl rfl rfl) (by simp [Value.oneCell']) (by unfold maxLen;omega) (by omega) ?_;intro v' w7 hown hk hg hat;obtain ⟨A7,cap7,rfl,_,_⟩:=own_form' hown;have hb7:Blk w7 s 70 _:=(HV3.out.blk.alloc (.cells #[.int .i64 (k:Nat), .int .i64 m.kind, .int .i64 m.id, .int .i64 m.node, .int .i64 m.gen, .int .i64 m.stamp, .int .u64 m.epoch, .int .i64 m.err, .slice D2 nl cap2] 161)).drew.step hk (by rw [HV3.out.col];unfold only;omega);have k0:w7.cell? ⟨s,166,none⟩=some P.kv:=(hb7.cell (163+3)).trans (Sv.tail_at (k:=3));have k1:=hb7.frozen 166;have HOW:=Lib.hid hown;have HKS:=Lib.hid hk;clear hown hk hg hat hb7)
     all_goals
      have hst:=(((Step.refl o (only (c+2)) V).alloc (.cells #[.int .i64 (k:Nat), .int .i64 m.kind, .int .i64 m.id, .int .i64 m.node, .int .i64 m.gen, .int .i64 m.stamp, .int .u64 m.epoch, .int .i64 m.err, .slice D2 nl cap2] 161)).drew).trans HKS.out
      have hkp:=kept_push HRR.out HRA.out (r:=⟨(k:Int),m⟩) (D:=D2) (n:=nl) (cap:=cap2) HNL.out HR3.out hst HOW.out
      obtain ⟨ht8,hs8⟩:=HV3.out.keep HC.out hst hkp
      have HT8:=Lib.hid ht8
      have HS8:=Lib.hid (HS3.out.trans hs8)
      clear ht8 hs8 hst hkp
      go_wp2_with fail
      go_end0
      exact ⟨rfl,_,⟨_,by rw [←HN.out];exact HT8.out⟩,HS8.out⟩
  ·have b5:(m.kind == 5)=false:=by simp [k5]
   have HR5:=Lib.hid ((if_neg k5).symm.trans HR3.out)
   clear HR3
   by_cases k15:m.kind=15
   ·have b15:(m.kind == 15)=true:=by simp [k15]
    have HN:=Lib.hid ((if_pos k15).symm.trans HR5.out)
    have HCB:=Lib.hid (HTB.out k15 ⟨P,HV0.out⟩ HF0.out)
    clear HR5 k15 k5 k3
    go_wp2_with fail
    refine HCB.out.mono ?_
    rintro e w2 ⟨rfl,o2,hv2,hs2⟩
    have HV2:=Lib.hid hv2
    have HS2:=Lib.hid (HS0.out.trans hs2)
    clear hv2 hs2
    go_wp2_with fail
    go_end0
    exact ⟨rfl,o2,by rw [←HN.out];exact HV2.out,HS2.out⟩
   ·have b15:(m.kind == 15)=false:=by simp [k15]
    have HR15:=Lib.hid ((if_neg k15).symm.trans HR5.out)
    clear HR5
    by_cases k9:m.kind=9
    ·have b9:(m.kind == 9)=true:=by simp [k9]
     have HN:=Lib.hid ((if_pos k9).symm.trans HR15.out)
     have HRL:=Lib.hid (vreleased_any ⟨P,HV0.out⟩ HF0.out HC.out HOK.out.wf HOK.out.nodes (Nat.le_trans HOK.out.gw (by have:=HBS.out.gw;omega)) k hk1 HKN.out m (.slice D m.locks.length cap) HL0.out HM.out.locks (locks_ok HM.out))
     clear HR15 k9 k15 k5 k3
     go_wp2_with fail
     refine HRL.out.mono ?_
     rintro e w2 ⟨rfl,o2,hv2,hs2⟩
     have HV2:=Lib.hid hv2
     have HS2:=Lib.hid (HS0.out.trans hs2)
     clear hv2 hs2
     go_wp2_with fail
     go_end0
     exact ⟨rfl,o2,by rw [←HN.out];exact HV2.out,HS2.out⟩
    ·have b9:(m.kind == 9)=false:=by simp [k9]
     have HR9:=Lib.hid ((if_neg k9).symm.trans HR15.out)
     clear HR15
     by_cases k14:m.kind=14
     ·have b14:(m.kind == 14)=true:=by simp [k14]
      have HR14:=Lib.hid ((if_pos k14).symm.trans HR9.out)
      have HFE:=Lib.hid (dfence_sv HV0.out HC.out HOK.out.dw k)
      obtain ⟨e1,c1⟩:=HOK.out.calm.fence (n:=k) (by omega)
      have e0:(S.D.fence (k:Nat)).1=0:=by rw [e1]
      have HN:=Lib.hid ((if_pos e0).symm.trans HR14.out)
      rw [e0] at HFE
      have l1:(S.D.fence (k:Nat)).2.last=S.D.last:=by
       rw [e1]
       exact (settle_same S.D k).2.2.2.1
      have n1:(S.D.fence (k:Nat)).2.now=S.D.now:=by
       rw [e1]
       exact (settle_same S.D k).2.2.2.2.2.1
      have HOK2:=Lib.hid (HOK.out.onD c1 n1 (l:=b.last) (by have:=HOK.out.last;omega))
      have y0':W0.cell? ⟨s,0,none⟩=some (.pointer (some ⟨P.dp,0,none⟩)):=HV0.out.h (k:=0) (by omega) rfl
      clear HR14 HR9 k14 k9 k15 k5 k3 e1 e0 c1 l1 n1
      go_wp2_with fail
      refine HFE.out.mono ?_
      rintro e w2 ⟨rfl,o2,hv2,hs2⟩
      generalize (S.D.fence (k:Nat)).2=D1 at hv2 HN HOK2
      have HV2:=Lib.hid hv2
      have HS2:=Lib.hid (HS0.out.trans (hs2.mono six_sv))
      have HF2:=Lib.hid (HF0.out.step hs2)
      clear hv2 hs2 y0'
      go_wp2_with fail
      refine (vcheck_any HV2.out HC.out 0).mono ?_
      rintro e w3 ⟨rfl,hv3,hs3⟩
      have HV3:=Lib.hid (show SvIn o2 c w3 s {S with D:=D1} P from hv3)
      have HS3:=Lib.hid (HS2.out.trans (hs3.mono only0_sv))
      have HF3:=Lib.hid (HF2.out.step hs3)
      clear hv3 hs3
      rw [decide_eq_true (rfl:(0:Int)=0)]
      have HLV:=Lib.hid (vleave_any ⟨P,HV3.out⟩ HF3.out HC.out HOK2.out.wf HOK2.out.nodes (Nat.le_trans HOK2.out.kept (by have:=HBS.out.kept;show b.kept≤_;omega)) (Nat.le_trans HOK2.out.gw (by have:=HBS.out.gw;show b.gw≤_;omega)) (Nat.le_trans HOK2.out.out (by have:=HBS.out.out;show b.out≤_;omega)) k hk1 HKN.out (by rw [(HOK2.out.calm.put (n:=k) hk16 0).1];have:=HOK2.out.last;have h2:=HBS.out.last;change D1.last≤b.last at this;show D1.last+1<_;omega) HOK2.out.lok HOK2.out.nowI)
      go_wp2_with fail
      refine HLV.out.mono ?_
      rintro e w4 ⟨rfl,o4,hv4,hs4⟩
      have HV4:=Lib.hid hv4
      have HS4:=Lib.hid (HS3.out.trans hs4)
      clear hv4 hs4
      go_wp2_with fail
      go_end0
      exact ⟨rfl,o4,by rw [←HN.out];exact HV4.out,HS4.out⟩
     ·have b14:(m.kind == 14)=false:=by simp [k14]
      have HN:=Lib.hid ((if_neg k14).symm.trans HR9.out)
      clear HR9 k14 k9 k15 k5 k3
      go_wp2_with fail
      go_end0
      exact ⟨rfl,o,by rw [←HN.out];exact ⟨P,HV0.out⟩,HS0.out⟩
end
end Go.Proofs.YtohgabdmmbngbaaGreatDoor
