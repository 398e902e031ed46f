import Derived.Test.YtohgabdmmbngbaaGreatDoorKSrvL
import Derived.Test.YtohgabdmmbngbaaGreatDoorKRecQ
set_option linter.unusedVariables false
set_option linter.unusedSimpArgs false
namespace Go.Proofs.YtohgabdmmbngbaaGreatDoor
open Go.RowKit
section
variable {o o':Nat→Nat} {c:Nat} {C:Nat→Prop} {w w':World} {s:Nat} {S:Sv} {P:SvP} {v:Value}
theorem dput_sv (h:SvIn o c w s S P) (hc1:1≤c) (k word:Nat) :
 Calls Tryz.prog 122 #[.pointer (some ⟨P.dp,0,none⟩), .int .i64 (k:Nat), .int .u64 (word:Nat)] w fun e w'=>e = .returned (.int .i64 (S.D.put k word).1)∧∃o',SvIn o' c w' s {S with D:=(S.D.put k word).2} P∧Step o (six (c+43)) w o' w':=by
 refine (dput_calm h.rest.disk (k:Nat) word).mono ?_
 rintro e w1 ⟨rfl,o1,hd1,hs1⟩
 exact ⟨rfl,o1,h.onD hc1 hs1 hd1,hs1⟩
theorem dadmit_sv (h:SvIn o c w s S P) (hc1:1≤c) (k word:Nat) :
 Calls Tryz.prog 51 #[.pointer (some ⟨P.dp,0,none⟩), .int .i64 (k:Nat), .int .u64 (word:Nat)] w fun e w'=>e = .returned (.int .i64 (S.D.admit k word).1)∧∃o',SvIn o' c w' s {S with D:=(S.D.admit k word).2} P∧Step o (six (c+43)) w o' w':=by
 refine (dadmit_calm h.rest.disk (k:Nat) word).mono ?_
 rintro e w1 ⟨rfl,o1,hd1,hs1⟩
 exact ⟨rfl,o1,h.onD hc1 hs1 hd1,hs1⟩
theorem six_sv {c:Nat}:∀x,six (c+43) x→svC c x:=fun x h=>by unfold six at h;unfold svC;omega
theorem only0_sv {c:Nat}:∀x,only c x→svC c x:=fun x h=>by unfold only at h;unfold svC;omega
theorem check_ok (S:Sv) {e:Int} (h:e=0):S.check e=S:=if_pos h
theorem check_bad (S:Sv) {e:Int} (h:¬e=0):S.check e = {S with down:=true}:=if_neg h
set_option maxRecDepth 100000 in
set_option maxHeartbeats 16000000 in
theorem vjoin_any (h:SvAt o c w s S) (hf:Fut o w) (hc1:1≤c) (ho:S.out.length≤1000000000) (k:Nat) (hk16:k≤16) (life:Int) (hla:S.D.last+1<18446744073709551616) (hl:S.L.ok) (hnow:0≤S.now∧S.now≤9223372036854775807) :
 Calls Tryz.prog 91 #[.pointer (some ⟨s,0,none⟩), .int .i64 (k:Nat), .int .i64 life] w fun e w'=>e = .returned (.tuple #[])∧∃o',SvAt o' c w' s (S.join k life)∧Step o (svC c) w o' w':=by
 obtain ⟨P,h⟩:=h
 have hk17:(k:Int)<17:=by omega
 have HC:=Lib.hid hc1
 have HO:=Lib.hid ho
 have HV:=Lib.hid h
 have HF:=Lib.hid hf
 have HLK:=Lib.hid hl
 have HNW:=Lib.hid hnow
 have hmm := @run_makeMap Tryz.prog
 obtain ⟨R,hR⟩:∃R,S.join k life=R:=⟨_,rfl⟩
 have HRD:=Lib.hid hR
 unfold Sv.join at HRD
 rw [hR]
 obtain ⟨ep,hep⟩:∃ep,S.D.last+1=ep:=⟨_,rfl⟩
 have HEP:=Lib.hid (show (S.D.last:Int)+1=(ep:Nat) by omega)
 have hwr:IntKind.u64.wrap ((S.D.last:Int)+1)=(S.D.last:Int)+1:=IntWalk.u64_in _ (by omega)
 rw [hep] at HRD
 have HLA:=Lib.hid (dlast_any h.rest.disk)
 have HPU:=Lib.hid (show Calls Tryz.prog 122 #[.pointer (some ⟨P.dp,0,none⟩), .int .i64 (k:Nat), .int .u64 ((S.D.last:Int)+1)] w _ from HEP.out▸dput_sv h hc1 k ep)
 have y0:w.cell? ⟨s,0,none⟩=some (.pointer (some ⟨P.dp,0,none⟩)):=h.h (k:=0) (by omega) rfl
 clear h hf hc1 ho hl hnow hR hep hla
 go_enter Tryz.func91,Tryz.ntmps91
 go_wp2_with fail
 refine HLA.out.mono ?_
 rintro e w1 ⟨rfl,rfl⟩
 go_wp2_with fail
 refine HPU.out.mono ?_
 rintro e w2 ⟨rfl,o2,hv2,hs2⟩
 have HV2:=Lib.hid hv2
 have HS2:=Lib.hid (hs2.mono six_sv)
 have HF2:=Lib.hid (HF.out.step hs2)
 clear hv2 hs2 y0
 go_wp2_with fail
 refine (vcheck_any HV2.out HC.out (S.D.put k ep).1).mono ?_
 rintro e w3 ⟨rfl,hv3,hs3⟩
 have HS3:=Lib.hid (HS2.out.trans (hs3.mono only0_sv))
 have HF3:=Lib.hid (HF2.out.step hs3)
 have HV3:=Lib.hid hv3
 clear hv3 hs3
 by_cases he1:(S.D.put k ep).1=0
 ·rw [decide_eq_true he1]
  rw [check_ok _ he1] at HV3
  have HRE:=Lib.hid ((if_pos he1).symm.trans HRD.out)
  have y0:w3.cell? ⟨s,0,none⟩=some (.pointer (some ⟨P.dp,0,none⟩)):=HV3.out.h (k:=0) (by omega) rfl
  have HAD:=Lib.hid (show Calls Tryz.prog 51 #[.pointer (some ⟨P.dp,0,none⟩), .int .i64 (k:Nat), .int .u64 ((S.D.last:Int)+1)] w3 _ from HEP.out▸dadmit_sv HV3.out HC.out k ep)
  obtain ⟨D1,hD1⟩:∃D1,(S.D.put k ep).2=D1:=⟨_,rfl⟩
  rw [hD1] at HAD HRE
  clear he1 HRD hD1
  go_wp2_with fail
  refine HAD.out.mono ?_
  rintro e w4 ⟨rfl,o4,hv4,hs4⟩
  have HV4:=Lib.hid hv4
  have HS4:=Lib.hid (HS3.out.trans (hs4.mono six_sv))
  have HF4:=Lib.hid (HF3.out.step hs4)
  clear hv4 hs4 y0 HAD
  go_wp2_with fail
  refine (vcheck_any HV4.out HC.out (D1.admit k ep).1).mono ?_
  rintro e w5 ⟨rfl,hv5,hs5⟩
  have HS5:=Lib.hid (HS4.out.trans (hs5.mono only0_sv))
  have HF5:=Lib.hid (HF4.out.step hs5)
  have HV5:=Lib.hid hv5
  clear hv5 hs5
  by_cases he2:(D1.admit k ep).1=0
  ·rw [decide_eq_true he2]
   rw [check_ok _ he2] at HV5
   have HRE2:=Lib.hid ((if_pos he2).symm.trans HRE.out)
   obtain ⟨D2,hD2⟩:∃D2,(D1.admit k ep).2=D2:=⟨_,rfl⟩
   have hv5:SvIn o4 c w5 s {S with D:=D2} P:=by
    have:=HV5.out
    rw [hD2] at this
    exact this
   rw [hD2] at HRE2
   have hba:=(Below.refl w5.heap.size w5).alloc (Nat.le_refl _) (.map #[] 0)
   have hsa:=Step.of_below_band o4 (svC c) (c+5+k) hba
   have hma:=MapL.newAs (band o4 w5.heap.size (w5.alloc (.map #[] 0)).heap.size (c+5+k)) w5 (c+5+k) (band_in (Nat.le_refl _) (by simp))
   have HVA:=Lib.hid (hv5.step (Step.of_below_band o4 (fun _=>False) (c+5+k) hba) (fun _ _=>id) id)
   obtain ⟨h6,h7⟩:=HVA.out.anew HC.out hk16 {Pe.away with state:=1,epoch:=ep,life:=life} hma
   have HSA:=Lib.hid (HS5.out.trans hsa)
   have HFA:=Lib.hid (HF5.out.step hsa)
   generalize band o4 w5.heap.size (w5.alloc (.map #[] 0)).heap.size (c+5+k)=o5 at HVA h6 h7 HSA HFA hma
   have HV6:=Lib.hid h6
   have HS6:=Lib.hid (HSA.out.trans (h7.mono only0_sv))
   have HF6:=Lib.hid (HFA.out.step h7)
   have x0:(w5.alloc (.map #[] 0)).cell? ⟨s,10+k*9,none⟩=some (.int .i64 (S.peers k).state):=HVA.out.p (j:=0) hk16 (by omega) rfl
   have f0:=HVA.out.blk.frozen (10+k*9)
   have x1:(w5.alloc (.map #[] 0)).cell? ⟨s,10+k*9+1,none⟩=some (.int .u64 (S.peers k).epoch):=HVA.out.p (j:=1) hk16 (by omega) rfl
   have f1:=HVA.out.blk.frozen (10+k*9+1)
   have x2:(w5.alloc (.map #[] 0)).cell? ⟨s,10+k*9+2,none⟩=some (.int .i64 (S.peers k).life):=HVA.out.p (j:=2) hk16 (by omega) rfl
   have f2:=HVA.out.blk.frozen (10+k*9+2)
   have x3:(w5.alloc (.map #[] 0)).cell? ⟨s,10+k*9+3,none⟩=some (.int .i64 (S.peers k).hello):=HVA.out.p (j:=3) hk16 (by omega) rfl
   have f3:=HVA.out.blk.frozen (10+k*9+3)
   have x4:(w5.alloc (.map #[] 0)).cell? ⟨s,10+k*9+4,none⟩=some (.bool (S.peers k).unknown):=HVA.out.p (j:=4) hk16 (by omega) rfl
   have f4:=HVA.out.blk.frozen (10+k*9+4)
   have x5:(w5.alloc (.map #[] 0)).cell? ⟨s,10+k*9+5,none⟩=some (.int .i64 (S.peers k).by_):=HVA.out.p (j:=5) hk16 (by omega) rfl
   have f5:=HVA.out.blk.frozen (10+k*9+5)
   have x6:(w5.alloc (.map #[] 0)).cell? ⟨s,10+k*9+6,none⟩=some (.int .i64 (S.peers k).stamp):=HVA.out.p (j:=6) hk16 (by omega) rfl
   have f6:=HVA.out.blk.frozen (10+k*9+6)
   have x7:(w5.alloc (.map #[] 0)).cell? ⟨s,10+k*9+7,none⟩=some (.int .i64 (S.peers k).grants):=HVA.out.p (j:=7) hk16 (by omega) rfl
   have f7:=HVA.out.blk.frozen (10+k*9+7)
   have x8:(w5.alloc (.map #[] 0)).cell? ⟨s,10+k*9+8,none⟩=some (P.tv k):=HVA.out.p (j:=8) hk16 (by omega) rfl
   have f8:=HVA.out.blk.frozen (10+k*9+8)
   have e6:setPe (w5.alloc (.map #[] 0)) s k {Pe.away with state:=1,epoch:=ep,life:=life} (.map (some w5.heap.size))=((((((((((w5.alloc (.map #[] 0)).setCell ⟨s,10+k*9,none⟩ (.int .i64 1)).setCell ⟨s,10+k*9+1,none⟩ (.int .u64 ((S.D.last:Int)+1))).setCell ⟨s,10+k*9+2,none⟩ (.int .i64 life)).setCell ⟨s,10+k*9+3,none⟩ (.int .i64 (-1))).setCell ⟨s,10+k*9+4,none⟩ (.bool false)).setCell ⟨s,10+k*9+5,none⟩ (.int .i64 0)).setCell ⟨s,10+k*9+6,none⟩ (.int .i64 0)).setCell ⟨s,10+k*9+7,none⟩ (.int .i64 0)).setCell ⟨s,10+k*9+8,none⟩ (.map (some w5.heap.size))):=by
    rw [HEP.out]
    rfl
   have HE6:=Lib.hid e6
   clear he2 hD2 hv5 hba hsa hma h6 h7 HV5 e6
   go_upto_region 3 with (fail)
   rw [←HE6.out]
   generalize setPe (w5.alloc (.map #[] 0)) s k {Pe.away with state:=1,epoch:=ep,life:=life} (.map (some w5.heap.size))=V at HV6 HS6 HF6 ⊢
   clear x0 f0 x1 f1 x2 f2 x3 f3 x4 f4 x5 f5 x6 f6 x7 f7 x8 f8 HE6 HVA HSA HFA
   have y163:V.cell? ⟨s,163,none⟩=some (.pointer (some ⟨P.lp,0,none⟩)):=HV6.out.t (k:=0) rfl
   have HDR:=Lib.hid (ldrop_any HV6.out.rest.lease (k:Nat))
   go_wp2_with fail
   refine HDR.out.mono ?_
   rintro e w7 ⟨rfl,hl7,hs7⟩
   have HV7:=Lib.hid (HV6.out.onL HC.out hs7 hl7)
   have HS7:=Lib.hid (HS6.out.trans (hs7.mono lea_sv))
   have HF7:=Lib.hid (HF6.out.step hs7)
   clear hl7 hs7 y163 HDR
   have q1:w7.drew.cell? ⟨s,163,none⟩=some (.pointer (some ⟨P.lp,0,none⟩)):=HV7.out.drew.t (k:=0) rfl
   have q2:w7.drew.cell? ⟨s,8,none⟩=some (.int .i64 S.now):=HV7.out.drew.h (k:=8) (by omega) rfl
   have HRN:=Lib.hid (show Calls Tryz.prog 52 #[.pointer (some ⟨P.lp,0,none⟩), .int .i64 (k:Nat), .int .i64 S.now] w7.drew _ from lrenew_any HV7.out.drew.rest.lease (Le.drop_ok HLK.out (k:Nat)) (k:Nat) S.now HNW.out)
   go_wp2_with fail
   go_region_held3 (fun w'=>w'.cell? ⟨s,163,none⟩=some (.pointer (some ⟨P.lp,0,none⟩))∧w'.cell? ⟨s,8,none⟩=some (.int .i64 S.now))
    (first | exact ⟨q1,q2⟩ | exact ⟨g1,g2⟩ | go_keep)
    ((go_at_call 52;((with_reducible refine HRN.out.mono ?_);rintro e w8 ⟨rfl,hl8,hs8⟩;have hv8:=HV7.out.drew.onL HC.out hs8 hl8;have HV8:=Lib.hid hv8;have HS8:=Lib.hid hs8;have g1:w8.cell? ⟨s,163,none⟩=some (.pointer (some ⟨P.lp,0,none⟩)):=hv8.t (k:=0) rfl;have g2:w8.cell? ⟨s,8,none⟩=some (.int .i64 S.now):=hv8.h (k:=8) (by omega) rfl;clear hl8 hs8 hv8)))
   have HS9:=Lib.hid ((HS7.out.drew).trans (HS8.out.mono lea_sv))
   have HF9:=Lib.hid (HF7.out.drew.step HS8.out)
   have HT:=Lib.hid (vtell_any ⟨_,HV8.out⟩ HF9.out HC.out HO.out k hk16 {Mg.zero with kind:=2} (.slice none 0 0) (OwnS.nil _ _ _ _ _))
   clear q1 q2 g1 g2 HRN
   go_wp2_with fail
   refine HT.out.mono ?_
   rintro e w10 ⟨rfl,o10,hv10,hs10⟩
   have HV10:=Lib.hid hv10
   have HS10:=Lib.hid (HS9.out.trans hs10)
   clear hv10 hs10
   go_wp2_with fail
   go_end0
   exact ⟨rfl,o10,by rw [←HRE2.out];exact HV10.out,HS10.out⟩
  ·rw [decide_eq_false he2]
   rw [check_bad _ he2] at HV5
   have HRE2:=Lib.hid ((if_neg he2).symm.trans HRE.out)
   clear he2
   go_wp2_with fail
   refine bodyPost_ret (results_none rfl _ _ _) rfl ?_
   exact ⟨rfl,o4,by rw [←HRE2.out];exact ⟨P,HV5.out⟩,HS5.out⟩
 ·rw [decide_eq_false he1]
  rw [check_bad _ he1] at HV3
  have HRE:=Lib.hid ((if_neg he1).symm.trans HRD.out)
  clear he1 HRD
  go_wp2_with fail
  refine bodyPost_ret (results_none rfl _ _ _) rfl ?_
  exact ⟨rfl,o2,by rw [←HRE.out];exact ⟨P,HV3.out⟩,HS3.out⟩
end
theorem grant_nodes {T:Tb} (h:TbWf T):T.grant.2.nodes=T.nodes :=
 (GrWf.go T.waits ⟨[],[],[],T⟩ (GrWf.start h) (fun x hx=>(h.waits x hx).1)).nodes
theorem cancel_nodes {T:Tb} (h:TbWf T) (id:Int):(T.cancel id).2.nodes=T.nodes:=by
 unfold Tb.cancel
 split
 ·rfl
 ·exact grant_nodes (h.filter _)
theorem drop_nodes {T:Tb} (h:TbWf T) (node:Int):(T.drop node).2.nodes=T.nodes:=by
 unfold Tb.drop
 split
 ·exact grant_nodes ((h.fresh _).filter _)
 ·rfl
theorem drop_count (T:Tb) (node:Int):(T.drop node).1.length+(T.drop node).2.waits.length≤T.waits.length:=by
 unfold Tb.drop
 split
 ·have hf:=List.length_filter_le (fun w:Wq => !decide (w.node=node)) T.waits
  have:=grant_count {T.hold node.toNat [] with waits:=T.waits.filter (fun w => !decide (w.node=node))}
  exact Nat.le_trans (Nat.le_of_eq this) hf
 ·show 0+T.waits.length≤T.waits.length
  omega
structure FgSame (S0 S:Sv):Prop where
 wf:TbWf S.T
 nodes:S.T.nodes=S0.T.nodes
 count:S.granted.length+S.T.waits.length≤S0.granted.length+S0.T.waits.length
 D:S.D=S0.D
 L:S.L=S0.L
 out:S.out=S0.out
 now:S.now=S0.now
 peers:S.peers=S0.peers
 kept:S.kept=S0.kept
 sh:S.sh=S0.sh
theorem FgSame.step {S0 S:Sv} (h:FgSame S0 S) (node:Int) (w:Wq):FgSame S0 (forget1 node S w):=by
 unfold forget1
 split
 ·refine ⟨h.wf.cancel w.id,(cancel_nodes h.wf w.id).trans h.nodes,?_,h.D,h.L,h.out,h.now,h.peers,h.kept,h.sh⟩
  show (S.granted++(S.T.cancel w.id).1.1).length+(S.T.cancel w.id).2.waits.length≤_
  have:=cancel_count S.T w.id
  have h2:=h.count
  rw [List.length_append]
  omega
 ·exact h
theorem forget_same {S:Sv} (h:TbWf S.T) (node:Int):FgSame {S with kept:=S.kept.filter (fun r => !decide (r.node=node))} (S.forget node) :=
 foldl_inv (P:=FgSame {S with kept:=S.kept.filter (fun r => !decide (r.node=node))}) (f:=forget1 node) S.T.waits _ ⟨h,rfl,Nat.le_refl _,rfl,rfl,rfl,rfl,rfl,rfl,rfl⟩ (fun b x _ hb=>hb.step node x)
section
variable {o o':Nat→Nat} {c:Nat} {C:Nat→Prop} {w w':World} {s:Nat} {S:Sv} {P:SvP} {v:Value}
set_option maxRecDepth 100000 in
set_option maxHeartbeats 16000000 in
theorem vleave_any (h:SvAt o c w s S) (hf:Fut o w) (hc1:1≤c) (wf:TbWf S.T) (hn:S.T.nodes=S.n) (hkl:S.kept.length≤1000000) (hg:S.granted.length+S.T.waits.length≤1000000) (ho:S.out.length≤1000000000) (k:Nat) (hk1:1≤k) (hkn:k≤S.n) (hla:(S.D.put k 0).2.last+1<18446744073709551616) (hl:S.L.ok) (hnow:0≤S.now∧S.now≤9223372036854775807) :
 Calls Tryz.prog 92 #[.pointer (some ⟨s,0,none⟩), .int .i64 (k:Nat)] w fun e w'=>e = .returned (.tuple #[])∧∃o',SvAt o' c w' s (S.leave k)∧Step o (svC c) w o' w':=by
 obtain ⟨i0,hi,hz0,hz1,hz2⟩:=info_parts info_wq
 obtain ⟨P,h⟩:=h
 have hnn:=h.rest.nn
 have hk16:k≤16:=by omega
 have hk17:(k:Int)<17:=by omega
 have HC:=Lib.hid hc1
 have HO:=Lib.hid ho
 have HV:=Lib.hid h
 have HF:=Lib.hid hf
 have HW:=Lib.hid wf
 have HKL:=Lib.hid hkl
 have HG:=Lib.hid hg
 have HLA:=Lib.hid hla
 have HLK:=Lib.hid hl
 have HNW:=Lib.hid hnow
 have HKN:=Lib.hid (show k≤S.T.nodes by omega)
 have hmm := @run_makeMap Tryz.prog
 obtain ⟨R,hR⟩:∃R,S.leave k=R:=⟨_,rfl⟩
 have HRD:=Lib.hid hR
 unfold Sv.leave at HRD
 rw [hR]
 have HPU:=Lib.hid (show Calls Tryz.prog 122 #[.pointer (some ⟨P.dp,0,none⟩), .int .i64 (k:Nat), .int .u64 0] w _ from dput_sv h hc1 k 0)
 have y0:w.cell? ⟨s,0,none⟩=some (.pointer (some ⟨P.dp,0,none⟩)):=h.h (k:=0) (by omega) rfl
 clear h hf hc1 ho hl hnow hR hla wf hkl hg hn hnn
 go_enter Tryz.func92,Tryz.ntmps92
 go_wp2_with fail
 refine HPU.out.mono ?_
 rintro e w2 ⟨rfl,o2,hv2,hs2⟩
 have HV2:=Lib.hid hv2
 have HS2:=Lib.hid (hs2.mono six_sv)
 have HF2:=Lib.hid (HF.out.step hs2)
 clear hv2 hs2 y0
 go_wp2_with fail
 refine (vcheck_any HV2.out HC.out (S.D.put k 0).1).mono ?_
 rintro e w3 ⟨rfl,hv3,hs3⟩
 have HS3:=Lib.hid (HS2.out.trans (hs3.mono only0_sv))
 have HF3:=Lib.hid (HF2.out.step hs3)
 have HV3:=Lib.hid hv3
 clear hv3 hs3
 by_cases he1:(S.D.put k 0).1=0
 ·rw [decide_eq_true he1]
  rw [check_ok _ he1] at HV3
  have HRE:=Lib.hid ((if_pos he1).symm.trans HRD.out)
  obtain ⟨D1,hD1⟩:∃D1,(S.D.put k 0).2=D1:=⟨_,rfl⟩
  rw [hD1] at HRE HLA
  have HV3':=Lib.hid (show SvIn o2 c w3 s {S with D:=D1} P by
   have:=HV3.out
   rw [hD1] at this
   exact this)
  have y163:w3.cell? ⟨s,163,none⟩=some (.pointer (some ⟨P.lp,0,none⟩)):=HV3'.out.t (k:=0) rfl
  have HDR:=Lib.hid (ldrop_any HV3'.out.rest.lease (k:Nat))
  clear he1 HRD HV3 hD1
  go_wp2_with fail
  refine HDR.out.mono ?_
  rintro e w4 ⟨rfl,hl4,hs4⟩
  have HV4:=Lib.hid (HV3'.out.onL HC.out hs4 hl4)
  have HS4:=Lib.hid (HS3.out.trans (hs4.mono lea_sv))
  have HF4:=Lib.hid (HF3.out.step hs4)
  have HFG:=Lib.hid (vforget_any ⟨P,HV4.out⟩ HF4.out HC.out HW.out HKL.out HG.out (k:Nat))
  have HFS:=Lib.hid (forget_same (S := {S with D:=D1,L:=(S.L.drop k).2}) HW.out (k:Nat))
  clear hl4 hs4 y163 HDR
  go_wp2_with fail
  refine HFG.out.mono ?_
  rintro e w5 ⟨rfl,o5,hv5,hs5⟩
  change SvAt o5 c w5 s (({S with D:=D1,L:=(S.L.drop k).2}:Sv).forget k) at hv5
  have HS5:=Lib.hid (HS4.out.trans hs5)
  have HF5:=Lib.hid (HF4.out.step hs5)
  obtain ⟨S5,hS5⟩:∃S5,({S with D:=D1,L:=(S.L.drop k).2}:Sv).forget k=S5:=⟨_,rfl⟩
  rw [hS5] at hv5 HRE HFS
  obtain ⟨P5,hv5⟩:=hv5
  have HV5:=Lib.hid hv5
  have HPE:=Lib.hid (show S5.peers=S.peers from HFS.out.peers)
  have hnd:k≤S5.T.nodes:=by
   rw [show S5.T.nodes=S.T.nodes from HFS.out.nodes]
   exact HKN.out
  have hcn:S5.granted.length+S5.T.waits.length≤1000000:=Nat.le_trans (show _≤S.granted.length+S.T.waits.length from HFS.out.count) HG.out
  have hdc:=drop_count S5.T (k:Nat)
  have HTD:=Lib.hid (show Calls Tryz.prog 94 #[.pointer (some ⟨P5.tp,0,none⟩), .int .i64 (k:Nat)] w5.drew _ from tdrop_any hv5.drew.rest.table HF5.out.drew (by have:=HC.out;omega) HFS.out.wf k hk1 hnd)
  obtain ⟨G,hGe⟩:∃G,(S5.T.drop (k:Nat)).1=G:=⟨_,rfl⟩
  obtain ⟨T6,hT6⟩:∃T6,(S5.T.drop (k:Nat)).2=T6:=⟨_,rfl⟩
  rw [hGe,hT6] at HTD hdc
  have HGO:=Lib.hid (show ∀N,S5.gone N = {S5 with T:=(S5.T.drop N).2,granted:=S5.granted++(S5.T.drop N).1}.peer N Pe.away from fun _=>rfl)
  have HGK:=Lib.hid (show S5.gone k = {S5 with T:=T6,granted:=S5.granted++G}.peer k Pe.away by
   rw [HGO.out,hGe,hT6])
  obtain ⟨A3,cap3,hgv,_⟩:=own_form' hv5.rest.granted
  have y164:w5.drew.cell? ⟨s,164,none⟩=some (.pointer (some ⟨P5.tp,0,none⟩)):=hv5.drew.t (k:=1) rfl
  have y167:w5.drew.cell? ⟨s,167,none⟩=some (.slice A3 S5.granted.length cap3):=(hv5.drew.t (k:=4) rfl).trans (by rw [hgv])
  have HGV:=Lib.hid hgv
  clear hv5 hs5 hS5 hGe hT6 hgv HGO
  go_wp2_with fail
  go_region_law (first
   | (go_simp;go_at_call 94;(refine HTD.out.mono ?_);rintro e w6 ⟨Dd,capd,rfl,o6,ho6,ht6,hs6⟩;have hv6:=HV5.out.drew.onT HC.out hs6 ht6;have HV6:=Lib.hid hv6;have g164:w6.cell? ⟨s,164,none⟩=some (.pointer (some ⟨P5.tp,0,none⟩)):=hv6.t (k:=1) rfl;have g167:w6.cell? ⟨s,167,none⟩=some (.slice A3 S5.granted.length cap3):=(hv6.t (k:=4) rfl).trans (by rw [HGV.out]);have HO6:=Lib.hid ho6;have HS6:=Lib.hid hs6;have HG6:=Lib.hid (show OwnS o6 (c+3) w6 164 5 (.slice A3 S5.granted.length cap3) S5.granted.length (wqcells S5.granted) from HGV.out▸hv6.rest.granted);clear ho6 ht6 hs6 hv6)
   | (refine step_append_S _ rfl (.tmp 27) (.tmp 33) 68 rfl 164 i0 _ 5 40 Tryz.underlying68 hi hz0 hz1 hz2 rfl (by omega) (.slice A3 S5.granted.length cap3) S5.granted.length (wqcells S5.granted) rfl HG6.out Dd G.length capd (wqcells G) rfl (Reads.of_own HO6.out.1) (wqcells_one G) (by unfold maxLen;omega) (by omega) ?_;intro v7 w7 hown7 hst7 hgr7 hat7;obtain ⟨A7,cap7,rfl,_,_⟩:=own_form' hown7;have HW7:=Lib.hid hown7;have HS7:=Lib.hid hst7;have k7:w7.cell? ⟨s,167,none⟩=some P5.gv:=(((HV6.out.blk.step hst7 (by rw [HV6.out.col];unfold only;omega)).cell (163+4)).trans (Sv.tail_at (k:=4)));have f7:=(HV6.out.blk.step hst7 (by rw [HV6.out.col];unfold only;omega)).frozen 167;clear hown7 hst7 hgr7 hat7))
  all_goals
   obtain ⟨hv8,hs8⟩:=HV6.out.gave HC.out (G:=G) (n:=S5.granted.length+G.length) (by simp) HS7.out (by rw [wqcells_app];exact HW7.out)
   have HV8:=Lib.hid hv8
   have HS8:=Lib.hid ((HS5.out.drew.trans (HS6.out.mono tab_sv)).trans hs8)
   have HF8:=Lib.hid ((HF5.out.drew.step HS6.out).step hs8)
   clear hv8 hs8 y164 y167 g164 g167 k7 f7 HW7 HS7 HO6 HG6 HV6 HS6 HTD HV5
   generalize band o6 w6.heap.size w7.heap.size (c+3)=o8 at HV8 HS8 HF8
   generalize w7.setCell ⟨s,167,none⟩ (.slice A7 (S5.granted.length+G.length) cap7)=W8 at HV8 HS8 HF8 ⊢
   have y3:W8.cell? ⟨s,10+k*9+3,none⟩=some (.int .i64 (S5.peers k).hello):=HV8.out.p (j:=3) hk16 (by omega) rfl
   have hba:=(Below.refl W8.heap.size W8).alloc (Nat.le_refl _) (.map #[] 0)
   have hsa:=Step.of_below_band o8 (svC c) (c+5+k) hba
   have hma:=MapL.newAs (band o8 W8.heap.size (W8.alloc (.map #[] 0)).heap.size (c+5+k)) W8 (c+5+k) (band_in (Nat.le_refl _) (by simp))
   have HVA:=Lib.hid (HV8.out.step (Step.of_below_band o8 (fun _=>False) (c+5+k) hba) (fun _ _=>id) id)
   obtain ⟨h6,h7⟩:=HVA.out.anew HC.out hk16 Pe.away hma
   have HSA:=Lib.hid (HS8.out.trans hsa)
   have HFA:=Lib.hid (HF8.out.step hsa)
   generalize band o8 W8.heap.size (W8.alloc (.map #[] 0)).heap.size (c+5+k)=o9 at HVA h6 h7 HSA HFA hma
   have HS9:=Lib.hid (HSA.out.trans (h7.mono only0_sv))
   have HF9:=Lib.hid (HFA.out.step h7)
   have h6':SvIn o9 c (setPe (W8.alloc (.map #[] 0)) s k Pe.away (.map (some W8.heap.size))) s (S5.gone k) _:=HGK.out▸h6
   have HV9:=Lib.hid h6'
   have x0:(W8.alloc (.map #[] 0)).cell? ⟨s,10+k*9,none⟩=some (.int .i64 (S5.peers k).state):=HVA.out.p (j:=0) hk16 (by omega) rfl
   have f0:=HVA.out.blk.frozen (10+k*9)
   have x1:(W8.alloc (.map #[] 0)).cell? ⟨s,10+k*9+1,none⟩=some (.int .u64 (S5.peers k).epoch):=HVA.out.p (j:=1) hk16 (by omega) rfl
   have f1:=HVA.out.blk.frozen (10+k*9+1)
   have x2:(W8.alloc (.map #[] 0)).cell? ⟨s,10+k*9+2,none⟩=some (.int .i64 (S5.peers k).life):=HVA.out.p (j:=2) hk16 (by omega) rfl
   have f2:=HVA.out.blk.frozen (10+k*9+2)
   have x3:(W8.alloc (.map #[] 0)).cell? ⟨s,10+k*9+3,none⟩=some (.int .i64 (S5.peers k).hello):=HVA.out.p (j:=3) hk16 (by omega) rfl
   have f3:=HVA.out.blk.frozen (10+k*9+3)
   have x4:(W8.alloc (.map #[] 0)).cell? ⟨s,10+k*9+4,none⟩=some (.bool (S5.peers k).unknown):=HVA.out.p (j:=4) hk16 (by omega) rfl
   have f4:=HVA.out.blk.frozen (10+k*9+4)
   have x5:(W8.alloc (.map #[] 0)).cell? ⟨s,10+k*9+5,none⟩=some (.int .i64 (S5.peers k).by_):=HVA.out.p (j:=5) hk16 (by omega) rfl
   have f5:=HVA.out.blk.frozen (10+k*9+5)
   have x6:(W8.alloc (.map #[] 0)).cell? ⟨s,10+k*9+6,none⟩=some (.int .i64 (S5.peers k).stamp):=HVA.out.p (j:=6) hk16 (by omega) rfl
   have f6:=HVA.out.blk.frozen (10+k*9+6)
   have x7:(W8.alloc (.map #[] 0)).cell? ⟨s,10+k*9+7,none⟩=some (.int .i64 (S5.peers k).grants):=HVA.out.p (j:=7) hk16 (by omega) rfl
   have f7:=HVA.out.blk.frozen (10+k*9+7)
   have x8:(W8.alloc (.map #[] 0)).cell? ⟨s,10+k*9+8,none⟩=some (P5.tv k):=HVA.out.p (j:=8) hk16 (by omega) rfl
   have f8:=HVA.out.blk.frozen (10+k*9+8)
   have e6:setPe (W8.alloc (.map #[] 0)) s k Pe.away (.map (some W8.heap.size))=((((((((((W8.alloc (.map #[] 0)).setCell ⟨s,10+k*9,none⟩ (.int .i64 0)).setCell ⟨s,10+k*9+1,none⟩ (.int .u64 0)).setCell ⟨s,10+k*9+2,none⟩ (.int .i64 (-1))).setCell ⟨s,10+k*9+3,none⟩ (.int .i64 (-1))).setCell ⟨s,10+k*9+4,none⟩ (.bool false)).setCell ⟨s,10+k*9+5,none⟩ (.int .i64 0)).setCell ⟨s,10+k*9+6,none⟩ (.int .i64 0)).setCell ⟨s,10+k*9+7,none⟩ (.int .i64 0)).setCell ⟨s,10+k*9+8,none⟩ (.map (some W8.heap.size))):=rfl
   have HE6:=Lib.hid e6
   clear hba hsa hma h6 h6' h7 e6
   go_upto_region 6 with (fail)
   rw [←HE6.out]
   generalize setPe (W8.alloc (.map #[] 0)) s k Pe.away (.map (some W8.heap.size))=V at HV9 HS9 HF9 ⊢
   clear x0 f0 x1 f1 x2 f2 x3 f3 x4 f4 x5 f5 x6 f6 x7 f7 x8 f8 HE6 HVA HSA HFA y3 HV8 HS8 HF8
   rw [←HPE.out] at HRE
   by_cases hh:(S5.peers k).hello = -1
   ·have b1:((S5.peers k).hello != -1)=false:=by simp [hh]
    have HN:=Lib.hid ((if_pos hh).symm.trans HRE.out)
    clear hh
    go_wp2_with fail
    go_end0
    exact ⟨rfl,o9,by rw [←HN.out];exact ⟨_,HV9.out⟩,HS9.out⟩
   ·have b1:((S5.peers k).hello != -1)=true:=by simp [hh]
    have HN:=Lib.hid ((if_neg hh).symm.trans HRE.out)
    have HJ:=Lib.hid (vjoin_any ⟨_,HV9.out⟩ HF9.out HC.out (show S5.out.length≤1000000000 by rw [show S5.out=S.out from HFS.out.out];exact HO.out) k hk16 (S5.peers k).hello (show S5.D.last+1<18446744073709551616 by rw [show S5.D=D1 from HFS.out.D];exact HLA.out) (show S5.L.ok by rw [show S5.L=(S.L.drop k).2 from HFS.out.L];exact Le.drop_ok HLK.out (k:Nat)) (show 0≤S5.now∧S5.now≤9223372036854775807 by rw [show S5.now=S.now from HFS.out.now];exact HNW.out))
    clear hh
    go_wp2_with fail
    refine HJ.out.mono ?_
    rintro e w10 ⟨rfl,o10,hv10,hs10⟩
    have HV10:=Lib.hid hv10
    have HS10:=Lib.hid (HS9.out.trans hs10)
    clear hv10 hs10
    go_wp2_with fail
    go_end0
    exact ⟨rfl,o10,by rw [←HN.out];exact HV10.out,HS10.out⟩
 ·rw [decide_eq_false he1]
  rw [check_bad _ he1] at HV3
  have HRE:=Lib.hid ((if_neg he1).symm.trans HRD.out)
  clear he1 HRD
  go_wp2_with fail
  refine bodyPost_ret (results_none rfl _ _ _) rfl ?_
  exact ⟨rfl,o2,by rw [←HRE.out];exact ⟨P,HV3.out⟩,HS3.out⟩
end
def Empty (D:Dk):Prop:=∀node:Int,1≤node→node≤3→D.sec (1+(node - 1)*12)=str (zer 64)
theorem now_sec {D E:Dk} (h:E.now=D.now) (k:Int):E.sec k=D.sec k:=by unfold Dk.sec;rw [h]
theorem Empty.now {D E:Dk} (h:Empty D) (he:E.now=D.now):Empty E:=fun n h1 h2=>(now_sec he _).trans (h n h1 h2)
theorem zer_list (n:Nat):∀x∈zer n,x=0:=fun x hx=>by
 unfold zer at hx
 exact List.eq_of_mem_replicate hx
theorem zer_head : lhE (str (zer 64))≠0:=by
 rw [head_zero]
 decide
theorem Empty.head {D:Dk} (h:Empty D) (hc:Live D) {node:Int} (hn:1≤node∧node≤3):D.headE node=0∧D.headI node=false:=by
 have hla:logAt node=(1+(node - 1)*12,0):=if_neg (by omega)
 have hz:=h node hn.1 hn.2
 obtain ⟨a,ha⟩:∃a,1+(node - 1)*12=a:=⟨_,rfl⟩
 rw [ha] at hla hz
 obtain ⟨r1,r2⟩:=hc.read (at_:=a) (n:=1) (by omega) (by omega) (by omega)
 have e1:D.headE1 node=0:=by
  unfold Dk.headE1
  rw [hla]
  exact r1
 have r2':D.readS a 1=str (D.readL a 1):=r2
 have e3:D.readL a 1=zer 64:=by
  have:D.readL a 1=(D.sec (a+((0:Nat):Int))).data.toList:=by simp [Dk.readL,List.range_succ]
  rw [this,show a+((0:Nat):Int)=a by omega,hz,str_list]
 have hB:D.headB node=str (zer 64):=by
  unfold Dk.headB
  rw [hla]
  show D.readS a 1=_
  rw [r2',e3]
 have hzh:=zer_head
 refine ⟨?_,?_⟩
 ·unfold Dk.headE
  rw [e1,if_neg (by decide),hB,if_neg hzh,if_pos]
  intro x hx
  rw [str_list] at hx
  exact zer_list _ x hx
 ·unfold Dk.headI
  rw [hB]
  simp [hzh]
theorem Empty.run {D:Dk} {k:Nat} (h:Empty D) (hc:Calm D k) {node:Int} (hn:1≤node∧node≤3) (of_:Nat) (by_:Int) (ep:Nat):runR D node of_ by_ ep=⟨0,0,D⟩:=by
 obtain ⟨h1,h2⟩:=h.head hc.live hn
 unfold runR
 rw [h1,h2]
 simp
structure Bnd where
 out:Nat
 kept:Nat
 gw:Nat
 gr:Nat
 st:Nat
 last:Nat
 tl:Nat
def nd (x:Int):Prop:=1≤x∧x≤16
structure SvOk (b:Bnd) (S:Sv):Prop where
 shp:S.sh=(3,12,12,6,32)
 wf:TbWf S.T
 nodes:S.T.nodes=S.n
 tl:S.T.last≤b.tl
 lok:S.L.ok
 small:S.L.small
 now:0≤S.now∧S.now≤4611686018427387904
 out:S.out.length≤b.out
 kept:S.kept.length≤b.kept
 rq:∀r∈S.kept,nd r.node∧r.m.locks.length≤1000
 gw:S.granted.length+S.T.waits.length≤b.gw
 wq:∀w∈S.granted,nd w.node
 gr:∀i,0≤(S.peers i).grants∧(S.peers i).grants≤b.gr
 by_:∀i,0≤(S.peers i).by_∧(S.peers i).by_≤16
 st:0≤S.stamp∧S.stamp≤b.st
 last:S.D.last≤b.last
 calm:Calm S.D 1000
 empty:Empty S.D
 up:S.down=false
theorem SvOk.n {b:Bnd} {S:Sv} (h:SvOk b S):S.n=3:=by
 unfold Sv.n
 rw [h.shp]
structure Bnd.le (b c:Bnd):Prop where
 out:b.out≤c.out
 kept:b.kept≤c.kept
 gw:b.gw≤c.gw
 gr:b.gr≤c.gr
 st:b.st≤c.st
 last:b.last≤c.last
 tl:b.tl≤c.tl
theorem SvOk.mono {b c:Bnd} {S:Sv} (h:SvOk b S) (hl:b.le c):SvOk c S :=
 ⟨h.shp,h.wf,h.nodes,by have:=h.tl;have:=hl.tl;omega,h.lok,h.small,h.now,Nat.le_trans h.out hl.out,Nat.le_trans h.kept hl.kept,h.rq,Nat.le_trans h.gw hl.gw,h.wq,fun i=>⟨(h.gr i).1,by have:=(h.gr i).2;have:=hl.gr;omega⟩,h.by_,⟨h.st.1,by have:=h.st.2;have:=hl.st;omega⟩,Nat.le_trans h.last hl.last,h.calm,h.empty,h.up⟩
section
variable {b:Bnd} {S:Sv} {T:Tb}
theorem SvOk.tell (h:SvOk b S) (k:Nat) (m:Mg):SvOk {b with out:=b.out+1} (S.tell k m) :=
 ⟨h.shp,h.wf,h.nodes,h.tl,h.lok,h.small,h.now,by show (S.out ++ [_]).length≤_;have:=h.out;simp;exact this,h.kept,h.rq,h.gw,h.wq,h.gr,h.by_,h.st,h.last,h.calm,h.empty,h.up⟩
theorem SvOk.peer (h:SvOk b S) (k:Nat) {p:Pe} (hg:0≤p.grants∧p.grants≤b.gr) (hb:0≤p.by_∧p.by_≤16):SvOk b (S.peer k p):=by
 refine ⟨h.shp,h.wf,h.nodes,h.tl,h.lok,h.small,h.now,h.out,h.kept,h.rq,h.gw,h.wq,fun i => ?_,fun i => ?_,h.st,h.last,h.calm,h.empty,h.up⟩
 ·show 0≤(if i=k then p else S.peers i).grants∧(if i=k then p else S.peers i).grants≤_
  split
  ·exact hg
  ·exact h.gr i
 ·show 0≤(if i=k then p else S.peers i).by_∧(if i=k then p else S.peers i).by_≤_
  split
  ·exact hb
  ·exact h.by_ i
theorem SvOk.onL (h:SvOk b S) {L:Le} (h1:L.ok) (h2:L.small):SvOk b {S with L:=L} :=
 ⟨h.shp,h.wf,h.nodes,h.tl,h1,h2,h.now,h.out,h.kept,h.rq,h.gw,h.wq,h.gr,h.by_,h.st,h.last,h.calm,h.empty,h.up⟩
theorem SvOk.onD (h:SvOk b S) {D:Dk} {l:Nat} (h1:Calm D 1000) (h2:D.now=S.D.now) (h3:D.last≤l):SvOk {b with last:=l} {S with D:=D} :=
 ⟨h.shp,h.wf,h.nodes,h.tl,h.lok,h.small,h.now,h.out,h.kept,h.rq,h.gw,h.wq,h.gr,h.by_,h.st,h3,h1,h.empty.now h2,h.up⟩
theorem SvOk.onI (h:SvOk b S) (f:Int→Option Int):SvOk b {S with ids:=f} :=
 ⟨h.shp,h.wf,h.nodes,h.tl,h.lok,h.small,h.now,h.out,h.kept,h.rq,h.gw,h.wq,h.gr,h.by_,h.st,h.last,h.calm,h.empty,h.up⟩
theorem SvOk.onK (h:SvOk b S) {K:List Rq} {n:Nat} (h1:K.length≤n) (h2:∀r∈K,nd r.node∧r.m.locks.length≤1000):SvOk {b with kept:=n} {S with kept:=K} :=
 ⟨h.shp,h.wf,h.nodes,h.tl,h.lok,h.small,h.now,h.out,h1,h2,h.gw,h.wq,h.gr,h.by_,h.st,h.last,h.calm,h.empty,h.up⟩
theorem SvOk.onT (h:SvOk b S) {T:Tb} {G:List Wq} {n t:Nat} (h1:TbWf T) (h2:T.nodes=S.T.nodes) (h3:T.last≤t) (h4:S.granted.length+G.length+T.waits.length≤n) (h5:∀w∈G,nd w.node):SvOk {b with gw:=n,tl:=t} {S with T:=T,granted:=S.granted++G} :=
 ⟨h.shp,h1,h2.trans h.nodes,h3,h.lok,h.small,h.now,h.out,h.kept,h.rq,by show (S.granted++G).length+_≤n;rw [List.length_append];exact h4,fun w hw=>by
  rcases List.mem_append.1 hw with hw | hw
  ·exact h.wq w hw
  ·exact h5 w hw,h.gr,h.by_,h.st,h.last,h.calm,h.empty,h.up⟩
theorem Gr.step_out (G:Gr) (w x:Wq) (hx:x∈(G.step w).out):x∈G.out∨x=w:=by
 unfold Gr.step at hx
 split at hx
 ·exact .inl hx
 ·simpa using hx
theorem Gr.go_out : ∀(ws:List Wq) (G:Gr) (x:Wq),x∈(ws.foldl Gr.step G).out→x∈G.out∨x∈ws
 | [],G,x,hx => .inl hx
 | y :: ws,G,x,hx=>by
   rcases Gr.go_out ws (G.step y) x hx with h | h
   ·rcases G.step_out y x h with h | h
    ·exact .inl h
    ·exact .inr (by rw [h];exact List.mem_cons_self ..)
   ·exact .inr (List.mem_cons_of_mem _ h)
theorem grant_sub {T:Tb} {x:Wq} (hx:x∈T.grant.1):x∈T.waits:=by
 rcases Gr.go_out T.waits ⟨[],[],[],T⟩ x hx with h | h
 ·cases h
 ·exact h
theorem grant_last {T:Tb} (h:TbWf T):T.grant.2.last=T.last :=
 (GrWf.go T.waits ⟨[],[],[],T⟩ (GrWf.start h) (fun x hx=>(h.waits x hx).1)).last
theorem TbWf.nd {T:Tb} (h:TbWf T) {x:Wq} (hx:x∈T.waits):nd x.node:=by
 obtain ⟨_,h2,h3⟩:=h.waits x hx
 have:=h.nodes
 unfold Go.Proofs.YtohgabdmmbngbaaGreatDoor.nd
 omega
theorem grant_nd {T:Tb} (h:TbWf T):∀x∈T.grant.1,Go.Proofs.YtohgabdmmbngbaaGreatDoor.nd x.node:=fun _ hx=>h.nd (grant_sub hx)
structure TbStep (T:Tb) (G:List Wq) (T':Tb):Prop where
 wf:TbWf T'
 nodes:T'.nodes=T.nodes
 last:T'.last=T.last
 count:G.length+T'.waits.length≤T.waits.length
 nd:∀x∈G,Go.Proofs.YtohgabdmmbngbaaGreatDoor.nd x.node
theorem TbStep.cancel (h:TbWf T) (id:Int):TbStep T (T.cancel id).1.1 (T.cancel id).2:=by
 refine ⟨h.cancel id,cancel_nodes h id,?_,cancel_count T id,?_⟩
 ·unfold Tb.cancel
  split
  ·rfl
  ·exact grant_last (h.filter _)
 ·unfold Tb.cancel
  split
  ·intro x hx
   cases hx
  ·exact grant_nd (h.filter _)
theorem TbStep.drop (h:TbWf T) (node:Int):TbStep T (T.drop node).1 (T.drop node).2:=by
 refine ⟨h.drop node,drop_nodes h node,?_,drop_count T node,?_⟩
 ·unfold Tb.drop
  split
  ·exact grant_last ((h.fresh _).filter _)
  ·rfl
 ·unfold Tb.drop
  split
  ·exact grant_nd ((h.fresh _).filter _)
  ·intro x hx
   cases hx
theorem TbStep.release (h:TbWf T) (node:Int) (s:Sp) (keep:Int):TbStep T (T.release node s keep).1.1 (T.release node s keep).2:=by
 refine ⟨h.release node s keep,?_,?_,?_,?_⟩
 ·unfold Tb.release
  split
  ·exact grant_nodes (h.hold ((h.held _).relL s keep))
  ·rfl
 ·unfold Tb.release
  split
  ·exact grant_last (h.hold ((h.held _).relL s keep))
  ·rfl
 ·unfold Tb.release
  split
  ·exact Nat.le_of_eq (grant_count _)
  ·show 0+T.waits.length≤T.waits.length
   omega
 ·unfold Tb.release
  split
  ·exact grant_nd (h.hold ((h.held _).relL s keep))
  ·intro x hx
   cases hx
theorem TbStep.force (h:TbWf T) (node:Int) (l:Lk):TbStep T [] (T.force node l).2:=by
 have hw:(T.force node l).2.nodes=T.nodes∧(T.force node l).2.last=T.last∧(T.force node l).2.waits=T.waits:=by
  unfold Tb.force
  split
  ·exact ⟨rfl,rfl,rfl⟩
  ·split
   ·exact ⟨rfl,rfl,rfl⟩
   ·exact ⟨rfl,rfl,rfl⟩
 refine ⟨h.force node l,hw.1,hw.2.1,?_,fun x hx=>by cases hx⟩
 rw [hw.2.2]
 show 0+_≤_
 omega
theorem SvOk.tab (h:SvOk b S) {G:List Wq} {T':Tb} (ht:TbStep S.T G T'):SvOk b {S with T:=T',granted:=S.granted++G} :=
 h.onT ht.wf ht.nodes (by rw [ht.last];exact h.tl) (by have:=ht.count;have:=h.gw;omega) ht.nd
theorem SvOk.check (h:SvOk b S):SvOk b (S.check 0):=h
theorem SvOk.join (h:SvOk b S) {node:Nat} (hn:1≤node∧node≤16) (life:Int):SvOk {b with out:=b.out+1,last:=b.last+1} (S.join node life):=by
 obtain ⟨e1,c1⟩:=h.calm.put hn.2 (S.D.last+1)
 obtain ⟨D1,hD1⟩:∃D1,(S.D.put (node:Nat) (S.D.last+1)).2=D1:=⟨_,rfl⟩
 have n1:D1.now=S.D.now:=by rw [←hD1,e1]
 have l1:D1.last=S.D.last:=by rw [←hD1,e1]
 have e1':(S.D.put (node:Nat) (S.D.last+1)).1=0:=by rw [e1]
 rw [hD1] at c1
 obtain ⟨e2,c2⟩:=c1.admit hn.2 (e:=S.D.last+1) (by omega)
 have n2:(D1.admit (node:Nat) (S.D.last+1)).2.now=S.D.now:=by rw [e2];exact n1
 have l2:(D1.admit (node:Nat) (S.D.last+1)).2.last=S.D.last+1:=by rw [e2]
 have e2':(D1.admit (node:Nat) (S.D.last+1)).1=0:=by rw [e2]
 unfold Sv.join
 rw [if_pos e1',hD1,if_pos e2']
 have hl:=h.last
 refine (((h.onD c2 n2 (l:=b.last+1) (by omega)).onL (L:=((S.L.drop node).2.renew node S.now).2) (Le.renew_ok (Le.drop_ok h.lok _) _ _) (Le.renew_small (Le.drop_small h.small _) (by omega) _)).peer node ⟨?_,?_⟩ ?_).tell node _
 ·show (0:Int)≤0
  omega
 ·show (0:Int)≤b.gr
  omega
 ·show (0:Int)≤0∧(0:Int)≤16
  omega
theorem SvOk.cancel (h:SvOk b S) (id:Int):SvOk b (S.cancel id):=(h.tab (TbStep.cancel h.wf id)).onI (del S.ids id)
theorem SvOk.forget (h:SvOk b S) (node:Int):SvOk b (S.forget node) :=
 foldl_inv (P:=SvOk b) (f:=forget1 node) S.T.waits _ (h.onK (Nat.le_trans (List.length_filter_le _ _) h.kept) (fun r hr=>h.rq r (List.mem_filter.1 hr).1)) (fun B w _ hB=>by
  unfold forget1
  split
  ·exact hB.cancel w.id
  ·exact hB)
theorem SvOk.lose (h:SvOk b S) {node:Nat} (hn:node≤16):SvOk b (S.lose node):=by
 obtain ⟨e1,c1⟩:=h.calm.fence hn
 have n1:(S.D.fence (node:Nat)).2.now=S.D.now:=by
  rw [e1]
  exact (settle_same S.D node).2.2.2.2.2.1
 have l1:(S.D.fence (node:Nat)).2.last=S.D.last:=by
  rw [e1]
  exact (settle_same S.D node).2.2.2.1
 have e1':(S.D.fence (node:Nat)).1=0:=by rw [e1]
 unfold Sv.lose
 rw [e1']
 have hl:=h.last
 exact ((((h.peer node (p:=(S.peers node).lost) (h.gr node) (h.by_ node)).onD c1 n1 (l:=b.last) (by omega)).check).onL (Le.drop_ok h.lok _) (Le.drop_small h.small _)).forget node
theorem SvOk.gone (h:SvOk b S) (node:Nat):SvOk b (S.gone node) :=
 (h.tab (TbStep.drop h.wf node)).peer node ⟨by show (0:Int)≤0;omega,by show (0:Int)≤b.gr;omega⟩ (by show (0:Int)≤0∧(0:Int)≤16;omega)
theorem SvOk.leave (h:SvOk b S) {node:Nat} (hn:1≤node∧node≤16):SvOk {b with out:=b.out+1,last:=b.last+1} (S.leave node):=by
 obtain ⟨e1,c1⟩:=h.calm.put hn.2 0
 have n1:(S.D.put (node:Nat) 0).2.now=S.D.now:=by rw [e1]
 have l1:(S.D.put (node:Nat) 0).2.last=S.D.last:=by rw [e1]
 have e1':(S.D.put (node:Nat) 0).1=0:=by rw [e1]
 have hl:=h.last
 have h2:SvOk b (({S with D:=(S.D.put node 0).2,L:=(S.L.drop node).2}.forget node).gone node):=(((h.onD c1 n1 (l:=b.last) (by omega)).onL (Le.drop_ok h.lok _) (Le.drop_small h.small _)).forget node).gone node
 unfold Sv.leave
 rw [if_pos e1']
 split
 ·exact h2.mono ⟨Nat.le_succ _,Nat.le_refl _,Nat.le_refl _,Nat.le_refl _,Nat.le_refl _,Nat.le_succ _,Nat.le_refl _⟩
 ·exact h2.join hn _
theorem SvOk.redo (h:SvOk b S) (node:Nat) {by_:Int} (hb:0≤by_∧by_≤16):SvOk {b with out:=b.out+1,st:=b.st+1} (S.redo node by_):=by
 have h1:=h.peer node (p := {S.peers node with state:=4,by_:=by_,stamp:=S.stamp+1}) (h.gr node) hb
 exact ⟨h1.shp,h1.wf,h1.nodes,h1.tl,h1.lok,h1.small,h1.now,by show (S.out ++ [_]).length≤_;have:=h.out;simp;exact this,h1.kept,h1.rq,h1.gw,h1.wq,h1.gr,h1.by_,by show 0≤S.stamp+1∧S.stamp+1≤((b.st+1:Nat):Int);have:=h.st;omega,h1.last,h1.calm,h1.empty,h1.up⟩
theorem least_in (S:Sv) (st:Int):0≤S.least st∧S.least st≤S.n:=by
 unfold Sv.least
 cases hf:(List.range S.n).find? (fun i=>decide ((S.peers (i+1)).state=st)) with
 | none=>exact ⟨Int.le_refl 0,by show (0:Int)≤_;omega⟩
 | some i =>
   have:=List.mem_range.1 (List.mem_of_find?_eq_some hf)
   show 0≤((i+1:Nat):Int)∧((i+1:Nat):Int)≤_
   omega
theorem SvOk.lost1 (h:SvOk b S) {node:Nat} (hn:1≤node∧node≤3):SvOk {b with out:=b.out+1,st:=b.st+1,last:=b.last+1} (S.lost1 node):=by
 have h0:SvOk {b with out:=b.out+1,st:=b.st+1,last:=b.last+1} S:=h.mono ⟨Nat.le_succ _,Nat.le_refl _,Nat.le_refl _,Nat.le_refl _,Nat.le_succ _,Nat.le_succ _,Nat.le_refl _⟩
 unfold Sv.lost1
 split
 ·exact h0
 ·split
  ·exact h0
  ·split
   ·have:=least_in S 1
    rw [h.n] at this
    exact (h.redo node (by omega)).mono ⟨Nat.le_refl _,Nat.le_refl _,Nat.le_refl _,Nat.le_refl _,Nat.le_refl _,Nat.le_succ _,Nat.le_refl _⟩
   ·split
    ·exact h0
    ·rw [h.empty.run h.calm (by omega)]
     unfold Sv.lost2
     rw [if_pos rfl]
     exact (h.leave (node:=node) (by omega)).mono ⟨Nat.le_refl _,Nat.le_refl _,Nat.le_refl _,Nat.le_refl _,Nat.le_succ _,Nat.le_refl _,Nat.le_refl _⟩
theorem SvOk.losts (h:SvOk b S):∀k,k≤3→SvOk {b with out:=b.out+k,st:=b.st+k,last:=b.last+k} ((List.range k).foldl (fun S i=>S.lost1 (i+1)) S)
 | 0,_=>h
 | k+1,hk=>by
   rw [List.range_succ,List.foldl_append]
   exact (h.losts k (by omega)).lost1 (node:=k+1) (by omega)
theorem SvOk.lost (h:SvOk b S):SvOk {b with out:=b.out+3,st:=b.st+3,last:=b.last+3} S.lost:=by
 unfold Sv.lost
 rw [h.n]
 exact h.losts 3 (Nat.le_refl _)
theorem SvOk.back1 (h:SvOk b S) (i:Nat):SvOk b (S.back1 i):=by
 unfold Sv.back1
 split
 ·exact h.peer i (h.gr i) (h.by_ i)
 ·exact h
theorem SvOk.back (h:SvOk b S):SvOk b S.back:=foldl_inv (P:=SvOk b) (f:=Sv.back1) (List.range 17) S h (fun B i _ hB=>hB.back1 i)
theorem SvOk.grant (h:SvOk b S) (node:Nat) (id:Int) (l:Lk):SvOk {b with out:=b.out+1,gr:=b.gr+1} (S.grant node id l):=by
 have h1:SvOk {b with gr:=b.gr+1} S:=h.mono ⟨Nat.le_refl _,Nat.le_refl _,Nat.le_refl _,Nat.le_succ _,Nat.le_refl _,Nat.le_refl _,Nat.le_refl _⟩
 exact (h1.peer node (p := {S.peers node with grants:=(S.peers node).grants+1}) (by have:=h.gr node;show 0≤_+1∧_+1≤((b.gr+1:Nat):Int);omega) (h.by_ node)).tell node _
theorem ask_wf {T:Tb} (h:TbWf T) (hl:T.last<1000000000) (node:Int) (l:Lk):TbWf (T.ask node l).2∧(T.ask node l).2.nodes=T.nodes∧(T.ask node l).2.last≤T.last+1∧(T.ask node l).2.waits.length≤T.waits.length+1:=by
 have h0:=h.last
 unfold Tb.ask
 split
 ·exact ⟨h,rfl,by show T.last≤_;omega,Nat.le_succ _⟩
 ·rename_i hr
  obtain ⟨hr1,hr2⟩:=Classical.not_not.1 hr
  obtain ⟨h2,h3,_⟩:=rightB_iff.1 hr2
  split
  ·exact ⟨h,rfl,by show T.last≤_;omega,Nat.le_succ _⟩
  ·split
   ·exact ⟨h.raise h2 h3,rfl,by show T.last≤_;omega,Nat.le_succ _⟩
   ·split
    ·exact ⟨h,rfl,by show T.last≤_;omega,Nat.le_succ _⟩
    ·split
     ·exact ⟨h,rfl,by show T.last≤_;omega,Nat.le_succ _⟩
     ·rename_i hm
      refine ⟨⟨h.nodes,h.held,fun x hx => ?_,?_,?_⟩,rfl,Int.le_refl _,?_⟩
      ·rcases List.mem_append.1 hx with hx | hx
       ·exact h.waits x hx
       ·rw [List.mem_singleton.1 hx]
        exact ⟨hr2,hr1⟩
      ·show (T.waits ++ [_]).length≤1000
       simp
       omega
      ·show 0≤T.last+1∧T.last+1≤1000000000
       omega
      ·show (T.waits ++ [_]).length≤_
       simp
theorem SvOk.onT0 (h:SvOk b S) {T:Tb} {n t:Nat} (h1:TbWf T) (h2:T.nodes=S.T.nodes) (h3:T.last≤t) (h4:S.granted.length+T.waits.length≤n):SvOk {b with gw:=n,tl:=t} {S with T:=T}:=by
 have:=h.onT (G := []) h1 h2 h3 (by simpa using h4) (fun w hw=>by cases hw)
 rwa [List.append_nil] at this
theorem SvOk.acquire (h:SvOk b S) (hl:b.tl<1000000000) (node:Nat) (m:Mg):SvOk {b with out:=b.out+1,gr:=b.gr+1,gw:=b.gw+1,tl:=b.tl+1} (S.acquire node m):=by
 have hd:∀T':Tb,TbWf T'→T'.nodes=S.T.nodes→T'.last≤((b.tl+1:Nat):Int)→S.granted.length+T'.waits.length≤b.gw+1→∀id e,SvOk {b with out:=b.out+1,gr:=b.gr+1,gw:=b.gw+1,tl:=b.tl+1} ({S with T:=T'}.deny node id e):=fun T' a1 a2 a3 a4 id e =>
  ((h.onT0 a1 a2 a3 a4).tell node _).mono ⟨Nat.le_refl _,Nat.le_refl _,Nat.le_refl _,Nat.le_succ _,Nat.le_refl _,Nat.le_refl _,Nat.le_refl _⟩
 have htl:=h.tl
 have hgw:=h.gw
 unfold Sv.acquire
 split
 ·rename_i l hml
  obtain ⟨a1,a2,a3,a4⟩:=ask_wf h.wf (by omega) node l
  have a3':(S.T.ask node l).2.last≤((b.tl+1:Nat):Int):=by omega
  have a4':S.granted.length+(S.T.ask node l).2.waits.length≤b.gw+1:=by omega
  split
  ·exact (h.onT0 a1 a2 a3' a4').grant node m.id l
  ·split
   ·exact ((h.onT0 a1 a2 a3' a4').onI _).mono ⟨Nat.le_succ _,Nat.le_refl _,Nat.le_refl _,Nat.le_succ _,Nat.le_refl _,Nat.le_refl _,Nat.le_refl _⟩
   ·exact hd _ a1 a2 a3' a4' _ _
 ·exact hd S.T h.wf rfl (by omega) (by omega) _ _
theorem SvOk.serves (hl:b.tl≤900000000):∀(ks:List Rq) (S:Sv) (n:Nat),n+ks.length≤100000→SvOk {b with out:=b.out+n,gr:=b.gr+n,gw:=b.gw+n,tl:=b.tl+n} S→SvOk {b with out:=b.out+(n+ks.length),gr:=b.gr+(n+ks.length),gw:=b.gw+(n+ks.length),tl:=b.tl+(n+ks.length)} (ks.foldl (fun S r=>S.acquire r.node.toNat r.m) S)
 | [],_,_,_,h=>h
 | r :: ks,S,n,hn,h=>by
   rw [List.length_cons] at hn ⊢
   have h1:=h.acquire (by show b.tl+n<1000000000;omega) r.node.toNat r.m
   have:=SvOk.serves hl ks _ (n+1) (by omega) h1
   rw [show n+(ks.length+1)=n+1+ks.length by omega]
   exact this
theorem SvOk.serve (h:SvOk b S) (hl:b.tl≤900000000) (hk:b.kept≤100000):SvOk {b with out:=b.out+b.kept,gr:=b.gr+b.kept,gw:=b.gw+b.kept,tl:=b.tl+b.kept} S.serve:=by
 have hkl:=h.kept
 unfold Sv.serve
 split
 ·have h1:SvOk {b with kept:=b.kept} {S with kept := []}:=h.onK (n:=b.kept) (by show 0≤_;omega) (fun r hr=>by cases hr)
  have:=SvOk.serves hl S.kept {S with kept := []} 0 (by omega) h1
  refine this.mono ⟨?_,Nat.le_refl _,?_,?_,Nat.le_refl _,Nat.le_refl _,?_⟩
  ·show b.out+(0+S.kept.length)≤b.out+b.kept
   omega
  ·show b.gw+(0+S.kept.length)≤b.gw+b.kept
   omega
  ·show b.gr+(0+S.kept.length)≤b.gr+b.kept
   omega
  ·show b.tl+(0+S.kept.length)≤b.tl+b.kept
   omega
 ·exact h.mono ⟨Nat.le_add_right _ _,Nat.le_refl _,Nat.le_add_right _ _,Nat.le_add_right _ _,Nat.le_refl _,Nat.le_refl _,Nat.le_add_right _ _⟩
theorem SvOk.gives : ∀(ws:List Wq) (S:Sv) (n:Nat),SvOk {b with out:=b.out+n,gr:=b.gr+n} S→SvOk {b with out:=b.out+(n+ws.length),gr:=b.gr+(n+ws.length)} (ws.foldl Sv.give1 S)
 | [],_,_,h=>h
 | w :: ws,S,n,h=>by
   rw [List.length_cons]
   have h1:=(h.grant w.node.toNat ((S.ids w.id).getD 0) w.l).onI (del S.ids w.id)
   have:=SvOk.gives ws _ (n+1) h1
   rw [show n+(ws.length+1)=n+1+ws.length by omega]
   exact this
theorem SvOk.give (h:SvOk b S):SvOk {b with out:=b.out+b.gw,gr:=b.gr+b.gw} S.give:=by
 have hg:=h.gw
 have:=SvOk.gives (b:=b) S.granted S 0 h
 refine this.mono ⟨?_,Nat.le_refl _,Nat.le_refl _,?_,Nat.le_refl _,Nat.le_refl _,Nat.le_refl _⟩
 ·show b.out+(0+S.granted.length)≤b.out+b.gw
  omega
 ·show b.gr+(0+S.granted.length)≤b.gr+b.gw
  omega
theorem SvOk.revoke1 (h:SvOk b S) (r:Int×Lk):SvOk {b with out:=b.out+1} (S.revoke1 r):=by
 unfold Sv.revoke1
 split
 ·exact h.mono ⟨Nat.le_succ _,Nat.le_refl _,Nat.le_refl _,Nat.le_refl _,Nat.le_refl _,Nat.le_refl _,Nat.le_refl _⟩
 ·exact (h.peer r.1.toNat (p := {S.peers r.1.toNat with told:=r.2 :: (S.peers r.1.toNat).told}) (h.gr r.1.toNat) (h.by_ r.1.toNat)).tell _ _
theorem SvOk.revokes : ∀(rs:List (Int×Lk)) (S:Sv) (n:Nat),SvOk {b with out:=b.out+n} S→SvOk {b with out:=b.out+(n+rs.length)} (rs.foldl Sv.revoke1 S)
 | [],_,_,h=>h
 | r :: rs,S,n,h=>by
   rw [List.length_cons]
   have:=SvOk.revokes rs _ (n+1) (h.revoke1 r)
   rw [show n+(rs.length+1)=n+1+rs.length by omega]
   exact this
theorem revokes_len {T:Tb} (h:TbWf T):T.revokes.length≤65536000:=by
 have h1:=(RvWf.waits h T.waits 0 _ RvWf.start).len
 have h2:=h.many
 unfold Tb.revokes
 omega
theorem SvOk.revoke (h:SvOk b S):SvOk {b with out:=b.out+65536000} S.revoke:=by
 have hl:=revokes_len h.wf
 have:=SvOk.revokes (b:=b) S.T.revokes S 0 h
 refine this.mono ⟨?_,Nat.le_refl _,Nat.le_refl _,Nat.le_refl _,Nat.le_refl _,Nat.le_refl _,Nat.le_refl _⟩
 show b.out+(0+S.T.revokes.length)≤b.out+65536000
 omega
theorem SvOk.end_ (h:SvOk b S) (hl:b.tl≤900000000) (hk:b.kept≤100000):SvOk {b with out:=0,gw:=1000,gr:=b.gr+b.gw+2*b.kept,st:=b.st+3,last:=b.last+3,tl:=b.tl+b.kept} S.end_.2:=by
 have h1:=(((h.back.lost.serve hl hk).give).revoke)
 unfold Sv.end_
 generalize S.back.lost.serve.give.revoke=R at h1 ⊢
 have hm:=h1.wf.many
 show SvOk _ {R with out := [],granted := []}
 refine ⟨h1.shp,h1.wf,h1.nodes,h1.tl,h1.lok,h1.small,h1.now,Nat.zero_le _,h1.kept,h1.rq,?_,fun w hw=>by (cases hw),fun i=>⟨(h1.gr i).1,?_⟩,h1.by_,h1.st,h1.last,h1.calm,h1.empty,h1.up⟩
 ·show 0+R.T.waits.length≤1000
  omega
 ·have:=(h1.gr i).2
  refine Int.le_trans this ?_
  show ((b.gr+b.kept+(b.gw+b.kept):Nat):Int)≤((b.gr+b.gw+2*b.kept:Nat):Int)
  omega
end
structure Dv (D:Dk) (t wd:Nat→Nat) (l:Nat):Prop where
 calm:Calm D 1000
 empty:Empty D
 tab:D.table=t
 word:D.words=wd
 last:D.last=l
def set1 (f:Nat→Nat) (k v:Nat):Nat→Nat:=fun j=>if j=k then v else f j
section
variable {D:Dk} {t wd:Nat→Nat} {l:Nat}
theorem Dv.put (h:Dv D t wd l) {k:Nat} (hk:k≤16) (v:Nat):(D.put k v).1=0∧Dv (D.put k v).2 t (set1 wd k v) l:=by
 obtain ⟨e1,c1⟩:=h.calm.put hk v
 refine ⟨by rw [e1],c1,h.empty.now (by rw [e1]),by rw [e1];exact h.tab,?_,by rw [e1];exact h.last⟩
 rw [e1]
 show (fun j=>if j=k then v else D.words j)=_
 rw [h.word]
 rfl
theorem Dv.admit (h:Dv D t wd l) {k:Nat} (hk:k≤16) {v:Nat} (hv:l<v):(D.admit k v).1=0∧Dv (D.admit k v).2 (set1 t k v) wd v:=by
 obtain ⟨e1,c1⟩:=h.calm.admit hk (e:=v) (by rw [h.last];exact hv)
 refine ⟨by rw [e1],c1,h.empty.now (by rw [e1]),?_,by rw [e1];exact h.word,by rw [e1]⟩
 rw [e1]
 show (fun j=>if j=k then v else D.table j)=_
 rw [h.tab]
 rfl
theorem Dv.fence (h:Dv D t wd l) {k:Nat} (hk:k≤16):(D.fence k).1=0∧Dv (D.fence k).2 (set1 t k 0) wd l:=by
 obtain ⟨e1,c1⟩:=h.calm.fence hk
 obtain ⟨a1,a2,a3,a4,a5,a6,a7⟩:=settle_same D k
 refine ⟨by rw [e1],c1,h.empty.now (by rw [e1];exact a6),?_,?_,by rw [e1];exact a4.trans h.last⟩
 ·rw [e1]
  show (fun j=>if j=k then 0 else D.table j)=_
  rw [h.tab]
  rfl
 ·rw [e1]
  exact a5.trans h.word
end
section
variable {S:Sv}
theorem back_id (h:∀i,i<17→¬((S.peers i).state=4∧(S.peers (S.peers i).by_.toNat).state≠1)):S.back=S:=by
 have:∀(ls:List Nat),(∀i∈ls,i<17)→ls.foldl Sv.back1 S=S:=by
  intro ls
  induction ls with
  | nil=>intro _;rfl
  | cons i ls ih =>
    intro hl
    rw [List.foldl_cons,show S.back1 i=S from if_neg (h i (hl i (List.mem_cons_self ..)))]
    exact ih (fun j hj=>hl j (List.mem_cons_of_mem _ hj))
 exact this _ (fun i hi=>List.mem_range.1 hi)
theorem lost_id (h:∀i,1≤i→i≤S.n→(S.peers i).state≠3):S.lost=S:=by
 have:∀(ls:List Nat),(∀i∈ls,i<S.n)→ls.foldl (fun S i=>S.lost1 (i+1)) S=S:=by
  intro ls
  induction ls with
  | nil=>intro _;rfl
  | cons i ls ih =>
    intro hl
    have h1:=hl i (List.mem_cons_self ..)
    have:S.lost1 (i+1)=S:=by
     unfold Sv.lost1
     split
     ·rfl
     ·rw [if_pos (h (i+1) (by omega) (by omega))]
    rw [List.foldl_cons,this]
    exact ih (fun j hj=>hl j (List.mem_cons_of_mem _ hj))
 exact this _ (fun i hi=>List.mem_range.1 hi)
theorem serve_id (h:S.kept = []):S.serve=S:=by
 unfold Sv.serve
 split
 ·rw [h]
  show {S with kept := []}=S
  rw [←h]
 ·rfl
theorem give_id (h:S.granted = []):S.give=S:=by
 unfold Sv.give
 rw [h]
 rfl
theorem give_one {w:Wq} (h:S.granted = [w]):S.give=S.give1 w:=by
 unfold Sv.give
 rw [h]
 rfl
theorem revoke_id (h:S.T.revokes = []):S.revoke=S:=by
 unfold Sv.revoke
 rw [h]
 rfl
theorem revoke_one {r:Int×Lk} (h:S.T.revokes = [r]):S.revoke=S.revoke1 r:=by
 unfold Sv.revoke
 rw [h]
 rfl
theorem waits_revokes {T:Tb} (h:T.waits = []):T.revokes = []:=by
 unfold Tb.revokes
 rw [h]
 rfl
end
section
variable {S:Sv} {t wd:Nat→Nat} {l k:Nat}
theorem take_eq {m:Mg} (hd:S.down=false) (hk:1≤k∧k≤S.n) (hm:m.ok) (hu:upB m.kind=true) (hg:m.kind=1∨m.gen=S.gen):S.take (k:Nat) m=(S.takes k m).end_:=by
 unfold Sv.take
 rw [if_neg]
 ·rw [Int.toNat_natCast]
 ·rw [hd,hu]
  have hi:S.is (k:Nat):=by unfold Sv.is;omega
  simp [hi,hm]
  intro h1
  exact hg.resolve_left h1
theorem join_dv (h:Dv S.D t wd l) (hk:k≤16) (life:Int):∃D',Dv D' (set1 t k (l+1)) (set1 wd k (l+1)) (l+1)∧S.join k life = {S with D:=D'}.joined k life (l+1):=by
 obtain ⟨e1,h1⟩:=h.put hk (l+1)
 obtain ⟨e2,h2⟩:=h1.admit hk (v:=l+1) (by omega)
 refine ⟨_,h2,?_⟩
 unfold Sv.join
 rw [h.last,if_pos e1,if_pos e2]
theorem forget_id (hk:S.kept = []) (hw:∀w∈S.T.waits,w.node≠(k:Int)):S.forget (k:Nat)=S:=by
 unfold Sv.forget
 rw [hk]
 show S.T.waits.foldl (forget1 k) {S with kept := []}=S
 have hS:({S with kept := []}:Sv)=S:=by rw [←hk]
 rw [hS]
 have:∀(ls:List Wq),(∀w∈ls,w.node≠(k:Int))→ls.foldl (forget1 k) S=S:=by
  intro ls
  induction ls with
  | nil=>intro _;rfl
  | cons w ls ih =>
    intro hl
    rw [List.foldl_cons,show forget1 k S w=S from if_neg (hl w (List.mem_cons_self ..))]
    exact ih (fun j hj=>hl j (List.mem_cons_of_mem _ hj))
 exact this _ hw
theorem lose_dv (h:Dv S.D t wd l) (hk:k≤16):∃D',Dv D' (set1 t k 0) wd l∧S.lose k = {S.peer k (S.peers k).lost with D:=D',L:=(S.L.drop k).2}.forget k:=by
 obtain ⟨e1,h1⟩:=h.fence hk
 refine ⟨_,h1,?_⟩
 unfold Sv.lose
 rw [e1]
 rfl
theorem leave_dv (h:Dv S.D t wd l) (hk:k≤16):∃D',Dv D' t (set1 wd k 0) l∧S.leave k=if (S.peers k).hello = -1 then ({S with D:=D',L:=(S.L.drop k).2}.forget k).gone k else (({S with D:=D',L:=(S.L.drop k).2}.forget k).gone k).join k (S.peers k).hello:=by
 obtain ⟨e1,h1⟩:=h.put hk 0
 refine ⟨_,h1,?_⟩
 unfold Sv.leave
 rw [if_pos e1]
end
end Go.Proofs.YtohgabdmmbngbaaGreatDoor
