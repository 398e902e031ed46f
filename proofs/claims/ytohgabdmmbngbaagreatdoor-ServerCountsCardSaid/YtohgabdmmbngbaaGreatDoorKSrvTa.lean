import Derived.Test.YtohgabdmmbngbaaGreatDoorKSrvTk
set_option linter.unusedVariables false
set_option linter.unusedSimpArgs false
namespace Go.Proofs.YtohgabdmmbngbaaGreatDoor
open Go.RowKit
theorem upv_any (k:Int) (w:World):Calls Tryz.prog 41 #[.int .i64 k] w fun e w'=>e = .returned (.bool (upB k))∧w=w':=by
 by_cases h:k=1∨k=3∨k=5∨k=9∨k=11∨k=13∨k=14∨k=15
 ·rcases h with rfl | rfl | rfl | rfl | rfl | rfl | rfl | rfl
  all_goals
   go_enter Tryz.func41,Tryz.ntmps41
   go_wp2
   go_ret
   exact ⟨rfl,rfl⟩
 ·have e:upB k=false:=decide_eq_false h
  rw [e]
  have h1:(k == 1)=false:=beq_eq_false_iff_ne.2 (by omega)
  have h2:(k == 3)=false:=beq_eq_false_iff_ne.2 (by omega)
  have h3:(k == 5)=false:=beq_eq_false_iff_ne.2 (by omega)
  have h4:(k == 9)=false:=beq_eq_false_iff_ne.2 (by omega)
  have h5:(k == 11)=false:=beq_eq_false_iff_ne.2 (by omega)
  have h6:(k == 13)=false:=beq_eq_false_iff_ne.2 (by omega)
  have h7:(k == 14)=false:=beq_eq_false_iff_ne.2 (by omega)
  have h8:(k == 15)=false:=beq_eq_false_iff_ne.2 (by omega)
  clear h e
  go_enter Tryz.func41,Tryz.ntmps41
  go_wp2
  go_ret
  exact ⟨rfl,rfl⟩
section
variable {o o':Nat→Nat} {c n:Nat} {C:Nat→Prop} {w w':World} {s:Nat} {S:Sv} {P:SvP} {v:Value} {b:Bnd} {L:List Lk} {k:Nat} {m:Mg} {lv:Value}
structure EndOk (S:Sv):Prop where
 by_:∀i,SvBy (S.backN i)
 lo:∀i,i<S.back.n→LoOk (S.back.lostN i) (i+1)
 ed:SvEd S.back.lost
theorem SvOk.ends (ok:SvOk b S) (hb:b.small):EndOk S:=by
 have hbo:=hb.out
 have hbk:=hb.kept
 have hbg:=hb.gw
 have hbr:=hb.gr
 have hbs:=hb.st
 have hbl:=hb.last
 have hbt:=hb.tl
 have h2:=ok.back
 have h3:=h2.lost
 have h4:=h3.serve (by show b.tl≤_;omega) (by show b.kept≤_;omega)
 have h5:=h4.give
 have h6:=h5.revoke
 refine ⟨fun i j => ?_,fun i hi => ?_,h3.rq,by have:=h3.kept;change _≤b.kept at this;omega,fun i rows hr => ?_,?_,h4.wq,fun i G hG => ?_,⟨h5.wf,h5.nodes,?_,h6.up⟩⟩
 ·have:=(ok.backN i).by_ j
  exact ⟨((S.backN i).peers j).by_.toNat,by omega,by omega⟩
 ·rw [h2.n] at hi
  exact (h2.losts i (by omega)).lo ⟨by show b.out+i≤_;omega,by show b.kept≤_;omega,by show b.gw≤_;omega,by show b.st+i≤_;omega,by show b.last+i≤_;omega⟩ (by omega)
 ·have hk:=h3.kept
  change _≤b.kept at hk
  have hlen:((rows.take i).map RqV.r).length≤b.kept:=by
   have h1:(rows.map RqV.r).length≤b.kept:=by rw [hr];exact hk
   rw [List.length_map] at h1 ⊢
   rw [List.length_take]
   omega
  have h7:=SvOk.serves (b := {b with out:=b.out+3,st:=b.st+3,last:=b.last+3,kept:=0}) (by show b.tl≤_;omega) ((rows.take i).map RqV.r) {S.back.lost with kept := []} 0 (by omega) (h3.onK (n:=0) (Nat.le_refl _) (fun r hr=>by cases hr))
  refine ⟨Nat.le_trans h7.out ?_,h7.wf,fun j => ?_⟩
  ·show b.out+3+(0+_)≤_
   omega
  ·have:=h7.gr j
   change _∧_≤((b.gr+(0+((rows.take i).map RqV.r).length):Nat):Int) at this
   exact ⟨this.1,Int.le_trans this.2 (by omega)⟩
 ·have:=h4.gw
  change _≤b.gw+b.kept at this
  omega
 ·have hgl:=h4.gw
  change _≤b.gw+b.kept at hgl
  have h7:=SvOk.gives (b := {b with out:=b.out+3+b.kept,gr:=b.gr+b.kept,gw:=b.gw+b.kept,tl:=b.tl+b.kept,st:=b.st+3,last:=b.last+3}) (G.take i) S.back.lost.serve 0 h4
  have hl:(G.take i).length≤b.gw+b.kept:=by
   rw [List.length_take,hG]
   omega
  refine ⟨Nat.le_trans h7.out ?_,fun j => ?_⟩
  ·show b.out+3+b.kept+(0+_)≤_
   omega
  ·have:=h7.gr j
   change _∧_≤((b.gr+b.kept+(0+(G.take i).length):Nat):Int) at this
   exact ⟨this.1,Int.le_trans this.2 (by omega)⟩
 ·have h8:=revokes_len h5.wf
  have h9:=h5.out
  change _≤b.out+3+b.kept+(b.gw+b.kept) at h9
  omega
theorem put_last {D:Dk} {n:Nat} (h:Calm D n) (j:Nat):(D.put (j:Nat) 0).2.last=D.last:=by
 by_cases hj:j≤16
 ·rw [(h.put hj 0).1]
 ·unfold Dk.put
  rw [if_pos]
  unfold Dk.may
  rw [if_neg (by rw [h.on];decide),if_pos (by omega)]
  decide
theorem vend_any (h:SvAt o c w s S) (hf:Fut o w) (hc1:1≤c) (he:EndOk S) :
 Calls Tryz.prog 46 #[.pointer (some ⟨s,0,none⟩)] w fun e w'=>∃v,e = .returned v∧∃o',SvAt o' c w' s S.end_.2∧OutsAt o' (c+1) w' v S.end_.1∧Step o (svC c) w o' w':=vend_gen h hf hc1 he.by_ he.lo he.ed
set_option maxRecDepth 100000 in
set_option maxHeartbeats 64000000 in
theorem vTake_in (h:SvAt o c w s S) (hf:Fut o w) (hc1:1≤c) (ok:SvOk b S) (hb:b.small) (hend:EndOk (S.takes k m)) (hk:1≤k∧k≤S.n) (hl:RowL o w lv m.locks.length (lkcells m.locks)) (hm:m.ok) (hu:upB m.kind=true) (hg:m.kind=1∨m.gen=S.gen)
 (htb:m.kind=15→∀ {o1:Nat→Nat} {w1:World},SvAt o1 c w1 s S→Fut o1 w1→Calls Tryz.prog 98 #[.pointer (some ⟨s,0,none⟩), .int .i64 (k:Nat), .int .i64 m.id] w1 fun e w'=>e = .returned (.tuple #[])∧∃o',SvAt o' c w' s (S.takeBack k m.id)∧Step o1 (svC c) w1 o' w') :
 Calls Tryz.prog 16 #[.pointer (some ⟨s,0,none⟩), .int .i64 (k:Nat), .agg #[.int .i64 m.kind, .int .i64 m.id, .int .i64 m.node, .int .i64 m.gen, .int .i64 m.stamp, .int .u64 m.epoch, .int .i64 m.err,lv]] w fun e w'=>∃v,e = .returned v∧∃o',SvAt o' c w' s (S.takes k m).end_.2∧OutsAt o' (c+1) w' v (S.takes k m).end_.1∧Step o (svC c) w o' w':=by
 obtain ⟨P,h⟩:=h
 obtain ⟨hk1,hkn⟩:=hk
 have hnn:=h.rest.nn
 have hk16:k≤16:=by omega
 have hk17:(k:Int)<17:=by omega
 have HC:=Lib.hid hc1
 have HOK:=Lib.hid ok
 have HBS:=Lib.hid hb
 have HM:=Lib.hid hm
 have HKN:=Lib.hid hkn
 have HTB:=Lib.hid htb
 obtain ⟨R,hR⟩:∃R,S.takes k m=R:=⟨_,rfl⟩
 have HRD:=Lib.hid hR
 unfold Sv.takes at HRD
 rw [hR] at hend ⊢
 clear hR
 have HEN:=Lib.hid hend
 have HG:=Lib.hid hg
 obtain ⟨D,cap,rfl,_,hcm⟩:=hl.form
 have HVw:=Lib.hid h
 have HV0:=Lib.hid (h.alloc (.cells #[.int .i64 m.kind, .int .i64 m.id, .int .i64 m.node, .int .i64 m.gen, .int .i64 m.stamp, .int .u64 m.epoch, .int .i64 m.err, .slice D m.locks.length cap] 38))
 have HK0:=Lib.hid (Keep.new hf 38 #[.int .i64 m.kind, .int .i64 m.id, .int .i64 m.node, .int .i64 m.gen, .int .i64 m.stamp, .int .u64 m.epoch, .int .i64 m.err, .slice D m.locks.length cap])
 have HL0:=Lib.hid (hl.alloc (.cells #[.int .i64 m.kind, .int .i64 m.id, .int .i64 m.node, .int .i64 m.gen, .int .i64 m.stamp, .int .u64 m.epoch, .int .i64 m.err, .slice D m.locks.length cap] 38))
 have HF0:=Lib.hid (hf.alloc (.cells #[.int .i64 m.kind, .int .i64 m.id, .int .i64 m.node, .int .i64 m.gen, .int .i64 m.stamp, .int .u64 m.epoch, .int .i64 m.err, .slice D m.locks.length cap] 38))
 have HS0:=Lib.hid ((Step.refl o (svC c) w).alloc (.cells #[.int .i64 m.kind, .int .i64 m.id, .int .i64 m.node, .int .i64 m.gen, .int .i64 m.stamp, .int .u64 m.epoch, .int .i64 m.err, .slice D m.locks.length cap] 38))
 have HUP:=Lib.hid (show Calls Tryz.prog 30 #[.pointer (some ⟨s,0,none⟩)] (w.alloc (.cells #[.int .i64 m.kind, .int .i64 m.id, .int .i64 m.node, .int .i64 m.gen, .int .i64 m.stamp, .int .u64 m.epoch, .int .i64 m.err, .slice D m.locks.length cap] 38)).drew (fun e w'=>e = .returned (.bool true)∧w'=(w.alloc (.cells #[.int .i64 m.kind, .int .i64 m.id, .int .i64 m.node, .int .i64 m.gen, .int .i64 m.stamp, .int .u64 m.epoch, .int .i64 m.err, .slice D m.locks.length cap] 38)).drew) by
  have:=vUp_any (h.alloc (.cells #[.int .i64 m.kind, .int .i64 m.id, .int .i64 m.node, .int .i64 m.gen, .int .i64 m.stamp, .int .u64 m.epoch, .int .i64 m.err, .slice D m.locks.length cap] 38)).drew
  rwa [ok.up] at this)
 have HIS:=Lib.hid (show Calls Tryz.prog 39 #[.pointer (some ⟨s,0,none⟩), .int .i64 (k:Nat)] (w.alloc (.cells #[.int .i64 m.kind, .int .i64 m.id, .int .i64 m.node, .int .i64 m.gen, .int .i64 m.stamp, .int .u64 m.epoch, .int .i64 m.err, .slice D m.locks.length cap] 38)).drew (fun e w'=>e = .returned (.bool true)∧w'=(w.alloc (.cells #[.int .i64 m.kind, .int .i64 m.id, .int .i64 m.node, .int .i64 m.gen, .int .i64 m.stamp, .int .u64 m.epoch, .int .i64 m.err, .slice D m.locks.length cap] 38)).drew) by
  have:=vis_any (h.alloc (.cells #[.int .i64 m.kind, .int .i64 m.id, .int .i64 m.node, .int .i64 m.gen, .int .i64 m.stamp, .int .u64 m.epoch, .int .i64 m.err, .slice D m.locks.length cap] 38)).drew (k:Nat)
  rwa [decide_eq_true (show S.is (k:Nat) by unfold Sv.is;omega)] at this)
 have HVA:=Lib.hid (show Calls Tryz.prog 40 #[.agg #[.int .i64 m.kind, .int .i64 m.id, .int .i64 m.node, .int .i64 m.gen, .int .i64 m.stamp, .int .u64 m.epoch, .int .i64 m.err, .slice D m.locks.length cap]] (w.alloc (.cells #[.int .i64 m.kind, .int .i64 m.id, .int .i64 m.node, .int .i64 m.gen, .int .i64 m.stamp, .int .u64 m.epoch, .int .i64 m.err, .slice D m.locks.length cap] 38)).drew (fun e w'=>e = .returned (.bool true)∧Below (w.alloc (.cells #[.int .i64 m.kind, .int .i64 m.id, .int .i64 m.node, .int .i64 m.gen, .int .i64 m.stamp, .int .u64 m.epoch, .int .i64 m.err, .slice D m.locks.length cap] 38)).drew.heap.size (w.alloc (.cells #[.int .i64 m.kind, .int .i64 m.id, .int .i64 m.node, .int .i64 m.gen, .int .i64 m.stamp, .int .u64 m.epoch, .int .i64 m.err, .slice D m.locks.length cap] 38)).drew w') by
  have:=valid_any m (w.alloc (.cells #[.int .i64 m.kind, .int .i64 m.id, .int .i64 m.node, .int .i64 m.gen, .int .i64 m.stamp, .int .u64 m.epoch, .int .i64 m.err, .slice D m.locks.length cap] 38)).drew D cap (hl.alloc (.cells #[.int .i64 m.kind, .int .i64 m.id, .int .i64 m.node, .int .i64 m.gen, .int .i64 m.stamp, .int .u64 m.epoch, .int .i64 m.err, .slice D m.locks.length cap] 38)).drew.reads (by unfold maxLen;have:=hm.locks;omega)
  rwa [decide_eq_true hm] at this)
 have HUU:=Lib.hid (show ∀w,Calls Tryz.prog 41 #[.int .i64 m.kind] w (fun e w'=>e = .returned (.bool true)∧w=w') from fun w=>by
  have:=upv_any m.kind w
  rwa [hu] at this)
 clear h hf hc1 ok hb hl hm hu hg hkn htb hend hcm
 go_enter Tryz.func16,Tryz.ntmps16
 go_upto_region 1 with (fail)
 generalize w.alloc (.cells #[.int .i64 m.kind, .int .i64 m.id, .int .i64 m.node, .int .i64 m.gen, .int .i64 m.stamp, .int .u64 m.epoch, .int .i64 m.err, .slice D m.locks.length cap] 38)=W0 at HV0 HK0 HL0 HF0 HS0 HUP HIS HVA ⊢
 obtain ⟨gm,hgm⟩:∃gm,w.heap.size=gm:=⟨_,rfl⟩
 rw [hgm] at HK0 ⊢
 clear hgm
 obtain ⟨q0,q1,q2,q3,q4,q5,q6,q7⟩:=Blk.eight HK0.out.drew.1
 have q8:W0.drew.cell? ⟨s,6,none⟩=some (.int .i64 S.gen):=HV0.out.drew.h (k:=6) (by omega) rfl
 go_cut [42] from 9 to 42 (fun t42 wx=>t42 = .bool false∧∃W9,W9=wx∧Below W0.heap.size W0 W9)
 case first =>
  by_cases k1:m.kind=1
  ·have b1:(m.kind != 1)=false:=by simp [k1]
   clear k1 HG
   refine wp_region_held_drew (S:=(fun w'=>w'.cell? ⟨gm,0,none⟩=some (.int .i64 m.kind)∧w'.cell? ⟨gm,1,none⟩=some (.int .i64 m.id)∧w'.cell? ⟨gm,2,none⟩=some (.int .i64 m.node)∧w'.cell? ⟨gm,3,none⟩=some (.int .i64 m.gen)∧w'.cell? ⟨gm,4,none⟩=some (.int .i64 m.stamp)∧w'.cell? ⟨gm,5,none⟩=some (.int .u64 m.epoch)∧w'.cell? ⟨gm,6,none⟩=some (.int .i64 m.err)∧w'.cell? ⟨gm,7,none⟩=some (.slice D m.locks.length cap)∧w'.cell? ⟨s,6,none⟩=some (.int .i64 S.gen))) (by kernel_rfl) ⟨q0,q1,q2,q3,q4,q5,q6,q7,q8⟩ (fun hHeld => ?_)
   refine wpAnyH_take (i:=0) (oi := {dst:=some 9,op:=Go.Op.move (Go.Operand.tmp 0),type:=28,pos := "take.go:14",after:=#[],guard:=none}) (v := ?_) rfl (by kernel_rfl) (by kernel_rfl) (by kernel_rfl) (fun _ _ _ h=>h) (Or.inl ⟨by rfl,?_⟩) (by assumption) ?_
   rotate_left
   ·(intro w hSw;(try dsimp only at hSw);go_simp;first | done | with_reducible rfl)
   try simp only [Act.put,List.setIfInBounds_toArray,List.set_cons_zero,List.set_cons_succ]
   refine wpAnyH_ready (rs := [1]) (by kernel_rfl) (by simp) ?_
   refine AllReadyH.cons (o := {dst:=some 10,op:=Go.Op.call {callee:=Go.Callee.value (Go.Operand.func 30),args:=#[Go.Operand.tmp 9],argTypes:=#[28]},type:=4,pos := "take.go:14",after:=#[{on:=0,ground:=Go.Ground.data}],guard:=none}) rfl (fun K hK => ?_) AllReadyH.nil
   go_simp
   refine HUP.out.mono ?_
   rintro e w1 ⟨rfl,rfl⟩
   go_wp2_with fail
   refine hK.out _ _ ⟨q0,q1,q2,q3,q4,q5,q6,q7,q8⟩ (fun hHeld2 => ?_)
   clear hK K hHeld
   have hHeld:=hHeld2
   clear hHeld2
   try simp only [Act.put,List.setIfInBounds_toArray,List.set_cons_zero,List.set_cons_succ]
   refine wpAnyH_take (i:=2) (oi := {dst:=some 11,op:=Go.Op.unOp Go.UnOp.not 4 (Go.Operand.tmp 10),type:=4,pos := "take.go:14",after:=#[{on:=1,ground:=Go.Ground.data}],guard:=none}) (v := ?_) rfl (by kernel_rfl) (by kernel_rfl) (by kernel_rfl) (fun _ _ _ h=>h) (Or.inl ⟨by rfl,?_⟩) (by assumption) ?_
   rotate_left
   ·(intro w hSw;(try dsimp only at hSw);go_simp;first | done | with_reducible rfl)
   try simp only [Act.put,List.setIfInBounds_toArray,List.set_cons_zero,List.set_cons_succ]
   refine wpAnyH_take (i:=3) (oi := {dst:=some 12,op:=Go.Op.move (Go.Operand.tmp 11),type:=4,pos := "take.go:14",after:=#[{on:=2,ground:=Go.Ground.data},{on:=1,ground:=Go.Ground.chain}],guard:=none}) (v := ?_) rfl (by kernel_rfl) (by kernel_rfl) (by kernel_rfl) (fun _ _ _ h=>h) (Or.inl ⟨by rfl,?_⟩) (by assumption) ?_
   rotate_left
   ·(intro w hSw;(try dsimp only at hSw);go_simp;first | done | with_reducible rfl)
   try simp only [Act.put,List.setIfInBounds_toArray,List.set_cons_zero,List.set_cons_succ]
   refine wpAnyH_take (i:=4) (oi := {dst:=some 13,op:=Go.Op.move (Go.Operand.tmp 0),type:=28,pos := "take.go:14",after:=#[{on:=3,ground:=Go.Ground.guard}],guard:=some (3,false)}) (v := ?_) rfl (by kernel_rfl) (by kernel_rfl) (by kernel_rfl) (fun _ _ _ h=>h) (Or.inl ⟨by rfl,?_⟩) (by assumption) ?_
   rotate_left
   ·(intro w hSw;(try dsimp only at hSw);go_simp;first | done | with_reducible rfl)
   try simp only [Act.put,List.setIfInBounds_toArray,List.set_cons_zero,List.set_cons_succ]
   refine wpAnyH_take (i:=5) (oi := {dst:=some 14,op:=Go.Op.move (Go.Operand.tmp 1),type:=3,pos := "take.go:14",after:=#[{on:=3,ground:=Go.Ground.guard}],guard:=some (3,false)}) (v := ?_) rfl (by kernel_rfl) (by kernel_rfl) (by kernel_rfl) (fun _ _ _ h=>h) (Or.inl ⟨by rfl,?_⟩) (by assumption) ?_
   rotate_left
   ·(intro w hSw;(try dsimp only at hSw);go_simp;first | done | with_reducible rfl)
   try simp only [Act.put,List.setIfInBounds_toArray,List.set_cons_zero,List.set_cons_succ]
   refine wpAnyH_ready (rs := [6]) (by kernel_rfl) (by simp) ?_
   refine AllReadyH.cons (o := {dst:=some 15,op:=Go.Op.call {callee:=Go.Callee.value (Go.Operand.func 39),args:=#[Go.Operand.tmp 13,Go.Operand.tmp 14],argTypes:=#[28,3]},type:=4,pos := "take.go:14",after:=#[{on:=4,ground:=Go.Ground.data},{on:=5,ground:=Go.Ground.data},{on:=3,ground:=Go.Ground.chain},{on:=3,ground:=Go.Ground.guard}],guard:=some (3,false)}) rfl (fun K hK => ?_) AllReadyH.nil
   go_simp
   refine HIS.out.mono ?_
   rintro e w2 ⟨rfl,rfl⟩
   go_wp2_with fail
   refine hK.out _ _ ⟨q0,q1,q2,q3,q4,q5,q6,q7,q8⟩ (fun hHeld2 => ?_)
   clear hK K hHeld
   have hHeld:=hHeld2
   clear hHeld2
   try simp only [Act.put,List.setIfInBounds_toArray,List.set_cons_zero,List.set_cons_succ]
   refine wpAnyH_take (i:=7) (oi := {dst:=some 16,op:=Go.Op.unOp Go.UnOp.not 4 (Go.Operand.tmp 15),type:=4,pos := "take.go:14",after:=#[{on:=6,ground:=Go.Ground.data},{on:=3,ground:=Go.Ground.guard}],guard:=some (3,false)}) (v := ?_) rfl (by kernel_rfl) (by kernel_rfl) (by kernel_rfl) (fun _ _ _ h=>h) (Or.inl ⟨by rfl,?_⟩) (by assumption) ?_
   rotate_left
   ·(intro w hSw;(try dsimp only at hSw);go_simp;first | done | with_reducible rfl)
   try simp only [Act.put,List.setIfInBounds_toArray,List.set_cons_zero,List.set_cons_succ]
   refine wpAnyH_take (i:=8) (oi := {dst:=some 17,op:=Go.Op.pick (Go.Operand.tmp 12) (Go.Operand.const (Go.Value.bool true)) (Go.Operand.tmp 16),type:=4,pos := "take.go:14",after:=#[{on:=3,ground:=Go.Ground.data},{on:=7,ground:=Go.Ground.data}],guard:=none}) (v := ?_) rfl (by kernel_rfl) (by kernel_rfl) (by kernel_rfl) (fun _ _ _ h=>h) (Or.inl ⟨by rfl,?_⟩) (by assumption) ?_
   rotate_left
   ·(intro w hSw;(try dsimp only at hSw);go_simp;first | done | with_reducible rfl)
   try simp only [Act.put,List.setIfInBounds_toArray,List.set_cons_zero,List.set_cons_succ]
   refine wpAnyH_take (i:=9) (oi := {dst:=some 18,op:=Go.Op.move (Go.Operand.tmp 17),type:=4,pos := "take.go:14",after:=#[{on:=8,ground:=Go.Ground.data},{on:=6,ground:=Go.Ground.chain}],guard:=none}) (v := ?_) rfl (by kernel_rfl) (by kernel_rfl) (by kernel_rfl) (fun _ _ _ h=>h) (Or.inl ⟨by rfl,?_⟩) (by assumption) ?_
   rotate_left
   ·(intro w hSw;(try dsimp only at hSw);go_simp;first | done | with_reducible rfl)
   try simp only [Act.put,List.setIfInBounds_toArray,List.set_cons_zero,List.set_cons_succ]
   refine wpAnyH_take (i:=10) (oi := {dst:=some 19,op:=Go.Op.load 38 (Go.Operand.tmp 5),type:=38,pos := "take.go:14",after:=#[{on:=9,ground:=Go.Ground.guard}],guard:=some (9,false)}) (v := ?_) rfl (by kernel_rfl) (by kernel_rfl) (by kernel_rfl) (fun _ _ _ h=>h) (Or.inl ⟨by rfl,?_⟩) (by assumption) ?_
   rotate_left
   ·(intro w hSw;(try dsimp only at hSw);go_simp;first | done | with_reducible rfl)
   try simp only [Act.put,List.setIfInBounds_toArray,List.set_cons_zero,List.set_cons_succ]
   refine wpAnyH_ready (rs := [11]) (by kernel_rfl) (by simp) ?_
   refine AllReadyH.cons (o := {dst:=some 20,op:=Go.Op.call {callee:=Go.Callee.value (Go.Operand.func 40),args:=#[Go.Operand.tmp 19],argTypes:=#[38]},type:=4,pos := "take.go:14",after:=#[{on:=10,ground:=Go.Ground.data},{on:=9,ground:=Go.Ground.chain},{on:=9,ground:=Go.Ground.guard}],guard:=some (9,false)}) rfl (fun K hK => ?_) AllReadyH.nil
   go_simp
   refine HVA.out.mono ?_
   rintro e w3 ⟨rfl,hb3⟩
   have HB3:=Lib.hid hb3
   have hk3:=HK0.out.drew.below_ hb3
   obtain ⟨g0,g1,g2,g3,g4,g5,g6,g7⟩:=Blk.eight hk3.1
   have g8:w3.cell? ⟨s,6,none⟩=some (.int .i64 S.gen):=(HV0.out.drew.below_ hb3).h (k:=6) (by omega) rfl
   clear hb3 hk3
   go_wp2_with fail
   refine hK.out _ _ ⟨g0,g1,g2,g3,g4,g5,g6,g7,g8⟩ (fun hHeld2 => ?_)
   clear hK K hHeld
   have hHeld:=hHeld2
   clear hHeld2
   try simp only [Act.put,List.setIfInBounds_toArray,List.set_cons_zero,List.set_cons_succ]
   refine wpAnyH_take (i:=12) (oi := {dst:=some 21,op:=Go.Op.unOp Go.UnOp.not 4 (Go.Operand.tmp 20),type:=4,pos := "take.go:14",after:=#[{on:=11,ground:=Go.Ground.data},{on:=9,ground:=Go.Ground.guard}],guard:=some (9,false)}) (v := ?_) rfl (by kernel_rfl) (by kernel_rfl) (by kernel_rfl) (fun _ _ _ h=>h) (Or.inl ⟨by rfl,?_⟩) (by assumption) ?_
   rotate_left
   ·(intro w hSw;(try dsimp only at hSw);go_simp;first | done | with_reducible rfl)
   try simp only [Act.put,List.setIfInBounds_toArray,List.set_cons_zero,List.set_cons_succ]
   refine wpAnyH_take (i:=13) (oi := {dst:=some 22,op:=Go.Op.pick (Go.Operand.tmp 18) (Go.Operand.const (Go.Value.bool true)) (Go.Operand.tmp 21),type:=4,pos := "take.go:14",after:=#[{on:=9,ground:=Go.Ground.data},{on:=12,ground:=Go.Ground.data}],guard:=none}) (v := ?_) rfl (by kernel_rfl) (by kernel_rfl) (by kernel_rfl) (fun _ _ _ h=>h) (Or.inl ⟨by rfl,?_⟩) (by assumption) ?_
   rotate_left
   ·(intro w hSw;(try dsimp only at hSw);go_simp;first | done | with_reducible rfl)
   try simp only [Act.put,List.setIfInBounds_toArray,List.set_cons_zero,List.set_cons_succ]
   refine wpAnyH_take (i:=14) (oi := {dst:=some 23,op:=Go.Op.move (Go.Operand.tmp 22),type:=4,pos := "take.go:14",after:=#[{on:=13,ground:=Go.Ground.data},{on:=11,ground:=Go.Ground.chain}],guard:=none}) (v := ?_) rfl (by kernel_rfl) (by kernel_rfl) (by kernel_rfl) (fun _ _ _ h=>h) (Or.inl ⟨by rfl,?_⟩) (by assumption) ?_
   rotate_left
   ·(intro w hSw;(try dsimp only at hSw);go_simp;first | done | with_reducible rfl)
   try simp only [Act.put,List.setIfInBounds_toArray,List.set_cons_zero,List.set_cons_succ]
   refine wpAnyH_take (i:=15) (oi := {dst:=some 24,op:=Go.Op.fieldAddr 38 (Go.Operand.tmp 5) 0,type:=0,pos := "take.go:14",after:=#[{on:=14,ground:=Go.Ground.guard}],guard:=some (14,false)}) (v := ?_) rfl (by kernel_rfl) (by kernel_rfl) (by kernel_rfl) (fun _ _ _ h=>h) (Or.inl ⟨by rfl,?_⟩) (by assumption) ?_
   rotate_left
   ·(intro w hSw;(try dsimp only at hSw);go_simp;first | done | with_reducible rfl)
   try simp only [Act.put,List.setIfInBounds_toArray,List.set_cons_zero,List.set_cons_succ]
   refine wpAnyH_take (i:=16) (oi := {dst:=some 25,op:=Go.Op.load 3 (Go.Operand.tmp 24),type:=3,pos := "take.go:14",after:=#[{on:=15,ground:=Go.Ground.data},{on:=14,ground:=Go.Ground.guard}],guard:=some (14,false)}) (v := ?_) rfl (by kernel_rfl) (by kernel_rfl) (by kernel_rfl) (fun _ _ _ h=>h) (Or.inl ⟨by rfl,?_⟩) (by assumption) ?_
   rotate_left
   ·(intro w hSw;(try dsimp only at hSw);go_simp;first | done | with_reducible rfl)
   try simp only [Act.put,List.setIfInBounds_toArray,List.set_cons_zero,List.set_cons_succ]
   refine wpAnyH_ready (rs := [17]) (by kernel_rfl) (by simp) ?_
   refine AllReadyH.cons (o := {dst:=some 26,op:=Go.Op.call {callee:=Go.Callee.value (Go.Operand.func 41),args:=#[Go.Operand.tmp 25],argTypes:=#[3]},type:=4,pos := "take.go:14",after:=#[{on:=16,ground:=Go.Ground.data},{on:=14,ground:=Go.Ground.chain},{on:=14,ground:=Go.Ground.guard}],guard:=some (14,false)}) rfl (fun K hK => ?_) AllReadyH.nil
   go_simp
   refine (HUU.out w3).mono ?_
   rintro e w4 ⟨rfl,rfl⟩
   go_wp2_with fail
   refine hK.out _ _ ⟨g0,g1,g2,g3,g4,g5,g6,g7,g8⟩ (fun hHeld2 => ?_)
   clear hK K hHeld
   have hHeld:=hHeld2
   clear hHeld2
   try simp only [Act.put,List.setIfInBounds_toArray,List.set_cons_zero,List.set_cons_succ]
   refine wpAnyH_take (i:=18) (oi := {dst:=some 27,op:=Go.Op.unOp Go.UnOp.not 4 (Go.Operand.tmp 26),type:=4,pos := "take.go:14",after:=#[{on:=17,ground:=Go.Ground.data},{on:=14,ground:=Go.Ground.guard}],guard:=some (14,false)}) (v := ?_) rfl (by kernel_rfl) (by kernel_rfl) (by kernel_rfl) (fun _ _ _ h=>h) (Or.inl ⟨by rfl,?_⟩) (by assumption) ?_
   rotate_left
   ·(intro w hSw;(try dsimp only at hSw);go_simp;first | done | with_reducible rfl)
   try simp only [Act.put,List.setIfInBounds_toArray,List.set_cons_zero,List.set_cons_succ]
   refine wpAnyH_take (i:=19) (oi := {dst:=some 28,op:=Go.Op.pick (Go.Operand.tmp 23) (Go.Operand.const (Go.Value.bool true)) (Go.Operand.tmp 27),type:=4,pos := "take.go:14",after:=#[{on:=14,ground:=Go.Ground.data},{on:=18,ground:=Go.Ground.data}],guard:=none}) (v := ?_) rfl (by kernel_rfl) (by kernel_rfl) (by kernel_rfl) (fun _ _ _ h=>h) (Or.inl ⟨by rfl,?_⟩) (by assumption) ?_
   rotate_left
   ·(intro w hSw;(try dsimp only at hSw);go_simp;first | done | with_reducible rfl)
   try simp only [Act.put,List.setIfInBounds_toArray,List.set_cons_zero,List.set_cons_succ]
   refine wpAnyH_take (i:=20) (oi := {dst:=some 29,op:=Go.Op.move (Go.Operand.tmp 28),type:=4,pos := "take.go:14",after:=#[{on:=19,ground:=Go.Ground.data},{on:=17,ground:=Go.Ground.chain}],guard:=none}) (v := ?_) rfl (by kernel_rfl) (by kernel_rfl) (by kernel_rfl) (fun _ _ _ h=>h) (Or.inl ⟨by rfl,?_⟩) (by assumption) ?_
   rotate_left
   ·(intro w hSw;(try dsimp only at hSw);go_simp;first | done | with_reducible rfl)
   try simp only [Act.put,List.setIfInBounds_toArray,List.set_cons_zero,List.set_cons_succ]
   refine wpAnyH_take (i:=21) (oi := {dst:=some 30,op:=Go.Op.fieldAddr 38 (Go.Operand.tmp 5) 0,type:=0,pos := "take.go:14",after:=#[{on:=20,ground:=Go.Ground.guard}],guard:=some (20,false)}) (v := ?_) rfl (by kernel_rfl) (by kernel_rfl) (by kernel_rfl) (fun _ _ _ h=>h) (Or.inl ⟨by rfl,?_⟩) (by assumption) ?_
   rotate_left
   ·(intro w hSw;(try dsimp only at hSw);go_simp;first | done | with_reducible rfl)
   try simp only [Act.put,List.setIfInBounds_toArray,List.set_cons_zero,List.set_cons_succ]
   refine wpAnyH_take (i:=22) (oi := {dst:=some 31,op:=Go.Op.load 3 (Go.Operand.tmp 30),type:=3,pos := "take.go:14",after:=#[{on:=21,ground:=Go.Ground.data},{on:=20,ground:=Go.Ground.guard}],guard:=some (20,false)}) (v := ?_) rfl (by kernel_rfl) (by kernel_rfl) (by kernel_rfl) (fun _ _ _ h=>h) (Or.inl ⟨by rfl,?_⟩) (by assumption) ?_
   rotate_left
   ·(intro w hSw;(try dsimp only at hSw);go_simp;first | done | with_reducible rfl)
   try simp only [Act.put,List.setIfInBounds_toArray,List.set_cons_zero,List.set_cons_succ]
   refine wpAnyH_take (i:=23) (oi := {dst:=some 32,op:=Go.Op.binOp Go.BinOp.neq 3 (Go.Operand.tmp 31) (Go.Operand.const (Go.Value.int Go.IntKind.i64 1)) 3,type:=4,pos := "take.go:14",after:=#[{on:=22,ground:=Go.Ground.data},{on:=20,ground:=Go.Ground.guard}],guard:=some (20,false)}) (v := ?_) rfl (by kernel_rfl) (by kernel_rfl) (by kernel_rfl) (fun _ _ _ h=>h) (Or.inl ⟨by rfl,?_⟩) (by assumption) ?_
   rotate_left
   ·(intro w hSw;(try dsimp only at hSw);go_simp;first | done | with_reducible rfl)
   try simp only [Act.put,List.setIfInBounds_toArray,List.set_cons_zero,List.set_cons_succ]
   refine wpAnyH_take (i:=24) (oi := {dst:=some 33,op:=Go.Op.move (Go.Operand.tmp 32),type:=4,pos := "take.go:14",after:=#[{on:=23,ground:=Go.Ground.data},{on:=20,ground:=Go.Ground.chain},{on:=20,ground:=Go.Ground.guard}],guard:=some (20,false)}) (v := ?_) rfl (by kernel_rfl) (by kernel_rfl) (by kernel_rfl) (fun _ _ _ h=>h) (Or.inl ⟨by rfl,?_⟩) (by assumption) ?_
   rotate_left
   ·(intro w hSw;(try dsimp only at hSw);go_simp;first | done | with_reducible rfl)
   try simp only [Act.put,List.setIfInBounds_toArray,List.set_cons_zero,List.set_cons_succ]
   refine wpAnyH_take (i:=25) (oi := {dst:=some 34,op:=Go.Op.fieldAddr 38 (Go.Operand.tmp 5) 3,type:=0,pos := "take.go:14",after:=#[{on:=24,ground:=Go.Ground.guard}],guard:=some (24,true)}) (v:=undef) rfl (by kernel_rfl) (by kernel_rfl) (by kernel_rfl) (fun _ _ _ h=>h) (Or.inr ⟨by rfl,rfl⟩) (by assumption) ?_
   try simp only [Act.put,List.setIfInBounds_toArray,List.set_cons_zero,List.set_cons_succ]
   refine wpAnyH_take (i:=26) (oi := {dst:=some 35,op:=Go.Op.load 3 (Go.Operand.tmp 34),type:=3,pos := "take.go:14",after:=#[{on:=25,ground:=Go.Ground.data},{on:=24,ground:=Go.Ground.guard}],guard:=some (24,true)}) (v:=undef) rfl (by kernel_rfl) (by kernel_rfl) (by kernel_rfl) (fun _ _ _ h=>h) (Or.inr ⟨by rfl,rfl⟩) (by assumption) ?_
   try simp only [Act.put,List.setIfInBounds_toArray,List.set_cons_zero,List.set_cons_succ]
   refine wpAnyH_take (i:=27) (oi := {dst:=some 36,op:=Go.Op.move (Go.Operand.tmp 0),type:=28,pos := "take.go:14",after:=#[{on:=24,ground:=Go.Ground.guard}],guard:=some (24,true)}) (v:=undef) rfl (by kernel_rfl) (by kernel_rfl) (by kernel_rfl) (fun _ _ _ h=>h) (Or.inr ⟨by rfl,rfl⟩) (by assumption) ?_
   try simp only [Act.put,List.setIfInBounds_toArray,List.set_cons_zero,List.set_cons_succ]
   refine wpAnyH_take (i:=28) (oi := {dst:=some 37,op:=Go.Op.nilCheck (Go.Operand.tmp 36),type:=0,pos := "take.go:14",after:=#[{on:=27,ground:=Go.Ground.data},{on:=24,ground:=Go.Ground.guard}],guard:=some (24,true)}) (v:=undef) rfl (by kernel_rfl) (by kernel_rfl) (by kernel_rfl) (fun _ _ _ h=>h) (Or.inr ⟨by rfl,rfl⟩) (by assumption) ?_
   try simp only [Act.put,List.setIfInBounds_toArray,List.set_cons_zero,List.set_cons_succ]
   refine wpAnyH_take (i:=29) (oi := {dst:=some 38,op:=Go.Op.fieldAddr 70 (Go.Operand.tmp 37) 2,type:=0,pos := "take.go:14",after:=#[{on:=28,ground:=Go.Ground.data},{on:=24,ground:=Go.Ground.guard}],guard:=some (24,true)}) (v:=undef) rfl (by kernel_rfl) (by kernel_rfl) (by kernel_rfl) (fun _ _ _ h=>h) (Or.inr ⟨by rfl,rfl⟩) (by assumption) ?_
   try simp only [Act.put,List.setIfInBounds_toArray,List.set_cons_zero,List.set_cons_succ]
   refine wpAnyH_take (i:=30) (oi := {dst:=some 39,op:=Go.Op.load 3 (Go.Operand.tmp 38),type:=3,pos := "take.go:14",after:=#[{on:=29,ground:=Go.Ground.data},{on:=24,ground:=Go.Ground.guard}],guard:=some (24,true)}) (v:=undef) rfl (by kernel_rfl) (by kernel_rfl) (by kernel_rfl) (fun _ _ _ h=>h) (Or.inr ⟨by rfl,rfl⟩) (by assumption) ?_
   try simp only [Act.put,List.setIfInBounds_toArray,List.set_cons_zero,List.set_cons_succ]
   refine wpAnyH_take (i:=31) (oi := {dst:=some 40,op:=Go.Op.binOp Go.BinOp.neq 3 (Go.Operand.tmp 35) (Go.Operand.tmp 39) 3,type:=4,pos := "take.go:14",after:=#[{on:=26,ground:=Go.Ground.data},{on:=30,ground:=Go.Ground.data},{on:=24,ground:=Go.Ground.guard}],guard:=some (24,true)}) (v:=undef) rfl (by kernel_rfl) (by kernel_rfl) (by kernel_rfl) (fun _ _ _ h=>h) (Or.inr ⟨by rfl,rfl⟩) (by assumption) ?_
   try simp only [Act.put,List.setIfInBounds_toArray,List.set_cons_zero,List.set_cons_succ]
   refine wpAnyH_take (i:=32) (oi := {dst:=some 41,op:=Go.Op.pick (Go.Operand.tmp 33) (Go.Operand.tmp 40) (Go.Operand.const (Go.Value.bool false)),type:=4,pos := "take.go:14",after:=#[{on:=24,ground:=Go.Ground.data},{on:=31,ground:=Go.Ground.data},{on:=20,ground:=Go.Ground.guard}],guard:=some (20,false)}) (v := ?_) rfl (by kernel_rfl) (by kernel_rfl) (by kernel_rfl) (fun _ _ _ h=>h) (Or.inl ⟨by rfl,?_⟩) (by assumption) ?_
   rotate_left
   ·(intro w hSw;(try dsimp only at hSw);go_simp;first | done | with_reducible rfl)
   try simp only [Act.put,List.setIfInBounds_toArray,List.set_cons_zero,List.set_cons_succ]
   refine wpAnyH_take (i:=33) (oi := {dst:=some 42,op:=Go.Op.pick (Go.Operand.tmp 29) (Go.Operand.const (Go.Value.bool true)) (Go.Operand.tmp 41),type:=4,pos := "take.go:14",after:=#[{on:=20,ground:=Go.Ground.data},{on:=32,ground:=Go.Ground.data}],guard:=none}) (v := ?_) rfl (by kernel_rfl) (by kernel_rfl) (by kernel_rfl) (fun _ _ _ h=>h) (Or.inl ⟨by rfl,?_⟩) (by assumption) ?_
   rotate_left
   ·(intro w hSw;(try dsimp only at hSw);go_simp;first | done | with_reducible rfl)
   try simp only [Act.put,List.setIfInBounds_toArray,List.set_cons_zero,List.set_cons_succ]
   refine wpAnyH_done (by kernel_rfl) ?_ _
   go_wp2_with fail
   go_meet
   case rel=>exact ⟨rfl,_,rfl,below_of_drew HB3.out⟩
  ·have b1:(m.kind != 1)=true:=by simp [k1]
   have b2:(m.gen != S.gen)=false:=by simp [HG.out.resolve_left k1]
   clear k1 HG
   go_region_held3 (fun w'=>w'.cell? ⟨gm,0,none⟩=some (.int .i64 m.kind)∧w'.cell? ⟨gm,1,none⟩=some (.int .i64 m.id)∧w'.cell? ⟨gm,2,none⟩=some (.int .i64 m.node)∧w'.cell? ⟨gm,3,none⟩=some (.int .i64 m.gen)∧w'.cell? ⟨gm,4,none⟩=some (.int .i64 m.stamp)∧w'.cell? ⟨gm,5,none⟩=some (.int .u64 m.epoch)∧w'.cell? ⟨gm,6,none⟩=some (.int .i64 m.err)∧w'.cell? ⟨gm,7,none⟩=some (.slice D m.locks.length cap)∧w'.cell? ⟨s,6,none⟩=some (.int .i64 S.gen))
    (first | exact ⟨q0,q1,q2,q3,q4,q5,q6,q7,q8⟩ | exact ⟨g0,g1,g2,g3,g4,g5,g6,g7,g8⟩ | go_keep)
    (first
      | (go_at_call 30;((with_reducible refine HUP.out.mono ?_);rintro e w1 ⟨rfl,rfl⟩))
      | (go_at_call 39;((with_reducible refine HIS.out.mono ?_);rintro e w2 ⟨rfl,rfl⟩))
      | (go_at_call 40;((with_reducible refine HVA.out.mono ?_);rintro e w3 ⟨rfl,hb3⟩;have HB3:=Lib.hid hb3;have hk3:=HK0.out.drew.below_ hb3;obtain ⟨g0,g1,g2,g3,g4,g5,g6,g7⟩:=Blk.eight hk3.1;have g8:w3.cell? ⟨s,6,none⟩=some (.int .i64 S.gen):=(HV0.out.drew.below_ hb3).h (k:=6) (by omega) rfl;clear hb3 hk3))
      | (go_at_call 41;((with_reducible refine (HUU.out _).mono ?_);rintro e w4 ⟨rfl,rfl⟩)))
   go_wp2_with fail
   go_meet
   case rel=>exact ⟨rfl,_,rfl,below_of_drew HB3.out⟩
 case rest =>
  obtain ⟨rfl,wx,rfl,hbx⟩:=hcut
  have HV1:=Lib.hid (HV0.out.below_ hbx)
  have HK1:=Lib.hid (HK0.out.below_ hbx)
  have HL1:=Lib.hid (HL0.out.below_ hbx)
  have HF1:=Lib.hid (HF0.out.below hbx)
  have HS1:=Lib.hid (HS0.out.trans (Step.of_below o (svC c) hbx))
  clear hbx q0 q1 q2 q3 q4 q5 q6 q7 q8 HV0 HK0 HL0 HF0 HS0 HUP HIS HVA HUU HG
  have HKN':=Lib.hid (show ∀q,SvIn o c (wx.drewN q) s S P from fun q=>HV1.out.drewN q)
  have HEP:=Lib.hid (show ∀q,Calls Tryz.prog 17 #[.pointer (some ⟨P.dp,0,none⟩), .int .i64 (k:Int)] (wx.drewN q) (fun e w'=>e = .returned (.int .u64 (S.D.table k))∧w'=wx.drewN q) from fun q=>(depoch_any (HV1.out.drewN q).rest.disk k hk16).mono (fun _ _ hh=>⟨hh.1,hh.2.symm⟩))
  obtain ⟨y0,y1,y2,y3,y4,y5,y6,y7⟩:=Blk.eight HK1.out.1
  have yd:wx.cell? ⟨s,0,none⟩=some (.pointer (some ⟨P.dp,0,none⟩)):=HV1.out.h (k:=0) (by omega) rfl
  go_upto_region 4 with (fail)
  go_cut [8] from 48 to 61 (fun t8 wy=>t8 = .bool (decide (m.epoch≠0∧m.epoch=S.D.table k))∧∃q,wy=wx.drewN q)
  case first =>
   by_cases he:m.epoch=0
   ·have b1:((m.epoch:Int) != 0)=false:=by simp [he]
    have HR:=Lib.hid (show decide (m.epoch≠0∧m.epoch=S.D.table k)=false from decide_eq_false (fun hh=>hh.1 he))
    clear he
    go_quiet (fail)
    go_wp2_with fail
    go_meet
    case rel=>exact ⟨by rw [HR.out],_,rfl⟩
   ·have b1:((m.epoch:Int) != 0)=true:=by simp;omega
    have HR:=Lib.hid (show ((m.epoch:Int) == (S.D.table k:Int))=decide (m.epoch≠0∧m.epoch=S.D.table k) by
     by_cases h2:m.epoch=S.D.table k
     ·rw [decide_eq_true ⟨he,h2⟩]
      simp [h2]
     ·rw [decide_eq_false (fun hh=>h2 hh.2)]
      simp
      omega)
    clear he
    go_quiet ((go_at_call 17;exact Calls.quiet_of_same (HEP.out _)))
    go_wp2_with fail
    go_meet
    case rel=>exact ⟨by rw [HR.out],_,rfl⟩
  case rest =>
   obtain ⟨rfl,q,rfl⟩:=hcut
   have HV2:=Lib.hid (HV1.out.drewN q)
   have HK2:=Lib.hid (HK1.out.below_ (show Below wx.heap.size wx (wx.drewN q) from Go.Proofs.YtohgabdmmbngbaaGreatDoor.below_drewN wx q))
   have HL2:=Lib.hid (HL1.out.drewN q)
   have HF2:=Lib.hid (HF1.out.drewN q)
   have HS2:=Lib.hid (HS1.out.drewN q)
   clear y0 y1 y2 y3 y4 y5 y6 y7 yd HEP HKN' HV1 HK1 HL1 HF1 HS1
   generalize wx.drewN q=W2 at HV2 HK2 HL2 HF2 HS2 ⊢
   obtain ⟨y0,y1,y2,y3,y4,y5,y6,y7⟩:=Blk.eight HK2.out.1
   have x0:W2.cell? ⟨s,10+k*9,none⟩=some (.int .i64 (S.peers k).state):=HV2.out.p (j:=0) hk16 (by omega) rfl
   have HTL:=Lib.hid (show ∀(o3:Nat→Nat) (w3:World),SvAt o3 c w3 s R→Fut o3 w3→Calls Tryz.prog 46 #[.pointer (some ⟨s,0,none⟩)] w3 fun e w'=>∃v,e = .returned v∧∃o',SvAt o' c w' s R.end_.2∧OutsAt o' (c+1) w' v R.end_.1∧Step o3 (svC c) w3 o' w' from fun o3 w3 h1 h2=>vend_any h1 h2 HC.out HEN.out)
   have ho:=HOK.out.out
   have hbo:=HBS.out.out
   have hkp:=HOK.out.kept
   have hbk:=HBS.out.kept
   have hgw:=HOK.out.gw
   have hbg:=HBS.out.gw
   have hla:=HOK.out.last
   have hbl:=HBS.out.last
   by_cases k1:m.kind=1
   ·have b1:(m.kind == 1)=true:=by simp [k1]
    have HN:=Lib.hid ((if_pos k1).symm.trans HRD.out)
    have HCL:=Lib.hid (vhello_any ⟨P,HV2.out⟩ HF2.out HC.out HOK.out.wf (by omega) (by omega) HOK.out.dw (by omega) k hk16 m.stamp (by omega) HOK.out.lok HOK.out.nowI)
    clear k1 ho hbo hkp hbk hgw hbg hla hbl HRD
    go_wp2_with fail
    refine HCL.out.mono ?_
    rintro e w3 ⟨rfl,o3,hv3,hs3⟩
    rw [HN.out] at hv3
    have HV3:=Lib.hid hv3
    have HF3:=Lib.hid (HF2.out.step hs3)
    have HS3:=Lib.hid (HS2.out.trans hs3)
    clear hv3 hs3
    go_wp2_with fail
    refine (HTL.out _ _ HV3.out HF3.out).mono ?_
    rintro e w4 ⟨v4,rfl,o4,hv4,ho4,hs4⟩
    obtain ⟨A4,cap4,rfl⟩:=ho4.len
    have HV4:=Lib.hid hv4
    have HO4:=Lib.hid ho4
    have HS4:=Lib.hid (HS3.out.trans hs4)
    clear hv4 ho4 hs4
    go_wp2_with fail
    go_ret
    exact ⟨_,rfl,o4,HV4.out,HO4.out,HS4.out⟩
   ·have b1:(m.kind == 1)=false:=by simp [k1]
    have HR1:=Lib.hid ((if_neg k1).symm.trans HRD.out)
    clear HRD
    by_cases k13:m.kind=13
    ·have b13:(m.kind == 13)=true:=by simp [k13]
     have HN:=Lib.hid ((if_pos k13).symm.trans HR1.out)
     have HCL:=Lib.hid (vrecovered_any ⟨P,HV2.out⟩ HF2.out HC.out HOK.out.wf HOK.out.nodes (by omega) (by omega) (by omega) (fun j=>by rw [put_last HOK.out.calm j];omega) HOK.out.lok HOK.out.nowI k m (.slice D m.locks.length cap))
     clear k1 k13 ho hbo hkp hbk hgw hbg hla hbl HR1
     go_wp2_with fail
     refine HCL.out.mono ?_
     rintro e w3 ⟨rfl,o3,hv3,hs3⟩
     rw [HN.out] at hv3
     have HV3:=Lib.hid hv3
     have HF3:=Lib.hid (HF2.out.step hs3)
     have HS3:=Lib.hid (HS2.out.trans hs3)
     clear hv3 hs3
     go_wp2_with fail
     refine (HTL.out _ _ HV3.out HF3.out).mono ?_
     rintro e w4 ⟨v4,rfl,o4,hv4,ho4,hs4⟩
     obtain ⟨A4,cap4,rfl⟩:=ho4.len
     have HV4:=Lib.hid hv4
     have HO4:=Lib.hid ho4
     have HS4:=Lib.hid (HS3.out.trans hs4)
     clear hv4 ho4 hs4
     go_wp2_with fail
     go_ret
     exact ⟨_,rfl,o4,HV4.out,HO4.out,HS4.out⟩
    ·have b13:(m.kind == 13)=false:=by simp [k13]
     have HR2:=Lib.hid ((if_neg k13).symm.trans HR1.out)
     clear HR1
     by_cases hkw:m.epoch≠0∧m.epoch=S.D.table k
     ·rw [decide_eq_true hkw]
      have HR3:=Lib.hid ((if_neg (fun hh=>hh hkw)).symm.trans HR2.out)
      clear HR2 hkw
      by_cases k11:m.kind=11
      ·have b11:(m.kind == 11)=true:=by simp [k11]
       by_cases s2:(S.peers k).state=2
       ·have b2:((S.peers k).state == 2)=true:=by simp [s2]
        have HN:=Lib.hid ((if_pos ⟨k11,s2⟩).symm.trans HR3.out)
        have HCL:=Lib.hid (vreport_any ⟨P,HV2.out⟩ HF2.out HC.out HOK.out.wf HOK.out.nodes (by omega) (by omega) HOK.out.dw k hk1 HKN.out HOK.out.lok HOK.out.nowI m (.slice D m.locks.length cap) HL2.out HM.out.locks)
        clear k1 k13 k11 s2 ho hbo hkp hbk hgw hbg hla hbl HR3
        go_wp2_with fail
        refine HCL.out.mono ?_
        rintro e w3 ⟨rfl,o3,hv3,hs3⟩
        rw [HN.out] at hv3
        have HV3:=Lib.hid hv3
        have HF3:=Lib.hid (HF2.out.step hs3)
        have HS3:=Lib.hid (HS2.out.trans hs3)
        clear hv3 hs3
        go_wp2_with fail
        refine (HTL.out _ _ HV3.out HF3.out).mono ?_
        rintro e w4 ⟨v4,rfl,o4,hv4,ho4,hs4⟩
        obtain ⟨A4,cap4,rfl⟩:=ho4.len
        have HV4:=Lib.hid hv4
        have HO4:=Lib.hid ho4
        have HS4:=Lib.hid (HS3.out.trans hs4)
        clear hv4 ho4 hs4
        go_wp2_with fail
        go_ret
        exact ⟨_,rfl,o4,HV4.out,HO4.out,HS4.out⟩
       ·have b2:((S.peers k).state == 2)=false:=by simp [s2]
        have HR4:=Lib.hid ((if_neg (fun hh=>s2 hh.2)).symm.trans HR3.out)
        clear HR3 s2
        by_cases s1:(S.peers k).state=1
        ·have b3:((S.peers k).state == 1)=true:=by simp [s1]
         have HN:=Lib.hid ((if_pos s1).symm.trans HR4.out)
         have HCL:=Lib.hid (vlive_any ⟨P,HV2.out⟩ HF2.out HC.out HOK.out HBS.out k hk1 HKN.out m (.slice D m.locks.length cap) HL2.out HM.out HTB.out)
         clear k1 k13 k11 s1 ho hbo hkp hbk hgw hbg hla hbl HR4
         go_wp2_with fail
         refine HCL.out.mono ?_
         rintro e w3 ⟨rfl,o3,hv3,hs3⟩
         rw [HN.out] at hv3
         have HV3:=Lib.hid hv3
         have HF3:=Lib.hid (HF2.out.step hs3)
         have HS3:=Lib.hid (HS2.out.trans hs3)
         clear hv3 hs3
         go_wp2_with fail
         refine (HTL.out _ _ HV3.out HF3.out).mono ?_
         rintro e w4 ⟨v4,rfl,o4,hv4,ho4,hs4⟩
         obtain ⟨A4,cap4,rfl⟩:=ho4.len
         have HV4:=Lib.hid hv4
         have HO4:=Lib.hid ho4
         have HS4:=Lib.hid (HS3.out.trans hs4)
         clear hv4 ho4 hs4
         go_wp2_with fail
         go_ret
         exact ⟨_,rfl,o4,HV4.out,HO4.out,HS4.out⟩
        ·have b3:((S.peers k).state == 1)=false:=by simp [s1]
         have HN:=Lib.hid ((if_neg s1).symm.trans HR4.out)
         clear k1 k13 k11 s1 HR4
         go_wp2_with fail
         refine (HTL.out _ _ (HN.out▸⟨P,HV2.out⟩) HF2.out).mono ?_
         rintro e w4 ⟨v4,rfl,o4,hv4,ho4,hs4⟩
         obtain ⟨A4,cap4,rfl⟩:=ho4.len
         have HV4:=Lib.hid hv4
         have HO4:=Lib.hid ho4
         have HS4:=Lib.hid (HS2.out.trans hs4)
         clear hv4 ho4 hs4
         go_wp2_with fail
         go_ret
         exact ⟨_,rfl,o4,HV4.out,HO4.out,HS4.out⟩
      ·have b11:(m.kind == 11)=false:=by simp [k11]
       have HR4:=Lib.hid ((if_neg (fun hh=>k11 hh.1)).symm.trans HR3.out)
       clear HR3
       by_cases s1:(S.peers k).state=1
       ·have b3:((S.peers k).state == 1)=true:=by simp [s1]
        have HN:=Lib.hid ((if_pos s1).symm.trans HR4.out)
        have HCL:=Lib.hid (vlive_any ⟨P,HV2.out⟩ HF2.out HC.out HOK.out HBS.out k hk1 HKN.out m (.slice D m.locks.length cap) HL2.out HM.out HTB.out)
        clear k1 k13 k11 s1 ho hbo hkp hbk hgw hbg hla hbl HR4
        go_wp2_with fail
        refine HCL.out.mono ?_
        rintro e w3 ⟨rfl,o3,hv3,hs3⟩
        rw [HN.out] at hv3
        have HV3:=Lib.hid hv3
        have HF3:=Lib.hid (HF2.out.step hs3)
        have HS3:=Lib.hid (HS2.out.trans hs3)
        clear hv3 hs3
        go_wp2_with fail
        refine (HTL.out _ _ HV3.out HF3.out).mono ?_
        rintro e w4 ⟨v4,rfl,o4,hv4,ho4,hs4⟩
        obtain ⟨A4,cap4,rfl⟩:=ho4.len
        have HV4:=Lib.hid hv4
        have HO4:=Lib.hid ho4
        have HS4:=Lib.hid (HS3.out.trans hs4)
        clear hv4 ho4 hs4
        go_wp2_with fail
        go_ret
        exact ⟨_,rfl,o4,HV4.out,HO4.out,HS4.out⟩
       ·have b3:((S.peers k).state == 1)=false:=by simp [s1]
        have HN:=Lib.hid ((if_neg s1).symm.trans HR4.out)
        clear k1 k13 k11 s1 HR4
        go_wp2_with fail
        refine (HTL.out _ _ (HN.out▸⟨P,HV2.out⟩) HF2.out).mono ?_
        rintro e w4 ⟨v4,rfl,o4,hv4,ho4,hs4⟩
        obtain ⟨A4,cap4,rfl⟩:=ho4.len
        have HV4:=Lib.hid hv4
        have HO4:=Lib.hid ho4
        have HS4:=Lib.hid (HS2.out.trans hs4)
        clear hv4 ho4 hs4
        go_wp2_with fail
        go_ret
        exact ⟨_,rfl,o4,HV4.out,HO4.out,HS4.out⟩
     ·rw [decide_eq_false hkw]
      have HN:=Lib.hid ((if_pos hkw).symm.trans HR2.out)
      clear HR2 hkw k1 k13
      go_wp2_with fail
      refine (HTL.out _ _ (HN.out▸⟨P,HV2.out⟩) HF2.out).mono ?_
      rintro e w4 ⟨v4,rfl,o4,hv4,ho4,hs4⟩
      obtain ⟨A4,cap4,rfl⟩:=ho4.len
      have HV4:=Lib.hid hv4
      have HO4:=Lib.hid ho4
      have HS4:=Lib.hid (HS2.out.trans hs4)
      clear hv4 ho4 hs4
      go_wp2_with fail
      go_ret
      exact ⟨_,rfl,o4,HV4.out,HO4.out,HS4.out⟩
end
end Go.Proofs.YtohgabdmmbngbaaGreatDoor
