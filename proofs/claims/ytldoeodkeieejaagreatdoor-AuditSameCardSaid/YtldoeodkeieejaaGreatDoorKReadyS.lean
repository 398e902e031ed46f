import Derived.Test.YtldoeodkeieejaaGreatDoorKLightA
import Derived.Test.YtldoeodkeieejaaGreatDoorKRefR
namespace Go.Proofs.YtldoeodkeieejaaGreatDoor
open Go.RowKit
theorem rows_fresh (n:Nat):Rows (Dk.fresh n) [] []:=⟨rfl,List.Pairwise.nil,(fun _ h=>by cases h),rfl,(fun _=>rfl),(fun _=>rfl)⟩
theorem Rows.same {D E:Dk} {ws:List RW} {L:List (RW×Nat)} (h:Rows D ws L) (h1:E.seq=D.seq) (h2:E.waits=D.waits) (h3:E.now=D.now) (h4:E.lasts=D.lasts):Rows E ws L :=
 ⟨h.rows,h.rise,by rw [h1];exact h.bound,by rw [h2];exact h.waits,by rw [h3];exact h.now,by rw [h4];exact h.lasts⟩
theorem tab_zero (k:Nat):(fun j=>if j=k then (0:Nat) else (fun _:Nat=>(0:Nat)) j)=fun _=>0:=by
 funext j
 split <;> rfl
theorem fmt_rows {D:Dk} (h:Calm D 0) (ht:D.table=fun _=>0) (hw:D.words=fun _=>0) (hr:∃L,Rows D [] L):∀j,j≤17→(D.fmtN j).table=(fun _=>0)∧(D.fmtN j).words=(fun _=>0)∧∃L,Rows (D.fmtN j) [] L
 | 0,_=>⟨ht,hw,hr⟩
 | j+1,hj=>by
   obtain ⟨t1,w1,L,r1⟩:=fmt_rows h ht hw hr j (by omega)
   obtain ⟨h1,h2,h4⟩:=fmt_calm h j (by omega)
   obtain ⟨e1,c1⟩:=h1.fence (n:=j) (by omega)
   obtain ⟨e2,c2⟩:=c1.put (n:=j) (by omega) 0
   have e3:D.fmtN (j+1)=(((D.fmtN j).fence j).2.put j 0).2:=rfl
   rw [e3,e2,e1]
   refine ⟨?_,?_,?_⟩
   ·show (fun i=>if i=j then 0 else (D.fmtN j).table i)=_
    rw [t1]
    exact tab_zero j
   ·show (fun i=>if i=j then 0 else ((D.fmtN j).settle j).words i)=_
    rw [(settle_same _ _).2.2.2.2.1,w1]
    exact tab_zero j
   ·exact ⟨_,(r1.settle j).same rfl rfl rfl rfl⟩
theorem zeros_rows {D:Dk} {L:List (RW×Nat)} (h:Rows D [] L):∀j,j≤3→∃G L,Rows (D.zerosN j) G L∧∀x∈G,x.node=0∧x.data=str (zer 64)
 | 0,_=>⟨[],L,h,fun _ hx=>by cases hx⟩
 | j+1,hj=>by
   obtain ⟨G,L1,h1,h2⟩:=zeros_rows h j (by omega)
   obtain ⟨L2,h3⟩:=h1.writeN (0:Nat) ((16*j:Nat):Int) (str (zer (zlen j*64))) (zlen j)
   refine ⟨_,L2,h3,fun x hx => ?_⟩
   rcases List.mem_append.1 hx with hx | hx
   ·exact h2 x hx
   ·unfold rwsN at hx
    obtain ⟨t,ht,rfl⟩:=List.mem_map.1 hx
    have:=List.mem_range.1 ht
    exact ⟨rfl,sect_zer (Nat.mul_le_mul_right 64 (show t+1≤zlen j by omega))⟩
theorem lay_rest (D:Dk):D.layF.table=D.table∧D.layF.words=D.words∧D.layF.last=D.last:=by
 have hz:∀j,(D.zerosN j).table=D.table∧(D.zerosN j).words=D.words∧(D.zerosN j).last=D.last:=by
  intro j
  induction j with
  | zero=>exact ⟨rfl,rfl,rfl⟩
  | succ j ih =>
    obtain ⟨_,_,_,b4,b5,b6,_⟩:=writeN_same (D.zerosN j) (0:Nat) ((16*j:Nat):Int) (str (zer (zlen j*64))) (zlen j)
    exact ⟨b6.trans ih.1,b5.trans ih.2.1,b4.trans ih.2.2⟩
 obtain ⟨z1,z2,z3⟩:=hz 3
 unfold Dk.layF
 have s1:=settle_same (D.zerosN 3) ((0:Nat):Int)
 have s2:=settle_rest (D.zerosN 3) ((0:Nat):Int)
 obtain ⟨_,_,_,b4,b5,b6,_⟩:=writeN_same ((D.zerosN 3).settle ((0:Nat):Int)) ((0:Nat):Int) 0 (str superL) 1
 have s3:=settle_same (((D.zerosN 3).settle ((0:Nat):Int)).writeN ((0:Nat):Int) 0 (str superL) 1) ((0:Nat):Int)
 have s4:=settle_rest (((D.zerosN 3).settle ((0:Nat):Int)).writeN ((0:Nat):Int) 0 (str superL) 1) ((0:Nat):Int)
 exact ⟨s4.1.trans (b6.trans (s2.1.trans z1)),s3.2.2.2.2.1.trans (b5.trans (s1.2.2.2.2.1.trans z2)),s3.2.2.2.1.trans (b4.trans (s1.2.2.2.1.trans z3))⟩
theorem lay_rows {D:Dk} {L:List (RW×Nat)} (h:Rows D [] L):∃G L,Ghost G∧Rows D.layF (G++(rwsN (0:Nat) 0 (str superL) 1).map (RW.keep (0:Nat))) L:=by
 obtain ⟨G,L1,h1,h2⟩:=zeros_rows h 3 (by omega)
 obtain ⟨L2,h3⟩:=(h1.settle (0:Nat)).writeN (0:Nat) 0 (str superL) 1
 have h4:=h3.settle (0:Nat)
 rw [List.map_append] at h4
 refine ⟨_,_,?_,h4⟩
 intro x hx
 obtain ⟨y,hy,rfl⟩:=List.mem_map.1 hx
 obtain ⟨z,hz,rfl⟩:=List.mem_map.1 hy
 obtain ⟨a,b⟩:=h2 z hz
 refine ⟨?_,?_⟩
 ·rw [rk_lasts,rk_lasts,a]
  simp
 ·rw [(rk_same _ _).2.2,(rk_same _ _).2.2,b]
set_option maxRecDepth 100000 in
theorem ready_sim : Sim readyD (RF.of readyR)∧Mild (RF.of readyR) 1:=by
 obtain ⟨c1,c2,c3,c4⟩:=ready_facts
 obtain ⟨f1,f2,f3⟩:=format_facts calm_fresh fresh_last
 have e3:readyD=((Dk.fresh 37).formatF.admit (1:Nat) 9).2:=rfl
 obtain ⟨t1,t2,L,t3⟩:=fmt_rows calm_fresh rfl rfl ⟨_,rows_fresh 37⟩ 17 (by omega)
 obtain ⟨g1,g2,g3⟩:=fmt_calm calm_fresh 17 (by omega)
 have hlt:((Dk.fresh 37).fmtN 17).last<1:=by rw [g2,fresh_last];omega
 obtain ⟨a1,a2⟩:=g1.admit (n:=0) (by omega) (e:=1) hlt
 have r1:Rows (((Dk.fresh 37).fmtN 17).admit (0:Nat) 1).2 [] L:=by rw [a1];exact t3.same rfl rfl rfl rfl
 have k1:(((Dk.fresh 37).fmtN 17).admit (0:Nat) 1).2.table=fun j=>if j=0 then 1 else 0:=by
  rw [a1]
  show (fun j=>if j=0 then 1 else ((Dk.fresh 37).fmtN 17).table j)=_
  rw [t1]
 have k2:(((Dk.fresh 37).fmtN 17).admit (0:Nat) 1).2.words=fun _=>0:=by
  rw [a1]
  exact t2
 have k3:(((Dk.fresh 37).fmtN 17).admit (0:Nat) 1).2.last=1:=by rw [a1]
 have e1:(Dk.fresh 37).formatF=((((Dk.fresh 37).fmtN 17).admit (0:Nat) 1).2.layF.fence (0:Nat)).2:=rfl
 generalize (((Dk.fresh 37).fmtN 17).admit (0:Nat) 1).2=E at a2 r1 k1 k2 k3 e1
 obtain ⟨l1,l2,l3⟩:=lay_rest E
 obtain ⟨G,L2,hG,r2⟩:=lay_rows r1
 have c5:=lay_calm a2
 obtain ⟨b1,b2⟩:=c5.fence (n:=0) (by omega)
 have s2:=settle_same E.layF ((0:Nat):Int)
 have s3:=settle_rest E.layF ((0:Nat):Int)
 have e2:(Dk.fresh 37).formatF = {E.layF.settle ((0:Nat):Int) with table:=fun j=>if j=0 then 0 else E.layF.table j}:=by rw [e1,b1]
 have gs:GRows (E.layF.settle ((0:Nat):Int)) (((rwsN (0:Nat) 0 (str superL) 1).map (RW.keep (0:Nat))).map (RW.keep (0:Nat))):=GRows.settle ⟨G,L2,hG,r2⟩ ((0:Nat):Int)
 generalize E.layF.settle ((0:Nat):Int)=F at gs e2 s2 s3
 generalize E.layF=X at e1 e2 b1 b2 s2 s3 l1 l2 l3
 have r3:GRows (Dk.fresh 37).formatF (((rwsN (0:Nat) 0 (str superL) 1).map (RW.keep (0:Nat))).map (RW.keep (0:Nat))):=by
  rw [e2]
  exact gs.same rfl rfl rfl rfl
 generalize (Dk.fresh 37).formatF=Y at e1 e2 r3 f1 f2 f3 e3
 have q1:Y.table=fun _=>0:=by
  rw [e2]
  show (fun j=>if j=0 then 0 else X.table j)=_
  rw [l1,k1]
  funext j
  by_cases hj:j=0 <;> simp [hj]
 have q2:Y.words=fun _=>0:=by
  rw [e2]
  exact s2.2.2.2.2.1.trans (l2.trans k2)
 have hls:Y.last<9:=by rw [f2];omega
 obtain ⟨d1,d2⟩:=f1.admit (n:=1) (by omega) (e:=9) hls
 refine ⟨⟨c1.sectors,c1.on,?_,?_,c2,c1.armed,(fun e=>by cases e),?_⟩,⟨by decide,rfl,?_,?_⟩⟩
 ·rw [e3,d1]
  show (fun j=>if j=1 then 9 else Y.table j)=_
  rw [q1]
  funext j
  show _=if j=1 then 9 else if j=0 then 0 else if j=0 then 1 else 0
  by_cases hj:j=0 <;> simp [hj]
 ·rw [e3,d1]
  exact q2
 ·rw [e3,d1]
  exact r3.same rfl rfl rfl rfl
 ·exact Nat.le_refl 1
 ·intro x hx
  have hx:x∈((rwsN (0:Nat) 0 (str superL) 1).map (RW.keep (0:Nat))).map (RW.keep (0:Nat)):=hx
  obtain ⟨y,hy,rfl⟩:=List.mem_map.1 hx
  obtain ⟨z,hz,rfl⟩:=List.mem_map.1 hy
  rw [(rk_same _ _).2.2,(rk_same _ _).2.2]
  unfold rwsN at hz
  obtain ⟨t,ht,rfl⟩:=List.mem_map.1 hz
  have:=List.mem_range.1 ht
  exact sect_size (by rw [str_size,superL_len];omega)
end Go.Proofs.YtldoeodkeieejaaGreatDoor
