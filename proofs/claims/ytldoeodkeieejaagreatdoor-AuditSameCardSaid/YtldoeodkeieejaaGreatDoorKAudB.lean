import Derived.Test.YtldoeodkeieejaaGreatDoorKWireC
import Derived.Test.YtldoeodkeieejaaGreatDoorKLightA
import Derived.Test.YtldoeodkeieejaaGreatDoorKEveU
import Derived.Test.YtldoeodkeieejaaGreatDoorKMadK
import Derived.Test.YtldoeodkeieejaaGreatDoorKEveP
import Derived.Test.YtldoeodkeieejaaGreatDoorKRecE
import Derived.Test.YtldoeodkeieejaaGreatDoorKMadB
namespace Go.Proofs.YtldoeodkeieejaaGreatDoor
open Go.RowKit
def NewOrSame (w:World) (v:Value) (n:Nat) (v':Value) (n':Nat):Prop:=(∃A0 cap,v = .slice A0 n cap∧v' = .slice A0 n' cap)∨∀g,v'.ownBlock=some g→w.heap.size≤g
structure Kept (tO tE:TypeId) (sz cO cI:Nat) (o:Nat→Nat) (w:World) (v:Value) (S:List (Nat×List Value)) (vs:List Value):Prop where
 len:vs.length=S.length
 outer:OwnW o cO w tO 1 v S.length vs
 inner:∀(i:Nat) u n xs,vs[i]? = some u→S[i]? = some (n,xs)→OwnW o (cI+i) w tE sz u n xs
section
variable {tO tE:TypeId} {sz cO cI:Nat} {o o':Nat→Nat} {w w':World} {v v':Value} {S:List (Nat×List Value)} {vs:List Value}
theorem Kept.nil (tO tE:TypeId) (sz cO cI:Nat) (o:Nat→Nat) (w:World):Kept tO tE sz cO cI o w (.slice none 0 0) [] [] :=
 ⟨rfl,OwnW.nil _ _ _ _ _,fun i u n xs hu _=>by simp at hu⟩
theorem Kept.step {C:Nat→Prop} (h:Kept tO tE sz cO cI o w v S vs) (hs:Step o C w o' w') (h1:¬C cO) (h2:∀i,i<S.length→¬C (cI+i)):Kept tO tE sz cO cI o' w' v S vs :=
 ⟨h.len,h.outer.step hs h1,fun i u n xs hu hS=>(h.inner i u n xs hu hS).step hs (h2 i (List.getElem?_eq_some_iff.1 hS).1)⟩
theorem Kept.more {u:Value} {n:Nat} {xs:List Value} (h:Kept tO tE sz cO cI o w v S vs) (ho:OwnW o' cO w' tO 1 v' (S.length+1) (vs ++ [u])) (hs:Step o (only cO) w o' w') (hu:OwnW o (cI+S.length) w tE sz u n xs) (hd:∀i,i≤S.length→cI+i≠cO) :
 Kept tO tE sz cO cI o' w' v' (S ++ [(n,xs)]) (vs ++ [u]):=by
 have hl:=h.len
 refine ⟨by simp [hl],by simpa using ho,fun i u1 n1 xs1 hu1 hS1 => ?_⟩
 by_cases hi:i<S.length
 ·rw [List.getElem?_append_left (by omega)] at hu1
  rw [List.getElem?_append_left hi] at hS1
  exact (h.inner i u1 n1 xs1 hu1 hS1).step hs (by unfold only;exact hd i (by omega))
 ·rw [List.getElem?_append_right (by omega)] at hu1
  rw [List.getElem?_append_right (by omega)] at hS1
  have h1:=(List.getElem?_eq_some_iff.1 hu1).1
  simp at h1
  have hi2:i=S.length:=by omega
  subst hi2
  rw [hl,Nat.sub_self] at hu1
  rw [Nat.sub_self] at hS1
  simp at hu1 hS1
  obtain ⟨e1,e2⟩:=hS1
  subst hu1 e1 e2
  exact hu.step hs (by unfold only;exact hd _ (Nat.le_refl _))
theorem Kept.at_ (h:Kept tO tE sz cO cI o w v S vs) {i:Nat} (hi:i<S.length):∃ad cap A c u n xs,v = .slice (some ad) S.length cap∧S.length≤cap∧vs[i]? = some u∧S[i]? = some (n,xs)∧u = .slice A n c∧n≤c∧w.cell? (ad.add i)=some (.slice A n c)∧OwnW o (cI+i) w tE sz (.slice A n c) n xs:=by
 obtain ⟨A0,cap,rfl,hc,_⟩:=h.outer.form
 have hl:=h.len
 obtain ⟨ad,rfl,hcell⟩:=(OwnW.reads h.outer).2 (by omega)
 have hu:vs[i]? = some vs[i]:=List.getElem?_eq_getElem (by omega)
 have hS:S[i]? = some (S[i].1,S[i].2):=List.getElem?_eq_getElem hi
 have hin:=h.inner i _ _ _ hu hS
 obtain ⟨A,c,e,h1,_⟩:=hin.form
 exact ⟨ad,cap,A,c,vs[i],S[i].1,S[i].2,rfl,hc,hu,hS,e,h1,by rw [←e];exact hcell i _ hu,by rw [←e];exact hin⟩
end
def rowsF (r:Nat→List Value) (f n:Nat):List Value:=(List.range n).flatMap (fun k=>r (f+k))
theorem Kept.put {tO tE:TypeId} {sz cO cI:Nat} {o o':Nat→Nat} {w w':World} {v u:Value} {S:List (Nat×List Value)} {vs:List Value} {i n:Nat} {xs:List Value} (h:Kept tO tE sz cO cI o w v S vs) (hi:i<S.length) (hu:vs[i]? = some u)
 (ho:OwnW o' (cI+i) w' tE sz u n xs) (hs:Step o (only (cI+i)) w o' w') (hd:cO≠cI+i):Kept tO tE sz cO cI o' w' v (S.set i (n,xs)) vs:=by
 refine ⟨by simpa using h.len,by simpa using h.outer.step hs hd,fun j u1 n1 xs1 hu1 hS1 => ?_⟩
 by_cases hij:j=i
 ·subst hij
  rw [List.getElem?_set_self hi] at hS1
  injection hS1 with hS1
  injection hS1 with e1 e2
  subst e1 e2
  rw [hu] at hu1
  injection hu1 with hu1
  subst hu1
  exact ho
 ·rw [List.getElem?_set_ne (by omega)] at hS1
  exact (h.inner j u1 n1 xs1 hu1 hS1).step hs (by unfold only;omega)
def putS (m:Nat→Nat→List Value) (i:Nat) (S:List (Nat×List Value)):List (Nat×List Value):=S.mapIdx (fun j p=>if j<i then (p.1,rowsF (m j) 0 p.1) else p)
def KeepRel (v0:Value) (n0:Nat) (v:Value) (n:Nat):Prop:=(∃A0 cap0 cap,v0 = .slice A0 n0 cap0∧v = .slice A0 n cap)∨v0.ownBlock≠v.ownBlock
theorem KeepRel.more {o:Nat→Nat} {c:Nat} {w:World} {e:TypeId} {sz n0 n n':Nat} {v0 v v':Value} {xs:List Value} (h:KeepRel v0 n0 v n) (hn:NewOrSame w v n v' n') (h0:OwnW o c w e sz v0 n0 xs) (hs:∃g,v'.ownBlock=some g):KeepRel v0 n0 v' n':=by
 obtain ⟨g,hg⟩:=hs
 rcases hn with ⟨A,cap,rfl,rfl⟩ | hn
 ·rcases h with ⟨A0,cap0,cap',rfl,e2⟩ | hne
  ·injection e2 with e3
   subst e3
   exact .inl ⟨A,cap0,cap,rfl,rfl⟩
  ·refine .inr (fun e=>hne (e.trans ?_))
   cases A <;> rfl
 ·refine .inr (fun e => ?_)
  have:=(h0.lt g (e.trans hg)).1
  have:=hn g hg
  omega
theorem OpsRd.inz {o':Nat→Nat} {W w:World} {A:Option Addr} {l:List LOp} {vs:List (Value×Value)} (hs:Step (fun _=>0) nz W o' w) (h:OpsRd W A l vs):OpsRd w A l vs:=h.below_ (hs.below (fun _ _ h=>h rfl) (Nat.le_refl _))
theorem Step.inzE {o':Nat→Nat} {W w:World} {A:Option Addr} {n:Nat} {xs:List Value} {s:Nat} (hs:Step (fun _=>0) nz W o' w) (h0:0<s) (h:Reads W s A n xs):Reads w s A n xs :=
 h.below' h0 (hs.below (fun _ _ h=>h rfl) (Nat.le_refl _))
def AddAt (W:World) (o:Nat→Nat) (w:World) (v:Value) (ims:List Im):Prop:=∃avs:List Value,avs.length=ims.length∧OwnS o 30 w 40 1 v ims.length avs∧∀(k:Nat) i,ims[k]? = some i→∃B cp,avs[k]? = some (.slice B 1 cp)∧Reads W 3 B 1 (imcells [i])
section
variable {W w w':World} {p q gl k k' n cap:Nat} {ad:Addr} {ims:List Im} {D D':Dk} {g g':Lg} {v:Value} {o o':Nat→Nat} {C:Nat→Prop}
theorem AddAt.step (h:AddAt W o w v ims) (hs:Step o C w o' w') (hc:¬C 30):AddAt W o' w' v ims:=by
 obtain ⟨avs,h1,h2,h3⟩:=h
 exact ⟨avs,h1,h2.step hs hc,h3⟩
theorem AddAt.form (h:AddAt W o w v ims):∃A cap,v = .slice A ims.length cap:=by
 obtain ⟨avs,h1,h2,h3⟩:=h
 obtain ⟨A,cap,e,_,_⟩:=own_form' h2
 exact ⟨A,cap,e⟩
structure Ev5 (W:World) (p q gl:Nat) (ims:List Im) (D:Dk) (g:Lg) (k:Nat) (v:Value) (o:Nat→Nat) (w:World):Prop where
 disk:DiskAt o 1 w p D
 log:LogAt o 20 w q g p
 lay:Keep o w gl 30 #[.int .i64 2, .int .i64 10, .int .i64 8, .int .i64 4, .int .i64 32]
 add:AddAt W o w v ims
 fut:Fut o w
 step:Step (fun _=>0) nz W o w
 tame:Tame D k
theorem Ev5.more (h:Ev5 W p q gl ims D g k v o w) (hk:k≤k'):Ev5 W p q gl ims D g k' v o w := {h with tame:=h.tame.mono hk}
theorem Tame.cut (h:Tame D k) (keep:List Int):Tame (D.cut keep).2 k:=by
 obtain ⟨a1,a2,_,_,_,a6,_⟩:=cut_same D keep
 exact ⟨a1.trans h.sectors,Nat.le_trans a6 h.waits,by rw [a2];exact h.seq,cut_wf h.wf keep⟩
end
def DOp.ep (o:DOp) (R:RF):Nat:=if o.own=true∧0≤o.node∧o.node≤16 then R.table o.node.toNat else o.epoch
def DOp.ep3 (o:DOp) (R:RF):Nat:=if o.own=true then (R.last+1) % 18446744073709551616 else o.ep R
def DOp.doD (o:DOp) (R:RF) (D:Dk):Dk :=
 if o.kind=1 then (D.write o.node (o.ep R) o.at_ o.data).2 else if o.kind=2 then (D.barrier o.node (o.ep R)).2 else if o.kind=3 then (D.admit o.node (o.ep3 R)).2
 else if o.kind=4 then (D.fence o.node).2 else if o.kind=5 then (D.put o.node o.epoch).2 else if o.kind=6 then (D.cut o.keep).2 else if o.kind=7 then D.restore else if o.kind=9 then D.arm o.n o.keep else D
def DOp.doR (o:DOp) (R:RF):RF :=
 if o.kind=1 then (R.write o.node (o.ep R) o.at_ o.data).2 else if o.kind=2 then (R.barrier o.node (o.ep R)).2 else if o.kind=3 then (R.admit8 o.node (o.ep3 R)).2
 else if o.kind=4 then (R.fence o.node).2 else if o.kind=5 then (R.put o.node o.epoch).2 else if o.kind=6 then (R.cut o.keep).2 else if o.kind=7 then R.restore else if o.kind=9 then R.arm o.n o.keep else R
structure Both2 (D:Dk) (R:RF) (k:Nat):Prop where
 sim:Sim D R
 tame:Tame D k
 fit:Fit R k
 left:R.leftOk
section
variable {D:Dk} {R:RF} {k:Nat}
theorem Tame.fence (h:Tame D k) (n:Int):Tame (D.fence n).2 k:=by
 unfold Dk.fence
 split
 ·exact h
 ·split
  ·exact h.goes
  ·have hg:=h.goes.settle n
   exact ⟨hg.sectors,hg.waits,hg.seq,hg.wf⟩
theorem Tame.put (h:Tame D k) (n:Int) (v:Nat):Tame (D.put n v).2 k:=by
 unfold Dk.put
 split
 ·exact h
 ·split
  ·exact h.goes
  ·have hg:=h.goes
   exact ⟨hg.sectors,hg.waits,hg.seq,hg.wf⟩
theorem Tame.admitM (h:Tame D k) (n:Int) (e:Nat):Tame (D.admit n e).2 k:=by
 unfold Dk.admit
 split
 ·exact h
 ·split
  ·exact h
  ·split
   ·exact h.goes
   ·have hg:=h.goes
    exact ⟨hg.sectors,hg.waits,hg.seq,hg.wf⟩
theorem spend_left (R:RF) (hl:R.leftOk):R.spend.2.leftOk:=by
 unfold RF.spend
 split
 ·exact hl
 ·split
  ·unfold RF.cut
   split <;> exact hl
  ·have h0:=hl
   unfold RF.leftOk at h0 ⊢
   show R.left - 1≤_
   omega
theorem cut_left (R:RF) (hl:R.leftOk) (keep:List Int):(R.cut keep).2.leftOk:=by
 unfold RF.cut
 split <;> exact hl
theorem admit_left (R:RF) (hl:R.leftOk) (n:Int) (e:Nat):(R.admit8 n e).2.leftOk:=by
 have hs:=spend_left R hl
 unfold RF.admit8
 split
 ·exact hl
 ·split
  ·exact hl
  ·split
   ·exact hl
   ·split <;> exact hs
theorem fence_left (R:RF) (hl:R.leftOk) (n:Int):(R.fence n).2.leftOk:=by
 have hs:=spend_left R hl
 unfold RF.fence
 split
 ·exact hl
 ·split
  ·exact hl
  ·split <;> exact hs
theorem put_left (R:RF) (hl:R.leftOk) (n:Int) (v:Nat):(R.put n v).2.leftOk:=by
 have hs:=spend_left R hl
 unfold RF.put
 split
 ·exact hl
 ·split
  ·exact hl
  ·split <;> exact hs
theorem Both2.more {m:Nat} (h:Both2 D R k) (hm:k≤m):Both2 D R m:=⟨h.sim,h.tame.mono hm,h.fit.more hm,h.left⟩
theorem Both2.trim (h:Both2 D R k):Both2 D R.trim k:=⟨h.sim.trim,h.tame,h.fit.trim,h.left⟩
theorem Both2.step (h:Both2 D R k) (o:DOp) (hn:o.n≤9223372036854775807) (hk:o.keep.length≤1000000):Both2 (o.doD R D) (o.doR R) (k+o.data.size / 64):=by
 unfold DOp.doD DOp.doR
 split
 ·exact ⟨(h.sim.write h.left _ _ _ _).2,h.tame.write _ _ _ _,h.fit.write _ _ _ _,write_left R h.left _ _ _ _⟩
 split
 ·exact Both2.more ⟨(h.sim.barrier h.left _ _).2,h.tame.barrier _ _,h.fit.barrier _ _,barrier_left R h.left _ _⟩ (by omega)
 split
 ·exact Both2.more ⟨(h.sim.admit h.left _ _).2,h.tame.admitM _ _,h.fit.admit _ _,admit_left R h.left _ _⟩ (by omega)
 split
 ·exact Both2.more ⟨(h.sim.fence h.left _).2,h.tame.fence _,h.fit.fence _,fence_left R h.left _⟩ (by omega)
 split
 ·exact Both2.more ⟨(h.sim.put h.left _ _).2,h.tame.put _ _,h.fit.put _ _,put_left R h.left _ _⟩ (by omega)
 split
 ·exact Both2.more ⟨(h.sim.cut _).2,h.tame.cut _,h.fit.cut _,cut_left R h.left _⟩ (by omega)
 split
 ·exact Both2.more ⟨h.sim.restore,⟨h.tame.sectors,h.tame.waits,h.tame.seq,h.tame.wf⟩,h.fit.restore,h.left⟩ (by omega)
 split
 ·exact Both2.more ⟨h.sim.arm _ _,⟨h.tame.sectors,h.tame.waits,h.tame.seq,h.tame.wf⟩,h.fit.arm _ _ hn hk,hn⟩ (by omega)
 ·exact h.more (by omega)
end
def wholeN (E:Int) (D3:Dk):Nat:=if E=0 then (D3.arrL 10).length else 0
def WhPost (o:Nat→Nat) (c2:Nat) (w:World) (E:Int) (D3:Dk) (e:Ending) (w':World):Prop :=
 ∃A cap,e = .returned (.tuple #[.slice A (wholeN E D3) cap, .int .i64 E])∧∃o',(E=0→OwnS o' 0 w' 47 3 (.slice A (wholeN E D3) cap) (wholeN E D3) (imcells (D3.arrL 10)))∧Step o (six c2) w o' w'
theorem WhPost.err {o o':Nat→Nat} {c2:Nat} {w w':World} {E:Int} {D3:Dk} {e:Ending} (h:E≠0) (he:e = .returned (.tuple #[.slice none 0 0, .int .i64 E])) (hs:Step o (six c2) w o' w'):WhPost o c2 w E D3 e w':=by
 have hn:wholeN E D3=0:=if_neg h
 refine ⟨none,0,?_,o',fun h0=>absurd h0 h,hs⟩
 rw [hn]
 exact he
inductive Done (D1:Dk) (ep:Nat):Nat→Dk→Prop where
 | one:Done D1 ep 1 D1
 | two {D2:Dk}:redoneR D1 ep 1=(0,D2)→Done D1 ep 2 D2
 | three {D2 D3:Dk}:redoneR D1 ep 1=(0,D2)→redoneR D2 ep 2=(0,D3)→Done D1 ep 3 D3
theorem Done.next {D1 D D':Dk} {ep i:Nat} (h:Done D1 ep i D) (hi:i≤2) (hr:redoneR D ep i=(0,D')):Done D1 ep (i+1) D':=by
 cases h with
 | one=>exact .two hr
 | two h1=>exact .three h1 hr
 | three h1 h2=>omega
theorem Done.fall {D D1 D':Dk} {i:Nat} (h:Done D1 (D.last+1) i D') (hi:i≤2) (hl:D.last≠18446744073709551615) (ha:D.admit 0 (D.last+1)=(0,D1)) (hr:(redoneR D' (D.last+1) i).1≠0):(wholeR D).1=15:=by
 have h15:∀(E:Dk) (n:Int),(redoneR E (D.last+1) n).1≠0→(redoneR E (D.last+1) n).1=15:=by
  intro E n h
  unfold redoneR at h ⊢
  split
  ·rfl
  ·rename_i h1
   rw [if_neg h1] at h
   split
   ·rfl
   ·rename_i h2
    rw [if_neg h2] at h
    exact absurd rfl h
 unfold wholeR
 rw [if_neg hl,ha]
 simp only [ne_eq,not_true_eq_false,if_false]
 cases h with
 | one =>
   have hr':¬(redoneR D1 (D.last+1) 1).1=0:=hr
   rw [if_pos hr']
   exact h15 _ _ hr'
 | two h1 =>
   rw [h1]
   simp only [not_true_eq_false,if_false]
   have hr':¬(redoneR D' (D.last+1) 2).1=0:=hr
   rw [if_pos hr']
   exact h15 _ _ hr'
 | three h1 h2=>omega
theorem Done.all {D D1 D3:Dk} (h:Done D1 (D.last+1) 3 D3) (hl:D.last≠18446744073709551615) (ha:D.admit 0 (D.last+1)=(0,D1)):wholeR D=if D3.arrB 10≠[] then (15,D3) else (0,D3):=by
 cases h with
 | three h1 h2 =>
   unfold wholeR
   rw [if_neg hl,ha]
   simp only [ne_eq,not_true_eq_false,if_false]
   rw [h1]
   simp only [not_true_eq_false,if_false]
   rw [h2]
   simp only [not_true_eq_false,if_false]
theorem whole_max {D:Dk} (h:D.last=18446744073709551615):wholeR D=(15,D):=if_pos h
theorem whole_admit {D D1:Dk} {E1:Int} (h:D.last≠18446744073709551615) (ha:D.admit 0 (D.last+1)=(E1,D1)) (hE:E1≠0):wholeR D=(E1,D1):=by
 unfold wholeR
 rw [if_neg h,ha]
 exact if_pos hE
section
variable {o:Nat→Nat} {c2 p k:Nat} {w:World} {D:Dk}
set_option maxRecDepth 100000 in
set_option maxHeartbeats 8000000 in
theorem awhole_any (htw:∀W:World,Below w.heap.size w W→Calls Tryz.prog 31 #[.pointer (some ⟨p,0,none⟩)] W fun e w'=>∃t,e = .returned (.pointer (some ⟨t,0,none⟩))∧∃o',DiskAt o' c2 w' t D∧Step o (fun _=>False) W o' w') (ht:Tame D k) (hk:k≤100000) (hc2:1≤c2) (hf:Fut o w) (hlast:D.last<18446744073709551616) :
 Calls Tryz.prog 12 #[.pointer (some ⟨p,0,none⟩), .agg #[.int .i64 2, .int .i64 10, .int .i64 8, .int .i64 4, .int .i64 32]] w (WhPost o c2 w (wholeR D).1 (wholeR D).2):=by
 have HTW:=Lib.hid (htw (w.alloc (.cells #[.int .i64 2, .int .i64 10, .int .i64 8, .int .i64 4, .int .i64 32] 30)) ((Below.refl _ _).alloc (Nat.le_refl _) _))
 have HX:=Lib.hid (Keep.new hf 30 #[.int .i64 2, .int .i64 10, .int .i64 8, .int .i64 4, .int .i64 32])
 have HF:=Lib.hid (hf.alloc (.cells #[.int .i64 2, .int .i64 10, .int .i64 8, .int .i64 4, .int .i64 32] 30))
 have HS:=Lib.hid ((Step.refl o (six c2) w).alloc (.cells #[.int .i64 2, .int .i64 10, .int .i64 8, .int .i64 4, .int .i64 32] 30))
 have HT:=Lib.hid ht
 have HK:=Lib.hid hk
 have HC:=Lib.hid hc2
 have HN0:=Lib.hid (no_six hc2)
 have HN7:=Lib.hid (show ¬six c2 (c2+6) by unfold six;omega)
 have HLA:=Lib.hid hlast
 obtain ⟨⟨E,D9⟩,hW⟩:∃R,wholeR D=R:=⟨_,rfl⟩
 have HW:=Lib.hid hW
 rw [hW]
 clear htw ht hk hc2 hf hlast hW
 simp only
 go_enter Tryz.func12,Tryz.ntmps12
 go_upto_region 1 with (fail)
 generalize w.alloc (.cells #[.int .i64 2, .int .i64 10, .int .i64 8, .int .i64 4, .int .i64 32] 30)=W1 at HTW HX HF HS ⊢
 generalize w.heap.size=X at HX ⊢
 go_wp2_with fail
 refine HTW.out.mono ?_
 rintro e w2 ⟨t,rfl,o2,hd2,hs2⟩
 have HD2:=Lib.hid hd2
 have HX2:=Lib.hid (HX.out.step hs2 id)
 have HF2:=Lib.hid (HF.out.step hs2)
 have HS2:=Lib.hid (HS.out.trans (hs2.mono (fun _ h=>h.elim)))
 clear hd2 hs2 HTW HX HF HS
 go_wp2_with fail
 refine (dlast_any HD2.out).mono ?_
 rintro e w3 ⟨rfl,rfl⟩
 by_cases hl:D.last=18446744073709551615
 ·have HE:=Lib.hid (show E=15 from congrArg Prod.fst (HW.out.symm.trans (whole_max hl)))
  rw [hl]
  go_wp2_with fail
  go_ret2
  exact WhPost.err (by rw [HE.out];decide) (by rw [HE.out];first | done | rfl) HS2.out
 ·have bl:((D.last:Int) == 18446744073709551615)=false:=by simp;omega
  have HL:=Lib.hid hl
  obtain ⟨EP,hEP⟩:∃EP,D.last+1=EP:=⟨_,rfl⟩
  have HEP:=Lib.hid hEP
  have hw:IntKind.u64.wrap ((D.last:Int)+1)=(EP:Int):=by rw [IntKind.wrap_u64];have:=HLA.out;omega
  clear hl hEP
  go_wp2_with fail
  refine (dlast_any HD2.out).mono ?_
  rintro e w4 ⟨rfl,rfl⟩
  clear bl
  go_wp2_with fail
  first | rw [hw] | skip
  clear hw
  refine (dadmit_calm HD2.out 0 EP).mono ?_
  rintro e w5 ⟨rfl,o5,hd5,hs5⟩
  have HT5:=Lib.hid (HT.out.admitM 0 EP)
  obtain ⟨⟨E1,D1⟩,hA⟩:∃R,D.admit 0 EP=R:=⟨_,rfl⟩
  rw [hA] at hd5 HT5 ⊢
  simp only at hd5 HT5 ⊢
  have HD5:=Lib.hid hd5
  have HX5:=Lib.hid (HX2.out.step hs5 HN0.out)
  have HF5:=Lib.hid (HF2.out.step hs5)
  have HS5:=Lib.hid (HS2.out.trans hs5)
  clear hd5 hs5 HD2 HX2 HF2 HS2
  by_cases hE1:E1=0
  ·subst hE1
   have HAD:=Lib.hid (show D.admit 0 (D.last+1)=(0,D1) by rw [HEP.out];exact hA)
   clear hA
   go_wp2_with fail
   go_loopg [9] 2 (fun n t9 wr=>∃(i:Nat) (Dn:Dk) (on:Nat→Nat),n+i=3∧1≤i∧t9 = .int .i64 (i:Nat)∧Done D1 EP i Dn∧DiskAt on c2 wr t Dn∧Tame Dn (k+2001*i)∧Keep on wr X 30 #[.int .i64 2, .int .i64 10, .int .i64 8, .int .i64 4, .int .i64 32]∧Fut on wr∧Step o (six c2) w on wr)
   case atStart=>exact ⟨1,D1,o5,by omega,by omega,rfl, .one,HD5.out,HT5.out.mono (by omega),HX5.out,HF5.out,HS5.out⟩
   case round =>
    obtain ⟨i,Dn,on,hni,hi1,rfl,hdn,hd,htn,hx,hf,hs⟩:=hrel
    have HNI:=Lib.hid hni
    have HDN:=Lib.hid hdn
    have HD:=Lib.hid hd
    have HTN:=Lib.hid htn
    have HX:=Lib.hid hx
    have HF:=Lib.hid hf
    have HS:=Lib.hid hs
    have HI1:=Lib.hid hi1
    have hi3:(i:Int)≤3:=by omega
    clear hni hdn hd htn hx hf hs hi1 HD5 HT5 HX5 HF5 HS5
    obtain ⟨x0,x1,x2,x3,x4⟩:=HX.out.1.five
    by_cases hlt:i≤2
    ·have hltI:(i:Int)≤2:=by omega
     have HI2:=Lib.hid hlt
     have HSM:=Lib.hid (scan_small Dn (i:Int))
     obtain ⟨L,hLp⟩:∃L,planOf (Dn.scan (i:Int))=L:=⟨_,rfl⟩
     have HPL:=Lib.hid hLp
     have HRD:=Lib.hid (show redoneR Dn EP (i:Int)=if Dn.scanE (i:Int)≠0 then (15,Dn) else if (applyR Dn 0 EP L).e≠0 then (15,(applyR Dn 0 EP L).D) else (0,(applyR Dn 0 EP L).D) by rw [←hLp];rfl)
     clear hLp hlt
     go_wp2_with fail
     refine (escan_any HD.out (by rw [HTN.out.sectors];decide) HTN.out.wf (i:Int)).mono ?_
     rintro r w6 ⟨A,cap,rfl,o6,vs,hra⟩
     have hlow:=hra.env.low
     have HD6:=Lib.hid (HD.out.below_ hlow)
     have HF6:=Lib.hid (HF.out.below hlow)
     have HX6:=Lib.hid (HX.out.below_ hlow)
     have HS6:=Lib.hid (HS.out.trans (Step.of_below on (six c2) hlow))
     obtain ⟨s1,s2⟩:=HSM.out
     obtain ⟨p1,p2⟩:=plan_small s2
     rw [HPL.out] at p1 p2
     have HPC:=Lib.hid (show Calls Tryz.prog 34 #[.slice A (Dn.scan (i:Int)).length cap] w6.drew fun e w'=>∃A' cap',e = .returned (.slice A' L.length cap')∧OwnS (band on w6.drew.heap.size w'.heap.size (c2+6)) (c2+6) w' 47 3 (.slice A' L.length cap') L.length (imcells L)∧Below w6.drew.heap.size w6.drew w' from by
      have h:=eplan_any on (c2+6) (Dn.scan (i:Int)) vs A cap w6.drew (hra.rd.below_ (below_drew' (Below.refl _ _))) (by omega) (fun r hr=>⟨by have:=(s2 r hr).1;omega,fun j hj=>by obtain ⟨a,b,c,d⟩:=(s2 r hr).2 j hj;exact ⟨by omega,by unfold iRange;omega⟩⟩)
      rw [HPL.out] at h
      exact h)
     have HLL:=Lib.hid (show L.length≤100000 by omega)
     have HLS:=Lib.hid (show L.length≤1000 by omega)
     have HIB:=Lib.hid (show ∀j∈L,j.data.size≤maxLen∧j.ver<18446744073709551616 from fun j hj=>by obtain ⟨a,b,c,d⟩:=p2 j hj;exact ⟨by unfold maxLen;omega,b⟩)
     generalize Dn.scan (i:Int)=rs at HPC ⊢
     obtain ⟨Q,hQ⟩:∃Q,Dn.scanE (i:Int)=Q:=⟨_,rfl⟩
     rw [hQ] at HRD ⊢
     clear hlow hra s1 s2 p1 p2 HSM HPL x0 x1 x2 x3 x4 hQ HD HF HX HS
     by_cases c0:Q=0
     ·subst c0
      go_upto_region 15 with (fail)
      have z5:=HX6.out.drew.1.five
      go_region_held3 (fun w'=>w'.cell? ⟨X,0,none⟩=some (.int .i64 2)∧w'.cell? ⟨X,1,none⟩=some (.int .i64 10)∧w'.cell? ⟨X,2,none⟩=some (.int .i64 8)∧w'.cell? ⟨X,3,none⟩=some (.int .i64 4)∧w'.cell? ⟨X,4,none⟩=some (.int .i64 32))
       (first | exact z5 | exact hg8.1.five | exact hg7.1.five | go_keep)
       (first
         | (go_at_call 34;((with_reducible refine (HPC.out).mono ?_);rintro e7 w7 ⟨A7,cap7,rfl,hown7,hb7⟩;have hst7:Step on (fun _=>False) w6.drew (band on w6.drew.heap.size w7.heap.size (c2+6)) w7:=Step.of_below_band on _ (c2+6) hb7;have hg7:=HX6.out.drew.step hst7 id))
         | (go_at_call 33;((with_reducible refine (eapply_any (HD6.out.drew.step hst7 (fun _ _ _=>id)) HTN.out (by have:=HK.out;have:=HI2.out;omega) HC.out (HF6.out.drew.step hst7) HN7.out L A7 cap7 hown7 HLL.out HIB.out 0 EP).mono ?_);rintro r8 w8 ⟨rfl,o8,hd8,ht8,hs8⟩;have hg8:=hg7.step hs8 HN0.out)))
      have HD8:=Lib.hid hd8
      have HT8:=Lib.hid (ht8.mono (m:=k+2001*(i+1)) (by have:=HLS.out;omega))
      have HX8:=Lib.hid hg8
      have HF8:=Lib.hid ((HF6.out.drew.step hst7).step hs8)
      have HS8:=Lib.hid (HS6.out.trans (((hst7.of_drew).mono (fun _ h=>h.elim)).trans hs8))
      clear hd8 ht8 hg8 hs8 hst7 hg7 hown7 hb7 z5 HPC HIB HD6 HX6 HF6 HS6
      obtain ⟨P,hP⟩:∃P,applyR Dn 0 EP L=P:=⟨_,rfl⟩
      rw [hP] at HRD HD8 HT8 ⊢
      obtain ⟨n8,e8,D8⟩:=P
      simp only at HRD HD8 HT8 ⊢
      clear hP
      by_cases c1:e8=0
      ·subst c1
       have HNX:=Lib.hid (HDN.out.next (D':=D8) HI2.out (by rw [HRD.out];simp))
       go_wp2_with fail
       go_roundg (2 - i)
       case measure=>have:=HNI.out;have:=HI2.out;omega
       case rel=>exact ⟨i+1,D8,o8,by have:=HI2.out;omega,by omega,by go_num,HNX.out,HD8.out,HT8.out,HX8.out,HF8.out,HS8.out⟩
      ·have HE:=Lib.hid (show E=15 by
        have:=Done.fall (D:=D) (by rw [HEP.out];exact HDN.out) HI2.out HL.out HAD.out (by rw [HEP.out,HRD.out];simp [c1])
        rw [HW.out] at this
        exact this)
       have b8:(e8 != 0)=true:=by simp [c1]
       clear c1
       go_wp2_with fail
       go_ret2
       exact WhPost.err (by rw [HE.out];decide) (by rw [HE.out];first | done | rfl) HS8.out
     ·have HE:=Lib.hid (show E=15 by
       have:=Done.fall (D:=D) (by rw [HEP.out];exact HDN.out) HI2.out HL.out HAD.out (by rw [HEP.out,HRD.out];simp [c0])
       rw [HW.out] at this
       exact this)
      have b0:(Q == 0)=false:=by simp [c0]
      have b1:(Q != 0)=true:=by simp [c0]
      clear c0
      go_wp2_with fail
      go_ret2
      exact WhPost.err (by rw [HE.out];decide) (by rw [HE.out];first | done | rfl) HS6.out
    ·have hltI:¬(i:Int)≤2:=by omega
     obtain rfl:i=3:=by have:=HNI.out;omega
     have HWE:=Lib.hid (show wholeR D=if Dn.arrB 10≠[] then (15,Dn) else (0,Dn) from Done.all (by rw [HEP.out];exact HDN.out) HL.out HAD.out)
     rw [HW.out] at HWE
     go_wp2_with fail
     refine (aarray_any HD.out HTN.out HF.out).mono ?_
     rintro e w6 ⟨A,cap,B,cb,rfl,ha,_,hb⟩
     have HS6:=Lib.hid (HS.out.trans (Step.of_below on (six c2) hb))
     have HA6:=Lib.hid ha
     clear ha hb x0 x1 x2 x3 x4 HD HX HF HS
     by_cases hB:Dn.arrB 10 = []
     ·have HE:=Lib.hid (show E=0∧D9=Dn by have:=HWE.out;rw [if_neg (by rw [hB];simp)] at this;exact ⟨congrArg Prod.fst this,congrArg Prod.snd this⟩)
      rw [hB]
      go_wp2_with fail
      go_ret2
      refine ⟨A,cap,?_,on,fun h0 => ?_,HS6.out⟩
      ·rw [HE.out.1,HE.out.2]
       rfl
      ·rw [HE.out.1,HE.out.2]
       exact HA6.out
     ·have HE:=Lib.hid (show E=15 by have:=HWE.out;rw [if_pos hB] at this;exact congrArg Prod.fst this)
      have hBI:(0:Int)<((Dn.arrB 10).length:Int):=by
       have:=List.length_pos_iff.2 hB
       omega
      clear hB
      go_wp2_with fail
      go_ret2
      exact WhPost.err (by rw [HE.out];decide) (by rw [HE.out];first | done | rfl) HS6.out
  ·have HE:=Lib.hid (show E=E1 from congrArg Prod.fst (HW.out.symm.trans (whole_admit HL.out (by rw [HEP.out];exact hA) hE1)))
   have HNE:=Lib.hid hE1
   have bE:(E1 != 0)=true:=by simp [hE1]
   clear hE1 hA
   go_wp2_with fail
   go_ret2
   exact WhPost.err (by rw [HE.out];exact HNE.out) (by rw [HE.out];first | done | rfl) HS5.out
end
end Go.Proofs.YtldoeodkeieejaaGreatDoor
