import Derived.Test.YtldoeodkeieejaaGreatDoorKLawV
import Derived.Test.YtldoeodkeieejaaGreatDoorKLogG
namespace Go.Proofs.YtldoeodkeieejaaGreatDoor
open Go.RowKit
structure Quiet (D:Dk):Prop where
 sane:Sane D 0
 waits:D.waits = []
section
variable {D E:Dk} {k:Nat}
theorem Quiet.same (h:Quiet D) (h1:E.waits=D.waits) (h2:E.now=D.now) (h3:E.lasts=D.lasts) (h4:E.seq=D.seq):Quiet E:=by
 have hl:lastD E=lastD D:=by
  unfold lastD
  rw [h3]
 obtain ⟨s0,c0,c1,c2⟩:=h.sane.chain
 refine ⟨⟨fun x hx=>h.sane.nodes x (h1▸hx),by rw [h2,hl,h1];exact h.sane.now,s0,c0,fun k x hx=>c1 k x (h3▸hx),by rw [h1,h4];exact c2⟩,h1.trans h.waits⟩
theorem Quiet.wrote (h:Quiet D) (n:Int) (a:Int) (data:ByteArray) (m:Nat):Quiet ((D.writeN n a data m).settle n):=by
 obtain ⟨a,b,_⟩:=((h.sane.any h.waits n).writeN a data m).settle 0
 exact ⟨a,b⟩
theorem Quiet.settle (h:Quiet D) (n:Int):Quiet (D.settle n):=h.wrote n 0 ⟨#[]⟩ 0
theorem Quiet.fence (h:Quiet D) (hc:Calm D k) {n:Nat} (hn:n≤16):Quiet (D.fence n).2:=by
 rw [(hc.fence hn).1]
 exact (h.settle n).same rfl rfl rfl rfl
theorem Quiet.put (h:Quiet D) (hc:Calm D k) {n:Nat} (hn:n≤16) (v:Nat):Quiet (D.put n v).2:=by
 rw [(hc.put hn v).1]
 exact h.same rfl rfl rfl rfl
theorem Quiet.admit (h:Quiet D) (hc:Calm D k) {n:Nat} (hn:n≤16) {e:Nat} (he:D.last<e):Quiet (D.admit n e).2:=by
 rw [(hc.admit hn he).1]
 exact h.same rfl rfl rfl rfl
theorem quiet_fmt (h:Quiet D) (hc:Calm D k):∀j,j≤17→Quiet (D.fmtN j)
 | 0,_=>h
 | j+1,hj=>((quiet_fmt h hc j (by omega)).fence (fmt_calm hc j (by omega)).1 (by omega)).put ((fmt_calm hc j (by omega)).1.fence (by omega)).2 (by omega) 0
theorem sane_zeros (h:Sane D 0):∀j,Sane (D.zerosN j) 0
 | 0=>h
 | j+1=>(sane_zeros h j).writeN _ _ _
theorem quiet_lay (h:Quiet D):Quiet D.layF:=by
 obtain ⟨a,b,_⟩:=(sane_zeros h.sane 3).settle 0
 exact Quiet.wrote ⟨a,b⟩ (0:Nat) 0 (str superL) 1
end
theorem quiet_fresh : Quiet (Dk.fresh 37):=⟨⟨(fun x hx=>by cases hx),rfl,0,Int.le_refl _,(fun k x hx=>by cases hx),Int.le_refl _⟩,rfl⟩
set_option maxRecDepth 100000 in
theorem quiet_format {D:Dk} (h:Quiet D) (hc:Calm D 0) (hl:D.last=0):Quiet D.formatF:=by
 obtain ⟨f1,f2,f3⟩:=fmt_calm hc 17 (by omega)
 have f2':(D.fmtN 17).last<1:=by rw [f2,hl];omega
 have q1:=(quiet_fmt h hc 17 (by omega)).admit f1 (n:=0) (by omega) f2'
 obtain ⟨a1,a2⟩:=f1.admit (n:=0) (by omega) (e:=1) f2'
 have e:D.formatF=(((D.fmtN 17).admit (0:Nat) 1).2.layF.fence (0:Nat)).2:=by unfold Dk.formatF;rw [hl];rfl
 rw [e]
 generalize ((D.fmtN 17).admit (0:Nat) 1).2=E at q1 a2
 exact (quiet_lay q1).fence (lay_calm a2) (by omega)
set_option maxRecDepth 100000 in
theorem quiet_ready : Quiet readyD:=by
 have q:=quiet_format quiet_fresh calm_fresh fresh_last
 obtain ⟨f1,f2,_⟩:=format_facts calm_fresh fresh_last
 have e1:readyD=((Dk.fresh 37).formatF.admit (1:Nat) 9).2:=rfl
 have hls:(Dk.fresh 37).formatF.last<9:=by rw [f2];omega
 rw [e1]
 generalize (Dk.fresh 37).formatF=F at q f1 hls
 exact q.admit f1 (by omega) hls
section
variable {D:Dk} {k t2 ls:Nat} {h l1 l2 l3:List UInt8} {f:Nat→Im}
theorem open_form (hc:Calm D k) (ht:D.table 1=9):(D.lhead lg0 ⟨9,1,0⟩).2=(D.writeN (1:Nat) 1 (str hd9) 1).settle (1:Nat):=by
 rw [(lhead_ok hc (g:=lg0) (by decide) ht (by decide) (by decide) hd9_ok).1]
 rfl
end
def Zeros (D:Dk):Prop:=∀k:Int,9≤k→D.sec k=str (zer 64)
theorem Zeros.wrote {D:Dk} (h:Zeros D) (n a:Int) (data:ByteArray) (m:Nat) (ha:a+m≤9):Zeros (D.writeN n a data m):=fun k hk=>by
 rw [writeN_sec,if_neg (by omega)]
 exact h k hk
theorem Zeros.settle {D:Dk} (h:Zeros D) (n:Int):Zeros (D.settle n):=fun k hk=>(settle_sec D n k).trans (h k hk)
theorem Zeros.now {D E:Dk} (h:Zeros D) (he:E.now=D.now):Zeros E:=fun k hk=>(sec_congr he k).trans (h k hk)
section
variable {D D0:Dk} {l:List Im} {lg:Int→ByteArray} {A:Int→ByteArray→Prop} {e:Nat}
theorem Run2.arm (h:Run2 D e A) (n:Int) (keep:List Int):Run2 (D.arm n keep) e A:=⟨h.on,h.sectors,h.t2,⟨h.sane.nodes,h.sane.now,h.sane.chain⟩,⟨h.safe.last,h.safe.wait⟩⟩
end
theorem used_three : ∀(l:List En) (n:Nat),(∀x∈l,x.n=3)→l.foldl (fun n x=>n+x.n) n=n+3*l.length
 | [],n,_=>rfl
 | x :: l,n,h=>by
   rw [List.foldl_cons,used_three l _ (fun y hy=>h y (List.mem_cons_of_mem _ hy)),h x (List.mem_cons_self ..),List.length_cons]
   omega
section
variable {ims:List Im} {D:Dk} {g:Lg}
theorem Lv.ens (h:Lv ims D g):Ens g.live∧(∀x∈g.live,x.n=3):=by
 have key:∀x∈g.live,x.at_<7∧x.n=3∧(x.written=false→x.bytes.size=x.n*64):=by
  intro x hx
  obtain ⟨t,ht,e⟩:=List.getElem_of_mem hx
  obtain ⟨i,_,e2⟩:=h.live t x (by rw [←e];exact List.getElem?_eq_getElem ht)
  rw [e2]
  split
  ·exact ⟨Nat.mod_lt _ (by omega),rfl,fun e=>by cases e⟩
  ·exact ⟨Nat.mod_lt _ (by omega),rfl,fun _=>entry_size _ _ _⟩
 exact ⟨fun x hx=>⟨(key x hx).1,by rw [(key x hx).2.1];omega,(key x hx).2.2⟩,fun x hx=>(key x hx).2.1⟩
theorem Lv.used (h:Lv ims D g):g.used=3*g.live.length:=by
 unfold Lg.used
 rw [used_three _ _ h.ens.2]
 omega
theorem Lv.add (h:Lv ims D g) (l:List Im) (hv:∀i∈l,i.ver<18446744073709551616) (hN:ims.length<100000):(g.addE l≠0∧g.addG l=g)∨∃i,l = [i]∧g.addE l=0∧Lv (ims ++ [i]) D (g.addG l):=by
 by_cases h0:g.addE l=0
 ·right
  have hg:g.addG l = {g with live:=g.live ++ [g.entry l],at_:=(g.at_+secsOf l.length) % 7,next:=(g.next+1) % 18446744073709551616}:=if_neg (by rw [h0];decide)
  unfold Lg.addE at h0
  rw [if_neg (by rw [h.whole];decide)] at h0
  split at h0
  ·rename_i h1
   exact absurd h0 h1
  ·rename_i h1
   split at h0
   ·omega
   ·rename_i h2
    split at h0
    ·omega
    ·rename_i h3
     have h1:(Rc.mk g.epoch g.next l).wrongE=0:=Decidable.not_not.1 h1
     obtain ⟨w1,w2,w3,w4,w5,w6⟩:=wrong_zero h1
     have w3:l≠[]:=w3
     have w4:∀i∈l,i.right:=w4
     obtain ⟨i,rfl⟩:∃i,l = [i]:=by
      cases l with
      | nil=>exact absurd rfl w3
      | cons i t =>
        cases t with
        | nil=>exact ⟨i,rfl⟩
        | cons j t=>exact absurd (by simp) h2
     ·have hfi:Fine i:=⟨w4 i (List.mem_singleton.2 rfl),hv i (List.mem_singleton.2 rfl)⟩
      have hu:=h.used
      have e3:secsOf (([i]:List Im).length:Int)=3:=secs_one
      rw [e3] at h3 hg
      have len:=h.len
      have few:=h.few
      have f1:=h.f1
      have f2:=h.f2
      have sw:=h.sw
      have wn:=h.wn
      have hen:g.entry [i]=enM (ims.length+1) i:=by
       unfold Lg.entry enM enOf Rc.putS
       rw [h.next,h.at_,h.epoch,e3]
       rw [h.next,h.epoch] at h1
       rw [if_pos h1,Nat.add_sub_cancel]
       rfl
      rw [hen] at hg
      have hge:g.addE [i]=0:=by
       unfold Lg.addE
       rw [if_neg (by rw [h.whole];decide),if_neg (by rw [h1];decide),if_neg (by simp),e3,if_neg h3]
      refine ⟨i,rfl,hge,?_⟩
      rw [hg]
      have htk:(ims ++ [i]).take g.written=ims.take g.written:=List.take_append_of_le_length wn
      refine ⟨by show Run1 D 9 (AA ((ims ++ [i]).take g.written) _ g.first g.synced);rw [htk];exact h.run,h.node,h.epoch,h.base,?_,?_,h.whole,f1,f2,sw,?_,?_,?_,?_,?_,?_,?_,?_⟩
      ·show (g.next+1) % 18446744073709551616=_
       rw [h.next,List.length_append,List.length_singleton,Nat.mod_eq_of_lt (by omega)]
      ·show (g.at_+3) % 7=_
       rw [h.at_,List.length_append,List.length_singleton]
       omega
      ·show g.written≤_
       rw [List.length_append]
       omega
      ·show _<g.first+2
       rw [List.length_append,List.length_singleton]
       omega
      ·intro j hj
       rcases List.mem_append.1 hj with hj | hj
       ·exact h.fine j hj
       ·rw [List.mem_singleton.1 hj]
        exact hfi
      ·show (g.live ++ [_]).length=_+1 - g.first
       rw [List.length_append,List.length_singleton,List.length_append,List.length_singleton,len]
       omega
      ·intro t x hx
       have hx:(g.live ++ [enM (ims.length+1) i])[t]? = some x:=hx
       show ∃j,(ims ++ [i])[g.first+t - 1]? = some j∧x=if g.first+t≤g.written then _ else _
       by_cases ht:t<g.live.length
       ·rw [List.getElem?_append_left ht] at hx
        obtain ⟨j,j0,j1⟩:=h.live t x hx
        exact ⟨j,by rw [List.getElem?_append_left (List.getElem?_eq_some_iff.1 j0).1];exact j0,j1⟩
       ·have hl:=(List.getElem?_eq_some_iff.1 hx).1
        rw [List.length_append,List.length_singleton] at hl
        have et:t=g.live.length:=by omega
        subst et
        rw [List.getElem?_append_right (Nat.le_refl _),Nat.sub_self] at hx
        have e9:g.first+g.live.length=ims.length+1:=by omega
        rw [e9]
        refine ⟨i,by rw [Nat.add_sub_cancel,List.getElem?_append_right (Nat.le_refl _),Nat.sub_self];rfl,?_⟩
        rw [if_neg (by omega)]
        simpa using hx.symm
      ·intro m j c m1 m2 mi hc
       have m1:g.first≤m:=m1
       have m2:m≤g.written:=m2
       rw [List.getElem?_append_left (by omega)] at mi
       exact h.now m j c m1 m2 mi hc
      ·rw [List.length_append,List.length_singleton]
       omega
      ·exact h.last
 ·exact .inl ⟨h0,if_pos h0⟩
end
set_option maxRecDepth 100000 in
theorem lv_open : Lv [] (readyD.lhead lg0 ⟨9,1,0⟩).2 lg0∧(readyD.lhead lg0 ⟨9,1,0⟩).1=0∧(readyD.lhead lg0 ⟨9,1,0⟩).2.armed=false:=by
 obtain ⟨c1,c2,c3,c4⟩:=ready_facts
 have hq:=quiet_ready
 have e:=open_form c1 c3
 have e0:=(lhead_ok c1 (g:=lg0) (by decide) c3 (by decide) (by decide) hd9_ok)
 have hsc:=writeN_sec readyD ((1:Nat):Int) 1 (str hd9) 1
 generalize readyD=D at c1 c2 c3 c4 hq e e0 hsc
 have s1:=writeN_same D ((1:Nat):Int) 1 (str hd9) 1
 have s2:=settle_same (D.writeN ((1:Nat):Int) 1 (str hd9) 1) ((1:Nat):Int)
 have h0:sect (str hd9) 0=str hd9:=by
  unfold sect
  rw [extract_str]
  congr 1
  all_goals unfold hd9
  all_goals rw [Nat.zero_mul,List.drop_zero,List.take_of_length_le (by rw [headL_len];first | done | omega)]
 have hsa:Sane D ((1:Nat):Int):=hq.sane.any hq.waits _
 have hst:=(hsa.writeN 1 (str hd9) 1).settle ((1:Nat):Int)
 refine ⟨?_,by rw [e0.1],?_⟩
 ·rw [e]
  refine ⟨⟨s2.1.trans (s1.1.trans c1.on),s2.2.2.1.trans (s1.2.2.1.trans c1.sectors),by rw [(settle_tab _ _).1,s1.2.2.2.2.2.1];exact c3,hst.1,safe_of_sec hst.1 hst.2.1 (fun k => ?_)⟩,rfl,rfl,rfl,rfl,rfl,rfl,Nat.le_refl _,Nat.le_refl _,Nat.le_refl _,Nat.le_refl _,by show 0<3;decide,(fun i hi=>by cases hi),rfl,(fun t x hx=>by cases hx),(fun m i c m1 m2 mi=>by cases mi),Nat.zero_le _,s2.2.2.2.1.trans (s1.2.2.2.1.trans c2)⟩
  rw [settle_sec,hsc]
  refine ⟨fun e=>⟨1,rfl,?_⟩,fun j hj e=>⟨zer 64,?_, .inl rfl⟩,(fun m i c _ _ mi=>by cases mi),fun e=>by rw [if_neg (by omega),c4,if_neg (by omega)]⟩
  ·rw [if_pos (by omega),show (k - 1).toNat=0 by omega,h0]
   rfl
  ·rw [if_neg (by omega),c4,if_neg (by omega)]
 ·rw [e]
  exact s2.2.1.trans (s1.2.1.trans c1.armed)
def Lost (ims:List Im) (D:Dk) (F S:Nat):Prop:=∃(hs:Nat→Prop) (F0:Nat),Off1 D 9 (AA ims hs F0 S)∧1≤F0∧S≤ims.length∧ims.length<F0+2∧(∀i∈ims,Fine i)∧ims.length≤100000∧(∀H,hs H→F0≤H∧H≤S+1∧H≤F)
def Hed (ims:List Im) (D:Dk) (g:Lg) (F S:Nat):Prop:=(D.on=true∧Lv ims D g∧F=g.first∧S=g.synced)∨(D.on=false∧Lost ims D F S)
section
variable {ims:List Im} {D:Dk} {g:Lg} {F S:Nat}
theorem Found.sub {ims ims':List Im} {H:Nat} {x:List Rc} (h:Found ims H x) (hs:∀(j:Nat) y,ims[j]? = some y→ims'[j]? = some y):Found ims' H x :=
 ⟨fun n r hr=>by obtain ⟨i,e,e2⟩:=h.at_ n r hr;exact ⟨i,hs _ _ e,e2⟩⟩
theorem Hed.len (h:Hed ims D g F S):ims.length≤100000∧∀i∈ims,Fine i:=by
 rcases h with ⟨_,hl,_,_⟩ | ⟨_,_,_,_,_,_,_,h4,h5,_⟩
 ·exact ⟨hl.few60,hl.fine⟩
 ·exact ⟨h5,h4⟩
theorem Hed.arm (h:Lv ims D g) (n:Int) (keep:List Int):Lv ims (D.arm n keep) g :=
 {h with run:=⟨h.run.on,h.run.sectors,h.run.t1,⟨h.run.sane.nodes,h.run.sane.now,h.run.sane.chain⟩,⟨h.run.safe.last,h.run.safe.wait⟩⟩}
end
end Go.Proofs.YtldoeodkeieejaaGreatDoor
