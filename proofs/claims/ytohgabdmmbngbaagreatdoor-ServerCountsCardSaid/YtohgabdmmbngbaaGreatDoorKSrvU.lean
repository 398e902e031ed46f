import Derived.Test.YtohgabdmmbngbaaGreatDoorKSrvY
set_option linter.unusedVariables false
set_option linter.unusedSimpArgs false
namespace Go.Proofs.YtohgabdmmbngbaaGreatDoor
open Go.RowKit
def Bnd.one (b:Bnd):Bnd:=⟨b.out+1,b.kept+1,b.gw+1,b.gr+1,b.st,b.last+1,b.tl+1⟩
theorem Bnd.le_one (b:Bnd):b.le b.one:=⟨Nat.le_succ _,Nat.le_succ _,Nat.le_succ _,Nat.le_succ _,Nat.le_refl _,Nat.le_succ _,Nat.le_succ _⟩
section
variable {b:Bnd} {S:Sv}
theorem SvOk.one (h:SvOk b S):SvOk b.one S:=h.mono b.le_one
theorem SvOk.tell1 (h:SvOk b S) (k:Nat) (m:Mg):SvOk b.one (S.tell k m):=(h.tell k m).mono ⟨Nat.le_refl _,Nat.le_succ _,Nat.le_succ _,Nat.le_succ _,Nat.le_refl _,Nat.le_succ _,Nat.le_succ _⟩
theorem SvOk.join1 (h:SvOk b S) {node:Nat} (hn:1≤node∧node≤16) (life:Int):SvOk b.one (S.join node life):=(h.join hn life).mono ⟨Nat.le_refl _,Nat.le_succ _,Nat.le_succ _,Nat.le_succ _,Nat.le_refl _,Nat.le_refl _,Nat.le_succ _⟩
theorem SvOk.leave1 (h:SvOk b S) {node:Nat} (hn:1≤node∧node≤16):SvOk b.one (S.leave node):=(h.leave hn).mono ⟨Nat.le_refl _,Nat.le_succ _,Nat.le_succ _,Nat.le_succ _,Nat.le_refl _,Nat.le_refl _,Nat.le_succ _⟩
theorem SvOk.hello (h:SvOk b S) {node:Nat} (hn:1≤node∧node≤16) (life:Int):SvOk b.one (S.hello node life):=by
 unfold Sv.hello
 split
 ·exact h.one
 ·split
  ·exact h.join1 hn life
  ·split
   ·exact h.tell1 node _
   ·split
    ·exact h.one
    ·split
     ·have hl:=h.lose hn.2
      exact (hl.peer node (p := {(S.lose node).peers node with hello:=max ((S.lose node).peers node).hello life}) (hl.gr node) (hl.by_ node)).one
     ·exact (h.peer node (p := {S.peers node with hello:=max (S.peers node).hello life}) (h.gr node) (h.by_ node)).one
theorem SvOk.recovered (h:SvOk b S) (node:Nat) (m:Mg):SvOk b.one (S.recovered node m):=by
 unfold Sv.recovered
 split
 ·exact h.one
 ·rename_i hi
  have hi:S.is m.node:=Classical.not_not.1 hi
  unfold Sv.is at hi
  rw [h.n] at hi
  split
  ·exact h.one
  ·split
   ·exact h.leave1 (node:=m.node.toNat) (by omega)
   ·exact (h.peer m.node.toNat (p := {S.peers m.node.toNat with state:=3}) (h.gr _) (h.by_ _)).one
theorem SvOk.tab0 (h:SvOk b S) {T':Tb} (ht:TbStep S.T [] T'):SvOk b {S with T:=T'}:=by
 have:=h.tab ht
 rwa [List.append_nil] at this
theorem SvOk.force (node:Nat):∀(ls:List Lk) (S:Sv),SvOk b S→SvOk b (S.force node ls).1
 | [],_,h=>h
 | l :: ls,S,h=>by
   have h1:=h.tab0 (TbStep.force h.wf node l)
   unfold Sv.force
   split
   ·exact SvOk.force node ls _ h1
   ·exact h1
theorem SvOk.report (h:SvOk b S) {node:Nat} (hn:1≤node∧node≤16) (m:Mg):SvOk b (S.report node m):=by
 have hf:=SvOk.force node m.locks S h
 unfold Sv.report
 split
 ·exact (hf.peer node (p := {(S.force node m.locks).1.peers node with state:=1,life := -1,grants:=0,told := []}) ⟨by show (0:Int)≤0;omega,by show (0:Int)≤b.gr;omega⟩ (hf.by_ node)).onL (Le.renew_ok (Le.drop_ok h.lok _) _ _) (Le.renew_small (Le.drop_small h.small _) (by omega) _)
 ·exact (hf.tab (TbStep.drop hf.wf node)).lose hn.2
theorem SvOk.takeBack (h:SvOk b S) (node:Nat) (id:Int):SvOk b.one (S.takeBack node id):=by
 unfold Sv.takeBack
 split
 ·rename_i w hw
  exact (h.cancel w.id).tell1 node _
 ·split
  ·rename_i k hk
   have:=h.kept
   exact ((h.onK (n:=b.kept) (by have:=List.length_eraseIdx_le S.kept k;omega) (fun r hr=>h.rq r (List.mem_of_mem_eraseIdx hr)))).tell1 node _
  ·exact h.one
theorem SvOk.let1 (h:SvOk b S) (node:Nat) (l:Lk):SvOk b (Sv.let1 node S l):=h.tab (TbStep.release h.wf node l.sp l.m)
theorem SvOk.released (h:SvOk b S) (node:Nat) (m:Mg):SvOk b (S.released node m):=by
 have h1:=h.peer node (p := {S.peers node with told := []}) (h.gr node) (h.by_ node)
 unfold Sv.released
 split
 ·exact h1
 ·exact foldl_inv (P:=SvOk b) (f:=Sv.let1 node) m.locks _ h1 (fun B l _ hB=>hB.let1 node l)
theorem SvOk.live (h:SvOk b S) (hl:b.tl<1000000000) {node:Nat} (hn:1≤node∧node≤16) {m:Mg} (hm:m.locks.length≤1000):SvOk b.one (S.live node m):=by
 unfold Sv.live
 split
 ·exact (h.onL (Le.renew_ok h.lok _ _) (Le.renew_small h.small (by omega) _)).tell1 node _
 ·split
  ·split
   ·exact (h.acquire hl node m).mono ⟨Nat.le_refl _,Nat.le_succ _,Nat.le_refl _,Nat.le_refl _,Nat.le_refl _,Nat.le_succ _,Nat.le_refl _⟩
   ·have hk:=h.kept
    have h2:SvOk {b with kept:=b.kept+1} {S with kept:=S.kept ++ [⟨node,m⟩]}:=h.onK (by simp;exact hk) (fun r hr=>by
     rcases List.mem_append.1 hr with hr | hr
     ·exact h.rq r hr
     ·rw [List.mem_singleton.1 hr]
      exact ⟨by unfold nd;show 1≤(node:Int)∧(node:Int)≤16;omega,hm⟩)
    have hle:Bnd.le {b with kept:=b.kept+1} b.one:=⟨Nat.le_succ _,Nat.le_refl _,Nat.le_succ _,Nat.le_succ _,Nat.le_refl _,Nat.le_succ _,Nat.le_succ _⟩
    exact h2.mono hle
  ·split
   ·exact h.takeBack node m.id
   ·split
    ·exact (h.released node m).one
    ·split
     ·obtain ⟨e1,c1⟩:=h.calm.fence hn.2
      have n1:(S.D.fence (node:Nat)).2.now=S.D.now:=by
       rw [e1]
       exact (settle_same S.D node).2.2.2.2.2.1
      have l1:(S.D.fence (node:Nat)).2.last=S.D.last:=by
       rw [e1]
       exact (settle_same S.D node).2.2.2.1
      have hla:=h.last
      rw [if_pos (by rw [e1])]
      exact (h.onD c1 n1 (l:=b.last) (by omega)).leave1 hn
     ·exact h.one
theorem SvOk.takes (h:SvOk b S) (hl:b.tl<1000000000) {node:Nat} (hn:1≤node∧node≤16) {m:Mg} (hm:m.locks.length≤1000):SvOk b.one (S.takes node m):=by
 unfold Sv.takes
 split
 ·exact h.hello hn m.stamp
 ·split
  ·exact h.recovered node m
  ·split
   ·exact h.one
   ·split
    ·exact (h.report hn m).one
    ·split
     ·exact h.live hl hn hm
     ·exact h.one
def Bnd.next (b:Bnd):Bnd:=⟨0,b.kept+1,1000,b.gr+b.gw+2*b.kept+20,b.st+3,b.last+3+1,b.tl+b.kept+2⟩
theorem SvOk.next (h:SvOk b.one S) (hl:b.tl≤800000000) (hk:b.kept≤90000):SvOk b.next S.end_.2:=by
 have:=h.end_ (by show b.tl+1≤_;omega) (by show b.kept+1≤_;omega)
 refine this.mono ⟨Nat.le_refl _,Nat.le_refl _,Nat.le_refl _,?_,Nat.le_refl _,?_,?_⟩
 ·show b.gr+1+(b.gw+1)+2*(b.kept+1)≤b.gr+b.gw+2*b.kept+20
  omega
 ·show b.last+1+3≤b.last+3+1
  omega
 ·show b.tl+1+(b.kept+1)≤b.tl+b.kept+2
  omega
theorem Bnd.le_next {b:Bnd} (ho:b.out=0) (hg:b.gw≤1000):b.le b.next:=⟨by rw [ho];exact Nat.le_refl _,Nat.le_succ _,hg,by show b.gr≤b.gr+b.gw+2*b.kept+20;omega,Nat.le_add_right _ _,by show b.last≤b.last+3+1;omega,by show b.tl≤b.tl+b.kept+2;omega⟩
theorem Mg.ok.locks {m:Mg} (h:m.ok):m.locks.length≤1000:=by
 have:=h.1.2.2
 omega
theorem SvOk.take (h:SvOk b S) (ho:b.out=0) (hg:b.gw≤1000) (hl:b.tl≤800000000) (hk:b.kept≤90000) (node:Int) (m:Mg):SvOk b.next (S.take node m).2:=by
 unfold Sv.take
 split
 ·exact h.mono (Bnd.le_next ho hg)
 ·rename_i hc
  have hi:S.is node:=Classical.byContradiction (fun hh=>hc (.inr (.inl hh)))
  have hm:m.ok:=Classical.byContradiction (fun hh=>hc (.inr (.inr (.inl hh))))
  unfold Sv.is at hi
  rw [h.n] at hi
  exact (h.takes (by omega) (node:=node.toNat) (by omega) hm.locks).next hl hk
end
theorem ready1_any (p:Pe) (tv:Value) (w:World):Calls Tryz.prog 56 #[.agg #[.int .i64 p.state, .int .u64 p.epoch, .int .i64 p.life, .int .i64 p.hello, .bool p.unknown, .int .i64 p.by_, .int .i64 p.stamp, .int .i64 p.grants,tv]] w fun e w'=>e = .returned (.bool p.open_)∧Below w.heap.size w w':=by
 have HB:=Lib.hid ((Below.refl w.heap.size w).alloc (Nat.le_refl _) (.cells #[.int .i64 p.state, .int .u64 p.epoch, .int .i64 p.life, .int .i64 p.hello, .bool p.unknown, .int .i64 p.by_, .int .i64 p.stamp, .int .i64 p.grants,tv] 63))
 have HP:=Lib.hid (show p.open_=(decide (p.state=2) || (decide (p.state>2) && p.unknown)) from rfl)
 by_cases h2:p.state=2
 ·have b1:(p.state == 2)=true:=by simp [h2]
  have HF:=Lib.hid (show p.open_=true by rw [HP.out,decide_eq_true h2];rfl)
  clear h2
  go_enter Tryz.func56,Tryz.ntmps56
  go_wp2_with fail
  go_ret
  exact ⟨by rw [HF.out];first | done | rfl,HB.out⟩
 ·have b1:(p.state == 2)=false:=by simp [h2]
  by_cases h3:p.state>2
  ·have d3:decide (2<p.state)=true:=decide_eq_true h3
   obtain ⟨u,hu⟩:∃u,p.unknown=u:=⟨_,rfl⟩
   have HF:=Lib.hid (show p.open_=u by rw [HP.out,decide_eq_false h2,decide_eq_true h3,hu];rfl)
   rw [hu] at HB ⊢
   clear h2 h3 hu
   go_enter Tryz.func56,Tryz.ntmps56
   go_wp2_with fail
   go_ret
   exact ⟨by rw [HF.out];first | done | rfl,HB.out⟩
  ·have d3:decide (2<p.state)=false:=decide_eq_false h3
   have HF:=Lib.hid (show p.open_=false by rw [HP.out,decide_eq_false h2,decide_eq_false h3];rfl)
   clear h2 h3
   go_enter Tryz.func56,Tryz.ntmps56
   go_wp2_with fail
   go_ret
   exact ⟨by rw [HF.out];first | done | rfl,HB.out⟩
section
variable {o o':Nat→Nat} {c:Nat} {C:Nat→Prop} {w w':World} {s:Nat} {S:Sv} {P:SvP} {v:Value}
set_option maxRecDepth 100000 in
set_option maxHeartbeats 8000000 in
theorem idxpeers_any (h:SvIn o c w s S P):Calls Tryz.prog 113 #[.slice (some ⟨s,10,none⟩) 17 17, .func (.func 56) #[] #[]] w fun e w'=>∃r:Int,e = .returned (.int .i64 r)∧decide (0≤r)=(List.range 17).any (fun i=>(S.peers i).open_)∧Below w.heap.size w w':=by
 have eg:∀args w,(callFunc 56 args).run Tryz.prog w = .ok (.enter 56 args) w:=enters_of Tryz.func56 (by kernel_rfl) rfl
 have HV:=Lib.hid h
 clear h
 obtain ⟨B,hB⟩:∃B,(List.range 17).any (fun i=>(S.peers i).open_)=B:=⟨_,rfl⟩
 have HBE:=Lib.hid hB
 rw [hB]
 clear hB
 go_enter Tryz.func113,Tryz.ntmps113
 go_wp2_with fail
 go_loopg [8] 17 (fun n t8 wr=>∃i:Nat,n+i=17∧t8 = .int .i64 (i:Nat)∧(∀j,j<i→(S.peers j).open_=false)∧Hid (Below w.heap.size w wr))
 case atStart=>exact ⟨0,by omega,rfl,fun j hj=>absurd hj (Nat.not_lt_zero j),Lib.hid (Below.refl _ _)⟩
 case round =>
  obtain ⟨i,hni,rfl,hno,HB⟩:=hrel
  have HNI:=Lib.hid hni
  have HNO:=Lib.hid hno
  clear hni hno
  by_cases hlt:i<17
  ·have hltI:(i:Int)<17:=by omega
   have HVr:=HV.out.below_ HB.out
   have x0:wr.cell? ⟨s,10+i*9,none⟩=some (.int .i64 (S.peers i).state):=HVr.p (j:=0) (by omega) (by omega) rfl
   have x1:wr.cell? ⟨s,10+i*9+1,none⟩=some (.int .u64 (S.peers i).epoch):=HVr.p (j:=1) (by omega) (by omega) rfl
   have x2:wr.cell? ⟨s,10+i*9+2,none⟩=some (.int .i64 (S.peers i).life):=HVr.p (j:=2) (by omega) (by omega) rfl
   have x3:wr.cell? ⟨s,10+i*9+3,none⟩=some (.int .i64 (S.peers i).hello):=HVr.p (j:=3) (by omega) (by omega) rfl
   have x4:wr.cell? ⟨s,10+i*9+4,none⟩=some (.bool (S.peers i).unknown):=HVr.p (j:=4) (by omega) (by omega) rfl
   have x5:wr.cell? ⟨s,10+i*9+5,none⟩=some (.int .i64 (S.peers i).by_):=HVr.p (j:=5) (by omega) (by omega) rfl
   have x6:wr.cell? ⟨s,10+i*9+6,none⟩=some (.int .i64 (S.peers i).stamp):=HVr.p (j:=6) (by omega) (by omega) rfl
   have x7:wr.cell? ⟨s,10+i*9+7,none⟩=some (.int .i64 (S.peers i).grants):=HVr.p (j:=7) (by omega) (by omega) rfl
   have x8:wr.cell? ⟨s,10+i*9+8,none⟩=some (P.tv i):=HVr.p (j:=8) (by omega) (by omega) rfl
   have HC:=Lib.hid (ready1_any (S.peers i) (P.tv i) wr)
   clear HVr
   by_cases hq:(S.peers i).open_=true
   ·have HI:=Lib.hid (show decide ((0:Int)≤(i:Nat))=B by
     rw [decide_eq_true (by omega),←HBE.out]
     exact (List.any_eq_true.2 ⟨i,List.mem_range.2 hlt,hq⟩).symm)
    rw [hq] at HC
    go_wp2_with (go_at_fn 56;refine HC.out.mono ?_;rintro e w2 ⟨rfl,hb2⟩;have HB2:=Lib.hid (HB.out.trans (hb2.mono HB.out.size));clear hb2)
    go_ret
    exact ⟨(i:Nat),rfl,HI.out,HB2.out⟩
   ·have hq:(S.peers i).open_=false:=Bool.eq_false_iff.2 hq
    rw [hq] at HC
    have HQ:=Lib.hid hq
    clear hq
    go_wp2_with (go_at_fn 56;refine HC.out.mono ?_;rintro e w2 ⟨rfl,hb2⟩;have HB2:=Lib.hid (HB.out.trans (hb2.mono HB.out.size));clear hb2)
    go_roundg (17 - (i+1))
    case measure=>have:=HNI.out;omega
    case rel=>exact ⟨i+1,by omega,by go_num,fun j hj=>by
     by_cases e:j=i
     ·rw [e]
      exact HQ.out
     ·exact HNO.out j (by omega),HB2⟩
  ·have hltI:¬(i:Int)<17:=by omega
   have HI:=Lib.hid (show decide ((0:Int) ≤ -1)=B by
    rw [decide_eq_false (by omega),←HBE.out]
    refine (List.any_eq_false.2 (fun j hj => ?_)).symm
    rw [List.mem_range] at hj
    rw [HNO.out j (by omega)]
    exact Bool.false_ne_true)
   go_wp2_with fail
   go_ret
   exact ⟨-1,rfl,HI.out,HB.out⟩
theorem vReady_any (h:SvIn o c w s S P):Calls Tryz.prog 21 #[.pointer (some ⟨s,0,none⟩)] w fun e w'=>e = .returned (.bool S.ready)∧Below w.heap.size w w':=by
 have HV:=Lib.hid h
 have HC:Hid (Calls Tryz.prog 55 #[.slice (some ⟨s,10,none⟩) 17 17, .func (.func 56) #[] #[]] w fun e w'=>e = .returned (.bool ((List.range 17).any (fun i=>(S.peers i).open_)))∧Below w.heap.size w w'):=by
  apply Lib.hid
  have HI:=Lib.hid (idxpeers_any h)
  clear h HV
  go_enter Tryz.func55,Tryz.ntmps55
  go_wp2_with fail
  refine HI.out.mono ?_
  rintro e w1 ⟨r,rfl,hr,hb⟩
  have HR:=Lib.hid hr
  have HB:=Lib.hid hb
  clear hr hb
  go_wp2_with fail
  go_ret
  exact ⟨by rw [←HR.out];rfl,HB.out⟩
 have HS:=Lib.hid (show S.ready = !((List.range 17).any (fun i=>(S.peers i).open_)) from rfl)
 obtain ⟨b,hb⟩:∃b,(List.range 17).any (fun i=>(S.peers i).open_)=b:=⟨_,rfl⟩
 rw [hb] at HC HS
 clear h hb
 go_enter Tryz.func21,Tryz.ntmps21
 go_wp2_with fail
 refine (vnone_any HV.out).mono ?_
 rintro e w1 ⟨rfl,rfl⟩
 go_wp2_with fail
 refine HC.out.mono ?_
 rintro e w2 ⟨rfl,hb2⟩
 have HB2:=Lib.hid hb2
 clear hb2
 go_wp2_with fail
 go_ret
 exact ⟨by rw [HS.out];first | done | rfl,HB2.out⟩
end
section
variable {o o':Nat→Nat} {c:Nat} {C:Nat→Prop} {w w':World} {s:Nat} {S:Sv} {P:SvP} {v:Value}
set_option maxRecDepth 100000 in
set_option maxHeartbeats 16000000 in
theorem vhello_any (h:SvAt o c w s S) (hf:Fut o w) (hc1:1≤c) (wf:TbWf S.T) (hkl:S.kept.length≤1000000) (hg:S.granted.length+S.T.waits.length≤1000000) (hw:S.D.waits.length≤1000000) (ho:S.out.length≤1000000000) (k:Nat) (hk16:k≤16) (life:Int) (hla:S.D.last+1<18446744073709551616) (hl:S.L.ok) (hnow:0≤S.now∧S.now≤9223372036854775807) :
 Calls Tryz.prog 42 #[.pointer (some ⟨s,0,none⟩), .int .i64 (k:Nat), .int .i64 life] w fun e w'=>e = .returned (.tuple #[])∧∃o',SvAt o' c w' s (S.hello k life)∧Step o (svC c) w o' w':=by
 obtain ⟨P,h⟩:=h
 have hk17:(k:Int)<17:=by omega
 have HC:=Lib.hid hc1
 have HV:=Lib.hid h
 have HF:=Lib.hid hf
 have HJ:=Lib.hid (vjoin_any ⟨P,h⟩ hf hc1 ho k hk16 life hla hl hnow)
 have HLO:=Lib.hid (vlose_any ⟨P,h⟩ hf hc1 wf hkl hg hw k hk16)
 have HT:=Lib.hid (vtell_any ⟨P,h⟩ hf hc1 ho k hk16 {Mg.zero with kind:=2} (.slice none 0 0) (OwnS.nil _ _ _ _ _))
 obtain ⟨R,hR⟩:∃R,S.hello k life=R:=⟨_,rfl⟩
 have HRD:=Lib.hid hR
 unfold Sv.hello at HRD
 rw [hR]
 have x0:w.cell? ⟨s,10+k*9,none⟩=some (.int .i64 (S.peers k).state):=h.p (j:=0) hk16 (by omega) rfl
 have x2:w.cell? ⟨s,10+k*9+2,none⟩=some (.int .i64 (S.peers k).life):=h.p (j:=2) hk16 (by omega) rfl
 have x3:w.cell? ⟨s,10+k*9+3,none⟩=some (.int .i64 (S.peers k).hello):=h.p (j:=3) hk16 (by omega) rfl
 have f3:=h.blk.frozen (10+k*9+3)
 obtain ⟨ps,hps⟩:∃ps,(S.peers k).state=ps:=⟨_,rfl⟩
 obtain ⟨pl,hpl⟩:∃pl,(S.peers k).life=pl:=⟨_,rfl⟩
 rw [hps] at x0 HRD
 rw [hpl] at x2 HRD
 clear h hf hc1 wf hkl hg hw ho hla hl hnow hR hps hpl
 by_cases h1:life<1
 ·have HN:=Lib.hid ((if_pos h1).symm.trans HRD.out)
  clear HRD
  go_enter Tryz.func42,Tryz.ntmps42
  go_wp2_with fail
  go_end0
  exact ⟨rfl,o,by rw [←HN.out];exact ⟨P,HV.out⟩,Step.refl _ _ _⟩
 ·have HR1:=Lib.hid ((if_neg h1).symm.trans HRD.out)
  clear HRD
  by_cases h2:ps=0
  ·have HN:=Lib.hid ((if_pos h2).symm.trans HR1.out)
   have b0:(ps == 0)=true:=by simp [h2]
   clear HR1 h2
   go_enter Tryz.func42,Tryz.ntmps42
   go_wp2_with fail
   refine HJ.out.mono ?_
   rintro e w1 ⟨rfl,o1,hv1,hs1⟩
   have HV1:=Lib.hid hv1
   have HS1:=Lib.hid hs1
   clear hv1 hs1
   go_wp2_with fail
   go_end0
   exact ⟨rfl,o1,by rw [←HN.out];exact HV1.out,HS1.out⟩
  ·have HR2:=Lib.hid ((if_neg h2).symm.trans HR1.out)
   have b0:(ps == 0)=false:=by simp [h2]
   clear HR1
   by_cases h3:ps=1
   ·have b1:(ps == 1)=true:=by simp [h3]
    by_cases h4:pl=life
    ·have b2:(pl == life)=true:=by simp [h4]
     have HN:=Lib.hid ((if_pos ⟨h3,h4⟩).symm.trans HR2.out)
     clear HR2 h2 h3 h4
     go_enter Tryz.func42,Tryz.ntmps42
     go_wp2_with fail
     refine HT.out.mono ?_
     rintro e w1 ⟨rfl,o1,hv1,hs1⟩
     have HV1:=Lib.hid hv1
     have HS1:=Lib.hid hs1
     clear hv1 hs1
     go_wp2_with fail
     go_end0
     exact ⟨rfl,o1,by rw [←HN.out];exact HV1.out,HS1.out⟩
    ·have b2:(pl == life)=false:=by simp [h4]
     have HR3:=Lib.hid ((if_neg (fun hh=>h4 hh.2)).symm.trans HR2.out)
     clear HR2
     by_cases h5:life<pl
     ·have HN:=Lib.hid ((if_pos ⟨h3,h5⟩).symm.trans HR3.out)
      clear HR3 h2 h3 h4
      go_enter Tryz.func42,Tryz.ntmps42
      go_wp2_with fail
      go_end0
      exact ⟨rfl,o,by rw [←HN.out];exact ⟨P,HV.out⟩,Step.refl _ _ _⟩
     ·have HR4:=Lib.hid ((if_neg (fun hh=>h5 hh.2)).symm.trans HR3.out)
      have HN:=Lib.hid ((if_pos (.inl h3)).symm.trans HR4.out)
      clear HR3 HR4 h2 h3 h4
      go_enter Tryz.func42,Tryz.ntmps42
      go_wp2_with fail
      refine HLO.out.mono ?_
      rintro e w1 ⟨rfl,o1,⟨P1,hv1⟩,hs1⟩
      have y3:w1.cell? ⟨s,10+k*9+3,none⟩=some (.int .i64 ((S.lose k).peers k).hello):=hv1.p (j:=3) hk16 (by omega) rfl
      have g3:=hv1.blk.frozen (10+k*9+3)
      obtain ⟨hv2,hs2⟩:=hv1.peer HC.out (i:=k) (j:=3) (v := .int .i64 (max ((S.lose k).peers k).hello life)) (p := {(S.lose k).peers k with hello:=max ((S.lose k).peers k).hello life}) hk16 (by omega) rfl rfl
      have HV2:=Lib.hid hv2
      have HS2:=Lib.hid (hs1.trans (hs2.mono only0_sv))
      clear hv1 hs1 hv2 hs2
      go_wp2_with fail
      go_end0
      exact ⟨rfl,o1,by rw [←HN.out];exact ⟨P1,HV2.out⟩,HS2.out⟩
   ·have b1:(ps == 1)=false:=by simp [h3]
    have HR3:=Lib.hid ((if_neg (fun hh=>h3 hh.1)).symm.trans HR2.out)
    have HR4:=Lib.hid ((if_neg (fun hh=>h3 hh.1)).symm.trans HR3.out)
    clear HR2 HR3
    by_cases h6:ps=2
    ·have b2:(ps == 2)=true:=by simp [h6]
     have HN:=Lib.hid ((if_pos (.inr h6)).symm.trans HR4.out)
     clear HR4 h2 h3 h6
     go_enter Tryz.func42,Tryz.ntmps42
     go_wp2_with fail
     refine HLO.out.mono ?_
     rintro e w1 ⟨rfl,o1,⟨P1,hv1⟩,hs1⟩
     have y3:w1.cell? ⟨s,10+k*9+3,none⟩=some (.int .i64 ((S.lose k).peers k).hello):=hv1.p (j:=3) hk16 (by omega) rfl
     have g3:=hv1.blk.frozen (10+k*9+3)
     obtain ⟨hv2,hs2⟩:=hv1.peer HC.out (i:=k) (j:=3) (v := .int .i64 (max ((S.lose k).peers k).hello life)) (p := {(S.lose k).peers k with hello:=max ((S.lose k).peers k).hello life}) hk16 (by omega) rfl rfl
     have HV2:=Lib.hid hv2
     have HS2:=Lib.hid (hs1.trans (hs2.mono only0_sv))
     clear hv1 hs1 hv2 hs2
     go_wp2_with fail
     go_end0
     exact ⟨rfl,o1,by rw [←HN.out];exact ⟨P1,HV2.out⟩,HS2.out⟩
    ·have b2:(ps == 2)=false:=by simp [h6]
     have HN:=Lib.hid ((if_neg (fun hh=>hh.elim h3 h6)).symm.trans HR4.out)
     obtain ⟨hv2,hs2⟩:=HV.out.peer HC.out (i:=k) (j:=3) (v := .int .i64 (max (S.peers k).hello life)) (p := {S.peers k with hello:=max (S.peers k).hello life}) hk16 (by omega) rfl rfl
     have HV2:=Lib.hid hv2
     have HS2:=Lib.hid (hs2.mono (D:=svC c) only0_sv)
     clear HR4 h2 h3 h6 hv2 hs2
     go_enter Tryz.func42,Tryz.ntmps42
     go_wp2_with fail
     go_end0
     exact ⟨rfl,o,by rw [←HN.out];exact ⟨P,HV2.out⟩,HS2.out⟩
end
section
variable {o o':Nat→Nat} {c:Nat} {C:Nat→Prop} {w w':World} {s:Nat} {S:Sv} {P:SvP} {v:Value}
set_option maxRecDepth 100000 in
set_option maxHeartbeats 16000000 in
theorem vrecovered_any (h:SvAt o c w s S) (hf:Fut o w) (hc1:1≤c) (wf:TbWf S.T) (hn:S.T.nodes=S.n) (hkl:S.kept.length≤1000000) (hg:S.granted.length+S.T.waits.length≤1000000) (ho:S.out.length≤1000000000) (hla:∀k:Nat,(S.D.put k 0).2.last+1<18446744073709551616) (hl:S.L.ok) (hnow:0≤S.now∧S.now≤9223372036854775807) (node:Nat) (m:Mg) (lv:Value) :
 Calls Tryz.prog 43 #[.pointer (some ⟨s,0,none⟩), .int .i64 (node:Nat), .agg #[.int .i64 m.kind, .int .i64 m.id, .int .i64 m.node, .int .i64 m.gen, .int .i64 m.stamp, .int .u64 m.epoch, .int .i64 m.err,lv]] w fun e w'=>e = .returned (.tuple #[])∧∃o',SvAt o' c w' s (S.recovered node m)∧Step o (svC c) w o' w':=by
 obtain ⟨P,h⟩:=h
 have hnn:=h.rest.nn
 have HC:=Lib.hid hc1
 have HV0:=Lib.hid (h.alloc (.cells #[.int .i64 m.kind, .int .i64 m.id, .int .i64 m.node, .int .i64 m.gen, .int .i64 m.stamp, .int .u64 m.epoch, .int .i64 m.err,lv] 38))
 have HK0:=Lib.hid (Keep.new hf 38 #[.int .i64 m.kind, .int .i64 m.id, .int .i64 m.node, .int .i64 m.gen, .int .i64 m.stamp, .int .u64 m.epoch, .int .i64 m.err,lv])
 have HF0:=Lib.hid (hf.alloc (.cells #[.int .i64 m.kind, .int .i64 m.id, .int .i64 m.node, .int .i64 m.gen, .int .i64 m.stamp, .int .u64 m.epoch, .int .i64 m.err,lv] 38))
 have HS0:=Lib.hid ((Step.refl o (svC c) w).alloc (.cells #[.int .i64 m.kind, .int .i64 m.id, .int .i64 m.node, .int .i64 m.gen, .int .i64 m.stamp, .int .u64 m.epoch, .int .i64 m.err,lv] 38))
 have HLV:=Lib.hid (fun (V:World) (k:Nat) (hv:SvIn o c V s S P) (hfv:Fut o V) (h1:1≤k) (h2:k≤S.n)=>vleave_any ⟨P,hv⟩ hfv hc1 wf hn hkl hg ho k h1 h2 (hla k) hl hnow)
 obtain ⟨R,hR⟩:∃R,S.recovered node m=R:=⟨_,rfl⟩
 have HRD:=Lib.hid hR
 unfold Sv.recovered at HRD
 rw [hR]
 clear h hf hc1 wf hn hkl hg ho hla hl hnow hR
 go_enter Tryz.func43,Tryz.ntmps43
 go_upto_region 1 with (fail)
 generalize w.alloc (.cells #[.int .i64 m.kind, .int .i64 m.id, .int .i64 m.node, .int .i64 m.gen, .int .i64 m.stamp, .int .u64 m.epoch, .int .i64 m.err,lv] 38)=W0 at HV0 HK0 HF0 HS0 ⊢
 generalize w.heap.size=gm at HK0 ⊢
 obtain ⟨y0,y1,y2,y3,y4,y5,y6,y7⟩:=Blk.eight HK0.out.1
 by_cases his:S.is m.node
 ·have di:=decide_eq_true his
  have HR1:=Lib.hid ((if_neg (Classical.not_not.2 his)).symm.trans HRD.out)
  obtain ⟨k,hk⟩:∃k:Nat,m.node=(k:Nat):=⟨m.node.toNat,by unfold Sv.is at his;omega⟩
  have hk1:1≤k:=by unfold Sv.is at his;omega
  have hkn:k≤S.n:=by unfold Sv.is at his;omega
  have hk16:k≤16:=by omega
  have hk17:(k:Int)<17:=by omega
  have hkt:m.node.toNat=k:=by omega
  rw [hkt] at HR1
  rw [hk] at y2 di
  have x0:W0.cell? ⟨s,10+k*9,none⟩=some (.int .i64 (S.peers k).state):=HV0.out.p (j:=0) hk16 (by omega) rfl
  have x5:W0.cell? ⟨s,10+k*9+5,none⟩=some (.int .i64 (S.peers k).by_):=HV0.out.p (j:=5) hk16 (by omega) rfl
  have x6:W0.cell? ⟨s,10+k*9+6,none⟩=some (.int .i64 (S.peers k).stamp):=HV0.out.p (j:=6) hk16 (by omega) rfl
  clear his hkt HRD
  go_wp2_with fail
  refine (vis_any HV0.out (k:Nat)).mono ?_
  rintro e w1 ⟨rfl,rfl⟩
  rw [di]
  go_wp2_with fail
  go_quiet (fail)
  have HV2:=Lib.hid (HV0.out.drewN nq)
  have HK2:=Lib.hid (HK0.out.below_ (below_drewN w1 nq))
  have HF2:=Lib.hid (HF0.out.below (below_drewN w1 nq))
  have HS2:=Lib.hid (HS0.out.trans (Step.of_below o (svC c) (below_drewN w1 nq)))
  generalize w1.drewN nq=W2 at HV2 HK2 HF2 HS2 ⊢
  clear x0 x5 x6 y0 y1 y2 y3 y4 y5 y6 y7
  obtain ⟨y0,y1,y2,y3,y4,y5,y6,y7⟩:=Blk.eight HK2.out.1
  rw [hk] at y2
  have x0:W2.cell? ⟨s,10+k*9,none⟩=some (.int .i64 (S.peers k).state):=HV2.out.p (j:=0) hk16 (by omega) rfl
  have x5:W2.cell? ⟨s,10+k*9+5,none⟩=some (.int .i64 (S.peers k).by_):=HV2.out.p (j:=5) hk16 (by omega) rfl
  have x6:W2.cell? ⟨s,10+k*9+6,none⟩=some (.int .i64 (S.peers k).stamp):=HV2.out.p (j:=6) hk16 (by omega) rfl
  by_cases h4:(S.peers k).state=4
  ·have b4:((S.peers k).state != 4)=false:=by simp [h4]
   by_cases h5:(S.peers k).by_=(node:Int)
   ·have b5:((S.peers k).by_ != (node:Int))=false:=by simp [h5]
    by_cases h6:(S.peers k).stamp=m.stamp
    ·have b6:((S.peers k).stamp != m.stamp)=false:=by simp [h6]
     have HR2:=Lib.hid ((if_neg (fun hh=>hh.elim (fun a=>a h4) (fun hh=>hh.elim (fun a=>a h5) (fun a=>a h6)))).symm.trans HR1.out)
     clear HR1 h4 h5 h6
     by_cases h7:m.err=0
     ·have b7:(m.err == 0)=true:=by simp [h7]
      have HN:=Lib.hid ((if_pos h7).symm.trans HR2.out)
      clear HR2 h7
      go_wp2_with fail
      go_quiet (fail)
      go_wp2_with fail
      refine (HLV.out _ k (HV2.out.drewN _) (HF2.out.below (below_drewN W2 _)) hk1 hkn).mono ?_
      rintro e w3 ⟨rfl,o3,hv3,hs3⟩
      have HV3:=Lib.hid hv3
      have HS3:=Lib.hid ((HS2.out.trans (Step.of_below o (svC c) (below_drewN W2 _))).trans hs3)
      clear hv3 hs3
      go_wp2_with fail
      go_end0
      exact ⟨rfl,o3,by rw [←HN.out];exact HV3.out,HS3.out⟩
     ·have b7:(m.err == 0)=false:=by simp [h7]
      have HN:=Lib.hid ((if_neg h7).symm.trans HR2.out)
      have f0:=HV2.out.blk.frozen (10+k*9)
      clear HR2 h7
      go_wp2_with fail
      go_quiet (fail)
      obtain ⟨hv3,hs3⟩:=(HV2.out.drewN nq).peer HC.out (i:=k) (j:=0) (v := .int .i64 3) (p := {S.peers k with state:=3}) hk16 (by omega) rfl rfl
      have HV3:=Lib.hid hv3
      have HS3:=Lib.hid ((HS2.out.trans (Step.of_below o (svC c) (below_drewN W2 nq))).trans (hs3.mono only0_sv))
      clear hv3 hs3
      go_wp2_with fail
      go_end0
      exact ⟨rfl,o,by rw [←HN.out];exact ⟨P,HV3.out⟩,HS3.out⟩
    ·have b6:((S.peers k).stamp != m.stamp)=true:=by simp [h6]
     have HN:=Lib.hid ((if_pos (.inr (.inr h6))).symm.trans HR1.out)
     clear HR1 h4 h5 h6
     go_wp2_with fail
     go_quiet (fail)
     go_wp2_with fail
     refine bodyPost_ret (results_none rfl _ _ _) rfl ?_
     exact ⟨rfl,o,by rw [←HN.out];exact ⟨P,HV2.out.drewN _⟩,HS2.out.trans (Step.of_below o (svC c) (below_drewN W2 _))⟩
   ·have b5:((S.peers k).by_ != (node:Int))=true:=by simp [h5]
    have HN:=Lib.hid ((if_pos (.inr (.inl h5))).symm.trans HR1.out)
    clear HR1 h4 h5
    go_wp2_with fail
    go_quiet (fail)
    go_wp2_with fail
    refine bodyPost_ret (results_none rfl _ _ _) rfl ?_
    exact ⟨rfl,o,by rw [←HN.out];exact ⟨P,HV2.out.drewN _⟩,HS2.out.trans (Step.of_below o (svC c) (below_drewN W2 _))⟩
  ·have b4:((S.peers k).state != 4)=true:=by simp [h4]
   have HN:=Lib.hid ((if_pos (.inl h4)).symm.trans HR1.out)
   clear HR1 h4
   go_wp2_with fail
   go_quiet (fail)
   go_wp2_with fail
   refine bodyPost_ret (results_none rfl _ _ _) rfl ?_
   exact ⟨rfl,o,by rw [←HN.out];exact ⟨P,HV2.out.drewN _⟩,HS2.out.trans (Step.of_below o (svC c) (below_drewN W2 _))⟩
 ·have di:=decide_eq_false his
  have HN:=Lib.hid ((if_pos his).symm.trans HRD.out)
  clear his HRD
  go_wp2_with fail
  refine (vis_any HV0.out m.node).mono ?_
  rintro e w1 ⟨rfl,rfl⟩
  rw [di]
  go_wp2_with fail
  refine bodyPost_ret (results_none rfl _ _ _) rfl ?_
  exact ⟨rfl,o,by rw [←HN.out];exact ⟨P,HV0.out⟩,HS0.out⟩
end
theorem release_nodes {T:Tb} (h:TbWf T) (node:Int) (s:Sp) (keep:Int):(T.release node s keep).2.nodes=T.nodes:=by
 unfold Tb.release
 split
 ·exact grant_nodes (h.hold ((h.held _).relL s keep))
 ·rfl
theorem release_count (T:Tb) (node:Int) (s:Sp) (keep:Int):(T.release node s keep).1.1.length+(T.release node s keep).2.waits.length≤T.waits.length:=by
 unfold Tb.release
 split
 ·exact Nat.le_of_eq (grant_count (T.hold node.toNat (relL (T.held node.toNat) s keep)))
 ·show 0+T.waits.length≤T.waits.length
  omega
structure RlWf (S0 S:Sv):Prop where
 wf:TbWf S.T
 nodes:S.T.nodes=S0.T.nodes
 count:S.granted.length+S.T.waits.length≤S0.granted.length+S0.T.waits.length
theorem RlWf.step {S0 S:Sv} (h:RlWf S0 S) (node:Nat) (l:Lk):RlWf S0 (Sv.let1 node S l):=by
 refine ⟨h.wf.release _ _ _,(release_nodes h.wf _ _ _).trans h.nodes,?_⟩
 show (S.granted++(S.T.release node l.sp l.m).1.1).length+(S.T.release node l.sp l.m).2.waits.length≤_
 have:=release_count S.T node l.sp l.m
 have h2:=h.count
 rw [List.length_append]
 omega
section
variable {o o':Nat→Nat} {c:Nat} {C:Nat→Prop} {w w':World} {s:Nat} {S:Sv} {P:SvP} {v:Value}
theorem SvIn.toldNew (h:SvIn o c w s S P) (hc1:1≤c) {k m:Nat} (hk:k≤16) (hm:MapL o (c+5+k) w m []) :
 SvIn o c (w.setCell ⟨s,10+k*9+8,none⟩ (.map (some m))) s (S.peer k {S.peers k with told := []}) {P with tv:=fun i=>if i=k then .map (some m) else P.tv i}∧Step o (only c) w o (w.setCell ⟨s,10+k*9+8,none⟩ (.map (some m))):=by
 have hcell:(S.cells P).setIfInBounds (10+k*9+8) (.map (some m))=(S.peer k {S.peers k with told := []}).cells {P with tv:=fun i=>if i=k then .map (some m) else P.tv i}:=by
  have e1:=cells_tv (S:=S) (P:=P) (k:=k) (v := .map (some m)) (p:=S.peers k) hk
  rw [peer_self] at e1
  rw [e1]
  have e2:=cells_told (S:=S) (P := {P with tv:=fun i=>if i=k then .map (some m) else P.tv i}) (k:=k) (p:=S.peers k) (q := {S.peers k with told := []}) (fun _=>rfl)
  rw [peer_self] at e2
  exact e2
 refine h.set hc1 _ _ hcell ⟨h.rest.outs,h.rest.kept,h.rest.granted,h.rest.ids,fun i h1 h2 => ?_,h.rest.table,h.rest.lease,h.rest.disk,h.rest.nodes⟩
 by_cases hik:i=k
 ·subst hik
  exact ⟨m,if_pos rfl,by rw [peer_at];exact hm⟩
 ·obtain ⟨m',e,hm'⟩:=h.rest.told i h1 h2
  refine ⟨m',(if_neg hik).trans e,?_⟩
  show MapL o (c+5+i) w m' (if i=k then {S.peers k with told := []} else S.peers i).told
  rw [if_neg hik]
  exact hm'
end
section
variable {o o':Nat→Nat} {c:Nat} {C:Nat→Prop} {w w':World} {s:Nat} {S:Sv} {P:SvP} {v:Value}
set_option maxRecDepth 100000 in
set_option maxHeartbeats 16000000 in
theorem vreleased_any (h:SvAt o c w s S) (hf:Fut o w) (hc1:1≤c) (wf:TbWf S.T) (hn:S.T.nodes=S.n) (hg:S.granted.length+S.T.waits.length≤1000000) (k:Nat) (hk1:1≤k) (hkn:k≤S.n) (m:Mg) (lv:Value) (hl:RowL o w lv m.locks.length (lkcells m.locks)) (hml:m.locks.length≤1000) (hms:∀l∈m.locks,l.sp.ok) :
 Calls Tryz.prog 99 #[.pointer (some ⟨s,0,none⟩), .int .i64 (k:Nat), .agg #[.int .i64 m.kind, .int .i64 m.id, .int .i64 m.node, .int .i64 m.gen, .int .i64 m.stamp, .int .u64 m.epoch, .int .i64 m.err,lv]] w fun e w'=>e = .returned (.tuple #[])∧∃o',SvAt o' c w' s (S.released k m)∧Step o (svC c) w o' w':=by
 obtain ⟨i0,hi,hz0,hz1,hz2⟩:=info_parts info_wq
 obtain ⟨P,h⟩:=h
 have hnn:=h.rest.nn
 have hk16:k≤16:=by omega
 have hk17:(k:Int)<17:=by omega
 have HC:=Lib.hid hc1
 have HG:=Lib.hid hg
 have HMS:=Lib.hid hms
 have HKN:=Lib.hid (show k≤S.T.nodes by omega)
 have hmm := @run_makeMap Tryz.prog
 obtain ⟨D,cap,rfl,_⟩:=hl.form
 have HV0:=Lib.hid (h.alloc (.cells #[.int .i64 m.kind, .int .i64 m.id, .int .i64 m.node, .int .i64 m.gen, .int .i64 m.stamp, .int .u64 m.epoch, .int .i64 m.err, .slice D m.locks.length cap] 38))
 have HK0:=Lib.hid (Keep.new hf 38 #[.int .i64 m.kind, .int .i64 m.id, .int .i64 m.node, .int .i64 m.gen, .int .i64 m.stamp, .int .u64 m.epoch, .int .i64 m.err, .slice D m.locks.length cap])
 have HL0:=Lib.hid (hl.alloc (.cells #[.int .i64 m.kind, .int .i64 m.id, .int .i64 m.node, .int .i64 m.gen, .int .i64 m.stamp, .int .u64 m.epoch, .int .i64 m.err, .slice D m.locks.length cap] 38))
 have HF0:=Lib.hid (hf.alloc (.cells #[.int .i64 m.kind, .int .i64 m.id, .int .i64 m.node, .int .i64 m.gen, .int .i64 m.stamp, .int .u64 m.epoch, .int .i64 m.err, .slice D m.locks.length cap] 38))
 have HS0:=Lib.hid ((Step.refl o (svC c) w).alloc (.cells #[.int .i64 m.kind, .int .i64 m.id, .int .i64 m.node, .int .i64 m.gen, .int .i64 m.stamp, .int .u64 m.epoch, .int .i64 m.err, .slice D m.locks.length cap] 38))
 obtain ⟨R,hR⟩:∃R,S.released k m=R:=⟨_,rfl⟩
 have HRD:=Lib.hid hR
 unfold Sv.released at HRD
 rw [hR]
 obtain ⟨S1,hS1⟩:∃S1,S.peer k {S.peers k with told := []}=S1:=⟨_,rfl⟩
 have HR0:=Lib.hid (show RlWf S S1 by rw [←hS1];exact ⟨wf,rfl,Nat.le_refl _⟩)
 have HGR:=Lib.hid (show (S1.peers k).grants=(S.peers k).grants by rw [←hS1,peer_at])
 rw [hS1] at HRD
 have HSE:=Lib.hid hS1
 clear h hf hc1 wf hn hg hl hms hR hS1
 go_enter Tryz.func99,Tryz.ntmps99
 go_upto_region 1 with (fail)
 generalize w.alloc (.cells #[.int .i64 m.kind, .int .i64 m.id, .int .i64 m.node, .int .i64 m.gen, .int .i64 m.stamp, .int .u64 m.epoch, .int .i64 m.err, .slice D m.locks.length cap] 38)=W0 at HV0 HK0 HL0 HF0 HS0 ⊢
 generalize w.heap.size=gm at HK0 ⊢
 have hba:=(Below.refl W0.heap.size W0).alloc (Nat.le_refl _) (.map #[] 0)
 have hsa:=Step.of_below_band o (svC c) (c+5+k) hba
 have hsf:=Step.of_below_band o (fun _=>False) (c+5+k) hba
 have hma:=MapL.newAs (band o W0.heap.size (W0.alloc (.map #[] 0)).heap.size (c+5+k)) W0 (c+5+k) (band_in (Nat.le_refl _) (by simp))
 have hva:=HV0.out.step hsf (fun _ _=>id) id
 obtain ⟨h6,h7⟩:=hva.toldNew HC.out hk16 hma
 rw [HSE.out] at h6
 have x8:(W0.alloc (.map #[] 0)).cell? ⟨s,10+k*9+8,none⟩=some (P.tv k):=hva.p (j:=8) hk16 (by omega) rfl
 have f8:=hva.blk.frozen (10+k*9+8)
 have HK6:=Lib.hid ((HK0.out.step hsf id).step h7 (by have:=HC.out;unfold only;omega))
 have HL6:=Lib.hid ((HL0.out.step hsf id).step h7 (by have:=HC.out;unfold only;omega))
 have HF6:=Lib.hid ((HF0.out.step hsf).step h7)
 have HS6:=Lib.hid ((HS0.out.trans hsa).trans (h7.mono only0_sv))
 have HV6:=Lib.hid h6
 generalize band o W0.heap.size (W0.alloc (.map #[] 0)).heap.size (c+5+k)=o6 at hva h6 h7 HK6 HL6 HF6 HS6 HV6 hsa hsf hma
 clear hba hsa hsf hma hva h6 h7
 go_upto_region 3 with (fail)
 generalize (W0.alloc (.map #[] 0)).setCell ⟨s,10+k*9+8,none⟩ (.map (some W0.heap.size))=W1 at HV6 HK6 HL6 HF6 HS6 ⊢
 clear x8 f8 HV0 HK0 HL0 HF0 HS0
 obtain ⟨y0,y1,y2,y3,y4,y5,y6,y7⟩:=Blk.eight HK6.out.1
 have x7:W1.cell? ⟨s,10+k*9+7,none⟩=some (.int .i64 (S.peers k).grants):=(HV6.out.p (j:=7) hk16 (by omega) rfl).trans (by rw [HGR.out])
 by_cases hst:m.stamp=(S.peers k).grants
 ·have b1:(m.stamp != (S.peers k).grants)=false:=by simp [hst]
  have HN:=Lib.hid ((if_neg (fun hh=>hh hst)).symm.trans HRD.out)
  have HRW:=Lib.hid (show ∀i,RlWf S ((m.locks.take i).foldl (Sv.let1 k) S1) from fun i=>foldl_inv (P:=RlWf S) (f:=Sv.let1 k) _ _ HR0.out (fun b x _ hb=>hb.step k x))
  obtain ⟨LS,hLS⟩:∃LS,m.locks=LS:=⟨_,rfl⟩
  rw [hLS] at HN HRW HMS hml HL6 HK6 y7
  have hmI:(LS.length:Int)≤1000:=by omega
  clear hst HRD hLS
  go_wp2_with fail
  go_quiet (fail)
  have HV7:=Lib.hid (HV6.out.drewN nq)
  have HL7:=Lib.hid (HL6.out.drewN nq)
  have HF7:=Lib.hid (HF6.out.below (below_drewN W1 nq))
  have HS7:=Lib.hid (HS6.out.trans (Step.of_below o6 (svC c) (below_drewN W1 nq)))
  have z7:(W1.drewN nq).cell? ⟨gm,7,none⟩=some (.slice D LS.length cap):=y7
  generalize W1.drewN nq=W2 at HV7 HL7 HF7 HS7 z7 ⊢
  clear HV6 HK6 HL6 HF6 HS6 x7 y0 y1 y2 y3 y4 y5 y6 y7
  go_wp2_with fail
  go_loopg [30] LS.length (fun n t30 wr=>∃(i:Nat) (oL:Nat→Nat),n+i=LS.length∧t30 = .int .i64 (i:Nat)∧SvAt oL c wr s ((LS.take i).foldl (Sv.let1 k) S1)∧RowL oL wr (.slice D LS.length cap) LS.length (lkcells LS)∧Fut oL wr∧Step o (svC c) w oL wr)
  case atStart=>exact ⟨0,o6,by omega,rfl,⟨_,HV7.out⟩,HL7.out,HF7.out,HS7.out⟩
  case round =>
   obtain ⟨i,oL,hni,rfl,hv,hrow,hf,hstp⟩:=hrel
   have HNI:=Lib.hid hni
   have HROW:=Lib.hid hrow
   have HFL:=Lib.hid hf
   have HST:=Lib.hid hstp
   clear HV7 HL7 HF7 HS7 z7 hni hrow hf hstp
   by_cases hlt:i<LS.length
   ·have hltI:(i:Int)<(LS.length:Int):=by omega
    obtain ⟨P2,hv⟩:=hv
    obtain ⟨l,hq⟩:∃l,LS[i]? = some l:=⟨_,List.getElem?_eq_getElem hlt⟩
    have HNX:=Lib.hid (foldl_next (f:=Sv.let1 k) (b:=S1) hq)
    have HRI:=Lib.hid (HRW.out i)
    have HLO:=Lib.hid (HMS.out l (List.mem_of_getElem? hq))
    obtain ⟨ad,rfl,x0,x1,x2⟩:=HROW.out.reads.lock hq
    have HQ:=Lib.hid (Keep.new HFL.out 47 #[.int .i64 l.a, .int .i64 l.b, .int .i64 l.m])
    have HV4:=Lib.hid (hv.alloc (.cells #[.int .i64 l.a, .int .i64 l.b, .int .i64 l.m] 47))
    have HR4:=Lib.hid (HROW.out.alloc (.cells #[.int .i64 l.a, .int .i64 l.b, .int .i64 l.m] 47))
    have HF4:=Lib.hid (HFL.out.alloc (.cells #[.int .i64 l.a, .int .i64 l.b, .int .i64 l.m] 47))
    have HS4:=Lib.hid (HST.out.alloc (.cells #[.int .i64 l.a, .int .i64 l.b, .int .i64 l.m] 47))
    clear hq hv HROW HFL HST
    generalize (LS.take i).foldl (Sv.let1 k) S1=SI at HNX HRI HV4 ⊢
    go_upto_region 7 with (fail)
    generalize wr.alloc (.cells #[.int .i64 l.a, .int .i64 l.b, .int .i64 l.m] 47)=W4 at HQ HV4 HR4 HF4 HS4 ⊢
    generalize wr.heap.size=gq at HQ ⊢
    clear x0 x1 x2
    have hkI:k≤SI.T.nodes:=by rw [HRI.out.nodes];exact HKN.out
    have HCR:=Lib.hid (show Calls Tryz.prog 167 #[.pointer (some ⟨P2.tp,0,none⟩), .int .i64 (k:Nat), .agg #[.int .i64 l.a, .int .i64 l.b], .int .i64 l.m] W4.drew _ from trelease_any HV4.out.drew.rest.table HF4.out.drew (by have:=HC.out;omega) HRI.out.wf k hk1 hkI l.sp HLO.out l.m)
    have hrc:=release_count SI.T (k:Nat) l.sp l.m
    have hcn:=Nat.le_trans HRI.out.count HG.out
    obtain ⟨G,hGe⟩:∃G,(SI.T.release (k:Nat) l.sp l.m).1.1=G:=⟨_,rfl⟩
    obtain ⟨qe,hqe⟩:∃qe,(SI.T.release (k:Nat) l.sp l.m).1.2=qe:=⟨_,rfl⟩
    obtain ⟨T6,hT6⟩:∃T6,(SI.T.release (k:Nat) l.sp l.m).2=T6:=⟨_,rfl⟩
    have HLE:=Lib.hid (show Sv.let1 k SI l = {SI with T:=T6,granted:=SI.granted++G} by
     unfold Sv.let1
     rw [hGe,hT6])
    rw [hGe,hqe,hT6] at HCR
    rw [hGe,hT6] at hrc
    obtain ⟨A3,cap3,hgv,_⟩:=own_form' HV4.out.rest.granted
    have HGV:=Lib.hid hgv
    have q1:W4.drew.cell? ⟨s,164,none⟩=some (.pointer (some ⟨P2.tp,0,none⟩)):=HV4.out.drew.t (k:=1) rfl
    obtain ⟨q2,q3,q4⟩:W4.drew.cell? ⟨gq,0,none⟩=some (.int .i64 l.a)∧W4.drew.cell? ⟨gq,1,none⟩=some (.int .i64 l.b)∧W4.drew.cell? ⟨gq,2,none⟩=some (.int .i64 l.m):=HQ.out.1.three
    clear hGe hqe hT6 hgv
    go_wp2_with fail
    go_region_held3 (fun w'=>w'.cell? ⟨s,164,none⟩=some (.pointer (some ⟨P2.tp,0,none⟩))∧w'.cell? ⟨gq,0,none⟩=some (.int .i64 l.a)∧w'.cell? ⟨gq,1,none⟩=some (.int .i64 l.b)∧w'.cell? ⟨gq,2,none⟩=some (.int .i64 l.m))
     (first | exact ⟨q1,q2,q3,q4⟩ | exact ⟨g1,g2,g3,g4⟩ | go_keep)
     ((go_at_call 167;((with_reducible refine HCR.out.mono ?_);rintro e w5 ⟨Dd,capd,rfl,o5,ho5,ht5,hs5⟩;have hv5:=HV4.out.drew.onT HC.out hs5 ht5;have HV5:=Lib.hid hv5;have HS5:=Lib.hid hs5;have HO5:=Lib.hid ho5;have g1:w5.cell? ⟨s,164,none⟩=some (.pointer (some ⟨P2.tp,0,none⟩)):=hv5.t (k:=1) rfl;obtain ⟨g2,g3,g4⟩:=(HQ.out.drew.step hs5 (by unfold tabC;omega)).1.three;clear ho5 ht5 hs5 hv5)))
    have HR5:=Lib.hid (HR4.out.drew.step HS5.out (by unfold tabC;omega))
    have HF5:=Lib.hid (HF4.out.drew.step HS5.out)
    have HT5:=Lib.hid (HS4.out.drew.trans (HS5.out.mono tab_sv))
    have y167:w5.cell? ⟨s,167,none⟩=some (.slice A3 SI.granted.length cap3):=(HV5.out.t (k:=4) rfl).trans (by rw [HGV.out])
    have HG5:=Lib.hid (show OwnS o5 (c+3) w5 164 5 (.slice A3 SI.granted.length cap3) SI.granted.length (wqcells SI.granted) from HGV.out▸HV5.out.rest.granted)
    clear q1 q2 q3 q4 g1 g2 g3 g4 HV4 HR4 HF4 HS4 HS5 HQ HCR
    go_wp2_with (at_builtin;refine wpList_append_S _ rfl (.tmp 51) (.tmp 52) 68 rfl 164 i0 _ 5 40 Tryz.underlying68 hi hz0 hz1 hz2 rfl (by omega) (.slice A3 SI.granted.length cap3) SI.granted.length (wqcells SI.granted) rfl HG5.out Dd G.length capd (wqcells G) rfl (Reads.of_own HO5.out.1) (wqcells_one G) (by unfold maxLen;omega) (by omega) ?_;intro v7 w7 hown7 hst7 hgr7 hat7;obtain ⟨A7,cap7,rfl,_,_⟩:=own_form' hown7;have HW7:=Lib.hid hown7;have HS7:=Lib.hid hst7;have k7:w7.cell? ⟨s,167,none⟩=some P2.gv:=(((HV5.out.blk.step hst7 (by rw [HV5.out.col];unfold only;omega)).cell (163+4)).trans (Sv.tail_at (k:=4)));have f7:=(HV5.out.blk.step hst7 (by rw [HV5.out.col];unfold only;omega)).frozen 167;clear hown7 hst7 hgr7 hat7)
    obtain ⟨hv8,hs8⟩:=HV5.out.gave HC.out (G:=G) (n:=SI.granted.length+G.length) (by simp) HS7.out (by rw [wqcells_app];exact HW7.out)
    have HV8:=Lib.hid hv8
    have HT8:=Lib.hid (HT5.out.trans hs8)
    have HR8:=Lib.hid (HR5.out.step hs8 (svC_0 HC.out))
    have HF8:=Lib.hid (HF5.out.step hs8)
    have HNN:=Lib.hid (HNX.out.trans HLE.out)
    clear hv8 hs8
    go_roundg (LS.length - (i+1))
    case measure=>have:=HNI.out;omega
    case rel=>exact ⟨i+1,_,by omega,by go_num,by rw [HNN.out];exact ⟨_,HV8.out⟩,HR8.out,HF8.out,HT8.out⟩
   ·have hltI:¬(i:Int)<(LS.length:Int):=by omega
    obtain rfl:i=LS.length:=by have:=HNI.out;omega
    rw [List.take_length,HN.out] at hv
    have HVE:=Lib.hid hv
    clear hv
    go_wp2_with fail
    go_end0
    exact ⟨rfl,oL,HVE.out,HST.out⟩
 ·have b1:(m.stamp != (S.peers k).grants)=true:=by simp [hst]
  have HN:=Lib.hid ((if_pos hst).symm.trans HRD.out)
  clear hst HRD
  go_wp2_with fail
  go_quiet (fail)
  go_wp2_with fail
  refine bodyPost_ret (results_none rfl _ _ _) rfl ?_
  exact ⟨rfl,o6,by rw [←HN.out];exact ⟨_,HV6.out.drewN _⟩,HS6.out.trans (Step.of_below o6 (svC c) (below_drewN W1 _))⟩
end
def Sv.stateOf (S:Sv) (node:Int):Int:=if S.is node then (S.peers node.toNat).state else -1
section
variable {o o':Nat→Nat} {c:Nat} {C:Nat→Prop} {w w':World} {s:Nat} {S:Sv} {P:SvP} {v:Value}
theorem vState_any (h:SvIn o c w s S P) (node:Int):Calls Tryz.prog 18 #[.pointer (some ⟨s,0,none⟩), .int .i64 node] w fun e w'=>e = .returned (.int .i64 (S.stateOf node))∧w'=w:=by
 have hnn:=h.rest.nn
 have HV:=Lib.hid h
 by_cases his:S.is node
 ·obtain ⟨k,rfl⟩:∃k:Nat,node=(k:Nat):=⟨node.toNat,by unfold Sv.is at his;omega⟩
  have di:=decide_eq_true his
  have hk16:k≤16:=by unfold Sv.is at his;omega
  have hk17:(k:Int)<17:=by omega
  have HN:=Lib.hid (show S.stateOf (k:Nat)=(S.peers k).state from if_pos his)
  have x0:w.cell? ⟨s,10+k*9,none⟩=some (.int .i64 (S.peers k).state):=h.p (j:=0) hk16 (by omega) rfl
  clear h his
  go_enter Tryz.func18,Tryz.ntmps18
  go_wp2_with fail
  refine (vis_any HV.out (k:Nat)).mono ?_
  rintro e w1 ⟨rfl,rfl⟩
  rw [di]
  go_wp2_with fail
  go_ret
  exact ⟨by rw [HN.out];first | done | rfl,rfl⟩
 ·have di:=decide_eq_false his
  have HN:=Lib.hid (show S.stateOf node = -1 from if_neg his)
  clear h his
  go_enter Tryz.func18,Tryz.ntmps18
  go_wp2_with fail
  refine (vis_any HV.out node).mono ?_
  rintro e w1 ⟨rfl,rfl⟩
  rw [di]
  go_wp2_with fail
  go_ret
  exact ⟨by rw [HN.out];first | done | rfl,rfl⟩
theorem vTable_any (h:SvIn o c w s S P):Calls Tryz.prog 23 #[.pointer (some ⟨s,0,none⟩)] w fun e w'=>e = .returned (.pointer (some ⟨P.tp,0,none⟩))∧w'=w:=by
 have HV:=Lib.hid h
 have y164:w.cell? ⟨s,164,none⟩=some (.pointer (some ⟨P.tp,0,none⟩)):=h.t (k:=1) rfl
 clear h
 go_enter Tryz.func23,Tryz.ntmps23
 go_wp2_with fail
 refine (vnone_any HV.out).mono ?_
 rintro e w1 ⟨rfl,rfl⟩
 go_wp2_with fail
 go_ret
 exact ⟨rfl,rfl⟩
end
end Go.Proofs.YtohgabdmmbngbaaGreatDoor
