import Derived.Test.YtohgabdmmbngbaaGreatDoorKSrvD
import Derived.Test.YtohgabdmmbngbaaGreatDoorKSortK
set_option linter.unusedVariables false
set_option linter.unusedSimpArgs false
namespace Go.Proofs.YtohgabdmmbngbaaGreatDoor
open Go.RowKit
section
variable {o o':Nat→Nat} {c:Nat} {C:Nat→Prop} {w w':World} {s:Nat} {S:Sv} {P:SvP} {v:Value}
theorem svC_0 (hc:1≤c):¬svC c 0:=by unfold svC;omega
theorem tab_sv {c:Nat}:∀x,tabC (c+22) x→svC c x:=fun x h=>by unfold tabC at h;unfold svC;omega
theorem lea_sv {c:Nat}:∀x,leaC (c+41) x→svC c x:=fun x h=>by unfold leaC at h;unfold svC;omega
theorem only_sv {c d:Nat} (hd:d≤48):∀x,only (c+d) x→svC c x:=fun x h=>by unfold only at h;unfold svC;omega
theorem SvIn.onT (h:SvIn o c w s S P) (hc:1≤c) {T':Tb} (hs:Step o (tabC (c+22)) w o' w') (ht:TbAt o' (c+22) w' P.tp T'):SvIn o' c w' s {S with T:=T'} P:=by
 have h0:¬tabC (c+22) 0:=by unfold tabC;omega
 have hx:∀d,d<22∨40<d→¬tabC (c+22) (c+d):=fun d hd=>by unfold tabC;omega
 have hn:=h.rest.nodes
 refine ⟨h.blk.step hs (by rw [h.col];exact hx 0 (by omega)),(hs.old s h.blk.lt).trans h.col,h.rest.outs.step hs (hx 1 (by omega)) h0,h.rest.kept.step hs (hx 2 (by omega)) h0,h.rest.granted.step hs (hx 3 (by omega)),h.rest.ids.step hs (hx 4 (by omega)),fun i h1 h2 => ?_,ht,h.rest.lease.step hs (hx 41 (by omega)) (hx 42 (by omega)),h.rest.disk.step hs (fun x h1 h2=>by unfold tabC;omega),h.rest.nodes⟩
 obtain ⟨m,e,hm⟩:=h.rest.told i h1 h2
 have hi16:i≤16:=by
  have h3:i≤S.n:=h2
  omega
 exact ⟨m,e,hm.step hs (by unfold tabC;omega)⟩
theorem SvIn.onL (h:SvIn o c w s S P) (hc:1≤c) {L':Le} (hs:Step o (leaC (c+41)) w o' w') (ht:LeAt o' (c+41) w' P.lp L'):SvIn o' c w' s {S with L:=L'} P:=by
 have h0:¬leaC (c+41) 0:=by unfold leaC;omega
 have hx:∀d,d<41∨42<d→¬leaC (c+41) (c+d):=fun d hd=>by unfold leaC;omega
 have hn:=h.rest.nodes
 refine ⟨h.blk.step hs (by rw [h.col];exact hx 0 (by omega)),(hs.old s h.blk.lt).trans h.col,h.rest.outs.step hs (hx 1 (by omega)) h0,h.rest.kept.step hs (hx 2 (by omega)) h0,h.rest.granted.step hs (hx 3 (by omega)),h.rest.ids.step hs (hx 4 (by omega)),fun i h1 h2 => ?_,h.rest.table.step hs (fun x hxx=>by unfold tabC at hxx;unfold leaC;omega),ht,h.rest.disk.step hs (fun x h1 h2=>by unfold leaC;omega),h.rest.nodes⟩
 obtain ⟨m,e,hm⟩:=h.rest.told i h1 h2
 have hi16:i≤16:=by
  have h3:i≤S.n:=h2
  omega
 exact ⟨m,e,hm.step hs (by unfold leaC;omega)⟩
theorem SvIn.onD (h:SvIn o c w s S P) (hc:1≤c) {D':Dk} (hs:Step o (six (c+43)) w o' w') (ht:DiskAt o' (c+43) w' P.dp D'):SvIn o' c w' s {S with D:=D'} P:=by
 have h0:¬six (c+43) 0:=by unfold six;omega
 have hx:∀d,d<43→¬six (c+43) (c+d):=fun d hd=>by unfold six;omega
 have hn:=h.rest.nodes
 refine ⟨h.blk.step hs (by rw [h.col];exact hx 0 (by omega)),(hs.old s h.blk.lt).trans h.col,h.rest.outs.step hs (hx 1 (by omega)) h0,h.rest.kept.step hs (hx 2 (by omega)) h0,h.rest.granted.step hs (hx 3 (by omega)),h.rest.ids.step hs (hx 4 (by omega)),fun i h1 h2 => ?_,h.rest.table.step hs (fun x hxx=>by unfold tabC at hxx;unfold six;omega),h.rest.lease.step hs (hx 41 (by omega)) (hx 42 (by omega)),ht,h.rest.nodes⟩
 obtain ⟨m,e,hm⟩:=h.rest.told i h1 h2
 have hi16:i≤16:=by
  have h3:i≤S.n:=h2
  omega
 exact ⟨m,e,hm.step hs (by unfold six;omega)⟩
theorem SvIn.onI (h:SvIn o c w s S P) (hc:1≤c) {f:Int→Option Int} (hs:Step o (only (c+4)) w o' w') (ht:MapR o' (c+4) w' P.im (leV f)):SvIn o' c w' s {S with ids:=f} P:=by
 have h0:¬only (c+4) 0:=by unfold only;omega
 have hx:∀d,d≠4→¬only (c+4) (c+d):=fun d hd=>by unfold only;omega
 refine ⟨h.blk.step hs (by rw [h.col];exact hx 0 (by omega)),(hs.old s h.blk.lt).trans h.col,h.rest.outs.step hs (hx 1 (by omega)) h0,h.rest.kept.step hs (hx 2 (by omega)) h0,h.rest.granted.step hs (hx 3 (by omega)),ht,fun i h1 h2 => ?_,h.rest.table.step hs (fun x hxx=>by unfold tabC at hxx;unfold only;omega),h.rest.lease.step hs (hx 41 (by omega)) (hx 42 (by omega)),h.rest.disk.step hs (fun x h1 h2=>by unfold only;omega),h.rest.nodes⟩
 obtain ⟨m,e,hm⟩:=h.rest.told i h1 h2
 exact ⟨m,e,hm.step hs (by unfold only;omega)⟩
theorem SvIn.idDel (h:SvIn o c w s S P) (hc:1≤c) (k:Int) (k2 ty:TypeId) :
 ∃w',(Builtin.delete_ #[66,k2] ty #[.map (some P.im), .int .i64 k]).run Tryz.prog w = .ok (.tuple #[]) w'∧SvIn o c w' s {S with ids:=del S.ids k} P∧Step o (only (c+4)) w o w':=by
 obtain ⟨w',h1,h2,h3,h4⟩:=h.rest.ids.del Tryz.underlying66 Tryz.underlying3 k k2 ty
 rw [leV_del] at h2
 exact ⟨w',h1,h.onI hc h3 h2,h3⟩
theorem SvIn.idPut (h:SvIn o c w s S P) (hc:1≤c) (k x:Int) :
 ∃w',(Instr.mapUpdate 66 (.map (some P.im)) (.int .i64 k) (.int .i64 x)).run Tryz.prog w = .ok () w'∧SvIn o c w' s {S with ids:=upd S.ids k x} P∧Step o (only (c+4)) w o w':=by
 obtain ⟨w',h1,h2,h3,h4⟩:=h.rest.ids.put Tryz.underlying66 Tryz.underlying3 k (.int .i64 x)
 rw [leV_upd] at h2
 exact ⟨w',h1,h.onI hc h3 h2,h3⟩
theorem SvIn.gave (h:SvIn o c w s S P) (hc1:1≤c) {o1:Nat→Nat} {w1:World} {D:Option Addr} {cap n:Nat} {G:List Wq} (hn:n=(S.granted++G).length)
 (hs:Step o (only (c+3)) w o1 w1) (ho:OwnS o1 (c+3) w1 164 5 (.slice D n cap) n (wqcells (S.granted++G))) :
 SvIn o1 c (w1.setCell ⟨s,167,none⟩ (.slice D n cap)) s {S with granted:=S.granted++G} {P with gv := .slice D n cap}∧Step o (svC c) w o1 (w1.setCell ⟨s,167,none⟩ (.slice D n cap)):=by
 subst hn
 have hc0:¬only (c+3) 0:=by unfold only;omega
 have hr1:∀d,d≠3→¬only (c+3) (c+d):=fun d hd=>by unfold only;omega
 have hb1:Blk w1 s 70 (S.cells P):=h.blk.step hs (by rw [h.col];exact hr1 0 (by omega))
 have hcol:o1 s=c:=(hs.old s h.blk.lt).trans h.col
 have hrest:SvRest o1 c w1 {S with granted:=S.granted++G} {P with gv := .slice D (S.granted++G).length cap}:=by
  refine ⟨h.rest.outs.step hs (hr1 1 (by omega)) hc0,h.rest.kept.step hs (hr1 2 (by omega)) hc0,ho,h.rest.ids.step hs (hr1 4 (by omega)),fun i h1 h2 => ?_,h.rest.table.step hs (fun y hy=>by unfold tabC at hy;unfold only;omega),h.rest.lease.step hs (hr1 41 (by omega)) (hr1 42 (by omega)),h.rest.disk.step hs (fun y h1 h2=>by unfold only;omega),h.rest.nodes⟩
  obtain ⟨m,e,hm⟩:=h.rest.told i h1 h2
  exact ⟨m,e,hm.step hs (by unfold only;omega)⟩
 have hs3:Step o1 (only c) w1 o1 (w1.setCell ⟨s,167,none⟩ (.slice D (S.granted++G).length cap)):=(Step.refl o1 (only c) w1).setCell (p:=⟨s,167,none⟩) hcol _
 have hcell:(S.cells P).setIfInBounds (163+4) (.slice D (S.granted++G).length cap)=({S with granted:=S.granted++G}:Sv).cells {P with gv := .slice D (S.granted++G).length cap}:=Sv.tail_set rfl rfl rfl rfl
 refine ⟨⟨hcell▸hb1.set_ 167 _,hcol,hrest.step hs3 (fun y h1 h2=>by unfold only;omega) (by unfold only;omega)⟩,?_⟩
 exact (hs.mono (only_sv (by omega))).trans (hs3.mono (fun y h=>by unfold only at h;unfold svC;omega))
end
def RowL (o:Nat→Nat) (w:World) (v:Value) (n:Nat) (xs:List Value):Prop:=∃A cap,v = .slice A n cap∧n≤cap∧cap≤maxLen∧Reads w 3 A n xs∧(∀ad,A=some ad→ad.spot=none)∧∀ad,A=some ad→0<n→o ad.block=0∧ad.block<w.heap.size
section
variable {o o':Nat→Nat} {C:Nat→Prop} {w w':World} {v:Value} {n:Nat} {xs:List Value} {A:Option Addr} {cap:Nat}
theorem RowL.form (h:RowL o w v n xs):∃A cap,v = .slice A n cap∧n≤cap∧cap≤maxLen:=by
 obtain ⟨A,cap,h1,h2,h3,_⟩:=h
 exact ⟨A,cap,h1,h2,h3⟩
theorem RowL.reads (h:RowL o w (.slice A n cap) n xs):Reads w 3 A n xs:=by
 obtain ⟨A',cap',e,_,_,h4,_⟩:=h
 injection e with e1
 subst e1
 exact h4
theorem RowL.nil_ (h:RowL o w (.slice A n cap) n xs):A=none→n=0:=fun e=>by
 rcases Nat.eq_zero_or_pos n with hn | hn
 ·exact hn
 ·obtain ⟨ad,e2,_⟩:=h.reads.2 hn
  rw [e] at e2
  cases e2
theorem RowL.spot (h:RowL o w (.slice A n cap) n xs):∀ad,A=some ad→ad.spot=none:=by
 obtain ⟨A',cap',e,_,_,_,h5,_⟩:=h
 injection e with e1
 subst e1
 exact h5
theorem RowL.step (h:RowL o w v n xs) (hs:Step o C w o' w') (h0:¬C 0):RowL o' w' v n xs:=by
 obtain ⟨A,cap,rfl,h1,h2,h3,h5,h4⟩:=h
 refine ⟨A,cap,rfl,h1,h2,?_,h5,fun ad e hn=>⟨(hs.old _ (h4 ad e hn).2).trans (h4 ad e hn).1,Nat.lt_of_lt_of_le (h4 ad e hn).2 hs.size⟩⟩
 rcases Nat.eq_zero_or_pos n with hn | hn
 ·subst hn
  exact ⟨h3.1,fun hh=>absurd hh (by omega)⟩
 ·exact h3.keep_ (fun ad e=>hs.block ad.block (h4 ad e hn).2 (by rw [(h4 ad e hn).1];exact h0))
theorem RowL.below_ (h:RowL o w v n xs) (hb:Below w.heap.size w w'):RowL o w' v n xs:=h.step (Step.of_below o (fun _=>False) hb) id
theorem RowL.alloc (h:RowL o w v n xs) (x:Obj):RowL o (w.alloc x) v n xs:=h.below_ ((Below.refl _ _).alloc (Nat.le_refl _) x)
theorem RowL.drew (h:RowL o w v n xs):RowL o w.drew v n xs:=h.below_ (below_drew w)
theorem RowL.drewN (h:RowL o w v n xs) (k:Nat):RowL o (w.drewN k) v n xs:=h.below_ (below_drewN w k)
theorem OwnS.row (h:OwnS o 0 w 47 3 v n xs):RowL o w v n xs:=by
 obtain ⟨A,cap,rfl,h1,h2⟩:=own_form' h
 refine ⟨A,cap,rfl,h1,h2,Reads.of_own h.1,?_,fun ad e hn => ?_⟩
 ·rintro ad rfl
  rcases h.1.2 with ⟨hv,_⟩ | ⟨g,cap',cur,hv,_⟩
  ·cases hv
  ·injection hv with hv
   injection hv with hv
   rw [hv]
 ·subst e
  obtain ⟨g,e,hlt,hc⟩:=h.addr hn
  injection e with e
  subst e
  exact ⟨hc,hlt⟩
theorem RowL.some_ {l:Lk} (h:RowL o w (.slice A 1 cap) 1 (lkcells [l])):∃ad,A=some ad:=by
 obtain ⟨ad,e,_⟩:=(show Reads w 3 A [l].length (lkcells [l]) from h.reads).lock (k:=0) (y:=l) rfl
 exact ⟨ad,e⟩
theorem RowL.at3 {ad:Addr} {l:Lk} (h:RowL o w (.slice (some ad) 1 cap) 1 (lkcells [l])):w.cell? ad=some (.int .i64 l.a)∧w.cell? ⟨ad.block,ad.off+1,none⟩=some (.int .i64 l.b)∧w.cell? ⟨ad.block,ad.off+2,none⟩=some (.int .i64 l.m):=by
 obtain ⟨ad',e,h0,h1,h2⟩:=(show Reads w 3 (some ad) [l].length (lkcells [l]) from h.reads).lock (k:=0) (y:=l) rfl
 injection e with e
 subst e
 rw [Nat.zero_mul,Addr.add_zero'] at h0 h1 h2
 exact ⟨h0,h1,h2⟩
theorem RowL.recolor (h:RowL o w v n xs) (ho:∀k,o k=0→o' k=0):RowL o' w v n xs:=by
 obtain ⟨A,cap,h1,h2,h3,h4,h6,h5⟩:=h
 exact ⟨A,cap,h1,h2,h3,h4,h6,fun ad e hn=>⟨ho _ (h5 ad e hn).1,(h5 ad e hn).2⟩⟩
end
section
variable {o o':Nat→Nat} {c:Nat} {C:Nat→Prop} {w w':World} {s:Nat} {S:Sv} {P:SvP} {v:Value}
set_option maxRecDepth 100000 in
set_option maxHeartbeats 8000000 in
theorem vcancel_any (h:SvAt o c w s S) (hf:Fut o w) (hc1:1≤c) (wf:TbWf S.T) (id:Int) (hg:S.granted.length+(S.T.cancel id).1.1.length≤1000000) :
 Calls Tryz.prog 163 #[.pointer (some ⟨s,0,none⟩), .int .i64 id] w fun e w'=>e = .returned (.tuple #[])∧∃o',SvAt o' c w' s (S.cancel id)∧Step o (svC c) w o' w':=by
 obtain ⟨i0,hi,hz0,hz1,hz2⟩:=info_parts info_wq
 obtain ⟨P,h⟩:=h
 have HV:=Lib.hid h
 have HC:=Lib.hid hc1
 have HF:=Lib.hid hf
 have HT:=Lib.hid (tcancel_any h.rest.table hf (by omega) wf id)
 have HS:=Lib.hid (show S.cancel id = {S with T:=(S.T.cancel id).2,ids:=del S.ids id,granted:=S.granted++(S.T.cancel id).1.1} from rfl)
 obtain ⟨G,hG⟩:∃G,(S.T.cancel id).1.1=G:=⟨_,rfl⟩
 rw [hG] at HT HS hg
 have y164:w.cell? ⟨s,164,none⟩=some (.pointer (some ⟨P.tp,0,none⟩)):=h.t (k:=1) rfl
 clear h hf hc1 wf hG
 go_enter Tryz.func163,Tryz.ntmps163
 go_wp2_with fail
 refine HT.out.mono ?_
 rintro e w1 ⟨D1,cap1,rfl,o1,ho1,ht1,hs1⟩
 have hv1:=HV.out.onT HC.out hs1 ht1
 have HO1:=Lib.hid ho1
 have HS1:=Lib.hid (hs1.mono tab_sv)
 have HF1:=Lib.hid (HF.out.step hs1)
 have y165:w1.cell? ⟨s,165,none⟩=some (.map (some P.im)):=hv1.t (k:=2) rfl
 obtain ⟨w2,hdel,hv2,hs2⟩:=hv1.idDel HC.out id 3 0
 have HV2:=Lib.hid hv2
 have HS2:=Lib.hid (hs2.mono (D:=svC c) (only_sv (by omega)))
 have HO2:=Lib.hid (HO1.out.step hs2 (by unfold only;omega))
 have HF2:=Lib.hid (HF1.out.step hs2)
 obtain ⟨A3,cap3,hgv,_⟩:=own_form' hv2.rest.granted
 have y167:w2.cell? ⟨s,167,none⟩=some (.slice A3 S.granted.length cap3):=(hv2.t (k:=4) rfl).trans (by rw [hgv])
 have HG2:=Lib.hid (show OwnS o1 (c+3) w2 164 5 (.slice A3 S.granted.length cap3) S.granted.length (wqcells S.granted) from by
  have:=hv2.rest.granted
  rw [hgv] at this
  exact this)
 clear y164 ho1 ht1 hs1 hv1 hv2 hs2 hgv
 go_wp2_with (at_builtin;refine wpList_append_S _ rfl (.tmp 24) (.tmp 25) 68 rfl 164 i0 _ 5 40 Tryz.underlying68 hi hz0 hz1 hz2 rfl (by omega) (.slice A3 S.granted.length cap3) S.granted.length (wqcells S.granted) rfl HG2.out D1 G.length cap1 (wqcells G) rfl (Reads.of_own HO2.out.1) (wqcells_one G) (by unfold maxLen;omega) (by omega) ?_;intro v7 w7 hown7 hst7 hgr7 hat7;obtain ⟨A7,cap7,rfl,_,_⟩:=own_form' hown7;have HW7:=Lib.hid hown7;have HS7:=Lib.hid hst7;have k7:w7.cell? ⟨s,167,none⟩=some P.gv:=(((HV2.out.blk.step hst7 (by rw [HV2.out.col];unfold only;omega)).cell (163+4)).trans (Sv.tail_at (k:=4)));have f7:=(HV2.out.blk.step hst7 (by rw [HV2.out.col];unfold only;omega)).frozen 167;clear hown7 hst7 hgr7 hat7)
 obtain ⟨hv8,hs8⟩:=HV2.out.gave HC.out (G:=G) (n:=S.granted.length+G.length) (by simp) HS7.out (by rw [wqcells_app];exact HW7.out)
 have HV8:=Lib.hid hv8
 have HS8:=Lib.hid ((HS1.out.trans HS2.out).trans hs8)
 clear hv8 hs8
 go_end0
 exact ⟨rfl,_,⟨_,by rw [HS.out];exact HV8.out⟩,HS8.out⟩
end
section
variable {o o':Nat→Nat} {c:Nat} {C:Nat→Prop} {w w':World} {s:Nat} {S:Sv} {P:SvP} {v:Value}
def acqC (c:Nat):Nat→Prop:=fun x=>telC c x∨x=c+4∨tabC (c+22) x
theorem acqC_sv : ∀x,acqC c x→svC c x:=fun x h=>by
 unfold acqC telC tabC at h
 unfold svC
 omega
theorem telC_acq : ∀x,telC c x→acqC c x:=fun _ h => .inl h
theorem tab_acq : ∀x,tabC (c+22) x→acqC c x:=fun _ h => .inr (.inr h)
theorem only4_acq : ∀x,only (c+4) x→acqC c x:=fun x h => .inr (.inl h)
theorem acqC_0 (hc:1≤c):¬acqC c 0:=fun h=>svC_0 hc (acqC_sv 0 h)
theorem vtell_acq (h:SvAt o c w s S) (hf:Fut o w) (hc1:1≤c) (ho:S.out.length≤1000000000) (k:Nat) (hk16:k≤16) (m:Mg) (lv:Value) (hl:OwnS o 0 w 47 3 lv m.locks.length (lkcells m.locks)) :
 Calls Tryz.prog 59 #[.pointer (some ⟨s,0,none⟩), .int .i64 (k:Nat), .agg #[.int .i64 m.kind, .int .i64 m.id, .int .i64 m.node, .int .i64 m.gen, .int .i64 m.stamp, .int .u64 m.epoch, .int .i64 m.err,lv]] w fun e w'=>e = .returned (.tuple #[])∧∃o',SvAt o' c w' s (S.tell k m)∧Step o (acqC c) w o' w':=by
 refine (vtell_fin h hf hc1 ho k hk16 m lv hl).mono ?_
 rintro e w' ⟨he,o',h1,h2⟩
 exact ⟨he,o',h1,h2.mono telC_acq⟩
theorem vgrant_acq (h:SvAt o c w s S) (hf:Fut o w) (hc1:1≤c) (ho:S.out.length≤1000000000) (k:Nat) (hk16:k≤16) (hg:0≤(S.peers k).grants∧(S.peers k).grants≤1000000000) (id:Int) (l:Lk) :
 Calls Tryz.prog 102 #[.pointer (some ⟨s,0,none⟩), .int .i64 (k:Nat), .int .i64 id, .agg #[.int .i64 l.a, .int .i64 l.b, .int .i64 l.m]] w fun e w'=>e = .returned (.tuple #[])∧∃o',SvAt o' c w' s (S.grant k id l)∧Step o (acqC c) w o' w':=by
 refine (vgrant_fin h hf hc1 ho k hk16 hg id l).mono ?_
 rintro e w' ⟨he,o',h1,h2⟩
 exact ⟨he,o',h1,h2.mono telC_acq⟩
set_option maxRecDepth 100000 in
set_option maxHeartbeats 16000000 in
theorem vacquire_fin (h:SvAt o c w s S) (hf:Fut o w) (hc1:1≤c) (ho:S.out.length≤1000000000) (wf:TbWf S.T) (k:Nat) (hk16:k≤16) (hg:0≤(S.peers k).grants∧(S.peers k).grants≤1000000000) (m:Mg) (lv:Value) (hl:RowL o w lv m.locks.length (lkcells m.locks)) (hm:m.locks.length≤1000) :
 Calls Tryz.prog 96 #[.pointer (some ⟨s,0,none⟩), .int .i64 (k:Nat), .agg #[.int .i64 m.kind, .int .i64 m.id, .int .i64 m.node, .int .i64 m.gen, .int .i64 m.stamp, .int .u64 m.epoch, .int .i64 m.err,lv]] w fun e w'=>e = .returned (.tuple #[])∧∃o',SvAt o' c w' s (S.acquire k m)∧Step o (acqC c) w o' w':=by
 obtain ⟨P,h⟩:=h
 have HC:=Lib.hid hc1
 have HO:=Lib.hid ho
 have HW:=Lib.hid wf
 have HGR:=Lib.hid hg
 obtain ⟨D,cap,rfl,_⟩:=hl.form
 have HV0:=Lib.hid (h.alloc (.cells #[.int .i64 m.kind, .int .i64 m.id, .int .i64 m.node, .int .i64 m.gen, .int .i64 m.stamp, .int .u64 m.epoch, .int .i64 m.err, .slice D m.locks.length cap] 38))
 have HK0:=Lib.hid (Keep.new hf 38 #[.int .i64 m.kind, .int .i64 m.id, .int .i64 m.node, .int .i64 m.gen, .int .i64 m.stamp, .int .u64 m.epoch, .int .i64 m.err, .slice D m.locks.length cap])
 have HL0:=Lib.hid (hl.alloc (.cells #[.int .i64 m.kind, .int .i64 m.id, .int .i64 m.node, .int .i64 m.gen, .int .i64 m.stamp, .int .u64 m.epoch, .int .i64 m.err, .slice D m.locks.length cap] 38))
 have HF0:=Lib.hid (hf.alloc (.cells #[.int .i64 m.kind, .int .i64 m.id, .int .i64 m.node, .int .i64 m.gen, .int .i64 m.stamp, .int .u64 m.epoch, .int .i64 m.err, .slice D m.locks.length cap] 38))
 have HS0:=Lib.hid ((Step.refl o (acqC c) w).alloc (.cells #[.int .i64 m.kind, .int .i64 m.id, .int .i64 m.node, .int .i64 m.gen, .int .i64 m.stamp, .int .u64 m.epoch, .int .i64 m.err, .slice D m.locks.length cap] 38))
 obtain ⟨R,hR⟩:∃R,S.acquire k m=R:=⟨_,rfl⟩
 have HRD:=Lib.hid hR
 unfold Sv.acquire at HRD
 rw [hR]
 clear h hf hc1 ho wf hg hl hR
 obtain ⟨LS,hLS⟩:∃LS,m.locks=LS:=⟨_,rfl⟩
 rw [hLS] at HRD HL0 hm HV0 HK0 HF0 HS0 ⊢
 clear hLS
 by_cases h1:LS.length=1
 ·rw [h1] at HL0 HV0 HK0 HF0 HS0 ⊢
  obtain ⟨l,hl⟩:=List.length_eq_one_iff.1 h1
  rw [hl] at HL0 HRD
  have HRE:=Lib.hid (show (if (S.T.ask k l).1.2.1=true then {S with T:=(S.T.ask k l).2}.grant k m.id l
   else if (S.T.ask k l).1.2.2=0 then {S with T:=(S.T.ask k l).2,ids:=upd S.ids (S.T.ask k l).1.1 m.id}
   else {S with T:=(S.T.ask k l).2}.deny k m.id (S.T.ask k l).1.2.2)=R from HRD.out)
  obtain ⟨ad,rfl⟩:=HL0.out.some_
  clear h1 hm hl HRD
  go_enter Tryz.func96,Tryz.ntmps96
  go_upto_region 1 with (fail)
  generalize w.alloc (.cells #[.int .i64 m.kind, .int .i64 m.id, .int .i64 m.node, .int .i64 m.gen, .int .i64 m.stamp, .int .u64 m.epoch, .int .i64 m.err, .slice (some ad) 1 cap] 38)=W0 at HV0 HK0 HL0 HF0 HS0 ⊢
  generalize w.heap.size=gm at HK0 ⊢
  have HCA:=Lib.hid (show Calls Tryz.prog 161 #[.pointer (some ⟨P.tp,0,none⟩), .int .i64 (k:Nat), .agg #[.int .i64 l.a, .int .i64 l.b, .int .i64 l.m]] W0.drew _ from task_any HV0.out.drew.rest.table HF0.out.drew (by have:=HC.out;omega) HW.out (k:Nat) l)
  have q1:W0.drew.cell? ⟨s,164,none⟩=some (.pointer (some ⟨P.tp,0,none⟩)):=HV0.out.drew.t (k:=1) rfl
  obtain ⟨y0,y1,y2,y3,y4,y5,y6,y7⟩:=Blk.eight HK0.out.1
  have q2:W0.drew.cell? ⟨gm,7,none⟩=some (.slice (some ad) 1 cap):=y7
  have q3:W0.drew.cell? ad=some (.int .i64 l.a):=HL0.out.drew.at3.1
  have q4:W0.drew.cell? ⟨ad.block,ad.off+1,none⟩=some (.int .i64 l.b):=HL0.out.drew.at3.2.1
  have q5:W0.drew.cell? ⟨ad.block,ad.off+2,none⟩=some (.int .i64 l.m):=HL0.out.drew.at3.2.2
  go_wp2_with fail
  go_region_held3 (fun w'=>w'.cell? ⟨s,164,none⟩=some (.pointer (some ⟨P.tp,0,none⟩))∧w'.cell? ⟨gm,7,none⟩=some (.slice (some ad) 1 cap)∧w'.cell? ad=some (.int .i64 l.a)∧w'.cell? ⟨ad.block,ad.off+1,none⟩=some (.int .i64 l.b)∧w'.cell? ⟨ad.block,ad.off+2,none⟩=some (.int .i64 l.m))
   (first | exact ⟨q1,q2,q3,q4,q5⟩ | exact ⟨g1,g2,g3,g4,g5⟩ | go_keep)
   ((go_at_call 161;((with_reducible refine HCA.out.mono ?_);rintro e w3 ⟨rfl,o3,ht3,hs3⟩;have hv3:=HV0.out.drew.onT HC.out hs3 ht3;have HV3:=Lib.hid hv3;have HS3:=Lib.hid hs3;have g1:w3.cell? ⟨s,164,none⟩=some (.pointer (some ⟨P.tp,0,none⟩)):=hv3.t (k:=1) rfl;have hk3:=HK0.out.drew.step hs3 (by unfold tabC;omega);have g2:w3.cell? ⟨gm,7,none⟩=some (.slice (some ad) 1 cap):=hk3.1.cell 7;have hl3:=HL0.out.drew.step hs3 (by unfold tabC;omega);have g3:w3.cell? ad=some (.int .i64 l.a):=hl3.at3.1;have g4:w3.cell? ⟨ad.block,ad.off+1,none⟩=some (.int .i64 l.b):=hl3.at3.2.1;have g5:w3.cell? ⟨ad.block,ad.off+2,none⟩=some (.int .i64 l.m):=hl3.at3.2.2;have HK3:=Lib.hid hk3;have HL3:=Lib.hid hl3;clear ht3 hs3 hv3 hk3 hl3)))
  have HF3:=Lib.hid (HF0.out.drew.step HS3.out)
  have HT3:=Lib.hid (HS0.out.trans ((Step.refl o (acqC c) W0).drew.trans (HS3.out.mono tab_acq)))
  obtain ⟨qi,hqi⟩:∃qi,(S.T.ask (k:Nat) l).1.1=qi:=⟨_,rfl⟩
  obtain ⟨qb,hqb⟩:∃qb,(S.T.ask (k:Nat) l).1.2.1=qb:=⟨_,rfl⟩
  obtain ⟨qe,hqe⟩:∃qe,(S.T.ask (k:Nat) l).1.2.2=qe:=⟨_,rfl⟩
  obtain ⟨T2,hT2⟩:∃T2,(S.T.ask (k:Nat) l).2=T2:=⟨_,rfl⟩
  rw [hqi,hqb,hqe,hT2] at HRE
  rw [hT2] at HV3
  rw [hqi,hqb,hqe]
  clear hqi hqb hqe hT2 HV0 HK0 HL0 HF0 HS0 HS3 HCA q1 q2 q3 q4 q5 g1 g2 g3 g4 g5 y0 y1 y2 y3 y4 y5 y6 y7
  obtain ⟨y0,y1,y2,y3,y4,y5,y6,y7⟩:=Blk.eight HK3.out.1
  cases qb with
  | true =>
    have HN:=Lib.hid (show ({S with T:=T2}:Sv).grant k m.id l=R from (if_pos rfl).symm.trans HRE.out)
    have HCG:=Lib.hid (show Calls Tryz.prog 102 #[.pointer (some ⟨s,0,none⟩), .int .i64 (k:Nat), .int .i64 m.id, .agg #[.int .i64 l.a, .int .i64 l.b, .int .i64 l.m]] w3.drew _ from vgrant_acq ⟨P,HV3.out.drew⟩ HF3.out.drew HC.out HO.out k hk16 HGR.out m.id l)
    have q1:w3.drew.cell? ⟨gm,1,none⟩=some (.int .i64 m.id):=y1
    have q2:w3.drew.cell? ⟨gm,7,none⟩=some (.slice (some ad) 1 cap):=y7
    have q3:w3.drew.cell? ad=some (.int .i64 l.a):=HL3.out.drew.at3.1
    have q4:w3.drew.cell? ⟨ad.block,ad.off+1,none⟩=some (.int .i64 l.b):=HL3.out.drew.at3.2.1
    have q5:w3.drew.cell? ⟨ad.block,ad.off+2,none⟩=some (.int .i64 l.m):=HL3.out.drew.at3.2.2
    go_wp2_with fail
    go_region_held3 (fun w'=>w'.cell? ⟨gm,1,none⟩=some (.int .i64 m.id)∧w'.cell? ⟨gm,7,none⟩=some (.slice (some ad) 1 cap)∧w'.cell? ad=some (.int .i64 l.a)∧w'.cell? ⟨ad.block,ad.off+1,none⟩=some (.int .i64 l.b)∧w'.cell? ⟨ad.block,ad.off+2,none⟩=some (.int .i64 l.m))
     (first | exact ⟨q1,q2,q3,q4,q5⟩ | exact ⟨g1,g2,g3,g4,g5⟩ | go_keep)
     ((go_at_call 102;((with_reducible refine HCG.out.mono ?_);rintro e w4 ⟨rfl,o4,hv4,hs4⟩;have HV4:=Lib.hid hv4;have HS4:=Lib.hid hs4;have hk4:=HK3.out.drew.step hs4 (acqC_0 HC.out);have hl4:=HL3.out.drew.step hs4 (acqC_0 HC.out);have g1:w4.cell? ⟨gm,1,none⟩=some (.int .i64 m.id):=hk4.1.cell 1;have g2:w4.cell? ⟨gm,7,none⟩=some (.slice (some ad) 1 cap):=hk4.1.cell 7;have g3:w4.cell? ad=some (.int .i64 l.a):=hl4.at3.1;have g4:w4.cell? ⟨ad.block,ad.off+1,none⟩=some (.int .i64 l.b):=hl4.at3.2.1;have g5:w4.cell? ⟨ad.block,ad.off+2,none⟩=some (.int .i64 l.m):=hl4.at3.2.2;clear hv4 hs4 hk4 hl4)))
    have HS5:=Lib.hid (HT3.out.drew.trans HS4.out)
    go_wp2_with fail
    refine bodyPost_ret (results_none rfl _ _ _) rfl ?_
    exact ⟨rfl,o4,by rw [←HN.out];exact HV4.out,HS5.out⟩
  | false =>
    have HRF:=Lib.hid ((if_neg Bool.false_ne_true).symm.trans HRE.out)
    by_cases he:qe=0
    ·have HN:=Lib.hid ((if_pos he).symm.trans HRF.out)
     have b1:(qe == 0)=true:=by simp [he]
     obtain ⟨w6,hupd,hv6,hs6⟩:=HV3.out.drew.idPut HC.out qi m.id
     have HV6:=Lib.hid hv6
     have HS6:=Lib.hid (HT3.out.drew.trans (hs6.mono only4_acq))
     have y165:w3.cell? ⟨s,165,none⟩=some (.map (some P.im)):=HV3.out.t (k:=2) rfl
     clear hv6 hs6 he
     go_wp2_with fail
     go_region
     go_wp2_with fail
     refine bodyPost_ret (results_none rfl _ _ _) rfl ?_
     exact ⟨rfl,o3,by rw [←HN.out];exact ⟨P,HV6.out⟩,HS6.out⟩
    ·have HN:=Lib.hid ((if_neg he).symm.trans HRF.out)
     have b1:(qe == 0)=false:=by simp [he]
     have HT:=Lib.hid (vtell_acq ⟨P,HV3.out⟩ HF3.out HC.out HO.out k hk16 {Mg.zero with kind:=7,id:=m.id,err:=qe} (.slice none 0 0) (OwnS.nil _ _ _ _ _))
     clear he
     go_wp2_with fail
     refine HT.out.mono ?_
     rintro e w4 ⟨rfl,o4,hv4,hs4⟩
     have HV4:=Lib.hid hv4
     have HS4:=Lib.hid (HT3.out.trans hs4)
     clear hv4 hs4
     go_wp2_with fail
     go_end0
     exact ⟨rfl,o4,by rw [←HN.out];exact HV4.out,HS4.out⟩
 ·have h1I:((LS.length:Int) == 1)=false:=beq_eq_false_iff_ne.2 (by omega)
  have HF:=Lib.hid (show R=S.deny k m.id 1 by
   rw [←HRD.out]
   rcases LS with _ | ⟨a,_ | ⟨b,ls⟩⟩
   ·rfl
   ·exact absurd rfl h1
   ·rfl)
  clear HRD
  go_enter Tryz.func96,Tryz.ntmps96
  go_upto_region 1 with (fail)
  generalize w.alloc (.cells #[.int .i64 m.kind, .int .i64 m.id, .int .i64 m.node, .int .i64 m.gen, .int .i64 m.stamp, .int .u64 m.epoch, .int .i64 m.err, .slice D LS.length cap] 38)=W0 at HV0 HK0 HL0 HF0 HS0 ⊢
  generalize w.heap.size=gm at HK0 ⊢
  obtain ⟨y0,y1,y2,y3,y4,y5,y6,y7⟩:=Blk.eight HK0.out.1
  have HT:=Lib.hid (vtell_acq ⟨P,HV0.out⟩ HF0.out HC.out HO.out k hk16 {Mg.zero with kind:=7,id:=m.id,err:=1} (.slice none 0 0) (OwnS.nil _ _ _ _ _))
  go_wp2_with fail
  refine HT.out.mono ?_
  rintro e w2 ⟨rfl,o2,hv2,hs2⟩
  have HV2:=Lib.hid hv2
  have HS2:=Lib.hid (HS0.out.trans hs2)
  clear hv2 hs2
  go_wp2_with fail
  go_end0
  exact ⟨rfl,o2,by rw [HF.out];exact HV2.out,HS2.out⟩
theorem vacquire_any (h:SvAt o c w s S) (hf:Fut o w) (hc1:1≤c) (ho:S.out.length≤1000000000) (wf:TbWf S.T) (k:Nat) (hk16:k≤16) (hg:0≤(S.peers k).grants∧(S.peers k).grants≤1000000000) (m:Mg) (lv:Value) (hl:RowL o w lv m.locks.length (lkcells m.locks)) (hm:m.locks.length≤1000) :
 Calls Tryz.prog 96 #[.pointer (some ⟨s,0,none⟩), .int .i64 (k:Nat), .agg #[.int .i64 m.kind, .int .i64 m.id, .int .i64 m.node, .int .i64 m.gen, .int .i64 m.stamp, .int .u64 m.epoch, .int .i64 m.err,lv]] w fun e w'=>e = .returned (.tuple #[])∧∃o',SvAt o' c w' s (S.acquire k m)∧Step o (svC c) w o' w':=by
 refine (vacquire_fin h hf hc1 ho wf k hk16 hg m lv hl hm).mono ?_
 rintro e w' ⟨he,o',h1,h2⟩
 exact ⟨he,o',h1,h2.mono acqC_sv⟩
end
theorem rcells_len (x:Int×Lk):(Rcells x).length=4:=rfl
theorem Reads.rv {w:World} {A:Option Addr} {l:List (Int×Lk)} (h:Reads w 4 A l.length (rvcells l)) {k:Nat} {y:Int×Lk} (hy:l[k]? = some y) :
 ∃ad,A=some ad∧w.cell? (ad.add (k*4))=some (.int .i64 y.1)∧w.cell? ⟨(ad.add (k*4)).block,(ad.add (k*4)).off+1,none⟩=some (.int .i64 y.2.a)∧w.cell? ⟨(ad.add (k*4)).block,(ad.add (k*4)).off+2,none⟩=some (.int .i64 y.2.b)∧w.cell? ⟨(ad.add (k*4)).block,(ad.add (k*4)).off+3,none⟩=some (.int .i64 y.2.m):=by
 obtain ⟨ad,rfl,hc⟩:=Reads.row rcells_len h hy
 exact ⟨ad,rfl,hc 0 _ rfl,hc 1 _ rfl,hc 2 _ rfl,hc 3 _ rfl⟩
theorem revoke1_sh (S:Sv) (r:Int×Lk):(S.revoke1 r).sh=S.sh∧(S.revoke1 r).out.length≤S.out.length+1:=by
 unfold Sv.revoke1
 split
 ·exact ⟨rfl,by omega⟩
 ·refine ⟨rfl,?_⟩
  show (S.out ++ [_]).length≤_
  simp
theorem revokes_sh : ∀(l:List (Int×Lk)) (S:Sv),(l.foldl Sv.revoke1 S).sh=S.sh∧(l.foldl Sv.revoke1 S).out.length≤S.out.length+l.length
 | [],S=>⟨rfl,by simp⟩
 | r :: l,S=>by
   obtain ⟨h1,h2⟩:=revokes_sh l (S.revoke1 r)
   obtain ⟨h3,h4⟩:=revoke1_sh S r
   rw [List.foldl_cons,List.length_cons]
   exact ⟨h1.trans h3,by omega⟩
theorem zero_unit (w:World):(zeroValue 228).run Tryz.prog w = .ok (.agg #[]) w:=by kernel_rfl
section
variable {o o':Nat→Nat} {c:Nat} {C:Nat→Prop} {w w':World} {s:Nat} {S:Sv} {P:SvP} {v:Value}
theorem SvIn.toldPut (h:SvIn o c w s S P) (hc:1≤c) {k m:Nat} (hk1:1≤k) (hkn:k≤S.n) (hm:P.tv k = .map (some m)) {l:Lk} (hl:l.small) (hn:l ∉ (S.peers k).told) :
 ∃w',(Instr.mapUpdate 61 (.map (some m)) l.agg (.agg #[])).run Tryz.prog w = .ok () w'∧SvIn o c w' s (S.peer k {S.peers k with told:=l :: (S.peers k).told}) P∧Step o (only (c+5+k)) w o w':=by
 have hnn:=h.rest.nn
 obtain ⟨m',e,hm'⟩:=h.rest.told k hk1 hkn
 rw [hm] at e
 injection e with e
 injection e with e
 subst e
 obtain ⟨w',h1,h2,h3,h4⟩:=hm'.put Tryz.underlying61 hl hn
 have h0:¬only (c+5+k) 0:=by unfold only;omega
 have hx:∀d,d<6∨21<d→¬only (c+5+k) (c+d):=fun d hd=>by unfold only;omega
 refine ⟨w',h1,⟨?_,(h3.old s h.blk.lt).trans h.col,h.rest.outs.step h3 (hx 1 (by omega)) h0,h.rest.kept.step h3 (hx 2 (by omega)) h0,h.rest.granted.step h3 (hx 3 (by omega)),h.rest.ids.step h3 (hx 4 (by omega)),fun i a b => ?_,h.rest.table.step h3 (fun x hxx=>by unfold tabC at hxx;unfold only;omega),h.rest.lease.step h3 (hx 41 (by omega)) (hx 42 (by omega)),h.rest.disk.step h3 (fun x h1 h2=>by unfold only;omega),h.rest.nodes⟩,h3⟩
 ·have hcell:(S.peer k {S.peers k with told:=l :: (S.peers k).told}).cells P=S.cells P:=by
   have hp:peersC (S.peer k {S.peers k with told:=l :: (S.peers k).told}).peers P.tv=peersC S.peers P.tv:=fm_congr _ (fun i _=>by
    show (if i=k then {S.peers k with told:=l :: (S.peers k).told} else S.peers i).cells (P.tv i)=_
    by_cases hik:i=k
    ·subst hik
     rw [if_pos rfl]
     rfl
    ·rw [if_neg hik])
   unfold Sv.cells
   rw [hp]
   rfl
  rw [hcell]
  exact h4 _ _ _ h.blk
 ·show ∃m',P.tv i = .map (some m')∧MapL o (c+5+i) w' m' (if i=k then {S.peers k with told:=l :: (S.peers k).told} else S.peers i).told
  by_cases hik:i=k
  ·subst hik
   rw [if_pos rfl]
   exact ⟨m,hm,h2⟩
  ·rw [if_neg hik]
   obtain ⟨m',e,hm'⟩:=h.rest.told i a b
   exact ⟨m',e,hm'.step h3 (by unfold only;omega)⟩
end
def RvOk (T:Tb) (r:Int×Lk):Prop:=(∃k:Nat,1≤k∧k≤T.nodes∧r.1=(k:Int))∧r.2.small
def RvInv (T:Tb) (R:Rv):Prop:=(∀i,WfB (R.told i))∧∀r∈R.out,RvOk T r
theorem inv_add {T:Tb} {R:Rv} (h:RvInv T R) {k:Nat} (hk1:1≤k) (hkn:k≤T.nodes) {l:Lk} (hs:l.sp.ok) (hb:l.b≤4096) (hm:0≤l.m∧l.m≤1):RvInv T (Rv.add k R l):=by
 refine ⟨fun i => ?_,fun r hr => ?_⟩
 ·show WfB (if i=k then setL (R.told k) l.sp (l.m+1) else R.told i)
  split
  ·exact (h.1 k).set hs hb _
  ·exact h.1 i
 ·rcases List.mem_append.1 (show r∈R.out ++ [((k:Int),l)] from hr) with h1 | h1
  ·exact h.2 r h1
  ·rw [List.mem_singleton] at h1
   subst h1
   have h2:0≤l.a∧l.a<l.b:=hs
   exact ⟨⟨k,hk1,hkn,rfl⟩,show l.small from ⟨⟨by omega,by omega⟩,⟨by omega,hb⟩,by omega,by omega⟩⟩
theorem inv_node {T:Tb} (hT:TbWf T) {R:Rv} (h:RvInv T R) (q:Wq) {k:Nat} (hk1:1≤k) (hkn:k≤T.nodes):RvInv T (Rv.node T q R k):=by
 unfold Rv.node
 split
 ·exact h
 ·have hl:=low_revoked (hT.held k) (h.1 k) q.l
  exact foldl_inv (P:=RvInv T) _ _ h (fun b x hx hb=>inv_add hb hk1 hkn (hl.1.okb x hx).1 (hl.1.okb x hx).2 (hl.2.mem hl.1 hx))
theorem rv_all {T:Tb} (hT:TbWf T):∀r∈T.revokes,RvOk T r :=
 (foldl_inv (P:=RvInv T) (f:=Rv.wait T) T.waits ⟨[],fun _ => []⟩ ⟨fun _=>wfb_nil,fun r hr=>by cases hr⟩ (fun b x _ hb =>
   foldl_inv (P:=RvInv T) (f:=fun R k=>Rv.node T x R (k+1)) (List.range T.nodes) b hb (fun b2 k hk hb2=>inv_node hT hb2 x (by omega) (by rw [List.mem_range] at hk;omega)))).2
theorem revoke1_no {S:Sv} {k:Nat} {l:Lk} (h:l∈(S.peers k).told∨(S.peers k).state≠1):S.revoke1 ((k:Int),l)=S:=if_pos h
theorem revoke1_yes {S:Sv} {k:Nat} {l:Lk} (h:¬(l∈(S.peers k).told∨(S.peers k).state≠1)):S.revoke1 ((k:Int),l)=(S.peer k {S.peers k with told:=l :: (S.peers k).told}).tell k {Mg.zero with kind:=8,locks := [l]}:=if_neg h
section
variable {o o':Nat→Nat} {c:Nat} {C:Nat→Prop} {w w':World} {s:Nat} {S:Sv} {P:SvP} {v:Value}
set_option maxRecDepth 100000 in
set_option maxHeartbeats 16000000 in
theorem vrevoke_any (h:SvAt o c w s S) (hf:Fut o w) (hc1:1≤c) (wf:TbWf S.T) (hn:S.T.nodes=S.n) (ho:S.out.length+S.T.revokes.length≤1000000000) :
 Calls Tryz.prog 103 #[.pointer (some ⟨s,0,none⟩)] w fun e w'=>e = .returned (.tuple #[])∧∃o',SvAt o' c w' s S.revoke∧Step o (svC c) w o' w':=by
 obtain ⟨P,h⟩:=h
 have hnn:=h.rest.nn
 have HC:=Lib.hid hc1
 have HF:=Lib.hid hf
 have HV:=Lib.hid h
 obtain ⟨tpp,tA,tcap,htab⟩:=h.rest.table
 have HRV:=Lib.hid (trevokes_any htab wf)
 have HAL:=Lib.hid (rv_all wf)
 have HRD:=Lib.hid (show S.revoke=S.T.revokes.foldl Sv.revoke1 S from rfl)
 have HSH:=Lib.hid (fun i=>revokes_sh (S.T.revokes.take i) S)
 obtain ⟨R,hR⟩:∃R,S.T.revokes=R:=⟨_,rfl⟩
 rw [hR] at HRV HAL HRD HSH ho
 have hRI:(R.length:Int)≤1000000000:=by omega
 have HNN:=Lib.hid (show S.T.nodes≤16 by omega)
 have HNE:=Lib.hid hn
 have y164:w.cell? ⟨s,164,none⟩=some (.pointer (some ⟨P.tp,0,none⟩)):=h.t (k:=1) rfl
 clear h hf hc1 wf hR htab hn
 go_enter Tryz.func103,Tryz.ntmps103
 go_wp2_with fail
 refine HRV.out.mono ?_
 rintro e w1 ⟨D1,cap1,rfl,hr1,hb1⟩
 have HV1:=Lib.hid (HV.out.below_ hb1)
 have HO1:=Lib.hid (own_from' (c:=0) (o:=o) hr1 (fun g hg=>HF.out g hg))
 have HF1:=Lib.hid (HF.out.below hb1)
 have HS1:=Lib.hid (Step.of_below o (svC c) hb1)
 clear hr1 hb1 y164
 go_wp2_with fail
 go_loopg [13] R.length (fun n t13 wr=>∃(i:Nat) (oL:Nat→Nat),n+i=R.length∧t13 = .int .i64 (i:Nat)∧SvAt oL c wr s ((R.take i).foldl Sv.revoke1 S)∧OwnS oL 0 wr 227 4 (.slice D1 R.length cap1) R.length (rvcells R)∧Fut oL wr∧Step o (svC c) w oL wr)
 case atStart=>exact ⟨0,o,by omega,rfl,⟨P,HV1.out⟩,HO1.out,HF1.out,HS1.out⟩
 case round =>
  obtain ⟨i,oL,hni,rfl,hv,hrow,hf,hst⟩:=hrel
  have HNI:=Lib.hid hni
  have HROW:=Lib.hid hrow
  have HFL:=Lib.hid hf
  have HST:=Lib.hid hst
  clear HV1 HO1 HF1 HS1 hni hrow hf hst
  by_cases hlt:i<R.length
  ·have hltI:(i:Int)<(R.length:Int):=by omega
   obtain ⟨P2,hv⟩:=hv
   obtain ⟨⟨rk,l⟩,hr⟩:∃r,R[i]? = some r:=⟨_,List.getElem?_eq_getElem hlt⟩
   have HNX:=Lib.hid (foldl_next (f:=Sv.revoke1) (b:=S) hr)
   obtain ⟨⟨k,hk1,hkn,hrk⟩,hsm⟩:=HAL.out _ (List.mem_of_getElem? hr)
   change rk=(k:Int) at hrk
   subst hrk
   change l.small at hsm
   have HSM:=Lib.hid hsm
   obtain ⟨hsh,hol⟩:=HSH.out i
   have hk16:k≤16:=by have:=HNN.out;omega
   have hk17:(k:Int)<17:=by omega
   have hkn2:k≤((R.take i).foldl Sv.revoke1 S).n:=by
    show k≤((R.take i).foldl Sv.revoke1 S).sh.1
    rw [hsh]
    have:=HNE.out
    show k≤S.n
    omega
   have hol2:((R.take i).foldl Sv.revoke1 S).out.length≤1000000000:=by
    rw [List.length_take] at hol
    omega
   obtain ⟨ad,rfl,x0,x1,x2,x3⟩:=(Reads.of_own HROW.out.1).rv hr
   dsimp only at x0 x1 x2 x3
   have HQ:=Lib.hid (Keep.new HFL.out 227 #[.int .i64 (k:Nat), .int .i64 l.a, .int .i64 l.b, .int .i64 l.m])
   have HV2:=Lib.hid (hv.alloc (.cells #[.int .i64 (k:Nat), .int .i64 l.a, .int .i64 l.b, .int .i64 l.m] 227))
   have HR2:=Lib.hid (HROW.out.alloc (.cells #[.int .i64 (k:Nat), .int .i64 l.a, .int .i64 l.b, .int .i64 l.m] 227))
   have HF2:=Lib.hid (HFL.out.alloc (.cells #[.int .i64 (k:Nat), .int .i64 l.a, .int .i64 l.b, .int .i64 l.m] 227))
   have HS2:=Lib.hid (HST.out.alloc (.cells #[.int .i64 (k:Nat), .int .i64 l.a, .int .i64 l.b, .int .i64 l.m] 227))
   clear hr hv hsm hsh hol HROW HFL HST
   generalize (R.take i).foldl Sv.revoke1 S=SI at HNX HV2 hkn2 hol2 ⊢
   go_upto_region 3 with (fail)
   generalize wr.alloc (.cells #[.int .i64 (k:Nat), .int .i64 l.a, .int .i64 l.b, .int .i64 l.m] 227)=W2 at HQ HV2 HR2 HF2 HS2 ⊢
   generalize wr.heap.size=gr at HQ ⊢
   clear x0 x1 x2 x3
   obtain ⟨mt,hmt,htm⟩:=HV2.out.rest.told k hk1 hkn2
   have z0:W2.cell? ⟨gr,0,none⟩=some (.int .i64 (k:Nat)):=HQ.out.1.cell 0
   have z1:W2.cell? ⟨gr,1,none⟩=some (.int .i64 l.a):=HQ.out.1.cell 1
   have z2:W2.cell? ⟨gr,2,none⟩=some (.int .i64 l.b):=HQ.out.1.cell 2
   have z3:W2.cell? ⟨gr,3,none⟩=some (.int .i64 l.m):=HQ.out.1.cell 3
   have t8:W2.cell? ⟨s,10+k*9+8,none⟩=some (.map (some mt)):=HV2.out.p (i:=k) (j:=8) hk16 (by omega) (by rw [hmt];rfl)
   have t0:W2.cell? ⟨s,10+k*9,none⟩=some (.int .i64 (SI.peers k).state):=HV2.out.p (i:=k) (j:=0) hk16 (by omega) rfl
   have hlk:∀n,(Instr.lookup 61 (.map (some mt)) (.agg #[.int .i64 l.a, .int .i64 l.b, .int .i64 l.m]) true).run Tryz.prog (W2.drewN n) = .ok (.tuple #[.agg #[], .bool (decide (l∈(SI.peers k).told))]) (W2.drewN n):=fun n=>(htm.drewN n).look Tryz.underlying61 (zero_unit _) HSM.out
   go_wp2_with fail
   go_quiet (fail)
   have hlk1:=hlk (nq+1)
   have hlk3:=(((htm.drewN (nq+1)).alloc (.cells #[] 228)).look Tryz.underlying61 (zero_unit _) HSM.out)
   unfold Lk.agg at hlk3
   have u8:((W2.drewN (nq+1)).alloc (.cells #[] 228)).cell? ⟨s,10+k*9+8,none⟩=some (.map (some mt)):=((HV2.out.drewN (nq+1)).alloc _).p (i:=k) (j:=8) hk16 (by omega) (by rw [hmt];rfl)
   have HQA:=HQ.out.1.alloc (.cells #[] 228)
   have u1:((W2.drewN (nq+1)).alloc (.cells #[] 228)).cell? ⟨gr,1,none⟩=some (.int .i64 l.a):=HQA.cell 1
   have u2:((W2.drewN (nq+1)).alloc (.cells #[] 228)).cell? ⟨gr,2,none⟩=some (.int .i64 l.b):=HQA.cell 2
   have u3:((W2.drewN (nq+1)).alloc (.cells #[] 228)).cell? ⟨gr,3,none⟩=some (.int .i64 l.m):=HQA.cell 3
   clear HQA
   go_wp2_with fail
   have HVV:=Lib.hid ((HV2.out.drewN (nq+1)).alloc (.cells #[] 228))
   have HQV:=Lib.hid ((HQ.out.step (Step.of_below oL (fun _=>False) (below_drewN W2 (nq+1))) id).alloc (.cells #[] 228))
   have HRV2:=Lib.hid ((HR2.out.drewN (nq+1)).alloc (.cells #[] 228))
   have HFV:=Lib.hid ((HF2.out.step (Step.of_below oL (fun _=>False) (below_drewN W2 (nq+1)))).alloc (.cells #[] 228))
   have HSV:=Lib.hid ((HS2.out.trans (Step.of_below oL (svC c) (below_drewN W2 (nq+1)))).alloc (.cells #[] 228))
   go_region
   all_goals
    clear u1 u2 u3 u8 hlk hlk1 hlk3 t8 t0 z0 z1 z2 z3 HV2 HQ HR2 HF2 HS2 htm
    generalize (W2.drewN (nq+1)).alloc (.cells #[] 228)=V at HVV HQV HRV2 HFV HSV ⊢
    have t0:V.cell? ⟨s,10+k*9,none⟩=some (.int .i64 (SI.peers k).state):=HVV.out.p (i:=k) (j:=0) hk16 (by omega) rfl
    have t8:V.cell? ⟨s,10+k*9+8,none⟩=some (.map (some mt)):=HVV.out.p (i:=k) (j:=8) hk16 (by omega) (by rw [hmt];rfl)
    have z1:V.cell? ⟨gr,1,none⟩=some (.int .i64 l.a):=HQV.out.1.cell 1
    have z2:V.cell? ⟨gr,2,none⟩=some (.int .i64 l.b):=HQV.out.1.cell 2
    have z3:V.cell? ⟨gr,3,none⟩=some (.int .i64 l.m):=HQV.out.1.cell 3
    by_cases hin:l∈(SI.peers k).told
    ·rw [decide_eq_true hin]
     have HN:=Lib.hid (HNX.out.trans (revoke1_no (.inl hin)))
     clear hin
     go_wp2_with fail
     go_roundg (R.length - (i+1))
     case measure=>have:=HNI.out;omega
     case rel=>exact ⟨i+1,oL,by omega,by go_num,by rw [HN.out];exact ⟨P2,HVV.out⟩,HRV2.out,HFV.out,HSV.out⟩
    ·rw [decide_eq_false hin]
     by_cases hst:(SI.peers k).state=1
     ·have b1:((SI.peers k).state != 1)=false:=by simp [hst]
      have HN:=Lib.hid (HNX.out.trans (revoke1_yes (fun h=>h.elim hin (fun h2=>h2 hst))))
      obtain ⟨w6,hupd,hv6,hs6⟩:=HVV.out.drew.toldPut HC.out hk1 hkn2 hmt HSM.out hin
      unfold Lk.agg at hupd
      have HV6:=Lib.hid hv6
      have HS6:=Lib.hid (HSV.out.drew.trans (hs6.mono (D:=svC c) (fun x hx=>by unfold only at hx;unfold svC;omega)))
      have HQ6:=Lib.hid (HQV.out.drew.step hs6 (by unfold only;omega))
      have HR6:=Lib.hid (HRV2.out.drew.step hs6 (by unfold only;omega))
      have HF6:=Lib.hid (HFV.out.drew.step hs6)
      clear hin hst hv6 hs6
      go_wp2_with fail
      go_region
      all_goals
       clear t0 t8 z1 z2 z3
       have z0:w6.cell? ⟨gr,0,none⟩=some (.int .i64 (k:Nat)):=HQ6.out.1.cell 0
       have z1:w6.cell? ⟨gr,1,none⟩=some (.int .i64 l.a):=HQ6.out.1.cell 1
       have z2:w6.cell? ⟨gr,2,none⟩=some (.int .i64 l.b):=HQ6.out.1.cell 2
       have z3:w6.cell? ⟨gr,3,none⟩=some (.int .i64 l.m):=HQ6.out.1.cell 3
       have HL6:=Lib.hid (own_one oL w6 (HF6.out _ (Nat.le_refl _)) 47 [.int .i64 l.a, .int .i64 l.b, .int .i64 l.m])
       have HT:=Lib.hid (vtell_any ⟨P2,HV6.out.alloc (.cells #[.int .i64 l.a, .int .i64 l.b, .int .i64 l.m] 47)⟩ (HF6.out.alloc _) HC.out hol2 k hk16 {Mg.zero with kind:=8,locks := [l]} _ HL6.out)
       go_wp2_with fail
       refine HT.out.mono ?_
       rintro e w7 ⟨rfl,o7,hv7,hs7⟩
       have HV7:=Lib.hid hv7
       have HS7:=Lib.hid ((HS6.out.alloc (.cells #[.int .i64 l.a, .int .i64 l.b, .int .i64 l.m] 47)).trans hs7)
       have HR7:=Lib.hid ((HR6.out.alloc (.cells #[.int .i64 l.a, .int .i64 l.b, .int .i64 l.m] 47)).step hs7 (svC_0 HC.out))
       have HF7:=Lib.hid ((HF6.out.alloc (.cells #[.int .i64 l.a, .int .i64 l.b, .int .i64 l.m] 47)).step hs7)
       clear hv7 hs7
       go_wp2_with fail
       go_roundg (R.length - (i+1))
       case measure=>have:=HNI.out;omega
       case rel=>exact ⟨i+1,o7,by omega,by go_num,by rw [HN.out];exact HV7.out,HR7.out,HF7.out,HS7.out⟩
     ·have b1:((SI.peers k).state != 1)=true:=by simp [hst]
      have HN:=Lib.hid (HNX.out.trans (revoke1_no (.inr hst)))
      clear hin hst
      go_wp2_with fail
      go_roundg (R.length - (i+1))
      case measure=>have:=HNI.out;omega
      case rel=>exact ⟨i+1,oL,by omega,by go_num,by rw [HN.out];exact ⟨P2,HVV.out⟩,HRV2.out,HFV.out,HSV.out⟩
  ·have hltI:¬(i:Int)<(R.length:Int):=by omega
   obtain rfl:i=R.length:=by have:=HNI.out;omega
   rw [List.take_length,←HRD.out] at hv
   have HVE:=Lib.hid hv
   clear hv
   go_wp2_with fail
   go_end0
   exact ⟨rfl,oL,HVE.out,HST.out⟩
end
end Go.Proofs.YtohgabdmmbngbaaGreatDoor
