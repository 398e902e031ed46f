import Derived.Test.YtohgabdmmbngbaaGreatDoorKSrvTi
import Derived.Test.YtohgabdmmbngbaaGreatDoorKReadyV
import Derived.Test.YtohgabdmmbngbaaGreatDoorKLtabM
set_option linter.unusedVariables false
set_option linter.unusedSimpArgs false
namespace Go.Proofs.YtohgabdmmbngbaaGreatDoor
open Go.RowKit
def Sv.raw (dp:Nat) (D:Dk) (gen:Int):Sv:=Sv.mk (3,12,12,6,32) gen (D.last+1) 0 false (fun _=>Pe.zero) (fun _=>none) [] [] 0 [] D (Le.zero (2*32)) (Tb.zero 3) dp
section
variable {o o':Nat→Nat} {c n:Nat} {C:Nat→Prop} {w w':World} {s:Nat} {S:Sv} {P:SvP} {v:Value} {b:Bnd} {D:Dk} {p:Nat}
def rawP (dp lp tp im:Nat):SvP:=⟨dp,lp,tp,im,fun _ => .map none, .slice none 0 0, .slice none 0 0, .slice none 0 0⟩
structure NwIn (o:Nat→Nat) (c:Nat) (w0:World) (s:Nat) (D:Dk) (gen:Int) (p:Nat) (o':Nat→Nat) (w:World) (lp tp im:Nat):Prop where
 step:Step o (fun _=>False) w0 o' w
 fut:Fut o' w
 blk:Blk w s 70 ((Sv.raw p D gen).cells (rawP p lp tp im))
 col:o' s=c
 table:TbAt o' (c+22) w tp (Tb.zero 3)
 lease:LeAt o' (c+41) w lp (Le.zero (2*32))
 disk:DiskAt o' (c+43) w p D
 ids:MapR o' (c+4) w im (fun _=>none)
end
theorem lnew_fin (o:Nat→Nat) (w:World) (c:Nat) (n:Int) (hf:Fut o w):Calls Tryz.prog 49 #[.int .i64 n] w fun e w'=>∃t,e = .returned (.pointer (some ⟨t,0,none⟩))∧∃o',LeAt o' c w' t (Le.zero n)∧Step o (fun _=>False) w o' w'∧∀k,o' k=o k∨o' k=0∨o' k=c∨o' k=c+1:=by
 refine (lnew_any o w c n).mono ?_
 rintro e w' ⟨t,he,o',hl,hs⟩
 refine ⟨t,he,fun k=>if k<w.heap.size then o k else if o' k=c∨o' k=c+1 then o' k else 0,hl.recolor (fun x hx k hk => ?_),⟨hs.os,hs.tape,hs.output,hs.size,fun k hk=>if_pos hk,fun k hk => ?_,hs.block⟩,fun k => ?_⟩
 ·try dsimp only
  split
  ·rename_i hlt
   rw [←hs.old k hlt,hk]
  ·unfold leaC at hx
   rw [if_pos (by omega),hk]
 ·have h1:=hs.fut k hk
  have h2:=hf k (Nat.le_trans hs.size hk)
  try dsimp only
  rw [if_neg (by have:=hs.size;omega)]
  split
  ·exact h1
  ·exact h2.symm
 ·try dsimp only
  split
  ·exact .inl rfl
  ·split
   ·rename_i h
    exact .inr (.inr h)
   ·exact .inr (.inl rfl)
theorem nw_end {o oF:Nat→Nat} {c p lp tp im:Nat} {w W:World} {D:Dk} (gen:Int) (hst:Step o (fun _=>False) w oF W) (hF:Fut oF W) (hT:TbAt oF (c+22) W tp (Tb.zero 3)) (hL:LeAt oF (c+41) W lp (Le.zero (2*32))) (hD:DiskAt oF (c+43) W p D) (him:W.heap[im]? = some (.map #[] 0)) (hi0:oF im=0) (hiw:w.heap.size≤im) :
 ∃o',NwIn o c w W.heap.size D gen p o' (W.alloc (.cells ((Sv.raw p D gen).cells (rawP p lp tp im)) 70)) lp tp im:=by
 have hil:im<W.heap.size:=(Array.getElem?_eq_some_iff.1 him).1
 have hsz:=hst.size
 have hne:¬W.heap.size=im:=by omega
 refine ⟨fun k=>if k=im then c+4 else if k=W.heap.size then c else oF k,?_⟩
 have ag:∀x,x≠0→Agree oF (fun k=>if k=im then c+4 else if k=W.heap.size then c else oF k) x:=fun x hx k hk=>by
  try dsimp only
  rw [if_neg (fun e=>hx (by rw [←hk,e,hi0])),if_neg (fun e=>hx (by rw [←hk,e,hF _ (Nat.le_refl _)])),hk]
 have hb:Below W.heap.size W (W.alloc (.cells ((Sv.raw p D gen).cells (rawP p lp tp im)) 70)):=(Below.refl _ _).alloc (Nat.le_refl _) _
 refine ⟨⟨hst.os,hst.tape,hst.output,by simp;omega,fun k hk => ?_,fun k hk => ?_,fun k hk hn => ?_⟩,fun k hk => ?_,Blk.new _ _ _,?_,(hT.recolor (fun x hx=>ag x (by unfold tabC at hx;omega))).below_ hb,(hL.recolor (fun x hx=>ag x (by unfold leaC at hx;omega))).below_ hb,(hD.recolor (fun x h1 h2=>ag x (by omega))).below_ hb,?_⟩
 ·try dsimp only
  rw [if_neg (by omega),if_neg (by omega)]
  exact hst.old k hk
 ·simp at hk
  try dsimp only
  rw [if_neg (by omega),if_neg (by omega)]
  exact hst.fut k (by omega)
 ·rw [hb.block k (by omega)]
  exact hst.block k hk (fun h=>h)
 ·simp at hk
  try dsimp only
  rw [if_neg (by omega),if_neg (by omega)]
  exact hF k (by omega)
 ·try dsimp only
  rw [if_neg hne,if_pos rfl]
 ·refine ⟨if_pos rfl,?_⟩
  have h0:=(MapR.newAs (fun _=>c+4) W (c+4) rfl).2
  obtain ⟨es,clock,h1,h2,h3,h4⟩:=h0
  rw [heap_alloc_new] at h1
  injection h1 with h1
  injection h1 with h1 h1'
  subst h1 h1'
  exact ⟨_,_,(hb.block im hil).trans him,h2,h3,h4⟩
theorem below_dm (w:World):Below w.heap.size w (w.alloc (.map #[] 0)).drew:=((Below.refl _ _).alloc (Nat.le_refl _) _).trans ((below_drew _).mono (by simp))
theorem below_m (w:World):Below w.heap.size w (w.alloc (.map #[] 0)):=(Below.refl _ _).alloc (Nat.le_refl _) _
theorem nw_keep' {o o2:Nat→Nat} {w a w2:World} {g:Nat} {t:TypeId} {cs:Array Value} (h:Keep o w g t cs) (ha:Below w.heap.size w a) (hs:Step o (fun _=>False) a o2 w2):Keep o2 w2 g t cs:=(h.below_ ha).step hs id
theorem tnew3_any {o:Nat→Nat} {c:Nat} {w:World} (hf:Fut o w) (hd:∀k,k<w.heap.size→o k≠c):Calls Tryz.prog 50 #[.int .i64 3] w fun e w'=>∃t,e = .returned (.pointer (some ⟨t,0,none⟩))∧∃o',TbAt o' c w' t (Tb.zero 3)∧Step o (fun _=>False) w o' w':=tnew_any hf hd 3 (by omega) (by omega)
set_option maxRecDepth 100000 in
set_option maxHeartbeats 4000000 in
theorem raw_cells (D:Dk) (gen:Int) (p lp tp im:Nat):(((((((((((Tryz.zeroCells70.setIfInBounds 0 (.pointer (some ⟨p,0,none⟩))).setIfInBounds 1 (.int .i64 3)).setIfInBounds 2 (.int .i64 12)).setIfInBounds 3 (.int .i64 12)).setIfInBounds 4 (.int .i64 6)).setIfInBounds 5 (.int .i64 32)).setIfInBounds 6 (.int .i64 gen)).setIfInBounds 7 (.int .u64 ((D.last:Int)+1))).setIfInBounds 163 (.pointer (some ⟨lp,0,none⟩))).setIfInBounds 164 (.pointer (some ⟨tp,0,none⟩))).setIfInBounds 165 (.map (some im)))=(Sv.raw p D gen).cells (rawP p lp tp im):=by
 kernel_rfl
section
variable {o o2 o3:Nat→Nat} {c p lp tp g:Nat} {w w1 w2 w3:World} {D:Dk} {t:TypeId} {cs:Array Value}
theorem nw_first (gen:Int) (s1:Step o (fun _=>False) w o w1) (f1:Fut o w1) (hd:DiskAt o (c+43) w1 p D) (s2:Step o (fun _=>False) (w1.alloc (.map #[] 0)).drew o2 w2) (hl:LeAt o2 (c+41) w2 lp (Le.zero (2*32))) (s3:Step o2 (fun _=>False) w2 o3 w3) (ht:TbAt o3 (c+22) w3 tp (Tb.zero 3)) :
 ∃o',NwIn o c w w3.heap.size D gen p o' (w3.alloc (.cells ((Sv.raw p D gen).cells (rawP p lp tp w1.heap.size)) 70)) lp tp w1.heap.size:=by
 have h12:=(s1.alloc (.map #[] 0)).drew.trans s2
 have h13:=h12.trans s3
 have hlt:w1.heap.size<(w1.alloc (.map #[] 0)).drew.heap.size:=by show _<(w1.alloc (.map #[] 0)).heap.size;simp
 have e2:w2.heap[w1.heap.size]? = some (.map #[] 0):=(s2.block _ hlt (fun h=>h)).trans (heap_alloc_new w1 _)
 have hlt2:w1.heap.size<w2.heap.size:=Nat.lt_of_lt_of_le hlt s2.size
 refine nw_end gen h13 (((f1.alloc (.map #[] 0)).drew.step s2).step s3) ht (hl.step s3 id id) (((hd.alloc (.map #[] 0)).drew.step s2 (fun _ _ _=>id)).step s3 (fun _ _ _=>id)) ((s3.block _ hlt2 (fun h=>h)).trans e2) ?_ s1.size
 rw [s3.old _ hlt2,s2.old _ hlt]
 exact f1 _ (Nat.le_refl _)
theorem nw_mid (gen:Int) (s1:Step o (fun _=>False) w o w1) (f1:Fut o w1) (hd:DiskAt o (c+43) w1 p D) (s2:Step o (fun _=>False) w1.drew o2 w2) (hl:LeAt o2 (c+41) w2 lp (Le.zero (2*32))) (s3:Step o2 (fun _=>False) (w2.alloc (.map #[] 0)) o3 w3) (ht:TbAt o3 (c+22) w3 tp (Tb.zero 3)) :
 ∃o',NwIn o c w w3.heap.size D gen p o' (w3.alloc (.cells ((Sv.raw p D gen).cells (rawP p lp tp w2.heap.size)) 70)) lp tp w2.heap.size:=by
 have f2:=f1.drew.step s2
 have h12:=s1.drew.trans s2
 have h13:=(h12.alloc (.map #[] 0)).trans s3
 have hlt:w2.heap.size<(w2.alloc (.map #[] 0)).heap.size:=by simp
 refine nw_end gen h13 ((f2.alloc (.map #[] 0)).step s3) ht ((LeAt.below_ hl (below_m w2)).step s3 id id) (((hd.drew.step s2 (fun _ _ _=>id)).alloc (.map #[] 0)).step s3 (fun _ _ _=>id)) ((s3.block _ hlt (fun h=>h)).trans (heap_alloc_new w2 _)) ?_ h12.size
 rw [s3.old _ hlt]
 exact f2 _ (Nat.le_refl _)
theorem nw_last (gen:Int) (s1:Step o (fun _=>False) w o w1) (f1:Fut o w1) (hd:DiskAt o (c+43) w1 p D) (s2:Step o (fun _=>False) w1.drew o2 w2) (hl:LeAt o2 (c+41) w2 lp (Le.zero (2*32))) (s3:Step o2 (fun _=>False) w2 o3 w3) (ht:TbAt o3 (c+22) w3 tp (Tb.zero 3)) :
 ∃o',NwIn o c w (w3.heap.size+1) D gen p o' ((w3.alloc (.map #[] 0)).alloc (.cells ((Sv.raw p D gen).cells (rawP p lp tp w3.heap.size)) 70)) lp tp w3.heap.size:=by
 have f3:=(f1.drew.step s2).step s3
 have h13:=(s1.drew.trans s2).trans s3
 have e:(w3.alloc (.map #[] 0)).heap.size=w3.heap.size+1:=by simp
 have:=nw_end (c:=c) (lp:=lp) (tp:=tp) (p:=p) (D:=D) gen (h13.alloc (.map #[] 0)) (f3.alloc (.map #[] 0)) (ht.alloc (.map #[] 0)) (LeAt.below_ (LeAt.step hl s3 id id) (below_m w3)) (((hd.drew.step s2 (fun _ _ _=>id)).step s3 (fun _ _ _=>id)).alloc (.map #[] 0)) (heap_alloc_new w3 _) (f3 _ (Nat.le_refl _)) h13.size
 rwa [e] at this
end
structure NvIn (o:Nat→Nat) (c:Nat) (w:World) (s:Nat) (S:Sv) (P:SvP) (j:Nat):Prop where
 blk:Blk w s 70 (S.cells P)
 col:o s=c
 nil:S.out = []∧S.kept = []∧S.granted = []∧P.ov = .slice none 0 0∧P.kv = .slice none 0 0∧P.gv = .slice none 0 0
 ids:MapR o (c+4) w P.im (leV S.ids)
 told:∀i,1≤i→i≤j→∃m,P.tv i = .map (some m)∧MapL o (c+5+i) w m (S.peers i).told
 table:TbAt o (c+22) w P.tp S.T
 lease:LeAt o (c+41) w P.lp S.L
 disk:DiskAt o (c+43) w P.dp S.D
section
variable {o o':Nat→Nat} {c j:Nat} {C:Nat→Prop} {w w':World} {s:Nat} {S:Sv} {P:SvP} {v:Value}
theorem NvIn.sv (h:NvIn o c w s S P j) (hj:j=S.n) (hn:1≤S.n∧S.n≤16∧P.dp=S.dp):SvIn o c w s S P:=by
 obtain ⟨h1,h2,h3,h4,h5,h6⟩:=h.nil
 refine ⟨h.blk,h.col,?_,?_,?_,h.ids,fun i a b=>h.told i a (by omega),h.table,h.lease,h.disk,hn⟩
 ·rw [h1,h4]
  exact OutsAt.nil _ _ _
 ·rw [h2,h5]
  exact KeptAt.nil _ _ _
 ·rw [h3,h6]
  exact OwnS.nil _ _ _ _ _
theorem NvIn.step (h:NvIn o c w s S P j) (hj:j≤16) (hs:Step o C w o' w') (hc:∀x,svC c x→¬C x):NvIn o' c w' s S P j :=
 ⟨h.blk.step hs (by rw [h.col];exact hc c (by unfold svC;omega)),(hs.old s h.blk.lt).trans h.col,h.nil,h.ids.step hs (hc _ (by unfold svC;omega)),fun i a b=>by
  obtain ⟨m,e,hm⟩:=h.told i a b
  exact ⟨m,e,hm.step hs (hc _ (by unfold svC;omega))⟩,h.table.step hs (fun x hx=>hc x (by unfold tabC at hx;unfold svC;omega)),h.lease.step hs (hc _ (by unfold svC;omega)) (hc _ (by unfold svC;omega)),h.disk.step hs (fun x a b=>hc x (by unfold svC;omega))⟩
theorem NvIn.h (h:NvIn o c w s S P j) {k:Nat} {v:Value} (hk:k<10) (hv:(S.headC P)[k]? = some v):w.cell? ⟨s,k,none⟩=some v:=(h.blk.cell k).trans ((Sv.head_at hk).trans hv)
theorem NvIn.p (h:NvIn o c w s S P j) {i k:Nat} {v:Value} (hi:i≤16) (hk:k<9) (hv:((S.peers i).cells (P.tv i))[k]? = some v):w.cell? ⟨s,10+i*9+k,none⟩=some v:=(h.blk.cell _).trans ((Sv.peer_at hi hk).trans hv)
theorem NvIn.t (h:NvIn o c w s S P j) {k:Nat} {v:Value} (hv:(S.tailC P)[k]? = some v):w.cell? ⟨s,163+k,none⟩=some v:=(h.blk.cell _).trans (Sv.tail_at.trans hv)
theorem NvIn.onD (h:NvIn o c w s S P j) (hj:j≤16) (hc1:1≤c) {D':Dk} (hs:Step o (six (c+43)) w o' w') (hd:DiskAt o' (c+43) w' P.dp D'):NvIn o' c w' s {S with D:=D'} P j:=by
 have hx:∀d,d<43→¬six (c+43) (c+d):=fun d hd=>by unfold six;omega
 exact ⟨h.blk.step hs (by rw [h.col];exact hx 0 (by omega)),(hs.old s h.blk.lt).trans h.col,h.nil,h.ids.step hs (hx 4 (by omega)),fun i a b=>by
  obtain ⟨m,e,hm⟩:=h.told i a b
  exact ⟨m,e,hm.step hs (by unfold six;omega)⟩,h.table.step hs (fun x hx=>by unfold tabC at hx;unfold six;omega),h.lease.step hs (hx 41 (by omega)) (hx 42 (by omega)),hd⟩
theorem NvIn.onL (h:NvIn o c w s S P j) (hj:j≤16) (hc1:1≤c) {L':Le} (hs:Step o (leaC (c+41)) w o' w') (hl:LeAt o' (c+41) w' P.lp L'):NvIn o' c w' s {S with L:=L'} P j:=by
 have hx:∀d,d<41∨42<d→¬leaC (c+41) (c+d):=fun d hd=>by unfold leaC;omega
 exact ⟨h.blk.step hs (by rw [h.col];exact hx 0 (by omega)),(hs.old s h.blk.lt).trans h.col,h.nil,h.ids.step hs (hx 4 (by omega)),fun i a b=>by
  obtain ⟨m,e,hm⟩:=h.told i a b
  exact ⟨m,e,hm.step hs (by unfold leaC;omega)⟩,h.table.step hs (fun x hx=>by unfold tabC at hx;unfold leaC;omega),hl,h.disk.step hs (fun x a b=>by unfold leaC;omega)⟩
theorem NvIn.peer (h:NvIn o c w s S P j) (hj:j≤16) (hc1:1≤c) {i k:Nat} {v:Value} {p:Pe} (hi:i≤16) (hk:k<9) (hp:((S.peers i).cells (P.tv i)).set k v=p.cells (P.tv i)) (ht:p.told=(S.peers i).told) :
 NvIn o c (w.setCell ⟨s,10+i*9+k,none⟩ v) s (S.peer i p) P j∧Step o (only c) w o (w.setCell ⟨s,10+i*9+k,none⟩ v):=by
 have hs:Step o (only c) w o (w.setCell ⟨s,10+i*9+k,none⟩ v):=(Step.refl o (only c) w).setCell (p:=⟨s,10+i*9+k,none⟩) h.col _
 have hx:∀d,1≤d→¬only c (c+d):=fun d hd=>by unfold only;omega
 refine ⟨⟨?_,h.col,h.nil,h.ids.step hs (hx 4 (by omega)),fun a h1 h2 => ?_,h.table.step hs (fun x hxx=>by unfold tabC at hxx;unfold only;omega),h.lease.step hs (hx 41 (by omega)) (hx 42 (by omega)),h.disk.step hs (fun x a b=>by unfold only;omega)⟩,hs⟩
 ·have hcell:(S.cells P).setIfInBounds (10+i*9+k) v=(S.peer i p).cells P:=Sv.peer_set hi hk hp rfl (by
   funext a
   split
   ·rename_i e
    rw [e]
   ·rfl) rfl rfl
  exact hcell▸h.blk.set_ _ v
 ·obtain ⟨m,e,hm⟩:=h.told a h1 h2
  refine ⟨m,e,?_⟩
  show MapL o (c+5+a) _ m (if a=i then p else S.peers a).told
  by_cases ha:a=i
  ·subst ha
   rw [if_pos rfl,ht]
   exact hm.step hs (by unfold only;omega)
  ·rw [if_neg ha]
   exact hm.step hs (by unfold only;omega)
theorem NvIn.anew (h:NvIn o c w s S P j) (hc1:1≤c) {k m:Nat} (hkj:k=j+1) (hk:k≤16) (p:Pe) (hm:MapL o (c+5+k) w m p.told) :
 NvIn o c (setPe w s k p (.map (some m))) s (S.peer k p) {P with tv:=fun i=>if i=k then .map (some m) else P.tv i} k∧Step o (only c) w o (setPe w s k p (.map (some m))):=by
 have hb:Blk w s 70 ((S.peer k (S.peers k)).cells P):=by
  rw [peer_self]
  exact h.blk
 have hc:=h.col
 have b0:=hb.set_ (10+k*9+0) (.int .i64 p.state)
 rw [cells_peer (q := {S.peers k with state:=p.state}) hk (by omega) rfl] at b0
 have b1:=b0.set_ (10+k*9+1) (.int .u64 p.epoch)
 rw [cells_peer (q := {S.peers k with state:=p.state,epoch:=p.epoch}) hk (by omega) rfl] at b1
 have b2:=b1.set_ (10+k*9+2) (.int .i64 p.life)
 rw [cells_peer (q := {S.peers k with state:=p.state,epoch:=p.epoch,life:=p.life}) hk (by omega) rfl] at b2
 have b3:=b2.set_ (10+k*9+3) (.int .i64 p.hello)
 rw [cells_peer (q := {S.peers k with state:=p.state,epoch:=p.epoch,life:=p.life,hello:=p.hello}) hk (by omega) rfl] at b3
 have b4:=b3.set_ (10+k*9+4) (.bool p.unknown)
 rw [cells_peer (q := {S.peers k with state:=p.state,epoch:=p.epoch,life:=p.life,hello:=p.hello,unknown:=p.unknown}) hk (by omega) rfl] at b4
 have b5:=b4.set_ (10+k*9+5) (.int .i64 p.by_)
 rw [cells_peer (q := {S.peers k with state:=p.state,epoch:=p.epoch,life:=p.life,hello:=p.hello,unknown:=p.unknown,by_:=p.by_}) hk (by omega) rfl] at b5
 have b6:=b5.set_ (10+k*9+6) (.int .i64 p.stamp)
 rw [cells_peer (q := {S.peers k with state:=p.state,epoch:=p.epoch,life:=p.life,hello:=p.hello,unknown:=p.unknown,by_:=p.by_,stamp:=p.stamp}) hk (by omega) rfl] at b6
 have b7:=b6.set_ (10+k*9+7) (.int .i64 p.grants)
 rw [cells_peer (q := {S.peers k with state:=p.state,epoch:=p.epoch,life:=p.life,hello:=p.hello,unknown:=p.unknown,by_:=p.by_,stamp:=p.stamp,grants:=p.grants}) hk (by omega) rfl,cells_told (p := {S.peers k with state:=p.state,epoch:=p.epoch,life:=p.life,hello:=p.hello,unknown:=p.unknown,by_:=p.by_,stamp:=p.stamp,grants:=p.grants}) (q:=p) (fun _=>rfl)] at b7
 have b8:=b7.set_ (10+k*9+8) (.map (some m))
 rw [cells_tv hk] at b8
 have hs:Step o (only c) w o (setPe w s k p (.map (some m))):=by
  unfold setPe
  exact (((((((((Step.refl o (only c) w).setCell (p:=⟨s,_,none⟩) hc _).setCell (p:=⟨s,_,none⟩) hc _).setCell (p:=⟨s,_,none⟩) hc _).setCell (p:=⟨s,_,none⟩) hc _).setCell (p:=⟨s,_,none⟩) hc _).setCell (p:=⟨s,_,none⟩) hc _).setCell (p:=⟨s,_,none⟩) hc _).setCell (p:=⟨s,_,none⟩) hc _).setCell (p:=⟨s,_,none⟩) hc _
 have hx:∀d,1≤d→¬only c (c+d):=fun d hd=>by unfold only;omega
 refine ⟨⟨b8,h.col,h.nil,h.ids.step hs (hx 4 (by omega)),fun i h1 h2 => ?_,h.table.step hs (fun x hxx=>by unfold tabC at hxx;unfold only;omega),h.lease.step hs (hx 41 (by omega)) (hx 42 (by omega)),h.disk.step hs (fun x a b=>by unfold only;omega)⟩,hs⟩
 by_cases hik:i=k
 ·subst hik
  exact ⟨m,if_pos rfl,by rw [peer_at];exact hm.step hs (by unfold only;omega)⟩
 ·obtain ⟨m',e,hm'⟩:=h.told i h1 (by omega)
  refine ⟨m',(if_neg hik).trans e,?_⟩
  show MapL o (c+5+i) _ m' (if i=k then p else S.peers i).told
  rw [if_neg hik]
  exact hm'.step hs (by unfold only;omega)
end
def Sv.seeN (S:Sv) (i:Nat):Sv:=(List.range i).foldl (fun (S:Sv) (i:Nat)=>S.see1 (i+1)) S
theorem seeN_succ (S:Sv) (i:Nat):S.seeN (i+1)=(S.seeN i).see1 (i+1):=by
 unfold Sv.seeN
 rw [List.range_succ,List.foldl_append]
 rfl
theorem see1_dp (S:Sv) (k:Nat):(S.see1 k).dp=S.dp:=by
 unfold Sv.see1
 split
 ·rfl
 ·split <;> rfl
theorem seeN_dp (S:Sv):∀i,(S.seeN i).dp=S.dp
 | 0=>rfl
 | i+1=>by rw [seeN_succ,see1_dp,seeN_dp S i]
theorem new_eq (p:Nat) (D:Dk) (gen:Int):Sv.new p D (3,12,12,6,32) gen=(({Sv.raw p D gen with D:=(D.admit 0 (D.last+1)).2}:Sv).seeN 3).lost:=rfl
theorem SvOk.see1 {b:Bnd} {S:Sv} (h:SvOk b S) {k:Nat} (hk:k≤16):SvOk b (S.see1 k):=by
 have hz:0≤(0:Int)∧(0:Int)≤b.gr:=⟨Int.le_refl _,by omega⟩
 have hy:0≤(0:Int)∧(0:Int)≤16:=by omega
 unfold Sv.see1
 split
 ·exact (h.peer k (p := {Pe.away with state:=2,epoch:=S.D.table k}) hz hy).onL (Le.renew_ok h.lok _ _) (Le.renew_small h.small (by omega) _)
 ·split
  ·exact h.peer k (p := {Pe.away with state:=3,unknown:=true}) hz hy
  ·exact h.peer k (p:=Pe.away) hz hy
theorem SvOk.seeN {b:Bnd} {S:Sv} (h:SvOk b S):∀i,i≤16→SvOk b (S.seeN i)
 | 0,_=>h
 | i+1,hi=>by
   rw [seeN_succ]
   exact (h.seeN i (by omega)).see1 hi
theorem zero_wf (n:Nat) (h:1≤n∧n≤16):TbWf (Tb.zero n):=⟨h,fun _=>wfb_nil,fun x hx=>by (cases hx),Nat.zero_le _,by show (0:Int)≤0∧(0:Int)≤1000000000;omega⟩
theorem raw_ok {D:Dk} (p:Nat) (hc:Calm D 1000) (he:Empty D) (gen:Int):SvOk ⟨0,0,0,0,0,D.last+1,0⟩ ({Sv.raw p D gen with D:=(D.admit 0 (D.last+1)).2}:Sv):=by
 obtain ⟨e1,c1⟩:=hc.admit (n:=0) (by omega) (e:=D.last+1) (by omega)
 have hz:((0:Nat):Int)=0:=rfl
 rw [hz] at e1 c1
 refine ⟨rfl,zero_wf 3 (by omega),rfl,Int.le_refl _,Le.zero_ok _,Le.zero_small _,by show (0:Int)≤0∧(0:Int)≤4611686018427387904;omega,Nat.le_refl _,Nat.le_refl _,fun r hr=>by (cases hr),Nat.le_refl _,fun r hr=>by (cases hr),fun i=>by show (0:Int)≤0∧(0:Int)≤((0:Nat):Int);omega,fun i=>by show (0:Int)≤0∧(0:Int)≤16;omega,by show (0:Int)≤0∧(0:Int)≤((0:Nat):Int);omega,by show (D.admit 0 (D.last+1)).2.last≤D.last+1;rw [e1];exact Nat.le_refl _,c1,he.now (by show (D.admit 0 (D.last+1)).2.now=D.now;rw [e1]),rfl⟩
set_option maxRecDepth 100000 in
set_option maxHeartbeats 32000000 in
theorem vnew_any {o:Nat→Nat} {c p:Nat} {w:World} {D:Dk} (hd:DiskAt o (c+43) w p D) (hf:Fut o w) (hc1:1≤c) (hfr:∀k,k<w.heap.size→o k≠c+22) (hca:Calm D 1000) (hem:Empty D) (hla:D.last≤1000000000000) (gen:Int) (hg:1≤gen∧gen≤2147483647) :
 Calls Tryz.prog 20 #[.pointer (some ⟨p,0,none⟩), .agg #[.int .i64 3, .int .i64 12, .int .i64 12, .int .i64 6, .int .i64 32], .int .i64 gen] w fun e w'=>∃s o',e = .returned (.tuple #[.pointer (some ⟨s,0,none⟩), .int .i64 0])∧SvAt o' c w' s (Sv.new p D (3,12,12,6,32) gen)∧Step o (svC c) w o' w':=by
 have hmm := @run_makeMap Tryz.prog
 have HC:=Lib.hid hc1
 have HLA:=Lib.hid hla
 have HCA:=Lib.hid hca
 have HEM:=Lib.hid hem
 have g1:¬gen<1:=by omega
 have g2:¬2147483647<gen:=by omega
 have HX:=Lib.hid (Keep.new hf 27 #[.int .i64 3, .int .i64 12, .int .i64 12, .int .i64 6, .int .i64 32])
 have HF:=Lib.hid (hf.alloc (.cells #[.int .i64 3, .int .i64 12, .int .i64 12, .int .i64 6, .int .i64 32] 27))
 have HD:=Lib.hid (hd.alloc (.cells #[.int .i64 3, .int .i64 12, .int .i64 12, .int .i64 6, .int .i64 32] 27))
 have HS:=Lib.hid ((Step.refl o (fun _=>False) w).alloc (.cells #[.int .i64 3, .int .i64 12, .int .i64 12, .int .i64 6, .int .i64 32] 27))
 have HFR:=Lib.hid (show ∀k,o k≠c+22 from fun k=>by
  by_cases hk:k<w.heap.size
  ·exact hfr k hk
  ·rw [hf k (by omega)]
   omega)
 clear hd hf hc1 hfr hla hg hca hem
 go_enter Tryz.func20,Tryz.ntmps20
 go_upto_region 1 with (fail)
 generalize w.alloc (.cells #[.int .i64 3, .int .i64 12, .int .i64 12, .int .i64 6, .int .i64 32] 27)=W at HX HF HD HS ⊢
 obtain ⟨gX,hgX⟩:∃gX,w.heap.size=gX:=⟨_,rfl⟩
 rw [hgX] at HX ⊢
 have HGX:=Lib.hid hgX
 obtain ⟨x0,x1,x2,x3,x4⟩:=HX.out.1.five
 clear hgX
 go_wp2_with fail
 refine (uvalid_any W).mono ?_
 rintro e w1 ⟨rfl,hb1⟩
 have HX1:=Lib.hid (HX.out.below_ hb1)
 have HF1:=Lib.hid (HF.out.below hb1)
 have HD1:=Lib.hid (HD.out.below_ hb1)
 have HS1:=Lib.hid (HS.out.trans (Step.of_below o (fun _=>False) hb1))
 clear hb1 x0 x1 x2 x3 x4
 have HFm:=Lib.hid (HF1.out.alloc (.map #[] 0)).drew
 have HFd:=Lib.hid HF1.out.drew
 obtain ⟨x0,x1,x2,x3,x4⟩:w1.drew.cell? ⟨gX,0,none⟩=some (.int .i64 3)∧w1.drew.cell? ⟨gX,1,none⟩=some (.int .i64 12)∧w1.drew.cell? ⟨gX,2,none⟩=some (.int .i64 12)∧w1.drew.cell? ⟨gX,3,none⟩=some (.int .i64 6)∧w1.drew.cell? ⟨gX,4,none⟩=some (.int .i64 32):=HX1.out.1.five
 obtain ⟨m0,m1,m2,m3,m4⟩:(w1.alloc (.map #[] 0)).drew.cell? ⟨gX,0,none⟩=some (.int .i64 3)∧(w1.alloc (.map #[] 0)).drew.cell? ⟨gX,1,none⟩=some (.int .i64 12)∧(w1.alloc (.map #[] 0)).drew.cell? ⟨gX,2,none⟩=some (.int .i64 12)∧(w1.alloc (.map #[] 0)).drew.cell? ⟨gX,3,none⟩=some (.int .i64 6)∧(w1.alloc (.map #[] 0)).drew.cell? ⟨gX,4,none⟩=some (.int .i64 32):=(HX1.out.alloc (.map #[] 0)).1.five
 have e64:IntKind.i64.wrap 64=64:=by rw [IntKind.wrap_i64];decide
 have HLd:=Lib.hid (dlast_any HD1.out.drew)
 have HLm:=Lib.hid (dlast_any (HD1.out.alloc (.map #[] 0)).drew)
 have hlw:IntKind.u64.wrap ((D.last:Int)+1)=((D.last+1:Nat):Int):=by rw [IntKind.wrap_u64];have:=HLA.out;omega
 go_upto_region 3 with (fail)
 go_cut [8] from 29 to 46 (fun t8 wx=>∃(s9 lp tp im:Nat) (o9:Nat→Nat) (W9:World),W9=wx∧t8 = .pointer (some ⟨s9,0,none⟩)∧NwIn o c w1 s9 D gen p o9 W9 lp tp im)
 case first =>
  go_region_held3 (fun w'=>w'.cell? ⟨gX,0,none⟩=some (.int .i64 3)∧w'.cell? ⟨gX,1,none⟩=some (.int .i64 12)∧w'.cell? ⟨gX,2,none⟩=some (.int .i64 12)∧w'.cell? ⟨gX,3,none⟩=some (.int .i64 6)∧w'.cell? ⟨gX,4,none⟩=some (.int .i64 32))
   (first | exact ⟨x0,x1,x2,x3,x4⟩ | exact ⟨m0,m1,m2,m3,m4⟩ | exact ⟨y0,y1,y2,y3,y4⟩ | exact ⟨n0,n1,n2,n3,n4⟩ | exact ⟨z0,z1,z2,z3,z4⟩ | exact ⟨u0,u1,u2,u3,u4⟩ | go_keep)
   (first
     | (go_at_call 48;((first | with_reducible refine HLd.out.mono ?_ | with_reducible refine HLm.out.mono ?_);rintro e wl ⟨rfl,rfl⟩))
     | (go_at_call 49;((first | with_reducible refine (lnew_fin o _ (c+41) 64 HFd.out).mono ?_ | with_reducible refine (lnew_fin o _ (c+41) 64 HFm.out).mono ?_);rintro e w2 ⟨lp,rfl,o2,hl2,hs2,hc2⟩;have HL2:=Lib.hid hl2;have HS2:=Lib.hid hs2;have hk2:=(by first | exact nw_keep' HX1.out (below_drew w1) hs2 | exact nw_keep' HX1.out (below_dm w1) hs2:Keep o2 w2 gX 27 _);obtain ⟨y0,y1,y2,y3,y4⟩:w2.cell? ⟨gX,0,none⟩=some (.int .i64 3)∧w2.cell? ⟨gX,1,none⟩=some (.int .i64 12)∧w2.cell? ⟨gX,2,none⟩=some (.int .i64 12)∧w2.cell? ⟨gX,3,none⟩=some (.int .i64 6)∧w2.cell? ⟨gX,4,none⟩=some (.int .i64 32):=hk2.1.five;obtain ⟨n0,n1,n2,n3,n4⟩:(w2.alloc (.map #[] 0)).cell? ⟨gX,0,none⟩=some (.int .i64 3)∧(w2.alloc (.map #[] 0)).cell? ⟨gX,1,none⟩=some (.int .i64 12)∧(w2.alloc (.map #[] 0)).cell? ⟨gX,2,none⟩=some (.int .i64 12)∧(w2.alloc (.map #[] 0)).cell? ⟨gX,3,none⟩=some (.int .i64 6)∧(w2.alloc (.map #[] 0)).cell? ⟨gX,4,none⟩=some (.int .i64 32):=(hk2.alloc (.map #[] 0)).1.five;have HK2:=Lib.hid hk2;have HF2:=Lib.hid ((by first | exact HFd.out.step hs2 | exact HFm.out.step hs2:Fut o2 w2));have HF2m:=Lib.hid (((by first | exact HFd.out.step hs2 | exact HFm.out.step hs2:Fut o2 w2)).alloc (.map #[] 0));have HC2:=Lib.hid (show ∀k,o2 k≠c+22 from fun k=>by have h1:=hc2 k;have h2:=HFR.out k;omega);clear hl2 hs2 hk2 hc2))
     | (go_at_call 50;((first | with_reducible refine (tnew3_any HF2.out (fun k _=>HC2.out k)).mono ?_ | with_reducible refine (tnew3_any HF2m.out (fun k _=>HC2.out k)).mono ?_);rintro e w3 ⟨tp,rfl,o3,ht3,hs3⟩;have HT3:=Lib.hid ht3;have HS3:=Lib.hid hs3;have hk3:=(by first | exact nw_keep' HK2.out (Below.refl _ _) hs3 | exact nw_keep' HK2.out (below_drew w2) hs3 | exact nw_keep' HK2.out (below_m w2) hs3:Keep o3 w3 gX 27 _);obtain ⟨z0,z1,z2,z3,z4⟩:w3.cell? ⟨gX,0,none⟩=some (.int .i64 3)∧w3.cell? ⟨gX,1,none⟩=some (.int .i64 12)∧w3.cell? ⟨gX,2,none⟩=some (.int .i64 12)∧w3.cell? ⟨gX,3,none⟩=some (.int .i64 6)∧w3.cell? ⟨gX,4,none⟩=some (.int .i64 32):=hk3.1.five;obtain ⟨u0,u1,u2,u3,u4⟩:(w3.alloc (.map #[] 0)).cell? ⟨gX,0,none⟩=some (.int .i64 3)∧(w3.alloc (.map #[] 0)).cell? ⟨gX,1,none⟩=some (.int .i64 12)∧(w3.alloc (.map #[] 0)).cell? ⟨gX,2,none⟩=some (.int .i64 12)∧(w3.alloc (.map #[] 0)).cell? ⟨gX,3,none⟩=some (.int .i64 6)∧(w3.alloc (.map #[] 0)).cell? ⟨gX,4,none⟩=some (.int .i64 32):=(hk3.alloc (.map #[] 0)).1.five;have HF3:=Lib.hid ((by first | exact HF2.out.step hs3 | exact HF2m.out.step hs3:Fut o3 w3));clear ht3 hs3 hk3)))
  all_goals
   go_wp2_with fail
   simp only [raw_cells]
   go_meet
   case rel =>
    first
     | (obtain ⟨o9,h9⟩:=nw_last (D:=D) (p:=p) gen (Step.refl o _ w1) HF1.out HD1.out HS2.out HL2.out HS3.out HT3.out;exact ⟨_,_,_,_,o9,_,rfl,rfl,h9⟩)
     | (obtain ⟨o9,h9⟩:=nw_mid (D:=D) (p:=p) gen (Step.refl o _ w1) HF1.out HD1.out HS2.out HL2.out HS3.out HT3.out;exact ⟨_,_,_,_,o9,_,rfl,rfl,h9⟩)
     | (obtain ⟨o9,h9⟩:=nw_first (D:=D) (p:=p) gen (Step.refl o _ w1) HF1.out HD1.out HS2.out HL2.out HS3.out HT3.out;exact ⟨_,_,_,_,o9,_,rfl,rfl,h9⟩)
 case rest =>
  obtain ⟨s9,lp,tp,im,o9,W9,rfl,rfl,hnw⟩:=hcut
  have hin:NvIn o9 c W9 s9 (Sv.raw p D gen) (rawP p lp tp im) 0:=⟨hnw.blk,hnw.col,⟨rfl,rfl,rfl,rfl,rfl,rfl⟩,hnw.ids,fun i h1 h2=>absurd h2 (by omega),hnw.table,hnw.lease,hnw.disk⟩
  have HK:=Lib.hid (HX1.out.step hnw.step id)
  have HIN:=Lib.hid hin
  have HF9:=Lib.hid hnw.fut
  have HST:=Lib.hid (HS1.out.trans hnw.step)
  obtain ⟨e1,c1⟩:=HCA.out.admit (n:=0) (by omega) (e:=D.last+1) (by omega)
  have e1':(D.admit ((0:Nat):Int) (D.last+1)).1=0:=by rw [e1]
  have had:=dadmit_calm (show DiskAt o9 (c+43) W9 p D from hin.disk) ((0:Nat):Int) (D.last+1)
  rw [e1'] at had
  have HAD:=Lib.hid (show Calls Tryz.prog 51 #[.pointer (some ⟨p,0,none⟩), .int .i64 0, .int .u64 ((D.last:Int)+1)] W9 (fun e w'=>e = .returned (.int .i64 0)∧∃o',DiskAt o' (c+43) w' p (D.admit 0 (D.last+1)).2∧Step o9 (six (c+43)) W9 o' w') from had)
  have y7:W9.cell? ⟨s9,7,none⟩=some (.int .u64 ((D.last:Int)+1)):=hin.h (k:=7) (by omega) rfl
  clear hin hnw had e1 e1' c1 x0 x1 x2 x3 x4 m0 m1 m2 m3 m4
  go_wp2_with fail
  refine HAD.out.mono ?_
  rintro e W10 ⟨rfl,o10,hd10,hs10⟩
  obtain ⟨S1,hS1⟩:∃S1:Sv,({Sv.raw p D gen with D:=(D.admit 0 (D.last+1)).2}:Sv)=S1:=⟨_,rfl⟩
  have hOK:SvOk ⟨0,0,0,0,0,D.last+1,0⟩ S1:=hS1▸raw_ok p HCA.out HEM.out gen
  have HD1:=Lib.hid (show S1.dp=p by rw [←hS1];rfl)
  have hNW:Sv.new p D (3,12,12,6,32) gen=(S1.seeN 3).lost:=by
   rw [←hS1]
   exact new_eq p D gen
  have hv1:NvIn o10 c W10 s9 S1 (rawP p lp tp im) 0:=hS1▸HIN.out.onD (by omega) HC.out hs10 hd10
  have HV1:=Lib.hid hv1
  have HF1':=Lib.hid (HF9.out.step hs10)
  have HK1:=Lib.hid (HK.out.step hs10 (by unfold six;omega))
  have HS10:=Lib.hid ((HST.out.mono (fun _ h=>h.elim)).trans (hs10.mono (D:=svC c) six_sv))
  have HOK:=Lib.hid hOK
  have HNW:=Lib.hid hNW
  clear hv1 hs10 hd10 hOK hNW hS1 y7 HAD HIN HK HF9 HST
  go_wp2_with fail
  go_loopg [10] 3 (fun r t10 wr=>∃(i:Nat) (oL:Nat→Nat) (PL:SvP),r+i=3∧t10 = .int .i64 ((i:Int)+1)∧NvIn oL c wr s9 (S1.seeN i) PL i∧PL.dp=p∧Keep oL wr gX 27 #[.int .i64 3, .int .i64 12, .int .i64 12, .int .i64 6, .int .i64 32]∧Fut oL wr∧Step o (svC c) w oL wr)
  case atStart=>exact ⟨0,o10,rawP p lp tp im,by omega,rfl,HV1.out,rfl,HK1.out,HF1'.out,HS10.out⟩
  case round =>
   obtain ⟨i,oL,PL,hni,rfl,hv,hdp,hk,hfl,hst⟩:=hrel
   have HNI:=Lib.hid hni
   have HVI:=Lib.hid hv
   have HDP:=Lib.hid hdp
   have HFI:=Lib.hid hfl
   have HKI:=Lib.hid hk
   have HSI:=Lib.hid hst
   have HSC:=Lib.hid (seeN_succ S1 i)
   have HOI:=Lib.hid (HOK.out.seeN i (by omega))
   have n0:wr.cell? ⟨gX,0,none⟩=some (.int .i64 3):=hk.1.five.1
   clear hv hk hfl hst HV1 HK1 HF1' HS10 hdp
   by_cases hlt:i<3
   ·obtain ⟨SI,hSI⟩:∃SI,S1.seeN i=SI:=⟨_,rfl⟩
    rw [hSI] at HVI HSC HOI
    have hiI:(i:Int)+1≤3:=by omega
    have hi17:(i:Int)+1<17:=by omega
    have hi0:(0:Int)≤(i:Int)+1:=by omega
    have hi16:i+1≤16:=by omega
    clear hSI hni
    have hba:=(Below.refl wr.heap.size wr).alloc (Nat.le_refl _) (.map #[] 0)
    have hsa:=Step.of_below_band oL (svC c) (c+5+(i+1)) hba
    have hsb:=Step.of_below_band oL (fun _=>False) (c+5+(i+1)) hba
    have hma:=MapL.newAs (band oL wr.heap.size (wr.alloc (.map #[] 0)).heap.size (c+5+(i+1))) wr (c+5+(i+1)) (band_in (Nat.le_refl _) (by simp))
    have HVA:=Lib.hid (HVI.out.step (by omega) hsb (fun _ _=>id))
    obtain ⟨h6,h7⟩:=HVA.out.anew HC.out rfl hi16 Pe.away hma
    have HSA:=Lib.hid (HSI.out.trans hsa)
    have HFA:=Lib.hid (HFI.out.step hsa)
    have HKA:=Lib.hid (HKI.out.step hsb id)
    generalize band oL wr.heap.size (wr.alloc (.map #[] 0)).heap.size (c+5+(i+1))=o5 at HVA h6 h7 HSA HFA hma HKA
    obtain ⟨P5,hP5⟩:∃P5:SvP,({PL with tv:=fun a=>if a=i+1 then .map (some wr.heap.size) else PL.tv a}:SvP)=P5:=⟨_,rfl⟩
    rw [hP5] at h6
    have HD5:=Lib.hid (show P5.dp=p by rw [←hP5];exact HDP.out)
    have HV6:=Lib.hid h6
    have HS6:=Lib.hid (HSA.out.trans (h7.mono only0_sv))
    have HF6:=Lib.hid (HFA.out.step h7)
    have HK6:=Lib.hid (HKA.out.step h7 (by unfold only;have:=HC.out;omega))
    have x0:(wr.alloc (.map #[] 0)).cell? ⟨s9,10+(i+1)*9,none⟩=some (.int .i64 (SI.peers (i+1)).state):=HVA.out.p (k:=0) hi16 (by omega) rfl
    have f0:=HVA.out.blk.frozen (10+(i+1)*9)
    have x1:(wr.alloc (.map #[] 0)).cell? ⟨s9,10+(i+1)*9+1,none⟩=some (.int .u64 (SI.peers (i+1)).epoch):=HVA.out.p (k:=1) hi16 (by omega) rfl
    have f1:=HVA.out.blk.frozen (10+(i+1)*9+1)
    have x2:(wr.alloc (.map #[] 0)).cell? ⟨s9,10+(i+1)*9+2,none⟩=some (.int .i64 (SI.peers (i+1)).life):=HVA.out.p (k:=2) hi16 (by omega) rfl
    have f2:=HVA.out.blk.frozen (10+(i+1)*9+2)
    have x3:(wr.alloc (.map #[] 0)).cell? ⟨s9,10+(i+1)*9+3,none⟩=some (.int .i64 (SI.peers (i+1)).hello):=HVA.out.p (k:=3) hi16 (by omega) rfl
    have f3:=HVA.out.blk.frozen (10+(i+1)*9+3)
    have x4:(wr.alloc (.map #[] 0)).cell? ⟨s9,10+(i+1)*9+4,none⟩=some (.bool (SI.peers (i+1)).unknown):=HVA.out.p (k:=4) hi16 (by omega) rfl
    have f4:=HVA.out.blk.frozen (10+(i+1)*9+4)
    have x5:(wr.alloc (.map #[] 0)).cell? ⟨s9,10+(i+1)*9+5,none⟩=some (.int .i64 (SI.peers (i+1)).by_):=HVA.out.p (k:=5) hi16 (by omega) rfl
    have f5:=HVA.out.blk.frozen (10+(i+1)*9+5)
    have x6:(wr.alloc (.map #[] 0)).cell? ⟨s9,10+(i+1)*9+6,none⟩=some (.int .i64 (SI.peers (i+1)).stamp):=HVA.out.p (k:=6) hi16 (by omega) rfl
    have f6:=HVA.out.blk.frozen (10+(i+1)*9+6)
    have x7:(wr.alloc (.map #[] 0)).cell? ⟨s9,10+(i+1)*9+7,none⟩=some (.int .i64 (SI.peers (i+1)).grants):=HVA.out.p (k:=7) hi16 (by omega) rfl
    have f7:=HVA.out.blk.frozen (10+(i+1)*9+7)
    have x8:(wr.alloc (.map #[] 0)).cell? ⟨s9,10+(i+1)*9+8,none⟩=some (PL.tv (i+1)):=HVA.out.p (k:=8) hi16 (by omega) rfl
    have f8:=HVA.out.blk.frozen (10+(i+1)*9+8)
    have HE6:=Lib.hid (show setPe (wr.alloc (.map #[] 0)) s9 (i+1) Pe.away (.map (some wr.heap.size))=((((((((((wr.alloc (.map #[] 0)).setCell ⟨s9,10+(i+1)*9,none⟩ (.int .i64 0)).setCell ⟨s9,10+(i+1)*9+1,none⟩ (.int .u64 0)).setCell ⟨s9,10+(i+1)*9+2,none⟩ (.int .i64 (-1))).setCell ⟨s9,10+(i+1)*9+3,none⟩ (.int .i64 (-1))).setCell ⟨s9,10+(i+1)*9+4,none⟩ (.bool false)).setCell ⟨s9,10+(i+1)*9+5,none⟩ (.int .i64 0)).setCell ⟨s9,10+(i+1)*9+6,none⟩ (.int .i64 0)).setCell ⟨s9,10+(i+1)*9+7,none⟩ (.int .i64 0)).setCell ⟨s9,10+(i+1)*9+8,none⟩ (.map (some wr.heap.size))) from rfl)
    have HLOK:=Lib.hid HOI.out.lok
    clear hba hsa hsb hma h6 h7 hP5
    go_upto_region 12 with (fail)
    rw [←HE6.out]
    generalize setPe (wr.alloc (.map #[] 0)) s9 (i+1) Pe.away (.map (some wr.heap.size))=V at HV6 HS6 HF6 HK6 ⊢
    clear x0 f0 x1 f1 x2 f2 x3 f3 x4 f4 x5 f5 x6 f6 x7 f7 x8 f8 HE6 HVA HSA HFA HKA n0
    obtain ⟨te,hte⟩:∃te,SI.D.table (i+1)=te:=⟨_,rfl⟩
    obtain ⟨wd,hwd⟩:∃wd,SI.D.words (i+1)=wd:=⟨_,rfl⟩
    have HEP:=Lib.hid (show Calls Tryz.prog 17 #[.pointer (some ⟨p,0,none⟩), .int .i64 ((i:Int)+1)] V (fun e w'=>e = .returned (.int .u64 te)∧V=w') from HD5.out▸hte▸depoch_any HV6.out.disk (i+1) hi16)
    have HWD:=Lib.hid (show Calls Tryz.prog 19 #[.pointer (some ⟨p,0,none⟩), .int .i64 ((i:Int)+1)] V (fun e w'=>e = .returned (.int .u64 wd)∧V=w') from HD5.out▸hwd▸dword_any HV6.out.disk (i+1) hi16)
    have HS1':=Lib.hid (show SI.see1 (i+1)=if te≠0 then {SI.peer (i+1) {Pe.away with state:=2,epoch:=te} with L:=(SI.L.renew (i+1:Nat) 0).2} else if wd≠0 then SI.peer (i+1) {Pe.away with state:=3,unknown:=true} else SI.peer (i+1) Pe.away by rw [←hte,←hwd];rfl)
    clear hte hwd
    have y0:V.cell? ⟨s9,10+(i+1)*9,none⟩=some (.int .i64 0):=HV6.out.p (k:=0) hi16 (by omega) (by rw [peer_at];rfl)
    have g0:=HV6.out.blk.frozen (10+(i+1)*9)
    go_wp2_with fail
    refine HEP.out.mono ?_
    rintro e V1 ⟨rfl,rfl⟩
    by_cases ht0:te=0
    ·have b0:((te:Int) != 0)=false:=by simp [ht0]
     have HN:=Lib.hid (HS1'.out.trans (if_neg (fun hh=>hh ht0)))
     go_wp2_with fail
     refine HWD.out.mono ?_
     rintro e V1 ⟨rfl,rfl⟩
     by_cases hw0:wd=0
     ·have b1:((wd:Int) != 0)=false:=by simp [hw0]
      have HN2:=Lib.hid (HN.out.trans (if_neg (fun hh=>hh hw0)))
      go_wp2_with fail
      go_roundg (3 - (i+1))
      case measure=>have:=HNI.out;omega
      case rel=>exact ⟨i+1,o5,P5,by omega,by go_num,by rw [HSC.out,HN2.out];exact HV6.out,HD5.out,HK6.out,HF6.out,HS6.out⟩
     ·have b1:((wd:Int) != 0)=true:=by simp [hw0]
      have HN2:=Lib.hid (HN.out.trans (if_pos hw0))
      have p1:=HV6.out.peer (k:=0) (v := .int .i64 3) (p := {Pe.away with state:=3}) hi16 HC.out hi16 (by omega) (by rw [peer_at];rfl) (by rw [peer_at])
      rw [peer_peer] at p1
      have p2:=p1.1.peer (k:=4) (v := .bool true) (p := {Pe.away with state:=3,unknown:=true}) hi16 HC.out hi16 (by omega) (by rw [peer_at];rfl) (by rw [peer_at])
      rw [peer_peer] at p2
      have hsp:=p1.2.trans p2.2
      have HV7:=Lib.hid (show NvIn o5 c ((V.setCell ⟨s9,10+(i+1)*9,none⟩ (.int .i64 3)).setCell ⟨s9,10+(i+1)*9+4,none⟩ (.bool true)) s9 _ P5 (i+1) from p2.1)
      have HS7:=Lib.hid (show Step o (svC c) w o5 ((V.setCell ⟨s9,10+(i+1)*9,none⟩ (.int .i64 3)).setCell ⟨s9,10+(i+1)*9+4,none⟩ (.bool true)) from HS6.out.trans (hsp.mono only0_sv))
      have HK7:=Lib.hid (show Keep o5 ((V.setCell ⟨s9,10+(i+1)*9,none⟩ (.int .i64 3)).setCell ⟨s9,10+(i+1)*9+4,none⟩ (.bool true)) gX 27 _ from HK6.out.step hsp (by unfold only;have:=HC.out;omega))
      have HF7:=Lib.hid (show Fut o5 ((V.setCell ⟨s9,10+(i+1)*9,none⟩ (.int .i64 3)).setCell ⟨s9,10+(i+1)*9+4,none⟩ (.bool true)) from HF6.out.step hsp)
      have y4:V.cell? ⟨s9,10+(i+1)*9+4,none⟩=some (.bool false):=HV6.out.p (k:=4) hi16 (by omega) (by rw [peer_at];rfl)
      have g4:=HV6.out.blk.frozen (10+(i+1)*9+4)
      clear p1 p2 hsp
      go_wp2_with fail
      go_roundg (3 - (i+1))
      case measure=>have:=HNI.out;omega
      case rel=>exact ⟨i+1,o5,P5,by omega,by go_num,by rw [HSC.out,HN2.out];exact HV7.out,HD5.out,HK7.out,HF7.out,HS7.out⟩
    ·have b0:((te:Int) != 0)=true:=by simp [ht0]
     have HN:=Lib.hid (HS1'.out.trans (if_pos ht0))
     have p1:=HV6.out.peer (k:=0) (v := .int .i64 2) (p := {Pe.away with state:=2}) hi16 HC.out hi16 (by omega) (by rw [peer_at];rfl) (by rw [peer_at])
     rw [peer_peer] at p1
     have p2:=p1.1.peer (k:=1) (v := .int .u64 te) (p := {Pe.away with state:=2,epoch:=te}) hi16 HC.out hi16 (by omega) (by rw [peer_at];rfl) (by rw [peer_at])
     rw [peer_peer] at p2
     have hsp:=p1.2.trans p2.2
     obtain ⟨V7,hV7⟩:∃V7,(V.setCell ⟨s9,10+(i+1)*9,none⟩ (.int .i64 2)).setCell ⟨s9,10+(i+1)*9+1,none⟩ (.int .u64 te)=V7:=⟨_,rfl⟩
     have HV7:=Lib.hid (show NvIn o5 c V7 s9 _ P5 (i+1) from hV7▸p2.1)
     have HS7:=Lib.hid (show Step o (svC c) w o5 V7 from hV7▸HS6.out.trans (hsp.mono only0_sv))
     have HK7:=Lib.hid (show Keep o5 V7 gX 27 _ from hV7▸HK6.out.step hsp (by unfold only;have:=HC.out;omega))
     have HF7:=Lib.hid (show Fut o5 V7 from hV7▸HF6.out.step hsp)
     have y1:V.cell? ⟨s9,10+(i+1)*9+1,none⟩=some (.int .u64 0):=HV6.out.p (k:=1) hi16 (by omega) (by rw [peer_at];rfl)
     have g1:=HV6.out.blk.frozen (10+(i+1)*9+1)
     have HE7:=Lib.hid hV7
     clear p1 p2 hsp hV7
     have HEP2:=Lib.hid HEP.out
     go_wp2_with fail
     refine HEP2.out.mono ?_
     rintro e V1 ⟨rfl,rfl⟩
     go_upto_region 14 with (fail)
     rw [HE7.out]
     clear HE7 y0 y1 g0 g1 HEP HEP2 HWD HV6
     have z0:V7.cell? ⟨s9,163,none⟩=some (.pointer (some ⟨P5.lp,0,none⟩)):=HV7.out.t (k:=0) rfl
     have HRN:=Lib.hid (show Calls Tryz.prog 52 #[.pointer (some ⟨P5.lp,0,none⟩), .int .i64 ((i:Int)+1), .int .i64 0] V7 _ from lrenew_any HV7.out.lease (show SI.L.ok from HLOK.out) ((i+1:Nat):Int) 0 (by omega))
     go_wp2_with fail
     refine HRN.out.mono ?_
     rintro e V8 ⟨rfl,hl8,hs8⟩
     have HV8:=Lib.hid (HV7.out.onL hi16 HC.out hs8 hl8)
     have HS8:=Lib.hid (HS7.out.trans (hs8.mono lea_sv))
     have HK8:=Lib.hid (HK7.out.step hs8 (by unfold leaC;omega))
     have HF8:=Lib.hid (HF7.out.step hs8)
     clear hl8 hs8
     go_wp2_with fail
     go_roundg (3 - (i+1))
     case measure=>have:=HNI.out;omega
     case rel=>exact ⟨i+1,o5,P5,by omega,by go_num,by rw [HSC.out,HN.out];exact HV8.out,HD5.out,HK8.out,HF8.out,HS8.out⟩
   ·have hiI:¬(i:Int)+1≤3:=by omega
    obtain rfl:i=3:=by have:=HNI.out;omega
    have hN:(S1.seeN 3).n=3:=HOI.out.n
    have hlo:∀a,a<(S1.seeN 3).n→LoOk ((S1.seeN 3).lostN a) (a+1):=fun a ha=>by
     rw [hN] at ha
     have hla:=HLA.out
     exact SvOk.lo (HOI.out.losts a (by omega)) ⟨by show 0+a≤_;omega,by show 0≤_;omega,by show 0≤_;omega,by show 0+a≤_;omega,by show D.last+1+a≤_;omega⟩ ⟨by omega,by omega⟩
    have HL:=Lib.hid (vlost_any ⟨PL,HVI.out.sv hN.symm ⟨by omega,by omega,by rw [seeN_dp,HD1.out,HDP.out]⟩⟩ HFI.out HC.out hlo)
    clear hN hlo
    go_wp2_with fail
    refine HL.out.mono ?_
    rintro e W8 ⟨rfl,o8,hv8,hs8⟩
    go_wp2_with fail
    go_ret2
    exact ⟨s9,o8,rfl,by rw [HNW.out];exact hv8,HSI.out.trans hs8⟩
end Go.Proofs.YtohgabdmmbngbaaGreatDoor
