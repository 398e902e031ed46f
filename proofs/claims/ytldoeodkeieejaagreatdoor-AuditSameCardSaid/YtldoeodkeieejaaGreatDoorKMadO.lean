import Derived.Test.YtldoeodkeieejaaGreatDoorKAudB
import Derived.Test.YtldoeodkeieejaaGreatDoorKLogG
namespace Go.Proofs.YtldoeodkeieejaaGreatDoor
open Go.RowKit
structure XOk (x:XL) (m:Nat):Prop where
 node:x.node=1
 epoch:x.epoch=9
 kps:Kps x.l
 len:x.l.length≤m
 used:x.used≤7
 place:x.place<7
section
variable {x:XL} {m n:Nat} {R:RF}
theorem XOk.more (h:XOk x m) (hn:m≤n):XOk x n:=⟨h.node,h.epoch,h.kps,Nat.le_trans h.len hn,h.used,h.place⟩
theorem XOk.same {y:XL} (h:XOk x m) (h1:y.node=x.node) (h2:y.epoch=x.epoch) (h3:y.l=x.l) (h4:y.place=x.place):XOk y m:=by
 refine ⟨h1.trans h.node,h2.trans h.epoch,?_,?_,?_,?_⟩
 ·rw [h3];exact h.kps
 ·rw [h3];exact h.len
 ·unfold XL.used;rw [h3];exact h.used
 ·rw [h4];exact h.place
theorem xwrGo_four (base:Nat):∀(l:List Kp) (R:RF) (x:XL),(xwrGo base l R x).x.node=x.node∧(xwrGo base l R x).x.epoch=x.epoch∧(xwrGo base l R x).x.l=x.l∧(xwrGo base l R x).x.place=x.place
 | [],_,_=>⟨rfl,rfl,rfl,rfl⟩
 | k :: l,R,x=>by
   rw [xwrGo_cons]
   split
   ·exact ⟨rfl,rfl,rfl,rfl⟩
   ·exact xwrGo_four base l _ {x with wrote:=k.lsn,dirty:=true,wait:=x.wait - 1}
theorem xwriteR_four (base:Nat) (R:RF) (x:XL):(xwriteR base R x).x.node=x.node∧(xwriteR base R x).x.epoch=x.epoch∧(xwriteR base R x).x.l=x.l∧(xwriteR base R x).x.place=x.place:=by
 unfold xwriteR
 split
 ·exact ⟨rfl,rfl,rfl,rfl⟩
 ·exact xwrGo_four base _ R x
theorem XOk.write (h:XOk x m) (base:Nat) (R:RF):XOk (xwriteR base R x).x m:=by
 obtain ⟨a,b,c,d⟩:=xwriteR_four base R x
 exact h.same a b c d
theorem XOk.sync (h:XOk x m) (base:Nat) (R:RF):XOk (xsyncR base R x).x m:=by
 have hw:=h.write base R
 unfold xsyncR
 split
 ·exact hw
 split
 ·exact hw.same rfl rfl rfl rfl
 split
 ·exact hw.same rfl rfl rfl rfl
 ·exact hw.same rfl rfl rfl rfl
theorem foldl_add (l:List Kp):∀a:Nat,l.foldl (fun n k=>n+k.n) a=a+l.foldl (fun n k=>n+k.n) 0:=by
 induction l with
 | nil=>intro a;rfl
 | cons k l ih=>intro a;rw [List.foldl_cons,List.foldl_cons,ih (a+k.n),ih (0+k.n)];omega
theorem used_while (p:Kp→Bool):∀l:List Kp,(l.dropWhile p).foldl (fun n k=>n+k.n) 0≤l.foldl (fun n k=>n+k.n) 0
 | []=>Nat.le_refl _
 | k :: l=>by
   rw [List.dropWhile_cons]
   split
   ·have:=used_while p l
    rw [List.foldl_cons,foldl_add l]
    omega
   ·exact Nat.le_refl _
theorem XOk.free (h:XOk x m) (base:Nat) (R:RF) (b:Nat):XOk (xfreeR base R x b).x m:=by
 unfold xfreeR
 split
 ·exact h
 split
 ·exact h
 split
 ·exact h
 split
 ·exact h.same rfl rfl rfl rfl
 ·exact {
   node:=h.node
   epoch:=h.epoch
   kps:=fun y hy=>h.kps y (List.dropWhile_sublist _ |>.subset hy)
   len:=Nat.le_trans (List.dropWhile_sublist _).length_le h.len
   used:=Nat.le_trans (used_while _ x.l) h.used
   place:=h.place}
theorem XOk.add (h:XOk x m) (l:List Im):XOk (x.addX l) (m+1):=by
 unfold XL.addX
 split
 ·exact h.more (by omega)
 ·rename_i he
  have he:x.addE l=0:=Classical.not_not.1 he
  unfold XL.addE at he
  split at he
  ·omega
  split at he
  ·omega
  split at he
  ·omega
  split at he
  ·omega
  rename_i hw _ hu
  have hu2:secsOf l.length+x.used≤7:=by omega
  obtain ⟨_,_,_,_,_,_⟩:=wrong_zero (Classical.not_not.1 hw)
  exact {
   node:=h.node
   epoch:=h.epoch
   kps:=fun y hy=>by
    rcases List.mem_append.1 hy with hy | hy
    ·exact h.kps y hy
    ·obtain rfl:y=x.entry l:=by simpa using hy
     refine ⟨h.place,show secsOf l.length≤7 by omega,?_⟩
     show (Rc.mk x.epoch x.next l).putS.size=secsOf l.length*64
     rw [show (Rc.mk x.epoch x.next l).putS=str (recL ⟨x.epoch,x.next,l⟩) from if_pos (Classical.not_not.1 hw),str_size,recL_len]
   len:=by
    show (x.l ++ [x.entry l]).length≤_
    have:=h.len
    rw [List.length_append,List.length_singleton]
    omega
   used:=by
    show (x.l ++ [x.entry l]).foldl (fun n k=>n+k.n) 0≤7
    rw [List.foldl_append]
    show x.used+secsOf l.length≤7
    omega
   place:=Nat.mod_lt _ (by omega)}
end
def Nine9 (b:ByteArray):Prop:=lhE b=0→(lhG b).epoch=9
structure NineD (D:Dk):Prop where
 now:∀b,D.now 1=some b→Nine9 b
 lasts:∀x,D.lasts 1=some x→Nine9 x.data
 waits:∀x∈D.waits,x.at_=1→Nine9 x.data
section
variable {D:Dk} {g:Lg}
theorem NineD.keep (h:NineD D) {x:Ws} (hx:x.at_=1→Nine9 x.data):NineD (D.keep x):=by
 unfold Dk.keep
 split
 ·refine ⟨h.now,fun y hy => ?_,h.waits⟩
  have hy:upd D.lasts x.at_ x 1=some y:=hy
  unfold upd at hy
  split at hy
  ·rename_i hk
   injection hy with hy
   subst hy
   exact hx hk.symm
  ·exact h.lasts y hy
 ·exact h
theorem NineD.keeps : ∀(l:List Ws) (D:Dk),NineD D→(∀x∈l,x.at_=1→Nine9 x.data)→NineD (l.foldl Dk.keep D)
 | [],_,h,_=>h
 | x :: l,_,h,hl=>NineD.keeps l _ (h.keep (hl x (List.mem_cons_self ..))) (fun y hy=>hl y (List.mem_cons_of_mem _ hy))
theorem NineD.settle (h:NineD D) (n:Int):NineD (D.settle n):=by
 have hk:=NineD.keeps (D.waits.filter (fun x=>x.node=n)) D h (fun x hx=>h.waits x (List.mem_filter.1 hx).1)
 exact ⟨hk.now,hk.lasts,fun x hx=>h.waits x (List.mem_filter.1 hx).1⟩
theorem NineD.arm (h:NineD D) (n:Int) (keep:List Int):NineD (D.arm n keep):=⟨h.now,h.lasts,h.waits⟩
theorem NineD.cutN (h:NineD D) (keep:List Int):∀k,NineD (D.cutN keep k)
 | 0=>h
 | k+1=>by
   have ih:=NineD.cutN h keep k
   unfold Dk.cutN
   cases hx:D.waits[k]? with
   | none=>exact ih
   | some x =>
     simp only
     split
     ·exact ih.keep (h.waits x (List.mem_of_getElem? hx))
     ·exact ih
theorem NineD.off (h:NineD D):NineD D.off:=by
 refine ⟨fun b hb => ?_,h.lasts,fun x hx=>by cases hx⟩
 have hb:(D.lasts 1).map (fun x:Ws=>x.data)=some b:=hb
 cases hl:D.lasts 1 with
 | none=>rw [hl] at hb;cases hb
 | some x =>
   rw [hl] at hb
   injection hb with hb
   subst hb
   exact h.lasts x hl
theorem NineD.cut (h:NineD D) (keep:List Int):NineD (D.cut keep).2:=by
 unfold Dk.cut
 split
 ·exact h.arm _ _
 ·exact ((h.arm (-1) []).cutN keep D.waits.length).off
theorem NineD.goes (h:NineD D):NineD D.goes.2:=by
 unfold Dk.goes
 split
 ·exact h
 split
 ·exact ⟨h.now,h.lasts,h.waits⟩
 ·exact h.cut _
theorem NineD.restore (h:NineD D):NineD D.restore:=⟨h.now,h.lasts,h.waits⟩
theorem NineD.barrier (h:NineD D) (n:Int) (e:Nat):NineD (D.barrier n e).2:=by
 unfold Dk.barrier
 split
 ·exact h
 split
 ·exact h
 split
 ·exact h.goes
 ·exact h.goes.settle n
theorem NineD.fence (h:NineD D) (n:Int):NineD (D.fence n).2:=by
 unfold Dk.fence
 split
 ·exact h
 split
 ·exact h.goes
 ·have hg:=h.goes.settle n
  exact ⟨hg.now,hg.lasts,hg.waits⟩
theorem NineD.put (h:NineD D) (n:Int) (v:Nat):NineD (D.put n v).2:=by
 unfold Dk.put
 split
 ·exact h
 split
 ·exact h.goes
 ·have hg:=h.goes
  exact ⟨hg.now,hg.lasts,hg.waits⟩
theorem NineD.admit (h:NineD D) (n:Int) (e:Nat):NineD (D.admit n e).2:=by
 unfold Dk.admit
 split
 ·exact h
 split
 ·exact h
 split
 ·exact h.goes
 ·have hg:=h.goes
  exact ⟨hg.now,hg.lasts,hg.waits⟩
theorem NineD.write1 (h:NineD D) (n at_:Int) {s:ByteArray} (hs:at_=1→Nine9 s):NineD (D.write1 n at_ s):=by
 refine ⟨fun b hb => ?_,h.lasts,fun x hx h1 => ?_⟩
 ·have hb:upd D.now at_ s 1=some b:=hb
  unfold upd at hb
  split at hb
  ·rename_i hk
   injection hb with hb
   subst hb
   exact hs hk.symm
  ·exact h.now b hb
 ·have hx:x∈D.waits ++ [⟨n,at_,(D.seq+1:Nat),s⟩]:=hx
  rcases List.mem_append.1 hx with hx | hx
  ·exact h.waits x hx h1
  ·rw [List.mem_singleton.1 hx] at h1 ⊢
   exact hs h1
theorem NineD.writeN (h:NineD D) (n at_:Int) (data:ByteArray):∀m:Nat,(∀j:Nat,j<m→at_+j=1→Nine9 (sect data j))→NineD (D.writeN n at_ data m)
 | 0,_=>h
 | m+1,hm=>(NineD.writeN h n at_ data m (fun j hj=>hm j (by omega))).write1 n (at_+m) (hm m (by omega))
theorem NineD.write (h:NineD D) (n:Int) (e:Nat) (at_:Int) (data:ByteArray) (hm:∀j:Nat,j<data.size / 64→at_+j=1→Nine9 (sect data j)):NineD (D.write n e at_ data).2:=by
 unfold Dk.write
 split
 ·exact h
 split
 ·exact h
 split
 ·exact h
 split
 ·exact h
 split
 ·exact h.goes
 ·exact h.goes.writeN n at_ data _ hm
theorem nine_head {b:Nat} {a:Int} (hb:¬(Hd.mk 9 b a).bad) (hl:b<18446744073709551616):∀j:Nat,j<(Hd.mk 9 b a).putS.size / 64→((1:Nat):Int)+j=1→Nine9 (sect (Hd.mk 9 b a).putS j):=by
 intro j _ hj
 obtain rfl:j=0:=by omega
 have e:(Hd.mk 9 b a).putS=str (headL ⟨9,b,a⟩):=if_neg hb
 have hs:sect (Hd.mk 9 b a).putS 0=str (headL ⟨9,b,a⟩):=by
  unfold sect
  rw [e]
  have hz:(str (headL ⟨9,b,a⟩)).size=64:=by rw [str_size,headL_len]
  show (str (headL ⟨9,b,a⟩)).extract 0 64=_
  rw [←hz]
  exact ByteArray.extract_zero_size
 rw [hs]
 intro _
 rw [(hd_put hb (show 9<18446744073709551616 by omega) hl).2]
theorem NineD.lhead (h:NineD D) (hg:g.base=1) {b:Nat} {a:Int} (hl:b<18446744073709551616):NineD (D.lhead g ⟨9,b,a⟩).2:=by
 unfold Dk.lhead
 split
 ·exact h
 ·rename_i hp
  have hb:¬(Hd.mk 9 b a).bad:=by
   intro hb
   exact hp (by unfold Hd.putE;rw [if_pos hb];decide)
  have hw:=h.write g.node g.epoch g.base (Hd.mk 9 b a).putS (by rw [hg];exact nine_head hb hl)
  split
  ·exact hw
  ·exact hw.barrier _ _
theorem NineD.putGo (hg:g.base=1) (x:En):∀(f i:Nat) (D:Dk),NineD D→NineD (putGo g x f i D).2
 | 0,_,_,h=>h
 | f+1,i,D,h=>by
   unfold Go.Proofs.YtldoeodkeieejaaGreatDoor.putGo
   split
   ·exact h
   have hw:=h.write g.node g.epoch ((g.base+1+(x.at_+i) % 7:Nat):Int) (x.bytes.extract (i*64) ((i+min (x.n - i) (7 - (x.at_+i) % 7))*64)) (fun j _ hj=>by omega)
   split
   ·exact hw
   ·exact NineD.putGo hg x f _ _ hw
theorem NineD.wrGo : ∀(l:List En) (k n:Nat) (D:Dk) (g:Lg),g.base=1→NineD D→NineD (wrGo l k n D g).D∧(wrGo l k n D g).g.base=1
 | [],_,_,_,_,hg,h=>⟨h,hg⟩
 | x :: l,k,n,D,g,hg,h=>by
   unfold Go.Proofs.YtldoeodkeieejaaGreatDoor.wrGo
   split
   ·exact NineD.wrGo l _ _ D g hg h
   have hp:NineD (D.put_ g x).2:=NineD.putGo hg x x.n 0 D h
   split
   ·refine ⟨hp,?_⟩
    unfold Lg.failG
    split <;> exact hg
   ·exact NineD.wrGo l _ _ _ _ hg hp
theorem NineD.writeR (h:NineD D) (hg:g.base=1):NineD (writeR D g).D∧(writeR D g).g.base=1:=by
 unfold Go.Proofs.YtldoeodkeieejaaGreatDoor.writeR
 split
 ·exact ⟨h,hg⟩
 ·exact NineD.wrGo _ _ _ D g hg h
theorem NineD.syncR (h:NineD D) (hg:g.base=1):NineD (syncR D g).D:=by
 have hw:=(h.writeR hg).1
 unfold Go.Proofs.YtldoeodkeieejaaGreatDoor.syncR
 split
 ·exact hw
 split
 ·exact hw
 split
 ·exact hw.barrier _ _
 ·exact hw.barrier _ _
theorem NineD.freeR (h:NineD D) (hg:g.base=1) (he:g.epoch=9) {b:Nat} (hb:b<18446744073709551616):NineD (freeR D g b).D:=by
 unfold Go.Proofs.YtldoeodkeieejaaGreatDoor.freeR
 rw [he]
 have hh:=h.lhead hg (b:=b) (a:=(g.leftAt b:Int)) hb
 split
 ·exact h
 split
 ·exact h
 split
 ·exact h
 split
 ·exact hh
 ·exact hh
theorem NineD.step (h:NineD D) (R:RF) (o:DOp) (hk:o.kind≠1):NineD (o.doD R D):=by
 unfold DOp.doD
 rw [if_neg hk]
 split
 ·exact h.barrier _ _
 split
 ·exact h.admit _ _
 split
 ·exact h.fence _
 split
 ·exact h.put _ _
 split
 ·exact h.cut _
 split
 ·exact h.restore
 split
 ·exact h.arm _ _
 ·exact h
theorem headB_sec (hs:D.sectors=37) (hon:D.on=true):D.headE1 1=0∧D.headB 1=D.sec 1:=by
 have hl:Live D:=⟨hon,hs⟩
 obtain ⟨r1,r2⟩:=hl.read (at_:=1) (n:=1) (by omega) (by omega) (by omega)
 have hla:logAt 1=(1,0):=rfl
 refine ⟨?_,?_⟩
 ·unfold Dk.headE1
  rw [hla]
  exact r1
 ·unfold Dk.headB
  rw [hla]
  have r2':D.readS 1 1=str (D.readL 1 1):=r2
  show D.readS 1 1=_
  rw [r2',readL_one]
  unfold str
  simp
theorem NineD.run (h:NineD D) (hs:D.sectors=37) {of_:Nat} (hof:of_≠9) (by_:Int) (e:Nat):runR D 1 of_ by_ e=⟨0,D.headE 1,D⟩∧(D.headE 1=0∨D.headE 1=14∨D.headE 1=15):=by
 have hla:logAt 1=(1,0):=rfl
 cases hon:D.on with
 | false =>
   have h1:D.headE1 1=14:=by
    unfold Dk.headE1
    rw [hla]
    show D.readE 1 1=14
    exact if_pos hon
   have h2:D.headE 1=14:=by
    unfold Dk.headE
    rw [h1]
    rfl
   refine ⟨?_, .inr (.inl h2)⟩
   unfold runR
   rw [h2]
   rfl
 | true =>
   obtain ⟨h1,hB⟩:=headB_sec hs hon
   have h9:Nine9 (D.headB 1):=by
    rw [hB]
    unfold Dk.sec
    cases hn:D.now 1 with
    | none =>
      intro hz
      rw [Option.getD_none,head_zero] at hz
      exact absurd hz (by decide)
    | some b=>exact h.now b hn
   by_cases hz:lhE (D.headB 1)=0
   ·have h2:D.headE 1=0:=by
     unfold Dk.headE
     rw [h1,if_neg (by decide),if_pos hz]
    have hH:(D.headH 1).epoch≠of_:=by
     unfold Dk.headH
     rw [if_pos ⟨h1,hz⟩,h9 hz]
     exact fun e=>hof e.symm
    refine ⟨?_, .inl h2⟩
    unfold runR
    rw [h2,if_neg (by decide),if_pos (.inr hH)]
   ·have hI:D.headI 1=false:=decide_eq_false (fun hc=>hz hc.2.1)
    by_cases ha:allZero (D.headB 1)
    ·have h2:D.headE 1=0:=by
      unfold Dk.headE
      rw [h1,if_neg (by decide),if_neg hz,if_pos ha]
     refine ⟨?_, .inl h2⟩
     unfold runR
     rw [h2,if_neg (by decide),if_pos (.inl hI)]
    ·have h2:D.headE 1=15:=by
      unfold Dk.headE
      rw [h1,if_neg (by decide),if_neg hz,if_neg ha]
     refine ⟨?_, .inr (.inr h2)⟩
     unfold runR
     rw [h2,if_pos (by decide)]
end
def bothC (cd cr:Nat):Nat→Prop:=fun y=>six cd y∨cutF cr y∨three cr y
end Go.Proofs.YtldoeodkeieejaaGreatDoor
