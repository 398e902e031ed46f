import Derived.Test.YtohgabdmmbngbaaGreatDoorKMapK
import Derived.Test.YtohgabdmmbngbaaGreatDoorKShelf
import Derived.Shelf.SortM.Plain
import Derived.Shelf.SortM.SortNone
import Derived.Ground.GgzProg
import Derived.Ground.SlgmProg
import Derived.Test.YtohgabdmmbngbaaGreatDoorKDisk
import Derived.Test.YtohgabdmmbngbaaGreatDoorKImapP
set_option linter.unusedVariables false
set_option linter.unusedSimpArgs false
namespace Go.Proofs
open Go.RowKit Go.Maps Go.Sort Go.Shelf
shelf_lay_g SlLaysZI.n7 Ggz 7 at Tryz 219 as Tryz.keysA
shelf_lay_g SlLaysZI.n6 Ggz 6 at Tryz 175 as Tryz.sortedA
shelf_lay_g SlLaysM.n5 Slgm 5 at Tryz 221 as Tryz.sortA
end Go.Proofs
namespace Go.Proofs.YtohgabdmmbngbaaGreatDoor
open Go.RowKit Go.Maps Go.Sort Go.Shelf Go.MapKept
end Go.Proofs.YtohgabdmmbngbaaGreatDoor
namespace Go.Proofs
open Go.RowKit Go.Maps Go.Sort Go.Shelf
shelf_lay_g SlLaysZI.n7 Ggz 7 at Tryz 176 as Tryz.keysI
end Go.Proofs
namespace Go.Proofs.YtohgabdmmbngbaaGreatDoor
open Go.RowKit Go.Maps Go.Sort Go.Shelf Go.MapKept
end Go.Proofs.YtohgabdmmbngbaaGreatDoor
namespace Go.Proofs.YtohgabdmmbngbaaGreatDoor
open Go.RowKit Go.Maps Go.Sort Go.MapKept
def Le.small (L:Le):Prop:=∀k,(L.m k).isSome=true→0≤k∧k≤16
theorem Le.zero_small (n:Int):(Le.zero n).small:=fun k h=>by cases h
theorem Le.renew_small {L:Le} (h:L.small) {node:Int} (hn:0≤node∧node≤16) (now:Int):(L.renew node now).2.small:=by
 have h2:Le.small {L with m:=upd L.m node (behindI now L.term)}:=fun k hk=>by
  by_cases hkn:k=node
  ·rw [hkn]
   exact hn
  ·exact h k (by rw [←upd_other L.m (behindI now L.term) hkn];exact hk)
 unfold Le.renew
 cases L.m node with
 | none=>exact h2
 | some was =>
   dsimp
   split
   ·exact h
   ·exact h2
theorem Le.drop_small {L:Le} (h:L.small) (node:Int):(L.drop node).2.small:=fun k hk=>by
 by_cases hkn:k=node
 ·subst hkn
  have:del L.m k k=none:=del_same _ _
  change (del L.m k k).isSome=true at hk
  rw [this] at hk
  cases hk
 ·exact h k (by rw [←del_other L.m hkn];exact hk)
structure En where
 lsn:Nat
 at_:Nat
 n:Nat
 bytes:ByteArray
 written:Bool
structure Lg where
 node:Nat
 epoch:Nat
 base:Nat
 next:Nat
 first:Nat
 at_:Nat
 written:Nat
 synced:Nat
 live:List En
 broken:Bool
end Go.Proofs.YtohgabdmmbngbaaGreatDoor
namespace Go.Proofs
open Go.Shelf
def Tryz.lays166_ren : Go.Shelf.Ren:=⟨fun | 166=>152 | 240=>201 | 276=>232 | n=>n,fun | 70=>201 | 9=>9 | 0=>0 | 72=>203 | 37=>151 | 3=>3 | 5=>5 | 4=>4 | 20=>20 | 75=>207 | 80=>210 | 164=>298 | n=>n,fun | n=>n⟩
theorem Tryz.lays166 : Go.Proofs.Lays.n166 Tryz.prog Tryz.lays166_ren := {
 mixed:=by kernel_rfl
 f166:=Tryz.func152.trans (congrArg some (by kernel_rfl))
 f240:=Tryz.func201.trans (congrArg some (by kernel_rfl))
 f276:=Tryz.func232.trans (congrArg some (by kernel_rfl))
 t0:=Tryz.underlying0
 a0:=Tryz.isAgg0
 z0:=Tryz.sizeOf0
 v0:=Tryz.zeroValue0
 t3:=Tryz.underlying3
 a3:=Tryz.isAgg3
 z3:=Tryz.sizeOf3
 v3:=Tryz.zeroValue3
 t4:=Tryz.underlying4
 a4:=Tryz.isAgg4
 z4:=Tryz.sizeOf4
 v4:=Tryz.zeroValue4
 t9:=Tryz.underlying9
 a9:=Tryz.isAgg9
 z9:=Tryz.sizeOf9
 v9:=Tryz.zeroValue9
 t20:=Tryz.underlying20
 a20:=Tryz.isAgg20
 z20:=Tryz.sizeOf20
 v20:=Tryz.zeroValue20
 t37:=Tryz.underlying151
 a37:=Tryz.isAgg151
 z37:=Tryz.sizeOf151
 v37:=Tryz.zeroValue151
 t70:=Tryz.underlying201
 a70:=Tryz.isAgg201
 z70:=Tryz.sizeOf201
 v70:=Tryz.zeroValue201
 t72:=Tryz.underlying203
 a72:=Tryz.isAgg203
 z72:=Tryz.sizeOf203
 v72:=Tryz.zeroValue203
 t75:=Tryz.underlying207
 a75:=Tryz.isAgg207
 z75:=Tryz.sizeOf207
 v75:=Tryz.zeroValue207
 t164:=Tryz.underlying298
 a164:=Tryz.isAgg298
 z164:=Tryz.sizeOf298
 v164:=Tryz.zeroValue298}
theorem Tryz.Builder_Extra_166 : Builder.Extra Tryz.prog Tryz.lays166_ren := {
 sizeBuilder:=by kernel_rfl
 liesBuilder:=by kernel_rfl
 t5:=Tryz.underlying5
 a5:=Tryz.isAgg5
 z5:=Tryz.sizeOf5
 v5:=Tryz.zeroValue5
 infoByte:=by kernel_rfl
 cellsByte:=by kernel_rfl
 sizeByte:=by kernel_rfl
 neB5:=by decide}
end Go.Proofs
namespace Go.Proofs.YtohgabdmmbngbaaGreatDoor
open Go.RowKit
theorem bwrite_any (B b:Nat) (l:List UInt8) (s:ByteArray) (w:World) (h:Lib.IsBuilder 203 5 B b (Lib.byteCells l) w) (hlen:l.length+s.size≤140737488355328) (hB:B≤w.heap.size) :
 Calls Tryz.prog 152 #[.pointer (some ⟨b,0,none⟩), .string s] w fun e w'=>e = .returned (.tuple #[.int .i64 s.size, .nilIface])∧Lib.IsBuilder 203 5 B b (Lib.byteCells (l++s.data.toList)) w'∧Below B w w':=by
 refine (Any.Builder_WriteString Tryz.lays166 Tryz.Builder_Extra_166 B b (Lib.byteCells l) s w h (by rw [Lib.byteCells_length];exact hlen) hB).mono ?_
 rintro e w' ⟨rfl,hb,hbl⟩
 refine ⟨rfl, .inr ?_,hbl⟩
 rw [Lib.byteCells_append]
 exact hb
theorem isBuilder_below {B b:Nat} {bs:List Value} {w w':World} (h:Lib.IsBuilder 203 5 B b bs w) (_hs:B≤w.heap.size) (hb:Below w.heap.size w w'):Lib.IsBuilder 203 5 B b bs w':=by
 have aux:∀p,Lib.BuilderAt 203 5 B b p bs w→Lib.BuilderAt 203 5 B b p bs w':=by
  rintro p ⟨h1,v,h2,h3,h4⟩
  have hlt:b<w.heap.size:=(Array.getElem?_eq_some_iff.1 h2).1
  refine ⟨h1,v,(hb.block b hlt).trans h2,⟨h3.1,?_⟩,h4⟩
  rcases h3.2 with hn | ⟨g,cap,cur,rfl,h0,hgg,rest⟩
  ·exact .inl hn
  ·exact .inr ⟨g,cap,cur,rfl,h0,(hb.block g (Array.getElem?_eq_some_iff.1 hgg).1).trans hgg,rest⟩
 exact h.imp (aux _) (aux _)
theorem builder_new (w:World):Lib.IsBuilder 203 5 w.heap.size w.heap.size (Lib.byteCells []) (w.alloc (.cells #[.pointer none, .slice none 0 0] 203)) :=
 .inl ⟨Nat.le_refl _, .slice none 0 0,heap_alloc_new w _,World.ownsRow_nil _ _ _ _,by simp [Value.ownBlock]⟩
theorem readL_succ (D:Dk) (at_:Int) (n:Nat):D.readL at_ (n+1)=D.readL at_ n++(D.sec (at_+n)).data.toList:=by simp [Dk.readL,List.range_succ]
theorem zero_str (w:World):(zeroValue 9).run Tryz.prog w = .ok (.string ⟨#[]⟩) w:=Tryz.zeroValue9 w
set_option maxRecDepth 100000 in
set_option maxHeartbeats 2000000 in
theorem dread_any {o:Nat→Nat} {c p:Nat} {w:World} {D:Dk} (h:DiskAt o c w p D) (at_ n:Int) (hsec:D.sectors≤20000) (hwf:D.wf) :
 Calls Tryz.prog 87 #[.pointer (some ⟨p,0,none⟩), .int .i64 at_, .int .i64 n] w fun e w'=>e = .returned (.tuple #[.string (D.readS at_ n), .int .i64 (D.readE at_ n)])∧Below w.heap.size w w':=by
 have H:=Lib.hid h
 have HWF:=Lib.hid hwf
 clear h hwf
 cases hon:D.on with
 | false =>
   have e1:D.readE at_ n=14:=if_pos hon
   have e2:D.readS at_ n=⟨#[]⟩:=if_neg (by rw [e1];decide)
   rw [e1,e2]
   clear e1 e2
   go_enter Tryz.func87,Tryz.ntmps87
   go_wp2_with fail
   refine (don_any H.out).mono ?_
   rintro e w1 ⟨rfl,rfl⟩
   rw [hon]
   go_wp2_with fail
   go_ret2
   exact ⟨rfl,Below.refl _ _⟩
 | true =>
   have HON:=Lib.hid hon
   by_cases h0:n<1
   ·have e1:D.readE at_ n=30:=by unfold Dk.readE;rw [if_neg (by rw [hon];decide),if_pos (.inl h0)]
    have e2:D.readS at_ n=⟨#[]⟩:=if_neg (by rw [e1];decide)
    rw [e1,e2]
    clear e1 e2 hon
    go_enter Tryz.func87,Tryz.ntmps87
    go_wp2_with fail
    refine (don_any H.out).mono ?_
    rintro e w1 ⟨rfl,rfl⟩
    rw [HON.out]
    go_wp2_with fail
    go_ret2
    exact ⟨rfl,Below.refl _ _⟩
   ·by_cases h1:400<n
    ·have e1:D.readE at_ n=30:=by unfold Dk.readE;rw [if_neg (by rw [hon];decide),if_pos (.inr (.inl h1))]
     have e2:D.readS at_ n=⟨#[]⟩:=if_neg (by rw [e1];decide)
     rw [e1,e2]
     clear e1 e2 hon
     go_enter Tryz.func87,Tryz.ntmps87
     go_wp2_with fail
     refine (don_any H.out).mono ?_
     rintro e w1 ⟨rfl,rfl⟩
     rw [HON.out]
     go_wp2_with fail
     go_ret2
     exact ⟨rfl,Below.refl _ _⟩
    ·cases hth:D.there at_ n with
     | false =>
       have e1:D.readE at_ n=30:=by unfold Dk.readE;rw [if_neg (by rw [hon];decide),if_pos (.inr (.inr hth))]
       have e2:D.readS at_ n=⟨#[]⟩:=if_neg (by rw [e1];decide)
       have HTH:=Lib.hid hth
       rw [e1,e2]
       clear e1 e2 hon hth
       go_enter Tryz.func87,Tryz.ntmps87
       go_wp2_with fail
       refine (don_any H.out).mono ?_
       rintro e w1 ⟨rfl,rfl⟩
       rw [HON.out]
       go_wp2_with fail
       refine (dthere_any H.out at_ n hsec).mono ?_
       rintro e w1 ⟨rfl,rfl⟩
       rw [HTH.out]
       go_wp2_with fail
       go_ret2
       exact ⟨rfl,Below.refl _ _⟩
     | true =>
       obtain ⟨m,rfl⟩:∃m:Nat,n=m:=⟨n.toNat,by omega⟩
       have e1:D.readE at_ m=0:=by unfold Dk.readE;rw [if_neg (by rw [hon];decide),if_neg (by rw [hth];simp;omega)]
       have e2:D.readS at_ m=str (D.readL at_ m):=by unfold Dk.readS;rw [if_pos e1];rfl
       have hat:0≤at_∧at_≤D.sectors∧(m:Int)≤D.sectors - at_:=of_decide_eq_true hth
       obtain ⟨ha0,ha1,ha2⟩:=hat
       have HTH:=Lib.hid hth
       rw [e1,e2]
       clear e1 e2 hon hth
       obtain ⟨mn,ml,wv,sv,hin⟩:=H.out
       have HIN:=Lib.hid hin
       clear hin
       go_enter Tryz.func87,Tryz.ntmps87
       go_wp2_with fail
       refine (don_any H.out).mono ?_
       rintro e w1 ⟨rfl,rfl⟩
       rw [HON.out]
       go_wp2_with fail
       refine (dthere_any H.out at_ m hsec).mono ?_
       rintro e w1 ⟨rfl,rfl⟩
       rw [HTH.out]
       go_wp2_with fail
       have HW0:=Lib.hid ((Below.refl w.heap.size w).alloc (Nat.le_refl _) (.cells #[.pointer none, .slice none 0 0] 203))
       have HBN:=Lib.hid (builder_new w)
       generalize w.alloc (.cells #[.pointer none, .slice none 0 0] 203)=W at HW0 HBN ⊢
       go_loopw [31] (fun t31 wr=>∃i:Nat,i≤m∧t31 = .int .i64 i∧Below w.heap.size w wr∧Lib.IsBuilder 203 5 w.heap.size w.heap.size (Lib.byteCells (D.readL at_ i)) wr) (fun t31 _=>m - (intOf t31).toNat)
       case atStart=>exact ⟨0,by omega,rfl,HW0.out,HBN.out⟩
       case round =>
        obtain ⟨i,hi,rfl,hb,hbd⟩:=hrel
        have HB:=Lib.hid hb
        have HBD:=Lib.hid hbd
        clear hb hbd
        by_cases hlt:i<m
        ·have hltI:(i:Int)<(m:Int):=by omega
         have HI:=Lib.hid (HIN.out.step (Step.of_below o (fun _=>False) HB.out) (fun _ _ _=>id))
         have c3:wr.cell? ⟨p,3,none⟩=some (.map (some mn)):=HI.out.blk.cell 3
         have hw:IntKind.i64.wrap (at_+(i:Int))=at_+i:=IntWalk.i64_in _ (by omega)
         have hl:=Dk.readL_len HWF.out at_ i
         have HLS:=Lib.hid (readL_succ D at_ i)
         have HSB:=Lib.hid HB.out.size
         have hlk:=HI.out.now.look Tryz.underlying98 Tryz.underlying3 (zero_str wr) (at_+i) true
         cases hnow:D.now (at_+i) with
         | none =>
           simp only [hnow,Option.map_none,Option.getD_none,Option.isSome_none,if_true] at hlk
           have hs:D.sec (at_+i)=str (zer 64):=by unfold Dk.sec;rw [hnow];rfl
           have HS:=Lib.hid hs
           have HL:=Lib.hid (show (D.readL at_ i).length+(str (zer 64)).size≤140737488355328 by rw [hl,str_size,zer_len];omega)
           clear hs hnow hl
           go_wp2_with fail
           refine (rep0_any 64 (by omega) (by omega) wr).mono ?_
           rintro e w2 ⟨rfl,hb2⟩
           rw [show ((64:Int)).toNat=64 from rfl]
           have HB2:=Lib.hid (HB.out.trans (hb2.mono HSB.out))
           have HBD2:=Lib.hid (isBuilder_below HBD.out HSB.out hb2)
           clear hb2 c3 hlk
           go_wp2_with fail
           refine (bwrite_any _ _ _ (str (zer 64)) w2 HBD2.out HL.out HB2.out.size).mono ?_
           rintro e w3 ⟨rfl,hbd3,hb3⟩
           have HB3:=Lib.hid (HB2.out.trans hb3)
           rw [←HS.out,←HLS.out] at hbd3
           have HBD3:=Lib.hid hbd3
           clear hbd3 hb3
           go_wp2_with fail
           go_roundw
           case rel=>exact ⟨i+1,by omega,by go_num,HB3.out,HBD3.out⟩
           case measure=>simp [intOf];omega
         | some s =>
           simp only [hnow,Option.map_some,Option.getD_some,Option.isSome_some,if_true] at hlk
           have hs:D.sec (at_+i)=s:=by unfold Dk.sec;rw [hnow];rfl
           have HS:=Lib.hid hs
           have hsz:=HWF.out.1 _ _ hnow
           have HL:=Lib.hid (show (D.readL at_ i).length+s.size≤140737488355328 by rw [hl,hsz];omega)
           clear hs hnow hl hsz
           go_wp2_with fail
           clear c3 hlk
           refine (bwrite_any _ _ _ s wr HBD.out HL.out HB.out.size).mono ?_
           rintro e w3 ⟨rfl,hbd3,hb3⟩
           have HB3:=Lib.hid (HB.out.trans hb3)
           rw [←HS.out,←HLS.out] at hbd3
           have HBD3:=Lib.hid hbd3
           clear hbd3 hb3
           go_wp2_with fail
           go_roundw
           case rel=>exact ⟨i+1,by omega,by go_num,HB3.out,HBD3.out⟩
           case measure=>simp [intOf];omega
        ·have hltI:¬(i:Int)<(m:Int):=by omega
         obtain rfl:i=m:=by omega
         go_wp2_with fail
         refine (Tryz.Builder_String_any w.heap.size w.heap.size (D.readL at_ i) wr HBD.out HB.out.size).mono ?_
         rintro e w2 ⟨rfl,hb2⟩
         have HB2:=Lib.hid (HB.out.trans hb2)
         clear hb2
         go_wp2_with fail
         go_ret2
         exact ⟨rfl,HB2.out⟩
def Dk.fresh (n:Nat):Dk:=⟨n,true,0,fun _=>none,fun _=>none,[],fun _=>0,fun _=>0,0,false,0,[]⟩
structure Calm (D:Dk) (k:Nat):Prop where
 on:D.on=true
 armed:D.armed=false
 sectors:D.sectors=61
 waits:D.waits.length≤k
 seq:D.seq≤k
 wf:D.wf
section
variable {D:Dk} {k:Nat}
theorem Calm.mono (h:Calm D k) {m:Nat} (hm:k≤m):Calm D m:=⟨h.on,h.armed,h.sectors,Nat.le_trans h.waits hm,Nat.le_trans h.seq hm,h.wf⟩
theorem Calm.may (h:Calm D k) {n:Nat} (hn:n≤16):D.may n=0:=by
 unfold Dk.may
 rw [if_neg (by rw [h.on];decide),if_neg (by omega)]
theorem keep_wf {D:Dk} (h:D.wf) {x:Ws} (hx:x.data.size=64):(D.keep x).wf:=by
 unfold Dk.keep
 split
 ·refine ⟨h.1,fun k y hy => ?_,h.2.2⟩
  have hy:upd D.lasts x.at_ x k=some y:=hy
  unfold upd at hy
  split at hy
  ·injection hy with hy
   exact hy▸hx
  ·exact h.2.1 k y hy
 ·exact h
theorem keeps_wf : ∀(l:List Ws) (D:Dk),D.wf→(∀x∈l,x.data.size=64)→(l.foldl Dk.keep D).wf
 | [],_,h,_=>h
 | x :: l,D,h,hl=>keeps_wf l (D.keep x) (keep_wf h (hl x (List.mem_cons_self ..))) (fun y hy=>hl y (List.mem_cons_of_mem _ hy))
theorem settle_wf {D:Dk} (h:D.wf) (n:Int):(D.settle n).wf:=by
 have h1:=keeps_wf (D.waits.filter (fun x=>x.node=n)) D h (fun x hx=>h.2.2 x (List.mem_filter.1 hx).1)
 exact ⟨h1.1,h1.2.1,fun x hx=>h.2.2 x (List.mem_filter.1 hx).1⟩
theorem settle_waits (D:Dk) (n:Int):(D.settle n).waits.length≤D.waits.length:=List.length_filter_le _ _
theorem Calm.settle (h:Calm D k) (n:Int):Calm (D.settle n) k:=by
 obtain ⟨a1,a2,a3,a4,a5,a6,a7⟩:=settle_same D n
 refine ⟨a1.trans h.on,a2.trans h.armed,a3.trans h.sectors,Nat.le_trans (settle_waits D n) h.waits,a7▸h.seq,settle_wf h.wf n⟩
theorem Calm.fence (h:Calm D k) {n:Nat} (hn:n≤16):D.fence n=(0,{D.settle n with table:=fun j=>if j=n then 0 else D.table j})∧Calm (D.fence n).2 k:=by
 have e:D.fence n=(0,{D.settle n with table:=fun j=>if j=n then 0 else D.table j}):=by
  unfold Dk.fence
  rw [if_neg (by rw [h.may hn];simp),goes_calm h.armed]
  rfl
 refine ⟨e,?_⟩
 rw [e]
 have:=h.settle n
 exact ⟨this.on,this.armed,this.sectors,this.waits,this.seq,this.wf⟩
theorem Calm.put (h:Calm D k) {n:Nat} (hn:n≤16) (v:Nat):D.put n v=(0,{D with words:=fun j=>if j=n then v else D.words j})∧Calm (D.put n v).2 k:=by
 have e:D.put n v=(0,{D with words:=fun j=>if j=n then v else D.words j}):=by
  unfold Dk.put
  rw [if_neg (by rw [h.may hn];simp),goes_calm h.armed]
  rfl
 refine ⟨e,?_⟩
 rw [e]
 exact ⟨h.on,h.armed,h.sectors,h.waits,h.seq,h.wf⟩
theorem Calm.admit (h:Calm D k) {n:Nat} (hn:n≤16) {e:Nat} (he:D.last<e):D.admit n e=(0,{D with table:=fun j=>if j=n then e else D.table j,last:=e})∧Calm (D.admit n e).2 k:=by
 have e1:D.admit n e=(0,{D with table:=fun j=>if j=n then e else D.table j,last:=e}):=by
  unfold Dk.admit
  rw [if_neg (by rw [h.may hn];simp),if_neg (by omega),goes_calm h.armed]
  rfl
 refine ⟨e1,?_⟩
 rw [e1]
 exact ⟨h.on,h.armed,h.sectors,h.waits,h.seq,h.wf⟩
theorem Calm.barrier (h:Calm D k) {n:Nat} (hn:n≤16) {e:Nat} (he:D.table n=e) (h0:e≠0):D.barrier n e=(0,D.settle n)∧Calm (D.barrier n e).2 k:=by
 have e1:D.barrier n e=(0,D.settle n):=by
  unfold Dk.barrier
  rw [if_neg (by rw [h.may hn];simp),Int.toNat_natCast,if_neg,goes_calm h.armed]
  ·rfl
  ·unfold Dk.admits
   rw [if_neg (by simp [h0,he])]
   simp
 refine ⟨e1,?_⟩
 rw [e1]
 exact h.settle n
theorem write1_wf (h:D.wf) (n at_:Int) {t:ByteArray} (ht:t.size=64):(D.write1 n at_ t).wf:=by
 refine ⟨fun k y hy => ?_,h.2.1,fun x hx => ?_⟩
 ·have hy:upd D.now at_ t k=some y:=hy
  unfold upd at hy
  split at hy
  ·injection hy with hy
   exact hy▸ht
  ·exact h.1 k y hy
 ·have hx:x∈D.waits ++ [⟨n,at_,(D.seq+1:Nat),t⟩]:=hx
  rcases List.mem_append.1 hx with hx | hx
  ·exact h.2.2 x hx
  ·rw [List.mem_singleton.1 hx]
   exact ht
theorem writeN_wf (h:D.wf) (n at_:Int) (data:ByteArray):∀m,m*64≤data.size→(D.writeN n at_ data m).wf
 | 0,_=>h
 | m+1,hm=>write1_wf (writeN_wf h n at_ data m (by omega)) n _ (sect_size (by omega))
theorem Calm.writeN (h:Calm D k) (n at_:Int) (data:ByteArray) (m:Nat) (hm:m*64≤data.size):Calm (D.writeN n at_ data m) (k+m):=by
 obtain ⟨a1,a2,a3,_,_,_,_,a8,a9⟩:=writeN_same D n at_ data m
 exact ⟨a1.trans h.on,a2.trans h.armed,a3.trans h.sectors,by have:=h.waits;omega,by have:=h.seq;omega,writeN_wf h.wf n at_ data m hm⟩
theorem Calm.write (h:Calm D k) {n:Nat} (hn:n≤16) {e:Nat} (he:D.table n=e) (h0:e≠0) {at_:Int} {data:ByteArray} {m:Nat} (hd:data.size=m*64) (h1:1≤m) (h2:m≤16) (h3:0≤at_) (h4:at_+m≤61) :
 D.write n e at_ data=(0,D.writeN n at_ data m)∧Calm (D.write n e at_ data).2 (k+m):=by
 have hq:data.size / 64=m:=by omega
 have hr:data.size % 64=0:=by omega
 have e1:D.write n e at_ data=(0,D.writeN n at_ data m):=by
  unfold Dk.write
  rw [if_neg (by rw [h.may hn];simp),if_neg (by omega),Int.toNat_natCast,if_neg,if_neg,goes_calm h.armed,hq]
  ·rfl
  ·have:D.there at_ (data.size / 64:Nat)=true:=by
    unfold Dk.there
    rw [hq,h.sectors]
    exact decide_eq_true ⟨h3,by omega,by omega⟩
   rw [this]
   decide
  ·unfold Dk.admits
   rw [if_neg (by simp [h0,he])]
   simp
 refine ⟨e1,?_⟩
 rw [e1]
 exact h.writeN n at_ data m (by omega)
structure Live (D:Dk):Prop where
 on:D.on=true
 sectors:D.sectors=61
theorem Calm.live (h:Calm D k):Live D:=⟨h.on,h.sectors⟩
theorem Live.read (h:Live D) {at_:Int} {n:Nat} (h1:1≤n) (h2:0≤at_) (h3:at_+n≤61):D.readE at_ n=0∧D.readS at_ n=str (D.readL at_ n):=by
 have e:D.readE at_ n=0:=by
  unfold Dk.readE
  rw [if_neg (by rw [h.on];decide),if_neg]
  have:D.there at_ n=true:=by
   unfold Dk.there
   rw [h.sectors]
   exact decide_eq_true ⟨h2,by omega,by omega⟩
  rw [this]
  simp
  omega
 refine ⟨e,?_⟩
 unfold Dk.readS
 rw [if_pos e,Int.toNat_natCast]
theorem Calm.read (h:Calm D k) {at_:Int} {n:Nat} (h1:1≤n) (h2:0≤at_) (h3:at_+n≤61):D.readE at_ n=0∧D.readS at_ n=str (D.readL at_ n):=h.live.read h1 h2 h3
end
theorem calm_fresh : Calm (Dk.fresh 61) 0:=⟨rfl,rfl,rfl,Nat.le_refl _,Nat.le_refl _,⟨(fun _ _ h=>by cases h),(fun _ _ h=>by cases h),(fun _ h=>by cases h)⟩⟩
theorem cells_fresh (n mn ml:Nat):(Dk.fresh n).cells mn ml (.slice none 0 0) (.slice none 0 0) =
 #[.int .i64 n, .bool true, .int .i64 0, .map (some mn), .map (some ml), .slice none 0 0,
  .int .u64 0, .int .u64 0, .int .u64 0, .int .u64 0, .int .u64 0, .int .u64 0, .int .u64 0, .int .u64 0, .int .u64 0, .int .u64 0, .int .u64 0, .int .u64 0, .int .u64 0, .int .u64 0, .int .u64 0, .int .u64 0, .int .u64 0,
  .int .u64 0, .int .u64 0, .int .u64 0, .int .u64 0, .int .u64 0, .int .u64 0, .int .u64 0, .int .u64 0, .int .u64 0, .int .u64 0, .int .u64 0, .int .u64 0, .int .u64 0, .int .u64 0, .int .u64 0, .int .u64 0, .int .u64 0,
  .int .u64 0, .bool false, .int .i64 0, .slice none 0 0]:=rfl
theorem fresh_in (o:Nat→Nat) (c:Nat) (w:World) (n:Nat) (_hc:1≤c):∃o',DiskAt o' c (((w.alloc (.map #[] 0)).alloc (.map #[] 0)).alloc (.cells ((Dk.fresh n).cells w.heap.size (w.heap.size+1) (.slice none 0 0) (.slice none 0 0)) 103)) (w.heap.size+2) (Dk.fresh n) ∧
 ∀C,Step o C w o' (((w.alloc (.map #[] 0)).alloc (.map #[] 0)).alloc (.cells ((Dk.fresh n).cells w.heap.size (w.heap.size+1) (.slice none 0 0) (.slice none 0 0)) 103)):=by
 obtain ⟨o1,h1,s1⟩:=alloc_as o w (.map #[] 0) (c+1)
 obtain ⟨o2,h2,s2⟩:=alloc_as o1 (w.alloc (.map #[] 0)) (.map #[] 0) (c+2)
 obtain ⟨o3,h3,s3⟩:=alloc_as o2 ((w.alloc (.map #[] 0)).alloc (.map #[] 0)) (.cells ((Dk.fresh n).cells w.heap.size (w.heap.size+1) (.slice none 0 0) (.slice none 0 0)) 103) c
 have hs1:(w.alloc (.map #[] 0)).heap.size=w.heap.size+1:=by simp
 have hs2:((w.alloc (.map #[] 0)).alloc (.map #[] 0)).heap.size=w.heap.size+2:=by simp
 have m1:=(MapR.newAs o1 w (c+1) h1).step s2 id
 have m2:=(MapR.newAs o2 (w.alloc (.map #[] 0)) (c+2) h2).step s3 id
 rw [hs1] at m2
 have m1':=m1.step s3 id
 have b:=Blk.new ((w.alloc (.map #[] 0)).alloc (.map #[] 0)) 103 ((Dk.fresh n).cells w.heap.size (w.heap.size+1) (.slice none 0 0) (.slice none 0 0))
 rw [hs2] at b h3
 refine ⟨o3,⟨w.heap.size,w.heap.size+1, .slice none 0 0, .slice none 0 0,⟨b,h3,m1',m2,OwnW.nil _ _ _ _ _,OwnW.nil _ _ _ _ _⟩⟩,fun C => ?_⟩
 exact ((s1.mono (fun _ h=>h.elim)).trans (s2.mono (fun _ h=>h.elim))).trans (s3.mono (fun _ h=>h.elim))
set_option maxRecDepth 100000 in
set_option maxHeartbeats 2000000 in
theorem dnew_any (o:Nat→Nat) (c:Nat) (hc:1≤c) (w:World) :
 Calls Tryz.prog 62 #[.int .i64 61] w fun e w'=>∃p,e = .returned (.pointer (some ⟨p,0,none⟩))∧∃o',DiskAt o' c w' p (Dk.fresh 61)∧∀C,Step o C w o' w':=by
 have HF:=Lib.hid (fresh_in o c w 61 hc)
 rw [cells_fresh] at HF
 have hmm := @run_makeMap Tryz.prog
 go_enter Tryz.func62,Tryz.ntmps62
 go_wp2_with fail
 go_ret
 exact ⟨w.heap.size+2,rfl,HF.out.choose,HF.out.choose_spec.1,HF.out.choose_spec.2⟩
end Go.Proofs.YtohgabdmmbngbaaGreatDoor
