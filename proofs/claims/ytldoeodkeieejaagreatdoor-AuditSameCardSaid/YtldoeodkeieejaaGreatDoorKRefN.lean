import Derived.Test.YtldoeodkeieejaaGreatDoorKShelfC
import Derived.Test.YtldoeodkeieejaaGreatDoorKMapR
import Derived.Test.YtldoeodkeieejaaGreatDoorKRefG
import Derived.Test.YtldoeodkeieejaaGreatDoorKMadP
import Derived.Test.YtldoeodkeieejaaGreatDoorKDiskF
namespace Go.Proofs.YtldoeodkeieejaaGreatDoor
open Go.RowKit
def MarkRow (w:World) (g cap:Nat) (bs:List UInt8):Prop:=∃cur fz,w.heap[g]? = some (.cells cur 5 fz)∧cur.size=cap∧cur.toList.take bs.length=bvs bs∧(fz.2≤fz.1∨cap≤fz.1)∧bs.length≤cap
section
variable {w w':World} {g cap:Nat} {bs:List UInt8}
theorem MarkRow.lt (h:MarkRow w g cap bs):g<w.heap.size:=by
 obtain ⟨cur,fz,hg,_⟩:=h
 exact (Array.getElem?_eq_some_iff.1 hg).1
theorem MarkRow.same (h:MarkRow w g cap bs) (he:w'.heap[g]? = w.heap[g]?):MarkRow w' g cap bs:=by
 obtain ⟨cur,fz,hg,rest⟩:=h
 exact ⟨cur,fz,he.trans hg,rest⟩
theorem MarkRow.cell (h:MarkRow w g cap bs):∀j u,(bvs bs)[j]? = some u→w.cell? ⟨g,j,none⟩=some u:=by
 obtain ⟨cur,fz,hg,hs,ht,_,hl⟩:=h
 intro j u hj
 have hjl:j<bs.length:=by have:=(List.getElem?_eq_some_iff.1 hj).1;rwa [bvs_len] at this
 simp only [World.cell?,hg]
 rw [←ht,List.getElem?_take_of_lt hjl] at hj
 simpa using hj
theorem MarkRow.spare (h:MarkRow w g cap bs) {j:Nat} (hj:j<cap):(w.cell? ⟨g,j,none⟩).isSome=true∧w.frozen? ⟨g,j,none⟩=false:=by
 obtain ⟨cur,⟨lo,hi⟩,hg,hs,ht,hz,hl⟩:=h
 subst hs
 constructor
 ·simp only [World.cell?,hg]
  simp [hj]
 ·simp only [World.frozen?,hg]
  simp only at hz
  simp
  omega
theorem cells_marked {g:Nat} {t:TypeId} {fz:Nat×Nat}:∀(vs:List Value) (o:Nat) (w:World) (cs:Array Value),w.heap[g]? = some (.cells cs t fz)→∃cs',(w.setCells g o vs).heap[g]? = some (.cells cs' t fz)∧cs'.size=cs.size ∧
 ∀i:Nat,cs'[i]? = if o≤i∧i<o+vs.length∧i<cs.size then vs[i - o]? else cs[i]?
 | [],o,w,cs,h=>⟨cs,h,rfl,fun i=>by rw [if_neg (by simp;omega)]⟩
 | v :: r,o,w,cs,h=>by
   have hs:(w.setCell ⟨g,o,none⟩ v).heap[g]? = some (.cells (cs.setIfInBounds o v) t fz):=by simp [World.setCell,Array.getElem?_modify,h]
   obtain ⟨cs',h1,h2,h3⟩:=cells_marked r (o+1) _ _ hs
   refine ⟨cs',h1,by simpa using h2,fun i => ?_⟩
   rw [h3 i]
   simp only [Array.size_setIfInBounds,List.length_cons]
   by_cases h4:o+1≤i∧i<o+1+r.length∧i<cs.size
   ·rw [if_pos h4,if_pos (by omega),show i - o=(i - (o+1))+1 by omega]
    simp
   ·rw [if_neg h4]
    by_cases h5:o≤i∧i<o+(r.length+1)∧i<cs.size
    ·have h6:i=o:=by omega
     subst h6
     rw [if_pos h5]
     simp [h5.2.2]
    ·rw [if_neg h5]
     rw [Array.getElem?_setIfInBounds]
     by_cases h6:o=i
     ·subst h6
      have h7:¬o<cs.size:=by omega
      simp [h7]
     ·rw [if_neg h6]
theorem MarkRow.put (h:MarkRow w g cap bs) (l:List UInt8) (hr:bs.length+l.length≤cap):MarkRow (w.setCells g bs.length (bvs l)) g cap (bs++l):=by
 obtain ⟨cur,fz,hg,hs,ht,hz,hl⟩:=h
 obtain ⟨cs',h1,h2,h3⟩:=cells_marked (bvs l) bs.length w cur hg
 refine ⟨cs',fz,h1,h2.trans hs,?_,hz,by rw [List.length_append];exact hr⟩
 apply List.ext_getElem?
 intro i
 rw [List.getElem?_take,bvs_app,List.length_append]
 simp only [Array.getElem?_toList,h3,bvs_len]
 by_cases hi:i<bs.length+l.length
 ·rw [if_pos hi]
  by_cases hb:i<bs.length
  ·rw [if_neg (by omega),List.getElem?_append_left (by rw [bvs_len];exact hb),←ht,List.getElem?_take_of_lt hb]
   simp
  ·rw [if_pos (by omega),List.getElem?_append_right (by rw [bvs_len];omega),bvs_len]
 ·rw [if_neg hi,List.getElem?_eq_none]
  rw [List.length_append,bvs_len,bvs_len]
  omega
theorem MarkRow.of_bytes (w:World) (s:ByteArray):MarkRow (Lib.bytesWorld w 5 s) w.heap.size (Lib.bytesCells w 5 s).size s.data.toList:=by
 refine ⟨Lib.bytesCells w 5 s,_,Lib.bytesWorld_at_new w 5 s,rfl,?_, .inr (Nat.le_refl _),?_⟩
 ·unfold Lib.bytesCells
  rw [Array.toList_append]
  have e:(s.data.map fun b=>Value.int .u8 b.toNat).toList=bvs s.data.toList:=by
   rw [Array.toList_map]
   rfl
  rw [e,List.take_append_of_le_length (by rw [bvs_len];exact Nat.le_refl _),List.take_of_length_le (by rw [bvs_len];exact Nat.le_refl _)]
 ·unfold Lib.bytesCells
  simp
theorem MarkRow.of_own {b:Nat} {v:Value} {n:Nat} (h:w.ownsRow b 5 1 v n (bvs bs)) (hn:n=bs.length) (h0:0<n):∃g cap,v = .slice (some ⟨g,0,none⟩) bs.length cap∧b≤g∧MarkRow w g cap bs∧cap≤maxLen:=by
 subst hn
 rcases h.2 with ⟨_,h1⟩ | ⟨g,cap,cur,hv,hb,hg,h1,h2,h3,h4⟩
 ·omega
 ·exact ⟨g,cap,hv,hb,⟨cur,(0,0),hg,by omega,by rw [Nat.mul_one] at h4;exact h4, .inl (Nat.le_refl _),h1⟩,h2⟩
end
def WrM (o:Nat→Nat) (c:Nat) (w:World) (p:Nat) (bs:List UInt8):Prop:=∃g cap,Blk w p 177 #[.slice (some ⟨g,0,none⟩) bs.length cap, .int .i64 0]∧o p=c∧o g=c∧MarkRow w g cap bs∧g≠p∧cap≤maxLen
theorem WrM.step {o o':Nat→Nat} {c p:Nat} {w w':World} {bs:List UInt8} {C:Nat→Prop} (h:WrM o c w p bs) (hs:Step o C w o' w') (hc:¬C c):WrM o' c w' p bs:=by
 obtain ⟨g,cap,hb,hp,hg,hm,hne,hl⟩:=h
 exact ⟨g,cap,hb.step hs (by rw [hp];exact hc),(hs.old p hb.lt).trans hp,(hs.old g hm.lt).trans hg,hm.same (hs.block g hm.lt (by rw [hg];exact hc)),hne,hl⟩
set_option maxRecDepth 100000 in
set_option maxHeartbeats 4000000 in
theorem xnum_m {o:Nat→Nat} {c p:Nat} {w:World} {bs:List UInt8} (h:WrM o c w p bs) (hbs:bs.length≤100000) (v K:Nat) (hk0:1≤K) (hk8:K≤8) (hv:v<256 ^ K) (hv8:v<18446744073709551616) :
 Calls Tryz.prog 91 #[.pointer (some ⟨p,0,none⟩), .int .u64 v, .int .i64 (K:Int)] w fun r w'=>r = .returned (.tuple #[])∧∃o',WrM o' c w' p (bs++le v K)∧Step o (only c) w o' w':=by
 obtain ⟨i0,hi0,hz0,hz1,hz2⟩:=info_parts info_u8
 obtain ⟨g,cap,hb,hc,hog,hm,hne,hcap⟩:=h
 have HB0:=Lib.hid hb
 have HC:=Lib.hid hc
 have HOG:=Lib.hid hog
 have HM:=Lib.hid hm
 have HNE:=Lib.hid hne
 have HV0:=Lib.hid hv
 have HV8:=Lib.hid hv8
 have HBS:=Lib.hid hbs
 have HCAP:=Lib.hid hcap
 have hbl:bs.length≤cap:=by obtain ⟨_,_,_,_,_,_,h9⟩:=hm;exact h9
 have hcapI:(cap:Int)≤9223372036854775807:=by unfold maxLen at hcap;omega
 have hblI:(bs.length:Int)≤(cap:Int):=by omega
 have HB1:=Lib.hid (hb.set_ 1 (.int .i64 0))
 have HM1:=Lib.hid (hm.same (w':=w.setCell ⟨p,1,none⟩ (.int .i64 0)) (Below.heap_setCell w ⟨p,1,none⟩ (.int .i64 0) g hne))
 have HS1:=Lib.hid ((Step.refl o (only c) w).setCell (p:=⟨p,1,none⟩) hc (.int .i64 0))
 have HPL:=Lib.hid hb.lt
 have hKI0:¬(K:Int)<1:=by omega
 have hKI8:¬8<(K:Int):=by omega
 clear hb hc hog hm hne hv hv8 hcap hbs
 go_enter Tryz.func91,Tryz.ntmps91
 go_wp2_with fail
 refine (xfail_blk HB0.out).mono ?_
 rintro e w1 ⟨rfl,rfl⟩
 generalize w.setCell ⟨p,1,none⟩ (.int .i64 0)=W1 at HB1 HS1 HM1 ⊢
 go_wp2_with fail
 go_loopw [1,6,7] (fun t1 t6 t7 wr=>∃(k:Nat) (o':Nat→Nat),k≤K∧t7 = .int .i64 k∧t1 = .int .u64 ((v / 256 ^ k:Nat):Int)∧OwnS o' (c+1) wr 5 1 t6 k (bvs (le v k))∧(∀g,t6.ownBlock=some g→w.heap.size≤g)∧Blk wr p 177 #[.slice (some ⟨g,0,none⟩) bs.length cap, .int .i64 0]∧Step o (only c) w o' wr∧MarkRow wr g cap bs) (fun _ _ t7 _=>K - (intOf t7).toNat)
 case atStart=>exact ⟨0,o,Nat.zero_le _,rfl,by simp,OwnS.nil _ _ _ _ _,by simp [Value.ownBlock],HB1.out,HS1.out,HM1.out⟩
 case round =>
  obtain ⟨k,o1,hk,rfl,rfl,hown6,hblk6,hw,hst,hmr⟩:=hrel
  obtain ⟨A6,cap6,rfl,hle6,hcap6⟩:=own_form' hown6
  unfold maxLen at hcap6
  have hu:v / 256 ^ k<18446744073709551616:=Nat.lt_of_le_of_lt (Nat.div_le_self _ _) HV8.out
  have HNX:=Lib.hid (show v / 256 ^ (k+1)=v / 256 ^ k / 256 by rw [Nat.pow_succ,Nat.div_div_eq_div_mul])
  have HSN:=Lib.hid (show le v (k+1)=le v k ++ [UInt8.ofNat (v / 256 ^ k)] from rfl)
  have HZ4:=Lib.hid (show k=K→v / 256 ^ k=0 from fun e=>by rw [e];exact Nat.div_eq_of_lt HV0.out)
  generalize v / 256 ^ k=u at hu HNX HSN HZ4
  have HO6:=Lib.hid hown6
  have HB6:=Lib.hid hblk6
  have HWK:=Lib.hid hw
  have HST:=Lib.hid hst
  have HMR:=Lib.hid hmr
  clear hown6 hblk6 hw hst hmr
  by_cases hlt:k<K
  ·have hltI:(k:Int)<(K:Int):=by omega
   have HU:=Lib.hid hu
   clear hu
   go_wp2_with (at_builtin;refine wpList_append_S _ rfl (.tmp 23) (.tmp 27) 84 rfl 5 i0 _ 1 1 Tryz.underlying84 hi0 hz0 hz1 hz2 rfl (by omega) (.slice A6 k cap6) k (bvs (le v k)) rfl (HO6.out.alloc _) (some ⟨wr.heap.size,0,none⟩) 1 1 [.int .u8 ((u:Int) % 256)] rfl (Reads.newAt wr 5 1 1 [.int .u8 ((u:Int) % 256)] #[.int .u8 ((u:Int) % 256)] wr.heap.size rfl rfl rfl) (by simp [Value.oneCell']) (by unfold maxLen;omega) (by omega) ?_;intro v2 w2 hown hst hg hat;have HO2:=Lib.hid hown;have HS2:=Lib.hid hst;have HG2:=Lib.hid hg;have HA2:=Lib.hid hat;clear hown hst hg hat)
   go_roundw
   case rel =>
    have hbv:bvs (le v k) ++ [.int .u8 ((u:Int) % 256)]=bvs (le v (k+1)):=by
     rw [HSN.out,bvs_app]
     simp [bvs,bv]
    have hst0:=HST.out.size
    have hs9:=(HST.out.alloc (.cells #[.int .u8 ((u:Int) % 256)] 5)).grownNew (c+1) HG2.out HB6.out
    refine ⟨k+1,_,by omega,by go_num,by rw [HNX.out,IntKind.wrap_u64];have h9:=HU.out;congr 1;omega,by rw [←hbv];exact HO2.out,?_,(HWK.out.alloc _).step HS2.out (by rw [HST.out.old p HPL.out,HC.out];unfold only;omega),hs9,HMR.out.same ?_⟩
    ·intro g hg
     rcases HA2.out with h2 | h2
     ·exact HB6.out g (h2▸hg)
     ·rw [h2] at hg
      injection hg with hg
      simp at hg
      omega
    ·have h1:(wr.alloc (.cells #[.int .u8 ((u:Int) % 256)] 5)).heap[g]? = wr.heap[g]? := Below.heap_alloc _ _ _ HMR.out.lt
     refine (HS2.out.block g (by have:=HMR.out.lt;simp;omega) ?_).trans h1
     rw [HST.out.old g HM.out.lt,HOG.out]
     unfold only
     omega
   case measure=>simp [intOf];omega
  ·have hltI:¬(k:Int)<(K:Int):=by omega
   obtain rfl:k=K:=by omega
   obtain rfl:u=0:=HZ4.out rfl
   obtain ⟨ax,rfl,hrx⟩:=(Reads.of_own HO6.out.1).2 (by omega)
   have HRX:=Lib.hid hrx
   have y0:wr.cell? ⟨p,0,none⟩=some (.slice (some ⟨g,0,none⟩) bs.length cap):=HWK.out.cell 0
   have y1:wr.cell? ⟨p,1,none⟩=some (.int .i64 0):=HWK.out.cell 1
   have f0:=HWK.out.frozen 0
   have HNEp:=Lib.hid (show bs.length+k≤100008 by have:=HBS.out;omega)
   clear hrx
   go_wp2_with (at_builtin;refine wpList_append_arg _ rfl (.tmp 39) (.tmp 40) 84 rfl 5 i0 _ 1 1 Tryz.underlying84 hi0 hz0 hz1 hz2 rfl (by omega) g 0 bs.length cap (bvs bs) rfl (by rw [bvs_len,Nat.mul_one]) (fun j u hj=>by rw [Nat.zero_add];exact HMR.out.cell j u hj) ax k cap6 (bvs (le v k)) rfl (by rw [bvs_len,le_len,Nat.mul_one]) HRX.out (bvs_one _) (fun hr j hj=>by rw [bvs_len,le_len] at hj;rw [Nat.zero_add,Nat.mul_one];exact HMR.out.spare (by omega)) (by have:=HNEp.out;unfold maxLen;omega) (by have:=HNEp.out;omega) ?_ ?_)
   ·intro hr
    have hm2:=HMR.out.put (le v k) (by rw [le_len];exact hr)
    obtain ⟨s1,s2,s3,s4⟩:=setCells_same g (bvs (le v k)) bs.length wr
    have hog:o1 g=c:=(HST.out.old g HM.out.lt).trans HOG.out
    have hs2:Step o1 (only c) wr o1 (wr.setCells g bs.length (bvs (le v k))):=⟨s1,s2,s3,by omega,fun _ _=>rfl,fun _ _=>rfl,fun j hj hn=>setCells_far (fun e=>hn (by rw [e];exact hog)) _ _ _⟩
    have hb2:Blk (wr.setCells g bs.length (bvs (le v k))) p 177 #[.slice (some ⟨g,0,none⟩) bs.length cap, .int .i64 0]:=(setCells_far (fun e=>HNE.out e.symm) _ _ _).trans HWK.out
    have HB2:=Lib.hid hb2
    have HM2:=Lib.hid hm2
    have HS2:=Lib.hid hs2
    have z0:=hb2.cell 0
    have z1:=hb2.frozen 0
    simp at z0
    clear hm2 s1 s2 s3 s4 hog hs2 hb2
    generalize wr.setCells g bs.length (bvs (le v k))=w2 at HB2 HM2 HS2 z0 z1 ⊢
    go_wp2_with fail
    first | go_end0 | refine bodyPost_ret (v := .tuple #[]) (by simp [results,Tryz.results91,go_sem]) rfl ?_
    have hcol:o1 p=c:=(HST.out.old p HPL.out).trans HC.out
    refine ⟨rfl,o1,⟨g,cap,?_,hcol,(HST.out.old g HM.out.lt).trans HOG.out,HM2.out.same (Below.heap_setCell _ _ _ _ HNE.out),HNE.out,HCAP.out⟩,(HST.out.trans HS2.out).setCell (p:=⟨p,0,none⟩) hcol _⟩
    rw [List.length_append,le_len]
    exact HB2.out.set_ 0 _
   ·intro hr v2 w2 hrow hg
    obtain ⟨g2,cap2,e2,hg2,hm2,hc2⟩:=MarkRow.of_own (bs:=bs++le v k) (by rw [bvs_app];exact hrow) (by rw [List.length_append,le_len]) (by omega)
    subst e2
    have hb2:Blk w2 p 177 #[.slice (some ⟨g,0,none⟩) bs.length cap, .int .i64 0]:=(hg.block p HWK.out.lt (by simp)).trans HWK.out
    have HB2:=Lib.hid hb2
    have HM2:=Lib.hid hm2
    have HG2:=Lib.hid hg
    have HG3:=Lib.hid hg2
    have HC2:=Lib.hid hc2
    have z0:=hb2.cell 0
    have z1:=hb2.frozen 0
    simp at z0
    clear hb2 hm2 hg hg2 hc2 hrow
    go_wp2_with fail
    first | go_end0 | refine bodyPost_ret (v := .tuple #[]) (by simp [results,Tryz.results91,go_sem]) rfl ?_
    have hs2:Step o (only c) w (band o1 wr.heap.size w2.heap.size c) w2:=HST.out.grown HG2.out (fun k e=>by cases e)
    have hcol:band o1 wr.heap.size w2.heap.size c p=c:=(hs2.old p HPL.out).trans HC.out
    have hg2p:g2≠p:=fun e=>by
     have:=HST.out.size
     have:=HPL.out
     have:=HG3.out
     omega
    have hlt2:=HM2.out.lt
    refine ⟨rfl,_,⟨g2,cap2,?_,hcol,?_,HM2.out.same (Below.heap_setCell _ _ _ _ hg2p),hg2p,HC2.out⟩,hs2.setCell (p:=⟨p,0,none⟩) hcol _⟩
    ·rw [List.length_append]
     exact HB2.out.set_ 0 _
    ·unfold band
     rw [if_pos ⟨HG3.out,hlt2⟩]
theorem sec_two (i:Im) (k:Nat) (hk:k≤1) (h:i.data.size=96):(i.data.extract (k*48) ((k+1)*48)).size=48:=by
 rw [ByteArray.size_extract]
 omega
theorem cells_cap (W:World) (s:ByteArray):(Lib.bytesCells W 5 s).size=grownCap W s.size 0 5:=by
 have h1:(s.data.map fun b=>Value.int .u8 b.toNat).size=s.size:=by simp
 have h2:=grownCap_ge W s.size 0 5
 unfold Lib.bytesCells
 rw [Array.size_append,h1,Array.size_replicate]
 omega
theorem num_fits {n v:Nat} (hn:n<4096) (hv:v<18446744073709551616):n<256 ^ 4∧v<256 ^ 8∧n<18446744073709551616:=by
 have h1:(256:Nat) ^ 4=4294967296:=by decide
 have h2:(256:Nat) ^ 8=18446744073709551616:=by decide
 rw [h1,h2]
 omega
theorem wrm_new {o:Nat→Nat} {W:World} (s:ByteArray) (hs:s.size≤1000):∃o',WrM o' 1 ((Lib.bytesWorld W 5 s).alloc (.cells #[.slice (some ⟨W.heap.size,0,none⟩) s.size (grownCap W s.size 0 5), .int .i64 0] 177)) (Lib.bytesWorld W 5 s).heap.size s.data.toList ∧
 ∀C,Step o C W o' ((Lib.bytesWorld W 5 s).alloc (.cells #[.slice (some ⟨W.heap.size,0,none⟩) s.size (grownCap W s.size 0 5), .int .i64 0] 177)):=by
 have hsz:(Lib.bytesWorld W 5 s).heap.size=W.heap.size+1:=by rw [Lib.bytesWorld_size]
 have hb:=(below_bytes W 5 s).alloc (show W.heap.size≤(Lib.bytesWorld W 5 s).heap.size by omega) (.cells #[.slice (some ⟨W.heap.size,0,none⟩) s.size (grownCap W s.size 0 5), .int .i64 0] 177)
 have hsz2:((Lib.bytesWorld W 5 s).alloc (.cells #[.slice (some ⟨W.heap.size,0,none⟩) s.size (grownCap W s.size 0 5), .int .i64 0] 177)).heap.size=W.heap.size+2:=by simp [hsz]
 refine ⟨band o W.heap.size ((Lib.bytesWorld W 5 s).alloc (.cells #[.slice (some ⟨W.heap.size,0,none⟩) s.size (grownCap W s.size 0 5), .int .i64 0] 177)).heap.size 1,⟨W.heap.size,grownCap W s.size 0 5,?_,band_in (by omega) (by omega),band_in (Nat.le_refl _) (by omega),?_,by omega,?_⟩,fun C=>Step.of_below_band o C 1 hb⟩
 ·exact Blk.new (Lib.bytesWorld W 5 s) 177 #[.slice (some ⟨W.heap.size,0,none⟩) s.size (grownCap W s.size 0 5), .int .i64 0]
 ·have h1:=MarkRow.of_bytes W s
  rw [cells_cap] at h1
  exact h1.same (Below.heap_alloc _ _ _ (by omega))
 ·exact grownCap_le_maxLen W s.size 0 5 (by unfold maxLen;omega)
def putB (i:Im):Nat→ByteArray
 | 0=>⟨#[]⟩
 | 1=>str (secL i 0)
 | _=>str (blkL i)
theorem putB_succ (i:Im) (k:Nat) (hk:k≤1):putB i (k+1)=putB i k++str (secL i k):=by
 rcases k with _ | _ | k
 ·show str (secL i 0)=⟨#[]⟩++str (secL i 0)
  apply str_ext;simp [str]
 ·show str (blkL i)=str (secL i 0)++str (secL i 1)
  rw [str_append]
  rfl
 ·omega
theorem putB_size {i:Im} (h:i.right) (k:Nat) (hk:k≤1):(putB i k).size≤64:=by
 rcases k with _ | _ | k
 ·show (0:Nat)≤64
  omega
 ·show (str (secL i 0)).size≤64
  rw [str_size,secL_len h (by omega)]
  omega
 ·omega
set_option maxRecDepth 100000 in
theorem refputblock_bad (i:Im) (hi:¬i.right) (w:World):Calls Tryz.prog 179 #[i.agg] w fun e w'=>e = .returned (.tuple #[.string ⟨#[]⟩, .int .i64 1])∧Below w.heap.size w w':=by
 have HB0:=Lib.hid ((Below.refl w.heap.size w).alloc (Nat.le_refl _) (.cells #[.int .i64 i.block, .int .u64 i.ver, .string i.data] 47))
 have HX:=Lib.hid (Blk.new w 47 #[.int .i64 i.block, .int .u64 i.ver, .string i.data])
 unfold Im.agg
 obtain ⟨b,v,d⟩:=i
 unfold Im.right at hi
 simp only at hi HB0 HX ⊢
 by_cases c0:b<0
 ·go_enter Tryz.func179,Tryz.ntmps179
  go_upto_region 1 with (fail)
  generalize w.alloc (.cells #[.int .i64 b, .int .u64 v, .string d] 47)=W at HB0 HX ⊢
  generalize w.heap.size=X at HX ⊢
  obtain ⟨z0,z1,z2⟩:=HX.out.three
  go_wp2_with fail
  go_ret2
  exact ⟨rfl,HB0.out⟩
 ·by_cases c1:4096≤b
  ·go_enter Tryz.func179,Tryz.ntmps179
   go_upto_region 1 with (fail)
   generalize w.alloc (.cells #[.int .i64 b, .int .u64 v, .string d] 47)=W at HB0 HX ⊢
   generalize w.heap.size=X at HX ⊢
   obtain ⟨z0,z1,z2⟩:=HX.out.three
   go_wp2_with fail
   go_ret2
   exact ⟨rfl,HB0.out⟩
  ·have c2:((d.size:Int) != 96)=true:=by simp;omega
   go_enter Tryz.func179,Tryz.ntmps179
   go_upto_region 1 with (fail)
   generalize w.alloc (.cells #[.int .i64 b, .int .u64 v, .string d] 47)=W at HB0 HX ⊢
   generalize w.heap.size=X at HX ⊢
   obtain ⟨z0,z1,z2⟩:=HX.out.three
   go_wp2_with fail
   go_ret2
   exact ⟨rfl,HB0.out⟩
set_option maxRecDepth 100000 in
set_option maxHeartbeats 8000000 in
theorem refputblock_ok (i:Im) (hi:i.right) (hv:i.ver<18446744073709551616) (w:World):Calls Tryz.prog 179 #[i.agg] w fun e w'=>e = .returned (.tuple #[.string (str (blkL i)), .int .i64 0])∧Below w.heap.size w w':=by
 have HE0:=Lib.hid (show Env (fun _=>0) w (w.alloc (.cells #[.int .i64 i.block, .int .u64 i.ver, .string i.data] 47)) from (Env.start w).alloc _)
 have HX:=Lib.hid (Keep.new (show Fut (fun _=>0) w from fun _ _=>rfl) 47 #[.int .i64 i.block, .int .u64 i.ver, .string i.data])
 have HF0:=Lib.hid (show Fut (fun _=>0) (w.alloc (.cells #[.int .i64 i.block, .int .u64 i.ver, .string i.data] 47)) from fun _ _=>rfl)
 unfold Im.agg
 have HI:=Lib.hid hi
 have HBL:=Lib.hid (show blkL i=secL i 0++secL i 1 from rfl)
 have HST:=Lib.hid (fun (k:Nat) (hk:k≤1)=>show ((i.data.extract (k*48) ((k+1)*48)).size=48)∧secL i k=stampL ((i.data.extract (k*48) ((k+1)*48)).data.toList++le i.block.toNat 4++le i.ver 8) 64∧(secT i k).length=60 from ⟨sec_two i k hk hi.2.2,by unfold secL secT;rw [List.append_assoc],secT_len hi hk⟩)
 obtain ⟨s0,hs0⟩:∃s,secL i 0=s:=⟨_,rfl⟩
 obtain ⟨b,v,d⟩:=i
 obtain ⟨r0,r1,r2⟩:=hi
 simp only at r0 r1 r2 hv HE0 HX HF0 HST ⊢
 obtain ⟨n,rfl⟩:∃n:Nat,b=n:=⟨b.toNat,by omega⟩
 have c2:((d.size:Int) != 96)=false:=by simp;omega
 have r2I:(d.size:Int)=96:=by omega
 have cv:IntKind.u64.wrap (n:Int)=(n:Int):=by rw [IntKind.wrap_u64];omega
 go_enter Tryz.func179,Tryz.ntmps179
 go_upto_region 1 with (fail)
 generalize w.alloc (.cells #[.int .i64 (n:Int), .int .u64 v, .string d] 47)=W at HE0 HX HF0 ⊢
 generalize w.heap.size=X at HX ⊢
 have HPRE:=Lib.hid (show putB ⟨(n:Int),v,d⟩ 2=str (blkL ⟨(n:Int),v,d⟩) from rfl)
 have HPR1:=Lib.hid (fun (k:Nat) (hk:k≤1)=>putB_succ ⟨(n:Int),v,d⟩ k hk)
 have HPRS:=Lib.hid (fun (k:Nat) (hk:k≤1)=>putB_size (i:=⟨(n:Int),v,d⟩) HI.out k hk)
 clear hs0
 have x0:=HX.out.1.three.1
 have x2:=HX.out.1.three.2.2
 go_wp2_with fail
 clear x0 x2
 go_loopw [4,5] (fun t4 t5 wr=>∃(k:Nat) (o1:Nat→Nat),k≤2∧t5 = .int .i64 k∧t4 = .string (putB ⟨(n:Int),v,d⟩ k)∧Env o1 w wr∧Keep o1 wr X 47 #[.int .i64 (n:Int), .int .u64 v, .string d]∧Fut o1 wr) (fun _ t5 _=>2 - (intOf t5).toNat)
 case atStart=>exact ⟨0,_,by omega,rfl,rfl,HE0.out,HX.out,HF0.out⟩
 case round =>
  obtain ⟨k,o1,hk,rfl,rfl,he,hx,hf⟩:=hrel
  by_cases hlt:k<2
  ·have hltI:(k:Int)<2:=by omega
   have HKL:=Lib.hid hlt
   obtain ⟨lo,hlo⟩:∃lo,k*48=lo:=⟨_,rfl⟩
   obtain ⟨hi',hhi⟩:∃hi',(k+1)*48=hi':=⟨_,rfl⟩
   have e2:IntKind.i64.wrap (48*(k:Int))=(lo:Int):=by rw [IntWalk.i64_in _ (by omega)];omega
   have e3:IntKind.i64.wrap ((lo:Int)+48)=(hi':Int):=by rw [IntWalk.i64_in _ (by omega)];omega
   have b0:(0:Int)≤(lo:Int):=by omega
   have b1:(lo:Int)≤(hi':Int):=by omega
   have b2:(hi':Int)≤(d.size:Int):=by omega
   obtain ⟨hs1,hs2,hs3⟩:=HST.out k (by omega)
   rw [hlo,hhi] at hs1 hs2
   have HPS:=Lib.hid (HPR1.out k (by omega))
   have hps:=HPRS.out k (by omega)
   obtain ⟨PB,hPB⟩:∃b,putB ⟨(n:Int),v,d⟩ k=b:=⟨_,rfl⟩
   rw [hPB] at HPS hps ⊢
   obtain ⟨S,hS⟩:∃S,d.extract lo hi'=S:=⟨_,rfl⟩
   have HS1:=Lib.hid (show S.size=48 by rw [←hS];exact hs1)
   have HS2:=Lib.hid (show secL ⟨(n:Int),v,d⟩ k=stampL (S.data.toList++le n 4++le v 8) 64 by rw [←hS];exact hs2)
   obtain ⟨o2,hw2,hst2⟩:=wrm_new (o:=o1) (W:=wr) S (by rw [HS1.out];omega)
   have HW2:=Lib.hid hw2
   have HE2:=Lib.hid (he.step (hst2 (fun _=>False)) id)
   have HX2:=Lib.hid (hx.step (hst2 (fun _=>False)) id)
   have HF2:=Lib.hid (hf.step (hst2 (fun _=>False)))
   have hcv:=fun w=>Lib.run_convert_string_bytes (P:=Tryz.prog) w 9 84 5 S Tryz.underlying9 Tryz.underlying84 Tryz.underlying5
   have x2:=hx.1.three.2.2
   have HPSZ:=Lib.hid hps
   have HPB:=Lib.hid hPB
   clear hs1 hs2 hs3 hlo hhi he hx hf hw2 hst2 hps hPB
   go_upto_region 8 with (fail)
   clear hcv x2 e2 e3 b0 b1 b2
   generalize ((Lib.bytesWorld wr 5 S).alloc (.cells #[.slice (some ⟨wr.heap.size,0,none⟩) S.size (grownCap wr S.size 0 5), .int .i64 0] 177))=W2 at HW2 HE2 HX2 HF2 ⊢
   generalize (Lib.bytesWorld wr 5 S).heap.size=PW at HW2 ⊢
   have HL0:=Lib.hid (show S.data.toList.length=48 from HS1.out)
   have HN:=Lib.hid (num_fits (n:=n) (v:=v) (by omega) hv)
   have HV:=Lib.hid hv
   obtain ⟨z0,z1,z2⟩:=HX2.out.1.three
   go_wp2_with fail
   refine (xnum_m HW2.out (by rw [HL0.out];omega) n 4 (by omega) (by omega) HN.out.1 HN.out.2.2).mono ?_
   rintro e w3 ⟨rfl,o3,hw3,hs3⟩
   have HW3:=Lib.hid hw3
   have HE3:=Lib.hid (HE2.out.step hs3 (by unfold only;omega))
   have HX3:=Lib.hid (HX2.out.step hs3 (by unfold only;omega))
   have HF3:=Lib.hid (HF2.out.step hs3)
   clear hw3 hs3 z0 z1 z2
   obtain ⟨z0,z1,z2⟩:=HX3.out.1.three
   go_wp2_with fail
   refine (xnum_m HW3.out (by rw [List.length_append,le_len,HL0.out];omega) v 8 (by omega) (by omega) HN.out.2.1 HV.out).mono ?_
   rintro e w4 ⟨rfl,o4,hw4,hs4⟩
   have HE4:=Lib.hid (HE3.out.step hs4 (by unfold only;omega))
   have HX4:=Lib.hid (HX3.out.step hs4 (by unfold only;omega))
   have HF4:=Lib.hid (HF3.out.step hs4)
   obtain ⟨g4,cap4,hb4,_,_,hm4,_,_⟩:=hw4
   obtain ⟨BS,hBS⟩:∃l,S.data.toList++le n 4++le v 8=l:=⟨_,rfl⟩
   rw [hBS] at hb4 hm4 HS2
   have HBL2:=Lib.hid (show (str BS).size≤60 by rw [str_size,←hBS,List.length_append,List.length_append,le_len,le_len,HL0.out];omega)
   have hcv:(convert 84 9 (.slice (some ⟨g4,0,none⟩) BS.length cap4)).run Tryz.prog w4 = .ok (.string (str BS)) w4:=by
    refine run_convert_bytes_back w4 84 9 5 ⟨g4,0,none⟩ cap4 BS Tryz.underlying84 Tryz.underlying5 Tryz.underlying9 (fun j hj => ?_)
    rw [show (⟨g4,0,none⟩:Addr).add j=⟨g4,j,none⟩ by unfold Addr.add;split <;> simp_all]
    refine hm4.cell j _ ?_
    simp [bvs,bv,List.getElem?_eq_getElem hj]
   have y0:w4.cell? ⟨PW,0,none⟩=some (.slice (some ⟨g4,0,none⟩) BS.length cap4):=hb4.cell 0
   clear hs4 z0 z1 z2 hb4 hm4 hBS
   go_wp2_with fail
   refine (xstamp_any (str BS) HBL2.out w4).mono ?_
   rintro e w5 ⟨rfl,hb5⟩
   have HE5:=Lib.hid (HE4.out.below_ hb5)
   have HX5:=Lib.hid (HX4.out.below_ hb5)
   have HF5:=Lib.hid (HF4.out.below hb5)
   clear hb5 hcv y0
   rw [str_list,←HS2.out]
   have hsz9:¬9223372036854775807<PB.size+(str (secL ⟨(n:Int),v,d⟩ k)).size:=by rw [str_size,secL_len HI.out (by have:=HKL.out;omega)];have:=HPSZ.out;omega
   obtain ⟨Q,hQ⟩:∃Q,str (secL ⟨(n:Int),v,d⟩ k)=Q:=⟨_,rfl⟩
   rw [hQ] at HPS hsz9 ⊢
   go_wp2_with fail
   go_roundw
   case rel=>exact ⟨k+1,o4,by have:=HKL.out;omega,by go_num,by rw [HPS.out],HE5.out,HX5.out,HF5.out⟩
   case measure=>have:=HKL.out;simp [intOf];omega
  ·have hltI:¬(k:Int)<2:=by omega
   obtain rfl:k=2:=by omega
   rw [HPRE.out]
   go_wp2_with fail
   go_ret2
   exact ⟨rfl,he.low⟩
end Go.Proofs.YtldoeodkeieejaaGreatDoor
