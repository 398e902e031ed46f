import Derived.Test.YtohgabdmmbngbaaGreatDoorKRecA
import Derived.Test.YtohgabdmmbngbaaGreatDoorKPlanP
import Derived.Test.YtohgabdmmbngbaaGreatDoorKDiskF
import Derived.Test.YtohgabdmmbngbaaGreatDoorKBlkD
import Derived.ArgAppend
import Derived.Lib.SlBytesConst
set_option linter.unusedVariables false
set_option linter.unusedSimpArgs false
namespace Go.Proofs.YtohgabdmmbngbaaGreatDoor
open Go.RowKit
theorem made_zer (n:Nat):(madeCells #[.int .u8 0] (n*1)).toList=bvs (zer n):=by
 unfold madeCells
 rw [Nat.mul_one,Array.toList_map,Array.toList_range]
 have e:∀l:List Nat,l.map (fun x:Nat=>(#[Value.int .u8 0])[x % (#[Value.int .u8 0]).size]!)=List.replicate l.length (Value.int .u8 0):=by
  intro l
  induction l with
  | nil=>rfl
  | cons a l ih =>
    rw [List.map_cons,ih,List.length_cons,List.replicate_succ]
    have:a % (#[Value.int IntKind.u8 0]).size=0:=Nat.mod_one a
    rw [this]
    rfl
 rw [e,List.length_range]
 unfold bvs zer
 rw [List.map_replicate]
 rfl
theorem mkbytes (w:World) (n:Nat) (hn:n≤100000):∃w',(Instr.makeSlice 151 (.int .i64 (n:Int)) (.int .i64 (n:Int))).run Tryz.prog w = .ok (.slice (some ⟨w.heap.size,0,none⟩) n n) w' ∧
 w'.ownsRow w.heap.size 5 1 (.slice (some ⟨w.heap.size,0,none⟩) n n) n (bvs (zer n))∧Below w.heap.size w w'∧(convert 151 9 (.slice (some ⟨w.heap.size,0,none⟩) n n)).run Tryz.prog w' = .ok (.string (str (zer n))) w':=by
 obtain ⟨i0,hi,hz0,hz1,hz2⟩:=info_parts info_u8
 obtain ⟨w',h1,h2,h3⟩:=run_makeSlice_full (w:=w) w.heap.size 151 5 i0 _ 1 Tryz.underlying151 hi hz0 hz1 .i64 .i64 n (by omega) (by rw [hz2];omega) (by unfold maxLen;omega) (Nat.le_refl _)
 have h2':w'.ownsRow w.heap.size 5 1 (.slice (some ⟨w.heap.size,0,none⟩) n n) n (bvs (zer n)):=by
  rw [←made_zer n]
  exact h2
 refine ⟨w',h1,h2',⟨h3.os,h3.tape,h3.output,h3.size,fun k hk=>h3.block k hk (by simp)⟩,?_⟩
 have h4:OwnS (fun _=>0) 0 w' 5 1 (.slice (some ⟨w.heap.size,0,none⟩) (zer n).length n) (zer n).length (bvs (zer n)):=by
  rw [zer_len]
  exact own_from h2' (fun _ _=>rfl)
 have:=conv_own 151 9 Tryz.underlying151 Tryz.underlying5 Tryz.underlying9 h4
 rw [zer_len] at this
 exact this
theorem xval' (s:ByteArray) (v:Nat) (hv:sumOf s.data.toList=v) (w:World) (hs:s.size≤maxLen) :
 Calls Tryz.prog 186 #[.string s] w fun e w'=>e = .returned (.int .u32 (v:Int))∧w=w':=hv▸xsum_any s w hs
set_option maxRecDepth 100000 in
set_option maxHeartbeats 2000000 in
theorem xstamp_any (s:ByteArray) (hs:s.size≤60) (w:World):Calls Tryz.prog 126 #[.string s, .int .i64 64] w fun e w'=>e = .returned (.tuple #[.string (str (stampL s.data.toList 64)), .int .i64 0])∧Below w.heap.size w w':=by
 obtain ⟨n,hn⟩:∃n,60 - s.size=n:=⟨_,rfl⟩
 obtain ⟨w',h1,_,h3,h4⟩:=mkbytes w n (by omega)
 have hI:¬(60:Int)<(s.size:Int):=by omega
 have e1:IntKind.i64.wrap 60=60:=by rw [IntKind.wrap_i64];decide
 have e2:IntKind.i64.wrap (60 - (s.size:Int))=(n:Int):=by rw [IntWalk.i64_in _ (by omega)];omega
 obtain ⟨T,hT⟩:∃T,s++str (zer n)=T:=⟨_,rfl⟩
 have hTS:T.size=60:=by rw [←hT,ByteArray.size_append,str_size,zer_len];omega
 have hTL:T.data.toList=padL s.data.toList 64:=by
  rw [←hT]
  have h5:=str_append s.data.toList (zer n)
  rw [str_of] at h5
  rw [h5,str_list]
  unfold padL
  have:s.data.toList.length=s.size:=rfl
  rw [this,←hn]
 have hcat:¬9223372036854775807<s.size+(str (zer n)).size:=by rw [str_size,zer_len];omega
 obtain ⟨Z,hZ⟩:∃Z,str (zer n)=Z:=⟨_,rfl⟩
 rw [hZ] at hT hcat h4
 have HB:=Lib.hid h3
 have HTS:=Lib.hid (show T.size≤maxLen by unfold maxLen;omega)
 obtain ⟨v,hv⟩:∃v,sumOf T.data.toList=v:=⟨_,rfl⟩
 have HV:=Lib.hid hv
 have HVL:=Lib.hid (show v<4294967296 by rw [←hv];exact sumOf_lt _)
 have HR:=Lib.hid (show T++str (four v)=str (stampL s.data.toList 64) by
  have h5:=str_append T.data.toList (four v)
  rw [str_of] at h5
  rw [h5,←hv,hTL]
  rfl)
 have h4s:(str (four v)).size=4:=by rw [str_size];simp [four,le_len]
 have hcat2:¬9223372036854775807<T.size+(str (four v)).size:=by rw [h4s];omega
 obtain ⟨Q,hQ⟩:∃Q,str (four v)=Q:=⟨_,rfl⟩
 rw [hQ] at HR hcat2
 have HQ:=Lib.hid hQ
 clear h3 hTS hTL hZ hv h4s hQ hs
 go_enter Tryz.func126,Tryz.ntmps126
 go_wp2_with fail
 refine (xval' T v HV.out _ HTS.out).mono ?_
 rintro e w2 ⟨rfl,rfl⟩
 go_wp2_with fail
 refine (xfour_any v HVL.out _).mono ?_
 rintro e w3 ⟨rfl,hb3⟩
 rw [HQ.out]
 have HB3:=Lib.hid (HB.out.trans (hb3.mono HB.out.size))
 clear hb3
 go_wp2_with fail
 go_ret2
 exact ⟨by rw [←HR.out];rfl,HB3.out⟩
set_option maxRecDepth 100000 in
set_option maxHeartbeats 2000000 in
theorem refvalid_any (w:World):Calls Tryz.prog 119 #[.agg #[.int .i64 3, .int .i64 12, .int .i64 12, .int .i64 6, .int .i64 32]] w fun e w'=>e = .returned (.bool true)∧Below w.heap.size w w':=by
 have HB:=Lib.hid ((Below.refl w.heap.size w).alloc (Nat.le_refl _) (.cells #[.int .i64 3, .int .i64 12, .int .i64 12, .int .i64 6, .int .i64 32] 25))
 obtain ⟨x0,x1,x2,x3,x4⟩:=(Blk.new w 25 #[.int .i64 3, .int .i64 12, .int .i64 12, .int .i64 6, .int .i64 32]).five
 go_enter Tryz.func119,Tryz.ntmps119
 go_wp2_with fail
 go_ret
 exact ⟨rfl,HB.out⟩
set_option maxRecDepth 100000 in
set_option maxHeartbeats 2000000 in
theorem refsize_any (w:World):Calls Tryz.prog 63 #[.agg #[.int .i64 3, .int .i64 12, .int .i64 12, .int .i64 6, .int .i64 32]] w fun e w'=>e = .returned (.int .i64 61)∧Below w.heap.size w w':=by
 have HB:=Lib.hid ((Below.refl w.heap.size w).alloc (Nat.le_refl _) (.cells #[.int .i64 3, .int .i64 12, .int .i64 12, .int .i64 6, .int .i64 32] 25))
 have HK:=Lib.hid (Blk.new w 25 #[.int .i64 3, .int .i64 12, .int .i64 12, .int .i64 6, .int .i64 32])
 have e1:IntKind.i64.wrap 36=36:=by rw [IntKind.wrap_i64];decide
 have e2:IntKind.i64.wrap 37=37:=by rw [IntKind.wrap_i64];decide
 have e3:IntKind.i64.wrap 24=24:=by rw [IntKind.wrap_i64];decide
 have e4:IntKind.i64.wrap 61=61:=by rw [IntKind.wrap_i64];decide
 go_enter Tryz.func63,Tryz.ntmps63
 obtain ⟨z0,z1,z2,z3,z4⟩:=HK.out.five
 go_wp2_with fail
 refine (refvalid_any _).mono ?_
 rintro e w1 ⟨rfl,hb1⟩
 have HB1:=Lib.hid (HB.out.trans (hb1.mono HB.out.size))
 obtain ⟨x0,x1,x2,x3,x4⟩:=(HK.out.below_ hb1).five
 clear hb1 z0 z1 z2 z3 z4
 go_wp2_with fail
 go_ret
 exact ⟨rfl,HB1.out⟩
def bs8 : List UInt8 := [67,79,77,77,79,78,83,49]
theorem xfail_blk {p:Nat} {V:Value} {w:World} (hb:Blk w p 182 #[V, .int .i64 0]):Calls Tryz.prog 184 #[.pointer (some ⟨p,0,none⟩), .int .i64 0] w fun r w'=>r = .returned (.bool false)∧w'=w.setCell ⟨p,1,none⟩ (.int .i64 0):=by
 have x1:w.cell? ⟨p,1,none⟩=some (.int .i64 0):=hb.cell 1
 have f1:=hb.frozen 1
 clear hb
 go_enter Tryz.func184,Tryz.ntmps184
 go_wp2
 go_ret
 exact ⟨rfl,rfl⟩
set_option maxRecDepth 100000 in
set_option maxHeartbeats 2000000 in
theorem xnum_first {o:Nat→Nat} {c p g:Nat} {w:World} (hb:Blk w p 182 #[.slice (some ⟨g,0,none⟩) 8 8, .int .i64 0]) (hc:o p=c) (hgl:g<w.heap.size) (hog:o g≠c) (hrd:∀j u,(bvs bs8)[j]? = some u→w.cell? ((⟨g,0,none⟩:Addr).add j)=some u) (v:Nat) (hv:v<4294967296) :
 Calls Tryz.prog 125 #[.pointer (some ⟨p,0,none⟩), .int .u64 v, .int .i64 4] w fun r w'=>r = .returned (.tuple #[])∧∃o',WrAt 182 o' c w' p ⟨bs8++le v 4,0⟩∧Step o (only c) w o' w':=by
 obtain ⟨i0,hi0,hz0,hz1,hz2⟩:=info_parts info_u8
 have HB0:=Lib.hid hb
 have HC:=Lib.hid hc
 have HGL:=Lib.hid hgl
 have HOG:=Lib.hid hog
 have HRD:=Lib.hid hrd
 have HV0:=Lib.hid hv
 have HB1:=Lib.hid (hb.set_ 1 (.int .i64 0))
 have HS1:=Lib.hid ((Step.refl o (only c) w).setCell (p:=⟨p,1,none⟩) hc (.int .i64 0))
 have HPL:=Lib.hid hb.lt
 clear hb hc hgl hog hrd hv
 go_enter Tryz.func125,Tryz.ntmps125
 go_wp2_with fail
 refine (xfail_blk HB0.out).mono ?_
 rintro e w1 ⟨rfl,rfl⟩
 generalize w.setCell ⟨p,1,none⟩ (.int .i64 0)=W1 at HB1 HS1 ⊢
 go_wp2_with fail
 go_loopw [1,6,7] (fun t1 t6 t7 wr=>∃(k:Nat) (o':Nat→Nat),k≤4∧t7 = .int .i64 k∧t1 = .int .u64 ((v / 256 ^ k:Nat):Int)∧OwnS o' (c+1) wr 5 1 t6 k (bvs (le v k))∧(∀g,t6.ownBlock=some g→w.heap.size≤g)∧Blk wr p 182 #[.slice (some ⟨g,0,none⟩) 8 8, .int .i64 0]∧Step o (only c) w o' wr) (fun _ _ t7 _=>4 - (intOf t7).toNat)
 case atStart=>exact ⟨0,o,Nat.zero_le _,rfl,by simp,OwnS.nil _ _ _ _ _,by simp [Value.ownBlock],HB1.out,HS1.out⟩
 case round =>
  obtain ⟨k,o1,hk,rfl,rfl,hown6,hblk6,hw,hst⟩:=hrel
  obtain ⟨A6,cap6,rfl,hle6,hcap6⟩:=own_form' hown6
  unfold maxLen at hcap6
  have hu:v / 256 ^ k<18446744073709551616:=Nat.lt_of_le_of_lt (Nat.div_le_self _ _) (by have:=HV0.out;omega)
  have HNX:=Lib.hid (show v / 256 ^ (k+1)=v / 256 ^ k / 256 by rw [Nat.pow_succ,Nat.div_div_eq_div_mul])
  have HSN:=Lib.hid (show le v (k+1)=le v k ++ [UInt8.ofNat (v / 256 ^ k)] from rfl)
  have HZ4:=Lib.hid (show k=4→v / 256 ^ k=0 from fun e=>by rw [e];exact Nat.div_eq_of_lt HV0.out)
  generalize v / 256 ^ k=u at hu HNX HSN HZ4
  have HO6:=Lib.hid hown6
  have HB6:=Lib.hid hblk6
  have HWK:=Lib.hid hw
  have HST:=Lib.hid hst
  clear hown6 hblk6 hw hst
  by_cases hlt:k<4
  ·have hltI:(k:Int)<4:=by omega
   have HU:=Lib.hid hu
   clear hu
   go_wp2_with (at_builtin;refine wpList_append_S _ rfl (.tmp 23) (.tmp 27) 151 rfl 5 i0 _ 1 1 Tryz.underlying151 hi0 hz0 hz1 hz2 rfl (by omega) (.slice A6 k cap6) k (bvs (le v k)) rfl (HO6.out.alloc _) (some ⟨wr.heap.size,0,none⟩) 1 1 [.int .u8 ((u:Int) % 256)] rfl (Reads.newAt wr 5 1 1 [.int .u8 ((u:Int) % 256)] #[.int .u8 ((u:Int) % 256)] wr.heap.size rfl rfl rfl) (by simp [Value.oneCell']) (by unfold maxLen;omega) (by omega) ?_;intro v2 w2 hown hst hg hat;have HO2:=Lib.hid hown;have HS2:=Lib.hid hst;have HG2:=Lib.hid hg;have HA2:=Lib.hid hat;clear hown hst hg hat)
   go_roundw
   case rel =>
    have hbv:bvs (le v k) ++ [.int .u8 ((u:Int) % 256)]=bvs (le v (k+1)):=by
     rw [HSN.out,bvs_app]
     simp [bvs,bv]
    have hst0:=HST.out.size
    refine ⟨k+1,_,by omega,by go_num,by rw [HNX.out,IntKind.wrap_u64];have h9:=HU.out;congr 1;omega,by rw [←hbv];exact HO2.out,?_,(HWK.out.alloc _).step HS2.out (by rw [HST.out.old p HPL.out,HC.out];unfold only;omega),(HST.out.alloc _).grownNew (c+1) HG2.out HB6.out⟩
    intro g hg
    rcases HA2.out with h2 | h2
    ·exact HB6.out g (h2▸hg)
    ·rw [h2] at hg
     injection hg with hg
     simp at hg
     omega
   case measure=>simp [intOf];omega
  ·have hltI:¬(k:Int)<4:=by omega
   obtain rfl:k=4:=by omega
   obtain rfl:u=0:=HZ4.out rfl
   have hbg:wr.heap[g]? = w.heap[g]? := HST.out.block g HGL.out HOG.out
   have HCL:=Lib.hid (show ∀b,some (⟨g,0,none⟩:Addr)=some b→∀j u,(bvs bs8)[j]? = some u→wr.cell? (b.add j)=some u from fun b e j u hj=>by
    injection e with e
    subst e
    have h1:wr.cell? ((⟨g,0,none⟩:Addr).add j)=w.cell? ((⟨g,0,none⟩:Addr).add j):=World.cell?_of_block (by rw [block_of_add];exact hbg)
    exact h1.trans (HRD.out j u hj))
   obtain ⟨ax,rfl,hrx⟩:=(Reads.of_own HO6.out.1).2 (by omega)
   have HRX:=Lib.hid hrx
   have y0:wr.cell? ⟨p,0,none⟩=some (.slice (some ⟨g,0,none⟩) 8 8):=HWK.out.cell 0
   have y1:wr.cell? ⟨p,1,none⟩=some (.int .i64 0):=HWK.out.cell 1
   have f0:=HWK.out.frozen 0
   clear hbg hrx
   go_wp2_with (at_builtin;refine wpList_append_grows _ rfl (.tmp 39) (.tmp 40) 151 rfl 5 i0 _ 1 1 Tryz.underlying151 hi0 hz0 hz1 hz2 rfl (by omega) (some ⟨g,0,none⟩) 8 8 (bvs bs8) rfl (fun e=>by cases e) rfl HCL.out ax 4 cap6 (bvs (le v 4)) rfl (by rw [bvs_len,le_len]) HRX.out (bvs_one _) (by omega) (by unfold maxLen;omega) (by omega) ?_;intro v2 w2 hrow hg;obtain ⟨A2,cap2,rfl,_,_⟩:=own_form' (own_band (o:=o1) (c:=c) hrow);have hb2:Blk w2 p 182 #[.slice (some ⟨g,0,none⟩) 8 8, .int .i64 0]:=(hg.block p HWK.out.lt (by simp)).trans HWK.out;have z0:=hb2.cell 0;have z1:=hb2.frozen 0;simp at z0;have HRW:=Lib.hid hrow;have HG2:=Lib.hid hg;have HB2:=Lib.hid hb2;clear hrow hg hb2)
   first | go_end0 | refine bodyPost_ret (v := .tuple #[]) (by simp [results,Tryz.results125,go_sem]) rfl ?_
   have hs2:Step o (only c) w (band o1 wr.heap.size w2.heap.size c) w2:=HST.out.grown HG2.out (fun k e=>by cases e)
   have hcol:band o1 wr.heap.size w2.heap.size c p=c:=(hs2.old p HPL.out).trans HC.out
   have hll:(bs8++le v 4).length=8+4:=by rw [List.length_append,le_len];rfl
   have ho2:=own_band (o:=o1) (c:=c) HRW.out
   have h4:=WrAt.setB (W:=⟨bs8,0⟩) (l:=bs8++le v 4) HB2.out hcol (by decide) (by rw [hll,bvs_app];exact ho2)
   refine ⟨rfl,_,?_,hs2.setCell (p:=⟨p,0,none⟩) hcol _⟩
   rw [hll] at h4
   exact h4
end Go.Proofs.YtohgabdmmbngbaaGreatDoor
