import Derived.Test.YtohgabdmmbngbaaGreatDoorKImapD
import Derived.Test.YtohgabdmmbngbaaGreatDoorKSortK
namespace Go.Proofs.YtohgabdmmbngbaaGreatDoor
open Go.RowKit
def piecesL (p s:Sp):List Sp:=if (meetR p s).2=true then [⟨p.a,s.a⟩,⟨s.b,p.b⟩] else [p]
theorem okB_true {s:Sp} (h:s.ok) : [s].filter okB = [s]:=by
 rw [List.filter_cons,if_pos (okB_iff.2 h)]
 rfl
theorem pieces_ok {p s:Sp} (hp:p.ok):(piecesL p s).filter okB=minus1 p s:=by
 unfold piecesL minus1
 cases h:(meetR p s).2 with
 | true =>
   rw [if_pos rfl,if_neg (by simp)]
   congr 1
 | false =>
   rw [if_neg (by simp),if_pos rfl]
   exact okB_true hp
theorem pieces_apart {p s:Sp} (hs:s.ok):((piecesL p s).filter okB).Pairwise (fun x y=>x.b<y.a):=by
 refine List.Pairwise.filter _ ?_
 unfold piecesL
 split
 ·refine List.Pairwise.cons ?_ (List.pairwise_singleton _ _)
  intro y hy
  rw [List.mem_singleton.1 hy]
  exact hs.2
 ·exact List.pairwise_singleton _ _
theorem Reads.spanR {w:World} {A:Option Addr} {l:List Sp} (h:Reads w 2 A l.length (spcells l)) {k:Nat} {y:Sp} (hy:l[k]? = some y) :
 ∃ad,A=some ad∧w.cell? (ad.add (k*2))=some (.int .i64 y.a)∧w.cell? ⟨(ad.add (k*2)).block,(ad.add (k*2)).off+1,none⟩=some (.int .i64 y.b):=by
 obtain ⟨ad,rfl,hc⟩:=Reads.row (f:=Sp.cells) (fun _=>rfl) h hy
 exact ⟨ad,rfl,hc 0 _ rfl,hc 1 _ rfl⟩
theorem add_zero2' (ad:Addr):ad.add (0*2)=ad:=by unfold Addr.add;simp
section
variable {w:World}
theorem spmeets_any (s t:Sp):Calls Tryz.prog 285 #[.agg #[.int .i64 s.a, .int .i64 s.b], .agg #[.int .i64 t.a, .int .i64 t.b]] w fun e w'=>e = .returned (.bool (meetR s t).2)∧Below w.heap.size w w':=by
 have b1:=(Below.refl w.heap.size w).alloc (Nat.le_refl _) (.cells #[.int .i64 s.a, .int .i64 s.b] 45)
 have HB0:=Lib.hid (b1.alloc b1.size (.cells #[.int .i64 t.a, .int .i64 t.b] 45))
 clear b1
 go_enter Tryz.func285,Tryz.ntmps285
 go_wp2_with fail
 refine (spmeet_any s t _).mono ?_
 rintro e w1 ⟨rfl,hb⟩
 have hb1:=HB0.out.trans (hb.mono HB0.out.size)
 have HB:=Lib.hid hb1
 obtain ⟨⟨⟨ma,mb⟩,mv⟩,hm⟩:∃N,meetR s t=N:=⟨_,rfl⟩
 have HM:=Lib.hid hm
 rw [hm]
 simp only
 have HB2:=Lib.hid (hb1.alloc hb1.size (.cells #[.int .i64 ma, .int .i64 mb] 45))
 clear hb hm hb1
 go_wp2_with fail
 go_ret
 exact ⟨by rw [HM.out];first | done | rfl,HB2.out⟩
set_option maxRecDepth 100000 in
set_option maxHeartbeats 4000000 in
theorem spminus_one {o:Nat→Nat} {c c2:Nat} (p s:Sp) (hp:p.ok) (hs:s.ok) (A B:Option Addr) (ca cb:Nat) (ha:OwnS o c w 45 2 (.slice A 1 ca) 1 (spcells [p])) (hb:OwnS o c2 w 45 2 (.slice B 1 cb) 1 (spcells [s])) :
 Calls Tryz.prog 261 #[.slice A 1 ca, .slice B 1 cb] w fun e w'=>∃D cap',e = .returned (.slice D (minus1 p s).length cap')∧w'.ownsRow w.heap.size 45 2 (.slice D (minus1 p s).length cap') (minus1 p s).length (spcells (minus1 p s))∧Below w.heap.size w w':=by
 obtain ⟨i0,hi,hz0,hz1,hz2⟩:=info_parts info_sp
 have hN1:=spnorm_apart (w:=w) ha rfl (by omega) (by rw [okB_true hp];exact List.pairwise_singleton _ _)
 rw [okB_true hp] at hN1
 have HN1:=Lib.hid hN1
 have HB:=Lib.hid hb
 have HPC:=Lib.hid (pieces_ok (s:=s) hp)
 have HPA:=Lib.hid (pieces_apart (p:=p) hs)
 have HOS:=Lib.hid (okB_true hs)
 have HPD:=Lib.hid (show piecesL p s=if (meetR p s).2=true then [⟨p.a,s.a⟩,⟨s.b,p.b⟩] else [p] from rfl)
 have HML:=Lib.hid (show (piecesL p s).length≤2 by unfold piecesL;split <;> simp)
 obtain ⟨L,hL⟩:∃L,piecesL p s=L:=⟨_,rfl⟩
 obtain ⟨R,hR⟩:∃R,minus1 p s=R:=⟨_,rfl⟩
 rw [hL] at HPC HPA HPD HML
 rw [hR] at HPC ⊢
 clear hN1 ha hb hp hs hL hR
 go_enter Tryz.func261,Tryz.ntmps261
 go_wp2_with fail
 refine HN1.out.mono ?_
 rintro e w1 ⟨D1,cap1,rfl,hr1,hb1⟩
 have HR1:=Lib.hid hr1
 have HB1:=Lib.hid hb1
 go_wp2_with fail
 have hN2:=spnorm_apart (w:=w1) (HB.out.below_ hb1) rfl (by omega) (by rw [HOS.out];exact List.pairwise_singleton _ _)
 rw [HOS.out] at hN2
 refine hN2.mono ?_
 clear hN2 hr1 hb1
 rintro e w2 ⟨D2,cap2,rfl,hr2,hb2⟩
 have HR1b:=Lib.hid (Reads.of_own (ownsRow_less (ownsRow_below HR1.out hb2) (Nat.zero_le _)))
 have HR2:=Lib.hid (Reads.of_own (ownsRow_less hr2 (Nat.zero_le _)))
 have HB2:=Lib.hid (HB1.out.trans (hb2.mono HB1.out.size))
 clear hr2 hb2
 go_wp2_with fail
 go_loopg [5,16] 1 (fun n t5 t16 wr=>∃i:Nat,n+i=1∧t16 = .int .i64 (i:Nat)∧(i=0→wr=w2∧t5 = .slice D1 1 cap1)∧(i=1→∃D cap,t5 = .slice D R.length cap∧wr.ownsRow w.heap.size 45 2 (.slice D R.length cap) R.length (spcells R)∧Below w.heap.size w wr))
 case atStart=>exact ⟨0,by omega,rfl,fun _=>⟨rfl,rfl⟩,fun h=>absurd h (by omega)⟩
 case round =>
  obtain ⟨i,hni,rfl,h0,h1⟩:=hrel
  have HNI:=Lib.hid hni
  clear hni
  by_cases hz:i=0
  ·subst hz
   obtain ⟨rfl,rfl⟩:=h0 rfl
   clear h0 h1
   obtain ⟨ad,rfl,x0,x1⟩:=HR2.out.spanR (l := [s]) (k:=0) (y:=s) rfl
   rw [add_zero2'] at x0 x1
   have HK:=Lib.hid (Blk.new wr 45 #[.int .i64 s.a, .int .i64 s.b])
   have HR3:=Lib.hid (HR1b.out.low (by omega) ((Below.refl _ _).alloc (Nat.le_refl _) (.cells #[.int .i64 s.a, .int .i64 s.b] 45)))
   have HE:=Lib.hid ((Env.start w).below_ HB2.out |>.alloc (.cells #[.int .i64 s.a, .int .i64 s.b] 45))
   go_upto_region 5 with (fail)
   generalize wr.alloc (.cells #[.int .i64 s.a, .int .i64 s.b] 45)=W1 at HK HR3 HE ⊢
   generalize wr.heap.size=X at HK ⊢
   clear x0 x1
   go_wp2_with fail
   go_loopg [8,22] 1 (fun n t8 t22 wi=>∃j:Nat,n+j=1∧t22 = .int .i64 (j:Nat)∧(j=0→wi=W1∧t8 = .slice none 0 0)∧(j=1→∃D cap oL,t8 = .slice D L.length cap∧OwnS oL 1 wi 45 2 (.slice D L.length cap) L.length (spcells L)∧Env oL w wi))
   case atStart=>exact ⟨0,by omega,rfl,fun _=>⟨rfl,rfl⟩,fun h=>absurd h (by omega)⟩
   case round =>
    obtain ⟨j,hnj,rfl,h0,h1⟩:=hrel
    have HNJ:=Lib.hid hnj
    clear hnj
    by_cases hz:j=0
    ·subst hz
     obtain ⟨rfl,rfl⟩:=h0 rfl
     clear h0 h1
     obtain ⟨bd,rfl,x0,x1⟩:=HR3.out.spanR (l := [p]) (k:=0) (y:=p) rfl
     rw [add_zero2'] at x0 x1
     have HQ:=Lib.hid (Blk.new wr 45 #[.int .i64 p.a, .int .i64 p.b])
     have HK2:=Lib.hid (HK.out.alloc (.cells #[.int .i64 p.a, .int .i64 p.b] 45))
     have HE2:=Lib.hid (HE.out.alloc (.cells #[.int .i64 p.a, .int .i64 p.b] 45))
     go_upto_region 9 with (fail)
     generalize wr.alloc (.cells #[.int .i64 p.a, .int .i64 p.b] 45)=W2 at HQ HK2 HE2 ⊢
     generalize wr.heap.size=Y at HQ ⊢
     clear x0 x1
     obtain ⟨y0,y1⟩:=HK2.out.pair
     obtain ⟨z0,z1⟩:=HQ.out.pair
     go_wp2_with fail
     refine (spmeets_any p s).mono ?_
     rintro e w5 ⟨rfl,hb5⟩
     obtain ⟨mv,hm⟩:∃mv,(meetR p s).2=mv:=⟨_,rfl⟩
     rw [hm] at HPD ⊢
     have HE5:=Lib.hid (HE2.out.below_ hb5)
     have HK5:=Lib.hid (HK2.out.below_ hb5)
     have HQ5:=Lib.hid (HQ.out.below_ hb5)
     clear hm hb5 y0 y1 z0 z1 HE2 HK2 HQ
     obtain ⟨y0,y1⟩:=HK5.out.pair
     obtain ⟨z0,z1⟩:=HQ5.out.pair
     cases mv with
     | false =>
       have HLQ:=Lib.hid (show L = [p] by rw [HPD.out];simp)
       have HE6:=Lib.hid (HE5.out.alloc (.cells #[.int .i64 p.a, .int .i64 p.b] 45))
       go_wp2_with (at_builtin;refine wpList_append_S _ rfl (.tmp 30) (.tmp 32) 320 rfl 45 i0 _ 2 16 Tryz.underlying320 hi hz0 hz1 hz2 rfl (by omega) (.slice none 0 0) 0 [] rfl (OwnS.nil (fun _=>0) 1 _ _ _) (some ⟨w5.heap.size,0,none⟩) 1 1 [.int .i64 p.a, .int .i64 p.b] rfl (Reads.newAt w5 45 2 1 _ #[.int .i64 p.a, .int .i64 p.b] _ rfl rfl rfl) (by simp [Value.oneCell']) (by unfold maxLen;omega) (by omega) ?_;intro v7 w7 hown7 hst7 hgr7 hat7;obtain ⟨A7,cap7,rfl,_,_⟩:=own_form' hown7;have HW7:=Lib.hid hown7;have HE7:=Lib.hid (HE6.out.step hst7 (by unfold only;omega));clear hown7 hst7 hgr7 hat7)
       go_roundg 0
       case measure=>have:=HNJ.out;omega
       case rel=>exact ⟨1,by omega,by go_num,fun h=>absurd h (by omega),fun _=>⟨A7,cap7,_,by rw [HLQ.out];rfl,by rw [HLQ.out];exact HW7.out,HE7.out⟩⟩
     | true =>
       have HLQ:=Lib.hid (show L = [⟨p.a,s.a⟩,⟨s.b,p.b⟩] by rw [HPD.out];simp)
       have HE6:=Lib.hid (HE5.out.alloc (.cells #[.int .i64 p.a, .int .i64 s.a, .int .i64 s.b, .int .i64 p.b] 45))
       go_wp2_with (at_builtin;refine wpList_append_S _ rfl (.tmp 34) (.tmp 45) 320 rfl 45 i0 _ 2 16 Tryz.underlying320 hi hz0 hz1 hz2 rfl (by omega) (.slice none 0 0) 0 [] rfl (OwnS.nil (fun _=>0) 1 _ _ _) (some ⟨w5.heap.size,0,none⟩) 2 2 [.int .i64 p.a, .int .i64 s.a, .int .i64 s.b, .int .i64 p.b] rfl (Reads.newAt w5 45 2 2 _ #[.int .i64 p.a, .int .i64 s.a, .int .i64 s.b, .int .i64 p.b] _ rfl rfl rfl) (by simp [Value.oneCell']) (by unfold maxLen;omega) (by omega) ?_;intro v7 w7 hown7 hst7 hgr7 hat7;obtain ⟨A7,cap7,rfl,_,_⟩:=own_form' hown7;have HW7:=Lib.hid hown7;have HE7:=Lib.hid (HE6.out.step hst7 (by unfold only;omega));clear hown7 hst7 hgr7 hat7)
       go_roundg 0
       case measure=>have:=HNJ.out;omega
       case rel=>exact ⟨1,by omega,by go_num,fun h=>absurd h (by omega),fun _=>⟨A7,cap7,_,by rw [HLQ.out];rfl,by rw [HLQ.out];exact HW7.out,HE7.out⟩⟩
    ·obtain rfl:j=1:=by have:=HNJ.out;omega
     obtain ⟨D,cap,oL,rfl,ho,he⟩:=h1 rfl
     have HO:=Lib.hid ho
     have HEL:=Lib.hid he
     clear h0 h1 ho he
     go_wp2_with fail
     have hN3:=spnorm_apart HO.out rfl (by have:=HML.out;omega) HPA.out
     rw [HPC.out] at hN3
     refine hN3.mono ?_
     clear hN3
     rintro e w6 ⟨D6,cap6,rfl,hr6,hb6⟩
     have HR6:=Lib.hid (ownsRow_less hr6 HEL.out.low.size)
     have HB6:=Lib.hid (HEL.out.low.trans (hb6.mono HEL.out.low.size))
     clear hr6 hb6
     go_wp2_with fail
     go_roundg 0
     case measure=>have:=HNI.out;omega
     case rel=>exact ⟨1,by omega,by go_num,fun h=>absurd h (by omega),fun _=>⟨D6,cap6,rfl,HR6.out,HB6.out⟩⟩
  ·obtain rfl:i=1:=by have:=HNI.out;omega
   obtain ⟨D,cap,rfl,hr,hbb⟩:=h1 rfl
   have HRR:=Lib.hid hr
   have HBB:=Lib.hid hbb
   clear h0 h1 hr hbb
   go_wp2_with fail
   go_ret
   exact ⟨D,cap,rfl,HRR.out,HBB.out⟩
end
def ptOf (p:Lk) (x:Sp):Lk:=⟨x.a,x.b,p.m⟩
theorem without_next {L:List Lk} {i:Nat} {p:Lk} (s:Sp) (h:L[i]? = some p):withoutL (L.take (i+1)) s=withoutL (L.take i) s++(minus1 p.sp s).map (ptOf p):=by
 unfold withoutL
 rw [List.take_add_one,h,List.flatMap_append]
 simp [ptOf]
theorem minus_len (p s:Sp):(minus1 p s).length≤2:=by
 unfold minus1
 split
 ·simp
 ·exact Nat.le_trans (List.length_filter_le _ _) (by simp)
theorem without_len (s:Sp):∀L:List Lk,(withoutL L s).length≤2*L.length
 | []=>by simp [withoutL]
 | p :: L=>by
   have h1:=without_len s L
   have h2:=minus_len p.sp s
   unfold withoutL at h1 ⊢
   rw [List.flatMap_cons,List.length_append,List.length_map,List.length_cons]
   omega
theorem map_next {p:Lk} {M:List Sp} {j:Nat} {x:Sp} (h:M[j]? = some x):(M.take (j+1)).map (ptOf p)=(M.take j).map (ptOf p) ++ [ptOf p x]:=by
 rw [List.take_add_one,h,List.map_append]
 rfl
theorem glue_nil (p:Lk):glue1 [] p = [p]:=rfl
theorem glue_no {G:List Lk} {q p:Lk} (h:¬(q.b=p.a∧q.m=p.m)):glue1 (G ++ [q]) p=G ++ [q] ++ [p]:=by
 unfold glue1
 rw [List.getLast?_concat]
 simp only
 rw [if_neg h]
theorem glue_yes {G:List Lk} {q p:Lk} (h:q.b=p.a∧q.m=p.m):glue1 (G ++ [q]) p=G ++ [⟨q.a,p.b,q.m⟩]:=by
 unfold glue1
 rw [List.getLast?_concat]
 simp only
 rw [if_pos h,List.dropLast_concat]
theorem lk_set (G:List Lk) (q:Lk) (v:Int):(lkcells (G ++ [q])).set (G.length*3+1) (.int .i64 v)=lkcells (G ++ [⟨q.a,v,q.m⟩]):=by
 have hl:(lkcells G).length=G.length*3:=flatS_len lk_size G
 rw [lkcells_app,lkcells_app,List.set_append_right _ _ (by omega),hl]
 congr 1
 rw [Nat.add_sub_cancel_left]
 rfl
theorem glue_len (G:List Lk) (p:Lk):(glue1 G p).length≤G.length+1:=by
 unfold glue1
 split
 ·split
  ·simp
  ·simp
 ·simp
theorem glueGo_len : ∀(S G:List Lk),(S.foldl glue1 G).length≤G.length+S.length
 | [],G=>by simp
 | p :: S,G=>by
   have h1:=glueGo_len S (glue1 G p)
   have h2:=glue_len G p
   rw [List.foldl_cons,List.length_cons]
   omega
section
variable {o o':Nat→Nat} {c d:Nat} {w w':World} {m:Nat} {L:List Lk}
set_option maxRecDepth 100000 in
set_option maxHeartbeats 4000000 in
theorem iwithout_any (h:ImAt o c w m L) (hw:WfP L) (hl:L.length≤100000) (s:Sp) (hs:s.ok) :
 Calls Tryz.prog 234 #[.pointer (some ⟨m,0,none⟩), .agg #[.int .i64 s.a, .int .i64 s.b]] w fun e w'=>∃D cap,e = .returned (.slice D (withoutL L s).length cap)∧w'.ownsRow w.heap.size 136 3 (.slice D (withoutL L s).length cap) (withoutL L s).length (lkcells (withoutL L s))∧Below w.heap.size w w':=by
 obtain ⟨i0,hi,hz0,hz1,hz2⟩:=info_parts info_pt
 obtain ⟨A,capA,hb,_,ho⟩:=h
 have HR:=Lib.hid (Reads.of_own ho.1)
 have HM:=Lib.hid hb
 have HL:=Lib.hid hl
 have HW:=Lib.hid hw
 have HS:=Lib.hid hs
 have hlI:(L.length:Int)≤100000:=by omega
 have HT:=Lib.hid (show withoutL (L.take L.length) s=withoutL L s by rw [List.take_length])
 have HE0:=Lib.hid (Env.start w)
 have HU0:=Lib.hid (show Fut (fun _=>0) w from fun _ _=>rfl)
 have HS0:=Lib.hid (Keep.new HU0.out 45 #[.int .i64 s.a, .int .i64 s.b])
 have HE1:=Lib.hid (HE0.out.alloc (.cells #[.int .i64 s.a, .int .i64 s.b] 45))
 have HU1:=Lib.hid (HU0.out.alloc (.cells #[.int .i64 s.a, .int .i64 s.b] 45))
 clear hb ho hl HE0 HU0 hw hs
 go_enter Tryz.func234,Tryz.ntmps234
 go_upto_region 1 with (fail)
 have x0:(w.alloc (.cells #[.int .i64 s.a, .int .i64 s.b] 45)).cell? ⟨m,0,none⟩=some (.slice A L.length capA):=(HM.out.alloc _).cell 0
 generalize w.alloc (.cells #[.int .i64 s.a, .int .i64 s.b] 45)=W0 at HS0 HE1 HU1 x0 ⊢
 generalize w.heap.size=gs at HS0 ⊢
 go_wp2_with fail
 clear x0
 go_loopg [5,15] L.length (fun n t5 t15 wr=>∃(i:Nat) (D:Option Addr) (cap:Nat) (oL:Nat→Nat),n+i=L.length∧t15 = .int .i64 (i:Nat)∧t5 = .slice D (withoutL (L.take i) s).length cap∧OwnS oL 1 wr 136 3 (.slice D (withoutL (L.take i) s).length cap) (withoutL (L.take i) s).length (lkcells (withoutL (L.take i) s))∧Keep oL wr gs 45 #[.int .i64 s.a, .int .i64 s.b]∧Env oL w wr∧Fut oL wr)
 case atStart=>exact ⟨0,none,0,fun _=>0,by omega,rfl,rfl,OwnS.nil _ _ _ _ _,HS0.out,HE1.out,HU1.out⟩
 case round =>
  obtain ⟨i,D,cap,oL,hni,rfl,rfl,ho,hk,he,hu⟩:=hrel
  have HNI:=Lib.hid hni
  have HO:=Lib.hid ho
  have HK:=Lib.hid hk
  have HE:=Lib.hid he
  have HU:=Lib.hid hu
  clear hni ho hk he hu HS0 HE1 HU1
  by_cases hlt:i<L.length
  ·have hltI:(i:Int)<(L.length:Int):=by omega
   obtain ⟨p,hp⟩:∃p,L[i]? = some p:=⟨_,List.getElem?_eq_getElem hlt⟩
   have HPN:=Lib.hid (without_next s hp)
   have HPL:=Lib.hid (show (withoutL (L.take i) s).length≤200000 from Nat.le_trans (without_len s _) (by rw [List.length_take];have:=HL.out;omega))
   have HPO:=Lib.hid (HW.out.ok p (List.mem_of_getElem? hp))
   obtain ⟨ad,rfl,x0,x1,x2⟩:=(HR.out.low (by omega) HE.out.low).lock hp
   have HP:=Lib.hid (Keep.new HU.out 136 #[.int .i64 p.a, .int .i64 p.b, .int .i64 p.m])
   have HO1:=Lib.hid (HO.out.alloc (.cells #[.int .i64 p.a, .int .i64 p.b, .int .i64 p.m] 136))
   have HE1:=Lib.hid (HE.out.alloc (.cells #[.int .i64 p.a, .int .i64 p.b, .int .i64 p.m] 136))
   have HU1:=Lib.hid (HU.out.alloc (.cells #[.int .i64 p.a, .int .i64 p.b, .int .i64 p.m] 136))
   have HK1:=Lib.hid (HK.out.alloc (.cells #[.int .i64 p.a, .int .i64 p.b, .int .i64 p.m] 136))
   clear hp HO HE HU HK
   generalize withoutL (L.take i) s=LM at HPN HPL HO1 ⊢
   go_upto_region 5 with (fail)
   generalize wr.alloc (.cells #[.int .i64 p.a, .int .i64 p.b, .int .i64 p.m] 136)=W1 at HP HO1 HE1 HU1 HK1 ⊢
   generalize wr.heap.size=P at HP ⊢
   clear x0 x1 x2
   obtain ⟨y0,y1,y2⟩:=HP.out.1.three
   obtain ⟨z0,z1⟩:=(HK1.out.1.alloc (.cells #[.int .i64 p.a, .int .i64 p.b] 45)).pair
   have HA1:=Lib.hid (OwnS.of_blk (o:=fun _=>0) (c:=0) (n:=1) (cap:=1) (xs:=spcells [p.sp]) ((Blk.new W1 45 #[.int .i64 p.a, .int .i64 p.b]).alloc (.cells #[.int .i64 s.a, .int .i64 s.b] 45)) rfl (by omega) (by unfold maxLen;omega) (size:=2) rfl rfl)
   have hz1:(W1.alloc (.cells #[.int .i64 p.a, .int .i64 p.b] 45)).heap.size=W1.heap.size+1:=by simp
   have ha2:=OwnS.of_blk (o:=fun _=>0) (c:=0) (n:=1) (cap:=1) (xs:=spcells [s]) (Blk.new (W1.alloc (.cells #[.int .i64 p.a, .int .i64 p.b] 45)) 45 #[.int .i64 s.a, .int .i64 s.b]) rfl (by omega) (by unfold maxLen;omega) (size:=2) rfl rfl
   rw [hz1] at ha2
   have HA2:=Lib.hid ha2
   have b1:=(Below.refl W1.heap.size W1).alloc (Nat.le_refl _) (.cells #[.int .i64 p.a, .int .i64 p.b] 45)
   have HB0:=Lib.hid (b1.alloc b1.size (.cells #[.int .i64 s.a, .int .i64 s.b] 45))
   clear hz1 ha2 b1
   go_wp2_with fail
   refine (spminus_one p.sp s HPO.out HS.out _ _ _ _ HA1.out HA2.out).mono ?_
   rintro e w3 ⟨D3,cap3,rfl,hr3,hb3⟩
   have hb4:=HB0.out.trans (hb3.mono HB0.out.size)
   obtain ⟨M,hM⟩:∃M,minus1 p.sp s=M:=⟨_,rfl⟩
   have HML:=Lib.hid (minus_len p.sp s)
   rw [hM] at hr3 HPN HML ⊢
   have hMI:(M.length:Int)≤2:=by have:=HML.out;omega
   have HR3:=Lib.hid (own_fut hr3 ((HU1.out.alloc _).alloc _))
   have HP3:=Lib.hid (HP.out.below_ hb4)
   have HO3:=Lib.hid (HO1.out.below_ hb4)
   have HE3:=Lib.hid (HE1.out.below_ hb4)
   have HU3:=Lib.hid (HU1.out.below hb4)
   have HK3:=Lib.hid (HK1.out.below_ hb4)
   have HT3:=Lib.hid (show LM++(M.take M.length).map (ptOf p)=withoutL (L.take (i+1)) s by rw [List.take_length,HPN.out])
   clear hb4 hb3 hr3 hM HP HO1 HE1 HU1 HK1 HA1 HA2 HB0 y0 y1 y2 z0 z1
   go_wp2_with fail
   go_loopg [5,26] M.length (fun n t5 t26 wi=>∃(j:Nat) (D:Option Addr) (cap:Nat) (oL:Nat→Nat),n+j=M.length∧t26 = .int .i64 (j:Nat)∧t5 = .slice D (LM++(M.take j).map (ptOf p)).length cap∧OwnS oL 1 wi 136 3 (.slice D (LM++(M.take j).map (ptOf p)).length cap) (LM++(M.take j).map (ptOf p)).length (lkcells (LM++(M.take j).map (ptOf p)))∧Keep oL wi P 136 #[.int .i64 p.a, .int .i64 p.b, .int .i64 p.m]∧Keep oL wi gs 45 #[.int .i64 s.a, .int .i64 s.b]∧Env oL w wi∧Fut oL wi∧OwnS oL 0 wi 45 2 (.slice D3 M.length cap3) M.length (spcells M))
   case atStart=>exact ⟨0,D,cap,oL,by omega,rfl,by simp,by simpa using HO3.out,HP3.out,HK3.out,HE3.out,HU3.out,HR3.out⟩
   case round =>
    obtain ⟨j,D9,cap9,oM,hnj,rfl,rfl,ho,hkp,hks,he,hu,hr⟩:=hrel
    have HNJ:=Lib.hid hnj
    obtain ⟨LJ,hLJ⟩:∃l,LM++(M.take j).map (ptOf p)=l:=⟨_,rfl⟩
    rw [hLJ] at ho ⊢
    have HLJ:=Lib.hid hLJ
    have HO:=Lib.hid ho
    have HKP:=Lib.hid hkp
    have HKS:=Lib.hid hks
    have HE:=Lib.hid he
    have HU:=Lib.hid hu
    have HRJ:=Lib.hid hr
    clear hnj hLJ ho hkp hks he hu hr HO3 HP3 HE3 HU3 HK3 HR3
    by_cases hlt2:j<M.length
    ·have hlt2I:(j:Int)<(M.length:Int):=by omega
     obtain ⟨x,hx⟩:∃x,M[j]? = some x:=⟨_,List.getElem?_eq_getElem hlt2⟩
     have HN:=Lib.hid (show LM++(M.take (j+1)).map (ptOf p)=LJ ++ [⟨x.a,x.b,p.m⟩] by rw [map_next hx,←List.append_assoc,HLJ.out];rfl)
     have HLE:=Lib.hid (show LJ.length≤300000 by
      rw [←HLJ.out,List.length_append,List.length_map,List.length_take]
      have h1:=HPL.out
      have h2:=HML.out
      omega)
     obtain ⟨bd,rfl,x0,x1⟩:=(Reads.of_own HRJ.out.1).spanR hx
     have HQ:=Lib.hid (Keep.new HU.out 45 #[.int .i64 x.a, .int .i64 x.b])
     have HO2:=Lib.hid (HO.out.alloc (.cells #[.int .i64 x.a, .int .i64 x.b] 45))
     have HKP2:=Lib.hid (HKP.out.alloc (.cells #[.int .i64 x.a, .int .i64 x.b] 45))
     have HKS2:=Lib.hid (HKS.out.alloc (.cells #[.int .i64 x.a, .int .i64 x.b] 45))
     have HE2:=Lib.hid (HE.out.alloc (.cells #[.int .i64 x.a, .int .i64 x.b] 45))
     have HU2:=Lib.hid (HU.out.alloc (.cells #[.int .i64 x.a, .int .i64 x.b] 45))
     have HRJ2:=Lib.hid (HRJ.out.alloc (.cells #[.int .i64 x.a, .int .i64 x.b] 45))
     clear hx HO HKP HKS HE HU HRJ
     go_upto_region 8 with (fail)
     generalize wr.alloc (.cells #[.int .i64 x.a, .int .i64 x.b] 45)=W4 at HQ HO2 HKP2 HKS2 HE2 HU2 HRJ2 ⊢
     generalize wr.heap.size=X at HQ ⊢
     clear x0 x1
     obtain ⟨y0,y1⟩:=HQ.out.1.pair
     obtain ⟨z0,z1,z2⟩:=HKP2.out.1.three
     have HO5:=Lib.hid (HO2.out.alloc (.cells #[.int .i64 x.a, .int .i64 x.b, .int .i64 p.m] 136))
     go_wp2_with (at_builtin;refine wpList_append_S _ rfl (.tmp 30) (.tmp 35) 133 rfl 136 i0 _ 3 24 Tryz.underlying133 hi hz0 hz1 hz2 rfl (by omega) (.slice D9 LJ.length cap9) LJ.length (lkcells LJ) rfl HO5.out (some ⟨W4.heap.size,0,none⟩) 1 1 [.int .i64 x.a, .int .i64 x.b, .int .i64 p.m] rfl (Reads.newAt W4 136 3 1 _ #[.int .i64 x.a, .int .i64 x.b, .int .i64 p.m] _ rfl rfl rfl) (by simp [Value.oneCell']) (by have:=HLE.out;unfold maxLen;omega) (by have:=HLE.out;omega) ?_;intro v7 w7 hown7 hst7 hgr7 hat7;obtain ⟨A7,cap7,rfl,_,_⟩:=own_form' hown7;have HW7:=Lib.hid hown7;have HS7:=Lib.hid (((Step.refl oM (fun _=>False) W4).alloc (.cells #[.int .i64 x.a, .int .i64 x.b, .int .i64 p.m] 136)).mono (fun _ h=>h.elim:∀y,False→only 1 y) |>.trans hst7);clear hown7 hst7 hgr7 hat7)
     go_roundg (M.length - (j+1))
     case measure=>have:=HNJ.out;omega
     case rel=>exact ⟨j+1,A7,cap7,_,by omega,by go_num,by rw [HN.out,@List.length_append _ LJ _];rfl,by rw [HN.out,@List.length_append _ LJ _,lkcells_app LJ];exact HW7.out,HKP2.out.step HS7.out (by unfold only;omega),HKS2.out.step HS7.out (by unfold only;omega),HE2.out.step HS7.out (by unfold only;omega),HU2.out.step HS7.out,HRJ2.out.step HS7.out (by unfold only;omega)⟩
    ·have hlt2I:¬(j:Int)<(M.length:Int):=by omega
     obtain rfl:j=M.length:=by have:=HNJ.out;omega
     have HYY:=Lib.hid (HLJ.out.symm.trans HT3.out)
     rw [HYY.out] at HO ⊢
     go_wp2_with fail
     go_roundg (L.length - (i+1))
     case measure=>have:=HNI.out;omega
     case rel=>exact ⟨i+1,D9,cap9,oM,by omega,by go_num,rfl,HO.out,HKS.out,HE.out,HU.out⟩
  ·have hltI:¬(i:Int)<(L.length:Int):=by omega
   obtain rfl:i=L.length:=by have:=HNI.out;omega
   rw [HT.out] at HO ⊢
   go_wp2_with fail
   go_ret
   exact ⟨D,cap,rfl,own_new HE.out HO.out (by decide),HE.out.low⟩
end
theorem blk1_set {w:World} {m:Nat} {t:TypeId} {a:Value} (h:Blk w m t #[a]) (b:Value):Blk (w.setCell ⟨m,0,none⟩ b) m t #[b]:=h.set_ 0 b
theorem ilay_glued {o oL:Nat→Nat} {c d:Nat} {w V:World} {m gd:Nat} {A:Option Addr} {cap9 N cap:Nat} {G:List Lk} {q:Lk} {src:List Value} (hb:Blk V m 175 #[.slice (some ⟨gd,0,none⟩) (G.length+1) cap9]) (_hm:oL m=c)
 (ho:OwnS oL c V 136 3 (.slice (some ⟨gd,0,none⟩) (G.length+1) cap9) (G.length+1) (lkcells (G ++ [q]))) (hs:OwnS oL d V 136 3 (.slice A N cap) N src) (hst:Step o (fun x=>x=c∨x=d) w oL V) (hcd:c≠d) (v:Int) :
 Blk (V.setCell ⟨gd,G.length*3+1,none⟩ (.int .i64 v)) m 175 #[.slice (some ⟨gd,0,none⟩) (G.length+1) cap9]∧OwnS oL c (V.setCell ⟨gd,G.length*3+1,none⟩ (.int .i64 v)) 136 3 (.slice (some ⟨gd,0,none⟩) (G.length+1) cap9) (G.length+1) (lkcells (G ++ [⟨q.a,v,q.m⟩])) ∧
  OwnS oL d (V.setCell ⟨gd,G.length*3+1,none⟩ (.int .i64 v)) 136 3 (.slice A N cap) N src∧Step o (fun x=>x=c∨x=d) w oL (V.setCell ⟨gd,G.length*3+1,none⟩ (.int .i64 v)):=by
 have hg:oL gd=c:=ho.2 gd rfl
 have hs1:Step oL (only c) V oL (V.setCell ⟨gd,G.length*3+1,none⟩ (.int .i64 v)):=(Step.refl oL (only c) V).setCell (p:=⟨gd,G.length*3+1,none⟩) hg _
 refine ⟨hb.far (fun e=>own_blk_ne ho hb (by decide) (by rw [e];rfl)) _,?_,hs.step hs1 (by unfold only;omega),hst.trans (hs1.mono (fun x h => .inl h))⟩
 rw [←lk_set]
 exact ho.put1 (by omega) _
theorem ilay_stored {o oL oM:Nat→Nat} {c d:Nat} {w V w5:World} {m:Nat} {u:Value} {A1 A:Option Addr} {n cap1 N cap:Nat} {xs src:List Value} (hb:Blk w5 m 175 #[u]) (hm:oM m=c)
 (ho:OwnS oM c w5 136 3 (.slice A1 n cap1) n xs) (hs:OwnS oL d V 136 3 (.slice A N cap) N src) (hst:Step o (fun x=>x=c∨x=d) w oL V) (hk:Step oL (only c) V oM w5) (hcd:c≠d) :
 Blk (w5.setCell ⟨m,0,none⟩ (.slice A1 n cap1)) m 175 #[.slice A1 n cap1]∧oM m=c∧OwnS oM c (w5.setCell ⟨m,0,none⟩ (.slice A1 n cap1)) 136 3 (.slice A1 n cap1) n xs ∧
  OwnS oM d (w5.setCell ⟨m,0,none⟩ (.slice A1 n cap1)) 136 3 (.slice A N cap) N src∧Step o (fun x=>x=c∨x=d) w oM (w5.setCell ⟨m,0,none⟩ (.slice A1 n cap1)):=by
 have hs5:=hs.step hk (by unfold only;omega)
 exact ⟨blk1_set hb _,hm,ho.setCell (p:=⟨m,0,none⟩) (own_blk_ne ho hb (by decide)) _,hs5.setCell (p:=⟨m,0,none⟩) (own_blk_ne hs5 hb (by decide)) _,
  (hst.trans (hk.mono (fun x h => .inl h))).setCell (p:=⟨m,0,none⟩) (.inl hm) _⟩
def two (c d:Nat):Nat→Prop:=fun x=>x=c∨x=d
section
variable {o o':Nat→Nat} {c d:Nat} {w w':World} {m:Nat} {L:List Lk}
set_option maxRecDepth 100000 in
set_option maxHeartbeats 4000000 in
theorem ilay_any {old:Value} (hm:Blk w m 175 #[old]) (hmc:o m=c) {l:List Lk} {A:Option Addr} {n cap:Nat} (hl:OwnS o d w 136 3 (.slice A n cap) n (lkcells l)) (hn:l.length=n) (ha:Apart l) (hcd:c≠d) (hnn:n≤300000) :
 Calls Tryz.prog 233 #[.pointer (some ⟨m,0,none⟩), .slice A n cap] w fun e w'=>e = .returned (.tuple #[])∧∃o',ImAt o' c w' m (layL l)∧Step o (two c d) w o' w':=by
 obtain ⟨i0,hi,hz0,hz1,hz2⟩:=info_parts info_pt
 have HSO:=Lib.hid (sortparts_any hl hn (by omega) ha)
 have HM:=Lib.hid hm
 have HMC:=Lib.hid hmc
 have HCD:=Lib.hid hcd
 have hSl:(sortP l).length=n:=by rw [←hn];exact (sort_perm l).length_eq
 have HLY:=Lib.hid (show layL l=(sortP l).foldl glue1 [] from rfl)
 obtain ⟨S,hS⟩:∃S,sortP l=S:=⟨_,rfl⟩
 rw [hS] at HSO HLY hSl
 subst hSl
 obtain ⟨R,hR⟩:∃R,layL l=R:=⟨_,rfl⟩
 rw [hR] at HLY ⊢
 have HLL:=Lib.hid (show ∀i,((S.take i).foldl glue1 []).length≤300000 from fun i=>Nat.le_trans (glueGo_len _ _) (by rw [List.length_nil,List.length_take];omega))
 have hSI:(S.length:Int)≤300000:=by omega
 clear hm hmc hl hn ha hcd hnn hS hR
 go_enter Tryz.func233,Tryz.ntmps233
 go_wp2_with fail
 refine HSO.out.mono ?_
 rintro e w1 ⟨rfl,ho1,hs1⟩
 have hm1:Blk w1 m 175 #[old]:=HM.out.step hs1 (by rw [HMC.out];exact HCD.out)
 have hc1:o m=c:=HMC.out
 have x0:=hm1.cell 0
 have f0:=hm1.frozen 0
 simp only [List.getElem?_toArray,List.getElem?_cons_zero] at x0
 have HM2:=Lib.hid (blk1_set hm1 (.slice none 0 0))
 have HO2:=Lib.hid (ho1.setCell (p:=⟨m,0,none⟩) (own_blk_ne ho1 hm1 (by decide)) (.slice none 0 0))
 have HST2:=Lib.hid ((hs1.mono (fun x h => .inr h:∀x,only d x→two c d x)).setCell (p:=⟨m,0,none⟩) (.inl hc1) (.slice none 0 0))
 clear hm1 ho1 hs1 hc1
 go_upto_region 2 with (fail)
 generalize w1.setCell ⟨m,0,none⟩ (.slice none 0 0)=W0 at HM2 HO2 HST2 ⊢
 clear x0 f0
 go_wp2_with fail
 go_loopg [14] S.length (fun n t14 wr=>∃(i:Nat) (D:Option Addr) (cap9:Nat) (oL:Nat→Nat),n+i=S.length∧t14 = .int .i64 (i:Nat)∧Blk wr m 175 #[.slice D ((S.take i).foldl glue1 []).length cap9]∧oL m=c∧OwnS oL c wr 136 3 (.slice D ((S.take i).foldl glue1 []).length cap9) ((S.take i).foldl glue1 []).length (lkcells ((S.take i).foldl glue1 []))∧OwnS oL d wr 136 3 (.slice A S.length cap) S.length (lkcells S)∧Step o (two c d) w oL wr)
 case atStart=>exact ⟨0,none,0,o,by omega,rfl,HM2.out,HMC.out,OwnS.nil _ _ _ _ _,HO2.out,HST2.out⟩
 case round =>
  obtain ⟨i,D,cap9,oL,hni,rfl,hb,hmc,ho,hsrc,hst⟩:=hrel
  have HNI:=Lib.hid hni
  have HB:=Lib.hid hb
  have HMC2:=Lib.hid hmc
  have HO:=Lib.hid ho
  have HSRC:=Lib.hid hsrc
  have HST:=Lib.hid hst
  clear hni hb hmc ho hsrc hst HM2 HO2 HST2
  by_cases hlt:i<S.length
  ·have hltI:(i:Int)<(S.length:Int):=by omega
   obtain ⟨p,hp⟩:∃p,S[i]? = some p:=⟨_,List.getElem?_eq_getElem hlt⟩
   have HNX:=Lib.hid (foldl_next (f:=glue1) (b := []) hp)
   have HLE:=Lib.hid (HLL.out i)
   obtain ⟨ad,rfl,x0,x1,x2⟩:=(Reads.of_own HSRC.out.1).lock hp
   have HP:=Lib.hid (Blk.new wr 136 #[.int .i64 p.a, .int .i64 p.b, .int .i64 p.m])
   have HB1:=Lib.hid (HB.out.alloc (.cells #[.int .i64 p.a, .int .i64 p.b, .int .i64 p.m] 136))
   have HO1:=Lib.hid (HO.out.alloc (.cells #[.int .i64 p.a, .int .i64 p.b, .int .i64 p.m] 136))
   have HSR1:=Lib.hid (HSRC.out.alloc (.cells #[.int .i64 p.a, .int .i64 p.b, .int .i64 p.m] 136))
   have HST1:=Lib.hid (HST.out.alloc (.cells #[.int .i64 p.a, .int .i64 p.b, .int .i64 p.m] 136))
   clear hp HB HO HSRC HST
   generalize (S.take i).foldl glue1 []=G at HNX HLE HB1 HO1 ⊢
   go_upto_region 5 with (fail)
   have HXM:=Lib.hid (show wr.heap.size≠m from fun e=>by
    have h1:=HP.out
    have h2:=HB1.out
    rw [e] at h1
    unfold Blk at h1 h2
    rw [h1] at h2
    injection h2 with h2
    injection h2 with _ h2
    exact absurd h2 (by decide))
   generalize wr.alloc (.cells #[.int .i64 p.a, .int .i64 p.b, .int .i64 p.m] 136)=W1 at HP HB1 HO1 HSR1 HST1 ⊢
   generalize wr.heap.size=X at HP HXM ⊢
   clear x0 x1 x2
   have c0:=HB1.out.cell 0
   simp only [List.getElem?_toArray,List.getElem?_cons_zero] at c0
   obtain ⟨y0,y1,y2⟩:=HP.out.three
   have hGI:(G.length:Int)≤300000:=by have:=HLE.out;omega
   rcases List.eq_nil_or_concat G with rfl | ⟨G',q,hGq⟩
   ·have HG:=Lib.hid (HNX.out.trans (glue_nil p))
    go_upto_region 6 with (fail)
    go_quiet (fail)
    have HPV:=Lib.hid (HP.out.drewN nq)
    have HBV:=Lib.hid (HB1.out.drewN nq)
    have HOV:=Lib.hid (HO1.out.drewN nq)
    have HSV:=Lib.hid (HSR1.out.drewN nq)
    have HTV:=Lib.hid (HST1.out.drewN nq)
    clear HP HB1 HO1 HSR1 HST1 c0 y0 y1 y2
    generalize W1.drewN nq=V at HPV HBV HOV HSV HTV ⊢
    go_wp2_with fail
    obtain ⟨y0,y1,y2⟩:=HPV.out.three
    have c0:=HBV.out.cell 0
    have c1:=(HBV.out.alloc (.cells #[.int .i64 p.a, .int .i64 p.b, .int .i64 p.m] 136)).cell 0
    simp only [List.getElem?_toArray,List.getElem?_cons_zero] at c0 c1
    have HNE:=Lib.hid (own_blk_ne HOV.out HBV.out (by decide))
    go_region_law (refine step_append_S _ rfl (.tmp 69) (.tmp 71) 133 rfl 136 i0 _ 3 24 Tryz.underlying133 hi hz0 hz1 hz2 rfl (by omega) (.slice D (([]:List Lk).length) cap9) (([]:List Lk).length) (lkcells ([])) rfl (HOV.out.alloc (.cells #[.int .i64 p.a, .int .i64 p.b, .int .i64 p.m] 136)) (some ⟨V.heap.size,0,none⟩) 1 1 [.int .i64 p.a, .int .i64 p.b, .int .i64 p.m] rfl (Reads.newAt V 136 3 1 _ #[.int .i64 p.a, .int .i64 p.b, .int .i64 p.m] _ rfl rfl rfl) (by simp [Value.oneCell']) (by unfold maxLen;omega) (by omega) ?_;intro v' w5 hown hk hg hat;have hb5:Blk w5 m 175 _:=(hg.block m (HBV.out.alloc (.cells #[.int .i64 p.a, .int .i64 p.b, .int .i64 p.m] 136)).lt (fun e=>HNE.out e.symm)).trans (HBV.out.alloc (.cells #[.int .i64 p.a, .int .i64 p.b, .int .i64 p.m] 136));have k0:=hb5.cell 0;have k1:=hb5.frozen 0;simp at k0;obtain ⟨A1,cap1,rfl,_,_⟩:=own_form' hown;have HB5:=Lib.hid hb5;clear hb5 hg hat;have HW5:=Lib.hid hown;have HK5:=Lib.hid hk;clear hown hk)
    all_goals
     have hmc5:=(HK5.out.old m (HBV.out.alloc (.cells #[.int .i64 p.a, .int .i64 p.b, .int .i64 p.m] 136)).lt).trans HMC2.out
     have HF:=Lib.hid (ilay_stored HB5.out hmc5 HW5.out (HSV.out.alloc (.cells #[.int .i64 p.a, .int .i64 p.b, .int .i64 p.m] 136)) (HTV.out.alloc (.cells #[.int .i64 p.a, .int .i64 p.b, .int .i64 p.m] 136)) HK5.out.of_drew HCD.out)
     clear hmc5 k0 k1 y0 y1 y2 c0 c1
     go_wp2_with fail
     go_roundg (S.length - (i+1))
     case measure=>have:=HNI.out;omega
     case rel=>exact ⟨i+1,A1,cap1,_,by omega,by go_num,by rw [HG.out];exact HF.out.1,HF.out.2.1,by rw [HG.out];exact HF.out.2.2.1,HF.out.2.2.2.1,HF.out.2.2.2.2⟩
   ·rw [List.concat_eq_append] at hGq
    subst hGq
    obtain ⟨gd,cur2,rfl,_⟩:=HO1.out.blk (by simp)
    have hk:(G' ++ [q]).length=G'.length+1:=by simp
    have hqt:(G' ++ [q])[G'.length]? = some q:=by simp
    have z1:W1.cell? ⟨gd,G'.length*3+1,none⟩=some (.int .i64 q.b):=HO1.out.at_ (flatS_at lk_size hqt (k:=1) rfl)
    have z2:W1.cell? ⟨gd,G'.length*3+2,none⟩=some (.int .i64 q.m):=HO1.out.at_ (flatS_at lk_size hqt (k:=2) rfl)
    rw [hk] at c0 hGI HO1 HB1 HLE
    clear hqt hk
    by_cases e1:q.b=p.a
    ·by_cases e2:q.m=p.m
     ·have HG:=Lib.hid (HNX.out.trans (glue_yes ⟨e1,e2⟩))
      have d1:(q.b == p.a)=true:=by simp [e1]
      have d2:(q.m == p.m)=true:=by simp [e2]
      clear e1 e2
      go_upto_region 6 with (fail)
      go_quiet (fail)
      have HPV:=Lib.hid (HP.out.drewN nq)
      have HBV:=Lib.hid (HB1.out.drewN nq)
      have HOV:=Lib.hid (HO1.out.drewN nq)
      have HSV:=Lib.hid (HSR1.out.drewN nq)
      have HTV:=Lib.hid (HST1.out.drewN nq)
      clear HP HB1 HO1 HSR1 HST1 c0 y0 y1 y2 z1 z2
      generalize W1.drewN nq=V at HPV HBV HOV HSV HTV ⊢
      go_wp2_with fail
      obtain ⟨y0,y1,y2⟩:=HPV.out.three
      have c0:=HBV.out.cell 0
      simp only [List.getElem?_toArray,List.getElem?_cons_zero] at c0
      obtain ⟨gd',cur3,hgd,hbd,hcd',_⟩:=HOV.out.blk (by omega)
      injection hgd with hgd
      injection hgd with hgd
      subst hgd
      have z1:V.cell? ⟨gd,G'.length*3+1,none⟩=some (.int .i64 q.b):=HOV.out.at_ (flatS_at lk_size (show (G' ++ [q])[G'.length]? = some q by simp) (k:=1) rfl)
      have f1:=hbd.frozen (G'.length*3+1)
      have HNE:=Lib.hid (own_blk_ne HOV.out HBV.out (by decide))
      have HF:=Lib.hid (ilay_glued HBV.out HMC2.out HOV.out HSV.out HTV.out HCD.out p.b)
      clear hbd hcd'
      go_region
      clear z1 f1 y0 y1 y2 c0
      go_wp2_with fail
      go_roundg (S.length - (i+1))
      case measure=>have:=HNI.out;omega
      case rel=>exact ⟨i+1,some ⟨gd,0,none⟩,cap9,oL,by omega,by go_num,by rw [HG.out,show (G' ++ [(⟨q.a,p.b,q.m⟩:Lk)]).length=G'.length+1 by simp];exact HF.out.1,HMC2.out,by rw [HG.out,show (G' ++ [(⟨q.a,p.b,q.m⟩:Lk)]).length=G'.length+1 by simp];exact HF.out.2.1,HF.out.2.2.1,HF.out.2.2.2.drew⟩
     ·have HG:=Lib.hid (HNX.out.trans (glue_no (fun h=>e2 h.2)))
      have d1:(q.b == p.a)=true:=by simp [e1]
      have d2:(q.m == p.m)=false:=by simp [e2]
      clear e1 e2
      go_upto_region 6 with (fail)
      go_quiet (fail)
      have HPV:=Lib.hid (HP.out.drewN nq)
      have HBV:=Lib.hid (HB1.out.drewN nq)
      have HOV:=Lib.hid (HO1.out.drewN nq)
      have HSV:=Lib.hid (HSR1.out.drewN nq)
      have HTV:=Lib.hid (HST1.out.drewN nq)
      clear HP HB1 HO1 HSR1 HST1 c0 y0 y1 y2 z1 z2
      generalize W1.drewN nq=V at HPV HBV HOV HSV HTV ⊢
      go_wp2_with fail
      obtain ⟨y0,y1,y2⟩:=HPV.out.three
      have c0:=HBV.out.cell 0
      have c1:=(HBV.out.alloc (.cells #[.int .i64 p.a, .int .i64 p.b, .int .i64 p.m] 136)).cell 0
      simp only [List.getElem?_toArray,List.getElem?_cons_zero] at c0 c1
      have HNE:=Lib.hid (own_blk_ne HOV.out HBV.out (by decide))
      go_region_law (refine step_append_S _ rfl (.tmp 69) (.tmp 71) 133 rfl 136 i0 _ 3 24 Tryz.underlying133 hi hz0 hz1 hz2 rfl (by omega) (.slice (some ⟨gd,0,none⟩) (G'.length+1) cap9) (G'.length+1) (lkcells (G' ++ [q])) rfl (HOV.out.alloc (.cells #[.int .i64 p.a, .int .i64 p.b, .int .i64 p.m] 136)) (some ⟨V.heap.size,0,none⟩) 1 1 [.int .i64 p.a, .int .i64 p.b, .int .i64 p.m] rfl (Reads.newAt V 136 3 1 _ #[.int .i64 p.a, .int .i64 p.b, .int .i64 p.m] _ rfl rfl rfl) (by simp [Value.oneCell']) (by unfold maxLen;omega) (by omega) ?_;intro v' w5 hown hk hg hat;have hb5:Blk w5 m 175 _:=(hg.block m (HBV.out.alloc (.cells #[.int .i64 p.a, .int .i64 p.b, .int .i64 p.m] 136)).lt (fun e=>HNE.out e.symm)).trans (HBV.out.alloc (.cells #[.int .i64 p.a, .int .i64 p.b, .int .i64 p.m] 136));have k0:=hb5.cell 0;have k1:=hb5.frozen 0;simp at k0;obtain ⟨A1,cap1,rfl,_,_⟩:=own_form' hown;have HB5:=Lib.hid hb5;clear hb5 hg hat;have HW5:=Lib.hid hown;have HK5:=Lib.hid hk;clear hown hk)
      all_goals
       have hmc5:=(HK5.out.old m (HBV.out.alloc (.cells #[.int .i64 p.a, .int .i64 p.b, .int .i64 p.m] 136)).lt).trans HMC2.out
       have HF:=Lib.hid (ilay_stored HB5.out hmc5 HW5.out (HSV.out.alloc (.cells #[.int .i64 p.a, .int .i64 p.b, .int .i64 p.m] 136)) (HTV.out.alloc (.cells #[.int .i64 p.a, .int .i64 p.b, .int .i64 p.m] 136)) HK5.out.of_drew HCD.out)
       clear hmc5 k0 k1 y0 y1 y2 c0 c1
       go_wp2_with fail
       go_roundg (S.length - (i+1))
       case measure=>have:=HNI.out;omega
       case rel=>exact ⟨i+1,A1,cap1,_,by omega,by go_num,by rw [HG.out,show (G' ++ [q] ++ [p]).length=G'.length+1+1 by simp];exact HF.out.1,HF.out.2.1,by rw [HG.out,show (G' ++ [q] ++ [p]).length=G'.length+1+1 by simp,lkcells_app (G' ++ [q])];exact HF.out.2.2.1,HF.out.2.2.2.1,HF.out.2.2.2.2⟩
    ·have HG:=Lib.hid (HNX.out.trans (glue_no (fun h=>e1 h.1)))
     have d1:(q.b == p.a)=false:=by simp [e1]
     clear e1
     go_upto_region 6 with (fail)
     go_quiet (fail)
     have HPV:=Lib.hid (HP.out.drewN nq)
     have HBV:=Lib.hid (HB1.out.drewN nq)
     have HOV:=Lib.hid (HO1.out.drewN nq)
     have HSV:=Lib.hid (HSR1.out.drewN nq)
     have HTV:=Lib.hid (HST1.out.drewN nq)
     clear HP HB1 HO1 HSR1 HST1 c0 y0 y1 y2 z1 z2
     generalize W1.drewN nq=V at HPV HBV HOV HSV HTV ⊢
     go_wp2_with fail
     obtain ⟨y0,y1,y2⟩:=HPV.out.three
     have c0:=HBV.out.cell 0
     have c1:=(HBV.out.alloc (.cells #[.int .i64 p.a, .int .i64 p.b, .int .i64 p.m] 136)).cell 0
     simp only [List.getElem?_toArray,List.getElem?_cons_zero] at c0 c1
     have HNE:=Lib.hid (own_blk_ne HOV.out HBV.out (by decide))
     go_region_law (refine step_append_S _ rfl (.tmp 69) (.tmp 71) 133 rfl 136 i0 _ 3 24 Tryz.underlying133 hi hz0 hz1 hz2 rfl (by omega) (.slice (some ⟨gd,0,none⟩) (G'.length+1) cap9) (G'.length+1) (lkcells (G' ++ [q])) rfl (HOV.out.alloc (.cells #[.int .i64 p.a, .int .i64 p.b, .int .i64 p.m] 136)) (some ⟨V.heap.size,0,none⟩) 1 1 [.int .i64 p.a, .int .i64 p.b, .int .i64 p.m] rfl (Reads.newAt V 136 3 1 _ #[.int .i64 p.a, .int .i64 p.b, .int .i64 p.m] _ rfl rfl rfl) (by simp [Value.oneCell']) (by unfold maxLen;omega) (by omega) ?_;intro v' w5 hown hk hg hat;have hb5:Blk w5 m 175 _:=(hg.block m (HBV.out.alloc (.cells #[.int .i64 p.a, .int .i64 p.b, .int .i64 p.m] 136)).lt (fun e=>HNE.out e.symm)).trans (HBV.out.alloc (.cells #[.int .i64 p.a, .int .i64 p.b, .int .i64 p.m] 136));have k0:=hb5.cell 0;have k1:=hb5.frozen 0;simp at k0;obtain ⟨A1,cap1,rfl,_,_⟩:=own_form' hown;have HB5:=Lib.hid hb5;clear hb5 hg hat;have HW5:=Lib.hid hown;have HK5:=Lib.hid hk;clear hown hk)
     all_goals
      have hmc5:=(HK5.out.old m (HBV.out.alloc (.cells #[.int .i64 p.a, .int .i64 p.b, .int .i64 p.m] 136)).lt).trans HMC2.out
      have HF:=Lib.hid (ilay_stored HB5.out hmc5 HW5.out (HSV.out.alloc (.cells #[.int .i64 p.a, .int .i64 p.b, .int .i64 p.m] 136)) (HTV.out.alloc (.cells #[.int .i64 p.a, .int .i64 p.b, .int .i64 p.m] 136)) HK5.out.of_drew HCD.out)
      clear hmc5 k0 k1 y0 y1 y2 c0 c1
      go_wp2_with fail
      go_roundg (S.length - (i+1))
      case measure=>have:=HNI.out;omega
      case rel=>exact ⟨i+1,A1,cap1,_,by omega,by go_num,by rw [HG.out,show (G' ++ [q] ++ [p]).length=G'.length+1+1 by simp];exact HF.out.1,HF.out.2.1,by rw [HG.out,show (G' ++ [q] ++ [p]).length=G'.length+1+1 by simp,lkcells_app (G' ++ [q])];exact HF.out.2.2.1,HF.out.2.2.2.1,HF.out.2.2.2.2⟩
  ·obtain rfl:i=S.length:=by have:=HNI.out;omega
   have hltI:¬(S.length:Int)<(S.length:Int):=by omega
   have HT:=Lib.hid (show (S.take S.length).foldl glue1 []=R by rw [List.take_length,HLY.out])
   go_wp2_with fail
   go_end0
   exact ⟨rfl,oL,⟨D,cap9,by rw [←HT.out];exact HB.out,HMC2.out,by rw [←HT.out];exact HO.out⟩,HST.out⟩
end
section
variable {o o':Nat→Nat} {c d:Nat} {w w':World} {m:Nat} {L:List Lk}
theorem ImAt.band (h:ImAt o c w m L) (hb:Below w.heap.size w w') (d:Nat):ImAt (band o w.heap.size w'.heap.size d) c w' m L:=h.step (Step.of_below_band o (fun _=>False) d hb) (fun h=>h)
theorem two_less {o o':Nat→Nat} {c d:Nat} {w w':World} (h:Step o (two c d) w o' w') (hd:∀k,k<w.heap.size→o k<d):Step o (only c) w o' w' :=
 h.less (fun k hk hc=>by
  rcases hc with hc | hc
  ·exact hc
  ·have:=hd k hk
   omega)
set_option maxRecDepth 100000 in
set_option maxHeartbeats 4000000 in
theorem iclear_any (h:ImAt o c w m L) (hw:WfP L) (hl:L.length≤100000) (s:Sp) (hs:s.ok) :
 Calls Tryz.prog 212 #[.pointer (some ⟨m,0,none⟩), .agg #[.int .i64 s.a, .int .i64 s.b]] w fun e w'=>e = .returned (.bool true)∧∃o',ImAt o' c w' m (clearL L s)∧Step o (only c) w o' w':=by
 obtain ⟨d,hd1,hd2⟩:=fresh_colour o w (c+1)
 have hok:decide (0≤s.a∧s.a<s.b)=true:=decide_eq_true hs
 have hlW:=Lib.hid (Nat.le_trans (without_len s L) (show 2*L.length≤200000 by omega))
 have HAP:=Lib.hid (hw.without hs).apart
 have HCL:=Lib.hid (show clearL L s=layL (withoutL L s) from rfl)
 have HS:=Lib.hid hs
 have HD:=Lib.hid hd2
 have HD1:=Lib.hid (show c≠d by omega)
 have HW:=Lib.hid hw
 have HL:=Lib.hid hl
 have HI0:=Lib.hid (h.alloc (.cells #[.int .i64 s.a, .int .i64 s.b] 45))
 have HST0:=Lib.hid ((Step.refl o (two c d) w).alloc (.cells #[.int .i64 s.a, .int .i64 s.b] 45))
 have HK0:=Lib.hid (Blk.new w 45 #[.int .i64 s.a, .int .i64 s.b])
 clear h hw hl hs hd1 hd2
 go_enter Tryz.func212,Tryz.ntmps212
 go_upto_region 1 with (fail)
 generalize w.alloc (.cells #[.int .i64 s.a, .int .i64 s.b] 45)=W0 at HI0 HST0 HK0 ⊢
 generalize w.heap.size=gs at HK0 ⊢
 obtain ⟨x0,x1⟩:=HK0.out.pair
 go_wp2_with fail
 refine (spvalid_any s.a s.b W0).mono ?_
 rintro e w1 ⟨rfl,hb1⟩
 rw [hok]
 have HI1:=Lib.hid (HI0.out.below_ hb1)
 have HST1:=Lib.hid (HST0.out.trans (Step.of_below o _ hb1))
 obtain ⟨y0,y1⟩:=(HK0.out.below_ hb1).pair
 clear hb1 x0 x1 HI0 HST0 HK0
 go_wp2_with fail
 refine (iwithout_any HI1.out HW.out HL.out s HS.out).mono ?_
 rintro e w2 ⟨D,cap,rfl,hr,hb2⟩
 have HO2:=Lib.hid (own_bandR (o:=o) (c:=d) hr)
 have HST2:=Lib.hid (HST1.out.trans (Step.of_below_band o (two c d) d hb2))
 obtain ⟨A2,cap2,hm2,hc2,_⟩:=HI1.out.band hb2 d
 generalize band o w1.heap.size w2.heap.size d=o2 at HO2 HST2 hc2
 have HM2:=Lib.hid hm2
 have HC2:=Lib.hid hc2
 clear hr hb2 hm2 hc2 y0 y1 HI1 HST1
 go_wp2_with fail
 refine (ilay_any HM2.out HC2.out HO2.out rfl HAP.out HD1.out (by have:=hlW.out;omega)).mono ?_
 rintro e w3 ⟨rfl,o3,hi3,hs3⟩
 rw [←HCL.out] at hi3
 have HF:=Lib.hid (show ∃o',ImAt o' c w3 m (clearL L s)∧Step o (only c) w o' w3 from ⟨o3,hi3,two_less (HST2.out.trans hs3) HD.out⟩)
 clear hi3 hs3
 go_wp2_with fail
 go_ret
 exact ⟨rfl,HF.out⟩
theorem iset_done {w2 w5:World} {oA oB:Nat→Nat} {s:Sp} {v:Int} {A5:Option Addr} {n5 cap5:Nat} {xs:List Value} (hI:ImAt oA c w2 m L) (hst:Step o (two c d) w oA w2) (ho:OwnS oB d w5 136 3 (.slice A5 n5 cap5) n5 xs) (hx:xs=lkcells (withoutL L s ++ [(⟨s.a,s.b,v⟩:Lk)])) (hn:(withoutL L s ++ [(⟨s.a,s.b,v⟩:Lk)]).length=n5) (hk:Step oA (only d) w2 oB w5) (hcd:c≠d) (hw:WfP L) (hs:s.ok) (hl:L.length≤100000) (hd:∀k,k<w.heap.size→o k<d) :
 Calls Tryz.prog 233 #[.pointer (some ⟨m,0,none⟩), .slice A5 n5 cap5] w5 fun e w'=>e = .returned (.tuple #[])∧∃o',ImAt o' c w' m (setL L s v)∧Step o (only c) w o' w':=by
 obtain ⟨A2,cap2,hm2,hc2,_⟩:=hI.step hk (by unfold only;omega)
 subst hx
 refine (ilay_any hm2 hc2 ho hn (Apart.more hw hs v) hcd (by
  have:=without_len s L
  rw [List.length_append] at hn
  simp at hn
  omega)).mono ?_
 rintro e w' ⟨rfl,o',h1,h2⟩
 exact ⟨rfl,o',h1,two_less (hst.trans ((hk.mono (fun x h => .inr h)).trans h2)) hd⟩
set_option maxRecDepth 100000 in
set_option maxHeartbeats 8000000 in
theorem iset_any (h:ImAt o c w m L) (hw:WfP L) (hl:L.length≤100000) (s:Sp) (hs:s.ok) (v:Int) :
 Calls Tryz.prog 202 #[.pointer (some ⟨m,0,none⟩), .agg #[.int .i64 s.a, .int .i64 s.b], .int .i64 v] w fun e w'=>e = .returned (.bool true)∧∃o',ImAt o' c w' m (setL L s v)∧Step o (only c) w o' w':=by
 obtain ⟨i0,hi,hz0,hz1,hz2⟩:=info_parts info_pt
 obtain ⟨d,hd1,hd2⟩:=fresh_colour o w (c+1)
 have hok:decide (0≤s.a∧s.a<s.b)=true:=decide_eq_true hs
 have hlW:=Lib.hid (Nat.le_trans (without_len s L) (show 2*L.length≤200000 by omega))
 have HS:=Lib.hid hs
 have HD:=Lib.hid hd2
 have HD1:=Lib.hid (show c≠d by omega)
 have HW:=Lib.hid hw
 have HL:=Lib.hid hl
 have HI0:=Lib.hid (h.alloc (.cells #[.int .i64 s.a, .int .i64 s.b] 45))
 have HST0:=Lib.hid ((Step.refl o (two c d) w).alloc (.cells #[.int .i64 s.a, .int .i64 s.b] 45))
 have HK0:=Lib.hid (Blk.new w 45 #[.int .i64 s.a, .int .i64 s.b])
 clear h hw hl hs hd1 hd2
 go_enter Tryz.func202,Tryz.ntmps202
 go_upto_region 1 with (fail)
 generalize w.alloc (.cells #[.int .i64 s.a, .int .i64 s.b] 45)=W0 at HI0 HST0 HK0 ⊢
 generalize w.heap.size=gs at HK0 ⊢
 obtain ⟨x0,x1⟩:=HK0.out.pair
 go_wp2_with fail
 refine (spvalid_any s.a s.b W0).mono ?_
 rintro e w1 ⟨rfl,hb1⟩
 rw [hok]
 have HI1:=Lib.hid (HI0.out.below_ hb1)
 have HST1:=Lib.hid (HST0.out.trans (Step.of_below o _ hb1))
 have HK1:=Lib.hid (HK0.out.below_ hb1)
 clear hb1 x0 x1 HI0 HST0 HK0
 go_upto_region 3 with (fail)
 have HIA:=Lib.hid (HI1.out.alloc (.cells #[.int .i64 s.a, .int .i64 s.b, .int .i64 v] 136))
 have HSA:=Lib.hid (HST1.out.alloc (.cells #[.int .i64 s.a, .int .i64 s.b, .int .i64 v] 136))
 have HKA:=Lib.hid (HK1.out.alloc (.cells #[.int .i64 s.a, .int .i64 s.b, .int .i64 v] 136))
 have HRA:=Lib.hid (Reads.newAt w1 136 3 1 [.int .i64 s.a, .int .i64 s.b, .int .i64 v] #[.int .i64 s.a, .int .i64 s.b, .int .i64 v] _ rfl rfl rfl)
 have HXS:=Lib.hid (show lkcells (withoutL L s) ++ [.int .i64 s.a, .int .i64 s.b, .int .i64 v]=lkcells (withoutL L s ++ [(⟨s.a,s.b,v⟩:Lk)]) by rw [lkcells_app];rfl)
 have HXN:=Lib.hid (show (withoutL L s ++ [(⟨s.a,s.b,v⟩:Lk)]).length=(withoutL L s).length+1 by simp)
 obtain ⟨y0,y1⟩:=HK1.out.pair
 obtain ⟨z0,z1⟩:=HKA.out.pair
 go_region_law (first | (go_simp;go_at_call 234;first | ((with_reducible refine (iwithout_any HI1.out.drew HW.out HL.out s HS.out).mono ?_);rintro e w2 ⟨D,cap,rfl,hr,hb2⟩;have hk2:=HK1.out.drew.below_ hb2;obtain ⟨y2,y3⟩:=hk2.pair;obtain ⟨z2,z3⟩:=(hk2.alloc (.cells #[.int .i64 s.a, .int .i64 s.b, .int .i64 v] 136)).pair;have HO2:=Lib.hid (own_bandR (o:=o) (c:=d) hr);have HI2:=Lib.hid (HI1.out.drew.band hb2 d);have HST2:=Lib.hid (HST1.out.drew.trans (Step.of_below_band o (two c d) d hb2));clear hr hb2 hk2) | ((with_reducible refine (iwithout_any HIA.out.drew HW.out HL.out s HS.out).mono ?_);rintro e w2 ⟨D,cap,rfl,hr,hb2⟩;have hk2:=HKA.out.drew.below_ hb2;obtain ⟨y2,y3⟩:=hk2.pair;have HO2:=Lib.hid (own_bandR (o:=o) (c:=d) hr);have HI2:=Lib.hid (HIA.out.drew.band hb2 d);have HST2:=Lib.hid (HSA.out.drew.trans (Step.of_below_band o (two c d) d hb2));have HRW:=Lib.hid (HRA.out.drew.low (by omega) hb2);clear hr hb2 hk2)) | (go_simp;go_at_call 233;refine HDN.out.mono ?_;rintro e w6 ⟨rfl,hf⟩;have HF:=Lib.hid hf;clear hf) | (refine step_append_S _ rfl (.tmp 17) (.tmp 21) 133 rfl 136 i0 _ 3 24 Tryz.underlying133 hi hz0 hz1 hz2 rfl (by omega) (.slice D (withoutL L s).length cap) (withoutL L s).length (lkcells (withoutL L s)) rfl (HO2.out.alloc (.cells #[.int .i64 s.a, .int .i64 s.b, .int .i64 v] 136)) (some ⟨w2.heap.size,0,none⟩) 1 1 [.int .i64 s.a, .int .i64 s.b, .int .i64 v] rfl (Reads.newAt w2 136 3 1 _ #[.int .i64 s.a, .int .i64 s.b, .int .i64 v] _ rfl rfl rfl) (by simp [Value.oneCell']) (by have:=hlW.out;unfold maxLen;omega) (by have:=hlW.out;omega) ?_;intro v' w5 hown hk hg hat;obtain ⟨A5,cap5,rfl,_,_⟩:=own_form' hown;have HDN:=Lib.hid (iset_done (HI2.out.alloc (.cells #[.int .i64 s.a, .int .i64 s.b, .int .i64 v] 136)) (HST2.out.alloc (.cells #[.int .i64 s.a, .int .i64 s.b, .int .i64 v] 136)) hown HXS.out HXN.out hk HD1.out HW.out HS.out HL.out HD.out);clear hown hk hg hat) | (refine step_append_S _ rfl (.tmp 17) (.tmp 21) 133 rfl 136 i0 _ 3 24 Tryz.underlying133 hi hz0 hz1 hz2 rfl (by omega) (.slice D (withoutL L s).length cap) (withoutL L s).length (lkcells (withoutL L s)) rfl HO2.out (some ⟨w1.heap.size,0,none⟩) 1 1 [.int .i64 s.a, .int .i64 s.b, .int .i64 v] rfl HRW.out (by simp [Value.oneCell']) (by have:=hlW.out;unfold maxLen;omega) (by have:=hlW.out;omega) ?_;intro v' w5 hown hk hg hat;obtain ⟨A5,cap5,rfl,_,_⟩:=own_form' hown;have HDN:=Lib.hid (iset_done HI2.out HST2.out hown HXS.out HXN.out hk HD1.out HW.out HS.out HL.out HD.out);clear hown hk hg hat))
 all_goals (go_wp2_with fail;go_ret;exact ⟨rfl,HF.out⟩)
end
structure WfB (L:List Lk):Prop where
 wf:WfP L
 top:∀x v,AtP L x v→x<4096
section
variable {L M:List Lk} {p:Lk} {s:Sp} {v x u:Int}
theorem WfB.b_le (h:WfB L) (hp:p∈L):p.b≤4096:=by
 have ho:0≤p.a∧p.a<p.b:=h.wf.ok p hp
 have:=h.top (p.b - 1) p.m ⟨p,hp,by omega,by omega,rfl⟩
 omega
theorem wfb_nil : WfB []:=⟨wf_nil,fun _x _v h=>absurd h atp_nil⟩
theorem len_from : ∀(L:List Lk) (a:Int),WfP L→(∀p∈L,a≤p.a)→(∀p∈L,p.b≤4096)→a≤4096→(L.length:Int)≤4096 - a
 | [],a,_,_,_,ha=>by
   simp
   omega
 | p :: L,a,h,h1,h2,_=>by
   obtain ⟨hr1,hr2⟩:=List.pairwise_cons.1 h.rise
   have hpo:0≤p.a∧p.a<p.b:=h.ok p (List.mem_cons_self ..)
   have hpa:=h1 p (List.mem_cons_self ..)
   have hpb:=h2 p (List.mem_cons_self ..)
   have:=len_from L p.b ⟨fun q hq=>h.ok q (List.mem_cons_of_mem _ hq),hr2⟩ (fun q hq=>hr1 q hq) (fun q hq=>h2 q (List.mem_cons_of_mem _ hq)) hpb
   rw [List.length_cons]
   omega
theorem WfB.len (h:WfB L):L.length≤4096:=by
 have:=len_from L 0 h.wf (fun p hp=>(h.wf.ok p hp).1) (fun p hp=>h.b_le hp) (by omega)
 omega
theorem WfB.set (h:WfB L) (hs:s.ok) (hb:s.b≤4096) (v:Int):WfB (setL L s v):=⟨h.wf.set hs v,fun x u hx=>by
 rcases (atp_set h.wf hs).1 hx with h1 | h1
 ·omega
 ·exact h.top x u h1.1⟩
theorem WfB.clear (h:WfB L) (hs:s.ok):WfB (clearL L s):=⟨h.wf.clear hs,fun x u hx=>h.top x u ((atp_clear h.wf hs).1 hx).1⟩
theorem WfB.parts (h:WfB L):WfB (partsL L s):=⟨h.wf.parts,fun x u ⟨y,hy,h1,h2,h3⟩=>by
 obtain ⟨p,hp,_,_,e1,e2,e3,_⟩:=parts_mem hy
 have:=h.b_le hp
 omega⟩
theorem part_ok (h:WfB L) (hp:p∈partsL L s):p.sp.ok∧p.b≤4096:=⟨h.parts.wf.ok p hp,h.parts.b_le hp⟩
theorem foldl_inv {α β:Type} {P:β→Prop} {f:β→α→β}:∀(l:List α) (b:β),P b→(∀b x,x∈l→P b→P (f b x))→P (l.foldl f b)
 | [],_,h,_=>h
 | x :: l,b,h,hf=>foldl_inv l (f b x) (hf b x (List.mem_cons_self ..) h) (fun b y hy hb=>hf b y (List.mem_cons_of_mem _ hy) hb)
theorem WfB.raise1 (h:WfB M) (l:Lk) (ls:List Lk) (hl:∀p∈ls,p.sp.ok∧p.b≤4096):WfB (ls.foldl (fun M p=>setL M p.sp (max p.m l.m)) M) :=
 foldl_inv ls M h (fun _b x hx hb=>hb.set (hl x hx).1 (hl x hx).2 _)
theorem WfB.raise (h:WfB L) {l:Lk} (hs:l.sp.ok) (hb:l.b≤4096):WfB (raiseL L l) :=
 (h.set hs hb l.m).raise1 l _ (fun _p hp=>part_ok h hp)
theorem wfb_asked (l:List Lk) (hl:∀x∈l,x.sp.ok∧x.b≤4096):WfB (askedL l) :=
 foldl_inv l [] wfb_nil (fun b x hx hb=>by
  split
  ·exact hb.raise (hl x hx).1 (hl x hx).2
  ·exact hb)
theorem WfB.needs1 {H:List Lk} (h:WfB M) (_hH:WfB H) (y:Lk) (ls:List Lk) (hl:∀p∈ls,p.sp.ok∧p.b≤4096):WfB (ls.foldl (fun M p=>if covB p.m y.m=true then clearL M p.sp else M) M) :=
 foldl_inv ls M h (fun b x hx hb=>by
  split
  ·exact hb.clear (hl x hx).1
  ·exact hb)
theorem WfB.needs {H:List Lk} (h:WfB M) (hH:WfB H) (ls:List Lk):WfB (ls.foldl (Go.Proofs.YtohgabdmmbngbaaGreatDoor.needs1 H) M) :=
 foldl_inv ls M h (fun _b x _ hb=>hb.needs1 hH x _ (fun _p hp=>part_ok hH hp))
end
end Go.Proofs.YtohgabdmmbngbaaGreatDoor
