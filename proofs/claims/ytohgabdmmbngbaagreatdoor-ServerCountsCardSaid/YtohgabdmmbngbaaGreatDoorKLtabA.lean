import Derived.Test.YtohgabdmmbngbaaGreatDoorKImapI
import Derived.Test.YtohgabdmmbngbaaGreatDoorKImapD
set_option linter.unusedVariables false
set_option linter.unusedSimpArgs false
namespace Go.Proofs.YtohgabdmmbngbaaGreatDoor
open Go.RowKit
theorem info_lkk : (Tryz.prog.info? 47).map (fun i=>(i.zero,i.size,i.bytes))=some (some (.agg #[.int .i64 0, .int .i64 0, .int .i64 0]),3,24):=by kernel_rfl
theorem mdjoin_any (a b:Int) (w:World):Calls Tryz.prog 203 #[.int .i64 a, .int .i64 b] w fun e w'=>e = .returned (.int .i64 (max a b))∧w'=w:=by
 go_enter Tryz.func203,Tryz.ntmps203
 go_wp2_with fail
 go_ret
 exact ⟨rfl,rfl⟩
theorem sphas_any (a b x:Int) (w:World):Calls Tryz.prog 118 #[.agg #[.int .i64 a, .int .i64 b], .int .i64 x] w fun e w'=>e = .returned (.bool (hasB ⟨a,b,0⟩ x))∧Below w.heap.size w w':=by
 have HB:=Lib.hid ((Below.refl w.heap.size w).alloc (Nat.le_refl _) (.cells #[.int .i64 a, .int .i64 b] 45))
 have HK:=Lib.hid (Blk.new w 45 #[.int .i64 a, .int .i64 b])
 by_cases h0:0≤a∧a<b
 ·have d0:=decide_eq_true h0
  by_cases h1:a≤x
  ·by_cases h2:x<b
   ·have HF:=Lib.hid (show hasB ⟨a,b,0⟩ x=true from decide_eq_true ⟨h0,h1,h2⟩)
    clear h0
    go_enter Tryz.func118,Tryz.ntmps118
    go_wp2_with fail
    refine (spvalid_any a b _).mono ?_
    rintro e w1 ⟨rfl,hb⟩
    rw [d0]
    obtain ⟨x0,x1⟩:=(HK.out.below_ hb).pair
    have HB1:=Lib.hid (HB.out.trans (hb.mono HB.out.size))
    clear hb
    go_wp2_with fail
    go_ret
    exact ⟨by rw [HF.out];first | done | rfl,HB1.out⟩
   ·have HF:=Lib.hid (show hasB ⟨a,b,0⟩ x=false from decide_eq_false (fun h=>h2 h.2.2))
    have d2:decide (x<b)=false:=decide_eq_false h2
    clear h0 h2
    go_enter Tryz.func118,Tryz.ntmps118
    go_wp2_with fail
    refine (spvalid_any a b _).mono ?_
    rintro e w1 ⟨rfl,hb⟩
    rw [d0]
    obtain ⟨x0,x1⟩:=(HK.out.below_ hb).pair
    have HB1:=Lib.hid (HB.out.trans (hb.mono HB.out.size))
    clear hb
    go_wp2_with fail
    go_ret
    exact ⟨by rw [HF.out];first | done | rfl,HB1.out⟩
  ·have HF:=Lib.hid (show hasB ⟨a,b,0⟩ x=false from decide_eq_false (fun h=>h1 h.2.1))
   clear h0
   go_enter Tryz.func118,Tryz.ntmps118
   go_wp2_with fail
   refine (spvalid_any a b _).mono ?_
   rintro e w1 ⟨rfl,hb⟩
   rw [d0]
   obtain ⟨x0,x1⟩:=(HK.out.below_ hb).pair
   have HB1:=Lib.hid (HB.out.trans (hb.mono HB.out.size))
   clear hb
   go_wp2_with fail
   go_ret
   exact ⟨by rw [HF.out];first | done | rfl,HB1.out⟩
 ·have d0:=decide_eq_false h0
  have HF:=Lib.hid (show hasB ⟨a,b,0⟩ x=false from decide_eq_false (fun h=>h0 h.1))
  clear h0
  go_enter Tryz.func118,Tryz.ntmps118
  go_wp2_with fail
  refine (spvalid_any a b _).mono ?_
  rintro e w1 ⟨rfl,hb⟩
  rw [d0]
  obtain ⟨x0,x1⟩:=(HK.out.below_ hb).pair
  have HB1:=Lib.hid (HB.out.trans (hb.mono HB.out.size))
  clear hb
  go_wp2_with fail
  go_ret
  exact ⟨by rw [HF.out];first | done | rfl,HB1.out⟩
section
variable {o o':Nat→Nat} {c d:Nat} {w w':World} {m:Nat} {L:List Lk}
theorem get_none {x:Int} {i:Nat} (h:∀p∈L.take i,hasB p x=false) (hi:L.length≤i):getP L x=none:=by
 rw [List.take_of_length_le hi] at h
 unfold getP
 rw [List.find?_eq_none.2 (fun p hp=>by rw [h p hp];exact Bool.false_ne_true)]
 rfl
theorem get_some {x:Int} {i:Nat} {p:Lk} (h:∀p∈L.take i,hasB p x=false) (hp:L[i]? = some p) (hx:hasB p x=true):getP L x=some p.m:=by
 unfold getP
 obtain ⟨hi,rfl⟩:=List.getElem?_eq_some_iff.1 hp
 have h2:L=L.take i++L[i] :: L.drop (i+1):=by rw [←List.drop_eq_getElem_cons hi,List.take_append_drop]
 have h3:L.find? (fun p=>hasB p x)=some L[i]:=by
  conv=>lhs;rw [h2]
  rw [List.find?_append,List.find?_eq_none.2 (fun p hp=>by rw [h p hp];exact Bool.false_ne_true),List.find?_cons_of_pos (p:=fun p=>hasB p x) hx]
  rfl
 rw [h3]
 rfl
set_option maxRecDepth 100000 in
set_option maxHeartbeats 2000000 in
theorem iget_any (h:ImAt o c w m L) (hl:L.length≤1000000) (x:Int) :
 Calls Tryz.prog 61 #[.pointer (some ⟨m,0,none⟩), .int .i64 x] w fun e w'=>e = .returned (.tuple #[.int .i64 ((getP L x).getD 0), .bool (getP L x).isSome])∧Below w.heap.size w w':=by
 obtain ⟨A,capA,hb,_,ho⟩:=h
 have x0:w.cell? ⟨m,0,none⟩=some (.slice A L.length capA):=hb.cell 0
 have HR:=Lib.hid (Reads.of_own ho.1)
 have hlI:(L.length:Int)≤1000000:=by omega
 clear hb ho hl
 go_enter Tryz.func61,Tryz.ntmps61
 go_wp2_with fail
 clear x0
 go_loopg [17] L.length (fun n t17 wr=>∃i:Nat,n+i=L.length∧t17 = .int .i64 (i:Nat)∧(∀p∈L.take i,hasB p x=false)∧Hid (Below w.heap.size w wr))
 case atStart=>exact ⟨0,by omega,rfl,by simp,Lib.hid (Below.refl _ _)⟩
 case round =>
  obtain ⟨i,hni,rfl,hno,HB⟩:=hrel
  have HNI:=Lib.hid hni
  have HNO:=Lib.hid hno
  clear hni hno
  by_cases hlt:i<L.length
  ·have hltI:(i:Int)<(L.length:Int):=by omega
   obtain ⟨p,hp⟩:∃p,L[i]? = some p:=⟨_,List.getElem?_eq_getElem hlt⟩
   obtain ⟨ad,rfl,x0,x1,x2⟩:=(HR.out.low (by omega) HB.out).lock hp
   have HK:=Lib.hid (Blk.new wr 136 #[.int .i64 p.a, .int .i64 p.b, .int .i64 p.m])
   have HB1:=Lib.hid (HB.out.alloc HB.out.size (.cells #[.int .i64 p.a, .int .i64 p.b, .int .i64 p.m] 136))
   have HP:=Lib.hid hp
   clear hp
   go_upto_region 7 with (fail)
   generalize wr.alloc (.cells #[.int .i64 p.a, .int .i64 p.b, .int .i64 p.m] 136)=W1 at HK HB1 ⊢
   generalize wr.heap.size=X at HK ⊢
   clear x0 x1 x2
   obtain ⟨y0,y1,y2⟩:=HK.out.three
   go_wp2_with fail
   refine (sphas_any p.a p.b x W1).mono ?_
   rintro e w2 ⟨rfl,hb2⟩
   have HB2:=Lib.hid (HB1.out.trans (hb2.mono HB1.out.size))
   obtain ⟨z0,z1,z2⟩:=(HK.out.below_ hb2).three
   clear hb2 y0 y1 y2
   obtain ⟨v,hv⟩:∃v,hasB ⟨p.a,p.b,0⟩ x=v:=⟨_,rfl⟩
   rw [hv]
   have HV:=Lib.hid (show hasB p x=v from hv)
   clear hv
   cases v with
   | true =>
     have HG:=Lib.hid (get_some HNO.out HP.out HV.out)
     go_wp2_with fail
     go_ret2
     exact ⟨by rw [HG.out];first | done | rfl,HB2.out⟩
   | false =>
     have HN2:=Lib.hid (take_no HNO.out HP.out HV.out)
     go_wp2_with fail
     go_roundg (L.length - (i+1))
     case measure=>have:=HNI.out;omega
     case rel=>exact ⟨i+1,by omega,by go_num,HN2.out,HB2⟩
  ·have hltI:¬(i:Int)<(L.length:Int):=by omega
   have HG:=Lib.hid (get_none HNO.out (by omega))
   go_wp2_with fail
   go_ret2
   exact ⟨by rw [HG.out];first | done | rfl,HB.out⟩
theorem iall_any (h:ImAt o c w m L) (hl:L.length≤1000000) :
 Calls Tryz.prog 72 #[.pointer (some ⟨m,0,none⟩)] w fun e w'=>∃D cap,e = .returned (.slice D L.length cap)∧w'.ownsRow w.heap.size 136 3 (.slice D L.length cap) L.length (lkcells L)∧Below w.heap.size w w':=by
 obtain ⟨A,capA,hb,_,ho⟩:=h
 have x0:w.cell? ⟨m,0,none⟩=some (.slice A L.length capA):=hb.cell 0
 have HO:=Lib.hid ho
 clear hb ho
 go_enter Tryz.func72,Tryz.ntmps72
 go_wp2_with fail
 refine (clone_own (P:=Tryz.prog) (ρ:=Tryz.clPt_ren) Tryz.clPt info_pt rfl (by omega) (by omega) Tryz.sizeOf136 HO.out hl (lkcells_one L)).mono ?_
 rintro e w1 ⟨D,cap,rfl,hr,hb⟩
 have HR:=Lib.hid hr
 have HB:=Lib.hid hb
 clear hr hb
 go_wp2_with fail
 go_ret
 exact ⟨D,cap,rfl,HR.out,HB.out⟩
set_option maxRecDepth 100000 in
set_option maxHeartbeats 4000000 in
theorem mdlocks_any (h:ImAt o c w m L) (hl:L.length≤1000000) :
 Calls Tryz.prog 263 #[.pointer (some ⟨m,0,none⟩)] w fun e w'=>∃D cap,e = .returned (.slice D L.length cap)∧w'.ownsRow w.heap.size 47 3 (.slice D L.length cap) L.length (lkcells L)∧Below w.heap.size w w':=by
 obtain ⟨i0,hi,hz0,hz1,hz2⟩:=info_parts info_lkk
 have HA:=Lib.hid (iall_any h hl)
 have hlI:(L.length:Int)≤1000000:=by omega
 clear h hl
 go_enter Tryz.func263,Tryz.ntmps263
 go_wp2_with fail
 refine HA.out.mono ?_
 rintro e w1 ⟨A1,cap1,rfl,hr,hb⟩
 have HR:=Lib.hid (Reads.of_own (ownsRow_less hr (Nat.zero_le _)))
 have HE0:=Lib.hid ((Env.start w).below_ hb)
 have HU0:=Lib.hid (show Fut (fun _=>0) w1 from fun _ _=>rfl)
 clear hr hb
 go_wp2_with fail
 go_loopg [3,9] L.length (fun n t3 t9 wr=>∃(i:Nat) (D:Option Addr) (cap:Nat) (oL:Nat→Nat),n+i=L.length∧t9 = .int .i64 (i:Nat)∧t3 = .slice D i cap∧OwnS oL 1 wr 47 3 (.slice D i cap) i (lkcells (L.take i))∧Env oL w wr∧Env oL w1 wr∧Fut oL wr)
 case atStart=>exact ⟨0,none,0,fun _=>0,by omega,rfl,rfl,OwnS.nil _ _ _ _ _,HE0.out,Env.start w1,HU0.out⟩
 case round =>
  obtain ⟨i,D,cap,oL,hni,rfl,rfl,ho,he,he1,hu⟩:=hrel
  have HNI:=Lib.hid hni
  have HO:=Lib.hid ho
  have HE:=Lib.hid he
  have HE1:=Lib.hid he1
  have HU:=Lib.hid hu
  clear hni ho he he1 hu
  by_cases hlt:i<L.length
  ·have hltI:(i:Int)<(L.length:Int):=by omega
   obtain ⟨p,hp⟩:∃p,L[i]? = some p:=⟨_,List.getElem?_eq_getElem hlt⟩
   have HT:=Lib.hid (show lkcells (L.take (i+1))=lkcells (L.take i) ++ [.int .i64 p.a, .int .i64 p.b, .int .i64 p.m] by
    rw [List.take_add_one,hp,lkcells_app]
    rfl)
   obtain ⟨ad,rfl,x0,x1,x2⟩:=(HR.out.low (by omega) HE1.out.low).lock hp
   have HP:=Lib.hid (Blk.new wr 136 #[.int .i64 p.a, .int .i64 p.b, .int .i64 p.m])
   have HO1:=Lib.hid (HO.out.alloc (.cells #[.int .i64 p.a, .int .i64 p.b, .int .i64 p.m] 136))
   have HEa:=Lib.hid (HE.out.alloc (.cells #[.int .i64 p.a, .int .i64 p.b, .int .i64 p.m] 136))
   have HEb:=Lib.hid (HE1.out.alloc (.cells #[.int .i64 p.a, .int .i64 p.b, .int .i64 p.m] 136))
   have HU1:=Lib.hid (HU.out.alloc (.cells #[.int .i64 p.a, .int .i64 p.b, .int .i64 p.m] 136))
   clear hp HO HE HE1 HU
   go_upto_region 5 with (fail)
   generalize wr.alloc (.cells #[.int .i64 p.a, .int .i64 p.b, .int .i64 p.m] 136)=W1 at HP HO1 HEa HEb HU1 ⊢
   generalize wr.heap.size=X at HP ⊢
   clear x0 x1 x2
   obtain ⟨y0,y1,y2⟩:=HP.out.three
   have HO5:=Lib.hid (HO1.out.alloc (.cells #[.int .i64 p.a, .int .i64 p.b, .int .i64 p.m] 47))
   go_wp2_with (at_builtin;refine wpList_append_S _ rfl (.tmp 13) (.tmp 19) 36 rfl 47 i0 _ 3 24 Tryz.underlying36 hi hz0 hz1 hz2 rfl (by omega) (.slice D i cap) i (lkcells (L.take i)) rfl HO5.out (some ⟨W1.heap.size,0,none⟩) 1 1 [.int .i64 p.a, .int .i64 p.b, .int .i64 p.m] rfl (Reads.newAt W1 47 3 1 _ #[.int .i64 p.a, .int .i64 p.b, .int .i64 p.m] _ rfl rfl rfl) (by simp [Value.oneCell']) (by unfold maxLen;omega) (by omega) ?_;intro v7 w7 hown7 hst7 hgr7 hat7;obtain ⟨A7,cap7,rfl,_,_⟩:=own_form' hown7;have HW7:=Lib.hid hown7;have HS7:=Lib.hid (((Step.refl oL (fun _=>False) W1).alloc (.cells #[.int .i64 p.a, .int .i64 p.b, .int .i64 p.m] 47)).mono (fun _ h=>h.elim:∀y,False→only 1 y) |>.trans hst7);clear hown7 hst7 hgr7 hat7)
   go_roundg (L.length - (i+1))
   case measure=>have:=HNI.out;omega
   case rel=>exact ⟨i+1,A7,cap7,_,by omega,by go_num,rfl,by rw [HT.out];exact HW7.out,HEa.out.step HS7.out (by unfold only;omega),HEb.out.step HS7.out (by unfold only;omega),HU1.out.step HS7.out⟩
  ·have hltI:¬(i:Int)<(L.length:Int):=by omega
   obtain rfl:i=L.length:=by have:=HNI.out;omega
   have HT:=Lib.hid (show L.take L.length=L from List.take_length)
   go_wp2_with fail
   go_ret
   exact ⟨D,cap,rfl,own_new HE.out (by have:=HO.out;rw [HT.out] at this;exact this) (by decide),HE.out.low⟩
end
theorem raise_next {L M:List Lk} {l p:Lk} {P:List Lk} {i:Nat} (h:P[i]? = some p):(P.take (i+1)).foldl (fun M p=>setL M p.sp (max p.m l.m)) M=setL ((P.take i).foldl (fun M p=>setL M p.sp (max p.m l.m)) M) p.sp (max p.m l.m):=foldl_next h
section
variable {o o':Nat→Nat} {c d:Nat} {w w':World} {m:Nat} {L:List Lk}
set_option maxRecDepth 100000 in
set_option maxHeartbeats 8000000 in
theorem mdraise_any (hf:Fut o w) (hc0:c≠0) (h:ImAt o c w m L) (hB:WfB L) (l:Lk) (hs:l.sp.ok) (hb:l.b≤4096) :
 Calls Tryz.prog 157 #[.pointer (some ⟨m,0,none⟩), .agg #[.int .i64 l.a, .int .i64 l.b, .int .i64 l.m]] w fun e w'=>e = .returned (.tuple #[])∧∃o',ImAt o' c w' m (raiseL L l)∧Step o (only c) w o' w':=by
 have HC0:=Lib.hid hc0
 have HB:=Lib.hid hB
 have HS:=Lib.hid hs
 have HL4:=Lib.hid hb
 have HP4:=Lib.hid (show ∀p∈partsL L l.sp,p.sp.ok∧p.b≤4096 from fun p hp=>part_ok hB hp)
 have hPL:(partsL L l.sp).length≤4096:=Nat.le_trans (parts_len _ _) hB.len
 have HRD:=Lib.hid (show raiseL L l=(partsL L l.sp).foldl (fun M p=>setL M p.sp (max p.m l.m)) (setL L l.sp l.m) from rfl)
 have HI0:=Lib.hid (h.alloc (.cells #[.int .i64 l.a, .int .i64 l.b, .int .i64 l.m] 47))
 have HK0:=Lib.hid (Keep.new hf 47 #[.int .i64 l.a, .int .i64 l.b, .int .i64 l.m])
 have HF0:=Lib.hid (hf.alloc (.cells #[.int .i64 l.a, .int .i64 l.b, .int .i64 l.m] 47))
 have HST0:=Lib.hid ((Step.refl o (only c) w).alloc (.cells #[.int .i64 l.a, .int .i64 l.b, .int .i64 l.m] 47))
 clear h hs hb hf hc0
 go_enter Tryz.func157,Tryz.ntmps157
 go_upto_region 1 with (fail)
 generalize w.alloc (.cells #[.int .i64 l.a, .int .i64 l.b, .int .i64 l.m] 47)=W0 at HI0 HK0 HF0 HST0 ⊢
 generalize w.heap.size=gl at HK0 ⊢
 obtain ⟨x0,x1,x2⟩:=HK0.out.1.three
 go_wp2_with fail
 refine (iparts_any HI0.out (by have:=HB.out.len;omega) l.sp).mono ?_
 rintro e w1 ⟨D1,cap1,rfl,hr1,hb1⟩
 have HR1:=Lib.hid (own_bandR (o:=o) (c:=c+1) hr1)
 have hsb:=Step.of_below_band o (only c) (c+1) hb1
 have HI1:=Lib.hid (HI0.out.band hb1 (c+1))
 have HK1:=Lib.hid (HK0.out.step (Step.of_below_band o (fun _=>False) (c+1) hb1) (fun h=>h))
 have HF1:=Lib.hid (HF0.out.step hsb)
 have HST1:=Lib.hid (HST0.out.trans hsb)
 obtain ⟨P,hP⟩:∃P,partsL L l.sp=P:=⟨_,rfl⟩
 rw [hP] at HP4 hPL HRD HR1 ⊢
 have hPI:(P.length:Int)≤4096:=by omega
 generalize band o W0.heap.size w1.heap.size (c+1)=o1 at HR1 HI1 HK1 HF1 HST1
 clear hr1 hb1 hsb x0 x1 x2 HI0 HK0 HF0 HST0 hP
 obtain ⟨x0,x1,x2⟩:=HK1.out.1.three
 go_wp2_with fail
 refine (iset_any HI1.out HB.out.wf (by have:=HB.out.len;omega) l.sp HS.out l.m).mono ?_
 rintro e w2 ⟨rfl,o2,hi2,hs2⟩
 have HI2:=Lib.hid hi2
 have HW2:=Lib.hid (HB.out.set HS.out HL4.out l.m)
 have HR2:=Lib.hid (HR1.out.step hs2 (by unfold only;omega))
 have HK2:=Lib.hid (HK1.out.step hs2 (by have:=HC0.out;unfold only;omega))
 have HF2:=Lib.hid (HF1.out.step hs2)
 have HST2:=Lib.hid (HST1.out.trans hs2)
 clear hi2 hs2 HI1 HR1 HK1 HF1 HST1 x0 x1 x2
 generalize setL L l.sp l.m=M0 at HRD HI2 HW2
 go_wp2_with fail
 go_loopg [19] P.length (fun n t19 wr=>∃(i:Nat) (oL:Nat→Nat),n+i=P.length∧t19 = .int .i64 (i:Nat)∧ImAt oL c wr m ((P.take i).foldl (fun M p=>setL M p.sp (max p.m l.m)) M0)∧WfB ((P.take i).foldl (fun M p=>setL M p.sp (max p.m l.m)) M0)∧OwnS oL (c+1) wr 136 3 (.slice D1 P.length cap1) P.length (lkcells P)∧Keep oL wr gl 47 #[.int .i64 l.a, .int .i64 l.b, .int .i64 l.m]∧Fut oL wr∧Step o (only c) w oL wr)
 case atStart=>exact ⟨0,o2,by omega,rfl,HI2.out,HW2.out,HR2.out,HK2.out,HF2.out,HST2.out⟩
 case round =>
  obtain ⟨i,oL,hni,rfl,hi,hw,hr,hk,hf,hst⟩:=hrel
  have HNI:=Lib.hid hni
  have HI:=Lib.hid hi
  have HW:=Lib.hid hw
  have HR:=Lib.hid hr
  have HK:=Lib.hid hk
  have HF:=Lib.hid hf
  have HST:=Lib.hid hst
  clear hni hi hw hr hk hf hst HI2 HW2 HR2 HK2 HF2 HST2
  by_cases hlt:i<P.length
  ·have hltI:(i:Int)<(P.length:Int):=by omega
   obtain ⟨p,hp⟩:∃p,P[i]? = some p:=⟨_,List.getElem?_eq_getElem hlt⟩
   have HNX:=Lib.hid (raise_next (L:=L) (l:=l) (M:=M0) hp)
   have HPO:=Lib.hid (HP4.out p (List.mem_of_getElem? hp))
   obtain ⟨ad,rfl,x0,x1,x2⟩:=(Reads.of_own HR.out.1).lock hp
   have HQ:=Lib.hid (Keep.new HF.out 136 #[.int .i64 p.a, .int .i64 p.b, .int .i64 p.m])
   have HI1:=Lib.hid (HI.out.alloc (.cells #[.int .i64 p.a, .int .i64 p.b, .int .i64 p.m] 136))
   have HR1:=Lib.hid (HR.out.alloc (.cells #[.int .i64 p.a, .int .i64 p.b, .int .i64 p.m] 136))
   have HK1:=Lib.hid (HK.out.alloc (.cells #[.int .i64 p.a, .int .i64 p.b, .int .i64 p.m] 136))
   have HF1:=Lib.hid (HF.out.alloc (.cells #[.int .i64 p.a, .int .i64 p.b, .int .i64 p.m] 136))
   have HST1:=Lib.hid (HST.out.alloc (.cells #[.int .i64 p.a, .int .i64 p.b, .int .i64 p.m] 136))
   clear hp HI HR HK HF HST
   generalize (P.take i).foldl (fun M p=>setL M p.sp (max p.m l.m)) M0=M at HNX HI1 HW ⊢
   go_upto_region 6 with (fail)
   generalize wr.alloc (.cells #[.int .i64 p.a, .int .i64 p.b, .int .i64 p.m] 136)=W1 at HQ HI1 HR1 HK1 HF1 HST1 ⊢
   generalize wr.heap.size=X at HQ ⊢
   clear x0 x1 x2
   obtain ⟨y0,y1,y2⟩:=HQ.out.1.three
   obtain ⟨z0,z1,z2⟩:=HK1.out.1.three
   go_region_law (first | (go_simp;go_at_call 203;refine (mdjoin_any _ _ _).mono ?_;rintro e w5 ⟨rfl,rfl⟩) | (go_simp;go_at_call 202;(refine (iset_any HI1.out.drew HW.out.wf (by have:=HW.out.len;omega) p.sp HPO.out.1 (max p.m l.m)).mono ?_);rintro e w5 ⟨rfl,o5,hi5,hs5⟩;have HI5:=Lib.hid hi5;have HS5:=Lib.hid hs5;clear hi5 hs5))
   all_goals
    have HR5:=Lib.hid (HR1.out.drew.step HS5.out (by unfold only;omega))
    have HK5:=Lib.hid (HK1.out.drew.step HS5.out (by have:=HC0.out;unfold only;omega))
    have HF5:=Lib.hid (HF1.out.drew.step HS5.out)
    have HT5:=Lib.hid (HST1.out.drew.trans HS5.out)
    have HW5:=Lib.hid (HW.out.set HPO.out.1 HPO.out.2 (max p.m l.m))
    clear HI1 HR1 HK1 HF1 HST1 HQ y0 y1 y2 z0 z1 z2
    go_wp2_with fail
    go_roundg (P.length - (i+1))
    case measure=>have:=HNI.out;omega
    case rel=>exact ⟨i+1,o5,by omega,by go_num,by rw [HNX.out];exact HI5.out,by rw [HNX.out];exact HW5.out,HR5.out,HK5.out,HF5.out,HT5.out⟩
  ·have hltI:¬(i:Int)<(P.length:Int):=by omega
   obtain rfl:i=P.length:=by have:=HNI.out;omega
   have HT:=Lib.hid (show (P.take P.length).foldl (fun M p=>setL M p.sp (max p.m l.m)) M0=raiseL L l by rw [List.take_length,HRD.out])
   go_wp2_with fail
   go_end0
   exact ⟨rfl,oL,by rw [←HT.out];exact HI.out,HST.out⟩
end
theorem mdcovers_any (a b:Int) (w:World):Calls Tryz.prog 264 #[.int .i64 a, .int .i64 b] w fun e w'=>e = .returned (.bool (covB a b))∧w'=w:=by
 by_cases h0:0≤a∧a≤2
 ·have d0:=decide_eq_true h0
  by_cases h1:0≤b∧b≤2
  ·have d1:=decide_eq_true h1
   obtain ⟨v,hv⟩:∃v,decide (b≤a)=v:=⟨_,rfl⟩
   have HF:=Lib.hid (show covB a b=v by
    unfold covB
    rw [←hv]
    exact decide_eq_decide.2 ⟨fun h=>h.2.2,fun h=>⟨h0,h1,h⟩⟩)
   clear h0 h1
   go_enter Tryz.func264,Tryz.ntmps264
   go_wp2_with fail
   refine (mdvalid_any a w).mono ?_
   rintro e w1 ⟨rfl,rfl⟩
   rw [d0]
   go_wp2_with fail
   refine (mdvalid_any b w).mono ?_
   rintro e w1 ⟨rfl,rfl⟩
   rw [d1]
   go_wp2_with fail
   go_ret
   exact ⟨by rw [HF.out];first | done | rfl,rfl⟩
  ·have d1:=decide_eq_false h1
   have HF:=Lib.hid (show covB a b=false from decide_eq_false (fun h=>h1 h.2.1))
   clear h0 h1
   go_enter Tryz.func264,Tryz.ntmps264
   go_wp2_with fail
   refine (mdvalid_any a w).mono ?_
   rintro e w1 ⟨rfl,rfl⟩
   rw [d0]
   go_wp2_with fail
   refine (mdvalid_any b w).mono ?_
   rintro e w1 ⟨rfl,rfl⟩
   rw [d1]
   go_wp2_with fail
   go_ret
   exact ⟨by rw [HF.out];first | done | rfl,rfl⟩
 ·have d0:=decide_eq_false h0
  have HF:=Lib.hid (show covB a b=false from decide_eq_false (fun h=>h0 h.1))
  clear h0
  go_enter Tryz.func264,Tryz.ntmps264
  go_wp2_with fail
  refine (mdvalid_any a w).mono ?_
  rintro e w1 ⟨rfl,rfl⟩
  rw [d0]
  go_wp2_with fail
  go_ret
  exact ⟨by rw [HF.out];first | done | rfl,rfl⟩
theorem asked_next {l:List Lk} {i:Nat} {x:Lk} (h:l[i]? = some x):askedL (l.take (i+1))=if x.m=1∨x.m=2 then raiseL (askedL (l.take i)) x else askedL (l.take i):=foldl_next h
section
variable {o o':Nat→Nat} {c d:Nat} {w w':World} {m:Nat} {L:List Lk}
theorem ImAt.env {oL:Nat→Nat} (h:ImAt o c w m L) (he:Env oL w w'):ImAt oL 0 w' m L:=by
 obtain ⟨A,cap,h1,_,h3⟩:=h
 refine ⟨A,cap,h1.below_ he.low,he.old m h1.lt,ownsRow_heap h3.1 (fun g hg=>he.low.block g (h3.lt g hg)),fun g hg=>he.old g (h3.lt g hg)⟩
set_option maxRecDepth 100000 in
set_option maxHeartbeats 8000000 in
theorem mdasked_any (l:List Lk) (A:Option Addr) (cap:Nat) (h:Reads w 3 A l.length (lkcells l)) (hl:l.length≤1000000) (ho:∀x∈l,x.sp.ok∧x.b≤4096) :
 Calls Tryz.prog 262 #[.slice A l.length cap] w fun e w'=>∃m o',e = .returned (.pointer (some ⟨m,0,none⟩))∧ImAt o' 1 w' m (askedL l)∧Env o' w w'∧Fut o' w':=by
 have HR:=Lib.hid h
 have HO:=Lib.hid ho
 have hlI:(l.length:Int)≤1000000:=by omega
 have HWA:=Lib.hid (show ∀i,WfB (askedL (l.take i)) from fun i=>wfb_asked _ (fun x hx=>ho x (List.mem_of_mem_take hx)))
 clear h hl ho
 go_enter Tryz.func262,Tryz.ntmps262
 go_wp2_with fail
 refine (inew_any w).mono ?_
 rintro e w1 ⟨rfl,rfl⟩
 obtain ⟨o1,hi1,hs1,_⟩:=ImAt.new (fun _=>0) w 1
 have HI1:=Lib.hid hi1
 have HE1:=Lib.hid ((Env.start w).step hs1 (fun h=>h))
 have HF1:=Lib.hid (Fut.step (fun _ _=>rfl) hs1)
 generalize w.alloc (.cells #[.slice none 0 0] 175)=W1 at HI1 HE1 HF1 ⊢
 generalize w.heap.size=m at HI1 ⊢
 clear hi1 hs1
 go_wp2_with fail
 go_loopg [9] l.length (fun n t9 wr=>∃(i:Nat) (oL:Nat→Nat),n+i=l.length∧t9 = .int .i64 (i:Nat)∧ImAt oL 1 wr m (askedL (l.take i))∧Env oL w wr∧Fut oL wr)
 case atStart=>exact ⟨0,o1,by omega,rfl,HI1.out,HE1.out,HF1.out⟩
 case round =>
  obtain ⟨i,oL,hni,rfl,hi,he,hf⟩:=hrel
  have HNI:=Lib.hid hni
  have HI:=Lib.hid hi
  have HE:=Lib.hid he
  have HF:=Lib.hid hf
  clear hni hi he hf HI1 HE1 HF1
  by_cases hlt:i<l.length
  ·have hltI:(i:Int)<(l.length:Int):=by omega
   obtain ⟨x,hx⟩:∃x,l[i]? = some x:=⟨_,List.getElem?_eq_getElem hlt⟩
   have HNX:=Lib.hid (asked_next hx)
   have HXO:=Lib.hid (HO.out x (List.mem_of_getElem? hx))
   have HW:=Lib.hid (HWA.out i)
   obtain ⟨ad,rfl,x0,x1,x2⟩:=(HR.out.low (by omega) HE.out.low).lock hx
   have HQ:=Lib.hid (Keep.new HF.out 47 #[.int .i64 x.a, .int .i64 x.b, .int .i64 x.m])
   have HI2:=Lib.hid (HI.out.alloc (.cells #[.int .i64 x.a, .int .i64 x.b, .int .i64 x.m] 47))
   have HE2:=Lib.hid (HE.out.alloc (.cells #[.int .i64 x.a, .int .i64 x.b, .int .i64 x.m] 47))
   have HF2:=Lib.hid (HF.out.alloc (.cells #[.int .i64 x.a, .int .i64 x.b, .int .i64 x.m] 47))
   clear hx HI HE HF
   generalize askedL (l.take i)=M at HNX HI2 HW ⊢
   go_upto_region 5 with (fail)
   generalize wr.alloc (.cells #[.int .i64 x.a, .int .i64 x.b, .int .i64 x.m] 47)=W2 at HQ HI2 HE2 HF2 ⊢
   generalize wr.heap.size=X at HQ ⊢
   clear x0 x1 x2
   obtain ⟨y0,y1,y2⟩:=HQ.out.1.three
   by_cases hm:x.m=1∨x.m=2
   ·have HN2:=Lib.hid (HNX.out.trans (if_pos hm))
    have fin:∀(w5:World) (o5:Nat→Nat),ImAt o5 1 w5 m (raiseL M x)→Step oL (only 1) W2 o5 w5→∃o',ImAt o' 1 w5 m (askedL (l.take (i+1)))∧Env o' w w5∧Fut o' w5:=fun w5 o5 h1 h2=>⟨o5,by rw [HN2.out];exact h1,HE2.out.step h2 (by unfold only;omega),HF2.out.step h2⟩
    have FIN:=Lib.hid fin
    clear fin
    by_cases hm1:x.m=1
    ·have b1:(x.m == 1)=true:=by simp [hm1]
     clear hm hm1
     go_upto_region 6 with (fail)
     go_wp2_with fail
     refine (mdraise_any HF2.out (by omega) HI2.out HW.out x HXO.out.1 HXO.out.2).mono ?_
     rintro e w5 ⟨rfl,o5,hi5,hs5⟩
     obtain ⟨o6,k1,k2,k3⟩:=FIN.out w5 o5 hi5 hs5
     have K1:=Lib.hid k1
     have K2:=Lib.hid k2
     have K3:=Lib.hid k3
     clear hi5 hs5 k1 k2 k3
     go_wp2_with fail
     go_roundg (l.length - (i+1))
     case measure=>have:=HNI.out;omega
     case rel=>exact ⟨i+1,o6,by omega,by go_num,K1.out,K2.out,K3.out⟩
    ·have hm2:x.m=2:=by omega
     have b1:(x.m == 1)=false:=by simp [hm1]
     have b2:(x.m == 2)=true:=by simp [hm2]
     clear hm hm1 hm2
     go_upto_region 6 with (fail)
     go_wp2_with fail
     refine (mdraise_any HF2.out (by omega) HI2.out HW.out x HXO.out.1 HXO.out.2).mono ?_
     rintro e w5 ⟨rfl,o5,hi5,hs5⟩
     obtain ⟨o6,k1,k2,k3⟩:=FIN.out w5 o5 hi5 hs5
     have K1:=Lib.hid k1
     have K2:=Lib.hid k2
     have K3:=Lib.hid k3
     clear hi5 hs5 k1 k2 k3
     go_wp2_with fail
     go_roundg (l.length - (i+1))
     case measure=>have:=HNI.out;omega
     case rel=>exact ⟨i+1,o6,by omega,by go_num,K1.out,K2.out,K3.out⟩
   ·have HN2:=Lib.hid (HNX.out.trans (if_neg hm))
    have b1:(x.m == 1)=false:=by
     have:x.m≠1:=fun e=>hm (.inl e)
     simp [this]
    have b2:(x.m == 2)=false:=by
     have:x.m≠2:=fun e=>hm (.inr e)
     simp [this]
    clear hm
    go_wp2_with fail
    go_roundg (l.length - (i+1))
    case measure=>have:=HNI.out;omega
    case rel=>exact ⟨i+1,oL,by omega,by go_num,by rw [HN2.out];exact HI2.out,HE2.out,HF2.out⟩
  ·have hltI:¬(i:Int)<(l.length:Int):=by omega
   obtain rfl:i=l.length:=by have:=HNI.out;omega
   have HT:=Lib.hid (show l.take l.length=l from List.take_length)
   rw [HT.out] at HI
   go_wp2_with fail
   go_ret
   exact ⟨m,rfl,oL,HI.out,HE.out,HF.out⟩
end
theorem Env.band {oL:Nat→Nat} {w0 w w':World} (h:Env oL w0 w) (hb:Below w.heap.size w w') (d:Nat):Env (band oL w.heap.size w'.heap.size d) w0 w':=h.step (Step.of_below_band oL (fun _=>False) d hb) (fun h=>h)
theorem Fut.band {oL:Nat→Nat} {w w':World} (h:Fut oL w) (hb:Below w.heap.size w w') (d:Nat):Fut (band oL w.heap.size w'.heap.size d) w':=h.step (Step.of_below_band oL (fun _=>False) d hb)
theorem OwnS.band {oL:Nat→Nat} {c size n:Nat} {e:TypeId} {v:Value} {xs:List Value} {w w':World} (h:OwnS oL c w e size v n xs) (hb:Below w.heap.size w w') (d:Nat):OwnS (band oL w.heap.size w'.heap.size d) c w' e size v n xs:=h.step (Step.of_below_band oL (fun _=>False) d hb) (fun h=>h)
theorem Keep.band {oL:Nat→Nat} {g:Nat} {t:TypeId} {cs:Array Value} {w w':World} (h:Keep oL w g t cs) (hb:Below w.heap.size w w') (d:Nat):Keep (band oL w.heap.size w'.heap.size d) w' g t cs:=h.step (Step.of_below_band oL (fun _=>False) d hb) (fun h=>h)
def need2 (x:Lk) (M:List Lk) (p:Lk):List Lk:=if covB p.m x.m=true then clearL M p.sp else M
theorem needs1_eq (H M:List Lk) (x:Lk):needs1 H M x=(partsL H x.sp).foldl (need2 x) M:=rfl
section
variable {o o':Nat→Nat} {c d:Nat} {w w':World} {h:Nat} {H:List Lk}
set_option maxRecDepth 100000 in
set_option maxHeartbeats 8000000 in
theorem mdneeds_any (hh:ImAt o c w h H) (hH:WfB H) (l:List Lk) (A:Option Addr) (cap:Nat) (hr:Reads w 3 A l.length (lkcells l)) (hl:l.length≤1000000) (ho:∀x∈l,x.sp.ok∧x.b≤4096) :
 Calls Tryz.prog 235 #[.pointer (some ⟨h,0,none⟩), .slice A l.length cap] w fun e w'=>∃D cap',e = .returned (.slice D (needsL H l).length cap')∧Below w.heap.size w w':=by
 have HH:=Lib.hid hh
 have HWH:=Lib.hid hH
 have hHL:=hH.len
 have HA:=Lib.hid (mdasked_any l A cap hr hl ho)
 have HX0:=Lib.hid (wfb_asked l ho)
 have HND:=Lib.hid (show needsL H l=(askedL l).foldl (needs1 H) (askedL l) from rfl)
 obtain ⟨X,hX⟩:∃X,askedL l=X:=⟨_,rfl⟩
 rw [hX] at HA HX0 HND
 have hXL:=HX0.out.len
 have hXI:(X.length:Int)≤4096:=by omega
 have HWN:=Lib.hid (show ∀i,WfB ((X.take i).foldl (needs1 H) X) from fun i=>HX0.out.needs hH _)
 clear hh hH hr hl ho hX
 go_enter Tryz.func235,Tryz.ntmps235
 go_wp2_with fail
 refine HA.out.mono ?_
 rintro e w1 ⟨m,o1,rfl,hi1,he1,hf1⟩
 have HI1:=Lib.hid hi1
 have HE1:=Lib.hid he1
 have HF1:=Lib.hid hf1
 clear hi1 he1 hf1
 go_wp2_with fail
 refine (mdlocks_any HI1.out (by omega)).mono ?_
 rintro e w2 ⟨D2,cap2,rfl,hr2,hb2⟩
 have HR2:=Lib.hid (own_bandR (o:=o1) (c:=2) hr2)
 have HI2:=Lib.hid (HI1.out.band hb2 2)
 have HE2:=Lib.hid (HE1.out.band hb2 2)
 have HF2:=Lib.hid (HF1.out.band hb2 2)
 generalize band o1 w1.heap.size w2.heap.size 2=o2 at HR2 HI2 HE2 HF2
 clear hr2 hb2 HI1 HE1 HF1
 go_wp2_with fail
 go_loopg [15] X.length (fun n t15 wr=>∃(i:Nat) (oL:Nat→Nat),n+i=X.length∧t15 = .int .i64 (i:Nat)∧ImAt oL 1 wr m ((X.take i).foldl (needs1 H) X)∧OwnS oL 2 wr 47 3 (.slice D2 X.length cap2) X.length (lkcells X)∧Env oL w wr∧Fut oL wr)
 case atStart=>exact ⟨0,o2,by omega,rfl,HI2.out,HR2.out,HE2.out,HF2.out⟩
 case round =>
  obtain ⟨i,oL,hni,rfl,hi,hrow,he,hf⟩:=hrel
  have HNI:=Lib.hid hni
  have HI:=Lib.hid hi
  have HROW:=Lib.hid hrow
  have HE:=Lib.hid he
  have HF:=Lib.hid hf
  clear hni hi hrow he hf HI2 HR2 HE2 HF2
  by_cases hlt:i<X.length
  ·have hltI:(i:Int)<(X.length:Int):=by omega
   obtain ⟨x,hx⟩:∃x,X[i]? = some x:=⟨_,List.getElem?_eq_getElem hlt⟩
   have HNX:=Lib.hid ((foldl_next (f:=needs1 H) (b:=X) hx).trans (needs1_eq H _ x))
   have HXO:=Lib.hid (HX0.out.wf.ok x (List.mem_of_getElem? hx))
   have HW:=Lib.hid (HWN.out i)
   have HP4:=Lib.hid (show ∀p∈partsL H x.sp,p.sp.ok∧p.b≤4096 from fun p hp=>part_ok HWH.out hp)
   have hPL:(partsL H x.sp).length≤4096:=Nat.le_trans (parts_len _ _) hHL
   obtain ⟨ad,rfl,x0,x1,x2⟩:=(Reads.of_own HROW.out.1).lock hx
   have HQ:=Lib.hid (Keep.new HF.out 47 #[.int .i64 x.a, .int .i64 x.b, .int .i64 x.m])
   have HI3:=Lib.hid (HI.out.alloc (.cells #[.int .i64 x.a, .int .i64 x.b, .int .i64 x.m] 47))
   have HR3:=Lib.hid (HROW.out.alloc (.cells #[.int .i64 x.a, .int .i64 x.b, .int .i64 x.m] 47))
   have HE3:=Lib.hid (HE.out.alloc (.cells #[.int .i64 x.a, .int .i64 x.b, .int .i64 x.m] 47))
   have HF3:=Lib.hid (HF.out.alloc (.cells #[.int .i64 x.a, .int .i64 x.b, .int .i64 x.m] 47))
   clear hx HI HE HF HROW
   generalize (X.take i).foldl (needs1 H) X=M at HNX HI3 HW ⊢
   go_upto_region 5 with (fail)
   generalize wr.alloc (.cells #[.int .i64 x.a, .int .i64 x.b, .int .i64 x.m] 47)=W3 at HQ HI3 HR3 HE3 HF3 ⊢
   generalize wr.heap.size=gx at HQ ⊢
   clear x0 x1 x2
   obtain ⟨y0,y1,y2⟩:=HQ.out.1.three
   go_wp2_with fail
   refine (iparts_any (HH.out.env HE3.out) (by omega) x.sp).mono ?_
   rintro e w4 ⟨D4,cap4,rfl,hr4,hb4⟩
   have HRP:=Lib.hid (own_bandR (o:=oL) (c:=3) hr4)
   have HI4:=Lib.hid (HI3.out.band hb4 3)
   have HR4:=Lib.hid (HR3.out.band hb4 3)
   have HE4:=Lib.hid (HE3.out.band hb4 3)
   have HF4:=Lib.hid (HF3.out.band hb4 3)
   have HQ4:=Lib.hid (HQ.out.band hb4 3)
   generalize band oL W3.heap.size w4.heap.size 3=o4 at HRP HI4 HR4 HE4 HF4 HQ4
   obtain ⟨P,hP⟩:∃P,partsL H x.sp=P:=⟨_,rfl⟩
   rw [hP] at HRP HNX HP4 hPL ⊢
   have hPI:(P.length:Int)≤4096:=by omega
   clear hr4 hb4 hP y0 y1 y2 HI3 HR3 HE3 HF3 HQ
   go_wp2_with fail
   go_loopg [24] P.length (fun n t24 wi=>∃(j:Nat) (oM:Nat→Nat),n+j=P.length∧t24 = .int .i64 (j:Nat)∧ImAt oM 1 wi m ((P.take j).foldl (need2 x) M)∧WfB ((P.take j).foldl (need2 x) M)∧OwnS oM 3 wi 136 3 (.slice D4 P.length cap4) P.length (lkcells P)∧Keep oM wi gx 47 #[.int .i64 x.a, .int .i64 x.b, .int .i64 x.m]∧OwnS oM 2 wi 47 3 (.slice (some ad) X.length cap2) X.length (lkcells X)∧Env oM w wi∧Fut oM wi)
   case atStart=>exact ⟨0,o4,by omega,rfl,HI4.out,HW.out,HRP.out,HQ4.out,HR4.out,HE4.out,HF4.out⟩
   case round =>
    obtain ⟨j,oM,hnj,rfl,hi,hw,hrp,hq,hrow,he,hf⟩:=hrel
    have HNJ:=Lib.hid hnj
    have HI:=Lib.hid hi
    have HWJ:=Lib.hid hw
    have HRJ:=Lib.hid hrp
    have HQJ:=Lib.hid hq
    have HROW:=Lib.hid hrow
    have HE:=Lib.hid he
    have HF:=Lib.hid hf
    clear hnj hi hw hrp hq hrow he hf HI4 HRP HR4 HE4 HF4 HQ4
    by_cases hlt2:j<P.length
    ·have hlt2I:(j:Int)<(P.length:Int):=by omega
     obtain ⟨p,hp⟩:∃p,P[j]? = some p:=⟨_,List.getElem?_eq_getElem hlt2⟩
     have HNY:=Lib.hid (foldl_next (f:=need2 x) (b:=M) hp)
     have HPO:=Lib.hid (HP4.out p (List.mem_of_getElem? hp))
     obtain ⟨bd,rfl,x0,x1,x2⟩:=(Reads.of_own HRJ.out.1).lock hp
     have HK:=Lib.hid (Keep.new HF.out 136 #[.int .i64 p.a, .int .i64 p.b, .int .i64 p.m])
     have HI5:=Lib.hid (HI.out.alloc (.cells #[.int .i64 p.a, .int .i64 p.b, .int .i64 p.m] 136))
     have HR5:=Lib.hid (HRJ.out.alloc (.cells #[.int .i64 p.a, .int .i64 p.b, .int .i64 p.m] 136))
     have HQ5:=Lib.hid (HQJ.out.alloc (.cells #[.int .i64 p.a, .int .i64 p.b, .int .i64 p.m] 136))
     have HO5:=Lib.hid (HROW.out.alloc (.cells #[.int .i64 p.a, .int .i64 p.b, .int .i64 p.m] 136))
     have HE5:=Lib.hid (HE.out.alloc (.cells #[.int .i64 p.a, .int .i64 p.b, .int .i64 p.m] 136))
     have HF5:=Lib.hid (HF.out.alloc (.cells #[.int .i64 p.a, .int .i64 p.b, .int .i64 p.m] 136))
     clear hp HI HRJ HQJ HROW HE HF
     generalize (P.take j).foldl (need2 x) M=MJ at HNY HI5 HWJ ⊢
     go_upto_region 8 with (fail)
     generalize wr.alloc (.cells #[.int .i64 p.a, .int .i64 p.b, .int .i64 p.m] 136)=W5 at HK HI5 HR5 HQ5 HO5 HE5 HF5 ⊢
     generalize wr.heap.size=gp at HK ⊢
     clear x0 x1 x2
     obtain ⟨y0,y1,y2⟩:=HK.out.1.three
     obtain ⟨z0,z1,z2⟩:=HQ5.out.1.three
     go_wp2_with fail
     refine (mdcovers_any p.m x.m W5).mono ?_
     rintro e w6 ⟨rfl,rfl⟩
     obtain ⟨v,hv⟩:∃v,covB p.m x.m=v:=⟨_,rfl⟩
     rw [hv]
     cases v with
     | false =>
       have HN:=Lib.hid (HNY.out.trans (show need2 x MJ p=MJ from if_neg (by rw [hv];exact Bool.false_ne_true)))
       clear hv
       go_wp2_with fail
       go_roundg (P.length - (j+1))
       case measure=>have:=HNJ.out;omega
       case rel=>exact ⟨j+1,oM,by omega,by go_num,by rw [HN.out];exact HI5.out,by rw [HN.out];exact HWJ.out,HR5.out,HQ5.out,HO5.out,HE5.out,HF5.out⟩
     | true =>
       have HN:=Lib.hid (HNY.out.trans (show need2 x MJ p=clearL MJ p.sp from if_pos hv))
       clear hv
       go_wp2_with fail
       refine (iclear_any HI5.out HWJ.out.wf (by have:=HWJ.out.len;omega) p.sp HPO.out.1).mono ?_
       rintro e w7 ⟨rfl,o7,hi7,hs7⟩
       have HI7:=Lib.hid hi7
       have HR7:=Lib.hid (HR5.out.step hs7 (by unfold only;omega))
       have HQ7:=Lib.hid (HQ5.out.step hs7 (by unfold only;omega))
       have HO7:=Lib.hid (HO5.out.step hs7 (by unfold only;omega))
       have HE7:=Lib.hid (HE5.out.step hs7 (by unfold only;omega))
       have HF7:=Lib.hid (HF5.out.step hs7)
       clear hi7 hs7 y0 y1 y2 z0 z1 z2
       go_wp2_with fail
       go_roundg (P.length - (j+1))
       case measure=>have:=HNJ.out;omega
       case rel=>exact ⟨j+1,o7,by omega,by go_num,by rw [HN.out];exact HI7.out,by rw [HN.out];exact HWJ.out.clear HPO.out.1,HR7.out,HQ7.out,HO7.out,HE7.out,HF7.out⟩
    ·have hlt2I:¬(j:Int)<(P.length:Int):=by omega
     obtain rfl:j=P.length:=by have:=HNJ.out;omega
     have HYY:=Lib.hid (show (P.take P.length).foldl (need2 x) M=(X.take (i+1)).foldl (needs1 H) X by rw [List.take_length,HNX.out])
     rw [HYY.out] at HI
     go_wp2_with fail
     go_roundg (X.length - (i+1))
     case measure=>have:=HNI.out;omega
     case rel=>exact ⟨i+1,oM,by omega,by go_num,HI.out,HROW.out,HE.out,HF.out⟩
  ·have hltI:¬(i:Int)<(X.length:Int):=by omega
   obtain rfl:i=X.length:=by have:=HNI.out;omega
   have HT:=Lib.hid (show (X.take X.length).foldl (needs1 H) X=needsL H l by rw [List.take_length,HND.out])
   have HWT:=Lib.hid (HWN.out X.length)
   rw [HT.out] at HI HWT
   go_wp2_with fail
   refine (mdlocks_any HI.out (by have:=HWT.out.len;omega)).mono ?_
   rintro e w8 ⟨D8,cap8,rfl,hr8,hb8⟩
   have HB8:=Lib.hid (HE.out.low.trans (hb8.mono HE.out.low.size))
   clear hr8 hb8
   go_wp2_with fail
   go_ret
   exact ⟨D8,cap8,rfl,HB8.out⟩
theorem mdhas_any (hh:ImAt o c w h H) (hH:WfB H) (l:List Lk) (A:Option Addr) (cap:Nat) (hr:Reads w 3 A l.length (lkcells l)) (hl:l.length≤1000000) (ho:∀x∈l,x.sp.ok∧x.b≤4096) :
 Calls Tryz.prog 207 #[.pointer (some ⟨h,0,none⟩), .slice A l.length cap] w fun e w'=>e = .returned (.bool (needsL H l).isEmpty)∧Below w.heap.size w w':=by
 have HN:=Lib.hid (mdneeds_any hh hH l A cap hr hl ho)
 clear hh hH hr hl ho
 go_enter Tryz.func207,Tryz.ntmps207
 go_wp2_with fail
 refine HN.out.mono ?_
 rintro e w1 ⟨D,cap',rfl,hb⟩
 have HB:=Lib.hid hb
 clear hb HN
 obtain ⟨N,hN⟩:∃N,needsL H l=N:=⟨_,rfl⟩
 rw [hN]
 have HEQ:=Lib.hid hN
 clear hN
 cases N with
 | nil =>
   go_wp2_with fail
   go_ret
   exact ⟨by rw [HEQ.out];rfl,HB.out⟩
 | cons x N =>
   have hz:(((x :: N).length:Int) == 0)=false:=by
    rw [List.length_cons]
    simp
    omega
   generalize (x :: N).length=k at hz ⊢
   go_wp2_with fail
   go_ret
   exact ⟨by rw [HEQ.out];rfl,HB.out⟩
end
def ptrV (g:Nat):Value := .pointer (some ⟨g,0,none⟩)
def Tb.cells (T:Tb) (hp:Nat→Nat) (wv:Value):Array Value :=
 #[.int .i64 T.nodes,ptrV (hp 0),ptrV (hp 1),ptrV (hp 2),ptrV (hp 3),ptrV (hp 4),ptrV (hp 5),ptrV (hp 6),ptrV (hp 7),ptrV (hp 8),ptrV (hp 9),ptrV (hp 10),ptrV (hp 11),ptrV (hp 12),ptrV (hp 13),ptrV (hp 14),ptrV (hp 15),ptrV (hp 16),wv, .int .i64 T.last]
theorem Tb.cell_held (T:Tb) (hp:Nat→Nat) (wv:Value) {i:Nat} (hi:i≤16):(T.cells hp wv)[1+i]? = some (ptrV (hp i)):=by
 rcases i with _ | _ | _ | _ | _ | _ | _ | _ | _ | _ | _ | _ | _ | _ | _ | _ | _ | i
 all_goals first | rfl | omega
structure TbIn (o:Nat→Nat) (c:Nat) (w:World) (t:Nat) (T:Tb) (hp:Nat→Nat) (A:Option Addr) (cap:Nat):Prop where
 blk:Blk w t 118 (T.cells hp (.slice A T.waits.length cap))
 col:o t=c
 waits:OwnS o (c+1) w 164 5 (.slice A T.waits.length cap) T.waits.length (wqcells T.waits)
 held:∀i,i≤16→ImAt o (c+2+i) w (hp i) (T.held i)
def TbAt (o:Nat→Nat) (c:Nat) (w:World) (t:Nat) (T:Tb):Prop:=∃hp A cap,TbIn o c w t T hp A cap
def tabC (c:Nat):Nat→Prop:=fun x=>c≤x∧x≤c+18
structure TbWf (T:Tb):Prop where
 nodes:1≤T.nodes∧T.nodes≤16
 held:∀i,WfB (T.held i)
 waits:∀x∈T.waits,rightB x.l=true∧T.is x.node
 many:T.waits.length≤1000
 last:0≤T.last∧T.last≤1000000000
theorem rightB_iff {l:Lk}:rightB l=true↔l.sp.ok∧l.b≤4096∧(l.m=1∨l.m=2):=by
 unfold rightB
 exact decide_eq_true_iff
section
variable {o o':Nat→Nat} {c:Nat} {C:Nat→Prop} {w w':World} {t:Nat} {T:Tb} {hp:Nat→Nat} {A:Option Addr} {cap:Nat}
theorem TbIn.step (h:TbIn o c w t T hp A cap) (hs:Step o C w o' w') (hc:∀x,tabC c x→¬C x):TbIn o' c w' t T hp A cap :=
 ⟨h.blk.step hs (by rw [h.col];exact hc c (by unfold tabC;omega)),(hs.old t h.blk.lt).trans h.col,h.waits.step hs (hc (c+1) (by unfold tabC;omega)),fun i hi=>(h.held i hi).step hs (hc _ (by unfold tabC;omega))⟩
theorem TbIn.below_ (h:TbIn o c w t T hp A cap) (hb:Below w.heap.size w w'):TbIn o c w' t T hp A cap :=
 ⟨h.blk.below_ hb,h.col,h.waits.below_ hb,fun i hi=>(h.held i hi).below_ hb⟩
theorem TbIn.alloc (h:TbIn o c w t T hp A cap) (x:Obj):TbIn o c (w.alloc x) t T hp A cap:=h.below_ ((Below.refl _ _).alloc (Nat.le_refl _) x)
theorem TbIn.drew (h:TbIn o c w t T hp A cap):TbIn o c w.drew t T hp A cap:=⟨h.blk,h.col,h.waits,h.held⟩
theorem TbAt.step (h:TbAt o c w t T) (hs:Step o C w o' w') (hc:∀x,tabC c x→¬C x):TbAt o' c w' t T:=by
 obtain ⟨hp,A,cap,h⟩:=h
 exact ⟨hp,A,cap,h.step hs hc⟩
theorem TbAt.below_ (h:TbAt o c w t T) (hb:Below w.heap.size w w'):TbAt o c w' t T:=by
 obtain ⟨hp,A,cap,h⟩:=h
 exact ⟨hp,A,cap,h.below_ hb⟩
theorem TbAt.alloc (h:TbAt o c w t T) (x:Obj):TbAt o c (w.alloc x) t T:=h.below_ ((Below.refl _ _).alloc (Nat.le_refl _) x)
theorem TbIn.c0 (h:TbIn o c w t T hp A cap):w.cell? ⟨t,0,none⟩=some (.int .i64 T.nodes):=h.blk.cell 0
theorem TbIn.c18 (h:TbIn o c w t T hp A cap):w.cell? ⟨t,18,none⟩=some (.slice A T.waits.length cap):=h.blk.cell 18
theorem TbIn.c19 (h:TbIn o c w t T hp A cap):w.cell? ⟨t,19,none⟩=some (.int .i64 T.last):=h.blk.cell 19
theorem TbIn.ch (h:TbIn o c w t T hp A cap) {i:Nat} (hi:i≤16):w.cell? ⟨t,1+i,none⟩=some (.pointer (some ⟨hp i,0,none⟩)):=(h.blk.cell (1+i)).trans (T.cell_held hp _ hi)
theorem tis_any (h:TbIn o c w t T hp A cap) (node:Int):Calls Tryz.prog 60 #[.pointer (some ⟨t,0,none⟩), .int .i64 node] w fun e w'=>e = .returned (.bool (decide (T.is node)))∧w'=w:=by
 have x0:=h.c0
 have HD:=Lib.hid (show decide (T.is node)=decide (1≤node∧node≤(T.nodes:Int)) from decide_eq_decide.2 Iff.rfl)
 clear h
 by_cases h1:1≤node
 ·obtain ⟨v,hv⟩:∃v,decide (node≤(T.nodes:Int))=v:=⟨_,rfl⟩
  have HF:=Lib.hid (show decide (T.is node)=v by
   rw [HD.out,←hv]
   exact decide_eq_decide.2 ⟨fun h=>h.2,fun h=>⟨h1,h⟩⟩)
  go_enter Tryz.func60,Tryz.ntmps60
  go_wp2_with fail
  go_ret
  exact ⟨by rw [HF.out,←hv];first | done | rfl,rfl⟩
 ·have HF:=Lib.hid (show decide (T.is node)=false by
   rw [HD.out]
   exact decide_eq_false (fun h=>h1 h.1))
  have d1:decide (1≤node)=false:=decide_eq_false h1
  go_enter Tryz.func60,Tryz.ntmps60
  go_wp2_with fail
  go_ret
  exact ⟨by rw [HF.out];first | done | rfl,rfl⟩
end
theorem tright_any (l:Lk) (w:World):Calls Tryz.prog 156 #[.agg #[.int .i64 l.a, .int .i64 l.b, .int .i64 l.m]] w fun e w'=>e = .returned (.bool (rightB l))∧Below w.heap.size w w':=by
 have HB:=Lib.hid ((Below.refl w.heap.size w).alloc (Nat.le_refl _) (.cells #[.int .i64 l.a, .int .i64 l.b, .int .i64 l.m] 47))
 have HK:=Lib.hid (Blk.new w 47 #[.int .i64 l.a, .int .i64 l.b, .int .i64 l.m])
 obtain ⟨r,hr⟩:∃r,rightB l=r:=⟨_,rfl⟩
 have HR:=Lib.hid hr
 have fin:∀(P:Prop) [Decidable P],(P↔l.sp.ok∧l.b≤4096∧(l.m=1∨l.m=2))→decide P=r:=fun P _ h=>by
  rw [←hr]
  unfold rightB
  exact decide_eq_decide.2 h
 have FIN:=Lib.hid @fin
 clear fin hr
 by_cases h0:0≤l.a∧l.a<l.b
 ·have d0:=decide_eq_true h0
  by_cases h1:l.b≤4096
  ·have d1:=decide_eq_true h1
   by_cases h2:l.m=1
   ·have b2:(l.m == 1)=true:=by simp [h2]
    have HF:=Lib.hid (show r=true from (FIN.out True ⟨fun _=>⟨h0,h1, .inl h2⟩,fun _=>trivial⟩).symm.trans (by simp))
    clear h0 h1 h2
    go_enter Tryz.func156,Tryz.ntmps156
    go_wp2_with fail
    refine (spvalid_any l.a l.b _).mono ?_
    rintro e w1 ⟨rfl,hb⟩
    rw [d0]
    obtain ⟨x0,x1,x2⟩:=(HK.out.below_ hb).three
    have HB1:=Lib.hid (HB.out.trans (hb.mono HB.out.size))
    clear hb
    go_wp2_with fail
    go_ret
    exact ⟨by rw [HR.out,HF.out];first | done | rfl,HB1.out⟩
   ·have b2:(l.m == 1)=false:=by simp [h2]
    by_cases h3:l.m=2
    ·have b3:(l.m == 2)=true:=by simp [h3]
     have HF:=Lib.hid (show r=true from (FIN.out True ⟨fun _=>⟨h0,h1, .inr h3⟩,fun _=>trivial⟩).symm.trans (by simp))
     clear h0 h1 h2 h3
     go_enter Tryz.func156,Tryz.ntmps156
     go_wp2_with fail
     refine (spvalid_any l.a l.b _).mono ?_
     rintro e w1 ⟨rfl,hb⟩
     rw [d0]
     obtain ⟨x0,x1,x2⟩:=(HK.out.below_ hb).three
     have HB1:=Lib.hid (HB.out.trans (hb.mono HB.out.size))
     clear hb
     go_wp2_with fail
     go_ret
     exact ⟨by rw [HR.out,HF.out];first | done | rfl,HB1.out⟩
    ·have b3:(l.m == 2)=false:=by simp [h3]
     have HF:=Lib.hid (show r=false from (FIN.out False ⟨fun h=>h.elim,fun h=>h.2.2.elim h2 h3⟩).symm.trans (by simp))
     clear h0 h1 h2 h3
     go_enter Tryz.func156,Tryz.ntmps156
     go_wp2_with fail
     refine (spvalid_any l.a l.b _).mono ?_
     rintro e w1 ⟨rfl,hb⟩
     rw [d0]
     obtain ⟨x0,x1,x2⟩:=(HK.out.below_ hb).three
     have HB1:=Lib.hid (HB.out.trans (hb.mono HB.out.size))
     clear hb
     go_wp2_with fail
     go_ret
     exact ⟨by rw [HR.out,HF.out];first | done | rfl,HB1.out⟩
  ·have d1:=decide_eq_false h1
   have HF:=Lib.hid (show r=false from (FIN.out False ⟨fun h=>h.elim,fun h=>h1 h.2.1⟩).symm.trans (by simp))
   clear h0 h1
   go_enter Tryz.func156,Tryz.ntmps156
   go_wp2_with fail
   refine (spvalid_any l.a l.b _).mono ?_
   rintro e w1 ⟨rfl,hb⟩
   rw [d0]
   obtain ⟨x0,x1,x2⟩:=(HK.out.below_ hb).three
   have HB1:=Lib.hid (HB.out.trans (hb.mono HB.out.size))
   clear hb
   go_wp2_with fail
   go_ret
   exact ⟨by rw [HR.out,HF.out];first | done | rfl,HB1.out⟩
 ·have d0:=decide_eq_false h0
  have HF:=Lib.hid (show r=false from (FIN.out False ⟨fun h=>h.elim,fun h=>h0 h.1⟩).symm.trans (by simp))
  clear h0
  go_enter Tryz.func156,Tryz.ntmps156
  go_wp2_with fail
  refine (spvalid_any l.a l.b _).mono ?_
  rintro e w1 ⟨rfl,hb⟩
  rw [d0]
  have HB1:=Lib.hid (HB.out.trans (hb.mono HB.out.size))
  clear hb
  go_wp2_with fail
  go_ret
  exact ⟨by rw [HR.out,HF.out];first | done | rfl,HB1.out⟩
theorem Blk.five {w:World} {g:Nat} {t:TypeId} {c0 c1 c2 c3 c4:Value} (h:Blk w g t #[c0,c1,c2,c3,c4]):w.cell? ⟨g,0,none⟩=some c0∧w.cell? ⟨g,1,none⟩=some c1∧w.cell? ⟨g,2,none⟩=some c2∧w.cell? ⟨g,3,none⟩=some c3∧w.cell? ⟨g,4,none⟩=some c4:=⟨h.cell 0,h.cell 1,h.cell 2,h.cell 3,h.cell 4⟩
end Go.Proofs.YtohgabdmmbngbaaGreatDoor
