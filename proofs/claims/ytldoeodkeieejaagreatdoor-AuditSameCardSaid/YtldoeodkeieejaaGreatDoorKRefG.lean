import Derived.Test.YtldoeodkeieejaaGreatDoorKOpenRecs
import Derived.Test.YtldoeodkeieejaaGreatDoorKShelfC
import Derived.Test.YtldoeodkeieejaaGreatDoorKBlkD
import Derived.ArgAppend
import Derived.Lib.SlBytesConst
namespace Go.Proofs.YtldoeodkeieejaaGreatDoor
open Go.RowKit
def firstRx (b:ByteArray):Rc:=if firstE b=0 then firstX b else Rc.zero
def firstNn (b:ByteArray):Nat:=if firstE b=0 then firstN b else 0
set_option maxRecDepth 100000 in
set_option maxHeartbeats 4000000 in
theorem cfirst_any (b:ByteArray) (w:World) (hb:b.size≤1000000000) :
 Calls Tryz.prog 147 #[.string b] w fun e w'=>e = .returned (.tuple #[.agg #[.int .u64 (firstRx b).epoch, .int .u64 (firstRx b).lsn, .slice none 0 0], .int .i64 (firstNn b:Nat), .int .i64 (firstE b)])∧Below w.heap.size w w':=by
 have HB0:=Lib.hid ((Env.start w).alloc (.cells #[.int .u64 0, .int .u64 0, .slice none 0 0] 160))
 have HZ0:=Lib.hid (Keep.new (fut0 w) 160 #[.int .u64 0, .int .u64 0, .slice none 0 0])
 have fin:∀(W:World) (a v n:Nat) (e:Int),Blk W w.heap.size 160 #[.int .u64 a, .int .u64 v, .slice none 0 0]→Below w.heap.size w W→firstRx b=⟨a,v,[]⟩→firstNn b=n→firstE b=e →
  Blk W w.heap.size 160 #[.int .u64 a, .int .u64 v, .slice none 0 0]∧Below w.heap.size w W∧Ending.returned (.tuple #[.agg #[.int .u64 a, .int .u64 v, .slice none 0 0], .int .i64 n, .int .i64 e]) = .returned (.tuple #[.agg #[.int .u64 (firstRx b).epoch, .int .u64 (firstRx b).lsn, .slice none 0 0], .int .i64 (firstNn b:Nat), .int .i64 (firstE b)]):=fun W a v n e h1 h2 h3 h4 h5=>⟨h1,h2,by rw [h3,h4,h5]⟩
 have FIN:=Lib.hid fin
 have HFE:=Lib.hid (show firstE b=if b.size<64 then 5 else if readE (b.extract 0 64).data.toList≠0 then readE (b.extract 0 64).data.toList else if firstBad b then 4 else 0 from rfl)
 have bad:∀e,firstE b=e→e≠0→firstRx b=⟨0,0,[]⟩∧firstNn b=0:=fun e h1 h2=>⟨if_neg (by rw [h1];exact h2),if_neg (by rw [h1];exact h2)⟩
 have BAD:=Lib.hid bad
 clear fin bad
 by_cases hs:b.size<64
 ·have hsI:(b.size:Int)<64:=by omega
  have HE:=Lib.hid (show firstE b=5 by rw [HFE.out,if_pos hs])
  obtain ⟨r1,r2⟩:=BAD.out 5 HE.out (by decide)
  obtain ⟨hz,hb0,he⟩:=FIN.out _ 0 0 0 5 HZ0.out.1 HB0.out.low r1 r2 HE.out
  rw [←he]
  clear hs he r1 r2
  go_enter Tryz.func147,Tryz.ntmps147
  go_wp2_with fail
  exact bodyPost_ret (v := .tuple #[.agg #[.int .u64 0, .int .u64 0, .slice none 0 0], .int .i64 0, .int .i64 5]) (by simp [results,Tryz.results147,go_sem]) rfl ⟨rfl,hb0⟩
 ·have hsI:¬(b.size:Int)<64:=by omega
  have b64:(64:Int)≤(b.size:Int):=by omega
  have hxs:(b.extract 0 64).size=64:=by rw [ByteArray.size_extract];omega
  have HXS:=Lib.hid (show (b.extract 0 64).size≤1000000000 by omega)
  have HXL:=Lib.hid (show (b.extract 0 64).data.toList.length=64 from hxs)
  have HFE2:=Lib.hid (show firstE b=if readE (b.extract 0 64).data.toList≠0 then readE (b.extract 0 64).data.toList else if firstBad b then 4 else 0 by rw [HFE.out,if_neg hs])
  have HFR:=Lib.hid (show firstR b=⟨str (readL (b.extract 0 64).data.toList),0⟩ from rfl)
  clear hs hxs hb
  go_enter Tryz.func147,Tryz.ntmps147
  go_wp2_with fail
  generalize w.alloc (.cells #[.int .u64 0, .int .u64 0, .slice none 0 0] 160)=W at HB0 HZ0 ⊢
  refine (sread_any (b.extract 0 64) HXS.out W).mono ?_
  rintro e w1 ⟨rfl,hb1⟩
  have HB1:=Lib.hid (HB0.out.below_ hb1)
  have HZ1:=Lib.hid (HZ0.out.below_ hb1)
  clear hb1
  obtain ⟨E,hE⟩:∃E,readE (b.extract 0 64).data.toList=E:=⟨_,rfl⟩
  have HRL:=Lib.hid (fun (h:readE (b.extract 0 64).data.toList=0)=>readL_len h)
  rw [hE] at HFE2 HRL ⊢
  clear hE
  by_cases h0:E=0
  ·subst h0
   have ht:=HRL.out rfl
   rw [HXL.out] at ht
   generalize readL (b.extract 0 64).data.toList=t at ht HFR ⊢
   have HN:=Lib.hid (show (str t).size≤1000000000 by rw [str_size,ht];omega)
   have HN0:=Lib.hid (show ¬only 1 0 by unfold only;omega)
   clear ht
   go_wp2_with fail
   refine (newreader_any (fun _=>0) 1 (str t) w1 HN.out).mono ?_
   rintro e w2 ⟨p,o2,rfl,hrd,hb2,hst2⟩
   have HS2:=Lib.hid (show Gs 262 o2 w w2 p ⟨str t,0⟩ from ⟨hrd,HB1.out.step (hst2 (fun _=>False)) (by simp),(show Fut (fun _=>0) w1 from fun _ _=>rfl).step (hst2 (fun _=>False))⟩)
   have HK2:=Lib.hid (HZ1.out.step (hst2 (fun _=>False)) (by simp))
   clear hrd hb2 hst2
   go_wp2_with fail
   refine (rnum_g HS2.out 8).mono ?_
   rintro e w3 ⟨rfl,o3,hg3,hs3⟩
   have HS3:=Lib.hid hg3
   have HK3:=Lib.hid (HK2.out.step hs3 HN0.out)
   clear hg3 hs3
   go_wp2_with fail
   refine (rnum_g HS3.out 8).mono ?_
   rintro e w4 ⟨rfl,o4,hg4,hs4⟩
   obtain ⟨a,ha⟩:∃a,(⟨str t,0⟩:Rd).numV 8=a:=⟨_,rfl⟩
   obtain ⟨v,hv⟩:∃v,((⟨str t,0⟩:Rd).numR 8).numV 8=v:=⟨_,rfl⟩
   have HFX:=Lib.hid (show firstX b=⟨a,v,[]⟩ by unfold firstX;rw [HFR.out,ha,hv])
   rw [ha,hv]
   have HS4:=Lib.hid (hg4.alloc (.cells #[.int .u64 (a:Int), .int .u64 (v:Int), .slice none 0 0] 160))
   have HX4:=Lib.hid (Keep.new hg4.fut 160 #[.int .u64 (a:Int), .int .u64 (v:Int), .slice none 0 0])
   have HK4:=Lib.hid ((HK3.out.step hs4 HN0.out).alloc (.cells #[.int .u64 (a:Int), .int .u64 (v:Int), .slice none 0 0] 160))
   clear hg4 hs4 ha hv
   go_wp2_with fail
   generalize w4.alloc (.cells #[.int .u64 (a:Int), .int .u64 (v:Int), .slice none 0 0] 160)=W4 at HS4 HX4 HK4 ⊢
   generalize w4.heap.size=gX at HX4 ⊢
   refine (rnum_g HS4.out 1).mono ?_
   rintro e w5 ⟨rfl,o5,hg5,hs5⟩
   have HS5:=Lib.hid hg5
   have HX5:=Lib.hid (HX4.out.step hs5 HN0.out)
   have HK5:=Lib.hid (HK4.out.step hs5 HN0.out)
   clear hg5 hs5
   go_wp2_with fail
   refine (rnum_g HS5.out 1).mono ?_
   rintro e w6 ⟨rfl,o6,hg6,hs6⟩
   obtain ⟨pl,hpl⟩:∃a,(((⟨str t,0⟩:Rd).numR 8).numR 8).numV 1=a:=⟨_,rfl⟩
   obtain ⟨n,hn⟩:∃v,((((⟨str t,0⟩:Rd).numR 8).numR 8).numR 1).numV 1=v:=⟨_,rfl⟩
   have HFP:=Lib.hid (show firstP b=pl by unfold firstP;rw [HFR.out,hpl])
   have HFN:=Lib.hid (show firstN b=n by unfold firstN;rw [HFR.out,hn])
   have hnl:n<256:=by rw [←hn];exact numV_lt _ 1 (by omega)
   have hwn:=wrap_small (v:=n) (by omega)
   rw [hpl,hn]
   have hX6:=(HX5.out.step hs6 HN0.out)
   have hK6:=(HK5.out.step hs6 HN0.out)
   have HK6:=Lib.hid hK6
   have HL6:=Lib.hid hg6.env.low
   have x0:=hX6.1.cell 0
   have x1:=hX6.1.cell 1
   have x2:=hX6.1.cell 2
   obtain ⟨y0,y1,y2⟩:=hK6.1.three
   have f0:=hK6.1.frozen 0
   have f1:=hK6.1.frozen 1
   have f2:=hK6.1.frozen 2
   simp at x0 x1 x2
   have HBD:=Lib.hid (show firstBad b↔a=0∨v=0∨pl≠0∨secsOf n=0 by unfold firstBad;rw [HFX.out,HFP.out,HFN.out])
   clear hg6 hs6 hX6 hK6 hpl hn
   by_cases hbad:a=0∨v=0∨pl≠0∨secsOf n=0
   ·have HE:=Lib.hid (show firstE b=4 by rw [HFE2.out,if_neg (by decide),if_pos (HBD.out.2 hbad)])
    obtain ⟨r1,r2⟩:=BAD.out 4 HE.out (by decide)
    obtain ⟨hz3,hb3,he⟩:=FIN.out _ 0 0 0 4 (HK6.out.1.put3 (.int .u64 0) (.int .u64 0) (.slice none 0 0)) (below_put3 HL6.out (Nat.le_refl _) _ _ _) r1 r2 HE.out
    have HZ3:=Lib.hid hz3
    have HB3:=Lib.hid hb3
    have HEE:=Lib.hid he
    clear hz3 hb3 he r1 r2
    by_cases c0:a=0
    ·have t0:((a:Int) == 0)=true:=by simp [c0]
     clear hbad c0
     go_wp2_with fail
     clear x0 x1 x2 y0 y1 y2 f0 f1 f2
     rw [←HEE.out]
     generalize ((w6.setCell ⟨w.heap.size,0,none⟩ (.int .u64 0)).setCell ⟨w.heap.size,1,none⟩ (.int .u64 0)).setCell ⟨w.heap.size,2,none⟩ (.slice none 0 0)=WE at HZ3 HB3 ⊢
     obtain ⟨q0,q1,q2⟩:=HZ3.out.three
     exact bodyPost_ret (v := .tuple #[.agg #[.int .u64 0, .int .u64 0, .slice none 0 0], .int .i64 0, .int .i64 4]) (by simp [results,Tryz.results147,go_sem,q0,q1,q2]) rfl ⟨rfl,HB3.out⟩
    ·have t0:((a:Int) == 0)=false:=by simp [c0]
     by_cases c1:v=0
     ·have t1:((v:Int) == 0)=true:=by simp [c1]
      clear hbad c0 c1
      go_wp2_with fail
      clear x0 x1 x2 y0 y1 y2 f0 f1 f2
      rw [←HEE.out]
      generalize ((w6.setCell ⟨w.heap.size,0,none⟩ (.int .u64 0)).setCell ⟨w.heap.size,1,none⟩ (.int .u64 0)).setCell ⟨w.heap.size,2,none⟩ (.slice none 0 0)=WE at HZ3 HB3 ⊢
      obtain ⟨q0,q1,q2⟩:=HZ3.out.three
      exact bodyPost_ret (v := .tuple #[.agg #[.int .u64 0, .int .u64 0, .slice none 0 0], .int .i64 0, .int .i64 4]) (by simp [results,Tryz.results147,go_sem,q0,q1,q2]) rfl ⟨rfl,HB3.out⟩
     ·have t1:((v:Int) == 0)=false:=by simp [c1]
      by_cases c2:pl=0
      ·have t2:((pl:Int) != 0)=false:=by simp [c2]
       have HSE:=Lib.hid (show secsOf n=0 by rcases hbad with h | h | h | h <;> first | exact absurd h ‹_› | exact absurd c2 h | exact h)
       clear hbad c0 c1 c2
       go_wp2_with fail
       refine (secs_any (n:Int) w6).mono ?_
       rintro e w7 ⟨rfl,rfl⟩
       rw [HSE.out]
       go_wp2_with fail
       clear x0 x1 x2 y0 y1 y2 f0 f1 f2
       rw [←HEE.out]
       generalize ((w6.setCell ⟨w.heap.size,0,none⟩ (.int .u64 0)).setCell ⟨w.heap.size,1,none⟩ (.int .u64 0)).setCell ⟨w.heap.size,2,none⟩ (.slice none 0 0)=WE at HZ3 HB3 ⊢
       obtain ⟨q0,q1,q2⟩:=HZ3.out.three
       exact bodyPost_ret (v := .tuple #[.agg #[.int .u64 0, .int .u64 0, .slice none 0 0], .int .i64 0, .int .i64 4]) (by simp [results,Tryz.results147,go_sem,q0,q1,q2]) rfl ⟨rfl,HB3.out⟩
      ·have t2:((pl:Int) != 0)=true:=by simp [c2]
       clear hbad c0 c1 c2
       go_wp2_with fail
       clear x0 x1 x2 y0 y1 y2 f0 f1 f2
       rw [←HEE.out]
       generalize ((w6.setCell ⟨w.heap.size,0,none⟩ (.int .u64 0)).setCell ⟨w.heap.size,1,none⟩ (.int .u64 0)).setCell ⟨w.heap.size,2,none⟩ (.slice none 0 0)=WE at HZ3 HB3 ⊢
       obtain ⟨q0,q1,q2⟩:=HZ3.out.three
       exact bodyPost_ret (v := .tuple #[.agg #[.int .u64 0, .int .u64 0, .slice none 0 0], .int .i64 0, .int .i64 4]) (by simp [results,Tryz.results147,go_sem,q0,q1,q2]) rfl ⟨rfl,HB3.out⟩
   ·have HE:=Lib.hid (show firstE b=0 by rw [HFE2.out,if_neg (by decide),if_neg (fun h=>hbad (HBD.out.1 h))])
    have r1:firstRx b=⟨a,v,[]⟩:=by unfold firstRx;rw [if_pos HE.out,HFX.out]
    have r2:firstNn b=n:=by unfold firstNn;rw [if_pos HE.out,HFN.out]
    obtain ⟨hz3,hb3,he⟩:=FIN.out _ a v n 0 (HK6.out.1.put3 (.int .u64 a) (.int .u64 v) (.slice none 0 0)) (below_put3 HL6.out (Nat.le_refl _) _ _ _) r1 r2 HE.out
    have HZ3:=Lib.hid hz3
    have HB3:=Lib.hid hb3
    have HEE:=Lib.hid he
    have t0:((a:Int) == 0)=false:=by simp;omega
    have t1:((v:Int) == 0)=false:=by simp;omega
    have t2:((pl:Int) != 0)=false:=by simp;omega
    have t3:(((secsOf (n:Int):Nat):Int) == 0)=false:=by simp;omega
    clear hz3 hb3 he r1 r2 hbad
    go_wp2_with fail
    refine (secs_any (n:Int) w6).mono ?_
    rintro e w7 ⟨rfl,rfl⟩
    generalize secsOf (n:Int)=q at t3 ⊢
    go_wp2_with fail
    clear x0 x1 x2 y0 y1 y2 f0 f1 f2
    rw [←HEE.out]
    generalize ((w6.setCell ⟨w.heap.size,0,none⟩ (.int .u64 (a:Int))).setCell ⟨w.heap.size,1,none⟩ (.int .u64 (v:Int))).setCell ⟨w.heap.size,2,none⟩ (.slice none 0 0)=WE at HZ3 HB3 ⊢
    obtain ⟨q0,q1,q2⟩:=HZ3.out.three
    exact bodyPost_ret (v := .tuple #[.agg #[.int .u64 (a:Int), .int .u64 (v:Int), .slice none 0 0], .int .i64 (n:Int), .int .i64 0]) (by simp [results,Tryz.results147,go_sem,q0,q1,q2]) rfl ⟨rfl,HB3.out⟩
  ·have t1:(E != 0)=true:=bne_iff_ne.2 h0
   have h2:str (readL (b.extract 0 64).data.toList)=str (readL (b.extract 0 64).data.toList):=rfl
   generalize str (readL (b.extract 0 64).data.toList)=S at HFR h2 ⊢
   have HE:=Lib.hid (show firstE b=E by rw [HFE2.out,if_pos h0])
   obtain ⟨r1,r2⟩:=BAD.out E HE.out h0
   obtain ⟨hz3,hb3,he⟩:=FIN.out _ 0 0 0 E (HZ1.out.1.put3 (.int .u64 0) (.int .u64 0) (.slice none 0 0)) (below_put3 HB1.out.low (Nat.le_refl _) _ _ _) r1 r2 HE.out
   have HZ3:=Lib.hid hz3
   have HB3:=Lib.hid hb3
   have HEE:=Lib.hid he
   obtain ⟨y0,y1,y2⟩:=HZ1.out.1.three
   have f0:=HZ1.out.1.frozen 0
   have f1:=HZ1.out.1.frozen 1
   have f2:=HZ1.out.1.frozen 2
   clear h0 hz3 hb3 he r1 r2 h2
   go_wp2_with fail
   clear y0 y1 y2 f0 f1 f2
   rw [←HEE.out]
   generalize ((w1.setCell ⟨w.heap.size,0,none⟩ (.int .u64 0)).setCell ⟨w.heap.size,1,none⟩ (.int .u64 0)).setCell ⟨w.heap.size,2,none⟩ (.slice none 0 0)=WE at HZ3 HB3 ⊢
   obtain ⟨q0,q1,q2⟩:=HZ3.out.three
   exact bodyPost_ret (v := .tuple #[.agg #[.int .u64 0, .int .u64 0, .slice none 0 0], .int .i64 0, .int .i64 E]) (by simp [results,Tryz.results147,go_sem,q0,q1,q2]) rfl ⟨rfl,HB3.out⟩
structure ImsAt (o:Nat→Nat) (w wr:World) (V:Value) (n:Nat) (l:List Im):Prop where
 own:OwnS o 2 wr 47 3 V n (imcells l)
 env:Env o w wr
 fut:Fut o wr
theorem own_new {o:Nat→Nat} {w wr:World} {V:Value} {n:Nat} {l:List Im} (h:ImsAt o w wr V n l):∀g,V.ownBlock=some g→w.heap.size≤g:=by
 intro g hg
 rcases Nat.lt_or_ge g w.heap.size with h1 | h1
 ·have h2:=h.env.old g h1
  have h3:=h.own.2 g hg
  omega
 ·exact h1
theorem ImsAt.done {o:Nat→Nat} {w wr:World} {V:Value} {n:Nat} {l:List Im} (h:ImsAt o w wr V n l) (oo:Nat→Nat) (d:Nat):OwnS (band oo w.heap.size wr.heap.size d) d wr 47 3 V n (imcells l) :=
 ⟨h.own.1,fun g hg=>band_in (own_new h g hg) (h.own.lt g hg)⟩
theorem imsG_succ (t:List UInt8) (k:Nat):imsG t (k+1)=imsG t k ++ [imG ((t.take ((k+1)*108)).drop (k*108))]:=by simp [imsG,List.range_succ]
set_option maxRecDepth 100000 in
set_option maxHeartbeats 4000000 in
theorem cimages_any (oo:Nat→Nat) (d:Nat) (t:List UInt8) (n:Nat) (w:World) (hn:n≤60) (ht:n*108≤t.length) (ht2:t.length≤1000000) :
 Calls Tryz.prog 150 #[.string (str t), .int .i64 (n:Int)] w fun e w'=>∃A cap,e = .returned (.slice A n cap)∧OwnS (band oo w.heap.size w'.heap.size d) d w' 47 3 (.slice A n cap) n (imcells (imsG t n))∧Below w.heap.size w w':=by
 obtain ⟨i0,hi0,hz0,hz1,hz2⟩:=info_parts info_im
 have HSX:=Lib.hid (fun lo hi=>extract_str t lo hi)
 have HSZ:=Lib.hid (show (str t).size=t.length from str_size t)
 obtain ⟨b,hb⟩:∃b,b=str t:=⟨_,rfl⟩
 rw [←hb] at HSX HSZ ⊢
 have HSU:=Lib.hid (imsG_succ t)
 have HN0:=Lib.hid (show ¬only 1 0 by unfold only;omega)
 have HN2:=Lib.hid (show ¬only 1 2 by unfold only;omega)
 have hbz:(b.size:Int)=(t.length:Int):=by rw [HSZ.out]
 clear hb
 go_enter Tryz.func150,Tryz.ntmps150
 go_wp2_with fail
 go_loopw [5,10] (fun t5 t10 wr=>∃(k:Nat) (A:Option Addr) (cap:Nat) (o:Nat→Nat),k≤n∧t10 = .int .i64 k∧t5 = .slice A k cap∧ImsAt o w wr (.slice A k cap) k (imsG t k)) (fun _ t10 _=>n - (intOf t10).toNat)
 case atStart=>exact ⟨0,none,0,fun _=>0,by omega,rfl,rfl,⟨OwnS.nil _ _ _ _ _,Env.start w,fun _ _=>rfl⟩⟩
 case round =>
  obtain ⟨k,A,cap,o,hk,rfl,rfl,him⟩:=hrel
  have HIM:=Lib.hid him
  clear him
  by_cases hlt:k<n
  ·have hltI:(k:Int)<(n:Int):=by omega
   obtain ⟨lo,hlo⟩:∃lo,k*108=lo:=⟨_,rfl⟩
   obtain ⟨hi,hhi⟩:∃hi,(k+1)*108=hi:=⟨_,rfl⟩
   have hle:hi≤t.length:=by have:=Nat.mul_le_mul_right 108 (show k+1≤n from hlt);omega
   have e1:(k:Int)*108=(lo:Int):=by omega
   have e2:((k:Int)+1)*108=(hi:Int):=by omega
   have b0:(0:Int)≤(lo:Int):=by omega
   have b1:(lo:Int)≤(hi:Int):=by omega
   have b2:(hi:Int)≤(b.size:Int):=by rw [hbz];omega
   obtain ⟨u,hu⟩:∃u,(t.take hi).drop lo=u:=⟨_,rfl⟩
   have hul:u.length=108:=by rw [←hu,List.length_drop,List.length_take];omega
   have hsx:b.extract lo hi=str u:=by rw [HSX.out,hu]
   have HU:=Lib.hid (show imsG t (k+1)=imsG t k ++ [imG u] by rw [HSU.out,hlo,hhi,hu])
   obtain ⟨s,hs⟩:∃s,s=str u:=⟨_,rfl⟩
   have hss:s.size=108:=by rw [hs,str_size,hul]
   rw [←hs] at hsx
   have s12:(12:Int)≤(s.size:Int):=by omega
   have HS9:=Lib.hid (show s.size≤1000000000 by omega)
   have hs12:s.extract 12 s.size=str (u.drop 12):=by rw [hs,rest_str]
   have HCZ:=Lib.hid (show (str (u.drop 12)).size≤281474976710656 by rw [str_size,List.length_drop];omega)
   have HIG:=Lib.hid (show imG u=⟨((⟨s,0⟩:Rd).numV 4:Nat),((⟨s,0⟩:Rd).numR 4).numV 8,str (u.drop 12)⟩ by rw [hs];rfl)
   clear hlo hhi hle hu hul hs hss
   go_upto_region 7 with (go_at_call 160;refine (newreader_any o 1 s _ HS9.out).mono ?_;rintro e w2 ⟨p,o2,rfl,hrd,hb2,hst2⟩)
   have HS2:=Lib.hid (show Gs 262 o2 w w2 p ⟨s,0⟩ from ⟨hrd,HIM.out.env.step (hst2 (fun _=>False)) (by simp),HIM.out.fut.step (hst2 (fun _=>False))⟩)
   have HO2:=Lib.hid (HIM.out.own.step (hst2 (fun _=>False)) (by simp))
   obtain ⟨a,ha⟩:∃a,a=(⟨s,0⟩:Rd).numV 4:=⟨_,rfl⟩
   obtain ⟨v,hv⟩:∃v,v=((⟨s,0⟩:Rd).numR 4).numV 8:=⟨_,rfl⟩
   have hal:a<4294967296:=by rw [ha];exact numV_lt _ 4 (by omega)
   have hwa:=wrap_small hal
   have HA:=Lib.hid ha
   have HV:=Lib.hid hv
   obtain ⟨D,hD⟩:∃D,D=str (u.drop 12):=⟨_,rfl⟩
   rw [←hD] at hs12 HCZ HIG
   rw [←ha,←hv] at HIG
   clear ha hv hal hD hrd hb2 hst2 hsx
   go_region_held3 (fun _=>True) (first | exact trivial)
    (first
      | (go_at_call 161;((with_reducible refine (rnum_g HS2.out.drew 4).mono ?_);rintro e3 w3 ⟨rfl,o3,hg3,hs3⟩;have ho3:=HO2.out.drew.step hs3 HN2.out;rw [←HA.out]))
      | (go_at_call 161;((with_reducible refine (rnum_g hg3 8).mono ?_);rintro e4 w4 ⟨rfl,o4,hg4,hs4⟩;have ho4:=ho3.step hs4 HN2.out;rw [←HV.out]))
      | (go_at_call 81;((with_reducible refine (clone_any D _ HCZ.out).mono ?_);rintro e5 w5 ⟨rfl,hb5⟩;have hg5:=hg4.below_ hb5;have ho5:=ho4.below_ hb5;have hg6:=hg5.alloc (.cells #[.int .i64 (a:Int), .int .u64 (v:Int), .string D] 47);have ho6:=ho5.alloc (.cells #[.int .i64 (a:Int), .int .u64 (v:Int), .string D] 47)))
      | (refine step_append_S _ rfl (.tmp 22) (.tmp 32) 40 rfl 47 i0 _ 3 32 Tryz.underlying40 hi0 hz0 hz1 hz2 rfl (by omega) (.slice A k cap) k (imcells (imsG t k)) rfl ho6 _ 1 1 [.int .i64 (a:Int), .int .u64 (v:Int), .string D] rfl (Reads.newAt w5 47 3 1 _ #[.int .i64 (a:Int), .int .u64 (v:Int), .string D] _ rfl rfl rfl) (by simp [Value.oneCell']) (by unfold maxLen;omega) (by omega) ?_;intro v7 w7 hown7 hst7 hgr7 hat7;obtain ⟨A7,cap7,rfl,_,_⟩:=own_form' hown7;have HW7:=Lib.hid hown7;have HT7:=Lib.hid hst7;clear hown7 hst7 hgr7 hat7))
   have hF:ImsAt _ w w7 (.slice A7 (k+1) cap7) (k+1) (imsG t (k+1)):=⟨by
    have h:=HW7.out
    rw [HU.out,imcells_app,HIG.out]
    exact h,hg6.env.step HT7.out (by unfold only;omega),hg6.fut.step HT7.out⟩
   have HF:=Lib.hid hF
   clear hF HW7 HT7 hg3 hs3 ho3 hg4 hs4 ho4 hb5 hg5 ho5 hg6 ho6 hwa hs12
   go_wp2_with fail
   go_roundw
   case rel=>exact ⟨k+1,A7,cap7,_,by omega,by go_num,by go_num,HF.out⟩
   case measure=>simp [intOf];omega
  ·have hltI:¬(k:Int)<(n:Int):=by omega
   obtain rfl:k=n:=by omega
   go_wp2_with fail
   go_ret
   exact ⟨A,cap,rfl,HIM.out.done oo d,HIM.out.env.low⟩
structure PlanAt (o:Nat→Nat) (w wr:World) (m:Nat) (f:Int→Option Im):Prop where
 map:MapR o 1 wr m (fm f)
 env:Env o w wr
 fut:Fut o wr
section
variable {o o':Nat→Nat} {w wr w':World} {m:Nat} {f:Int→Option Im} {C:Nat→Prop}
theorem PlanAt.step (h:PlanAt o w wr m f) (hs:Step o C wr o' w') (h0:¬C 0) (h1:¬C 1):PlanAt o' w w' m f:=⟨h.map.step hs h1,h.env.step hs h0,h.fut.step hs⟩
theorem PlanAt.below_ (h:PlanAt o w wr m f) (hb:Below wr.heap.size wr w'):PlanAt o w w' m f:=h.step (Step.of_below o (fun _=>False) hb) id id
theorem PlanAt.alloc (h:PlanAt o w wr m f) (x:Obj):PlanAt o w (wr.alloc x) m f:=h.below_ ((Below.refl _ _).alloc (Nat.le_refl _) x)
theorem PlanAt.setCell (h:PlanAt o w wr m f) {g i:Nat} (hg:o g=0) (hw:w.heap.size≤g) (u:Value):PlanAt o w (wr.setCell ⟨g,i,none⟩ u) m f:=by
 have hs:=(Step.refl o (only 0) wr).setCell (p:=⟨g,i,none⟩) hg u
 refine ⟨h.map.step hs (by unfold only;omega),⟨?_,h.env.old⟩,h.fut.step hs⟩
 have:=h.env.low
 exact this.setCell (p:=⟨g,i,none⟩) hw u
theorem PlanAt.look (h:PlanAt o w wr m f) (k:Int) (x:Im) (hx:f k=some x):(Instr.lookup 164 (.map (some m)) (.int .i64 k) true).run Tryz.prog wr = .ok (.tuple #[.agg #[.int .i64 x.block, .int .u64 x.ver, .string x.data], .bool true]) wr:=by
 have:=h.map.look Tryz.underlying164 Tryz.underlying3 (z := .agg #[.int .i64 0, .int .u64 0, .string ⟨#[]⟩]) (show (zeroValue 47).run Tryz.prog wr=_ by kernel_rfl) k true
 rw [this]
 simp only [fm,hx]
 rfl
theorem PlanAt.miss (h:PlanAt o w wr m f) (k:Int) (hx:f k=none):(Instr.lookup 164 (.map (some m)) (.int .i64 k) true).run Tryz.prog wr = .ok (.tuple #[.agg #[.int .i64 0, .int .u64 0, .string ⟨#[]⟩], .bool false]) wr:=by
 have:=h.map.look Tryz.underlying164 Tryz.underlying3 (z := .agg #[.int .i64 0, .int .u64 0, .string ⟨#[]⟩]) (show (zeroValue 47).run Tryz.prog wr=_ by kernel_rfl) k true
 rw [this]
 simp only [fm,hx]
 rfl
theorem PlanAt.get (h:PlanAt o w wr m f) (k:Int):(Instr.lookup 164 (.map (some m)) (.int .i64 k) false).run Tryz.prog wr = .ok (.agg #[.int .i64 ((f k).getD Im.zero).block, .int .u64 ((f k).getD Im.zero).ver, .string ((f k).getD Im.zero).data]) wr:=by
 have:=h.map.look Tryz.underlying164 Tryz.underlying3 (z := .agg #[.int .i64 0, .int .u64 0, .string ⟨#[]⟩]) (show (zeroValue 47).run Tryz.prog wr=_ by kernel_rfl) k false
 rw [this]
 unfold fm
 cases f k <;> rfl
theorem PlanAt.put (h:PlanAt o w wr m f) (x:Im):∃w',(Instr.mapUpdate 164 (.map (some m)) (.int .i64 x.block) (.agg #[.int .i64 x.block, .int .u64 x.ver, .string x.data])).run Tryz.prog wr = .ok () w'∧PlanAt o w w' m (upd f x.block x):=by
 obtain ⟨w',h1,h2,h3,h4⟩:=h.map.put Tryz.underlying164 Tryz.underlying3 x.block x.agg
 refine ⟨w',h1,⟨?_,h.env.step h3 (by unfold only;omega),h.fut.step h3⟩⟩
 rw [fm_upd]
 exact h2
end
theorem flat_im : ∀ {rs:List Rc},(∀r∈rs,r.images.length≤100)→(rs.flatMap (·.images)).length≤rs.length*100
 | [],_=>Nat.le_refl _
 | r :: rs,h=>by
   rw [List.flatMap_cons,List.length_append,List.length_cons]
   have:=flat_im (rs:=rs) (fun x hx=>h x (List.mem_cons_of_mem _ hx))
   have:=h r (List.mem_cons_self ..)
   omega
def keyG (f:Int→Option Im) (k:Int):Im:=(f k).getD Im.zero
theorem plan_eq (rs:List Rc):planOf rs=(keysOf (rs.flatMap (·.images))).map (keyG (bestOf (rs.flatMap (·.images)))):=rfl
structure OutAt (o:Nat→Nat) (w wr:World) (m:Nat) (f:Int→Option Im) (B:Option Addr) (n cb:Nat) (K:List Int) (V:Value) (l:List Im):Prop where
 plan:PlanAt o w wr m f
 keys:OwnS o 0 wr 3 1 (.slice B n cb) n (K.map encZ)
 out:OwnS o 2 wr 47 3 V l.length (imcells l)
theorem OutAt.step {o o':Nat→Nat} {w wr w':World} {m:Nat} {f:Int→Option Im} {B:Option Addr} {n cb:Nat} {K:List Int} {V:Value} {l:List Im} {C:Nat→Prop} (h:OutAt o w wr m f B n cb K V l) (hs:Step o C wr o' w') (h0:¬C 0) (h1:¬C 1) (h2:¬C 2):OutAt o' w w' m f B n cb K V l :=
 ⟨h.plan.step hs h0 h1,h.keys.step hs h0,h.out.step hs h2⟩
theorem keyRow {w:World} {B:Option Addr} {K:List Int} (h:Reads w 1 B K.length (K.map encZ)) {k:Nat} {x:Int} (hx:K[k]? = some x):∃ad,B=some ad∧w.cell? (ad.add k)=some (.int .i64 x):=by
 have hl:K.map encZ=K.flatMap (fun x => [encZ x]):=by
  clear h hx
  induction K with
  | nil=>rfl
  | cons a l ih=>rw [List.map_cons,List.flatMap_cons,ih];rfl
 rw [hl] at h
 obtain ⟨ad,rfl,hc⟩:=Reads.row (f:=fun x:Int => [encZ x]) (fun _=>rfl) h hx
 refine ⟨ad,rfl,?_⟩
 have:=hc 0 _ rfl
 rw [Nat.mul_one] at this
 exact this
def iRange (k:Int):Prop := -9223372036854775808≤k∧k≤9223372036854775807
set_option maxRecDepth 100000 in
set_option maxHeartbeats 8000000 in
theorem eplan_any (oo:Nat→Nat) (d:Nat) (rs:List Rc) (vs:List Value) (A:Option Addr) (cap:Nat) (w:World) (h:RecsRd w A rs vs) (hl:rs.length≤1000) (hi:∀r∈rs,r.images.length≤100∧∀i∈r.images,i.data.size≤281474976710656∧iRange i.block) :
 Calls Tryz.prog 34 #[.slice A rs.length cap] w fun e w'=>∃A' cap',e = .returned (.slice A' (planOf rs).length cap')∧OwnS (band oo w.heap.size w'.heap.size d) d w' 47 3 (.slice A' (planOf rs).length cap') (planOf rs).length (imcells (planOf rs))∧Below w.heap.size w w':=by
 have HRD:=Lib.hid h
 have HL:=Lib.hid hl
 have HI:=Lib.hid hi
 have hlI:(rs.length:Int)≤1000:=by omega
 obtain ⟨P,hP⟩:∃P,planOf rs=P:=⟨_,rfl⟩
 have HP:=Lib.hid hP
 rw [hP]
 clear h hl hi hP
 obtain ⟨o0,ho,hs0⟩:=alloc_as (fun _=>0) w (.map #[] 0) 1
 have HM0:=Lib.hid (show PlanAt o0 w (w.alloc (.map #[] 0)) w.heap.size (fun _=>none) from ⟨MapR.newAs o0 w 1 ho,(Env.start w).step hs0 id,(show Fut (fun _=>0) w from fun _ _=>rfl).step hs0⟩)
 clear ho hs0
 have hmm := @run_makeMap Tryz.prog
 go_enter Tryz.func34,Tryz.ntmps34
 go_wp2_with fail
 clear hmm
 generalize w.alloc (.map #[] 0)=W0 at HM0 ⊢
 go_loopw [16] (fun t16 wr=>∃(j:Nat) (o1:Nat→Nat),j≤rs.length∧t16 = .int .i64 j∧PlanAt o1 w wr w.heap.size (bestOf ((rs.take j).flatMap (·.images)))) (fun t16 _=>rs.length - (intOf t16).toNat)
 case atStart=>exact ⟨0,o0,by omega,rfl,HM0.out⟩
 case round =>
  obtain ⟨j,o1,hj,rfl,hp⟩:=hrel
  have HP1:=Lib.hid hp
  have HJ:=Lib.hid hj
  clear hp
  by_cases hlt:j<rs.length
  ·have hltI:(j:Int)<(rs.length:Int):=by omega
   have HJL:=Lib.hid hlt
   obtain ⟨r,hr⟩:∃r,rs[j]? = some r:=⟨_,List.getElem?_eq_getElem hlt⟩
   obtain ⟨ad,B,cp,rfl,y0,y1,y2,hrd⟩:=HRD.out.row hr
   have y0:=cell_below y0 HP1.out.env.low
   have y1:=cell_below y1 HP1.out.env.low
   have y2:=cell_below y2 HP1.out.env.low
   have HTK:=Lib.hid (take_im hr)
   obtain ⟨hr1,hr2⟩:=HI.out r (List.mem_of_getElem? hr)
   have HR1:=Lib.hid hr1
   have HR2:=Lib.hid hr2
   have hrI:(r.images.length:Int)≤100:=by omega
   have HRI:=Lib.hid hrd
   have HP2:=Lib.hid (HP1.out.alloc (.cells #[.int .u64 r.epoch, .int .u64 r.lsn, .slice B r.images.length cp] 160))
   have HXR:=Lib.hid (Blk.new wr 160 #[.int .u64 r.epoch, .int .u64 r.lsn, .slice B r.images.length cp])
   clear hr hrd hr1 hr2
   go_upto_region 5 with (fail)
   generalize wr.alloc (.cells #[.int .u64 r.epoch, .int .u64 r.lsn, .slice B r.images.length cp] 160)=W1 at HP2 HXR ⊢
   generalize wr.heap.size=XR at HXR ⊢
   clear y0 y1 y2
   obtain ⟨x0,x1,x2⟩:=HXR.out.three
   go_wp2_with fail
   clear x0 x1 x2
   obtain ⟨PRE,hPRE⟩:∃l,(rs.take j).flatMap (·.images)=l:=⟨_,rfl⟩
   rw [hPRE] at HP2 HTK
   obtain ⟨L,hL⟩:∃l,r.images=l:=⟨_,rfl⟩
   rw [hL] at HTK HR1 HR2 hrI HRI ⊢
   clear hPRE hL
   go_loopw [23] (fun t23 wi=>∃(i:Nat) (o2:Nat→Nat),i≤L.length∧t23 = .int .i64 i∧PlanAt o2 w wi w.heap.size (bestOf (PRE++L.take i))) (fun t23 _=>L.length - (intOf t23).toNat)
   case atStart=>exact ⟨0,o1,by omega,rfl,by rw [List.take_zero,List.append_nil];exact HP2.out⟩
   case round =>
    obtain ⟨i,o2,hi,rfl,hp2⟩:=hrel
    by_cases hlt2:i<L.length
    ·have hlt2I:(i:Int)<(L.length:Int):=by omega
     have HIL:=Lib.hid hlt2
     obtain ⟨x,hx⟩:∃x,L[i]? = some x:=⟨_,List.getElem?_eq_getElem hlt2⟩
     obtain ⟨ai,rfl,y0,y1,y2⟩:=(HRI.out.below' (by omega) hp2.env.low).imrow hx
     have HXB:=Lib.hid (HR2.out x (List.mem_of_getElem? hx))
     have HTX:=Lib.hid (show bestOf (PRE++L.take (i+1))=bestStep (bestOf (PRE++L.take i)) x by rw [List.take_add_one,hx,Option.toList_some,←List.append_assoc,bestOf_add])
     generalize bestOf (PRE++L.take i)=f at HTX hp2
     have HP3:=Lib.hid (hp2.alloc (.cells #[.int .i64 x.block, .int .u64 x.ver, .string x.data] 47))
     have HX3:=Lib.hid (Keep.new hp2.fut 47 #[.int .i64 x.block, .int .u64 x.ver, .string x.data])
     have HXW:=Lib.hid (show w.heap.size≤wr.heap.size from hp2.env.low.size)
     clear hp2 hx
     go_upto_region 8 with (fail)
     generalize wr.alloc (.cells #[.int .i64 x.block, .int .u64 x.ver, .string x.data] 47)=W3 at HP3 HX3 ⊢
     generalize wr.heap.size=X at HX3 HXW ⊢
     clear y0 y1 y2
     obtain ⟨z0,z1,z2⟩:=HX3.out.1.three
     have PUT:=Lib.hid (fun (W:World) (hp:PlanAt o2 w W w.heap.size f) (hx:Keep o2 W X 47 #[.int .i64 x.block, .int .u64 x.ver, .string x.data])=>(hp.setCell (g:=X) (i:=2) hx.2 HXW.out (.string x.data)).put x)
     cases hfx:f x.block with
     | none =>
       have hlook:=HP3.out.miss x.block hfx
       have HB:=Lib.hid (show bestOf (PRE++L.take (i+1))=upd f x.block x by rw [HTX.out,best_none hfx])
       have HP4:=Lib.hid (HP3.out.alloc (.cells #[.int .i64 0, .int .u64 0, .string ⟨#[]⟩] 47))
       have HX4:=Lib.hid (HX3.out.alloc (.cells #[.int .i64 0, .int .u64 0, .string ⟨#[]⟩] 47))
       clear hfx
       go_upto_region 10 with (fail)
       generalize W3.alloc (.cells #[.int .i64 0, .int .u64 0, .string ⟨#[]⟩] 47)=W4 at HP4 HX4 ⊢
       obtain ⟨v0,v1,v2⟩:=HX4.out.1.three
       clear z0 z1 z2 hlook
       go_wp2_with fail
       refine (clone_any x.data W4 HXB.out.1).mono ?_
       rintro e w5 ⟨rfl,hb5⟩
       have HP5:=Lib.hid (HP4.out.below_ hb5)
       have HX5:=Lib.hid (HX4.out.below_ hb5)
       obtain ⟨w6,hput,hp6⟩:=PUT.out w5 HP5.out HX5.out
       have HP6:=Lib.hid hp6
       obtain ⟨y0,y1,y2⟩:=HX5.out.1.three
       have f2:=HX5.out.1.frozen 2
       clear hb5 hp6 v0 v1 v2
       go_wp2_with fail
       go_roundw
       case rel=>exact ⟨i+1,o2,by have:=HIL.out;omega,by go_num,by rw [HB.out];exact HP6.out⟩
       case measure=>have:=HIL.out;simp [intOf];omega
     | some was =>
       have hlook:=HP3.out.look x.block was hfx
       have HP4:=Lib.hid (HP3.out.alloc (.cells #[.int .i64 was.block, .int .u64 was.ver, .string was.data] 47))
       have HX4:=Lib.hid (HX3.out.alloc (.cells #[.int .i64 was.block, .int .u64 was.ver, .string was.data] 47))
       have HBS:=Lib.hid (best_some hfx)
       have HY4:=Lib.hid (Blk.new W3 47 #[.int .i64 was.block, .int .u64 was.ver, .string was.data])
       clear hfx
       go_upto_region 9 with (fail)
       generalize W3.alloc (.cells #[.int .i64 was.block, .int .u64 was.ver, .string was.data] 47)=W4 at HP4 HX4 HY4 ⊢
       generalize W3.heap.size=Y at HY4 ⊢
       obtain ⟨v0,v1,v2⟩:=HX4.out.1.three
       obtain ⟨u0,u1,u2⟩:=HY4.out.three
       clear z0 z1 z2 hlook
       by_cases hv:was.ver≤x.ver
       ·have HB:=Lib.hid (show bestOf (PRE++L.take (i+1))=upd f x.block x by rw [HTX.out,HBS.out,if_pos hv])
        have hvI:(was.ver:Int)≤(x.ver:Int):=by omega
        have hvI2:¬(x.ver:Int)<(was.ver:Int):=by omega
        clear hv
        go_wp2_with fail
        refine (clone_any x.data W4 HXB.out.1).mono ?_
        rintro e w5 ⟨rfl,hb5⟩
        have HP5:=Lib.hid (HP4.out.below_ hb5)
        have HX5:=Lib.hid (HX4.out.below_ hb5)
        obtain ⟨w6,hput,hp6⟩:=PUT.out w5 HP5.out HX5.out
        have HP6:=Lib.hid hp6
        obtain ⟨y0,y1,y2⟩:=HX5.out.1.three
        have f2:=HX5.out.1.frozen 2
        clear hb5 hp6 v0 v1 v2 u0 u1 u2
        go_wp2_with fail
        go_roundw
        case rel=>exact ⟨i+1,o2,by have:=HIL.out;omega,by go_num,by rw [HB.out];exact HP6.out⟩
        case measure=>have:=HIL.out;simp [intOf];omega
       ·have HB:=Lib.hid (show bestOf (PRE++L.take (i+1))=f by rw [HTX.out,HBS.out,if_neg hv])
        have hvI:¬(was.ver:Int)≤(x.ver:Int):=by omega
        have hvI2:(x.ver:Int)<(was.ver:Int):=by omega
        clear hv
        go_wp2_with fail
        go_roundw
        case rel=>exact ⟨i+1,o2,by have:=HIL.out;omega,by go_num,by rw [HB.out];exact HP4.out⟩
        case measure=>have:=HIL.out;simp [intOf];omega
    ·have hlt2I:¬(i:Int)<(L.length:Int):=by omega
     obtain rfl:i=L.length:=by omega
     rw [List.take_length,←HTK.out] at hp2
     have HP9:=Lib.hid hp2
     clear hp2
     go_wp2_with fail
     go_roundw
     case rel=>exact ⟨j+1,o2,by have:=HJL.out;omega,by go_num,HP9.out⟩
     case measure=>have:=HJL.out;simp [intOf];omega
  ·have hltI:¬(j:Int)<(rs.length:Int):=by omega
   obtain rfl:j=rs.length:=by omega
   rw [List.take_length] at HP1
   have HPE:=Lib.hid (show P=(keysOf (rs.flatMap (·.images))).map (keyG (bestOf (rs.flatMap (·.images)))) by rw [←HP.out,plan_eq])
   have hall:(rs.flatMap (·.images)).length≤100000:=by have:=flat_im (fun r hr=>(HI.out r hr).1);have:=HL.out;omega
   have hrange:∀k∈((rs.flatMap (·.images)).map (·.block)).eraseDups,iRange k:=by
    intro k hk
    rw [List.mem_eraseDups,List.mem_map] at hk
    obtain ⟨x,hx,rfl⟩:=hk
    obtain ⟨r,hr,hx⟩:=List.mem_flatMap.1 hx
    exact ((HI.out r hr).2 x hx).2
   have HBK:=Lib.hid (best_keys (rs.flatMap (·.images)))
   generalize rs.flatMap (·.images)=ALL at HP1 HPE hall hrange HBK
   have hdl:(ALL.map (·.block)).eraseDups.length≤100000:=by have:=dups_len (ALL.map (·.block));rw [List.length_map] at this;omega
   generalize bestOf ALL=f at HP1 HPE HBK
   obtain ⟨nn,D0,hown,hperm,hsz⟩:=mapR_keys HP1.out.map Tryz.underlying3 (ALL.map (·.block)).eraseDups (nodup_dups _) (fun k=>by rw [List.mem_eraseDups,←HBK.out k];unfold fm;cases f k <;> rfl) hrange (by omega)
   have HSRT:=Lib.hid (sorted_any w.heap.size nn D0 _ wr hown hsz)
   obtain ⟨K,hK⟩:∃K,keysOf ALL=K:=⟨_,rfl⟩
   have hkl:K.length=(ALL.map (·.block)).eraseDups.length:=by rw [←hK];unfold keysOf;rw [List.length_mergeSort]
   have HKP:=Lib.hid (show ∀ss:List Int,ss.Perm (intKeys D0)→ss.mergeSort (fun x y=>decide (x≤y))=K∧ss.length=K.length from fun ss h=>by
    have h1:=h.trans hperm
    refine ⟨?_,by rw [hkl];exact h1.length_eq⟩
    rw [←hK]
    exact mergeSort_of_perm_i h1)
   have HKL:=Lib.hid (show K.length≤100000 by omega)
   rw [hK] at HPE
   have HFZ:=Lib.hid (HP1.out.fut)
   clear hown hperm hsz hrange hall hdl hkl hK HBK
   go_wp2_with fail
   refine (mkeys_any (some w.heap.size) wr).mono ?_
   rintro e w1 ⟨rfl,rfl⟩
   go_wp2_with fail
   refine HSRT.out.mono ?_
   rintro e w2 ⟨v,ss,rfl,hss,hrow,hb2⟩
   obtain ⟨k1,k2⟩:=HKP.out ss hss
   rw [k1,k2] at hrow
   have hko:=own_from (o:=o1) (c:=0) hrow (fun g hg=>HFZ.out g (by omega))
   obtain ⟨B,cb,rfl,_,_⟩:=own_form' hko
   have hp2:PlanAt o1 w w2 w.heap.size f:=(HP1.out.alloc (.cells #[.map (some w.heap.size)] 164)).below_ (by rw [show (wr.alloc (.cells #[.map (some w.heap.size)] 164)).heap.size=wr.heap.size+1 by simp];exact hb2)
   have HO2:=Lib.hid (show OutAt o1 w w2 w.heap.size f B K.length cb K (.slice none 0 0) [] from ⟨hp2,hko,OwnS.nil _ _ _ _ _⟩)
   obtain ⟨i0,hi0,hz0,hz1,hz2⟩:=info_parts info_im
   have hKI:(K.length:Int)≤100000:=by have:=HKL.out;omega
   clear hss hrow hb2 k1 k2 hko hp2 HP1 HFZ HKP HSRT
   go_wp2_with fail
   go_loopw [10,57] (fun t10 t57 wr=>∃(i:Nat) (A':Option Addr) (cap':Nat) (o3:Nat→Nat),i≤K.length∧t10 = .slice A' i cap'∧t57 = .int .i64 i∧OutAt o3 w wr w.heap.size f B K.length cb K (.slice A' i cap') ((K.take i).map (keyG f))) (fun _ t57 _=>K.length - (intOf t57).toNat)
   case atStart=>exact ⟨0,none,0,o1,by omega,rfl,rfl,HO2.out⟩
   case round =>
    obtain ⟨i,A',cap',o3,hi,rfl,rfl,hout⟩:=hrel
    by_cases hlt2:i<K.length
    ·have hlt2I:(i:Int)<(K.length:Int):=by omega
     have HIL:=Lib.hid hlt2
     obtain ⟨x,hx⟩:∃x,K[i]? = some x:=⟨_,List.getElem?_eq_getElem hlt2⟩
     obtain ⟨ad,rfl,y0⟩:=keyRow (Reads.of_own hout.keys.1) hx
     have hget:=hout.plan.get x
     have HTK:=Lib.hid (show (K.take (i+1)).map (keyG f)=(K.take i).map (keyG f) ++ [keyG f x] by rw [List.take_add_one,hx,Option.toList_some,List.map_append];rfl)
     have hll:((K.take i).map (keyG f)).length=i:=by rw [List.length_map,List.length_take];omega
     rw [show (f x).getD Im.zero=keyG f x from rfl] at hget
     obtain ⟨X,hX⟩:∃X,keyG f x=X:=⟨_,rfl⟩
     rw [hX] at HTK hget
     generalize (K.take i).map (keyG f)=l at HTK hll hout
     subst hll
     have HOU:=Lib.hid (hout.step ((Step.refl o3 (fun _=>False) wr).alloc (.cells #[.int .i64 X.block, .int .u64 X.ver, .string X.data] 47)) id id id)
     have hl1:l.length≤100000:=by have:=HKL.out;omega
     clear hx hX hout
     go_wp2_with (at_builtin;refine wpList_append_S _ rfl (.tmp 61) (.tmp 65) 40 rfl 47 i0 _ 3 32 Tryz.underlying40 hi0 hz0 hz1 hz2 rfl (by omega) (.slice A' l.length cap') l.length (imcells l) rfl HOU.out.out (some ⟨wr.heap.size,0,none⟩) 1 1 [.int .i64 X.block, .int .u64 X.ver, .string X.data] rfl (Reads.newAt wr 47 3 1 _ #[.int .i64 X.block, .int .u64 X.ver, .string X.data] _ rfl rfl rfl) (by simp [Value.oneCell']) (by unfold maxLen;omega) (by omega) ?_;intro v7 w7 hown7 hst7 hgr7 hat7)
     obtain ⟨A7,cap7,rfl,_,_⟩:=own_form' hown7
     have h8:=HOU.out.plan.step hst7 (by unfold only;omega) (by unfold only;omega)
     have h9:=HOU.out.keys.step hst7 (by unfold only;omega)
     have hlen:(l ++ [X]).length=l.length+1:=by rw [List.length_append];rfl
     have HF:=Lib.hid (show OutAt _ w w7 w.heap.size f (some ad) K.length cb K (.slice A7 (l.length+1) cap7) (l ++ [X]) from ⟨h8,h9,by rw [hlen,imcells_app];exact hown7⟩)
     clear hown7 hst7 hgr7 hat7 h8 h9 hlen
     refine ⟨⟨l.length+1,A7,cap7,_,by have:=HIL.out;omega,rfl,by go_num,by rw [HTK.out];exact HF.out⟩,?_⟩
     have:=HIL.out
     simp [intOf]
     omega
    ·have hlt2I:¬(i:Int)<(K.length:Int):=by omega
     obtain rfl:i=K.length:=by omega
     rw [List.take_length,←HPE.out] at hout
     have hpl:P.length=K.length:=by rw [HPE.out,List.length_map]
     have HOU:=Lib.hid hout
     have HPL:=Lib.hid hpl
     clear hout hpl
     go_wp2_with fail
     go_ret
     have h9:=HOU.out.out
     have h10:=HOU.out.plan.env
     have hnew:∀g,(Value.slice A' P.length cap').ownBlock=some g→w.heap.size≤g:=by
      intro g hg
      rcases Nat.lt_or_ge g w.heap.size with h1 | h1
      ·have h2:=h10.old g h1
       have h3:=h9.2 g (by rw [←HPL.out];exact hg)
       omega
      ·exact h1
     rw [←HPL.out] at h9 ⊢
     exact ⟨A',cap',rfl,⟨h9.1,fun g hg=>band_in (hnew g hg) (h9.lt g hg)⟩,h10.low⟩
theorem made_zer (n:Nat):(madeCells #[.int .u8 0] (n*1)).toList=bvs (zer n):=by
 unfold madeCells
 rw [Nat.mul_one,Array.toList_map,Array.toList_range]
 have e:∀l:List Nat,l.map (fun x:Nat=>(#[Value.int .u8 0])[x % (#[Value.int .u8 0]).size]!)=List.replicate l.length (Value.int .u8 0):=by
  intro l
  induction l with
  | nil=>rfl
  | cons a l ih =>
    rw [List.map_cons,ih,List.length_cons,List.replicate_succ]
    have:a % (#[Value.int IntKind.u8 0]).size=0:=Nat.mod_one a
    rw [this]
    rfl
 rw [e,List.length_range]
 unfold bvs zer
 rw [List.map_replicate]
 rfl
theorem mkbytes (w:World) (n:Nat) (hn:n≤100000):∃w',(Instr.makeSlice 84 (.int .i64 (n:Int)) (.int .i64 (n:Int))).run Tryz.prog w = .ok (.slice (some ⟨w.heap.size,0,none⟩) n n) w' ∧
 w'.ownsRow w.heap.size 5 1 (.slice (some ⟨w.heap.size,0,none⟩) n n) n (bvs (zer n))∧Below w.heap.size w w'∧(convert 84 9 (.slice (some ⟨w.heap.size,0,none⟩) n n)).run Tryz.prog w' = .ok (.string (str (zer n))) w':=by
 obtain ⟨i0,hi,hz0,hz1,hz2⟩:=info_parts info_u8
 obtain ⟨w',h1,h2,h3⟩:=run_makeSlice_full (w:=w) w.heap.size 84 5 i0 _ 1 Tryz.underlying84 hi hz0 hz1 .i64 .i64 n (by omega) (by rw [hz2];omega) (by unfold maxLen;omega) (Nat.le_refl _)
 have h2':w'.ownsRow w.heap.size 5 1 (.slice (some ⟨w.heap.size,0,none⟩) n n) n (bvs (zer n)):=by
  rw [←made_zer n]
  exact h2
 refine ⟨w',h1,h2',⟨h3.os,h3.tape,h3.output,h3.size,fun k hk=>h3.block k hk (by simp)⟩,?_⟩
 have h4:OwnS (fun _=>0) 0 w' 5 1 (.slice (some ⟨w.heap.size,0,none⟩) (zer n).length n) (zer n).length (bvs (zer n)):=by
  rw [zer_len]
  exact own_from h2' (fun _ _=>rfl)
 have:=conv_own 84 9 Tryz.underlying84 Tryz.underlying5 Tryz.underlying9 h4
 rw [zer_len] at this
 exact this
theorem xval' (s:ByteArray) (v:Nat) (hv:sumOf s.data.toList=v) (w:World) (hs:s.size≤maxLen) :
 Calls Tryz.prog 164 #[.string s] w fun e w'=>e = .returned (.int .u32 (v:Int))∧w=w':=hv▸xsum_any s w hs
set_option maxRecDepth 100000 in
set_option maxHeartbeats 2000000 in
theorem xstamp_any (s:ByteArray) (hs:s.size≤60) (w:World):Calls Tryz.prog 92 #[.string s, .int .i64 64] w fun e w'=>e = .returned (.tuple #[.string (str (stampL s.data.toList 64)), .int .i64 0])∧Below w.heap.size w w':=by
 obtain ⟨n,hn⟩:∃n,60 - s.size=n:=⟨_,rfl⟩
 obtain ⟨w',h1,_,h3,h4⟩:=mkbytes w n (by omega)
 have hI:¬(60:Int)<(s.size:Int):=by omega
 have e1:IntKind.i64.wrap 60=60:=by rw [IntKind.wrap_i64];decide
 have e2:IntKind.i64.wrap (60 - (s.size:Int))=(n:Int):=by rw [IntWalk.i64_in _ (by omega)];omega
 obtain ⟨T,hT⟩:∃T,s++str (zer n)=T:=⟨_,rfl⟩
 have hTS:T.size=60:=by rw [←hT,ByteArray.size_append,str_size,zer_len];omega
 have hTL:T.data.toList=padL s.data.toList 64:=by
  rw [←hT]
  have h5:=str_append s.data.toList (zer n)
  rw [str_of] at h5
  rw [h5,str_list]
  unfold padL
  have:s.data.toList.length=s.size:=rfl
  rw [this,←hn]
 have hcat:¬9223372036854775807<s.size+(str (zer n)).size:=by rw [str_size,zer_len];omega
 obtain ⟨Z,hZ⟩:∃Z,str (zer n)=Z:=⟨_,rfl⟩
 rw [hZ] at hT hcat h4
 have HB:=Lib.hid h3
 have HTS:=Lib.hid (show T.size≤maxLen by unfold maxLen;omega)
 obtain ⟨v,hv⟩:∃v,sumOf T.data.toList=v:=⟨_,rfl⟩
 have HV:=Lib.hid hv
 have HVL:=Lib.hid (show v<4294967296 by rw [←hv];exact sumOf_lt _)
 have HR:=Lib.hid (show T++str (four v)=str (stampL s.data.toList 64) by
  have h5:=str_append T.data.toList (four v)
  rw [str_of] at h5
  rw [h5,←hv,hTL]
  rfl)
 have h4s:(str (four v)).size=4:=by rw [str_size];simp [four,le_len]
 have hcat2:¬9223372036854775807<T.size+(str (four v)).size:=by rw [h4s];omega
 obtain ⟨Q,hQ⟩:∃Q,str (four v)=Q:=⟨_,rfl⟩
 rw [hQ] at HR hcat2
 have HQ:=Lib.hid hQ
 clear h3 hTS hTL hZ hv h4s hQ hs
 go_enter Tryz.func92,Tryz.ntmps92
 go_wp2_with fail
 refine (xval' T v HV.out _ HTS.out).mono ?_
 rintro e w2 ⟨rfl,rfl⟩
 go_wp2_with fail
 refine (xfour_any v HVL.out _).mono ?_
 rintro e w3 ⟨rfl,hb3⟩
 rw [HQ.out]
 have HB3:=Lib.hid (HB.out.trans (hb3.mono HB.out.size))
 clear hb3
 go_wp2_with fail
 go_ret2
 exact ⟨by rw [←HR.out];rfl,HB3.out⟩
set_option maxRecDepth 100000 in
set_option maxHeartbeats 2000000 in
theorem refvalid_any (w:World):Calls Tryz.prog 84 #[.agg #[.int .i64 2, .int .i64 10, .int .i64 8, .int .i64 4, .int .i64 32]] w fun e w'=>e = .returned (.bool true)∧Below w.heap.size w w':=by
 have HB:=Lib.hid ((Below.refl w.heap.size w).alloc (Nat.le_refl _) (.cells #[.int .i64 2, .int .i64 10, .int .i64 8, .int .i64 4, .int .i64 32] 28))
 obtain ⟨x0,x1,x2,x3,x4⟩:=(Blk.new w 28 #[.int .i64 2, .int .i64 10, .int .i64 8, .int .i64 4, .int .i64 32]).five
 go_enter Tryz.func84,Tryz.ntmps84
 go_wp2_with fail
 go_ret
 exact ⟨rfl,HB.out⟩
set_option maxRecDepth 100000 in
set_option maxHeartbeats 2000000 in
theorem refsize_any (w:World):Calls Tryz.prog 37 #[.agg #[.int .i64 2, .int .i64 10, .int .i64 8, .int .i64 4, .int .i64 32]] w fun e w'=>e = .returned (.int .i64 37)∧Below w.heap.size w w':=by
 have HB:=Lib.hid ((Below.refl w.heap.size w).alloc (Nat.le_refl _) (.cells #[.int .i64 2, .int .i64 10, .int .i64 8, .int .i64 4, .int .i64 32] 28))
 have HK:=Lib.hid (Blk.new w 28 #[.int .i64 2, .int .i64 10, .int .i64 8, .int .i64 4, .int .i64 32])
 have e1:IntKind.i64.wrap 16=16:=by rw [IntKind.wrap_i64];decide
 have e2:IntKind.i64.wrap 17=17:=by rw [IntKind.wrap_i64];decide
 have e3:IntKind.i64.wrap 20=20:=by rw [IntKind.wrap_i64];decide
 have e4:IntKind.i64.wrap 37=37:=by rw [IntKind.wrap_i64];decide
 go_enter Tryz.func37,Tryz.ntmps37
 obtain ⟨z0,z1,z2,z3,z4⟩:=HK.out.five
 go_wp2_with fail
 refine (refvalid_any _).mono ?_
 rintro e w1 ⟨rfl,hb1⟩
 have HB1:=Lib.hid (HB.out.trans (hb1.mono HB.out.size))
 obtain ⟨x0,x1,x2,x3,x4⟩:=(HK.out.below_ hb1).five
 clear hb1 z0 z1 z2 z3 z4
 go_wp2_with fail
 go_ret
 exact ⟨rfl,HB1.out⟩
theorem shape9_any (w:World):Calls Tryz.prog 35 #[] w fun e w'=>e = .returned (.agg #[.int .i64 2, .int .i64 10, .int .i64 8, .int .i64 4, .int .i64 32])∧Below w.heap.size w w':=by
 have hb:=(Blk.new w 28 #[.int .i64 2, .int .i64 10, .int .i64 8, .int .i64 4, .int .i64 32])
 obtain ⟨q0,q1,q2,q3,q4⟩:=hb.five
 have HB:=Lib.hid ((Below.refl w.heap.size w).alloc (Nat.le_refl _) (.cells #[.int .i64 2, .int .i64 10, .int .i64 8, .int .i64 4, .int .i64 32] 28))
 go_enter Tryz.func35,Tryz.ntmps35
 go_wp2_with fail
 exact bodyPost_ret (v := .agg #[.int .i64 2, .int .i64 10, .int .i64 8, .int .i64 4, .int .i64 32]) (by simp [results,Tryz.results35,go_sem,q0,q1,q2,q3,q4]) rfl ⟨rfl,HB.out⟩
def bs8 : List UInt8 := [67,79,77,77,79,78,83,49]
theorem xfail_blk {p:Nat} {V:Value} {w:World} (hb:Blk w p 177 #[V, .int .i64 0]):Calls Tryz.prog 162 #[.pointer (some ⟨p,0,none⟩), .int .i64 0] w fun r w'=>r = .returned (.bool false)∧w'=w.setCell ⟨p,1,none⟩ (.int .i64 0):=by
 have x1:w.cell? ⟨p,1,none⟩=some (.int .i64 0):=hb.cell 1
 have f1:=hb.frozen 1
 clear hb
 go_enter Tryz.func162,Tryz.ntmps162
 go_wp2
 go_ret
 exact ⟨rfl,rfl⟩
set_option maxRecDepth 100000 in
set_option maxHeartbeats 2000000 in
theorem xnum_first {o:Nat→Nat} {c p g:Nat} {w:World} (hb:Blk w p 177 #[.slice (some ⟨g,0,none⟩) 8 8, .int .i64 0]) (hc:o p=c) (hgl:g<w.heap.size) (hog:o g≠c) (hrd:∀j u,(bvs bs8)[j]? = some u→w.cell? ((⟨g,0,none⟩:Addr).add j)=some u) (v:Nat) (hv:v<4294967296) :
 Calls Tryz.prog 91 #[.pointer (some ⟨p,0,none⟩), .int .u64 v, .int .i64 4] w fun r w'=>r = .returned (.tuple #[])∧∃o',WrAt 177 o' c w' p ⟨bs8++le v 4,0⟩∧Step o (only c) w o' w':=by
 obtain ⟨i0,hi0,hz0,hz1,hz2⟩:=info_parts info_u8
 have HB0:=Lib.hid hb
 have HC:=Lib.hid hc
 have HGL:=Lib.hid hgl
 have HOG:=Lib.hid hog
 have HRD:=Lib.hid hrd
 have HV0:=Lib.hid hv
 have HB1:=Lib.hid (hb.set_ 1 (.int .i64 0))
 have HS1:=Lib.hid ((Step.refl o (only c) w).setCell (p:=⟨p,1,none⟩) hc (.int .i64 0))
 have HPL:=Lib.hid hb.lt
 clear hb hc hgl hog hrd hv
 go_enter Tryz.func91,Tryz.ntmps91
 go_wp2_with fail
 refine (xfail_blk HB0.out).mono ?_
 rintro e w1 ⟨rfl,rfl⟩
 generalize w.setCell ⟨p,1,none⟩ (.int .i64 0)=W1 at HB1 HS1 ⊢
 go_wp2_with fail
 go_loopw [1,6,7] (fun t1 t6 t7 wr=>∃(k:Nat) (o':Nat→Nat),k≤4∧t7 = .int .i64 k∧t1 = .int .u64 ((v / 256 ^ k:Nat):Int)∧OwnS o' (c+1) wr 5 1 t6 k (bvs (le v k))∧(∀g,t6.ownBlock=some g→w.heap.size≤g)∧Blk wr p 177 #[.slice (some ⟨g,0,none⟩) 8 8, .int .i64 0]∧Step o (only c) w o' wr) (fun _ _ t7 _=>4 - (intOf t7).toNat)
 case atStart=>exact ⟨0,o,Nat.zero_le _,rfl,by simp,OwnS.nil _ _ _ _ _,by simp [Value.ownBlock],HB1.out,HS1.out⟩
 case round =>
  obtain ⟨k,o1,hk,rfl,rfl,hown6,hblk6,hw,hst⟩:=hrel
  obtain ⟨A6,cap6,rfl,hle6,hcap6⟩:=own_form' hown6
  unfold maxLen at hcap6
  have hu:v / 256 ^ k<18446744073709551616:=Nat.lt_of_le_of_lt (Nat.div_le_self _ _) (by have:=HV0.out;omega)
  have HNX:=Lib.hid (show v / 256 ^ (k+1)=v / 256 ^ k / 256 by rw [Nat.pow_succ,Nat.div_div_eq_div_mul])
  have HSN:=Lib.hid (show le v (k+1)=le v k ++ [UInt8.ofNat (v / 256 ^ k)] from rfl)
  have HZ4:=Lib.hid (show k=4→v / 256 ^ k=0 from fun e=>by rw [e];exact Nat.div_eq_of_lt HV0.out)
  generalize v / 256 ^ k=u at hu HNX HSN HZ4
  have HO6:=Lib.hid hown6
  have HB6:=Lib.hid hblk6
  have HWK:=Lib.hid hw
  have HST:=Lib.hid hst
  clear hown6 hblk6 hw hst
  by_cases hlt:k<4
  ·have hltI:(k:Int)<4:=by omega
   have HU:=Lib.hid hu
   clear hu
   go_wp2_with (at_builtin;refine wpList_append_S _ rfl (.tmp 23) (.tmp 27) 84 rfl 5 i0 _ 1 1 Tryz.underlying84 hi0 hz0 hz1 hz2 rfl (by omega) (.slice A6 k cap6) k (bvs (le v k)) rfl (HO6.out.alloc _) (some ⟨wr.heap.size,0,none⟩) 1 1 [.int .u8 ((u:Int) % 256)] rfl (Reads.newAt wr 5 1 1 [.int .u8 ((u:Int) % 256)] #[.int .u8 ((u:Int) % 256)] wr.heap.size rfl rfl rfl) (by simp [Value.oneCell']) (by unfold maxLen;omega) (by omega) ?_;intro v2 w2 hown hst hg hat;have HO2:=Lib.hid hown;have HS2:=Lib.hid hst;have HG2:=Lib.hid hg;have HA2:=Lib.hid hat;clear hown hst hg hat)
   go_roundw
   case rel =>
    have hbv:bvs (le v k) ++ [.int .u8 ((u:Int) % 256)]=bvs (le v (k+1)):=by
     rw [HSN.out,bvs_app]
     simp [bvs,bv]
    have hst0:=HST.out.size
    refine ⟨k+1,_,by omega,by go_num,by rw [HNX.out,IntKind.wrap_u64];have h9:=HU.out;congr 1;omega,by rw [←hbv];exact HO2.out,?_,(HWK.out.alloc _).step HS2.out (by rw [HST.out.old p HPL.out,HC.out];unfold only;omega),(HST.out.alloc _).grownNew (c+1) HG2.out HB6.out⟩
    intro g hg
    rcases HA2.out with h2 | h2
    ·exact HB6.out g (h2▸hg)
    ·rw [h2] at hg
     injection hg with hg
     simp at hg
     omega
   case measure=>simp [intOf];omega
  ·have hltI:¬(k:Int)<4:=by omega
   obtain rfl:k=4:=by omega
   obtain rfl:u=0:=HZ4.out rfl
   have hbg:wr.heap[g]? = w.heap[g]? := HST.out.block g HGL.out HOG.out
   have HCL:=Lib.hid (show ∀b,some (⟨g,0,none⟩:Addr)=some b→∀j u,(bvs bs8)[j]? = some u→wr.cell? (b.add j)=some u from fun b e j u hj=>by
    injection e with e
    subst e
    have h1:wr.cell? ((⟨g,0,none⟩:Addr).add j)=w.cell? ((⟨g,0,none⟩:Addr).add j):=World.cell?_of_block (by rw [block_of_add];exact hbg)
    exact h1.trans (HRD.out j u hj))
   obtain ⟨ax,rfl,hrx⟩:=(Reads.of_own HO6.out.1).2 (by omega)
   have HRX:=Lib.hid hrx
   have y0:wr.cell? ⟨p,0,none⟩=some (.slice (some ⟨g,0,none⟩) 8 8):=HWK.out.cell 0
   have y1:wr.cell? ⟨p,1,none⟩=some (.int .i64 0):=HWK.out.cell 1
   have f0:=HWK.out.frozen 0
   clear hbg hrx
   go_wp2_with (at_builtin;refine wpList_append_grows _ rfl (.tmp 39) (.tmp 40) 84 rfl 5 i0 _ 1 1 Tryz.underlying84 hi0 hz0 hz1 hz2 rfl (by omega) (some ⟨g,0,none⟩) 8 8 (bvs bs8) rfl (fun e=>by cases e) rfl HCL.out ax 4 cap6 (bvs (le v 4)) rfl (by rw [bvs_len,le_len]) HRX.out (bvs_one _) (by omega) (by unfold maxLen;omega) (by omega) ?_;intro v2 w2 hrow hg;obtain ⟨A2,cap2,rfl,_,_⟩:=own_form' (own_band (o:=o1) (c:=c) hrow);have hb2:Blk w2 p 177 #[.slice (some ⟨g,0,none⟩) 8 8, .int .i64 0]:=(hg.block p HWK.out.lt (by simp)).trans HWK.out;have z0:=hb2.cell 0;have z1:=hb2.frozen 0;simp at z0;have HRW:=Lib.hid hrow;have HG2:=Lib.hid hg;have HB2:=Lib.hid hb2;clear hrow hg hb2)
   first | go_end0 | refine bodyPost_ret (v := .tuple #[]) (by simp [results,Tryz.results91,go_sem]) rfl ?_
   have hs2:Step o (only c) w (band o1 wr.heap.size w2.heap.size c) w2:=HST.out.grown HG2.out (fun k e=>by cases e)
   have hcol:band o1 wr.heap.size w2.heap.size c p=c:=(hs2.old p HPL.out).trans HC.out
   have hll:(bs8++le v 4).length=8+4:=by rw [List.length_append,le_len];rfl
   have ho2:=own_band (o:=o1) (c:=c) HRW.out
   have h4:=WrAt.setB (W:=⟨bs8,0⟩) (l:=bs8++le v 4) HB2.out hcol (by decide) (by rw [hll,bvs_app];exact ho2)
   refine ⟨rfl,_,?_,hs2.setCell (p:=⟨p,0,none⟩) hcol _⟩
   rw [hll] at h4
   exact h4
end Go.Proofs.YtldoeodkeieejaaGreatDoor
