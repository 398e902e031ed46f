import Derived.Test.YtldoeodkeieejaaGreatDoorKMadB
import Derived.Test.YtldoeodkeieejaaGreatDoorKBlkB
import Derived.Test.YtldoeodkeieejaaGreatDoorKDiskF
import Derived.Test.YtldoeodkeieejaaGreatDoorKMapR
import Derived.Shelf.SlicesE.Clone
import Derived.Test.YtldoeodkeieejaaGreatDoorKShelf
import Derived.Test.YtldoeodkeieejaaGreatDoorKCutA
import Derived.Test.YtldoeodkeieejaaGreatDoorKAudB
import Derived.Test.YtldoeodkeieejaaGreatDoorKOpenRecs
import Derived.Lib.SliceRun
namespace Go.Proofs.YtldoeodkeieejaaGreatDoor
open Go.RowKit
def logN (D:Dk) (node:Int):Int:=if D.scanE node≠0 then -1 else ((D.scan node).length:Int)
def logsL (D:Dk) (n:Nat):List Int:=(List.range n).map (fun i:Nat=>logN D ((i+1:Nat):Int))
theorem logsL_succ (D:Dk) (i:Nat):logsL D (i+1)=logsL D i ++ [logN D ((i+1:Nat):Int)]:=by
 unfold logsL
 rw [List.range_succ,List.map_append]
 rfl
section
variable {o:Nat→Nat} {c p k:Nat} {w:World} {D:Dk}
set_option maxRecDepth 100000 in
set_option maxHeartbeats 4000000 in
theorem alogs_any (hd:DiskAt o c w p D) (ht:Tame D k) (hf:Fut o w) :
 Calls Tryz.prog 19 #[.pointer (some ⟨p,0,none⟩), .agg #[.int .i64 2, .int .i64 10, .int .i64 8, .int .i64 4, .int .i64 32]] w fun e w'=>∃A cap,e = .returned (.slice A 2 cap)∧OwnS o 0 w' 3 1 (.slice A 2 cap) 2 (intcells (logsL D 2))∧Below w.heap.size w w':=by
 obtain ⟨j0,hj,hy0,hy1,hy2⟩:=info_parts info_int
 have HD:=Lib.hid hd
 have HT:=Lib.hid ht
 have HF:=Lib.hid hf
 have hf0:Fut (fun _=>0) w:=fun _ _=>rfl
 have HX0:=Lib.hid (Keep.new hf0 30 #[.int .i64 2, .int .i64 10, .int .i64 8, .int .i64 4, .int .i64 32])
 have HE0:=Lib.hid ((Env.start w).alloc (.cells #[.int .i64 2, .int .i64 10, .int .i64 8, .int .i64 4, .int .i64 32] 30))
 have HU0:=Lib.hid (hf0.alloc (.cells #[.int .i64 2, .int .i64 10, .int .i64 8, .int .i64 4, .int .i64 32] 30))
 clear hd ht hf hf0
 go_enter Tryz.func19,Tryz.ntmps19
 go_upto_region 2 with (fail)
 generalize w.alloc (.cells #[.int .i64 2, .int .i64 10, .int .i64 8, .int .i64 4, .int .i64 32] 30)=W1 at HX0 HE0 HU0 ⊢
 generalize w.heap.size=X at HX0 ⊢
 go_wp2_with fail
 go_loopg [5,6] 2 (fun n t5 t6 wr=>∃(i:Nat) (B:Option Addr) (cb:Nat) (oL:Nat→Nat),n+i=2∧t6 = .int .i64 ((i+1:Nat):Int)∧t5 = .slice B i cb∧OwnS oL 2 wr 3 1 (.slice B i cb) i (intcells (logsL D i))∧Keep oL wr X 30 #[.int .i64 2, .int .i64 10, .int .i64 8, .int .i64 4, .int .i64 32]∧Env oL w wr∧Fut oL wr)
 case atStart=>exact ⟨0,none,0,fun _=>0,by omega,rfl,rfl,OwnS.nil _ _ _ _ _,HX0.out,HE0.out,HU0.out⟩
 case round =>
  obtain ⟨i,B,cb,oL,hni,rfl,rfl,hb,hx,he,hu⟩:=hrel
  have HNI:=Lib.hid hni
  have HB:=Lib.hid hb
  have HX:=Lib.hid hx
  have HE:=Lib.hid he
  have HU:=Lib.hid hu
  have HSU:=Lib.hid (logsL_succ D i)
  clear hni hb hx he hu HX0 HE0 HU0
  obtain ⟨x0,x1,x2,x3,x4⟩:=HX.out.1.five
  have h3:((i+1:Nat):Int)≤3:=by have:=HNI.out;omega
  obtain ⟨j,hj1⟩:∃j:Int,((i+1:Nat):Int)=j:=⟨_,rfl⟩
  have HJ:=Lib.hid hj1
  rw [hj1] at HSU h3 ⊢
  clear hj1
  have hw:IntKind.i64.wrap (j+1)=((i+1+1:Nat):Int):=by rw [IntWalk.i64_in _ (by have:=HJ.out;omega)];have:=HJ.out;omega
  by_cases hlt:i<2
  ·have hltI:j≤2:=by have:=HJ.out;omega
   have HI2:=Lib.hid hlt
   go_wp2_with fail
   refine (escan_any (HD.out.below_ HE.out.low) (by rw [HT.out.sectors];decide) HT.out.wf j).mono ?_
   rintro r w6 ⟨A,cap,rfl,o6,vs,hra⟩
   have hlow:=hra.env.low
   have HE6:=Lib.hid (HE.out.below_ hlow)
   have HB6:=Lib.hid (HB.out.below_ hlow)
   have HX6:=Lib.hid (HX.out.below_ hlow)
   have HU6:=Lib.hid (HU.out.below hlow)
   obtain ⟨Q,hQ⟩:∃Q,D.scanE j=Q:=⟨_,rfl⟩
   obtain ⟨N,hN⟩:∃N,(D.scan j).length=N:=⟨_,rfl⟩
   have HLN:=Lib.hid (show logN D j=if Q≠0 then -1 else (N:Int) by unfold logN;rw [hQ,hN])
   rw [hQ,hN]
   clear hlow hra hQ hN x0 x1 x2 x3 x4 HB HX HE HU
   by_cases c0:Q=0
   ·subst c0
    have HLV:=Lib.hid (show logN D j=(N:Int) by rw [HLN.out,if_neg (by decide)])
    have HB7:=Lib.hid (HB6.out.alloc (.cells #[.int .i64 (N:Nat)] 3))
    go_wp2_with (at_builtin;refine wpList_append_S _ rfl (.tmp 30) (.tmp 33) 41 rfl 3 j0 _ 1 8 Tryz.underlying41 hj hy0 hy1 hy2 rfl (by omega) (.slice B i cb) i (intcells (logsL D i)) rfl HB7.out (some ⟨w6.heap.size,0,none⟩) 1 1 [.int .i64 (N:Nat)] rfl (Reads.newAt w6 3 1 1 _ #[.int .i64 (N:Nat)] _ rfl rfl rfl) (by simp [Value.oneCell']) (by have:=HI2.out;unfold maxLen;omega) (by have:=HI2.out;omega) ?_;intro v7 w7 hown7 hst7 hgr7 hat7;obtain ⟨A7,cap7,rfl,_,_⟩:=own_form' hown7;have HW7:=Lib.hid hown7;have HS7:=Lib.hid (((Step.refl oL (fun _=>False) w6).alloc (.cells #[.int .i64 (N:Nat)] 3)).mono (fun _ h=>h.elim:∀y,False→only 2 y) |>.trans hst7);clear hown7 hst7 hgr7 hat7)
    go_roundg (2 - (i+1))
    case measure=>have:=HNI.out;have:=HI2.out;omega
    case rel=>exact ⟨i+1,A7,cap7,_,by have:=HI2.out;omega,by first | rfl | rw [hw],rfl,by rw [HSU.out,intcells_app,HLV.out];exact HW7.out,HX6.out.step HS7.out (by unfold only;omega),HE6.out.step HS7.out (by unfold only;omega),HU6.out.step HS7.out⟩
   ·have HLV:=Lib.hid (show logN D j = -1 by rw [HLN.out,if_pos c0])
    have b0:(Q != 0)=true:=by simp [c0]
    have HB7:=Lib.hid (HB6.out.alloc (.cells #[.int .i64 (-1)] 3))
    clear c0
    go_wp2_with (at_builtin;refine wpList_append_S _ rfl (.tmp 27) (.tmp 28) 41 rfl 3 j0 _ 1 8 Tryz.underlying41 hj hy0 hy1 hy2 rfl (by omega) (.slice B i cb) i (intcells (logsL D i)) rfl HB7.out (some ⟨w6.heap.size,0,none⟩) 1 1 [.int .i64 (-1)] rfl (Reads.newAt w6 3 1 1 _ #[.int .i64 (-1)] _ rfl rfl rfl) (by simp [Value.oneCell']) (by have:=HI2.out;unfold maxLen;omega) (by have:=HI2.out;omega) ?_;intro v7 w7 hown7 hst7 hgr7 hat7;obtain ⟨A7,cap7,rfl,_,_⟩:=own_form' hown7;have HW7:=Lib.hid hown7;have HS7:=Lib.hid (((Step.refl oL (fun _=>False) w6).alloc (.cells #[.int .i64 (-1)] 3)).mono (fun _ h=>h.elim:∀y,False→only 2 y) |>.trans hst7);clear hown7 hst7 hgr7 hat7)
    go_roundg (2 - (i+1))
    case measure=>have:=HNI.out;have:=HI2.out;omega
    case rel=>exact ⟨i+1,A7,cap7,_,by have:=HI2.out;omega,by first | rfl | rw [hw],rfl,by rw [HSU.out,intcells_app,HLV.out];exact HW7.out,HX6.out.step HS7.out (by unfold only;omega),HE6.out.step HS7.out (by unfold only;omega),HU6.out.step HS7.out⟩
  ·have hltI:¬j≤2:=by have:=HJ.out;omega
   obtain rfl:i=2:=by have:=HNI.out;omega
   go_wp2_with fail
   go_ret
   exact ⟨B,cb,rfl,own_none HF.out HE.out HB.out (by decide),HE.out.low⟩
end
structure Sp where
 a:Int
 b:Int
def Sp.cells (s:Sp):List Value := [.int .i64 s.a, .int .i64 s.b]
def spcells (l:List Sp):List Value:=l.flatMap Sp.cells
theorem info_sp : (Tryz.prog.info? 61).map (fun i=>(i.zero,i.size,i.bytes))=some (some (.agg #[.int .i64 0, .int .i64 0]),2,16):=by kernel_rfl
theorem spcells_app (l m:List Sp):spcells (l++m)=spcells l++spcells m:=by simp [spcells]
theorem spcells_one (l:List Sp):∀u∈spcells l,u.oneCell'=true:=by
 intro u hu
 obtain ⟨s,_,hs⟩:=List.mem_flatMap.1 hu
 simp [Sp.cells] at hs
 rcases hs with rfl | rfl <;> rfl
def Sp.ok (s:Sp):Prop:=0≤s.a∧s.a<s.b
instance (s:Sp):Decidable s.ok:=by unfold Sp.ok;infer_instance
def meetR (s t:Sp):Sp×Bool:=if s.ok∧t.ok∧max s.a t.a<min s.b t.b then (⟨max s.a t.a,min s.b t.b⟩,true) else (⟨0,0⟩,false)
def fitB (a b:Int):Bool:=decide ((0≤a∧a≤2)∧(0≤b∧b≤2)∧(a=0∨b=0∨a=1∧b=1))
theorem Blk.pair {w:World} {g:Nat} {t:TypeId} {c0 c1:Value} (h:Blk w g t #[c0,c1]):w.cell? ⟨g,0,none⟩=some c0∧w.cell? ⟨g,1,none⟩=some c1:=⟨h.cell 0,h.cell 1⟩
theorem Blk.put2 {w:World} {g:Nat} {t:TypeId} {a b:Value} (h:Blk w g t #[a,b]) (x y:Value):Blk ((w.setCell ⟨g,0,none⟩ x).setCell ⟨g,1,none⟩ y) g t #[x,y]:=(h.set_ 0 x).set_ 1 y
theorem below_put2 {B g:Nat} {w0 w:World} (h:Below B w0 w) (hg:B≤g) (x y:Value):Below B w0 ((w.setCell ⟨g,0,none⟩ x).setCell ⟨g,1,none⟩ y):=(h.setCell (p:=⟨g,0,none⟩) hg x).setCell (p:=⟨g,1,none⟩) hg y
set_option maxRecDepth 100000 in
theorem mdfit_any (a b:Int) (w:World):Calls Tryz.prog 100 #[.int .i64 a, .int .i64 b] w fun e w'=>e = .returned (.bool (fitB a b))∧w=w':=by
 by_cases h0:0≤a∧a≤2
 ·by_cases h1:0≤b∧b≤2
  ·have d0:=decide_eq_true h0
   have d1:=decide_eq_true h1
   by_cases ha:a=0
   ·have hF:=Lib.hid (show fitB a b=true from decide_eq_true ⟨h0,h1, .inl ha⟩)
    subst ha
    clear h0 h1
    go_enter Tryz.func100,Tryz.ntmps100
    go_wp2_with fail
    refine (mdvalid_any 0 w).mono ?_
    rintro e w1 ⟨rfl,rfl⟩
    rw [d0]
    go_wp2_with fail
    refine (mdvalid_any b w).mono ?_
    rintro e w1 ⟨rfl,rfl⟩
    rw [d1]
    go_wp2_with fail
    go_ret
    exact ⟨by rw [hF.out];first | done | rfl,rfl⟩
   ·have ba:(a == 0)=false:=by simp [ha]
    by_cases hb:b=0
    ·have hF:=Lib.hid (show fitB a b=true from decide_eq_true ⟨h0,h1, .inr (.inl hb)⟩)
     subst hb
     clear h0 h1 ha
     go_enter Tryz.func100,Tryz.ntmps100
     go_wp2_with fail
     refine (mdvalid_any a w).mono ?_
     rintro e w1 ⟨rfl,rfl⟩
     rw [d0]
     go_wp2_with fail
     refine (mdvalid_any 0 w).mono ?_
     rintro e w1 ⟨rfl,rfl⟩
     rw [d1]
     go_wp2_with fail
     go_ret
     exact ⟨by rw [hF.out];first | done | rfl,rfl⟩
    ·have bb:(b == 0)=false:=by simp [hb]
     by_cases ha1:a=1
     ·by_cases hb1:b=1
      ·have hF:=Lib.hid (show fitB a b=true from decide_eq_true ⟨h0,h1, .inr (.inr ⟨ha1,hb1⟩)⟩)
       subst ha1 hb1
       clear h0 h1 ha hb
       go_enter Tryz.func100,Tryz.ntmps100
       go_wp2_with fail
       refine (mdvalid_any 1 w).mono ?_
       rintro e w1 ⟨rfl,rfl⟩
       rw [d0]
       go_wp2_with fail
       refine (mdvalid_any 1 w).mono ?_
       rintro e w1 ⟨rfl,rfl⟩
       rw [d1]
       go_wp2_with fail
       go_ret
       exact ⟨by rw [hF.out];first | done | rfl,rfl⟩
      ·have hF:=Lib.hid (show fitB a b=false from decide_eq_false (fun h=>by rcases h.2.2 with h | h | h;exact ha h;exact hb h;exact hb1 h.2))
       have bb1:(b == 1)=false:=by simp [hb1]
       subst ha1
       clear h0 h1 ha hb hb1
       go_enter Tryz.func100,Tryz.ntmps100
       go_wp2_with fail
       refine (mdvalid_any 1 w).mono ?_
       rintro e w1 ⟨rfl,rfl⟩
       rw [d0]
       go_wp2_with fail
       refine (mdvalid_any b w).mono ?_
       rintro e w1 ⟨rfl,rfl⟩
       rw [d1]
       go_wp2_with fail
       go_ret
       exact ⟨by rw [hF.out];first | done | rfl,rfl⟩
     ·have hF:=Lib.hid (show fitB a b=false from decide_eq_false (fun h=>by rcases h.2.2 with h | h | h;exact ha h;exact hb h;exact ha1 h.1))
      have ba1:(a == 1)=false:=by simp [ha1]
      clear h0 h1 ha hb ha1
      go_enter Tryz.func100,Tryz.ntmps100
      go_wp2_with fail
      refine (mdvalid_any a w).mono ?_
      rintro e w1 ⟨rfl,rfl⟩
      rw [d0]
      go_wp2_with fail
      refine (mdvalid_any b w).mono ?_
      rintro e w1 ⟨rfl,rfl⟩
      rw [d1]
      go_wp2_with fail
      go_ret
      exact ⟨by rw [hF.out];first | done | rfl,rfl⟩
  ·have d0:=decide_eq_true h0
   have d1:=decide_eq_false h1
   have hF:=Lib.hid (show fitB a b=false from decide_eq_false (fun h=>h1 h.2.1))
   clear h0 h1
   go_enter Tryz.func100,Tryz.ntmps100
   go_wp2_with fail
   refine (mdvalid_any a w).mono ?_
   rintro e w1 ⟨rfl,rfl⟩
   rw [d0]
   go_wp2_with fail
   refine (mdvalid_any b w).mono ?_
   rintro e w1 ⟨rfl,rfl⟩
   rw [d1]
   go_wp2_with fail
   go_ret
   exact ⟨by rw [hF.out];first | done | rfl,rfl⟩
 ·have d0:=decide_eq_false h0
  have hF:=Lib.hid (show fitB a b=false from decide_eq_false (fun h=>h0 h.1))
  clear h0
  go_enter Tryz.func100,Tryz.ntmps100
  go_wp2_with fail
  refine (mdvalid_any a w).mono ?_
  rintro e w1 ⟨rfl,rfl⟩
  rw [d0]
  go_wp2_with fail
  go_ret
  exact ⟨by rw [hF.out];first | done | rfl,rfl⟩
set_option maxRecDepth 100000 in
set_option maxHeartbeats 2000000 in
theorem spmeet_any (s t:Sp) (w:World):Calls Tryz.prog 99 #[.agg #[.int .i64 s.a, .int .i64 s.b], .agg #[.int .i64 t.a, .int .i64 t.b]] w fun e w'=>e = .returned (.tuple #[.agg #[.int .i64 (meetR s t).1.a, .int .i64 (meetR s t).1.b], .bool (meetR s t).2])∧Below w.heap.size w w':=by
 obtain ⟨a,b⟩:=s
 obtain ⟨c,d⟩:=t
 simp only
 have b1:=(Below.refl w.heap.size w).alloc (Nat.le_refl _) (.cells #[.int .i64 a, .int .i64 b] 61)
 have b2:=b1.alloc b1.size (.cells #[.int .i64 c, .int .i64 d] 61)
 have b3:=b2.alloc b2.size (.cells #[.int .i64 0, .int .i64 0] 61)
 have b4:=b3.alloc b3.size (.cells #[.int .i64 (max a c), .int .i64 (min b d)] 61)
 have k1:=(((Blk.new w 61 #[.int .i64 a, .int .i64 b]).alloc (.cells #[.int .i64 c, .int .i64 d] 61)).alloc (.cells #[.int .i64 0, .int .i64 0] 61)).alloc (.cells #[.int .i64 (max a c), .int .i64 (min b d)] 61)
 have k2:=((Blk.new (w.alloc (.cells #[.int .i64 a, .int .i64 b] 61)) 61 #[.int .i64 c, .int .i64 d]).alloc (.cells #[.int .i64 0, .int .i64 0] 61)).alloc (.cells #[.int .i64 (max a c), .int .i64 (min b d)] 61)
 have k3:=(Blk.new ((w.alloc (.cells #[.int .i64 a, .int .i64 b] 61)).alloc (.cells #[.int .i64 c, .int .i64 d] 61)) 61 #[.int .i64 0, .int .i64 0]).alloc (.cells #[.int .i64 (max a c), .int .i64 (min b d)] 61)
 have k4:=Blk.new (((w.alloc (.cells #[.int .i64 a, .int .i64 b] 61)).alloc (.cells #[.int .i64 c, .int .i64 d] 61)).alloc (.cells #[.int .i64 0, .int .i64 0] 61)) 61 #[.int .i64 (max a c), .int .i64 (min b d)]
 have hz1:(w.alloc (.cells #[.int .i64 a, .int .i64 b] 61)).heap.size=w.heap.size+1:=by simp
 have hz2:((w.alloc (.cells #[.int .i64 a, .int .i64 b] 61)).alloc (.cells #[.int .i64 c, .int .i64 d] 61)).heap.size=w.heap.size+1+1:=by simp
 have hz3:(((w.alloc (.cells #[.int .i64 a, .int .i64 b] 61)).alloc (.cells #[.int .i64 c, .int .i64 d] 61)).alloc (.cells #[.int .i64 0, .int .i64 0] 61)).heap.size=w.heap.size+1+1+1:=by simp
 rw [hz1] at k2
 rw [hz2] at k3
 rw [hz3] at k4
 have HB:=Lib.hid b4
 have H1:=Lib.hid k1
 have H2:=Lib.hid k2
 have H3:=Lib.hid k3
 have H4:=Lib.hid k4
 have HM:=Lib.hid (show meetR ⟨a,b⟩ ⟨c,d⟩=if (0≤a∧a<b)∧(0≤c∧c<d)∧max a c<min b d then (⟨max a c,min b d⟩,true) else (⟨0,0⟩,false) from rfl)
 clear b1 b2 b3 b4 k1 k2 k3 k4 hz1 hz2 hz3
 obtain ⟨⟨⟨ma,mb⟩,mv⟩,hm⟩:∃M,meetR ⟨a,b⟩ ⟨c,d⟩=M:=⟨_,rfl⟩
 rw [hm] at HM ⊢
 simp only
 clear hm
 go_enter Tryz.func99,Tryz.ntmps99
 go_upto_region 2 with (fail)
 generalize (((w.alloc (.cells #[.int .i64 a, .int .i64 b] 61)).alloc (.cells #[.int .i64 c, .int .i64 d] 61)).alloc (.cells #[.int .i64 0, .int .i64 0] 61)).alloc (.cells #[.int .i64 (max a c), .int .i64 (min b d)] 61)=W at HB H1 H2 H3 H4 ⊢
 obtain ⟨g2,hg2⟩:∃g,w.heap.size+1=g:=⟨_,rfl⟩
 rw [hg2] at H2 H3 H4 ⊢
 obtain ⟨g3,hg3⟩:∃g,g2+1=g:=⟨_,rfl⟩
 rw [hg3] at H3 H4 ⊢
 obtain ⟨g4,hg4⟩:∃g,g3+1=g:=⟨_,rfl⟩
 rw [hg4] at H4 ⊢
 have HG:=Lib.hid (show w.heap.size≤g3 by omega)
 generalize hg1:w.heap.size=g1 at H1 ⊢
 clear hg2 hg3 hg4
 obtain ⟨x0,x1⟩:=H1.out.pair
 have fin:∀(V:World) (p q:Int) (v:Bool),Below w.heap.size w V→Blk V g3 61 #[.int .i64 0, .int .i64 0]→(Sp.mk ma mb,mv)=(Sp.mk p q,v) →
  Below w.heap.size w ((V.setCell ⟨g3,0,none⟩ (.int .i64 p)).setCell ⟨g3,1,none⟩ (.int .i64 q))∧Blk ((V.setCell ⟨g3,0,none⟩ (.int .i64 p)).setCell ⟨g3,1,none⟩ (.int .i64 q)) g3 61 #[.int .i64 p, .int .i64 q]∧ma=p∧mb=q∧mv=v:=fun V p q v h1 h2 h3=>by
  injection h3 with h3 h4
  injection h3 with h5 h6
  exact ⟨below_put2 h1 HG.out _ _,h2.put2 _ _,h5,h6,h4⟩
 have FIN:=Lib.hid fin
 clear fin
 by_cases h1:0≤a∧a<b
 ·by_cases h2:0≤c∧c<d
  ·by_cases h3:max a c<min b d
   ·have HE:=Lib.hid (HM.out.trans (if_pos ⟨h1,h2,h3⟩))
    have d1:=decide_eq_true h1
    have d2:=decide_eq_true h2
    have d3:decide (0≤max a c∧max a c<min b d)=true:=decide_eq_true ⟨by omega,h3⟩
    clear h1 h2 h3
    go_wp2_with fail
    refine (spvalid_any a b W).mono ?_
    rintro e w1 ⟨rfl,hb1⟩
    rw [d1]
    obtain ⟨y0,y1⟩:=(H2.out.below_ hb1).pair
    go_wp2_with fail
    refine (spvalid_any c d w1).mono ?_
    rintro e w2 ⟨rfl,hb2⟩
    rw [d2]
    have hb12:=hb1.trans (hb2.mono hb1.size)
    obtain ⟨z0,z1⟩:=(H4.out.below_ hb12).pair
    go_wp2_with fail
    refine (spvalid_any (max a c) (min b d) w2).mono ?_
    rintro e w3 ⟨rfl,hb3⟩
    rw [d3]
    have hb13:=hb12.trans (hb3.mono hb12.size)
    obtain ⟨v0,v1⟩:=(H4.out.below_ hb13).pair
    have hk3:=H3.out.below_ hb13
    obtain ⟨u0,u1⟩:=hk3.pair
    have f0:=hk3.frozen 0
    have f1:=hk3.frozen 1
    have HB3:=Lib.hid (HB.out.trans (hb13.mono HB.out.size))
    have HK3:=Lib.hid hk3
    clear hb1 hb2 hb3 hb12 hb13 hk3 x0 x1 y0 y1 z0 z1
    go_wp2_with fail
    obtain ⟨c1,c2,rfl,rfl,rfl⟩:=FIN.out w3 _ _ _ HB3.out HK3.out HE.out
    obtain ⟨q0,q1⟩:=c2.pair
    exact bodyPost_ret (v := .tuple #[.agg #[.int .i64 (max a c), .int .i64 (min b d)], .bool true]) (by simp [results,Tryz.results99,go_sem,q0,q1]) rfl ⟨rfl,c1⟩
   ·have HE:=Lib.hid (HM.out.trans (if_neg (fun h=>h3 h.2.2)))
    have d1:=decide_eq_true h1
    have d2:=decide_eq_true h2
    have d3:decide (0≤max a c∧max a c<min b d)=false:=decide_eq_false (fun h=>h3 h.2)
    clear h1 h2 h3
    go_wp2_with fail
    refine (spvalid_any a b W).mono ?_
    rintro e w1 ⟨rfl,hb1⟩
    rw [d1]
    obtain ⟨y0,y1⟩:=(H2.out.below_ hb1).pair
    go_wp2_with fail
    refine (spvalid_any c d w1).mono ?_
    rintro e w2 ⟨rfl,hb2⟩
    rw [d2]
    have hb12:=hb1.trans (hb2.mono hb1.size)
    obtain ⟨z0,z1⟩:=(H4.out.below_ hb12).pair
    go_wp2_with fail
    refine (spvalid_any (max a c) (min b d) w2).mono ?_
    rintro e w3 ⟨rfl,hb3⟩
    rw [d3]
    have hb13:=hb12.trans (hb3.mono hb12.size)
    have hk3:=H3.out.below_ hb13
    obtain ⟨u0,u1⟩:=hk3.pair
    have f0:=hk3.frozen 0
    have f1:=hk3.frozen 1
    have HB3:=Lib.hid (HB.out.trans (hb13.mono HB.out.size))
    have HK3:=Lib.hid hk3
    clear hb1 hb2 hb3 hb12 hb13 hk3 x0 x1 y0 y1 z0 z1
    go_wp2_with fail
    obtain ⟨c1,c2,rfl,rfl,rfl⟩:=FIN.out w3 _ _ _ HB3.out HK3.out HE.out
    obtain ⟨q0,q1⟩:=c2.pair
    exact bodyPost_ret (v := .tuple #[.agg #[.int .i64 0, .int .i64 0], .bool false]) (by simp [results,Tryz.results99,go_sem,q0,q1]) rfl ⟨rfl,c1⟩
  ·have HE:=Lib.hid (HM.out.trans (if_neg (fun h=>h2 h.2.1)))
   have d1:=decide_eq_true h1
   have d2:=decide_eq_false h2
   clear h1 h2
   go_wp2_with fail
   refine (spvalid_any a b W).mono ?_
   rintro e w1 ⟨rfl,hb1⟩
   rw [d1]
   obtain ⟨y0,y1⟩:=(H2.out.below_ hb1).pair
   go_wp2_with fail
   refine (spvalid_any c d w1).mono ?_
   rintro e w2 ⟨rfl,hb2⟩
   rw [d2]
   have hb12:=hb1.trans (hb2.mono hb1.size)
   have hk3:=H3.out.below_ hb12
   obtain ⟨u0,u1⟩:=hk3.pair
   have f0:=hk3.frozen 0
   have f1:=hk3.frozen 1
   have HB3:=Lib.hid (HB.out.trans (hb12.mono HB.out.size))
   have HK3:=Lib.hid hk3
   clear hb1 hb2 hb12 hk3 x0 x1 y0 y1
   go_wp2_with fail
   obtain ⟨c1,c2,rfl,rfl,rfl⟩:=FIN.out w2 _ _ _ HB3.out HK3.out HE.out
   obtain ⟨q0,q1⟩:=c2.pair
   exact bodyPost_ret (v := .tuple #[.agg #[.int .i64 0, .int .i64 0], .bool false]) (by simp [results,Tryz.results99,go_sem,q0,q1]) rfl ⟨rfl,c1⟩
 ·have HE:=Lib.hid (HM.out.trans (if_neg (fun h=>h1 h.1)))
  have d1:=decide_eq_false h1
  clear h1
  go_wp2_with fail
  refine (spvalid_any a b W).mono ?_
  rintro e w1 ⟨rfl,hb1⟩
  rw [d1]
  have hk3:=H3.out.below_ hb1
  obtain ⟨u0,u1⟩:=hk3.pair
  have f0:=hk3.frozen 0
  have f1:=hk3.frozen 1
  have HB3:=Lib.hid (HB.out.trans (hb1.mono HB.out.size))
  have HK3:=Lib.hid hk3
  clear hb1 hk3 x0 x1
  go_wp2_with fail
  obtain ⟨c1,c2,rfl,rfl,rfl⟩:=FIN.out w1 _ _ _ HB3.out HK3.out HE.out
  obtain ⟨q0,q1⟩:=c2.pair
  exact bodyPost_ret (v := .tuple #[.agg #[.int .i64 0, .int .i64 0], .bool false]) (by simp [results,Tryz.results99,go_sem,q0,q1]) rfl ⟨rfl,c1⟩
def clash1 (p q:Lk):Option Sp:=if (meetR ⟨p.a,p.b⟩ ⟨q.a,q.b⟩).2=true∧fitB p.m q.m=false then some (meetR ⟨p.a,p.b⟩ ⟨q.a,q.b⟩).1 else none
def clashG (y:List Lk) (p:Lk):List Sp:=y.filterMap (clash1 p)
def clashL (x y:List Lk):List Sp:=x.flatMap (clashG y)
theorem clashG_len (y:List Lk) (p:Lk):(clashG y p).length≤y.length:=List.length_filterMap_le _ _
theorem clashL_len (y:List Lk):∀x:List Lk,(clashL x y).length≤x.length*y.length
 | []=>by simp [clashL]
 | p :: x=>by
   have h1:=clashG_len y p
   have h2:=clashL_len y x
   unfold clashL at h2 ⊢
   rw [List.flatMap_cons,List.length_append,List.length_cons,Nat.succ_mul]
   omega
theorem clashL_succ {x y:List Lk} {i:Nat} {p:Lk} (h:x[i]? = some p):clashL (x.take (i+1)) y=clashL (x.take i) y++clashG y p:=by
 unfold clashL
 rw [List.take_add_one,h,Option.toList_some,List.flatMap_append,List.flatMap_singleton]
theorem clashG_succ {y:List Lk} {j:Nat} {p q:Lk} (h:y[j]? = some q):clashG (y.take (j+1)) p=clashG (y.take j) p++(clash1 p q).toList:=by
 unfold clashG
 rw [List.take_add_one,h,Option.toList_some,List.filterMap_append]
 cases e:clash1 p q <;> simp [e]
section
variable {o:Nat→Nat} {w:World}
set_option maxRecDepth 100000 in
set_option maxHeartbeats 4000000 in
theorem clash_any (hf:Fut o w) (x y:List Lk) (A B:Option Addr) (ca cb:Nat) (hx:Reads w 3 A x.length (lkcells x)) (hy:Reads w 3 B y.length (lkcells y)) (hxl:x.length≤1000) (hyl:y.length≤1000) :
 Calls Tryz.prog 51 #[.slice A x.length ca, .slice B y.length cb] w fun e w'=>∃D cap,e = .returned (.slice D (clashL x y).length cap)∧OwnS o 0 w' 61 2 (.slice D (clashL x y).length cap) (clashL x y).length (spcells (clashL x y))∧Below w.heap.size w w':=by
 obtain ⟨i0,hi,hz0,hz1,hz2⟩:=info_parts info_sp
 have HF:=Lib.hid hf
 have HX:=Lib.hid hx
 have HY:=Lib.hid hy
 have HXL:=Lib.hid hxl
 have HYL:=Lib.hid hyl
 have hxI:(x.length:Int)≤1000:=by omega
 have hyI:(y.length:Int)≤1000:=by omega
 have HT:=Lib.hid (show clashL (x.take x.length) y=clashL x y by rw [List.take_length])
 have HCL:=Lib.hid (show ∀i:Nat,(clashL (x.take i) y).length≤1000000 from fun i=>by
  have h1:=clashL_len y (x.take i)
  have h2:(x.take i).length≤1000:=by rw [List.length_take];omega
  have h3:=Nat.mul_le_mul h2 hyl
  omega)
 clear hf hx hy hxl hyl
 go_enter Tryz.func51,Tryz.ntmps51
 go_wp2_with fail
 go_loopg [5,14] x.length (fun n t5 t14 wr=>∃(i:Nat) (D:Option Addr) (cap:Nat) (oL:Nat→Nat),n+i=x.length∧t14 = .int .i64 (i:Nat)∧t5 = .slice D (clashL (x.take i) y).length cap∧OwnS oL 1 wr 61 2 (.slice D (clashL (x.take i) y).length cap) (clashL (x.take i) y).length (spcells (clashL (x.take i) y))∧Env oL w wr∧Fut oL wr)
 case atStart=>exact ⟨0,none,0,fun _=>0,by omega,rfl,rfl,OwnS.nil _ _ _ _ _,Env.start w,fun _ _=>rfl⟩
 case round =>
  obtain ⟨i,D,cap,oL,hni,rfl,rfl,ho,he,hu⟩:=hrel
  have HNI:=Lib.hid hni
  have HO:=Lib.hid ho
  have HE:=Lib.hid he
  have HU:=Lib.hid hu
  clear hni ho he hu
  by_cases hlt:i<x.length
  ·have hltI:(i:Int)<(x.length:Int):=by omega
   obtain ⟨p,hp⟩:∃p,x[i]? = some p:=⟨_,List.getElem?_eq_getElem hlt⟩
   have HSU:=Lib.hid (clashL_succ (y:=y) hp)
   obtain ⟨ad,rfl,x0,x1,x2⟩:=(HX.out.below' (by omega) HE.out.low).lock hp
   have HLI:=Lib.hid (HCL.out (i+1))
   have HP:=Lib.hid (Keep.new HU.out 63 #[.int .i64 p.a, .int .i64 p.b, .int .i64 p.m])
   have HO1:=Lib.hid (HO.out.alloc (.cells #[.int .i64 p.a, .int .i64 p.b, .int .i64 p.m] 63))
   have HE1:=Lib.hid (HE.out.alloc (.cells #[.int .i64 p.a, .int .i64 p.b, .int .i64 p.m] 63))
   have HU1:=Lib.hid (HU.out.alloc (.cells #[.int .i64 p.a, .int .i64 p.b, .int .i64 p.m] 63))
   clear hp HO HE HU
   go_upto_region 5 with (fail)
   generalize wr.alloc (.cells #[.int .i64 p.a, .int .i64 p.b, .int .i64 p.m] 63)=W1 at HP HO1 HE1 HU1 ⊢
   generalize wr.heap.size=P at HP ⊢
   generalize clashL (x.take i) y=L at HSU HO1 ⊢
   clear x0 x1 x2
   go_wp2_with fail
   go_loopg [5,20] y.length (fun n t5 t20 wi=>∃(j:Nat) (D:Option Addr) (cap:Nat) (oL:Nat→Nat),n+j=y.length∧t20 = .int .i64 (j:Nat)∧t5 = .slice D (L++clashG (y.take j) p).length cap∧OwnS oL 1 wi 61 2 (.slice D (L++clashG (y.take j) p).length cap) (L++clashG (y.take j) p).length (spcells (L++clashG (y.take j) p))∧Keep oL wi P 63 #[.int .i64 p.a, .int .i64 p.b, .int .i64 p.m]∧Env oL w wi∧Fut oL wi)
   case atStart=>exact ⟨0,D,cap,oL,by omega,rfl,by simp [clashG],by simpa [clashG] using HO1.out,HP.out,HE1.out,HU1.out⟩
   case round =>
    obtain ⟨j,D2,cap2,oM,hnj,rfl,rfl,ho,hp2,he,hu⟩:=hrel
    have HNJ:=Lib.hid hnj
    obtain ⟨LM,hLM⟩:∃l,L++clashG (y.take j) p=l:=⟨_,rfl⟩
    rw [hLM] at ho ⊢
    have HLM:=Lib.hid hLM
    clear hLM
    have HO:=Lib.hid ho
    have HP2:=Lib.hid hp2
    have HE:=Lib.hid he
    have HU:=Lib.hid hu
    clear hnj ho hp2 he hu HO1 HE1 HU1 HP
    by_cases hlt2:j<y.length
    ·have hlt2I:(j:Int)<(y.length:Int):=by omega
     obtain ⟨q,hq⟩:∃q,y[j]? = some q:=⟨_,List.getElem?_eq_getElem hlt2⟩
     have HSV:=Lib.hid (show L++clashG (y.take (j+1)) p=LM++(clash1 p q).toList by rw [clashG_succ hq,←List.append_assoc,HLM.out])
     obtain ⟨bd,rfl,x0,x1,x2⟩:=(HY.out.below' (by omega) HE.out.low).lock hq
     have HQ:=Lib.hid (Keep.new HU.out 63 #[.int .i64 q.a, .int .i64 q.b, .int .i64 q.m])
     have HO2:=Lib.hid (HO.out.alloc (.cells #[.int .i64 q.a, .int .i64 q.b, .int .i64 q.m] 63))
     have HE2:=Lib.hid (HE.out.alloc (.cells #[.int .i64 q.a, .int .i64 q.b, .int .i64 q.m] 63))
     have HU2:=Lib.hid (HU.out.alloc (.cells #[.int .i64 q.a, .int .i64 q.b, .int .i64 q.m] 63))
     have HP3:=Lib.hid (HP2.out.alloc (.cells #[.int .i64 q.a, .int .i64 q.b, .int .i64 q.m] 63))
     clear hq HO HE HU HP2
     go_upto_region 8 with (fail)
     generalize wr.alloc (.cells #[.int .i64 q.a, .int .i64 q.b, .int .i64 q.m] 63)=W2 at HQ HO2 HE2 HU2 HP3 ⊢
     generalize wr.heap.size=Q at HQ ⊢
     have HLE:=Lib.hid (show (L++clashG (y.take (j+1)) p).length≤1000000 by
      have h1:=HLI.out
      rw [HSU.out,List.length_append] at h1
      have h2:(clashG (y.take (j+1)) p).length≤(clashG y p).length:=by
       have e:clashG y p=clashG (y.take (j+1)) p++clashG (y.drop (j+1)) p:=by
        unfold clashG
        rw [←List.filterMap_append,List.take_append_drop]
       rw [e,List.length_append]
       omega
      rw [List.length_append]
      omega)
     rw [HSV.out] at HLE
     have HC1:=Lib.hid (show clash1 p q=if (meetR ⟨p.a,p.b⟩ ⟨q.a,q.b⟩).2=true∧fitB p.m q.m=false then some (meetR ⟨p.a,p.b⟩ ⟨q.a,q.b⟩).1 else none from rfl)
     clear x0 x1 x2
     obtain ⟨x0,x1,x2⟩:=HP3.out.1.three
     obtain ⟨y0,y1,y2⟩:=HQ.out.1.three
     go_wp2_with fail
     refine (spmeet_any ⟨p.a,p.b⟩ ⟨q.a,q.b⟩ W2).mono ?_
     rintro e w3 ⟨rfl,hb3⟩
     obtain ⟨⟨⟨ma,mb⟩,mv⟩,hm⟩:∃N,meetR ⟨p.a,p.b⟩ ⟨q.a,q.b⟩=N:=⟨_,rfl⟩
     rw [hm] at HC1 ⊢
     simp only at HC1 ⊢
     have HO4:=Lib.hid ((HO2.out.below_ hb3).alloc (.cells #[.int .i64 ma, .int .i64 mb] 61))
     have HE4:=Lib.hid ((HE2.out.below_ hb3).alloc (.cells #[.int .i64 ma, .int .i64 mb] 61))
     have HU4:=Lib.hid ((HU2.out.below hb3).alloc (.cells #[.int .i64 ma, .int .i64 mb] 61))
     have HP4:=Lib.hid ((HP3.out.below_ hb3).alloc (.cells #[.int .i64 ma, .int .i64 mb] 61))
     have HQ4:=Lib.hid ((HQ.out.below_ hb3).alloc (.cells #[.int .i64 ma, .int .i64 mb] 61))
     have HM4:=Lib.hid (Blk.new w3 61 #[.int .i64 ma, .int .i64 mb])
     clear hb3 hm HO2 HE2 HU2 HP3 HQ x0 x1 x2 y0 y1 y2
     go_upto_region 9 with (fail)
     generalize w3.alloc (.cells #[.int .i64 ma, .int .i64 mb] 61)=W4 at HO4 HE4 HU4 HP4 HQ4 HM4 ⊢
     generalize w3.heap.size=gm at HM4 ⊢
     obtain ⟨x0,x1,x2⟩:=HP4.out.1.three
     obtain ⟨y0,y1,y2⟩:=HQ4.out.1.three
     obtain ⟨z0,z1⟩:=HM4.out.pair
     cases mv with
     | false =>
       have HN:=Lib.hid (show L++clashG (y.take (j+1)) p=LM by rw [HSV.out,HC1.out];simp)
       go_wp2_with fail
       go_roundg (y.length - (j+1))
       case measure=>have:=HNJ.out;omega
       case rel=>exact ⟨j+1,D2,cap2,oM,by omega,by go_num,by rw [HN.out],by rw [HN.out];exact HO4.out,HP4.out,HE4.out,HU4.out⟩
     | true =>
       go_wp2_with fail
       refine (mdfit_any p.m q.m W4).mono ?_
       rintro e w5 ⟨rfl,rfl⟩
       obtain ⟨F,hF⟩:∃F,fitB p.m q.m=F:=⟨_,rfl⟩
       rw [hF] at HC1 ⊢
       clear hF
       cases F with
       | true =>
         have HN:=Lib.hid (show L++clashG (y.take (j+1)) p=LM by rw [HSV.out,HC1.out];simp)
         go_wp2_with fail
         go_roundg (y.length - (j+1))
         case measure=>have:=HNJ.out;omega
         case rel=>exact ⟨j+1,D2,cap2,oM,by omega,by go_num,by rw [HN.out],by rw [HN.out];exact HO4.out,HP4.out,HE4.out,HU4.out⟩
       | false =>
         have HC2:=Lib.hid (show clash1 p q=some ⟨ma,mb⟩ by rw [HC1.out];simp)
         have HN:=Lib.hid (show L++clashG (y.take (j+1)) p=LM ++ [⟨ma,mb⟩] by rw [HSV.out,HC2.out];simp)
         have HLE2:=Lib.hid (show LM.length+1≤1000000 by have h:=HLE.out;rw [HC2.out,List.length_append] at h;exact h)
         have HO5:=Lib.hid (HO4.out.alloc (.cells #[.int .i64 ma, .int .i64 mb] 61))
         go_wp2_with (at_builtin;refine wpList_append_S _ rfl (.tmp 41) (.tmp 43) 58 rfl 61 i0 _ 2 16 Tryz.underlying58 hi hz0 hz1 hz2 rfl (by omega) (.slice D2 LM.length cap2) LM.length (spcells LM) rfl HO5.out (some ⟨W4.heap.size,0,none⟩) 1 1 [.int .i64 ma, .int .i64 mb] rfl (Reads.newAt W4 61 2 1 _ #[.int .i64 ma, .int .i64 mb] _ rfl rfl rfl) (by simp [Value.oneCell']) (by have:=HLE2.out;unfold maxLen;omega) (by have:=HLE2.out;omega) ?_;intro v7 w7 hown7 hst7 hgr7 hat7;obtain ⟨A7,cap7,rfl,_,_⟩:=own_form' hown7;have HW7:=Lib.hid hown7;have HS7:=Lib.hid (((Step.refl oM (fun _=>False) W4).alloc (.cells #[.int .i64 ma, .int .i64 mb] 61)).mono (fun _ h=>h.elim:∀y,False→only 1 y) |>.trans hst7);clear hown7 hst7 hgr7 hat7)
         go_roundg (y.length - (j+1))
         case measure=>have:=HNJ.out;omega
         case rel=>exact ⟨j+1,A7,cap7,_,by omega,by go_num,by rw [HN.out,@List.length_append _ LM _];rfl,by rw [HN.out,@List.length_append _ LM _,spcells_app LM];exact HW7.out,HP4.out.step HS7.out (by unfold only;omega),HE4.out.step HS7.out (by unfold only;omega),HU4.out.step HS7.out⟩
    ·have hlt2I:¬(j:Int)<(y.length:Int):=by omega
     obtain rfl:j=y.length:=by have:=HNJ.out;omega
     have HYY:=Lib.hid (show LM=clashL (x.take (i+1)) y by rw [←HLM.out,List.take_length,HSU.out])
     rw [HYY.out] at HO ⊢
     go_wp2_with fail
     go_roundg (x.length - (i+1))
     case measure=>have:=HNI.out;omega
     case rel=>exact ⟨i+1,D2,cap2,oM,by omega,by go_num,rfl,HO.out,HE.out,HU.out⟩
  ·have hltI:¬(i:Int)<(x.length:Int):=by omega
   obtain rfl:i=x.length:=by have:=HNI.out;omega
   rw [HT.out] at HO ⊢
   go_wp2_with fail
   go_ret
   exact ⟨D,cap,rfl,own_none HF.out HE.out HO.out (by decide),HE.out.low⟩
end
end Go.Proofs.YtldoeodkeieejaaGreatDoor
namespace Go.Proofs
open Go.Shelf
def Tryz.laysSp_ren : Go.Shelf.Ren:=⟨fun | 41=>102 | n=>n,fun | 22=>58 | 23=>61 | 4=>4 | n=>n,fun | n=>n⟩
theorem Tryz.laysSp : Go.Proofs.SlLaysE0.n41 Tryz.prog Tryz.laysSp_ren := {
 mixed:=by kernel_rfl
 f41:=⟨Tryz.f102.name,by decide,Tryz.func102.trans (congrArg some (by kernel_rfl))⟩
 t4:=Tryz.underlying4
 a4:=Tryz.isAgg4
 z4:=Tryz.sizeOf4
 v4:=Tryz.zeroValue4
 t22:=Tryz.underlying58
 a22:=Tryz.isAgg58
 z22:=Tryz.sizeOf58
 v22:=Tryz.zeroValue58}
namespace YtldoeodkeieejaaGreatDoor
open Go.RowKit
theorem Reads.span {w:World} {A:Option Addr} {l:List Sp} (h:Reads w 2 A l.length (spcells l)) {k:Nat} {y:Sp} (hy:l[k]? = some y) :
 ∃ad,A=some ad∧w.cell? (ad.add (k*2))=some (.int .i64 y.a)∧w.cell? ⟨(ad.add (k*2)).block,(ad.add (k*2)).off+1,none⟩=some (.int .i64 y.b):=by
 obtain ⟨ad,rfl,hc⟩:=Reads.row (f:=Sp.cells) (fun _=>rfl) h hy
 exact ⟨ad,rfl,hc 0 _ rfl,hc 1 _ rfl⟩
def NoSp (g:Nat) (lb:Array Value) (l:List Sp) (w:World):Prop:=∀(W:World) (s:Sp),s∈l→Below w.heap.size w W→Calls Tryz.prog g (#[.agg #[.int .i64 s.a, .int .i64 s.b]]++lb) W fun e w'=>e = .returned (.bool false)∧Below W.heap.size W w'
section
variable {w:World}
set_option maxRecDepth 100000 in
set_option maxHeartbeats 1000000 in
theorem idxspans_none (g:Nat) (lb:Array Value) (eg:∀args w,(callFunc g args).run Tryz.prog w = .ok (.enter g args) w) (l:List Sp) (A:Option Addr) (cap:Nat) (h:Reads w 2 A l.length (spcells l)) (hl:l.length≤1000000) (hp:NoSp g lb l w) :
 Calls Tryz.prog 167 #[.slice A l.length cap, .func (.func g) #[] lb] w fun e w'=>e = .returned (.int .i64 (-1))∧Below w.heap.size w w':=by
 have HR:=Lib.hid h
 have HP:=Lib.hid hp
 have hlI:(l.length:Int)≤1000000:=by omega
 clear h hp hl
 go_enter Tryz.func167,Tryz.ntmps167
 go_wp2_with fail
 go_loopg [8] l.length (fun n t8 wr=>∃i:Nat,n+i=l.length∧t8 = .int .i64 (i:Nat)∧Hid (Below w.heap.size w wr))
 case atStart=>exact ⟨0,by omega,rfl,Lib.hid (Below.refl _ _)⟩
 case round =>
  obtain ⟨i,hni,rfl,HB⟩:=hrel
  have HNI:=Lib.hid hni
  clear hni
  by_cases hlt:i<l.length
  ·have hltI:(i:Int)<(l.length:Int):=by omega
   obtain ⟨s,hs⟩:∃s,l[i]? = some s:=⟨_,List.getElem?_eq_getElem hlt⟩
   obtain ⟨ad,rfl,x0,x1⟩:=(HR.out.below' (by omega) HB.out).span hs
   have HC:=Lib.hid (HP.out wr s (List.mem_of_getElem? hs) HB.out)
   clear hs
   go_wp2_with (go_at_fn g;refine HC.out.mono ?_;rintro e w2 ⟨rfl,hb2⟩;have HB2:=Lib.hid (HB.out.trans (hb2.mono HB.out.size));clear hb2)
   go_roundg (l.length - (i+1))
   case measure=>have:=HNI.out;omega
   case rel=>exact ⟨i+1,by omega,by go_num,HB2⟩
  ·have hltI:¬(i:Int)<(l.length:Int):=by omega
   go_wp2_with fail
   go_ret
   exact ⟨rfl,HB.out⟩
set_option maxRecDepth 100000 in
theorem delspans_none (g:Nat) (lb:Array Value) (eg:∀args w,(callFunc g args).run Tryz.prog w = .ok (.enter g args) w) (l:List Sp) (A:Option Addr) (cap:Nat) (h:Reads w 2 A l.length (spcells l)) (hl:l.length≤1000000) (hp:NoSp g lb l w) :
 Calls Tryz.prog 101 #[.slice A l.length cap, .func (.func g) #[] lb] w fun e w'=>e = .returned (.slice A l.length cap)∧Below w.heap.size w w':=by
 have HC:=Lib.hid (idxspans_none g lb eg l A cap h hl hp)
 clear h hp hl
 go_enter Tryz.func101,Tryz.ntmps101
 go_wp2_with fail
 refine HC.out.mono ?_
 rintro e w1 ⟨rfl,hb⟩
 go_wp2_with fail
 go_ret
 exact ⟨rfl,hb⟩
set_option maxRecDepth 100000 in
theorem insspans_one (A:Option Addr) (cap:Nat) (fv:Value):Calls Tryz.prog 198 #[.slice A 1 cap, .int .i64 0, .int .i64 1,fv] w fun e w'=>e = .returned (.tuple #[])∧w'=w:=by
 go_enter Tryz.func198,Tryz.ntmps198
 go_wp2_with fail
 go_loopg [8,9] 0 (fun n t8 _ wr=>t8 = .int .i64 1∧wr=w)
 case atStart=>exact ⟨rfl,rfl⟩
 case round =>
  obtain ⟨rfl,rfl⟩:=hrel
  go_wp2_with fail
  refine bodyPost_end (v := .tuple #[]) ?_ ?_ ?_
  ·exact results_none rfl _ _ _
  ·rfl
  ·exact ⟨rfl,rfl⟩
set_option maxRecDepth 100000 in
theorem pdqspans_one (A:Option Addr) (cap:Nat) (L:Int) (fv:Value):Calls Tryz.prog 168 #[.slice A 1 cap, .int .i64 0, .int .i64 1, .int .i64 L,fv] w fun e w'=>e = .returned (.tuple #[])∧w'=w:=by
 go_enter Tryz.func168,Tryz.ntmps168
 go_wp2_with fail
 go_loopg [1,2,3,10,11] 0 (fun n t1 t2 _ _ _ wr=>t1 = .int .i64 0∧t2 = .int .i64 1∧wr=w)
 case atStart=>exact ⟨rfl,rfl,rfl⟩
 case round =>
  obtain ⟨rfl,rfl,rfl⟩:=hrel
  go_wp2_with fail
  refine (insspans_one A cap fv).mono ?_
  rintro e w1 ⟨rfl,rfl⟩
  go_wp2_with fail
  exact bodyPost_ret (v := .tuple #[]) (results_none rfl _ _ _) rfl ⟨rfl,rfl⟩
set_option maxRecDepth 100000 in
theorem sortspans_one (A:Option Addr) (cap:Nat) (fv:Value):Calls Tryz.prog 105 #[.slice A 1 cap,fv] w fun e w'=>e = .returned (.tuple #[])∧w'=w:=by
 have HBL:=Lib.hid (show Calls Tryz.prog 169 #[.int .u64 1] w fun e w'=>∃L:Int,e = .returned (.int .i64 L)∧w'=w from (Tryz.bits_Len 1 w (by omega) (by omega)).mono (fun e w' h=>⟨_,h.1,h.2⟩))
 go_enter Tryz.func105,Tryz.ntmps105
 go_wp2_with fail
 refine HBL.out.mono ?_
 rintro e w1 ⟨L,rfl,rfl⟩
 go_wp2_with fail
 refine (pdqspans_one A cap L fv).mono ?_
 rintro e w2 ⟨rfl,rfl⟩
 go_wp2_with fail
 go_end0
 exact ⟨rfl,rfl⟩
theorem clonespans_any {o:Nat→Nat} {c:Nat} {v:Value} {l:List Sp} (hv:OwnS o c w 61 2 v l.length (spcells l)) (hl:l.length≤1000000) :
 Calls Tryz.prog 102 #[v] w fun e w'=>∃v',e = .returned v'∧(∀d,OwnS (band o w.heap.size w'.heap.size d) d w' 61 2 v' l.length (spcells l))∧Below w.heap.size w w':=by
 obtain ⟨i0,hi,hz0,hz1,hz2⟩:=info_parts info_sp
 rcases hv.1.2 with ⟨rfl,h0⟩ | ⟨g,cap,cur,rfl,_,hb,h1,h2,h3,h4⟩
 ·obtain rfl:l = []:=List.eq_nil_of_length_eq_zero h0
  refine (AnyE.slices_Clone_nil Tryz.laysSp 0 0 w).mono ?_
  rintro e w' ⟨rfl,rfl⟩
  exact ⟨_,rfl,fun d=>OwnS.nil _ _ _ _ _,Below.refl _ _⟩
 ·refine (AnyE.slices_Clone Tryz.laysSp i0 _ 2 16 hi hz0 hz1 hz2 (by rfl) (by omega) Tryz.sizeOf61 g 0 l.length cap (spcells l) w hv.1.1 (by unfold maxLen;omega) (by omega) (fun j u hu => ?_) (spcells_one l)).mono ?_
  ·have hb':Blk w g 61 cur:=hb
   rw [Nat.zero_add,hb'.cell]
   rw [←h4] at hu
   rw [List.getElem?_take] at hu
   split at hu
   ·simpa using hu
   ·cases hu
  ·rintro e w' ⟨v',rfl,ho,_,hb⟩
   exact ⟨v',rfl,fun d=>own_band ho,hb⟩
end
end YtldoeodkeieejaaGreatDoor
end Go.Proofs
namespace Go.Proofs.YtldoeodkeieejaaGreatDoor
open Go.RowKit
section
variable {o:Nat→Nat} {c p:Nat} {w:World} {D:Dk}
theorem depoch_any (h:DiskAt o c w p D) (k:Nat) (hk:k≤16):Calls Tryz.prog 50 #[.pointer (some ⟨p,0,none⟩), .int .i64 (k:Int)] w fun e w'=>e = .returned (.int .u64 (D.table k))∧w=w':=by
 obtain ⟨mn,ml,wv,sv,h1⟩:=h
 have ct:=h1.table k hk
 have hkI:(k:Int)<17:=by omega
 have hkI2:¬16<(k:Int):=by omega
 clear h1
 go_enter Tryz.func50,Tryz.ntmps50
 go_wp2_with fail
 go_ret
 exact ⟨rfl,rfl⟩
end
end Go.Proofs.YtldoeodkeieejaaGreatDoor
namespace Go.Proofs
open Go.Shelf
def Tryz.laysCm_ren : Go.Shelf.Ren:=⟨fun | 41=>48 | n=>n,fun | 22=>115 | 23=>66 | 4=>4 | n=>n,fun | n=>n⟩
theorem Tryz.laysCm : Go.Proofs.SlLaysE0.n41 Tryz.prog Tryz.laysCm_ren := {
 mixed:=by kernel_rfl
 f41:=⟨Tryz.f48.name,by decide,Tryz.func48.trans (congrArg some (by kernel_rfl))⟩
 t4:=Tryz.underlying4
 a4:=Tryz.isAgg4
 z4:=Tryz.sizeOf4
 v4:=Tryz.zeroValue4
 t22:=Tryz.underlying115
 a22:=Tryz.isAgg115
 z22:=Tryz.sizeOf115
 v22:=Tryz.zeroValue115}
namespace YtldoeodkeieejaaGreatDoor
open Go.RowKit
theorem add_zero2 (ad:Addr):ad.add (0*2)=ad:=by unfold Addr.add;simp
section
variable {w:World}
theorem spnorm1_no (l:List Sp) (hv:∀s∈l,s.ok):NoSp 103 #[] l w:=fun W s hs _=>by
 show Calls Tryz.prog 103 #[.agg #[.int .i64 s.a, .int .i64 s.b]] W _
 have hd:decide (0≤s.a∧s.a<s.b)=true:=decide_eq_true (hv s hs)
 have HB:=Lib.hid ((Below.refl W.heap.size W).alloc (Nat.le_refl _) (.cells #[.int .i64 s.a, .int .i64 s.b] 61))
 go_enter Tryz.func103,Tryz.ntmps103
 go_wp2_with fail
 refine (spvalid_any s.a s.b _).mono ?_
 rintro e w1 ⟨rfl,hb1⟩
 rw [hd]
 go_wp2_with fail
 go_ret
 exact ⟨by rfl,HB.out.trans (hb1.mono HB.out.size)⟩
set_option maxRecDepth 100000 in
set_option maxHeartbeats 4000000 in
theorem spnorm_one {o:Nat→Nat} {c:Nat} (s:Sp) (hs:s.ok) (A:Option Addr) (cap:Nat) (hv:OwnS o c w 61 2 (.slice A 1 cap) 1 (spcells [s])) :
 Calls Tryz.prog 52 #[.slice A 1 cap] w fun e w'=>∃D cap',e = .returned (.slice D 1 cap')∧(∀oo,Fut oo w→OwnS oo 0 w' 61 2 (.slice D 1 cap') 1 (spcells [s]))∧Below w.heap.size w w':=by
 obtain ⟨i0,hi,hz0,hz1,hz2⟩:=info_parts info_sp
 have HV:=Lib.hid hv
 have HS:=Lib.hid hs
 have eg:∀args w,(callFunc 103 args).run Tryz.prog w = .ok (.enter 103 args) w:=enters_of Tryz.func103 (by kernel_rfl) rfl
 clear hv hs
 go_enter Tryz.func52,Tryz.ntmps52
 go_wp2_with fail
 refine (clonespans_any (l := [s]) HV.out (show 1≤1000000 by decide)).mono ?_
 rintro e w1 ⟨v1,rfl,ho1,hb1⟩
 obtain ⟨A1,cap1,rfl,_,_⟩:=own_form' (ho1 1)
 have HR1:=Lib.hid (Reads.of_own (ho1 1).1)
 have HB1:=Lib.hid hb1
 clear ho1 hb1
 go_wp2_with fail
 refine (delspans_none 103 #[] eg [s] A1 cap1 HR1.out (show 1≤1000000 by decide) (spnorm1_no [s] (fun t ht=>by rw [List.mem_singleton.1 ht];exact HS.out))).mono ?_
 rintro e w2 ⟨rfl,hb2⟩
 have HR2:=Lib.hid (HR1.out.below' (by omega) hb2)
 have HB2:=Lib.hid (HB1.out.trans (hb2.mono HB1.out.size))
 clear hb2
 go_wp2_with fail
 refine (sortspans_one A1 cap1 _).mono ?_
 rintro e w3 ⟨rfl,rfl⟩
 have HE2:=Lib.hid ((Env.start w).below_ HB2.out)
 go_wp2_with fail
 go_loopg [3,14] 1 (fun n t3 t14 wr=>∃(i:Nat) (D:Option Addr) (cap:Nat) (oL:Nat→Nat),n+i=1∧t14 = .int .i64 (i:Nat)∧t3 = .slice D i cap∧OwnS oL 1 wr 61 2 (.slice D i cap) i (spcells ([s].take i))∧Env oL w wr∧Fut oL wr∧(i=0→Reads wr 2 A1 1 (spcells [s])))
 case atStart=>exact ⟨0,none,0,fun _=>0,by omega,rfl,rfl,OwnS.nil _ _ _ _ _,HE2.out,(fun _ _=>rfl),(fun _=>HR2.out)⟩
 case round =>
  obtain ⟨i,D,cap9,oL,hni,rfl,rfl,ho,he,hu,hb⟩:=hrel
  have HO:=Lib.hid ho
  have HE:=Lib.hid he
  have HU:=Lib.hid hu
  have HB:=Lib.hid hb
  clear ho he hu hb
  by_cases h0:i=0
  ·subst h0
   obtain ⟨ad,rfl,x0,x1⟩:=(HB.out rfl).span (l := [s]) (k:=0) (y:=s) rfl
   have HK:=Lib.hid (Blk.new wr 61 #[.int .i64 s.a, .int .i64 s.b])
   have HO1:=Lib.hid (HO.out.alloc (.cells #[.int .i64 s.a, .int .i64 s.b] 61))
   have HE1:=Lib.hid (HE.out.alloc (.cells #[.int .i64 s.a, .int .i64 s.b] 61))
   have HU1:=Lib.hid (HU.out.alloc (.cells #[.int .i64 s.a, .int .i64 s.b] 61))
   rw [add_zero2] at x0 x1
   go_upto_region 8 with (fail)
   generalize wr.alloc (.cells #[.int .i64 s.a, .int .i64 s.b] 61)=W1 at HK HO1 HE1 HU1 ⊢
   generalize wr.heap.size=X at HK ⊢
   clear x0 x1
   go_quiet (fail)
   have HK2:=Lib.hid (HK.out.drewN nq)
   have HO2:=Lib.hid ((HO1.out.drewN nq).alloc (.cells #[.int .i64 s.a, .int .i64 s.b] 61))
   have HE2':=Lib.hid (HE1.out.drewN nq)
   have HU2:=Lib.hid (show Fut oL (W1.drewN nq) from HU1.out.step ((Step.refl oL (fun _=>False) W1).drewN nq))
   generalize W1.drewN nq=V at HK2 HO2 HE2' HU2 ⊢
   obtain ⟨z0,z1⟩:=HK2.out.pair
   go_wp2_with (at_builtin;refine wpList_append_S _ rfl (.tmp 45) (.tmp 47) 58 rfl 61 i0 _ 2 16 Tryz.underlying58 hi hz0 hz1 hz2 rfl (by omega) (.slice D 0 cap9) 0 [] rfl HO2.out (some ⟨V.heap.size,0,none⟩) 1 1 [.int .i64 s.a, .int .i64 s.b] rfl (Reads.newAt V 61 2 1 _ #[.int .i64 s.a, .int .i64 s.b] _ rfl rfl rfl) (by simp [Value.oneCell']) (by unfold maxLen;omega) (by omega) ?_;intro v7 w7 hown7 hst7 hgr7 hat7;obtain ⟨A7,cap7,rfl,_,_⟩:=own_form' hown7;have HW7:=Lib.hid hown7;have HS7:=Lib.hid (((Step.refl oL (fun _=>False) V).alloc (.cells #[.int .i64 s.a, .int .i64 s.b] 61)).mono (fun _ h=>h.elim:∀y,False→only 1 y) |>.trans hst7);clear hown7 hst7 hgr7 hat7)
   go_roundg 0
   case measure=>omega
   case rel=>exact ⟨1,A7,cap7,_,by omega,by go_num,rfl,HW7.out,HE2'.out.step HS7.out (by unfold only;omega),HU2.out.step HS7.out,(fun h=>by omega)⟩
  ·obtain rfl:i=1:=by omega
   go_wp2_with fail
   go_ret
   exact ⟨D,cap9,rfl,fun oo hf=>own_none hf HE.out HO.out (by decide),HE.out.low⟩
end
end YtldoeodkeieejaaGreatDoor
end Go.Proofs
namespace Go.Proofs.YtldoeodkeieejaaGreatDoor
open Go.RowKit
structure Cl where
 node:Nat
 ep:Nat
 A:Option Addr
 n:Nat
 cap:Nat
def Cl.cells (x:Cl):List Value := [.int .i64 x.node, .int .u64 x.ep, .slice x.A x.n x.cap]
def clcells (l:List Cl):List Value:=l.flatMap Cl.cells
theorem info_cl : (Tryz.prog.info? 66).map (fun i=>(i.zero,i.size,i.bytes))=some (some (.agg #[.int .i64 0, .int .u64 0, .slice none 0 0]),3,40):=by kernel_rfl
theorem clcells_one (l:List Cl):∀u∈clcells l,u.oneCell'=true:=by
 intro u hu
 obtain ⟨s,_,hs⟩:=List.mem_flatMap.1 hu
 simp [Cl.cells] at hs
 rcases hs with rfl | rfl | rfl <;> rfl
theorem Reads.claim {w:World} {A:Option Addr} {l:List Cl} (h:Reads w 3 A l.length (clcells l)) {k:Nat} {y:Cl} (hy:l[k]? = some y) :
 ∃ad,A=some ad∧w.cell? (ad.add (k*3))=some (.int .i64 y.node)∧w.cell? ⟨(ad.add (k*3)).block,(ad.add (k*3)).off+1,none⟩=some (.int .u64 y.ep)∧w.cell? ⟨(ad.add (k*3)).block,(ad.add (k*3)).off+2,none⟩=some (.slice y.A y.n y.cap):=by
 obtain ⟨ad,rfl,hc⟩:=Reads.row (f:=Cl.cells) (fun _=>rfl) h hy
 exact ⟨ad,rfl,hc 0 _ rfl,hc 1 _ rfl,hc 2 _ rfl⟩
def NoCl (g:Nat) (lb:Array Value) (l:List Cl) (w:World):Prop:=∀(W:World) (s:Cl),s∈l→Below w.heap.size w W→Calls Tryz.prog g (#[.agg #[.int .i64 s.node, .int .u64 s.ep, .slice s.A s.n s.cap]]++lb) W fun e w'=>e = .returned (.bool false)∧Below W.heap.size W w'
section
variable {w:World}
set_option maxRecDepth 100000 in
set_option maxHeartbeats 1000000 in
theorem idxclaims_none (g:Nat) (lb:Array Value) (eg:∀args w,(callFunc g args).run Tryz.prog w = .ok (.enter g args) w) (l:List Cl) (A:Option Addr) (cap:Nat) (h:Reads w 3 A l.length (clcells l)) (hl:l.length≤1000000) (hp:NoCl g lb l w) :
 Calls Tryz.prog 98 #[.slice A l.length cap, .func (.func g) #[] lb] w fun e w'=>e = .returned (.int .i64 (-1))∧Below w.heap.size w w':=by
 have HR:=Lib.hid h
 have HP:=Lib.hid hp
 have hlI:(l.length:Int)≤1000000:=by omega
 clear h hp hl
 go_enter Tryz.func98,Tryz.ntmps98
 go_wp2_with fail
 go_loopg [8] l.length (fun n t8 wr=>∃i:Nat,n+i=l.length∧t8 = .int .i64 (i:Nat)∧Hid (Below w.heap.size w wr))
 case atStart=>exact ⟨0,by omega,rfl,Lib.hid (Below.refl _ _)⟩
 case round =>
  obtain ⟨i,hni,rfl,HB⟩:=hrel
  have HNI:=Lib.hid hni
  clear hni
  by_cases hlt:i<l.length
  ·have hltI:(i:Int)<(l.length:Int):=by omega
   obtain ⟨s,hs⟩:∃s,l[i]? = some s:=⟨_,List.getElem?_eq_getElem hlt⟩
   obtain ⟨ad,rfl,x0,x1,x2⟩:=(HR.out.below' (by omega) HB.out).claim hs
   have HC:=Lib.hid (HP.out wr s (List.mem_of_getElem? hs) HB.out)
   clear hs
   go_wp2_with (go_at_fn g;refine HC.out.mono ?_;rintro e w2 ⟨rfl,hb2⟩;have HB2:=Lib.hid (HB.out.trans (hb2.mono HB.out.size));clear hb2)
   go_roundg (l.length - (i+1))
   case measure=>have:=HNI.out;omega
   case rel=>exact ⟨i+1,by omega,by go_num,HB2⟩
  ·have hltI:¬(i:Int)<(l.length:Int):=by omega
   go_wp2_with fail
   go_ret
   exact ⟨rfl,HB.out⟩
set_option maxRecDepth 100000 in
theorem delclaims_none (g:Nat) (lb:Array Value) (eg:∀args w,(callFunc g args).run Tryz.prog w = .ok (.enter g args) w) (l:List Cl) (A:Option Addr) (cap:Nat) (h:Reads w 3 A l.length (clcells l)) (hl:l.length≤1000000) (hp:NoCl g lb l w) :
 Calls Tryz.prog 47 #[.slice A l.length cap, .func (.func g) #[] lb] w fun e w'=>e = .returned (.slice A l.length cap)∧Below w.heap.size w w':=by
 have HC:=Lib.hid (idxclaims_none g lb eg l A cap h hl hp)
 clear h hp hl
 go_enter Tryz.func47,Tryz.ntmps47
 go_wp2_with fail
 refine HC.out.mono ?_
 rintro e w1 ⟨rfl,hb⟩
 go_wp2_with fail
 go_ret
 exact ⟨rfl,hb⟩
theorem cloneclaims_any {o:Nat→Nat} {c:Nat} {v:Value} {l:List Cl} (hv:OwnS o c w 66 3 v l.length (clcells l)) (hl:l.length≤1000000) :
 Calls Tryz.prog 48 #[v] w fun e w'=>∃v',e = .returned v'∧(∀d,OwnS (band o w.heap.size w'.heap.size d) d w' 66 3 v' l.length (clcells l))∧Below w.heap.size w w':=by
 obtain ⟨i0,hi,hz0,hz1,hz2⟩:=info_parts info_cl
 rcases hv.1.2 with ⟨rfl,h0⟩ | ⟨g,cap,cur,rfl,_,hb,h1,h2,h3,h4⟩
 ·obtain rfl:l = []:=List.eq_nil_of_length_eq_zero h0
  refine (AnyE.slices_Clone_nil Tryz.laysCm 0 0 w).mono ?_
  rintro e w' ⟨rfl,rfl⟩
  exact ⟨_,rfl,fun d=>OwnS.nil _ _ _ _ _,Below.refl _ _⟩
 ·refine (AnyE.slices_Clone Tryz.laysCm i0 _ 3 40 hi hz0 hz1 hz2 (by rfl) (by omega) Tryz.sizeOf66 g 0 l.length cap (clcells l) w hv.1.1 (by unfold maxLen;omega) (by omega) (fun j u hu => ?_) (clcells_one l)).mono ?_
  ·have hb':Blk w g 66 cur:=hb
   rw [Nat.zero_add,hb'.cell]
   rw [←h4] at hu
   rw [List.getElem?_take] at hu
   split at hu
   ·simpa using hu
   ·cases hu
  ·rintro e w' ⟨v',rfl,ho,_,hb⟩
   exact ⟨v',rfl,fun d=>own_band ho,hb⟩
end
section
variable {o:Nat→Nat} {c p:Nat} {w:World} {D:Dk}
set_option maxRecDepth 100000 in
set_option maxHeartbeats 1000000 in
theorem aclash1_no (hd:DiskAt o c w p D) (x:Cl) (hn:x.node≤16) (h0:x.ep≠0) (ht:D.table x.node=x.ep) (B:Nat) (hB:w.cell? ⟨B,0,none⟩=some (.pointer (some ⟨p,0,none⟩))) :
 Calls Tryz.prog 49 #[.agg #[.int .i64 x.node, .int .u64 x.ep, .slice x.A x.n x.cap], .pointer (some ⟨B,0,none⟩)] w fun e w'=>e = .returned (.bool false)∧Below w.heap.size w w':=by
 have b0:((x.ep:Int) == 0)=false:=by simp;omega
 have hb:=(Below.refl w.heap.size w).alloc (Nat.le_refl _) (.cells #[.int .i64 x.node, .int .u64 x.ep, .slice x.A x.n x.cap] 66)
 have HB:=Lib.hid hb
 have HK:=Lib.hid (Blk.new w 66 #[.int .i64 x.node, .int .u64 x.ep, .slice x.A x.n x.cap])
 have HC:=Lib.hid (show (w.alloc (.cells #[.int .i64 x.node, .int .u64 x.ep, .slice x.A x.n x.cap] 66)).cell? ⟨B,0,none⟩=some (.pointer (some ⟨p,0,none⟩)) from (hb.cell (p:=⟨B,0,none⟩) (World.block_lt_of_cell? w _ hB)).trans hB)
 have hde:=depoch_any (hd.alloc (.cells #[.int .i64 x.node, .int .u64 x.ep, .slice x.A x.n x.cap] 66)).drew x.node hn
 rw [ht] at hde
 have HDE:=Lib.hid hde
 clear hb hde hd hB ht hn h0
 go_enter Tryz.func49,Tryz.ntmps49
 go_upto_region 1 with (fail)
 generalize w.alloc (.cells #[.int .i64 x.node, .int .u64 x.ep, .slice x.A x.n x.cap] 66)=W at HB HK HC HDE ⊢
 generalize w.heap.size=X at HK ⊢
 have z0:W.drew.cell? ⟨X,0,none⟩=some (.int .i64 x.node):=HK.out.cell 0
 have z1:W.drew.cell? ⟨X,1,none⟩=some (.int .u64 x.ep):=HK.out.cell 1
 have zB:W.drew.cell? ⟨B,0,none⟩=some (.pointer (some ⟨p,0,none⟩)):=HC.out
 go_region_held3 (fun w'=>w'.cell? ⟨X,0,none⟩=some (.int .i64 x.node)∧w'.cell? ⟨X,1,none⟩=some (.int .u64 x.ep)∧w'.cell? ⟨B,0,none⟩=some (.pointer (some ⟨p,0,none⟩)))
  (first | exact ⟨z0,z1,zB⟩ | go_keep)
  (first
    | (go_at_call 50;((with_reducible refine (HDE.out).mono ?_);rintro e5 w5 ⟨rfl,rfl⟩)))
 go_wp2_with fail
 go_ret
 exact ⟨by simp,HB.out.drew⟩
end
end Go.Proofs.YtldoeodkeieejaaGreatDoor
