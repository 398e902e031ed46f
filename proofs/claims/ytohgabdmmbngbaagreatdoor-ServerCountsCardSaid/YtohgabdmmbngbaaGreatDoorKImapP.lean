import Derived.Test.YtohgabdmmbngbaaGreatDoorKMsgC
import Derived.Test.YtohgabdmmbngbaaGreatDoorKMsgA
namespace Go.Proofs.YtohgabdmmbngbaaGreatDoor
open Go.RowKit
theorem fut0 (w:World):Fut (fun _=>0) w:=fun _ _=>rfl
theorem wbytes_okb {o:Nat→Nat} {w0 w:World} {p:Nat} {bs:List UInt8} (h:Wg o w0 w p bs):Calls Tryz.prog 190 #[.pointer (some ⟨p,0,none⟩)] w fun r w'=>r = .returned (.tuple #[.string (str bs), .int .i64 0])∧Wg o w0 w' p bs∧Below w.heap.size w w':=by
 refine (wbytes_any h.wr).mono ?_
 rintro e w1 ⟨rfl,hb⟩
 exact ⟨rfl,h.below_ hb,hb⟩
theorem wrapu_n {v:Nat} (h:v≤9223372036854775807):IntKind.u64.wrap (v:Int)=(v:Int):=by rw [IntKind.wrap_u64];omega
theorem Blk.put3 {w:World} {g:Nat} {t:TypeId} {a b c:Value} (h:Blk w g t #[a,b,c]) (x y z:Value):Blk (((w.setCell ⟨g,0,none⟩ x).setCell ⟨g,1,none⟩ y).setCell ⟨g,2,none⟩ z) g t #[x,y,z]:=((h.set_ 0 x).set_ 1 y).set_ 2 z
theorem below_put3 {B g:Nat} {w0 w:World} (h:Below B w0 w) (hg:B≤g) (x y z:Value):Below B w0 (((w.setCell ⟨g,0,none⟩ x).setCell ⟨g,1,none⟩ y).setCell ⟨g,2,none⟩ z) :=
 ((h.setCell (p:=⟨g,0,none⟩) hg x).setCell (p:=⟨g,1,none⟩) hg y).setCell (p:=⟨g,2,none⟩) hg z
theorem wrap_small {v:Nat} (h:v<4294967296):IntKind.i64.wrap (v:Int)=(v:Int):=IntWalk.i64_in _ (by omega)
theorem rest_str (l:List UInt8) (k:Nat):(str l).extract k (str l).size=str (l.drop k):=by rw [extract_str,str_size,List.take_length]
structure Sp where
 a:Int
 b:Int
def Sp.cells (s:Sp):List Value := [.int .i64 s.a, .int .i64 s.b]
def spcells (l:List Sp):List Value:=l.flatMap Sp.cells
theorem info_sp : (Tryz.prog.info? 45).map (fun i=>(i.zero,i.size,i.bytes))=some (some (.agg #[.int .i64 0, .int .i64 0]),2,16):=by kernel_rfl
theorem spcells_app (l m:List Sp):spcells (l++m)=spcells l++spcells m:=by simp [spcells]
theorem spcells_one (l:List Sp):∀u∈spcells l,u.oneCell'=true:=by
 intro u hu
 obtain ⟨s,_,hs⟩:=List.mem_flatMap.1 hu
 simp [Sp.cells] at hs
 rcases hs with rfl | rfl <;> rfl
def Sp.ok (s:Sp):Prop:=0≤s.a∧s.a<s.b
instance (s:Sp):Decidable s.ok:=by unfold Sp.ok;infer_instance
def meetR (s t:Sp):Sp×Bool:=if s.ok∧t.ok∧max s.a t.a<min s.b t.b then (⟨max s.a t.a,min s.b t.b⟩,true) else (⟨0,0⟩,false)
def fitB (a b:Int):Bool:=decide ((0≤a∧a≤2)∧(0≤b∧b≤2)∧(a=0∨b=0∨a=1∧b=1))
theorem Blk.pair {w:World} {g:Nat} {t:TypeId} {c0 c1:Value} (h:Blk w g t #[c0,c1]):w.cell? ⟨g,0,none⟩=some c0∧w.cell? ⟨g,1,none⟩=some c1:=⟨h.cell 0,h.cell 1⟩
theorem Blk.put2 {w:World} {g:Nat} {t:TypeId} {a b:Value} (h:Blk w g t #[a,b]) (x y:Value):Blk ((w.setCell ⟨g,0,none⟩ x).setCell ⟨g,1,none⟩ y) g t #[x,y]:=(h.set_ 0 x).set_ 1 y
theorem below_put2 {B g:Nat} {w0 w:World} (h:Below B w0 w) (hg:B≤g) (x y:Value):Below B w0 ((w.setCell ⟨g,0,none⟩ x).setCell ⟨g,1,none⟩ y):=(h.setCell (p:=⟨g,0,none⟩) hg x).setCell (p:=⟨g,1,none⟩) hg y
set_option maxRecDepth 100000 in
theorem mdfit_any (a b:Int) (w:World):Calls Tryz.prog 132 #[.int .i64 a, .int .i64 b] w fun e w'=>e = .returned (.bool (fitB a b))∧w=w':=by
 by_cases h0:0≤a∧a≤2
 ·by_cases h1:0≤b∧b≤2
  ·have d0:=decide_eq_true h0
   have d1:=decide_eq_true h1
   by_cases ha:a=0
   ·have hF:=Lib.hid (show fitB a b=true from decide_eq_true ⟨h0,h1, .inl ha⟩)
    subst ha
    clear h0 h1
    go_enter Tryz.func132,Tryz.ntmps132
    go_wp2_with fail
    refine (mdvalid_any 0 w).mono ?_
    rintro e w1 ⟨rfl,rfl⟩
    rw [d0]
    go_wp2_with fail
    refine (mdvalid_any b w).mono ?_
    rintro e w1 ⟨rfl,rfl⟩
    rw [d1]
    go_wp2_with fail
    go_ret
    exact ⟨by rw [hF.out];first | done | rfl,rfl⟩
   ·have ba:(a == 0)=false:=by simp [ha]
    by_cases hb:b=0
    ·have hF:=Lib.hid (show fitB a b=true from decide_eq_true ⟨h0,h1, .inr (.inl hb)⟩)
     subst hb
     clear h0 h1 ha
     go_enter Tryz.func132,Tryz.ntmps132
     go_wp2_with fail
     refine (mdvalid_any a w).mono ?_
     rintro e w1 ⟨rfl,rfl⟩
     rw [d0]
     go_wp2_with fail
     refine (mdvalid_any 0 w).mono ?_
     rintro e w1 ⟨rfl,rfl⟩
     rw [d1]
     go_wp2_with fail
     go_ret
     exact ⟨by rw [hF.out];first | done | rfl,rfl⟩
    ·have bb:(b == 0)=false:=by simp [hb]
     by_cases ha1:a=1
     ·by_cases hb1:b=1
      ·have hF:=Lib.hid (show fitB a b=true from decide_eq_true ⟨h0,h1, .inr (.inr ⟨ha1,hb1⟩)⟩)
       subst ha1 hb1
       clear h0 h1 ha hb
       go_enter Tryz.func132,Tryz.ntmps132
       go_wp2_with fail
       refine (mdvalid_any 1 w).mono ?_
       rintro e w1 ⟨rfl,rfl⟩
       rw [d0]
       go_wp2_with fail
       refine (mdvalid_any 1 w).mono ?_
       rintro e w1 ⟨rfl,rfl⟩
       rw [d1]
       go_wp2_with fail
       go_ret
       exact ⟨by rw [hF.out];first | done | rfl,rfl⟩
      ·have hF:=Lib.hid (show fitB a b=false from decide_eq_false (fun h=>by rcases h.2.2 with h | h | h;exact ha h;exact hb h;exact hb1 h.2))
       have bb1:(b == 1)=false:=by simp [hb1]
       subst ha1
       clear h0 h1 ha hb hb1
       go_enter Tryz.func132,Tryz.ntmps132
       go_wp2_with fail
       refine (mdvalid_any 1 w).mono ?_
       rintro e w1 ⟨rfl,rfl⟩
       rw [d0]
       go_wp2_with fail
       refine (mdvalid_any b w).mono ?_
       rintro e w1 ⟨rfl,rfl⟩
       rw [d1]
       go_wp2_with fail
       go_ret
       exact ⟨by rw [hF.out];first | done | rfl,rfl⟩
     ·have hF:=Lib.hid (show fitB a b=false from decide_eq_false (fun h=>by rcases h.2.2 with h | h | h;exact ha h;exact hb h;exact ha1 h.1))
      have ba1:(a == 1)=false:=by simp [ha1]
      clear h0 h1 ha hb ha1
      go_enter Tryz.func132,Tryz.ntmps132
      go_wp2_with fail
      refine (mdvalid_any a w).mono ?_
      rintro e w1 ⟨rfl,rfl⟩
      rw [d0]
      go_wp2_with fail
      refine (mdvalid_any b w).mono ?_
      rintro e w1 ⟨rfl,rfl⟩
      rw [d1]
      go_wp2_with fail
      go_ret
      exact ⟨by rw [hF.out];first | done | rfl,rfl⟩
  ·have d0:=decide_eq_true h0
   have d1:=decide_eq_false h1
   have hF:=Lib.hid (show fitB a b=false from decide_eq_false (fun h=>h1 h.2.1))
   clear h0 h1
   go_enter Tryz.func132,Tryz.ntmps132
   go_wp2_with fail
   refine (mdvalid_any a w).mono ?_
   rintro e w1 ⟨rfl,rfl⟩
   rw [d0]
   go_wp2_with fail
   refine (mdvalid_any b w).mono ?_
   rintro e w1 ⟨rfl,rfl⟩
   rw [d1]
   go_wp2_with fail
   go_ret
   exact ⟨by rw [hF.out];first | done | rfl,rfl⟩
 ·have d0:=decide_eq_false h0
  have hF:=Lib.hid (show fitB a b=false from decide_eq_false (fun h=>h0 h.1))
  clear h0
  go_enter Tryz.func132,Tryz.ntmps132
  go_wp2_with fail
  refine (mdvalid_any a w).mono ?_
  rintro e w1 ⟨rfl,rfl⟩
  rw [d0]
  go_wp2_with fail
  go_ret
  exact ⟨by rw [hF.out];first | done | rfl,rfl⟩
set_option maxRecDepth 100000 in
set_option maxHeartbeats 2000000 in
theorem spmeet_any (s t:Sp) (w:World):Calls Tryz.prog 188 #[.agg #[.int .i64 s.a, .int .i64 s.b], .agg #[.int .i64 t.a, .int .i64 t.b]] w fun e w'=>e = .returned (.tuple #[.agg #[.int .i64 (meetR s t).1.a, .int .i64 (meetR s t).1.b], .bool (meetR s t).2])∧Below w.heap.size w w':=by
 obtain ⟨a,b⟩:=s
 obtain ⟨c,d⟩:=t
 simp only
 have b1:=(Below.refl w.heap.size w).alloc (Nat.le_refl _) (.cells #[.int .i64 a, .int .i64 b] 45)
 have b2:=b1.alloc b1.size (.cells #[.int .i64 c, .int .i64 d] 45)
 have b3:=b2.alloc b2.size (.cells #[.int .i64 0, .int .i64 0] 45)
 have b4:=b3.alloc b3.size (.cells #[.int .i64 (max a c), .int .i64 (min b d)] 45)
 have k1:=(((Blk.new w 45 #[.int .i64 a, .int .i64 b]).alloc (.cells #[.int .i64 c, .int .i64 d] 45)).alloc (.cells #[.int .i64 0, .int .i64 0] 45)).alloc (.cells #[.int .i64 (max a c), .int .i64 (min b d)] 45)
 have k2:=((Blk.new (w.alloc (.cells #[.int .i64 a, .int .i64 b] 45)) 45 #[.int .i64 c, .int .i64 d]).alloc (.cells #[.int .i64 0, .int .i64 0] 45)).alloc (.cells #[.int .i64 (max a c), .int .i64 (min b d)] 45)
 have k3:=(Blk.new ((w.alloc (.cells #[.int .i64 a, .int .i64 b] 45)).alloc (.cells #[.int .i64 c, .int .i64 d] 45)) 45 #[.int .i64 0, .int .i64 0]).alloc (.cells #[.int .i64 (max a c), .int .i64 (min b d)] 45)
 have k4:=Blk.new (((w.alloc (.cells #[.int .i64 a, .int .i64 b] 45)).alloc (.cells #[.int .i64 c, .int .i64 d] 45)).alloc (.cells #[.int .i64 0, .int .i64 0] 45)) 45 #[.int .i64 (max a c), .int .i64 (min b d)]
 have hz1:(w.alloc (.cells #[.int .i64 a, .int .i64 b] 45)).heap.size=w.heap.size+1:=by simp
 have hz2:((w.alloc (.cells #[.int .i64 a, .int .i64 b] 45)).alloc (.cells #[.int .i64 c, .int .i64 d] 45)).heap.size=w.heap.size+1+1:=by simp
 have hz3:(((w.alloc (.cells #[.int .i64 a, .int .i64 b] 45)).alloc (.cells #[.int .i64 c, .int .i64 d] 45)).alloc (.cells #[.int .i64 0, .int .i64 0] 45)).heap.size=w.heap.size+1+1+1:=by simp
 rw [hz1] at k2
 rw [hz2] at k3
 rw [hz3] at k4
 have HB:=Lib.hid b4
 have H1:=Lib.hid k1
 have H2:=Lib.hid k2
 have H3:=Lib.hid k3
 have H4:=Lib.hid k4
 have HM:=Lib.hid (show meetR ⟨a,b⟩ ⟨c,d⟩=if (0≤a∧a<b)∧(0≤c∧c<d)∧max a c<min b d then (⟨max a c,min b d⟩,true) else (⟨0,0⟩,false) from rfl)
 clear b1 b2 b3 b4 k1 k2 k3 k4 hz1 hz2 hz3
 obtain ⟨⟨⟨ma,mb⟩,mv⟩,hm⟩:∃M,meetR ⟨a,b⟩ ⟨c,d⟩=M:=⟨_,rfl⟩
 rw [hm] at HM ⊢
 simp only
 clear hm
 go_enter Tryz.func188,Tryz.ntmps188
 go_upto_region 2 with (fail)
 generalize (((w.alloc (.cells #[.int .i64 a, .int .i64 b] 45)).alloc (.cells #[.int .i64 c, .int .i64 d] 45)).alloc (.cells #[.int .i64 0, .int .i64 0] 45)).alloc (.cells #[.int .i64 (max a c), .int .i64 (min b d)] 45)=W at HB H1 H2 H3 H4 ⊢
 obtain ⟨g2,hg2⟩:∃g,w.heap.size+1=g:=⟨_,rfl⟩
 rw [hg2] at H2 H3 H4 ⊢
 obtain ⟨g3,hg3⟩:∃g,g2+1=g:=⟨_,rfl⟩
 rw [hg3] at H3 H4 ⊢
 obtain ⟨g4,hg4⟩:∃g,g3+1=g:=⟨_,rfl⟩
 rw [hg4] at H4 ⊢
 have HG:=Lib.hid (show w.heap.size≤g3 by omega)
 generalize hg1:w.heap.size=g1 at H1 ⊢
 clear hg2 hg3 hg4
 obtain ⟨x0,x1⟩:=H1.out.pair
 have fin:∀(V:World) (p q:Int) (v:Bool),Below w.heap.size w V→Blk V g3 45 #[.int .i64 0, .int .i64 0]→(Sp.mk ma mb,mv)=(Sp.mk p q,v) →
  Below w.heap.size w ((V.setCell ⟨g3,0,none⟩ (.int .i64 p)).setCell ⟨g3,1,none⟩ (.int .i64 q))∧Blk ((V.setCell ⟨g3,0,none⟩ (.int .i64 p)).setCell ⟨g3,1,none⟩ (.int .i64 q)) g3 45 #[.int .i64 p, .int .i64 q]∧ma=p∧mb=q∧mv=v:=fun V p q v h1 h2 h3=>by
  injection h3 with h3 h4
  injection h3 with h5 h6
  exact ⟨below_put2 h1 HG.out _ _,h2.put2 _ _,h5,h6,h4⟩
 have FIN:=Lib.hid fin
 clear fin
 by_cases h1:0≤a∧a<b
 ·by_cases h2:0≤c∧c<d
  ·by_cases h3:max a c<min b d
   ·have HE:=Lib.hid (HM.out.trans (if_pos ⟨h1,h2,h3⟩))
    have d1:=decide_eq_true h1
    have d2:=decide_eq_true h2
    have d3:decide (0≤max a c∧max a c<min b d)=true:=decide_eq_true ⟨by omega,h3⟩
    clear h1 h2 h3
    go_wp2_with fail
    refine (spvalid_any a b W).mono ?_
    rintro e w1 ⟨rfl,hb1⟩
    rw [d1]
    obtain ⟨y0,y1⟩:=(H2.out.below_ hb1).pair
    go_wp2_with fail
    refine (spvalid_any c d w1).mono ?_
    rintro e w2 ⟨rfl,hb2⟩
    rw [d2]
    have hb12:=hb1.trans (hb2.mono hb1.size)
    obtain ⟨z0,z1⟩:=(H4.out.below_ hb12).pair
    go_wp2_with fail
    refine (spvalid_any (max a c) (min b d) w2).mono ?_
    rintro e w3 ⟨rfl,hb3⟩
    rw [d3]
    have hb13:=hb12.trans (hb3.mono hb12.size)
    obtain ⟨v0,v1⟩:=(H4.out.below_ hb13).pair
    have hk3:=H3.out.below_ hb13
    obtain ⟨u0,u1⟩:=hk3.pair
    have f0:=hk3.frozen 0
    have f1:=hk3.frozen 1
    have HB3:=Lib.hid (HB.out.trans (hb13.mono HB.out.size))
    have HK3:=Lib.hid hk3
    clear hb1 hb2 hb3 hb12 hb13 hk3 x0 x1 y0 y1 z0 z1
    go_wp2_with fail
    obtain ⟨c1,c2,rfl,rfl,rfl⟩:=FIN.out w3 _ _ _ HB3.out HK3.out HE.out
    obtain ⟨q0,q1⟩:=c2.pair
    exact bodyPost_ret (v := .tuple #[.agg #[.int .i64 (max a c), .int .i64 (min b d)], .bool true]) (by simp [results,Tryz.results188,go_sem,q0,q1]) rfl ⟨rfl,c1⟩
   ·have HE:=Lib.hid (HM.out.trans (if_neg (fun h=>h3 h.2.2)))
    have d1:=decide_eq_true h1
    have d2:=decide_eq_true h2
    have d3:decide (0≤max a c∧max a c<min b d)=false:=decide_eq_false (fun h=>h3 h.2)
    clear h1 h2 h3
    go_wp2_with fail
    refine (spvalid_any a b W).mono ?_
    rintro e w1 ⟨rfl,hb1⟩
    rw [d1]
    obtain ⟨y0,y1⟩:=(H2.out.below_ hb1).pair
    go_wp2_with fail
    refine (spvalid_any c d w1).mono ?_
    rintro e w2 ⟨rfl,hb2⟩
    rw [d2]
    have hb12:=hb1.trans (hb2.mono hb1.size)
    obtain ⟨z0,z1⟩:=(H4.out.below_ hb12).pair
    go_wp2_with fail
    refine (spvalid_any (max a c) (min b d) w2).mono ?_
    rintro e w3 ⟨rfl,hb3⟩
    rw [d3]
    have hb13:=hb12.trans (hb3.mono hb12.size)
    have hk3:=H3.out.below_ hb13
    obtain ⟨u0,u1⟩:=hk3.pair
    have f0:=hk3.frozen 0
    have f1:=hk3.frozen 1
    have HB3:=Lib.hid (HB.out.trans (hb13.mono HB.out.size))
    have HK3:=Lib.hid hk3
    clear hb1 hb2 hb3 hb12 hb13 hk3 x0 x1 y0 y1 z0 z1
    go_wp2_with fail
    obtain ⟨c1,c2,rfl,rfl,rfl⟩:=FIN.out w3 _ _ _ HB3.out HK3.out HE.out
    obtain ⟨q0,q1⟩:=c2.pair
    exact bodyPost_ret (v := .tuple #[.agg #[.int .i64 0, .int .i64 0], .bool false]) (by simp [results,Tryz.results188,go_sem,q0,q1]) rfl ⟨rfl,c1⟩
  ·have HE:=Lib.hid (HM.out.trans (if_neg (fun h=>h2 h.2.1)))
   have d1:=decide_eq_true h1
   have d2:=decide_eq_false h2
   clear h1 h2
   go_wp2_with fail
   refine (spvalid_any a b W).mono ?_
   rintro e w1 ⟨rfl,hb1⟩
   rw [d1]
   obtain ⟨y0,y1⟩:=(H2.out.below_ hb1).pair
   go_wp2_with fail
   refine (spvalid_any c d w1).mono ?_
   rintro e w2 ⟨rfl,hb2⟩
   rw [d2]
   have hb12:=hb1.trans (hb2.mono hb1.size)
   have hk3:=H3.out.below_ hb12
   obtain ⟨u0,u1⟩:=hk3.pair
   have f0:=hk3.frozen 0
   have f1:=hk3.frozen 1
   have HB3:=Lib.hid (HB.out.trans (hb12.mono HB.out.size))
   have HK3:=Lib.hid hk3
   clear hb1 hb2 hb12 hk3 x0 x1 y0 y1
   go_wp2_with fail
   obtain ⟨c1,c2,rfl,rfl,rfl⟩:=FIN.out w2 _ _ _ HB3.out HK3.out HE.out
   obtain ⟨q0,q1⟩:=c2.pair
   exact bodyPost_ret (v := .tuple #[.agg #[.int .i64 0, .int .i64 0], .bool false]) (by simp [results,Tryz.results188,go_sem,q0,q1]) rfl ⟨rfl,c1⟩
 ·have HE:=Lib.hid (HM.out.trans (if_neg (fun h=>h1 h.1)))
  have d1:=decide_eq_false h1
  clear h1
  go_wp2_with fail
  refine (spvalid_any a b W).mono ?_
  rintro e w1 ⟨rfl,hb1⟩
  rw [d1]
  have hk3:=H3.out.below_ hb1
  obtain ⟨u0,u1⟩:=hk3.pair
  have f0:=hk3.frozen 0
  have f1:=hk3.frozen 1
  have HB3:=Lib.hid (HB.out.trans (hb1.mono HB.out.size))
  have HK3:=Lib.hid hk3
  clear hb1 hk3 x0 x1
  go_wp2_with fail
  obtain ⟨c1,c2,rfl,rfl,rfl⟩:=FIN.out w1 _ _ _ HB3.out HK3.out HE.out
  obtain ⟨q0,q1⟩:=c2.pair
  exact bodyPost_ret (v := .tuple #[.agg #[.int .i64 0, .int .i64 0], .bool false]) (by simp [results,Tryz.results188,go_sem,q0,q1]) rfl ⟨rfl,c1⟩
def Lk.sp (p:Lk):Sp:=⟨p.a,p.b⟩
def minus1 (p s:Sp):List Sp:=if (meetR p s).2=false then [p] else [⟨p.a,s.a⟩,⟨s.b,p.b⟩].filter (fun x:Sp=>decide x.ok)
def withoutL (l:List Lk) (s:Sp):List Lk:=l.flatMap (fun p=>(minus1 p.sp s).map (fun x=>⟨x.a,x.b,p.m⟩))
def glue1 (out:List Lk) (p:Lk):List Lk:=match out.getLast? with
 | some q=>if q.b=p.a∧q.m=p.m then out.dropLast ++ [⟨q.a,p.b,q.m⟩] else out ++ [p]
 | none=>out ++ [p]
def glueL (l:List Lk):List Lk:=l.foldl glue1 []
def sortP (l:List Lk):List Lk:=l.mergeSort (fun x y=>decide (x.a≤y.a))
def layL (l:List Lk):List Lk:=glueL (sortP l)
def setL (l:List Lk) (s:Sp) (v:Int):List Lk:=layL (withoutL l s ++ [⟨s.a,s.b,v⟩])
def clearL (l:List Lk) (s:Sp):List Lk:=layL (withoutL l s)
def partsL (l:List Lk) (s:Sp):List Lk:=l.filterMap (fun p=>if (meetR p.sp s).2=true then some ⟨(meetR p.sp s).1.a,(meetR p.sp s).1.b,p.m⟩ else none)
def hasB (p:Lk) (x:Int):Bool:=decide (p.sp.ok∧p.a≤x∧x<p.b)
def getP (l:List Lk) (x:Int):Option Int:=(l.find? (fun p=>hasB p x)).map (fun p=>p.m)
structure WfP (l:List Lk):Prop where
 ok:∀p∈l,p.sp.ok
 rise:l.Pairwise (fun p q=>p.b≤q.a)
section
variable {l:List Lk} {p q:Lk} {s t:Sp} {v x:Int}
theorem meet_no (hs:s.ok) (ht:t.ok) (h:(meetR s t).2=false):s.b≤t.a∨t.b≤s.a:=by
 unfold meetR at h
 split at h
 ·exact absurd h (by simp)
 ·rename_i hn
  unfold Sp.ok at hs ht hn
  omega
theorem meet_yes (h:(meetR s t).2=true):s.ok∧t.ok∧max s.a t.a<min s.b t.b∧(meetR s t).1=⟨max s.a t.a,min s.b t.b⟩:=by
 unfold meetR at h ⊢
 split at h
 ·rename_i hy
  rw [if_pos hy]
  exact ⟨hy.1,hy.2.1,hy.2.2,rfl⟩
 ·exact absurd h (by simp)
theorem minus_mem (hp:p.sp.ok) (hs:s.ok) {y:Sp} (h:y∈minus1 p.sp s):y.ok∧p.a≤y.a∧y.b≤p.b∧(y.b≤s.a∨s.b≤y.a):=by
 unfold minus1 at h
 split at h
 ·rename_i hm
  rw [List.mem_singleton.1 h]
  exact ⟨hp,Int.le_refl _,Int.le_refl _,meet_no hp hs hm⟩
 ·rename_i hm
  obtain ⟨_,_,h3,_⟩:=meet_yes ((Bool.not_eq_false _).mp hm)
  obtain ⟨h1,h2⟩:=List.mem_filter.1 h
  have h2:y.ok:=of_decide_eq_true h2
  have hp':0≤p.a∧p.a<p.b:=hp
  have h3:max p.a s.a<min p.b s.b:=h3
  simp only [List.mem_cons,List.not_mem_nil,or_false] at h1
  rcases h1 with rfl | rfl
  ·exact ⟨h2,Int.le_refl _,by show s.a≤p.b;omega, .inl (Int.le_refl _)⟩
  ·exact ⟨h2,by show p.a≤s.b;omega,Int.le_refl _, .inr (Int.le_refl _)⟩
theorem minus_rise (_hp:p.sp.ok) (hs:s.ok):(minus1 p.sp s).Pairwise (fun x y=>x.b≤y.a):=by
 unfold minus1
 split
 ·exact List.pairwise_singleton _ _
 ·refine List.Pairwise.filter _ ?_
  refine List.Pairwise.cons ?_ (List.pairwise_singleton _ _)
  intro y hy
  rw [List.mem_singleton.1 hy]
  have:0≤s.a∧s.a<s.b:=hs
  show s.a≤s.b
  omega
theorem without_mem (h:WfP l) (hs:s.ok) {y:Lk} (hy:y∈withoutL l s):∃p∈l,y.m=p.m∧y.sp.ok∧p.a≤y.a∧y.b≤p.b∧(y.b≤s.a∨s.b≤y.a):=by
 unfold withoutL at hy
 obtain ⟨p,hp,hy⟩:=List.mem_flatMap.1 hy
 obtain ⟨z,hz,rfl⟩:=List.mem_map.1 hy
 obtain ⟨a,b,c,d⟩:=minus_mem (h.ok p hp) hs hz
 exact ⟨p,hp,rfl,a,b,c,d⟩
theorem WfP.without (h:WfP l) (hs:s.ok):WfP (withoutL l s):=by
 refine ⟨fun y hy => ?_,?_⟩
 ·obtain ⟨_,_,_,a,_⟩:=without_mem h hs hy
  exact a
 ·unfold withoutL
  rw [List.pairwise_flatMap]
  refine ⟨fun p hp => ?_,?_⟩
  ·rw [List.pairwise_map]
   exact (minus_rise (h.ok p hp) hs).imp (fun h=>h)
  ·refine List.Pairwise.imp_of_mem ?_ h.rise
   intro p q hp hq hpq y hy z hz
   obtain ⟨y',hy',rfl⟩:=List.mem_map.1 hy
   obtain ⟨z',hz',rfl⟩:=List.mem_map.1 hz
   obtain ⟨_,_,c,_⟩:=minus_mem (h.ok p hp) hs hy'
   obtain ⟨_,c2,_,_⟩:=minus_mem (h.ok q hq) hs hz'
   show y'.b≤z'.a
   omega
structure Apart (l:List Lk):Prop where
 ok:∀p∈l,p.sp.ok
 apart:l.Pairwise (fun p q=>p.b≤q.a∨q.b≤p.a)
theorem WfP.apart (h:WfP l):Apart l:=⟨h.ok,h.rise.imp (fun h => .inl h)⟩
theorem Apart.more (h:WfP l) (hs:s.ok) (v:Int):Apart (withoutL l s ++ [⟨s.a,s.b,v⟩]):=by
 have hw:=h.without hs
 refine ⟨fun p hp => ?_,?_⟩
 ·rcases List.mem_append.1 hp with hp | hp
  ·exact hw.ok p hp
  ·rw [List.mem_singleton.1 hp]
   exact hs
 ·rw [List.pairwise_append]
  refine ⟨hw.apart.apart,List.pairwise_singleton _ _,fun y hy z hz => ?_⟩
  rw [List.mem_singleton.1 hz]
  obtain ⟨_,_,_,_,_,_,d⟩:=without_mem h hs hy
  exact d
theorem sort_le (l:List Lk):(sortP l).Pairwise (fun x y=>x.a≤y.a):=by
 have:=List.pairwise_mergeSort (le:=fun x y:Lk=>decide (x.a≤y.a)) (fun a b c h1 h2=>by simp at h1 h2 ⊢;omega) (fun a b=>by simp;omega) l
 exact this.imp (fun h=>by simpa using h)
theorem sort_perm (l:List Lk):(sortP l).Perm l:=List.mergeSort_perm _ _
theorem Apart.sort (h:Apart l):WfP (sortP l):=by
 have hp:=sort_perm l
 have hok:∀p∈sortP l,p.sp.ok:=fun p hm=>h.ok p (hp.mem_iff.1 hm)
 refine ⟨hok,?_⟩
 have h1:(sortP l).Pairwise (fun p q=>p.b≤q.a∨q.b≤p.a):=(hp.pairwise_iff (fun {x y} h=>h.symm)).2 h.apart
 have h2:=(sort_le l).and h1
 refine List.Pairwise.imp_of_mem ?_ h2
 intro p q hpm hqm hpq
 have a1:0≤p.a∧p.a<p.b:=hok p hpm
 have a2:0≤q.a∧q.a<q.b:=hok q hqm
 rcases hpq.2 with h | h
 ·exact h
 ·have:=hpq.1
  omega
theorem WfP.unique {m:List Lk} (h:WfP l) (h2:WfP m) (hp:l.Perm m):l=m:=by
 refine List.Perm.eq_of_pairwise (le:=fun p q:Lk=>p.a<q.a) ?_ ?_ ?_ hp
 ·intro a b _ _ h1 h2
  omega
 ·refine List.Pairwise.imp_of_mem ?_ h.rise
  intro p q hpm _ hpq
  have:0≤p.a∧p.a<p.b:=h.ok p hpm
  omega
 ·refine List.Pairwise.imp_of_mem ?_ h2.rise
  intro p q hpm _ hpq
  have:0≤p.a∧p.a<p.b:=h2.ok p hpm
  omega
theorem glue_wf {out rest:List Lk} (h:WfP (out++p :: rest)):WfP (glue1 out p++rest):=by
 unfold glue1
 cases hq:out.getLast? with
 | none =>
   simp only
   rw [List.append_assoc]
   exact h
 | some q =>
   simp only
   split
   ·rename_i he
    obtain ⟨out',rfl⟩:=List.getLast?_eq_some_iff.1 hq
    rw [List.dropLast_concat]
    have ho:q.sp.ok:=h.ok q (by simp)
    have hpo:p.sp.ok:=h.ok p (by simp)
    have hq2:0≤q.a∧q.a<q.b:=ho
    have hp2:0≤p.a∧p.a<p.b:=hpo
    have hr:=h.rise
    rw [List.append_assoc,List.pairwise_append] at hr
    obtain ⟨r1,r2,r3⟩:=hr
    have r2':([q]++p :: rest).Pairwise (fun p q=>p.b≤q.a):=r2
    rw [List.singleton_append,List.pairwise_cons,List.pairwise_cons] at r2'
    obtain ⟨r4,r5,r6⟩:=r2'
    refine ⟨fun y hy => ?_,?_⟩
    ·simp only [List.mem_append,List.mem_singleton] at hy
     rcases hy with (hy | rfl) | hy
     ·exact h.ok y (by simp [hy])
     ·show 0≤q.a∧q.a<p.b
      omega
     ·exact h.ok y (by simp [hy])
    ·rw [List.append_assoc,List.pairwise_append]
     refine ⟨r1,?_,fun y hy z hz => ?_⟩
     ·rw [List.singleton_append,List.pairwise_cons]
      exact ⟨r5,r6⟩
     ·rw [List.singleton_append] at hz
      rcases List.mem_cons.1 hz with rfl | hz
      ·exact r3 y hy q (by simp)
      ·exact r3 y hy z (by simp [hz])
   ·rw [List.append_assoc]
    exact h
theorem glueGo_wf : ∀(rest out:List Lk),WfP (out++rest)→WfP (rest.foldl glue1 out)
 | [],out,h=>by simpa using h
 | p :: rest,out,h=>glueGo_wf rest _ (glue_wf h)
theorem Apart.lay (h:Apart l):WfP (layL l):=glueGo_wf (sortP l) [] (by simpa using h.sort)
theorem WfP.set (h:WfP l) (hs:s.ok) (v:Int):WfP (setL l s v):=(Apart.more h hs v).lay
theorem WfP.clear (h:WfP l) (hs:s.ok):WfP (clearL l s):=(h.without hs).apart.lay
theorem wf_nil : WfP []:=⟨(fun p hp=>by cases hp),List.Pairwise.nil⟩
end
end Go.Proofs.YtohgabdmmbngbaaGreatDoor
