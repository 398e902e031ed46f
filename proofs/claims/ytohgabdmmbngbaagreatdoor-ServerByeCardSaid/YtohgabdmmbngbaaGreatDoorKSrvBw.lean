import Derived.Test.YtohgabdmmbngbaaGreatDoorKSrvKp
import Derived.Test.YtohgabdmmbngbaaGreatDoorKSrvJe
set_option linter.unusedVariables false
set_option linter.unusedSimpArgs false
namespace Go.Proofs.YtohgabdmmbngbaaGreatDoor
open Go.RowKit
set_option maxRecDepth 100000 in
theorem bye_no {L:Lk} (w:World) (h:¬(0≤L.a∧L.a<L.b∧L.b≤4096∧L.m=2)):Calls Tryz.prog 4 #[.agg #[.int .i64 L.a, .int .i64 L.b, .int .i64 L.m]] w fun e w'=>e = .returned (.bool true)∧Below w.heap.size w w':=by
 have HA:=Lib.hid (fun W:World=>alive_any W)
 obtain ⟨x0,x1,x2⟩:=(Keep.new (futZ w) 47 #[.int .i64 L.a, .int .i64 L.b, .int .i64 L.m]).1.three
 have hal:=Lib.hid (show Below w.heap.size w (w.alloc (.cells #[.int .i64 L.a, .int .i64 L.b, .int .i64 L.m] 47)) from (Below.refl _ _).alloc (Nat.le_refl _) _)
 by_cases h1:L.a<0
 ·clear h
  go_enter Tryz.func4,Tryz.ntmps4
  go_wp2_with fail
  refine (HA.out _).mono ?_
  rintro e w1 ⟨rfl,hb⟩
  go_wp2_with fail
  go_ret
  exact ⟨rfl,hal.out.trans (hb.mono (by simp))⟩
 ·by_cases h2:L.b≤L.a
  ·clear h
   go_enter Tryz.func4,Tryz.ntmps4
   go_wp2_with fail
   refine (HA.out _).mono ?_
   rintro e w1 ⟨rfl,hb⟩
   go_wp2_with fail
   go_ret
   exact ⟨rfl,hal.out.trans (hb.mono (by simp))⟩
  ·by_cases h3:4096<L.b
   ·clear h
    go_enter Tryz.func4,Tryz.ntmps4
    go_wp2_with fail
    refine (HA.out _).mono ?_
    rintro e w1 ⟨rfl,hb⟩
    go_wp2_with fail
    go_ret
    exact ⟨rfl,hal.out.trans (hb.mono (by simp))⟩
   ·have h4:(L.m != 2)=true:=by
     simp
     omega
    clear h
    go_enter Tryz.func4,Tryz.ntmps4
    go_wp2_with fail
    refine (HA.out _).mono ?_
    rintro e w1 ⟨rfl,hb⟩
    go_wp2_with fail
    go_ret
    exact ⟨rfl,hal.out.trans (hb.mono (by simp))⟩
set_option maxRecDepth 100000 in
set_option maxHeartbeats 32000000 in
theorem bye_yes {L:Lk} (w:World) (hL:0≤L.a∧L.a<L.b∧L.b≤4096∧L.m=2):Calls Tryz.prog 4 #[.agg #[.int .i64 L.a, .int .i64 L.b, .int .i64 L.m]] w fun e w'=>e = .returned (.bool true)∧Below w.heap.size w w':=by
 have h1:¬L.a<0:=by omega
 have h2:¬L.b≤L.a:=by omega
 have h3:¬4096<L.b:=by omega
 have h4:(L.m != 2)=false:=by simp [hL.2.2.2]
 have HR:=Lib.hid (right_of hL)
 have HM:=Lib.hid hL.2.2.2
 have HX0:=Lib.hid (Keep.new (futZ w) 47 #[.int .i64 L.a, .int .i64 L.b, .int .i64 L.m])
 have HS0:=Lib.hid ((Step.refl o0 nz w).alloc (.cells #[.int .i64 L.a, .int .i64 L.b, .int .i64 L.m] 47))
 clear hL
 go_enter Tryz.func4,Tryz.ntmps4
 go_upto_region 1 with (fail)
 generalize w.alloc (.cells #[.int .i64 L.a, .int .i64 L.b, .int .i64 L.m] 47)=W at HX0 HS0 ⊢
 obtain ⟨gX,hgX⟩:∃gX,w.heap.size=gX:=⟨_,rfl⟩
 rw [hgX] at HX0 ⊢
 clear hgX
 obtain ⟨x0,x1,x2⟩:=HX0.out.1.three
 go_wp2_with fail
 refine (show Calls Tryz.prog 15 #[.int .i64 2] W _ from join_any W (n:=2) (by omega)).mono ?_
 rintro e w1 ⟨s,p,v,rfl,o1,hv1,he1,hs1⟩
 obtain ⟨A,capE,hvE,_⟩:=own_form' he1
 subst hvE
 obtain ⟨gE,rfl,_,_⟩:=he1.addr (by omega)
 have hX1:Keep o1 w1 gX 47 _:=HX0.out.step hs1 (fun h=>h rfl)
 have hal:Below w1.heap.size w1 (w1.alloc (.cells #[.int .i64 3, .int .i64 12, .int .i64 12, .int .i64 6, .int .i64 32] 27)):=(Below.refl _ _).alloc (Nat.le_refl _) _
 have HSW1:=Lib.hid (HS0.out.trans (hs1.trans (Step.of_below o1 nz hal)))
 have HVW1:=Lib.hid (hv1.below_ hal)
 have HEW1:=Lib.hid (he1.below_ hal)
 have HXW1:=Lib.hid (hX1.below_ hal)
 clear hv1 he1 hs1 hal hX1 x0 x1 x2 HX0 HS0
 go_upto_region 6 with (fail)
 generalize w1.alloc (.cells #[.int .i64 3, .int .i64 12, .int .i64 12, .int .i64 6, .int .i64 32] 27)=W1 at HSW1 HVW1 HEW1 HXW1 ⊢
 obtain ⟨oW1,hoW1⟩:∃oW1,o1=oW1:=⟨_,rfl⟩
 rw [hoW1] at HSW1 HVW1 HEW1 HXW1
 clear hoW1
 have HSV:=Lib.hid (show ¬svC 10 0 by unfold svC;omega)
 have HSE:=Lib.hid (show ¬svC 10 1000 by unfold svC;omega)
 have HNZ:=Lib.hid (show ∀x,svC 10 x→nz x from fun x hx h0=>by unfold svC at hx;omega)
 obtain ⟨S1,S2,S3,S4,v1,v2,e1,e2,e3,e4,g1,g2,d4,wd4⟩:=bye_plain p HR.out HM.out
 have g0:=(joinN_ok p 2 (by omega)).1.gen
 have f0:W1.cell? ⟨gE,1,none⟩=some (.int .u64 3):=HEW1.out.at_ (epl_get (k:=1) (by omega))
 obtain ⟨y0,y1,y2⟩:W1.cell? ⟨gX,0,none⟩=some (.int .i64 L.a)∧W1.cell? ⟨gX,1,none⟩=some (.int .i64 L.b)∧W1.cell? ⟨gX,2,none⟩=some (.int .i64 L.m):=HXW1.out.1.three
 have k0:=cell_alloc f0 (.cells #[.int .i64 L.a, .int .i64 L.b, .int .i64 L.m] 47)
 have z0:=cell_alloc y0 (.cells #[.int .i64 L.a, .int .i64 L.b, .int .i64 L.m] 47)
 have z1:=cell_alloc y1 (.cells #[.int .i64 L.a, .int .i64 L.b, .int .i64 L.m] 47)
 have z2:=cell_alloc y2 (.cells #[.int .i64 L.a, .int .i64 L.b, .int .i64 L.m] 47)
 have hal:Below W1.heap.size W1 ((W1.alloc (.cells #[.int .i64 L.a, .int .i64 L.b, .int .i64 L.m] 47)).drew):=((Below.refl _ _).alloc (Nat.le_refl _) _).trans ((below_drew _).mono (by simp))
 have HAW1:=Lib.hid (Step.of_below oW1 nz hal)
 have HXa:=Lib.hid (HXW1.out.below_ hal)
 have HEa:=Lib.hid (HEW1.out.below_ hal)
 have HTK:=Lib.hid (show Calls Tryz.prog 16 #[.pointer (some ⟨s,0,none⟩), .int .i64 1, .agg #[.int .i64 5, .int .i64 1, .int .i64 0, .int .i64 1, .int .i64 0, .int .u64 3, .int .i64 0, .slice (some ⟨W1.heap.size,0,none⟩) 1 1]] (W1.alloc (.cells #[.int .i64 L.a, .int .i64 L.b, .int .i64 L.m] 47)).drew _ from (HVW1.out.below_ hal).take (k:=1) (m:=acqM 1 3 1 L) (by omega) (by omega) (by omega) (show OwnS oW1 0 (W1.alloc (.cells #[.int .i64 L.a, .int .i64 L.b, .int .i64 L.m] 47)).drew 47 3 (.slice (some ⟨W1.heap.size,0,none⟩) 1 1) 1 (lkcells [L]) from OwnS.of_blk (Blk.new W1 _ _).drew (HVW1.out.fut _ (Nat.le_refl _)) (by omega) (by unfold maxLen;omega) rfl rfl) (acqM_ok (by unfold sm;omega) (by unfold sm;omega) HR.out) rfl (.inr g0.symm) (fun h=>absurd h (show ¬(5:Int)=15 by decide)))
 clear hal
 go_upto_region 6 with (fail)
 go_region_held3 (fun w'=>w'.cell? ⟨gE,1,none⟩=some (.int .u64 3)∧w'.cell? ⟨gX,0,none⟩=some (.int .i64 L.a)∧w'.cell? ⟨gX,1,none⟩=some (.int .i64 L.b)∧w'.cell? ⟨gX,2,none⟩=some (.int .i64 L.m))
  (first | exact ⟨f0,y0,y1,y2⟩ | exact ⟨k0,z0,z1,z2⟩ | exact ⟨f3,u0,u1,u2⟩ | go_keep)
  ((go_at_call 16;((with_reducible refine HTK.out.mono ?_);rintro e W2 ⟨vW2,rfl,oW2,hv,ho,hs⟩;rw [e1] at hv;have HVW2:=Lib.hid hv;have HXW2:=Lib.hid (HXa.out.step hs HSV.out);have HEW2:=Lib.hid (HEa.out.step hs HSE.out);have HSW2:=Lib.hid (HSW1.out.trans (HAW1.out.trans (hs.mono HNZ.out)));have f3:W2.cell? ⟨gE,1,none⟩=some (.int .u64 3):=HEW2.out.at_ (epl_get (k:=1) (by omega));obtain ⟨u0,u1,u2⟩:=HXW2.out.1.three;clear hv ho hs)))
 clear f0 y0 y1 y2 k0 z0 z1 z2 HTK HXa HEa HAW1 HVW1 HXW1 HEW1 HSW1 f3 u0 u1 u2
 have f0:W2.cell? ⟨gE,2,none⟩=some (.int .u64 4):=HEW2.out.at_ (epl_get (k:=2) (by omega))
 obtain ⟨y0,y1,y2⟩:W2.cell? ⟨gX,0,none⟩=some (.int .i64 L.a)∧W2.cell? ⟨gX,1,none⟩=some (.int .i64 L.b)∧W2.cell? ⟨gX,2,none⟩=some (.int .i64 L.m):=HXW2.out.1.three
 have k0:=cell_alloc f0 (.cells #[.int .i64 L.a, .int .i64 L.b, .int .i64 L.m] 47)
 have z0:=cell_alloc y0 (.cells #[.int .i64 L.a, .int .i64 L.b, .int .i64 L.m] 47)
 have z1:=cell_alloc y1 (.cells #[.int .i64 L.a, .int .i64 L.b, .int .i64 L.m] 47)
 have z2:=cell_alloc y2 (.cells #[.int .i64 L.a, .int .i64 L.b, .int .i64 L.m] 47)
 have hal:Below W2.heap.size W2 ((W2.alloc (.cells #[.int .i64 L.a, .int .i64 L.b, .int .i64 L.m] 47)).drew):=((Below.refl _ _).alloc (Nat.le_refl _) _).trans ((below_drew _).mono (by simp))
 have HAW2:=Lib.hid (Step.of_below oW2 nz hal)
 have HXa:=Lib.hid (HXW2.out.below_ hal)
 have HEa:=Lib.hid (HEW2.out.below_ hal)
 have HTK:=Lib.hid (show Calls Tryz.prog 16 #[.pointer (some ⟨s,0,none⟩), .int .i64 2, .agg #[.int .i64 5, .int .i64 3, .int .i64 0, .int .i64 1, .int .i64 0, .int .u64 4, .int .i64 0, .slice (some ⟨W2.heap.size,0,none⟩) 1 1]] (W2.alloc (.cells #[.int .i64 L.a, .int .i64 L.b, .int .i64 L.m] 47)).drew _ from (HVW2.out.below_ hal).take (k:=2) (m:=acqM 3 4 1 L) (by omega) (by omega) (by omega) (show OwnS oW2 0 (W2.alloc (.cells #[.int .i64 L.a, .int .i64 L.b, .int .i64 L.m] 47)).drew 47 3 (.slice (some ⟨W2.heap.size,0,none⟩) 1 1) 1 (lkcells [L]) from OwnS.of_blk (Blk.new W2 _ _).drew (HVW2.out.fut _ (Nat.le_refl _)) (by omega) (by unfold maxLen;omega) rfl rfl) (acqM_ok (by unfold sm;omega) (by unfold sm;omega) HR.out) rfl (.inr g1.symm) (fun h=>absurd h (show ¬(5:Int)=15 by decide)))
 clear hal
 go_upto_region 7 with (fail)
 go_region_held3 (fun w'=>w'.cell? ⟨gE,2,none⟩=some (.int .u64 4)∧w'.cell? ⟨gX,0,none⟩=some (.int .i64 L.a)∧w'.cell? ⟨gX,1,none⟩=some (.int .i64 L.b)∧w'.cell? ⟨gX,2,none⟩=some (.int .i64 L.m))
  (first | exact ⟨f0,y0,y1,y2⟩ | exact ⟨k0,z0,z1,z2⟩ | exact ⟨f3,u0,u1,u2⟩ | go_keep)
  ((go_at_call 16;((with_reducible refine HTK.out.mono ?_);rintro e W3 ⟨vW3,rfl,oW3,hv,ho,hs⟩;rw [e2] at hv;have HVW3:=Lib.hid hv;have HXW3:=Lib.hid (HXa.out.step hs HSV.out);have HEW3:=Lib.hid (HEa.out.step hs HSE.out);have HSW3:=Lib.hid (HSW2.out.trans (HAW2.out.trans (hs.mono HNZ.out)));have f3:W3.cell? ⟨gE,2,none⟩=some (.int .u64 4):=HEW3.out.at_ (epl_get (k:=2) (by omega));obtain ⟨u0,u1,u2⟩:=HXW3.out.1.three;clear hv ho hs)))
 clear f0 y0 y1 y2 k0 z0 z1 z2 HTK HXa HEa HAW2 HVW2 HXW2 HEW2 HSW2 f3 u0 u1 u2
 have f0:W3.cell? ⟨gE,1,none⟩=some (.int .u64 3):=HEW3.out.at_ (epl_get (k:=1) (by omega))
 have HTK:=Lib.hid (show Calls Tryz.prog 16 #[.pointer (some ⟨s,0,none⟩), .int .i64 1, .agg #[.int .i64 14, .int .i64 0, .int .i64 0, .int .i64 1, .int .i64 0, .int .u64 3, .int .i64 0, .slice none 0 0]] W3 _ from HVW3.out.take (k:=1) (m:=byeM 3) (lv := .slice none 0 0) (by omega) (by omega) (by omega) (OwnS.nil _ _ _ _ _) (byeM_ok 3) rfl (.inr g2.symm) (fun h=>absurd h (show ¬(14:Int)=15 by decide)))
 go_wp2_with fail
 refine HTK.out.mono ?_
 rintro e W4 ⟨va,rfl,o4,hv,ho,hs⟩
 rw [e3] at hv ho
 have HVW4:=Lib.hid hv
 have HO4:=Lib.hid ho
 have HEW4:=Lib.hid (HEW3.out.step hs HSE.out)
 have HSW4:=Lib.hid (HSW3.out.trans (hs.mono HNZ.out))
 clear hv ho hs HTK HVW3 HEW3 HSW3 HXW3 f0
 have HTK:=Lib.hid (show Calls Tryz.prog 16 #[.pointer (some ⟨s,0,none⟩), .int .i64 1, .agg #[.int .i64 1, .int .i64 0, .int .i64 0, .int .i64 0, .int .i64 1, .int .u64 0, .int .i64 0, .slice none 0 0]] W4 _ from HVW4.out.take (k:=1) (m:=hi 1) (lv := .slice none 0 0) (by omega) (by omega) (by omega) (OwnS.nil _ _ _ _ _) (hi_ok (by omega)) rfl (.inl rfl) (fun h=>absurd h (by decide)))
 go_wp2_with fail
 refine HTK.out.mono ?_
 rintro e W5 ⟨vb,rfl,o5,hv,ho,hs⟩
 rw [e4] at hv ho
 have HV:=Lib.hid hv
 have HO:=Lib.hid (HO4.out.step hs HSV.out HSV.out)
 have HP:=Lib.hid ho
 have HE:=Lib.hid (HEW4.out.step hs HSE.out)
 have HS:=Lib.hid (HSW4.out.trans (hs.mono HNZ.out))
 obtain ⟨ga,capa,lva,rfl,_,_⟩:=HO.out.one
 obtain ⟨gb,capb,lvb,rfl,_,_⟩:=HP.out.one
 have a0:W5.cell? ⟨ga,0,none⟩=some (.int .i64 2):=HO.out.cs.c0
 have a1:W5.cell? ⟨ga,1,none⟩=some (.int .i64 6):=HO.out.cs.c1
 have a2:W5.cell? ⟨ga,2,none⟩=some (.int .i64 3):=HO.out.cs.c2
 have b1:W5.cell? ⟨gb,1,none⟩=some (.int .i64 2):=HP.out.cs.c1
 have b6:W5.cell? ⟨gb,6,none⟩=some (.int .u64 5):=HP.out.cs.c6
 have f0:W5.cell? ⟨gE,1,none⟩=some (.int .u64 3):=HE.out.at_ (epl_get (k:=1) (by omega))
 have HA:=Lib.hid (fun W:World=>alive_any W)
 clear hv ho hs HTK HVW4 HEW4 HSW4 HO4 e1 e2 e3 e4 g0 g1 g2
 go_upto_region 10 with (fail)
 go_region_held3 (fun w'=>w'.cell? ⟨ga,0,none⟩=some (.int .i64 2)∧w'.cell? ⟨ga,1,none⟩=some (.int .i64 6)∧w'.cell? ⟨ga,2,none⟩=some (.int .i64 3)∧w'.cell? ⟨gb,1,none⟩=some (.int .i64 2)∧w'.cell? ⟨gb,6,none⟩=some (.int .u64 5)∧w'.cell? ⟨gE,1,none⟩=some (.int .u64 3))
  (first | exact ⟨a0,a1,a2,b1,b6,f0⟩ | exact ⟨k0,k1,k2,k3,k4,k5⟩ | go_keep)
  (first
    | (go_at_call 14;((with_reducible refine (HA.out _).mono ?_);rintro e w7 ⟨rfl,hb7⟩;have hbw:Below W5.heap.size W5 w7:=(by first | exact (below_drew W5).trans hb7 | exact (below_drewN W5 _).trans hb7 | exact hb7);have k0:=cell_below a0 hbw;have k1:=cell_below a1 hbw;have k2:=cell_below a2 hbw;have k3:=cell_below b1 hbw;have k4:=cell_below b6 hbw;have k5:=cell_below f0 hbw;have HV7:=Lib.hid (HV.out.below_ hbw);have HS7:=Lib.hid (HS.out.trans (Step.of_below o5 nz hbw));clear hb7 hbw))
    | (go_at_call 19;((with_reducible refine ((HV7.out.drewN _).word1 d4 wd4).mono ?_);rintro e w8 ⟨rfl,rfl⟩))
    | (go_at_call 19;((with_reducible refine (HV7.out.word1 d4 wd4).mono ?_);rintro e w8 ⟨rfl,rfl⟩)))
 go_wp2_with fail
 go_ret
 first
  | exact ⟨rfl,HS7.out.below0 (fun h=>h rfl)⟩
  | exact ⟨rfl,HS7.out.drew.below0 (fun h=>h rfl)⟩
  | exact ⟨rfl,(HS7.out.trans (Step.of_below _ nz (below_drewN _ _))).below0 (fun h=>h rfl)⟩
theorem serverBye_any (L:Lk) (w:World):Calls Tryz.prog 4 #[.agg #[.int .i64 L.a, .int .i64 L.b, .int .i64 L.m]] w fun e w'=>e = .returned (.bool true)∧Below w.heap.size w w':=by
 by_cases h:0≤L.a∧L.a<L.b∧L.b≤4096∧L.m=2
 ·exact bye_yes w h
 ·exact bye_no w h
end Go.Proofs.YtohgabdmmbngbaaGreatDoor
