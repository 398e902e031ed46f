import Derived.Test.YtohgabdmmbngbaaGreatDoorKSrvMo
set_option linter.unusedVariables false
set_option linter.unusedSimpArgs false
namespace Go.Proofs.YtohgabdmmbngbaaGreatDoor
open Go.RowKit
set_option maxRecDepth 100000 in
theorem counts_no {L:Lk} {stamp:Int} (w:World) (h:¬(0≤L.a∧L.a<L.b∧L.b≤4000∧L.m=2∧0≤stamp∧stamp≤5)):Calls Tryz.prog 8 #[.agg #[.int .i64 L.a, .int .i64 L.b, .int .i64 L.m], .int .i64 stamp] w fun e w'=>e = .returned (.bool true)∧Below w.heap.size w w':=by
 have HA:=Lib.hid (fun W:World=>alive_any W)
 obtain ⟨x0,x1,x2⟩:=(Keep.new (futZ w) 47 #[.int .i64 L.a, .int .i64 L.b, .int .i64 L.m]).1.three
 have hal:=Lib.hid (show Below w.heap.size w (w.alloc (.cells #[.int .i64 L.a, .int .i64 L.b, .int .i64 L.m] 47)) from (Below.refl _ _).alloc (Nat.le_refl _) _)
 by_cases h0:L.a<0
 ·clear h
  go_enter Tryz.func8,Tryz.ntmps8
  go_wp2_with fail
  refine (HA.out _).mono ?_
  rintro e w1 ⟨rfl,hb⟩
  go_wp2_with fail
  go_ret
  exact ⟨rfl,hal.out.trans (hb.mono (by simp))⟩
 by_cases h1:L.b≤L.a
 ·clear h
  go_enter Tryz.func8,Tryz.ntmps8
  go_wp2_with fail
  refine (HA.out _).mono ?_
  rintro e w1 ⟨rfl,hb⟩
  go_wp2_with fail
  go_ret
  exact ⟨rfl,hal.out.trans (hb.mono (by simp))⟩
 by_cases h2:4000<L.b
 ·clear h
  go_enter Tryz.func8,Tryz.ntmps8
  go_wp2_with fail
  refine (HA.out _).mono ?_
  rintro e w1 ⟨rfl,hb⟩
  go_wp2_with fail
  go_ret
  exact ⟨rfl,hal.out.trans (hb.mono (by simp))⟩
 by_cases h3:(L.m != 2)=true
 ·clear h
  go_enter Tryz.func8,Tryz.ntmps8
  go_wp2_with fail
  refine (HA.out _).mono ?_
  rintro e w1 ⟨rfl,hb⟩
  go_wp2_with fail
  go_ret
  exact ⟨rfl,hal.out.trans (hb.mono (by simp))⟩
 have g3:(L.m != 2)=false:=by simpa using h3
 have M2:=Lib.hid (show L.m=2 by simpa using h3)
 clear h3
 by_cases h4:stamp<0
 ·clear h
  go_enter Tryz.func8,Tryz.ntmps8
  go_wp2_with fail
  refine (HA.out _).mono ?_
  rintro e w1 ⟨rfl,hb⟩
  go_wp2_with fail
  go_ret
  exact ⟨rfl,hal.out.trans (hb.mono (by simp))⟩
 have h5:5<stamp:=by
  have:=M2.out
  omega
 clear h
 go_enter Tryz.func8,Tryz.ntmps8
 go_wp2_with fail
 refine (HA.out _).mono ?_
 rintro e w1 ⟨rfl,hb⟩
 go_wp2_with fail
 go_ret
 exact ⟨rfl,hal.out.trans (hb.mono (by simp))⟩
set_option maxRecDepth 100000 in
set_option maxHeartbeats 32000000 in
theorem counts_yes {L:Lk} {stamp:Int} (w:World) (hL:0≤L.a∧L.a<L.b∧L.b≤4000∧L.m=2) (hI:0≤stamp∧stamp≤5):Calls Tryz.prog 8 #[.agg #[.int .i64 L.a, .int .i64 L.b, .int .i64 L.m], .int .i64 stamp] w fun e w'=>e = .returned (.bool true)∧Below w.heap.size w w':=by
 have h1:¬L.a<0:=by omega
 have h2:¬L.b≤L.a:=by omega
 have h3:¬4000<L.b:=by omega
 have h4:(L.m != 2)=false:=by simp [hL.2.2.2]
 have h5:¬stamp<0:=by omega
 have h6:¬5<stamp:=by omega
 have HR:=Lib.hid (right_of (L:=L) (by omega))
 have HM:=Lib.hid hL.2.2.2
 have HB4:=Lib.hid hL.2.2.1
 have HID:=Lib.hid hI
 have HX0:=Lib.hid (Keep.new (futZ w) 47 #[.int .i64 L.a, .int .i64 L.b, .int .i64 L.m])
 have HS0:=Lib.hid ((Step.refl o0 nz w).alloc (.cells #[.int .i64 L.a, .int .i64 L.b, .int .i64 L.m] 47))
 clear hL hI
 go_enter Tryz.func8,Tryz.ntmps8
 go_upto_region 1 with (fail)
 generalize w.alloc (.cells #[.int .i64 L.a, .int .i64 L.b, .int .i64 L.m] 47)=W at HX0 HS0 ⊢
 obtain ⟨gX,hgX⟩:∃gX,w.heap.size=gX:=⟨_,rfl⟩
 rw [hgX] at HX0 ⊢
 clear hgX
 obtain ⟨x0,x1,x2⟩:=HX0.out.1.three
 go_wp2_with fail
 refine (show Calls Tryz.prog 15 #[.int .i64 2] W _ from join_any W (n:=2) (by omega)).mono ?_
 rintro e w1 ⟨s,p,v,rfl,o1,hv1,he1,hs1⟩
 obtain ⟨A,capE,hvE,_⟩:=own_form' he1
 subst hvE
 obtain ⟨gE,rfl,_,_⟩:=he1.addr (by omega)
 have hX1:Keep o1 w1 gX 47 _:=HX0.out.step hs1 (fun h=>h rfl)
 have hal:Below w1.heap.size w1 (w1.alloc (.cells #[.int .i64 3, .int .i64 12, .int .i64 12, .int .i64 6, .int .i64 32] 27)):=(Below.refl _ _).alloc (Nat.le_refl _) _
 have HSW1:=Lib.hid (HS0.out.trans (hs1.trans (Step.of_below o1 nz hal)))
 have HVW1:=Lib.hid (hv1.below_ hal)
 have HEW1:=Lib.hid (he1.below_ hal)
 have HXW1:=Lib.hid (hX1.below_ hal)
 clear hv1 he1 hs1 hal hX1 x0 x1 x2 HX0 HS0
 go_upto_region 6 with (fail)
 generalize w1.alloc (.cells #[.int .i64 3, .int .i64 12, .int .i64 12, .int .i64 6, .int .i64 32] 27)=W1 at HSW1 HVW1 HEW1 HXW1 ⊢
 obtain ⟨oW1,hoW1⟩:∃oW1,o1=oW1:=⟨_,rfl⟩
 rw [hoW1] at HSW1 HVW1 HEW1 HXW1
 clear hoW1
 have HSV:=Lib.hid (show ¬svC 10 0 by unfold svC;omega)
 have HSE:=Lib.hid (show ¬svC 10 1000 by unfold svC;omega)
 have HNZ:=Lib.hid (show ∀x,svC 10 x→nz x from fun x hx h0=>by unfold svC at hx;omega)
 obtain ⟨S1,S2,S3,S4,v1,v2,kd,to_,e1,e2,e3,⟨m4,e4,hkd⟩,g1,g2,g3,c2,cn⟩:=counts_plain p HR.out HM.out HB4.out HID.out
 have g0:=(joinN_ok p 2 (by omega)).1.gen
 have E1:=Lib.hid e1
 have E2:=Lib.hid e2
 have E3:=Lib.hid e3
 have E4:=Lib.hid e4
 have HKD:=Lib.hid hkd
 have HC2:=Lib.hid c2
 have HCN:=Lib.hid cn
 clear e1 e2 e3 e4 hkd c2 cn
 have f0:W1.cell? ⟨gE,1,none⟩=some (.int .u64 3):=HEW1.out.at_ (epl_get (k:=1) (by omega))
 obtain ⟨y0,y1,y2⟩:W1.cell? ⟨gX,0,none⟩=some (.int .i64 L.a)∧W1.cell? ⟨gX,1,none⟩=some (.int .i64 L.b)∧W1.cell? ⟨gX,2,none⟩=some (.int .i64 L.m):=HXW1.out.1.three
 have k0:=cell_alloc f0 (.cells #[.int .i64 L.a, .int .i64 L.b, .int .i64 L.m] 47)
 have z0:=cell_alloc y0 (.cells #[.int .i64 L.a, .int .i64 L.b, .int .i64 L.m] 47)
 have z1:=cell_alloc y1 (.cells #[.int .i64 L.a, .int .i64 L.b, .int .i64 L.m] 47)
 have z2:=cell_alloc y2 (.cells #[.int .i64 L.a, .int .i64 L.b, .int .i64 L.m] 47)
 have hal:Below W1.heap.size W1 ((W1.alloc (.cells #[.int .i64 L.a, .int .i64 L.b, .int .i64 L.m] 47)).drew):=((Below.refl _ _).alloc (Nat.le_refl _) _).trans ((below_drew _).mono (by simp))
 have HAW1:=Lib.hid (Step.of_below oW1 nz hal)
 have HXa:=Lib.hid (HXW1.out.below_ hal)
 have HEa:=Lib.hid (HEW1.out.below_ hal)
 have HTK:=Lib.hid (show Calls Tryz.prog 16 #[.pointer (some ⟨s,0,none⟩), .int .i64 1, .agg #[.int .i64 5, .int .i64 1, .int .i64 0, .int .i64 1, .int .i64 0, .int .u64 3, .int .i64 0, .slice (some ⟨W1.heap.size,0,none⟩) 1 1]] (W1.alloc (.cells #[.int .i64 L.a, .int .i64 L.b, .int .i64 L.m] 47)).drew _ from (HVW1.out.below_ hal).take (k:=1) (m:=acqM 1 3 1 L) (by omega) (by omega) (by omega) (show OwnS oW1 0 (W1.alloc (.cells #[.int .i64 L.a, .int .i64 L.b, .int .i64 L.m] 47)).drew 47 3 (.slice (some ⟨W1.heap.size,0,none⟩) 1 1) 1 (lkcells [L]) from OwnS.of_blk (Blk.new W1 _ _).drew (HVW1.out.fut _ (Nat.le_refl _)) (by omega) (by unfold maxLen;omega) rfl rfl) (acqM_ok (by unfold sm;omega) (by unfold sm;omega) HR.out) rfl (.inr g0.symm) (fun h=>absurd h (show ¬(5:Int)=15 by decide)))
 clear hal
 go_upto_region 6 with (fail)
 go_region_held3 (fun w'=>w'.cell? ⟨gE,1,none⟩=some (.int .u64 3)∧w'.cell? ⟨gX,0,none⟩=some (.int .i64 L.a)∧w'.cell? ⟨gX,1,none⟩=some (.int .i64 L.b)∧w'.cell? ⟨gX,2,none⟩=some (.int .i64 L.m))
  (first | exact ⟨f0,y0,y1,y2⟩ | exact ⟨k0,z0,z1,z2⟩ | exact ⟨f3,u0,u1,u2⟩ | go_keep)
  ((go_at_call 16;((with_reducible refine HTK.out.mono ?_);rintro e W2 ⟨vW2,rfl,oW2,hv,ho,hs⟩;rw [E1.out] at hv;have HVW2:=Lib.hid hv;have HXW2:=Lib.hid (HXa.out.step hs HSV.out);have HEW2:=Lib.hid (HEa.out.step hs HSE.out);have HSW2:=Lib.hid (HSW1.out.trans (HAW1.out.trans (hs.mono HNZ.out)));have f3:W2.cell? ⟨gE,1,none⟩=some (.int .u64 3):=HEW2.out.at_ (epl_get (k:=1) (by omega));obtain ⟨u0,u1,u2⟩:=HXW2.out.1.three;clear hv ho hs)))
 clear f0 y0 y1 y2 k0 z0 z1 z2 HTK HXa HEa HAW1 HVW1 HXW1 HEW1 HSW1 f3 u0 u1 u2
 have f0:W2.cell? ⟨gE,1,none⟩=some (.int .u64 3):=HEW2.out.at_ (epl_get (k:=1) (by omega))
 have hal:Below W2.heap.size W2 (W2.alloc (.cells #[.int .i64 4090, .int .i64 4091, .int .i64 1] 47)):=(Below.refl _ _).alloc (Nat.le_refl _) _
 have HAW2:=Lib.hid (Step.of_below oW2 nz hal)
 have HXa:=Lib.hid (HXW2.out.below_ hal)
 have HEa:=Lib.hid (HEW2.out.below_ hal)
 have HTK:=Lib.hid (show Calls Tryz.prog 16 #[.pointer (some ⟨s,0,none⟩), .int .i64 1, .agg #[.int .i64 5, .int .i64 2, .int .i64 0, .int .i64 1, .int .i64 0, .int .u64 3, .int .i64 0, .slice (some ⟨W2.heap.size,0,none⟩) 1 1]] (W2.alloc (.cells #[.int .i64 4090, .int .i64 4091, .int .i64 1] 47)) _ from (HVW2.out.below_ hal).take (k:=1) (m:=acqM 2 3 1 lk90) (by omega) (by omega) (by omega) (show OwnS oW2 0 (W2.alloc (.cells #[.int .i64 4090, .int .i64 4091, .int .i64 1] 47)) 47 3 (.slice (some ⟨W2.heap.size,0,none⟩) 1 1) 1 (lkcells [lk90]) from OwnS.of_blk (Blk.new W2 _ _) (HVW2.out.fut _ (Nat.le_refl _)) (by omega) (by unfold maxLen;omega) rfl rfl) (acqM_ok (by unfold sm;omega) (by unfold sm;omega) (by decide)) rfl (.inr g1.symm) (fun h=>absurd h (show ¬(5:Int)=15 by decide)))
 clear hal
 go_wp2_with fail
 refine HTK.out.mono ?_
 rintro e W3 ⟨vW3,rfl,oW3,hv,ho,hs⟩
 rw [E2.out] at hv
 have HVW3:=Lib.hid hv
 have HXW3:=Lib.hid (HXa.out.step hs HSV.out)
 have HEW3:=Lib.hid (HEa.out.step hs HSE.out)
 have HSW3:=Lib.hid (HSW2.out.trans (HAW2.out.trans (hs.mono HNZ.out)))
 clear hv ho hs HTK HXa HEa HAW2 HVW2 HXW2 HEW2 HSW2 f0
 have f0:W3.cell? ⟨gE,2,none⟩=some (.int .u64 4):=HEW3.out.at_ (epl_get (k:=2) (by omega))
 obtain ⟨y0,y1,y2⟩:W3.cell? ⟨gX,0,none⟩=some (.int .i64 L.a)∧W3.cell? ⟨gX,1,none⟩=some (.int .i64 L.b)∧W3.cell? ⟨gX,2,none⟩=some (.int .i64 L.m):=HXW3.out.1.three
 have k0:=cell_alloc f0 (.cells #[.int .i64 L.a, .int .i64 L.b, .int .i64 L.m] 47)
 have z0:=cell_alloc y0 (.cells #[.int .i64 L.a, .int .i64 L.b, .int .i64 L.m] 47)
 have z1:=cell_alloc y1 (.cells #[.int .i64 L.a, .int .i64 L.b, .int .i64 L.m] 47)
 have z2:=cell_alloc y2 (.cells #[.int .i64 L.a, .int .i64 L.b, .int .i64 L.m] 47)
 have hal:Below W3.heap.size W3 ((W3.alloc (.cells #[.int .i64 L.a, .int .i64 L.b, .int .i64 L.m] 47)).drew):=((Below.refl _ _).alloc (Nat.le_refl _) _).trans ((below_drew _).mono (by simp))
 have HAW3:=Lib.hid (Step.of_below oW3 nz hal)
 have HXa:=Lib.hid (HXW3.out.below_ hal)
 have HEa:=Lib.hid (HEW3.out.below_ hal)
 have HTK:=Lib.hid (show Calls Tryz.prog 16 #[.pointer (some ⟨s,0,none⟩), .int .i64 2, .agg #[.int .i64 5, .int .i64 4, .int .i64 0, .int .i64 1, .int .i64 0, .int .u64 4, .int .i64 0, .slice (some ⟨W3.heap.size,0,none⟩) 1 1]] (W3.alloc (.cells #[.int .i64 L.a, .int .i64 L.b, .int .i64 L.m] 47)).drew _ from (HVW3.out.below_ hal).take (k:=2) (m:=acqM 4 4 1 L) (by omega) (by omega) (by omega) (show OwnS oW3 0 (W3.alloc (.cells #[.int .i64 L.a, .int .i64 L.b, .int .i64 L.m] 47)).drew 47 3 (.slice (some ⟨W3.heap.size,0,none⟩) 1 1) 1 (lkcells [L]) from OwnS.of_blk (Blk.new W3 _ _).drew (HVW3.out.fut _ (Nat.le_refl _)) (by omega) (by unfold maxLen;omega) rfl rfl) (acqM_ok (by unfold sm;omega) (by unfold sm;omega) HR.out) rfl (.inr g2.symm) (fun h=>absurd h (show ¬(5:Int)=15 by decide)))
 clear hal
 go_upto_region 8 with (fail)
 go_region_held3 (fun w'=>w'.cell? ⟨gE,2,none⟩=some (.int .u64 4)∧w'.cell? ⟨gX,0,none⟩=some (.int .i64 L.a)∧w'.cell? ⟨gX,1,none⟩=some (.int .i64 L.b)∧w'.cell? ⟨gX,2,none⟩=some (.int .i64 L.m))
  (first | exact ⟨f0,y0,y1,y2⟩ | exact ⟨k0,z0,z1,z2⟩ | exact ⟨f3,u0,u1,u2⟩ | go_keep)
  ((go_at_call 16;((with_reducible refine HTK.out.mono ?_);rintro e W4 ⟨vW4,rfl,oW4,hv,ho,hs⟩;rw [E3.out] at hv;rw [E3.out] at ho;have HOW4:=Lib.hid ho;have HVW4:=Lib.hid hv;have HXW4:=Lib.hid (HXa.out.step hs HSV.out);have HEW4:=Lib.hid (HEa.out.step hs HSE.out);have HSW4:=Lib.hid (HSW3.out.trans (HAW3.out.trans (hs.mono HNZ.out)));have f3:W4.cell? ⟨gE,2,none⟩=some (.int .u64 4):=HEW4.out.at_ (epl_get (k:=2) (by omega));obtain ⟨u0,u1,u2⟩:=HXW4.out.1.three;clear hv ho hs)))
 clear f0 y0 y1 y2 k0 z0 z1 z2 HTK HXa HEa HAW3 HVW3 HXW3 HEW3 HSW3 f3 u0 u1 u2
 have f0:W4.cell? ⟨gE,1,none⟩=some (.int .u64 3):=HEW4.out.at_ (epl_get (k:=1) (by omega))
 obtain ⟨y0,y1,y2⟩:W4.cell? ⟨gX,0,none⟩=some (.int .i64 L.a)∧W4.cell? ⟨gX,1,none⟩=some (.int .i64 L.b)∧W4.cell? ⟨gX,2,none⟩=some (.int .i64 L.m):=HXW4.out.1.three
 have k0:=cell_alloc f0 (.cells #[.int .i64 L.a, .int .i64 L.b, .int .i64 0] 47)
 have z0:=cell_alloc y0 (.cells #[.int .i64 L.a, .int .i64 L.b, .int .i64 0] 47)
 have z1:=cell_alloc y1 (.cells #[.int .i64 L.a, .int .i64 L.b, .int .i64 0] 47)
 have z2:=cell_alloc y2 (.cells #[.int .i64 L.a, .int .i64 L.b, .int .i64 0] 47)
 have hal:Below W4.heap.size W4 ((W4.alloc (.cells #[.int .i64 L.a, .int .i64 L.b, .int .i64 0] 47)).drew):=((Below.refl _ _).alloc (Nat.le_refl _) _).trans ((below_drew _).mono (by simp))
 have HAW4:=Lib.hid (Step.of_below oW4 nz hal)
 have HXa:=Lib.hid (HXW4.out.below_ hal)
 have HEa:=Lib.hid (HEW4.out.below_ hal)
 have HTK:=Lib.hid (show Calls Tryz.prog 16 #[.pointer (some ⟨s,0,none⟩), .int .i64 1, .agg #[.int .i64 9, .int .i64 0, .int .i64 0, .int .i64 1, .int .i64 stamp, .int .u64 3, .int .i64 0, .slice (some ⟨W4.heap.size,0,none⟩) 1 1]] (W4.alloc (.cells #[.int .i64 L.a, .int .i64 L.b, .int .i64 0] 47)).drew _ from (HVW4.out.below_ hal).take (k:=1) (m:=relM stamp 3 1 L) (by omega) (by omega) (by omega) (show OwnS oW4 0 (W4.alloc (.cells #[.int .i64 L.a, .int .i64 L.b, .int .i64 0] 47)).drew 47 3 (.slice (some ⟨W4.heap.size,0,none⟩) 1 1) 1 (lkcells [letGo L]) from OwnS.of_blk (Blk.new W4 _ _).drew (HVW4.out.fut _ (Nat.le_refl _)) (by omega) (by unfold maxLen;omega) rfl rfl) (relM_ok (by have:=HID.out;unfold sm;omega) (by unfold sm;omega) HR.out) rfl (.inr g3.symm) (fun h=>absurd h (show ¬(9:Int)=15 by decide)))
 clear hal
 go_upto_region 9 with (fail)
 go_region_held3 (fun w'=>w'.cell? ⟨gE,1,none⟩=some (.int .u64 3)∧w'.cell? ⟨gX,0,none⟩=some (.int .i64 L.a)∧w'.cell? ⟨gX,1,none⟩=some (.int .i64 L.b)∧w'.cell? ⟨gX,2,none⟩=some (.int .i64 L.m))
  (first | exact ⟨f0,y0,y1,y2⟩ | exact ⟨k0,z0,z1,z2⟩ | exact ⟨f3,u0,u1,u2⟩ | go_keep)
  ((go_at_call 16;((with_reducible refine HTK.out.mono ?_);rintro e W5 ⟨vW5,rfl,oW5,hv,ho,hs⟩;rw [E4.out] at hv;rw [E4.out] at ho;have HOW5:=Lib.hid ho;have HOW4:=Lib.hid ((HOW4.out.step HAW4.out (fun h=>h rfl) (fun h=>h rfl)).step hs HSV.out HSV.out);have HVW5:=Lib.hid hv;have HXW5:=Lib.hid (HXa.out.step hs HSV.out);have HEW5:=Lib.hid (HEa.out.step hs HSE.out);have HSW5:=Lib.hid (HSW4.out.trans (HAW4.out.trans (hs.mono HNZ.out)));have f3:W5.cell? ⟨gE,1,none⟩=some (.int .u64 3):=HEW5.out.at_ (epl_get (k:=1) (by omega));obtain ⟨u0,u1,u2⟩:=HXW5.out.1.three;clear hv ho hs)))
 clear f0 y0 y1 y2 k0 z0 z1 z2 HTK HXa HEa HAW4 HVW4 HXW4 HEW4 HSW4 f3 u0 u1 u2
 obtain ⟨ga,capa,lva,rfl,_,_⟩:=HOW4.out.one
 obtain ⟨gb,capb,lvb,rfl,_,_⟩:=HOW5.out.one
 have a0:W5.cell? ⟨ga,0,none⟩=some (.int .i64 1):=HOW4.out.cs.c0
 have a1:W5.cell? ⟨ga,1,none⟩=some (.int .i64 8):=HOW4.out.cs.c1
 clear g0 g1 g2 g3
 by_cases hs:stamp=2
 ·obtain ⟨rfl,rfl,md⟩:=HC2.out hs
  have hs2:(stamp == 2)=true:=by simp [hs]
  have b0:W5.cell? ⟨gb,0,none⟩=some (.int .i64 2):=HOW5.out.cs.c0
  have b1:W5.cell? ⟨gb,1,none⟩=some (.int .i64 6):=(HOW5.out.cs.c1).trans (by rw [HKD.out])
  have HMD:=Lib.hid md
  obtain ⟨tp,htb⟩:=HVW5.out.table
  have HTB:=Lib.hid htb
  obtain ⟨y0,y1,y2⟩:=HXW5.out.1.three
  clear htb md hs HID HC2 HCN HKD
  have HA:=Lib.hid (fun W:World=>alive_any W)
  have HMB:=Lib.hid (show ∀W,Below W5.heap.size W5 W→Calls Tryz.prog 24 #[.pointer (some ⟨tp,0,none⟩), .int .i64 1, .int .i64 L.a] W (fun e w'=>e = .returned (.int .i64 0)∧Below W.heap.size W w') from fun W hW=>(HTB.out W hW).2 1 L.a 0 (by omega) HMD.out)
  go_upto_region 13 with (fail)
  go_region_held3 (fun w'=>w'.cell? ⟨gb,0,none⟩=some (.int .i64 2)∧w'.cell? ⟨gb,1,none⟩=some (.int .i64 6)∧w'.cell? ⟨gX,0,none⟩=some (.int .i64 L.a))
   (first | exact ⟨b0,b1,y0⟩ | exact ⟨k0,k1,k2⟩ | exact ⟨m0,m1,m2⟩ | go_keep)
   (first
     | (go_at_call 14;((with_reducible refine (HA.out _).mono ?_);rintro e w7 ⟨rfl,hb7⟩;have hbw:Below W5.heap.size W5 w7:=(by first | exact (below_drew W5).trans hb7 | exact (below_drewN W5 _).trans hb7 | exact hb7);have k0:=cell_below b0 hbw;have k1:=cell_below b1 hbw;have k2:=cell_below y0 hbw;have HB7:=Lib.hid hbw;have HT7:=Lib.hid (HTB.out w7 hbw);have HTq:=Lib.hid (fun q=>HTB.out (w7.drewN q) (hbw.trans ((below_drewN w7 q).mono hbw.size)));have HBq:=Lib.hid (fun q=>hbw.trans ((below_drewN w7 q).mono hbw.size));clear hb7 hbw))
     | (go_at_call 23;((with_reducible refine HT7.out.1.mono ?_);rintro e w8 ⟨rfl,rfl⟩))
     | (go_at_call 23;((with_reducible refine (HTq.out _).1.mono ?_);rintro e w8 ⟨rfl,rfl⟩))
     | (go_at_call 24;((with_reducible refine (HMB.out _ HB7.out).mono ?_);rintro e w9 ⟨rfl,hb9⟩;have hbw:Below W5.heap.size W5 w9:=HB7.out.trans (hb9.mono HB7.out.size);have m0:=cell_below b0 hbw;have m1:=cell_below b1 hbw;have m2:=cell_below y0 hbw;have HB9:=Lib.hid hbw;clear hb9 hbw))
     | (go_at_call 24;((with_reducible refine (HMB.out _ (HBq.out _)).mono ?_);rintro e w9 ⟨rfl,hb9⟩;have hbw:Below W5.heap.size W5 w9:=(HB7.out.trans ((below_drewN _ _).mono HB7.out.size)).trans (hb9.mono (Nat.le_trans HB7.out.size (below_drewN _ _).size));have m0:=cell_below b0 hbw;have m1:=cell_below b1 hbw;have m2:=cell_below y0 hbw;have HB9:=Lib.hid hbw;clear hb9 hbw)))
  go_wp2_with fail
  go_ret
  first
   | exact ⟨rfl,(HSW5.out.trans (Step.of_below oW5 nz HB9.out)).below0 (fun h=>h rfl)⟩
   | exact ⟨rfl,((HSW5.out.trans (Step.of_below oW5 nz HB9.out)).trans (Step.of_below _ nz (below_drewN _ _))).below0 (fun h=>h rfl)⟩
 ·obtain ⟨rfl,rfl,md⟩:=HCN.out hs
  have hs2:(stamp == 2)=false:=by simp [hs]
  have b0:W5.cell? ⟨gb,0,none⟩=some (.int .i64 1):=HOW5.out.cs.c0
  have b1:W5.cell? ⟨gb,1,none⟩=some (.int .i64 8):=(HOW5.out.cs.c1).trans (by rw [HKD.out])
  have HMD:=Lib.hid md
  obtain ⟨tp,htb⟩:=HVW5.out.table
  have HTB:=Lib.hid htb
  obtain ⟨y0,y1,y2⟩:=HXW5.out.1.three
  clear htb md hs HID HC2 HCN HKD
  have HA:=Lib.hid (fun W:World=>alive_any W)
  have HMB:=Lib.hid (show ∀W,Below W5.heap.size W5 W→Calls Tryz.prog 24 #[.pointer (some ⟨tp,0,none⟩), .int .i64 1, .int .i64 L.a] W (fun e w'=>e = .returned (.int .i64 2)∧Below W.heap.size W w') from fun W hW=>(HTB.out W hW).2 1 L.a 2 (by omega) HMD.out)
  go_upto_region 14 with (fail)
  go_region_held3 (fun w'=>w'.cell? ⟨gb,0,none⟩=some (.int .i64 1)∧w'.cell? ⟨gb,1,none⟩=some (.int .i64 8)∧w'.cell? ⟨gX,0,none⟩=some (.int .i64 L.a))
   (first | exact ⟨b0,b1,y0⟩ | exact ⟨k0,k1,k2⟩ | exact ⟨m0,m1,m2⟩ | go_keep)
   (first
     | (go_at_call 14;((with_reducible refine (HA.out _).mono ?_);rintro e w7 ⟨rfl,hb7⟩;have hbw:Below W5.heap.size W5 w7:=(by first | exact (below_drew W5).trans hb7 | exact (below_drewN W5 _).trans hb7 | exact hb7);have k0:=cell_below b0 hbw;have k1:=cell_below b1 hbw;have k2:=cell_below y0 hbw;have HB7:=Lib.hid hbw;have HT7:=Lib.hid (HTB.out w7 hbw);have HTq:=Lib.hid (fun q=>HTB.out (w7.drewN q) (hbw.trans ((below_drewN w7 q).mono hbw.size)));have HBq:=Lib.hid (fun q=>hbw.trans ((below_drewN w7 q).mono hbw.size));clear hb7 hbw))
     | (go_at_call 23;((with_reducible refine HT7.out.1.mono ?_);rintro e w8 ⟨rfl,rfl⟩))
     | (go_at_call 23;((with_reducible refine (HTq.out _).1.mono ?_);rintro e w8 ⟨rfl,rfl⟩))
     | (go_at_call 24;((with_reducible refine (HMB.out _ HB7.out).mono ?_);rintro e w9 ⟨rfl,hb9⟩;have hbw:Below W5.heap.size W5 w9:=HB7.out.trans (hb9.mono HB7.out.size);have m0:=cell_below b0 hbw;have m1:=cell_below b1 hbw;have m2:=cell_below y0 hbw;have HB9:=Lib.hid hbw;clear hb9 hbw))
     | (go_at_call 24;((with_reducible refine (HMB.out _ (HBq.out _)).mono ?_);rintro e w9 ⟨rfl,hb9⟩;have hbw:Below W5.heap.size W5 w9:=(HB7.out.trans ((below_drewN _ _).mono HB7.out.size)).trans (hb9.mono (Nat.le_trans HB7.out.size (below_drewN _ _).size));have m0:=cell_below b0 hbw;have m1:=cell_below b1 hbw;have m2:=cell_below y0 hbw;have HB9:=Lib.hid hbw;clear hb9 hbw)))
  go_wp2_with fail
  go_ret
  first
   | exact ⟨rfl,(HSW5.out.trans (Step.of_below oW5 nz HB9.out)).below0 (fun h=>h rfl)⟩
   | exact ⟨rfl,((HSW5.out.trans (Step.of_below oW5 nz HB9.out)).trans (Step.of_below _ nz (below_drewN _ _))).below0 (fun h=>h rfl)⟩
theorem serverCounts_any (L:Lk) (stamp:Int) (w:World):Calls Tryz.prog 8 #[.agg #[.int .i64 L.a, .int .i64 L.b, .int .i64 L.m], .int .i64 stamp] w fun e w'=>e = .returned (.bool true)∧Below w.heap.size w w':=by
 by_cases h:0≤L.a∧L.a<L.b∧L.b≤4000∧L.m=2∧0≤stamp∧stamp≤5
 ·exact counts_yes w ⟨h.1,h.2.1,h.2.2.1,h.2.2.2.1⟩ h.2.2.2.2
 ·exact counts_no w h
end Go.Proofs.YtohgabdmmbngbaaGreatDoor
