import Derived.Test.YtohgabdmmbngbaaGreatDoorKSrvJe
set_option linter.unusedVariables false
set_option linter.unusedSimpArgs false
namespace Go.Proofs.YtohgabdmmbngbaaGreatDoor
open Go.RowKit
set_option maxRecDepth 100000 in
theorem joins_no {id life:Int} (w:World) (h:¬(1≤id∧id≤3∧1≤life∧life≤1000)):Calls Tryz.prog 3 #[.int .i64 id, .int .i64 life] w fun e w'=>e = .returned (.bool true)∧Below w.heap.size w w':=by
 have HA:=Lib.hid (alive_any w)
 by_cases h1:id<1
 ·clear h
  go_enter Tryz.func3,Tryz.ntmps3
  go_wp2_with fail
  refine HA.out.mono ?_
  rintro e w1 ⟨rfl,hb⟩
  go_wp2_with fail
  go_ret
  exact ⟨rfl,hb⟩
 ·by_cases h2:3<id
  ·clear h
   go_enter Tryz.func3,Tryz.ntmps3
   go_wp2_with fail
   refine HA.out.mono ?_
   rintro e w1 ⟨rfl,hb⟩
   go_wp2_with fail
   go_ret
   exact ⟨rfl,hb⟩
  ·by_cases h3:life<1
   ·clear h
    go_enter Tryz.func3,Tryz.ntmps3
    go_wp2_with fail
    refine HA.out.mono ?_
    rintro e w1 ⟨rfl,hb⟩
    go_wp2_with fail
    go_ret
    exact ⟨rfl,hb⟩
   ·have h4:1000<life:=by omega
    clear h
    go_enter Tryz.func3,Tryz.ntmps3
    go_wp2_with fail
    refine HA.out.mono ?_
    rintro e w1 ⟨rfl,hb⟩
    go_wp2_with fail
    go_ret
    exact ⟨rfl,hb⟩
theorem recM_ok {id b:Nat} (h1:id≤1000) (h2:b≤1000):(recM id b).ok:=by
 unfold Mg.ok sm recM Mg.zero
 simp
 omega
set_option maxRecDepth 100000 in
set_option maxHeartbeats 32000000 in
theorem joins_yes {k:Nat} {life:Int} (w:World) (hk:1≤k∧k≤3) (hl:1≤life∧life≤1000):Calls Tryz.prog 3 #[.int .i64 (k:Nat), .int .i64 life] w fun e w'=>e = .returned (.bool true)∧Below w.heap.size w w':=by
 have h1:¬(k:Int)<1:=by omega
 have h2:¬3<(k:Int):=by omega
 have h3:¬life<1:=by omega
 have h4:¬1000<life:=by omega
 have HK:=Lib.hid hk
 have HL:=Lib.hid hl
 have hk4:(k:Int)<4:=by omega
 have hk0:(0:Int)≤(k:Int):=by omega
 have hwl:IntKind.i64.wrap (1+life)=1+life:=by rw [IntKind.wrap_i64];omega
 clear hk hl
 go_enter Tryz.func3,Tryz.ntmps3
 go_wp2_with fail
 refine (show Calls Tryz.prog 15 #[.int .i64 3] w _ from join_any w (n:=3) (by omega)).mono ?_
 rintro e w1 ⟨s,p,v,rfl,o1,hv1,he1,hs1⟩
 obtain ⟨A,capE,hvE,_⟩:=own_form' he1
 subst hvE
 obtain ⟨gE,rfl,_,_⟩:=he1.addr (by omega)
 have HS1:=Lib.hid (hs1.alloc (.cells #[.int .i64 3, .int .i64 12, .int .i64 12, .int .i64 6, .int .i64 32] 27))
 have hal:Below w1.heap.size w1 (w1.alloc (.cells #[.int .i64 3, .int .i64 12, .int .i64 12, .int .i64 6, .int .i64 32] 27)):=(Below.refl _ _).alloc (Nat.le_refl _) _
 have HV1:=Lib.hid (hv1.below_ hal)
 have HE1:=Lib.hid (he1.below_ hal)
 clear hv1 he1 hs1 hal
 go_upto_region 6 with (fail)
 generalize w1.alloc (.cells #[.int .i64 3, .int .i64 12, .int .i64 12, .int .i64 6, .int .i64 32] 27)=W1 at HS1 HV1 HE1 ⊢
 have HSV:=Lib.hid (show ¬svC 10 0 by unfold svC;omega)
 have HSE:=Lib.hid (show ¬svC 10 1000 by unfold svC;omega)
 have HNZ:=Lib.hid (show ∀x,svC 10 x→nz x from fun x hx h0=>by unfold svC at hx;omega)
 have HTK:=Lib.hid (show Calls Tryz.prog 16 #[.pointer (some ⟨s,0,none⟩), .int .i64 (k:Nat), .agg #[.int .i64 1, .int .i64 0, .int .i64 0, .int .i64 0, .int .i64 1, .int .u64 0, .int .i64 0, .slice none 0 0]] W1 _ from HV1.out.take (k:=k) (m:=hi 1) (lv := .slice none 0 0) (by omega) (by omega) HK.out (OwnS.nil _ _ _ _ _) (hi_ok (by omega)) rfl (.inl rfl) (fun h=>absurd h (by decide)))
 go_wp2_with fail
 refine HTK.out.mono ?_
 rintro e w2 ⟨va,rfl,o2,hv2,ho2,hs2⟩
 rw [joins_same p HK.out] at hv2 ho2
 have HV2:=Lib.hid hv2
 have HO2:=Lib.hid ho2
 have HE2:=Lib.hid (HE1.out.step hs2 HSE.out)
 have HS2:=Lib.hid (HS1.out.trans (hs2.mono HNZ.out))
 clear hv2 ho2 hs2 HTK HV1 HE1 HS1
 have HTK:=Lib.hid (show Calls Tryz.prog 16 #[.pointer (some ⟨s,0,none⟩), .int .i64 (k:Nat), .agg #[.int .i64 1, .int .i64 0, .int .i64 0, .int .i64 0, .int .i64 0, .int .u64 0, .int .i64 0, .slice none 0 0]] w2 _ from HV2.out.take (k:=k) (m:=hi 0) (lv := .slice none 0 0) (by omega) (by omega) HK.out (OwnS.nil _ _ _ _ _) (hi_ok (by omega)) rfl (.inl rfl) (fun h=>absurd h (by decide)))
 go_wp2_with fail
 refine HTK.out.mono ?_
 rintro e w3 ⟨vb,rfl,o3,hv3,ho3,hs3⟩
 rw [joins_less p HK.out] at hv3 ho3
 obtain rfl:vb = .slice none 0 0:=ho3.1 rfl
 have HV3:=Lib.hid hv3
 have HO3:=Lib.hid (HO2.out.step hs3 HSV.out HSV.out)
 have HE3:=Lib.hid (HE2.out.step hs3 HSE.out)
 have HS3:=Lib.hid (HS2.out.trans (hs3.mono HNZ.out))
 clear hv3 ho3 hs3 HTK HV2 HE2 HS2 HO2
 have HTK:=Lib.hid (show Calls Tryz.prog 16 #[.pointer (some ⟨s,0,none⟩), .int .i64 (k:Nat), .agg #[.int .i64 1, .int .i64 0, .int .i64 0, .int .i64 0, .int .i64 (1+life), .int .u64 0, .int .i64 0, .slice none 0 0]] w3 _ from HV3.out.take (k:=k) (m:=hi (1+life)) (lv := .slice none 0 0) (by omega) (by omega) HK.out (OwnS.nil _ _ _ _ _) (hi_ok (by have:=HL.out;omega)) rfl (.inl rfl) (fun h=>absurd h (show ¬(1:Int)=15 by decide)))
 go_wp2_with fail
 refine HTK.out.mono ?_
 rintro e w4 ⟨vc,rfl,o4,hv4,ho4,hs4⟩
 obtain ⟨S4,e4,hj4⟩:=joins_more p HK.out (life:=1+life) (by have:=HL.out;omega)
 obtain ⟨b,hbe⟩:∃b,byOf k=b:=⟨_,rfl⟩
 obtain ⟨S5,e5,t5,st5,dp5⟩:=joins_again p HK.out (life:=1+life) (by have:=HL.out;omega) hj4
 have hb:=byOf_in (id:=k)
 rw [hbe] at e4 e5 hb
 obtain ⟨hb1,hb2,hb3⟩:=hb
 have HB:=Lib.hid (show 1≤b∧b≤3 from ⟨hb1,hb2⟩)
 have hbk:(((b:Nat):Int) == (k:Int))=false:=by
  simp
  omega
 have hb4:(b:Int)<4:=by omega
 have hb0:(0:Int)≤(b:Int):=by omega
 have hgen:=hj4.gen
 have hkept:=hj4.kept
 rw [e4] at hv4 ho4
 have HJ4:=Lib.hid hj4
 have HV4:=Lib.hid hv4
 have HO4:=Lib.hid (HO3.out.step hs4 HSV.out HSV.out)
 have HP4:=Lib.hid ho4
 have HE4:=Lib.hid (HE3.out.step hs4 HSE.out)
 have HS4:=Lib.hid (HS3.out.trans (hs4.mono HNZ.out))
 obtain ⟨ga,capa,lva,rfl,_,a0,a1,a2,a3,a4,a5,a6,a7,_,_⟩:=HO4.out.one
 obtain ⟨gc,capc,lvc,rfl,_,c0,c1,c2,c3,c4,c5,c6,c7,_,_⟩:=HP4.out.one
 have ek:w4.cell? ⟨gE,k,none⟩=some (.int .u64 ((2+k:Nat):Int)):=HE4.out.at_ (epl_get HK.out)
 have eb:w4.cell? ⟨gE,b,none⟩=some (.int .u64 ((2+b:Nat):Int)):=HE4.out.at_ (epl_get HB.out)
 obtain ⟨t4,wd4,hdv4,ht4,htb4⟩:=hj4.dv
 have HEP:=Lib.hid (show ∀q,Calls Tryz.prog 17 #[.pointer (some ⟨p,0,none⟩), .int .i64 (k:Int)] (w4.drewN q) (fun e w'=>e = .returned (.int .u64 0)∧w'=w4.drewN q) from fun q=>(HV4.out.drewN q).epoch hj4.dp (by have:=HK.out;omega) (e:=0) (by rw [hdv4.tab];exact ht4))
 have HST:=Lib.hid (show ∀q,Calls Tryz.prog 18 #[.pointer (some ⟨s,0,none⟩), .int .i64 (k:Int)] (w4.drewN q) (fun e w'=>e = .returned (.int .i64 4)∧w'=w4.drewN q) from fun q=>(HV4.out.drewN q).state HK.out hj4.pi.1)
 clear hv4 ho4 hs4 HTK HV3 HE3 HS3 HO3 hj4 e4 hdv4 ht4 htb4 hb1 hb2 hb3 hbe a0 a1 a2 a3 a4 a5 a7 c7
 go_upto_region 9 with (fail)
 go_quiet (first | (go_at_call 17;exact Calls.quiet_of_same (HEP.out _)) | (go_at_call 18;exact Calls.quiet_of_same (HST.out _)))
 go_upto_region 11 with (fail)
 go_quiet (fail)
 go_upto_region 14 with (fail)
 have HTK:=Lib.hid (fun q:Nat=>(show Calls Tryz.prog 16 #[.pointer (some ⟨s,0,none⟩), .int .i64 (b:Int), .agg #[.int .i64 13, .int .i64 0, .int .i64 (k:Int), .int .i64 1, .int .i64 1, .int .u64 (2+(b:Int)), .int .i64 0, .slice none 0 0]] (w4.drewN q) _ from (HV4.out.drewN q).take (k:=b) (m:=recM k b) (lv := .slice none 0 0) (by omega) (by omega) HB.out (OwnS.nil _ _ _ _ _) (recM_ok (by have:=HK.out;omega) (by have:=HB.out;omega)) rfl (.inr hgen.symm) (fun _=>hkept)))
 go_region_held3 (fun w'=>w'.cell? ⟨gc,5,none⟩=some (.int .i64 1)∧w'.cell? ⟨gE,b,none⟩=some (.int .u64 ((2+b:Nat):Int)))
  (first | exact ⟨c5,eb⟩ | exact ⟨d5,db⟩ | go_keep)
  ((go_at_call 16;((with_reducible refine (HTK.out _).mono ?_);rintro e w5 ⟨vd,rfl,o5,hv5,ho5,hs5⟩;have HV5:=Lib.hid hv5;have HO5:=Lib.hid ho5;have HS5:=Lib.hid hs5;have hst5:=(Step.of_below o4 (svC 10) (below_drewN w4 _)).trans hs5;have d5:w5.cell? ⟨gc,5,none⟩=some (.int .i64 1):=(HP4.out.step hst5 HSV.out HSV.out).cs.c5;have db:w5.cell? ⟨gE,b,none⟩=some (.int .u64 ((2+b:Nat):Int)):=(HE4.out.step hst5 HSE.out).at_ (epl_get HB.out);have HT5:=Lib.hid hst5;clear hv5 ho5 hs5 hst5)))
 have hv6:=HV5.out
 have ho6:=HO5.out
 rw [e5] at hv6 ho6
 obtain ⟨gd,capd,lvd,rfl,_,_⟩:=ho6.one
 have HV6:=Lib.hid hv6
 have HO6:=Lib.hid ho6
 have HE6:=Lib.hid (HE4.out.step HT5.out HSE.out)
 have HS6:=Lib.hid (HS4.out.trans (HT5.out.mono HNZ.out))
 have f0:w5.cell? ⟨gd,0,none⟩=some (.int .i64 (k:Int)):=ho6.cs.c0
 have f1:w5.cell? ⟨gd,1,none⟩=some (.int .i64 2):=ho6.cs.c1
 have f6:w5.cell? ⟨gd,6,none⟩=some (.int .u64 6):=ho6.cs.c6
 have fk:w5.cell? ⟨gE,k,none⟩=some (.int .u64 ((2+k:Nat):Int)):=HE6.out.at_ (epl_get HK.out)
 have h26:2+(k:Int)<6:=by have:=HK.out;omega
 have HA:=Lib.hid (fun W:World=>alive_any W)
 clear hv6 ho6 c0 c1 c2 c3 c4 c5 c6 d5 db ek eb a6 HV5 HO5 HS5 HV4 HE4 HS4 HJ4 HO4 HP4 HT5 HEP HST HTK e5 hbk hb4 hb0 hgen hkept
 go_upto_region 15 with (fail)
 go_region_held3 (fun w'=>w'.cell? ⟨gd,0,none⟩=some (.int .i64 (k:Int))∧w'.cell? ⟨gd,1,none⟩=some (.int .i64 2)∧w'.cell? ⟨gd,6,none⟩=some (.int .u64 6)∧w'.cell? ⟨gE,k,none⟩=some (.int .u64 ((2+k:Nat):Int)))
  (first | exact ⟨f0,f1,f6,fk⟩ | exact ⟨k0,k1,k6,kk⟩ | go_keep)
  (first
    | (go_at_call 14;((with_reducible refine (HA.out _).mono ?_);rintro e w7 ⟨rfl,hb7⟩;have hbw:Below w5.heap.size w5 w7:=(by first | exact (below_drew w5).trans hb7 | exact (below_drewN w5 _).trans hb7 | exact hb7);have k0:w7.cell? ⟨gd,0,none⟩=some (.int .i64 (k:Int)):=cell_below f0 hbw;have k1:w7.cell? ⟨gd,1,none⟩=some (.int .i64 2):=cell_below f1 hbw;have k6:w7.cell? ⟨gd,6,none⟩=some (.int .u64 6):=cell_below f6 hbw;have kk:w7.cell? ⟨gE,k,none⟩=some (.int .u64 ((2+k:Nat):Int)):=cell_below fk hbw;have HV7:=Lib.hid (HV6.out.below_ hbw);have HS7:=Lib.hid (HS6.out.trans (Step.of_below o5 nz hbw));clear hb7 hbw))
    | (go_at_call 17;((with_reducible refine ((HV7.out.drewN _).epoch dp5 (by have:=HK.out;omega) t5).mono ?_);rintro e w8 ⟨rfl,rfl⟩))
    | (go_at_call 17;((with_reducible refine (HV7.out.epoch dp5 (by have:=HK.out;omega) t5).mono ?_);rintro e w8 ⟨rfl,rfl⟩))
    | (go_at_call 18;((with_reducible refine ((HV7.out.drewN _).state HK.out st5).mono ?_);rintro e w8 ⟨rfl,rfl⟩))
    | (go_at_call 18;((with_reducible refine (HV7.out.state HK.out st5).mono ?_);rintro e w8 ⟨rfl,rfl⟩)))
 go_wp2_with fail
 go_ret
 first
  | exact ⟨rfl,HS7.out.below0 (fun h=>h rfl)⟩
  | exact ⟨rfl,HS7.out.drew.below0 (fun h=>h rfl)⟩
  | exact ⟨rfl,(HS7.out.trans (Step.of_below _ nz (below_drewN _ _))).below0 (fun h=>h rfl)⟩
theorem serverJoins_any (id life:Int) (w:World):Calls Tryz.prog 3 #[.int .i64 id, .int .i64 life] w fun e w'=>e = .returned (.bool true)∧Below w.heap.size w w':=by
 by_cases h:1≤id∧id≤3∧1≤life∧life≤1000
 ·obtain ⟨h1,h2,h3⟩:=h
  obtain ⟨k,rfl⟩:∃k:Nat,id=(k:Int):=⟨id.toNat,by omega⟩
  exact joins_yes w (by omega) h3
 ·exact joins_no w h
end Go.Proofs.YtohgabdmmbngbaaGreatDoor
