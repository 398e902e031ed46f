import Derived.Test.YtldoeodkeieejaaGreatDoorKTwinD
import Derived.Test.YtldoeodkeieejaaGreatDoorKLastA
namespace Go.Proofs.YtldoeodkeieejaaGreatDoor
open Go.RowKit
def goodB (l:List Im) (x:Im):Bool:=l.any (fun y=>decide (y.block=x.block) && decide (x.ver≤y.ver))
theorem goodB_succ {l:List Im} {j:Nat} {y:Im} (h:l[j]? = some y) (x:Im):goodB (l.take (j+1)) x=(goodB (l.take j) x || (decide (y.block=x.block) && decide (x.ver≤y.ver))):=by
 unfold goodB
 rw [List.take_add_one,h,Option.toList_some,List.any_append]
 simp
theorem arr_off {D:Dk} (h:D.on=false):D.arrL 10 = []:=by
 apply List.eq_nil_iff_forall_not_mem.2
 intro i hi
 obtain ⟨b,hb,he,hv,_⟩:=arr_mem.1 hi
 have hba:blockAt (b:Int)=(17+2*(b:Int),0):=if_neg (by omega)
 have e1:D.loadE1 b=14:=by
  unfold Dk.loadE1
  rw [hba]
  exact if_pos h
 unfold Dk.load at he
 rw [if_pos (by rw [e1];decide),e1] at he
 exact absurd (congrArg Prod.snd he) (by simp)
theorem audit_good {D:Dk} {k:Nat} (ht:Tame D k) (ha:D.armed=false) (hl:D.last<18446744073709551616) (hE:(wholeR D).1=0):∀x∈D.arrL 10,goodB ((wholeR D).2.arrL 10) x=true:=by
 intro x hx
 cases hon:D.on with
 | false =>
   rw [arr_off hon] at hx
   cases hx
 | true =>
   obtain ⟨j,hj,h1,h2⟩:=whole_has (k:=k) ⟨hon,ha,ht.sectors,ht.waits,ht.seq,ht.wf⟩ hl hE hx
   unfold goodB
   rw [List.any_eq_true]
   exact ⟨j,hj,by simp [h1,h2]⟩
set_option maxRecDepth 100000 in
set_option maxHeartbeats 8000000 in
theorem auditSame_any (l:List LOp) (vs:List (Value×Value)) (W:World) (A0:Option Addr) (cap0:Nat) (hrd0:OpsRd W A0 l vs) (hln0:l.length≤maxLen) (hin:∀o∈l,o.InB) :
 Calls Tryz.prog 3 #[.slice A0 l.length cap0] W fun e w'=>e = .returned (.bool true)∧Below W.heap.size W w':=by
 have HR0:=Lib.hid hrd0
 have HIN:=Lib.hid hin
 have HL0:=Lib.hid hln0
 clear hrd0 hin hln0
 go_enter Tryz.func3,Tryz.ntmps3
 go_upto_region 1 with (fail)
 go_wp2_with fail
 refine (light12_any W A0 cap0 l vs HR0.out HL0.out HIN.out).mono ?_
 rintro e w0 ⟨b,rfl,hb4,hb0⟩
 have HS0:=Lib.hid (Step.of_below (fun _=>0) nz hb0)
 have HF0:=Lib.hid (show Fut (fun _=>0) w0 from fun _ _=>rfl)
 clear hb0
 cases b with
 | false =>
   go_wp2_with fail
   refine (alive27_any HF0.out).mono ?_
   rintro e w1 ⟨rfl,o1,hs⟩
   go_wp2_with fail
   go_ret
   exact ⟨rfl,(HS0.out.trans hs).below (fun _ _ h=>h rfl) (Nat.le_refl _)⟩
 | true =>
 have HLL:=Lib.hid (hb4 rfl)
 clear hb4
 go_wp2_with fail
 refine (made_any (W:=W) l vs A0 cap0 HS0.out HR0.out HLL.out HIN.out).mono ?_
 rintro e w1 ⟨p,r,rfl,o1,q,s,hat,hm,_,hf,hs⟩
 have hd:=hat.disk
 have ht:=hm.two.tame
 have hla:=made_last HIN.out
 clear hat hm
 generalize (madeS l).D=D at hd ht hla
 have HD:=Lib.hid (hd.alloc (.cells #[.int .i64 2, .int .i64 10, .int .i64 8, .int .i64 4, .int .i64 32] 30))
 have HX:=Lib.hid (Keep.new hf 30 #[.int .i64 2, .int .i64 10, .int .i64 8, .int .i64 4, .int .i64 32])
 have HF:=Lib.hid (hf.alloc (.cells #[.int .i64 2, .int .i64 10, .int .i64 8, .int .i64 4, .int .i64 32] 30))
 have HS:=Lib.hid (hs.alloc (.cells #[.int .i64 2, .int .i64 10, .int .i64 8, .int .i64 4, .int .i64 32] 30))
 have HT:=Lib.hid (show Tame (D.arm (-1) []) 50000 from ⟨ht.sectors,ht.waits,ht.seq,ht.wf⟩)
 have HA:=Lib.hid (show (D.arm (-1) []).armed=false from rfl)
 have HLA:=Lib.hid (show (D.arm (-1) []).last<18446744073709551616 from hla)
 clear hd ht hf hs hla HF0 HS0 HR0 HIN HL0 HLL
 go_upto_region 4 with (fail)
 generalize w1.alloc (.cells #[.int .i64 2, .int .i64 10, .int .i64 8, .int .i64 4, .int .i64 32] 30)=W1 at HX HD HF HS ⊢
 generalize w1.heap.size=X at HX ⊢
 go_wp2_with fail
 refine (darm_nil HD.out).mono ?_
 rintro e w2 ⟨rfl,hd2,hs2⟩
 have HX2:=Lib.hid (HX.out.step hs2 (by unfold only;omega))
 have HF2:=Lib.hid (HF.out.step hs2)
 have HS2:=Lib.hid (HS.out.trans (hs2.mono (fun y hy=>by unfold only at hy;unfold nz;omega)))
 generalize D.arm (-1) []=Da at hd2 HT HA HLA
 have HD2:=Lib.hid hd2
 clear hd2 hs2 HD HX HF HS
 have h37:(Da.sectors:Int)=37:=by rw [HT.out.sectors];rfl
 go_wp2_with fail
 refine (dsectors_any HD2.out.at_).mono ?_
 rintro e w3 ⟨rfl,rfl⟩
 rw [h37]
 go_wp2_with fail
 refine (dread_any HD2.out.at_ 0 37 (by rw [HT.out.sectors];decide) HT.out.wf).mono ?_
 rintro e w3 ⟨rfl,hb3⟩
 have HD3:=Lib.hid (HD2.out.below_ hb3)
 have HX3:=Lib.hid (HX2.out.below_ hb3)
 have HF3:=Lib.hid (HF2.out.below hb3)
 have HS3:=Lib.hid (HS2.out.trans (Step.of_below o1 nz hb3))
 clear hb3 HD2 HX2 HF2 HS2
 obtain ⟨RS,hRS⟩:∃RS,Da.readS 0 37=RS:=⟨_,rfl⟩
 obtain ⟨RE,hRE⟩:∃RE,Da.readE 0 37=RE:=⟨_,rfl⟩
 rw [hRS,hRE]
 have HRS:=Lib.hid hRS
 have HRE:=Lib.hid hRE
 clear hRS hRE
 go_wp2_with fail
 refine (dlast_any HD3.out.at_).mono ?_
 rintro e w4 ⟨rfl,rfl⟩
 go_upto_region 9 with (fail)
 obtain ⟨z0,z1,z2,z3,z4⟩:=HX3.out.1.five
 go_wp2_with fail
 refine (aarray_any HD3.out.at_ HT.out HF3.out).mono ?_
 rintro e w5 ⟨A5,cap5,B5,cb5,rfl,ha5,_,hb5⟩
 have HA5:=Lib.hid ha5
 have HD5:=Lib.hid (HD3.out.below_ hb5)
 have HX5:=Lib.hid (HX3.out.below_ hb5)
 have HF5:=Lib.hid (HF3.out.below hb5)
 have HS5:=Lib.hid (HS3.out.trans (Step.of_below o1 nz hb5))
 clear ha5 hb5 HD3 HX3 HF3 HS3 z0 z1 z2 z3 z4
 have HG:=Lib.hid (fun hE=>audit_good HT.out HA.out HLA.out hE)
 have HAS:=Lib.hid (arrL_len (D:=Da) 10)
 obtain ⟨AL,hAL⟩:∃AL,Da.arrL 10=AL:=⟨_,rfl⟩
 obtain ⟨NB,hNB⟩:∃NB,(Da.arrB 10).length=NB:=⟨_,rfl⟩
 rw [hAL] at HA5 HG HAS ⊢
 rw [hNB]
 clear hAL hNB
 obtain ⟨⟨E,D9⟩,hWR⟩:∃R,wholeR Da=R:=⟨_,rfl⟩
 have HW:=Lib.hid hWR
 rw [hWR] at HG
 clear hWR
 go_upto_region 10 with (fail)
 obtain ⟨z0,z1,z2,z3,z4⟩:=HX5.out.1.five
 go_wp2_with fail
 refine (awhole_any (c2:=40) (k:=50000) (fun V hV=>dtwin_far 40 (HD5.out.below_ hV) (by have:=HT.out.waits;omega)) HT.out (by omega) (by omega) HF5.out HLA.out).mono ?_
 rw [HW.out]
 rintro e w6 ⟨A6,cap6,rfl,o6,ha6,hs6⟩
 have HA6:=Lib.hid ha6
 have HN40:∀x,1≤x→x≤1+4→¬six 40 x:=by unfold six;omega
 have HD6:=Lib.hid (HD5.out.step hs6 HN40)
 have HX6:=Lib.hid (HX5.out.step hs6 (by unfold six;omega))
 have HF6:=Lib.hid (HF5.out.step hs6)
 have HB6:=Lib.hid (HA5.out.step hs6 (by unfold six;omega))
 have HS6:=Lib.hid (HS5.out.trans (hs6.mono (nz_six 40 (by omega))))
 clear ha6 hs6 HD5 HX5 HF5 HS5 HA5 z0 z1 z2 z3 z4
 go_upto_region 11 with (fail)
 obtain ⟨z0,z1,z2,z3,z4⟩:=HX6.out.1.five
 go_wp2_with fail
 refine (awhole_any (c2:=40) (k:=50000) (fun V hV=>dtwin_far 40 (HD6.out.below_ hV) (by have:=HT.out.waits;omega)) HT.out (by omega) (by omega) HF6.out HLA.out).mono ?_
 rw [HW.out]
 rintro e w7 ⟨A7,cap7,rfl,o7,_,hs7⟩
 have HA7:=Lib.hid (fun h0=>(HA6.out h0).step hs7 (by unfold six;omega))
 have HD7:=Lib.hid (HD6.out.step hs7 HN40)
 have HF7:=Lib.hid (HF6.out.step hs7)
 have HB7:=Lib.hid (HB6.out.step hs7 (by unfold six;omega))
 have HS7:=Lib.hid (HS6.out.trans (hs7.mono (nz_six 40 (by omega))))
 clear hs7 HD6 HX6 HF6 HS6 HA6 HB6 z0 z1 z2 z3 z4
 obtain ⟨N,hN⟩:∃N,wholeN E D9=N:=⟨_,rfl⟩
 have HNN:=Lib.hid (show E=0→N=(D9.arrL 10).length from fun h=>by rw [←hN];exact if_pos h)
 simp only at HA7 ⊢
 rw [hN] at HA7 ⊢
 clear hN
 have HNS:=Lib.hid (arrL_len (D:=D9) 10)
 obtain ⟨NL,hNL⟩:∃NL,D9.arrL 10=NL:=⟨_,rfl⟩
 try simp only at HG
 rw [hNL] at HA7 HG HNN HNS
 clear hNL
 go_wp2_with fail
 refine (dsectors_any HD7.out.at_).mono ?_
 rintro e w8 ⟨rfl,rfl⟩
 rw [h37]
 go_wp2_with fail
 refine (dread_any HD7.out.at_ 0 37 (by rw [HT.out.sectors];decide) HT.out.wf).mono ?_
 rintro e w8 ⟨rfl,hb8⟩
 rw [HRS.out,HRE.out]
 have HD8:=Lib.hid (HD7.out.below_ hb8)
 have HF8:=Lib.hid (HF7.out.below hb8)
 have HA8:=Lib.hid (fun h0=>(HA7.out h0).below_ hb8)
 have HB8:=Lib.hid (HB7.out.below_ hb8)
 have HS8:=Lib.hid (HS7.out.trans (Step.of_below o7 nz hb8))
 clear hb8 HD7 HF7 HA7 HB7 HS7 HRS HRE
 go_wp2_with fail
 refine (dlast_any HD8.out.at_).mono ?_
 rintro e w9 ⟨rfl,rfl⟩
 go_wp2_with fail
 have HRA:=Lib.hid (show Reads w8 3 A5 AL.length (imcells AL) from Reads.of_own HB8.out.1)
 have HRN:=Lib.hid (fun h0:E=0=>(show Reads w8 3 A6 N (imcells NL) from Reads.of_own (HA8.out h0).1))
 clear HD8 HA8 HB8 HT HA HLA HW h37 HN40
 have HAL:=Lib.hid (show ∀wr,Below w8.heap.size w8 wr→Calls Tryz.prog 5 #[] wr fun e w'=>e = .returned (.bool true)∧Below W.heap.size W w' from fun wr hb=>by
  refine (alive27_any (HF8.out.below hb)).mono ?_
  rintro e w' ⟨rfl,o',hs⟩
  exact ⟨rfl,((HS8.out.trans (Step.of_below o7 nz hb)).trans hs).below (fun _ _ h=>h rfl) (Nat.le_refl _)⟩)
 go_loopg [18] AL.length (fun n t18 wr=>∃i:Nat,n+i=AL.length∧t18 = .int .i64 (i:Nat)∧Hid (Below w8.heap.size w8 wr))
 case atStart=>exact ⟨0,by omega,rfl,Lib.hid (Below.refl _ _)⟩
 case round =>
  obtain ⟨i,hni,rfl,HB⟩:=hrel
  have HNI:=Lib.hid hni
  clear hni
  by_cases hlt:i<AL.length
  ·have hltI:(i:Int)<(AL.length:Int):=by omega
   have hwi:IntKind.i64.wrap ((i:Int)+1)=((i+1:Nat):Int):=by rw [IntWalk.i64_in _ (by have:=HAS.out;omega)];omega
   by_cases hE:E=0
   ·subst hE
    obtain ⟨x,hx⟩:∃x,AL[i]? = some x:=⟨_,List.getElem?_eq_getElem hlt⟩
    have HXM:=Lib.hid hx
    have HLT:=Lib.hid hlt
    have HN:=Lib.hid (HNN.out (by first | rfl | trivial))
    clear hx hlt
    go_wp2_with fail
    go_loopg [19,20] N (fun n t19 t20 wi=>∃j:Nat,n+j=N∧t20 = .int .i64 (j:Nat)∧t19 = .bool (goodB (NL.take j) x)∧Hid (Below w8.heap.size w8 wi))
    case atStart=>exact ⟨0,by omega,rfl,rfl,HB⟩
    case round =>
     obtain ⟨j,hnj,rfl,rfl,HBI⟩:=hrel
     have HNJ:=Lib.hid hnj
     clear hnj
     by_cases hj:j<N
     ·have hjI:(j:Int)<(N:Int):=by omega
      have hw:IntKind.i64.wrap ((j:Int)+1)=((j+1:Nat):Int):=by rw [IntWalk.i64_in _ (by have:=HNS.out;have:=HN.out;omega)];omega
      obtain ⟨y,hy⟩:∃y,NL[j]? = some y:=⟨_,List.getElem?_eq_getElem (by have:=HN.out;omega)⟩
      have HSU:=Lib.hid (goodB_succ hy x)
      obtain ⟨ad,rfl,y0,y1,_⟩:=Reads.imrow (show Reads _ 3 A6 NL.length (imcells NL) from HN.out▸(HRN.out (by first | rfl | trivial)).below' (by omega) HBI.out) hy
      obtain ⟨ad2,rfl,x0,x1,_⟩:=(HRA.out.below' (by omega) HBI.out).imrow HXM.out
      clear hy
      obtain ⟨g,hg⟩:∃g,goodB (NL.take j) x=g:=⟨_,rfl⟩
      rw [hg] at HSU ⊢
      clear hg
      cases g with
      | true =>
        go_upto_region 22 with (fail)
        go_quiet (fail)
        go_wp2_with fail
        go_roundg (N - (j+1))
        case measure=>have:=HNJ.out;omega
        case rel=>exact ⟨j+1,by omega,by first | rfl | rw [hw],by rw [HSU.out];rfl,Lib.hid ⟨HBI.out.os,HBI.out.tape,HBI.out.output,HBI.out.size,HBI.out.block⟩⟩
      | false =>
        by_cases hb:y.block=x.block
        ·have b1:(y.block == x.block)=true:=by simp [hb]
         have b2:decide (y.block=x.block)=true:=by simp [hb]
         by_cases hv:x.ver≤y.ver
         ·have d1:decide (x.ver≤y.ver)=true:=decide_eq_true hv
          have HSV:=Lib.hid (show goodB (NL.take (j+1)) x=true by rw [HSU.out,b2,d1];rfl)
          clear hb hv
          go_upto_region 22 with (fail)
          go_quiet (fail)
          go_wp2_with fail
          go_roundg (N - (j+1))
          case measure=>have:=HNJ.out;omega
          case rel=>exact ⟨j+1,by omega,by first | rfl | rw [hw],by rw [HSV.out],Lib.hid ⟨HBI.out.os,HBI.out.tape,HBI.out.output,HBI.out.size,HBI.out.block⟩⟩
         ·have d1:decide (x.ver≤y.ver)=false:=decide_eq_false hv
          have HSV:=Lib.hid (show goodB (NL.take (j+1)) x=false by rw [HSU.out,b2,d1];rfl)
          clear hb hv
          go_upto_region 22 with (fail)
          go_quiet (fail)
          go_wp2_with fail
          go_roundg (N - (j+1))
          case measure=>have:=HNJ.out;omega
          case rel=>exact ⟨j+1,by omega,by first | rfl | rw [hw],by rw [HSV.out],Lib.hid ⟨HBI.out.os,HBI.out.tape,HBI.out.output,HBI.out.size,HBI.out.block⟩⟩
        ·have b1:(y.block == x.block)=false:=by simp [hb]
         have b2:decide (y.block=x.block)=false:=by simp [hb]
         have HSV:=Lib.hid (show goodB (NL.take (j+1)) x=false by rw [HSU.out,b2];rfl)
         clear hb
         go_upto_region 22 with (fail)
         go_quiet (fail)
         go_wp2_with fail
         go_roundg (N - (j+1))
         case measure=>have:=HNJ.out;omega
         case rel=>exact ⟨j+1,by omega,by first | rfl | rw [hw],by rw [HSV.out],Lib.hid ⟨HBI.out.os,HBI.out.tape,HBI.out.output,HBI.out.size,HBI.out.block⟩⟩
     ·have hjI:¬(j:Int)<(N:Int):=by omega
      have e1:goodB (NL.take j) x=true:=by
       rw [List.take_of_length_le (by have:=HN.out;omega)]
       exact HG.out (by first | rfl | trivial) x (List.mem_of_getElem? HXM.out)
      rw [e1]
      clear e1
      go_wp2_with fail
      go_roundg (AL.length - (i+1))
      case measure=>have:=HNI.out;have:=HLT.out;omega
      case rel=>exact ⟨i+1,by have:=HLT.out;omega,by first | rfl | rw [hwi],HBI⟩
   ·have bE:(E == 0)=false:=by simp [hE]
    clear hE
    go_wp2_with fail
    refine (HAL.out _ HB.out).mono ?_
    rintro e wz ⟨rfl,hbz⟩
    go_wp2_with fail
    go_ret
    exact ⟨rfl,hbz⟩
  ·have hltI:¬(i:Int)<(AL.length:Int):=by omega
   go_wp2_with fail
   refine (HAL.out _ HB.out).mono ?_
   rintro e wz ⟨rfl,hbz⟩
   go_wp2_with fail
   go_ret
   exact ⟨rfl,hbz⟩
end Go.Proofs.YtldoeodkeieejaaGreatDoor
