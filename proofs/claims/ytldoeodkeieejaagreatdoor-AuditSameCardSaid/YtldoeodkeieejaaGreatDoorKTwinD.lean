import Derived.Test.YtldoeodkeieejaaGreatDoorKSpanE
import Derived.Shelf.SlMaps.Clone
import Derived.Test.YtldoeodkeieejaaGreatDoorKCutA
import Derived.Shelf.SlicesE.Clone
import Derived.Test.YtldoeodkeieejaaGreatDoorKDiskC
import Derived.Deep.WholeRow
import Derived.Test.YtldoeodkeieejaaGreatDoorKAudB
import Derived.Test.YtldoeodkeieejaaGreatDoorKLightA
namespace Go.Proofs.YtldoeodkeieejaaGreatDoor
open Go.RowKit
section
variable {o o9:Nat→Nat} {c c9 p:Nat} {w:World} {D:Dk}
set_option maxRecDepth 100000 in
set_option maxHeartbeats 8000000 in
theorem aclash_two (hd:DiskAt o c w p D) (hf:Fut o w) (x y:Cl) (hx1:x.node≤16) (hx2:x.ep≠0) (hx3:D.table x.node=x.ep) (hy1:y.node≤16) (hy2:y.ep≠0) (hy3:D.table y.node=y.ep) (hxy:y.node≠x.node)
 (lx ly:List Lk) (hlx:x.n=lx.length) (hly:y.n=ly.length) (hrx:Reads w 3 x.A x.n (lkcells lx)) (hry:Reads w 3 y.A y.n (lkcells ly)) (hsx:lx.length≤1000) (hsy:ly.length≤1000) (A:Option Addr) (cap:Nat) (hv:OwnS o9 c9 w 66 3 (.slice A 2 cap) 2 (clcells [x,y])) (s:Sp) (hs:clashL ly lx = [s]) (hok:s.ok) :
 Calls Tryz.prog 18 #[.pointer (some ⟨p,0,none⟩), .slice A 2 cap] w fun e w'=>∃E cap',e = .returned (.slice E 1 cap')∧OwnS o 0 w' 61 2 (.slice E 1 cap') 1 (spcells [s])∧Below w.heap.size w w':=by
 obtain ⟨i0,hi,hz0,hz1,hz2⟩:=info_parts info_sp
 obtain ⟨xn,xe,xA,xl,xc⟩:=x
 obtain ⟨yn,ye,yA,yl,yc⟩:=y
 simp only at hx1 hx2 hx3 hy1 hy2 hy3 hxy hlx hly hrx hry
 subst hlx hly
 have HD:=Lib.hid hd
 have HF:=Lib.hid hf
 have HX:=Lib.hid (show xn≤16∧xe≠0∧D.table xn=xe from ⟨hx1,hx2,hx3⟩)
 have HY:=Lib.hid (show yn≤16∧ye≠0∧D.table yn=ye from ⟨hy1,hy2,hy3⟩)
 have bn:((yn:Int) != (xn:Int))=true:=by simp;omega
 have HBN:=Lib.hid bn
 have HRX:=Lib.hid hrx
 have HRY:=Lib.hid hry
 have HSX:=Lib.hid hsx
 have HSY:=Lib.hid hsy
 have HCL:=Lib.hid hs
 have HOK:=Lib.hid hok
 have HB0:=Lib.hid ((Below.refl w.heap.size w).alloc (Nat.le_refl _) (.cells #[.pointer (some ⟨p,0,none⟩)] 25))
 have HV:=Lib.hid (hv.alloc (.cells #[.pointer (some ⟨p,0,none⟩)] 25))
 have HK:=Lib.hid (Blk.new w 25 #[.pointer (some ⟨p,0,none⟩)])
 have eg:∀args w,(callFunc 49 args).run Tryz.prog w = .ok (.enter 49 args) w:=enters_of Tryz.func49 (by kernel_rfl) rfl
 clear hd hf hx1 hx2 hx3 hy1 hy2 hy3 hxy hrx hry hsx hsy hs hok hv bn
 go_enter Tryz.func18,Tryz.ntmps18
 go_upto_region 1 with (fail)
 generalize w.alloc (.cells #[.pointer (some ⟨p,0,none⟩)] 25)=W1 at HB0 HV HK ⊢
 generalize w.heap.size=X at HK ⊢
 go_wp2_with fail
 refine (cloneclaims_any (l := [⟨xn,xe,xA,lx.length,xc⟩,⟨yn,ye,yA,ly.length,yc⟩]) HV.out (show 2≤1000000 by decide)).mono ?_
 rintro e w2 ⟨v2,rfl,ho2,hb2⟩
 obtain ⟨A2,cap2,rfl,h2c,_⟩:=own_form' (ho2 1)
 have h2c:2≤cap2:=h2c
 obtain ⟨g2,cur2,rfl,_⟩:=(ho2 1).blk (show 0<2 by decide)
 have HR2:=Lib.hid (Reads.of_own (ho2 1).1)
 have HB2:=Lib.hid (HB0.out.trans (hb2.mono HB0.out.size))
 have HK2:=Lib.hid (HK.out.below_ hb2)
 clear ho2 hb2
 have hno:NoCl 49 #[.pointer (some ⟨X,0,none⟩)] [⟨xn,xe,xA,lx.length,xc⟩,⟨yn,ye,yA,ly.length,yc⟩] w2:=fun W z hz hb=>by
  have hdW:=HD.out.below_ (HB2.out.trans (hb.mono HB2.out.size))
  have hbx:W.cell? ⟨X,0,none⟩=some (.pointer (some ⟨p,0,none⟩)):=(HK2.out.below_ hb).cell 0
  rcases List.mem_cons.1 hz with rfl | hz
  ·exact aclash1_no hdW ⟨xn,xe,xA,lx.length,xc⟩ HX.out.1 HX.out.2.1 HX.out.2.2 X hbx
  ·rw [List.mem_singleton.1 hz]
   exact aclash1_no hdW ⟨yn,ye,yA,ly.length,yc⟩ HY.out.1 HY.out.2.1 HY.out.2.2 X hbx
 have HNO:=Lib.hid hno
 clear hno
 go_wp2_with fail
 refine (delclaims_none 49 #[.pointer (some ⟨X,0,none⟩)] eg [⟨xn,xe,xA,lx.length,xc⟩,⟨yn,ye,yA,ly.length,yc⟩] (some ⟨g2,0,none⟩) cap2 HR2.out (show 2≤1000000 by decide) HNO.out).mono ?_
 rintro e w3 ⟨rfl,hb3⟩
 have HR3:=Lib.hid (HR2.out.below' (by omega) hb3)
 have HB3:=Lib.hid (HB2.out.trans (hb3.mono HB2.out.size))
 have HE3:=Lib.hid ((Env.start w).below_ HB3.out)
 clear hb3
 go_wp2_with fail
 go_loopg [5,16] 2 (fun n t5 t16 wr=>∃(i:Nat) (E:Option Addr) (m ce:Nat) (oL:Nat→Nat),n+i=2∧t16 = .int .i64 (i:Nat)∧t5 = .slice E m ce∧(i≤1→E=none∧m=0∧ce=0)∧(i=2→m=1∧OwnS oL 1 wr 61 2 (.slice E 1 ce) 1 (spcells [s]))∧Env oL w wr∧Fut oL wr∧Reads wr 3 (some ⟨g2,0,none⟩) 2 (clcells [⟨xn,xe,xA,lx.length,xc⟩,⟨yn,ye,yA,ly.length,yc⟩]))
 case atStart=>exact ⟨0,none,0,0,fun _=>0,by omega,rfl,rfl,(fun _=>⟨rfl,rfl,rfl⟩),(fun h=>by omega),HE3.out,(fun _ _=>rfl),HR3.out⟩
 case round =>
  obtain ⟨i,E,m,ce,oL,hni,rfl,rfl,h1,h2,he,hu,hr⟩:=hrel
  have HE:=Lib.hid he
  have HU:=Lib.hid hu
  have HR:=Lib.hid hr
  clear he hu hr HR3 HE3
  by_cases c0:i=0
  ·subst c0
   obtain ⟨rfl,rfl,rfl⟩:=h1 (by omega)
   clear h1 h2
   obtain ⟨ad,e9,x0,x1,x2⟩:=HR.out.claim (l := [⟨xn,xe,xA,lx.length,xc⟩,⟨yn,ye,yA,ly.length,yc⟩]) (k:=0) (y:=⟨xn,xe,xA,lx.length,xc⟩) rfl
   injection e9 with e9
   subst e9
   simp [Addr.add] at x0 x1 x2
   have HE1:=Lib.hid (HE.out.alloc (.cells #[.int .i64 xn, .int .u64 xe, .slice xA lx.length xc] 66))
   have HU1:=Lib.hid (HU.out.alloc (.cells #[.int .i64 xn, .int .u64 xe, .slice xA lx.length xc] 66))
   have HR1:=Lib.hid (HR.out.below' (by omega) ((Below.refl wr.heap.size wr).alloc (Nat.le_refl _) (.cells #[.int .i64 xn, .int .u64 xe, .slice xA lx.length xc] 66)))
   go_upto_region 6 with (fail)
   generalize wr.alloc (.cells #[.int .i64 xn, .int .u64 xe, .slice xA lx.length xc] 66)=W4 at HE1 HU1 HR1 ⊢
   clear x0 x1 x2
   go_wp2_with fail
   go_loopg [5,25] 0 (fun n t5 t25 wi=>t5 = .slice none 0 0∧t25 = .int .i64 0∧wi=W4)
   case atStart=>exact ⟨rfl,rfl,rfl⟩
   case round =>
    obtain ⟨rfl,rfl,rfl⟩:=hrel
    go_wp2_with fail
    go_roundg 1
    case measure=>omega
    case rel=>exact ⟨1,none,0,0,oL,by omega,by go_num,rfl,(fun _=>⟨rfl,rfl,rfl⟩),(fun h=>by omega),HE1.out,HU1.out,HR1.out⟩
  ·by_cases c1:i=1
   ·subst c1
    obtain ⟨rfl,rfl,rfl⟩:=h1 (by omega)
    clear h1 h2 c0
    obtain ⟨ad,e9,x0,x1,x2⟩:=HR.out.claim (l := [⟨xn,xe,xA,lx.length,xc⟩,⟨yn,ye,yA,ly.length,yc⟩]) (k:=1) (y:=⟨yn,ye,yA,ly.length,yc⟩) rfl
    have HE1:=Lib.hid (HE.out.alloc (.cells #[.int .i64 yn, .int .u64 ye, .slice yA ly.length yc] 66))
    have HU1:=Lib.hid (HU.out.alloc (.cells #[.int .i64 yn, .int .u64 ye, .slice yA ly.length yc] 66))
    have HR1:=Lib.hid (HR.out.below' (by omega) ((Below.refl wr.heap.size wr).alloc (Nat.le_refl _) (.cells #[.int .i64 yn, .int .u64 ye, .slice yA ly.length yc] 66)))
    have HQ1:=Lib.hid (Keep.new HU.out 66 #[.int .i64 yn, .int .u64 ye, .slice yA ly.length yc])
    injection e9 with e9
    subst e9
    simp [Addr.add] at x0 x1 x2
    rw [show ((1:Nat):Int)=1 from rfl]
    go_upto_region 6 with (fail)
    generalize wr.alloc (.cells #[.int .i64 yn, .int .u64 ye, .slice yA ly.length yc] 66)=W4 at HE1 HU1 HR1 HQ1 ⊢
    generalize wr.heap.size=Q at HQ1 ⊢
    clear x0 x1 x2
    have h2cI:(1:Int)≤(cap2:Int):=by omega
    go_wp2_with fail
    go_loopg [5,25] 1 (fun n t5 t25 wi=>∃(j:Nat) (E:Option Addr) (m ce:Nat) (oM:Nat→Nat),n+j=1∧t25 = .int .i64 (j:Nat)∧t5 = .slice E m ce∧(j=0→E=none∧m=0∧ce=0)∧(j=1→m=1∧OwnS oM 1 wi 61 2 (.slice E 1 ce) 1 (spcells [s]))∧Env oM w wi∧Fut oM wi∧Reads wi 3 (some ⟨g2,0,none⟩) 2 (clcells [⟨xn,xe,xA,lx.length,xc⟩,⟨yn,ye,yA,ly.length,yc⟩])∧Keep oM wi Q 66 #[.int .i64 yn, .int .u64 ye, .slice yA ly.length yc])
    case atStart=>exact ⟨0,none,0,0,oL,by omega,rfl,rfl,(fun _=>⟨rfl,rfl,rfl⟩),(fun h=>by omega),HE1.out,HU1.out,HR1.out,HQ1.out⟩
    case round =>
     obtain ⟨j,E,m,ce,oM,hnj,rfl,rfl,h1,h2,he,hu,hr,hq⟩:=hrel
     have HE2:=Lib.hid he
     have HU2:=Lib.hid hu
     have HR2':=Lib.hid hr
     have HQ2:=Lib.hid hq
     clear he hu hr hq HE1 HU1 HR1 HQ1
     by_cases d0:j=0
     ·subst d0
      obtain ⟨rfl,rfl,rfl⟩:=h1 rfl
      clear h1 h2
      obtain ⟨ad',e',x0,x1,x2⟩:=HR2'.out.claim (l := [⟨xn,xe,xA,lx.length,xc⟩,⟨yn,ye,yA,ly.length,yc⟩]) (k:=0) (y:=⟨xn,xe,xA,lx.length,xc⟩) rfl
      injection e' with e'
      subst e'
      simp [Addr.add] at x0 x1 x2
      have HE3:=Lib.hid (HE2.out.alloc (.cells #[.int .i64 xn, .int .u64 xe, .slice xA lx.length xc] 66))
      have HU3:=Lib.hid (HU2.out.alloc (.cells #[.int .i64 xn, .int .u64 xe, .slice xA lx.length xc] 66))
      have HR3:=Lib.hid (HR2'.out.below' (by omega) ((Below.refl wr.heap.size wr).alloc (Nat.le_refl _) (.cells #[.int .i64 xn, .int .u64 xe, .slice xA lx.length xc] 66)))
      have HQ3:=Lib.hid (HQ2.out.alloc (.cells #[.int .i64 xn, .int .u64 xe, .slice xA lx.length xc] 66))
      have HP3:=Lib.hid (Keep.new HU2.out 66 #[.int .i64 xn, .int .u64 xe, .slice xA lx.length xc])
      go_upto_region 9 with (fail)
      generalize wr.alloc (.cells #[.int .i64 xn, .int .u64 xe, .slice xA lx.length xc] 66)=W5 at HE3 HU3 HR3 HQ3 HP3 ⊢
      generalize wr.heap.size=P at HP3 ⊢
      clear x0 x1 x2
      obtain ⟨x0,x1,x2⟩:=HP3.out.1.three
      obtain ⟨y0,y1,y2⟩:=HQ3.out.1.three
      have bn:=HBN.out
      go_wp2_with fail
      refine (clash_any HU3.out ly lx yA xA yc xc (HRY.out.below' (by omega) HE3.out.low) (HRX.out.below' (by omega) HE3.out.low) HSY.out HSX.out).mono ?_
      rintro e w6 ⟨D6,cap6,rfl,ho6,hb6⟩
      rw [HCL.out] at ho6 ⊢
      have HR6:=Lib.hid (show Reads w6 2 D6 1 (spcells [s]) from Reads.of_own ho6.1)
      have HE6:=Lib.hid (HE3.out.below_ hb6)
      have HU6:=Lib.hid (HU3.out.below hb6)
      have HRR6:=Lib.hid (HR3.out.below' (by omega) hb6)
      have HQ6:=Lib.hid (HQ3.out.below_ hb6)
      clear ho6 hb6 x0 x1 x2 y0 y1 y2 bn
      go_wp2_with (at_builtin;refine wpList_append_S _ rfl (.tmp 34) (.tmp 39) 58 rfl 61 i0 _ 2 16 Tryz.underlying58 hi hz0 hz1 hz2 rfl (by omega) (.slice none 0 0) 0 [] rfl (OwnS.nil oM 1 w6 61 2) D6 1 cap6 (spcells [s]) rfl HR6.out (spcells_one [s]) (by unfold maxLen;omega) (by omega) ?_;intro v7 w7 hown7 hst7 hgr7 hat7;obtain ⟨A7,cap7,rfl,_,_⟩:=own_form' hown7;have HW7:=Lib.hid hown7;have HS7:=Lib.hid hst7;have HBL7:=Lib.hid ((Below.refl w6.heap.size w6).grown hgr7 (Nat.le_refl _) (by simp [Value.ownBlock]));clear hown7 hst7 hgr7 hat7)
      go_roundg 0
      case measure=>omega
      case rel=>exact ⟨1,A7,1,cap7,_,by omega,by go_num,rfl,(fun h=>by omega),(fun _=>⟨rfl,HW7.out⟩),HE6.out.step HS7.out (by unfold only;omega),HU6.out.step HS7.out,HRR6.out.below' (by omega) HBL7.out,HQ6.out.step HS7.out (by unfold only;omega)⟩
     ·obtain rfl:j=1:=by omega
      obtain ⟨rfl,ho⟩:=h2 rfl
      have HO:=Lib.hid ho
      clear h1 h2 ho
      go_wp2_with fail
      go_roundg 0
      case measure=>omega
      case rel=>exact ⟨2,E,1,ce,oM,by omega,by go_num,rfl,(fun h=>by omega),(fun _=>⟨rfl,HO.out⟩),HE2.out,HU2.out,HR2'.out⟩
   ·obtain rfl:i=2:=by omega
    obtain ⟨rfl,ho⟩:=h2 rfl
    have HO:=Lib.hid ho
    clear h1 h2 ho
    go_wp2_with fail
    refine (spnorm_one s HOK.out E ce HO.out).mono ?_
    rintro e w8 ⟨D8,cap8,rfl,ho8,hb8⟩
    have HO8:=Lib.hid (ho8 o (HF.out.below HE.out.low))
    have HE8:=Lib.hid (HE.out.below_ hb8)
    clear ho8 hb8
    go_wp2_with fail
    go_ret
    exact ⟨D8,cap8,rfl,HO8.out,HE8.out.low⟩
end
end Go.Proofs.YtldoeodkeieejaaGreatDoor
namespace Go.Proofs
open Go.Shelf
def Tryz.laysMc1_ren : Go.Shelf.Ren:=⟨fun | 5=>74 | 7=>144 | n=>n,fun | 23=>76 | 25=>3 | 3=>9 | 4=>4 | 20=>20 | n=>n,fun | n=>n⟩
theorem Tryz.laysMc1 : Go.Proofs.SlLaysW.n5 Tryz.prog Tryz.laysMc1_ren := {
 mixed:=by kernel_rfl
 f5:=⟨Tryz.f74.name,by decide,Tryz.func74.trans (congrArg some (by kernel_rfl))⟩
 f7:=Tryz.func144.trans (congrArg some (by kernel_rfl))
 t4:=Tryz.underlying4
 a4:=Tryz.isAgg4
 z4:=Tryz.sizeOf4
 v4:=Tryz.zeroValue4
 t20:=Tryz.underlying20
 a20:=Tryz.isAgg20
 z20:=Tryz.sizeOf20
 v20:=Tryz.zeroValue20
 t23:=Tryz.underlying76
 a23:=Tryz.isAgg76
 z23:=Tryz.sizeOf76
 v23:=Tryz.zeroValue76}
def Tryz.laysMc2_ren : Go.Shelf.Ren:=⟨fun | 5=>75 | 7=>144 | n=>n,fun | 23=>77 | 25=>3 | 3=>153 | 4=>4 | 20=>20 | n=>n,fun | n=>n⟩
theorem Tryz.laysMc2 : Go.Proofs.SlLaysW.n5 Tryz.prog Tryz.laysMc2_ren := {
 mixed:=by kernel_rfl
 f5:=⟨Tryz.f75.name,by decide,Tryz.func75.trans (congrArg some (by kernel_rfl))⟩
 f7:=Tryz.func144.trans (congrArg some (by kernel_rfl))
 t4:=Tryz.underlying4
 a4:=Tryz.isAgg4
 z4:=Tryz.sizeOf4
 v4:=Tryz.zeroValue4
 t20:=Tryz.underlying20
 a20:=Tryz.isAgg20
 z20:=Tryz.sizeOf20
 v20:=Tryz.zeroValue20
 t23:=Tryz.underlying77
 a23:=Tryz.isAgg77
 z23:=Tryz.sizeOf77
 v23:=Tryz.zeroValue77}
namespace YtldoeodkeieejaaGreatDoor
open Go.RowKit
theorem mclone1_any {o:Nat→Nat} {c:Nat} {w:World} {m:Nat} {f:Int→Option Value} (d:Nat) (h:MapR o c w m f) :
 Calls Tryz.prog 74 #[.map (some m)] w fun e w'=>∃m',e = .returned (.map (some m'))∧∃o',MapR o' d w' m' f∧Step o (fun _=>False) w o' w':=by
 obtain ⟨_,es,clock,hb,h1,h2,h3⟩:=h
 refine (AnyW.maps_Clone Tryz.laysMc1 m es clock w hb).mono ?_
 rintro e w' ⟨rfl,rfl⟩
 obtain ⟨o',ho,hs⟩:=alloc_as o w (.map es clock) d
 exact ⟨_,rfl,o',⟨ho,es,clock,(MapKept.heap_alloc w _).1,h1,h2,h3⟩,hs⟩
theorem mclone2_any {o:Nat→Nat} {c:Nat} {w:World} {m:Nat} {f:Int→Option Value} (d:Nat) (h:MapR o c w m f) :
 Calls Tryz.prog 75 #[.map (some m)] w fun e w'=>∃m',e = .returned (.map (some m'))∧∃o',MapR o' d w' m' f∧Step o (fun _=>False) w o' w':=by
 obtain ⟨_,es,clock,hb,h1,h2,h3⟩:=h
 refine (AnyW.maps_Clone Tryz.laysMc2 m es clock w hb).mono ?_
 rintro e w' ⟨rfl,rfl⟩
 obtain ⟨o',ho,hs⟩:=alloc_as o w (.map es clock) d
 exact ⟨_,rfl,o',⟨ho,es,clock,(MapKept.heap_alloc w _).1,h1,h2,h3⟩,hs⟩
end YtldoeodkeieejaaGreatDoor
end Go.Proofs
namespace Go.Proofs
open Go.Shelf
def Tryz.laysSc_ren : Go.Shelf.Ren:=⟨fun | 41=>76 | n=>n,fun | 22=>78 | 23=>153 | 4=>4 | n=>n,fun | n=>n⟩
theorem Tryz.laysSc : Go.Proofs.SlLaysE0.n41 Tryz.prog Tryz.laysSc_ren := {
 mixed:=by kernel_rfl
 f41:=⟨Tryz.f76.name,by decide,Tryz.func76.trans (congrArg some (by kernel_rfl))⟩
 t4:=Tryz.underlying4
 a4:=Tryz.isAgg4
 z4:=Tryz.sizeOf4
 v4:=Tryz.zeroValue4
 t22:=Tryz.underlying78
 a22:=Tryz.isAgg78
 z22:=Tryz.sizeOf78
 v22:=Tryz.zeroValue78}
namespace YtldoeodkeieejaaGreatDoor
open Go.RowKit
theorem sclone_any {o:Nat→Nat} {c:Nat} {w:World} {v:Value} {l:List Ws} (d:Nat) (hv:OwnW o c w 153 4 v l.length (l.flatMap Ws.cells)) (hl:l.length≤1000000) :
 Calls Tryz.prog 76 #[v] w fun e w'=>∃v',e = .returned v'∧OwnW (band o w.heap.size w'.heap.size d) d w' 153 4 v' l.length (l.flatMap Ws.cells)∧Below w.heap.size w w':=by
 obtain ⟨i0,hi,hz0,hz1,hz2⟩:=info_parts info_ws
 rcases hv.2 with ⟨rfl,h0⟩ | ⟨g,off,cap,cur,rfl,hb,_,h1,h2,h3,h4⟩
 ·obtain rfl:l = []:=List.eq_nil_of_length_eq_zero h0
  refine (AnyE.slices_Clone_nil Tryz.laysSc 0 0 w).mono ?_
  rintro e w' ⟨rfl,rfl⟩
  exact ⟨_,rfl,OwnW.nil _ _ _ _ _,Below.refl _ _⟩
 ·refine (AnyE.slices_Clone Tryz.laysSc i0 _ 4 40 hi hz0 hz1 hz2 (by rfl) (by omega) Tryz.sizeOf153 g off l.length cap (l.flatMap Ws.cells) w hv.1 (by unfold maxLen;omega) (by omega) (fun j u hu => ?_) (ws_one l)).mono ?_
  ·rw [hb.cell]
   have:=drop_take_get h4 hu
   simpa using this
  ·rintro e w' ⟨v',rfl,ho,_,hb⟩
   exact ⟨v',rfl,OwnW.of_own (own_band ho),hb⟩
end YtldoeodkeieejaaGreatDoor
end Go.Proofs
namespace Go.Proofs.YtldoeodkeieejaaGreatDoor
open Go.RowKit
set_option maxRecDepth 100000 in
set_option maxHeartbeats 4000000 in
theorem dtwin_any {o:Nat→Nat} {c p:Nat} {w:World} {D:Dk} (h:DiskAt o c w p D) (hwl:D.waits.length≤1000000):Calls Tryz.prog 31 #[.pointer (some ⟨p,0,none⟩)] w fun e w'=>∃t,e = .returned (.pointer (some ⟨t,0,none⟩))∧∃o',DiskAt o' c w' t D∧Step o (fun _=>False) w o' w':=by
 obtain ⟨mn,ml,wv,sv,h1⟩:=h
 have H:=Lib.hid h1
 have HL:=Lib.hid hwl
 clear h1 hwl
 obtain ⟨CS,hCS⟩:∃CS,D.cells mn ml wv sv=CS:=⟨_,rfl⟩
 have hsz:CS.size=44:=by rw [←hCS];rfl
 have hb:Blk w p 81 CS:=by rw [←hCS];exact H.out.blk
 have HI:=Lib.hid (show (Tryz.prog.info? 81).map (·.size)=some CS.size by rw [hsz];kernel_rfl)
 have H1:=Lib.hid (show CS.all (·.oneCell')=true by rw [←hCS];obtain ⟨A,cap,rfl,_,_⟩:=H.out.waits.form;obtain ⟨A2,cap2,rfl,_,_⟩:=H.out.stays.form;simp [Dk.cells,Value.oneCell'])
 have HB:=Lib.hid hb
 have HSZ:=Lib.hid hsz
 clear hb hsz
 go_enter Tryz.func31,Tryz.ntmps31
 go_upto_region 3 with (fail)
 go_wp2_with (first | (refine wpList_load_row rfl 81 (.tmp 7) rfl p rfl 81 CS (0,0) _ HB.out Tryz.underlying81 rfl HI.out ?_) | (refine wpList_store_row rfl 81 (.tmp 3) (.tmp 8) rfl w.heap.size CS rfl rfl 81 _ (heap_alloc_new w _) HI.out (by rw [HSZ.out];rfl) H1.out ?_))
 rw [World.setRow_alloc_new]
 obtain ⟨o1,ho1,hs1⟩:=alloc_as o w (.cells CS 81) c
 have HT:=Lib.hid (Blk.new w 81 CS)
 have HD:=Lib.hid (H.out.step hs1 (fun _ _ _=>id))
 have hne:w.heap.size≠p:=by have:=HB.out.lt;omega
 have HS:=Lib.hid hs1
 have HO:=Lib.hid ho1
 have HF:=Lib.hid (show p<w.heap.size from HB.out.lt)
 clear hs1 ho1 H HB HI H1
 generalize hW:w.alloc (.cells CS 81)=W1 at HT HD HS ⊢
 generalize htt:w.heap.size=t at HT HO hne HF ⊢
 clear hW
 obtain ⟨A,cap,rfl,_,_⟩:=HD.out.waits.form
 have d3:W1.cell? ⟨p,3,none⟩=some (.map (some mn)):=HD.out.blk.cell 3
 have d4:W1.cell? ⟨p,4,none⟩=some (.map (some ml)):=HD.out.blk.cell 4
 have d5:W1.cell? ⟨p,5,none⟩=some (.slice A D.waits.length cap):=HD.out.blk.cell 5
 go_upto_region 4 with (fail)
 go_region_held3 (fun w'=>w'.cell? ⟨p,3,none⟩=some (.map (some mn))∧w'.cell? ⟨p,4,none⟩=some (.map (some ml))∧w'.cell? ⟨p,5,none⟩=some (.slice A D.waits.length cap))
  (first | exact ⟨d3,d4,d5⟩ | exact ⟨e3,e4,e5⟩ | exact ⟨f3,f4,f5⟩ | exact ⟨k3,k4,k5⟩ | go_keep)
  (first
    | (go_at_call 74;refine (mclone1_any (c+1) HD.out.now.drew).mono ?_;rintro e w2 ⟨m1,rfl,o2,hm1,hs2⟩
       have hd2:=HD.out.drew.step hs2 (fun _ _ _=>id)
       have e3:w2.cell? ⟨p,3,none⟩=some (.map (some mn)):=hd2.blk.cell 3
       have e4:w2.cell? ⟨p,4,none⟩=some (.map (some ml)):=hd2.blk.cell 4
       have e5:w2.cell? ⟨p,5,none⟩=some (.slice A D.waits.length cap):=hd2.blk.cell 5
       have HD2:=Lib.hid hd2
       have HM1:=Lib.hid hm1
       have HS2:=Lib.hid hs2
       clear hd2 hm1 hs2)
    | (go_at_call 75;refine (mclone2_any (c+2) HD2.out.lasts).mono ?_;rintro e w3 ⟨m2,rfl,o3,hm2,hs3⟩
       have hd3:=HD2.out.step hs3 (fun _ _ _=>id)
       have f3:w3.cell? ⟨p,3,none⟩=some (.map (some mn)):=hd3.blk.cell 3
       have f4:w3.cell? ⟨p,4,none⟩=some (.map (some ml)):=hd3.blk.cell 4
       have f5:w3.cell? ⟨p,5,none⟩=some (.slice A D.waits.length cap):=hd3.blk.cell 5
       have HD3:=Lib.hid hd3
       have HM2:=Lib.hid hm2
       have HS3:=Lib.hid hs3
       clear hd3 hm2 hs3)
    | (go_at_call 76;refine (sclone_any (c+3) HD3.out.waits HL.out).mono ?_;rintro e w4 ⟨v4,rfl,hv4,hb4⟩
       have hs4:=Step.of_below_band o3 (fun _=>False) (c+3) hb4
       have hd4:=HD3.out.step hs4 (fun _ _ _=>id)
       have k3:w4.cell? ⟨p,3,none⟩=some (.map (some mn)):=hd4.blk.cell 3
       have k4:w4.cell? ⟨p,4,none⟩=some (.map (some ml)):=hd4.blk.cell 4
       have k5:w4.cell? ⟨p,5,none⟩=some (.slice A D.waits.length cap):=hd4.blk.cell 5
       have ht4:=((HT.out.drew.step HS2.out id).step HS3.out id).step hs4 id
       obtain ⟨A4,cap4,rfl,_,_⟩:=hv4.form
       have y3:w4.cell? ⟨t,3,none⟩=some (.map (some mn)):=(ht4.cell 3).trans (by rw [←hCS];rfl)
       have y4:w4.cell? ⟨t,4,none⟩=some (.map (some ml)):=(ht4.cell 4).trans (by rw [←hCS];rfl)
       have y5:w4.cell? ⟨t,5,none⟩=some (.slice A D.waits.length cap):=(ht4.cell 5).trans (by rw [←hCS];rfl)
       have g3:=ht4.frozen 3
       have g4:=ht4.frozen 4
       have g5:=ht4.frozen 5
       have HD4:=Lib.hid hd4
       have HV4:=Lib.hid hv4
       have HS4:=Lib.hid hs4
       have HT4:=Lib.hid ht4
       clear hd4 hv4 hs4 ht4 hb4))
 have hs14:=HS2.out.of_drew.trans (HS3.out.trans HS4.out)
 have hs04:=HS.out.trans hs14
 obtain ⟨o4,ho4⟩:∃o4,band o3 w3.heap.size w4.heap.size (c+3)=o4:=⟨_,rfl⟩
 rw [ho4] at hs14 hs04 HV4 HD4
 have hc4:o4 t=c:=(hs14.old t HT.out.lt).trans HO.out
 have hq:Step o4 (only c) w4 o4 (((w4.setCell ⟨t,3,none⟩ (.map (some m1))).setCell ⟨t,4,none⟩ (.map (some m2))).setCell ⟨t,5,none⟩ (.slice A4 D.waits.length cap4)):=(((Step.refl o4 (only c) w4).setCell (p:=⟨t,3,none⟩) hc4 _).setCell (p:=⟨t,4,none⟩) hc4 _).setCell (p:=⟨t,5,none⟩) hc4 _
 have hb5:=((HT4.out.set_ 3 (.map (some m1))).set_ 4 (.map (some m2))).set_ 5 (.slice A4 D.waits.length cap4)
 rw [←hCS] at hb5
 have hs34:=HS3.out.trans HS4.out
 have hs4:=HS4.out
 rw [ho4] at hs34 hs4
 have HFIN:=Lib.hid (show DiskAt o4 c (((w4.setCell ⟨t,3,none⟩ (.map (some m1))).setCell ⟨t,4,none⟩ (.map (some m2))).setCell ⟨t,5,none⟩ (.slice A4 D.waits.length cap4)) t D∧Step o (fun _=>False) w o4 (((w4.setCell ⟨t,3,none⟩ (.map (some m1))).setCell ⟨t,4,none⟩ (.map (some m2))).setCell ⟨t,5,none⟩ (.slice A4 D.waits.length cap4)) from
  ⟨⟨m1,m2,_,sv,hb5,hc4,(HM1.out.step hs34 id).step hq (by unfold only;omega),(HM2.out.step hs4 id).step hq (by unfold only;omega),HV4.out.step hq (by unfold only;omega),HD4.out.stays.step hq (by unfold only;omega)⟩,
   ((hs04.setNew (p:=⟨t,3,none⟩) (Nat.le_of_eq htt) _).setNew (p:=⟨t,4,none⟩) (Nat.le_of_eq htt) _).setNew (p:=⟨t,5,none⟩) (Nat.le_of_eq htt) _⟩)
 clear hq hb5 hs34 hs4 hs14 hs04 y3 y4 y5 g3 g4 g5 k3 k4 k5 f3 f4 f5 e3 e4 e5 d3 d4 d5
 go_wp2_with fail
 go_ret
 exact ⟨t,rfl,o4,HFIN.out.1,HFIN.out.2⟩
section
variable {D:Dk} {k:Nat}
theorem head_noneN (hc:Live D) {node a:Int} (hla:logAt node=(a,0)) (ha:0≤a∧a≤30) (hs:D.sec a=str (zer 64)):D.headE node=0∧D.headI node=false:=by
 obtain ⟨r1,r2⟩:=hc.read (at_:=a) (n:=1) (by omega) (by omega) (by omega)
 have e1:D.headE1 node=0:=by
  unfold Dk.headE1
  rw [hla]
  exact r1
 have r2':D.readS a 1=str (D.readL a 1):=r2
 have hB:D.headB node=str (zer 64):=by
  unfold Dk.headB
  rw [hla]
  show D.readS a 1=_
  rw [r2',readL_one,hs,str_list]
 refine ⟨?_,?_⟩
 ·unfold Dk.headE
  rw [e1,if_neg (by decide),hB,if_neg (by rw [head_zero];decide),if_pos]
  intro x hx
  rw [str_list] at hx
  exact List.eq_of_mem_replicate hx
 ·unfold Dk.headI
  rw [hB,head_zero]
  simp
theorem scan_noneN (hc:Live D) {node a:Int} (hla:logAt node=(a,0)) (ha:0≤a∧a≤30) (hs:D.sec a=str (zer 64)):D.scan node = []∧D.scanE node=0:=by
 obtain ⟨h1,h2⟩:=head_noneN hc hla ha hs
 refine ⟨?_,?_⟩
 ·unfold Dk.scan
  rw [h2]
  simp
 ·unfold Dk.scanE
  rw [h1,h2]
  simp
def Bare (D:Dk):Prop:=∀k:Int,1≤k→D.sec k=str (zer 64)
theorem bare_log (hc:Live D) (hb:Bare D):(D.scan 1 = []∧D.scanE 1=0)∧D.scan 2 = []∧D.scanE 2=0 :=
 ⟨scan_noneN hc (node:=1) (a:=1) rfl (by omega) (hb 1 (by omega)),scan_noneN hc (node:=2) (a:=9) rfl (by omega) (hb 9 (by omega))⟩
theorem bare_arr (hc:Live D) (hb:Bare D):D.arrL 10 = []∧D.arrB 10 = []:=by
 have h:∀b:Nat,b≤9→D.load b=(⟨b,0,str (zer 96)⟩,0):=fun b hb9=>load_blank hc hb9 (hb _ (by omega)) (hb _ (by omega))
 refine ⟨?_,?_⟩
 ·apply List.eq_nil_iff_forall_not_mem.2
  intro i hi
  obtain ⟨b,hb9,he,hv,_⟩:=arr_mem.1 hi
  rw [h b (by omega)] at he
  rw [←congrArg (fun x:Im×Int=>x.1.ver) he] at hv
  exact absurd hv (Nat.lt_irrefl 0)
 ·unfold Dk.arrB
  apply List.map_eq_nil_iff.2
  apply List.filter_eq_nil_iff.2
  intro b hb9
  rw [h b (by have:=List.mem_range.1 hb9;omega)]
  simp
theorem bare_redone (hc:Live D) (hb:Bare D) (ep:Nat) {node:Int} (hn:node=1∨node=2):redoneR D ep node=(0,D):=by
 obtain ⟨⟨a1,a2⟩,a3,a4⟩:=bare_log hc hb
 have h:D.scan node = []∧D.scanE node=0:=by
  rcases hn with rfl | rfl
  ·exact ⟨a1,a2⟩
  ·exact ⟨a3,a4⟩
 unfold redoneR
 rw [h.1,h.2,plan_nil]
 rfl
theorem bare_logs (hc:Live D) (hb:Bare D):logsL D 2 = [0,0]:=by
 obtain ⟨⟨a1,a2⟩,a3,a4⟩:=bare_log hc hb
 have e1:logN D 1=0:=by unfold logN;rw [a1,a2];rfl
 have e2:logN D 2=0:=by unfold logN;rw [a3,a4];rfl
 rw [logsL_succ,logsL_succ]
 show ([] ++ [logN D 1]) ++ [logN D 2]=_
 rw [e1,e2]
 rfl
theorem bare_whole (hc:Calm D k) (hb:Bare D) (hl:D.last<18446744073709551615):(wholeR D).1=0∧(wholeR D).2.arrL 10 = []:=by
 obtain ⟨a1,a2⟩:=hc.admit (n:=0) (by omega) (e:=D.last+1) (by omega)
 have h0:((0:Nat):Int)=0:=rfl
 rw [h0] at a1 a2
 have ha:(D.admit 0 (D.last+1)).1=0:=by rw [a1]
 have hb2:Bare (D.admit 0 (D.last+1)).2:=fun k hk=>by
  rw [a1]
  exact hb k hk
 unfold wholeR
 rw [if_neg (by omega),if_neg (by rw [ha];simp)]
 generalize (D.admit 0 (D.last+1)).2=E at a2 hb2
 rw [bare_redone a2.live hb2 _ (.inl rfl)]
 simp only [ne_eq,not_true_eq_false,if_false]
 rw [bare_redone a2.live hb2 _ (.inr rfl)]
 simp only [not_true_eq_false,if_false]
 rw [(bare_arr a2.live hb2).2]
 simp only [not_true_eq_false,if_false]
 exact ⟨by first | trivial | rfl,(bare_arr a2.live hb2).1⟩
end
structure Bared (D:Dk):Prop where
 calm:Calm D 49
 bare:Bare D
 last:D.last=10
 one:D.table 1=9
 two:D.table 2=10
theorem bared_of {D:Dk} (r1:Calm D 49) (r2:D.last=9) (r3:D.table 1=9) (r4:Bare D):(D.admit 2 10).1=0∧Bared (D.admit 2 10).2:=by
 obtain ⟨a1,a2⟩:=r1.admit (n:=2) (by omega) (e:=10) (by omega)
 have h2:((2:Nat):Int)=2:=rfl
 rw [h2] at a1 a2
 refine ⟨by rw [a1],a2,fun k hk => ?_,by rw [a1],?_,?_⟩
 ·rw [a1]
  exact r4 k hk
 ·rw [a1]
  show (if (1:Nat)=2 then 10 else D.table 1)=9
  rw [if_neg (by decide),r3]
 ·rw [a1]
  show (if (2:Nat)=2 then 10 else D.table 2)=10
  rw [if_pos rfl]
theorem bared : (readyD.admit 2 10).1=0∧Bared (readyD.admit 2 10).2:=by
 obtain ⟨r1,r2,r3,r4⟩:=ready_facts
 exact bared_of r1 r2 r3 (fun k hk=>(r4 k).trans (if_neg (by omega)))
theorem clash27 : clashL [⟨3,9,1⟩] [⟨0,5,2⟩] = [⟨3,5⟩]:=rfl
def claims27 (w:World):World:=((w.alloc (.cells #[.int .i64 0, .int .i64 5, .int .i64 2] 63)).alloc (.cells #[.int .i64 3, .int .i64 9, .int .i64 1] 63)).alloc (.cells #[.int .i64 1, .int .u64 9, .slice (some ⟨w.heap.size,0,none⟩) 1 1, .int .i64 2, .int .u64 10, .slice (some ⟨w.heap.size+1,0,none⟩) 1 1] 66)
theorem claims27_rows (w:World):Reads (claims27 w) 3 (some ⟨w.heap.size,0,none⟩) 1 (lkcells [⟨0,5,2⟩])∧Reads (claims27 w) 3 (some ⟨w.heap.size+1,0,none⟩) 1 (lkcells [⟨3,9,1⟩])∧OwnS (fun _=>0) 0 (claims27 w) 66 3 (.slice (some ⟨w.heap.size+1+1,0,none⟩) 2 2) 2 (clcells [⟨1,9,some ⟨w.heap.size,0,none⟩,1,1⟩,⟨2,10,some ⟨w.heap.size+1,0,none⟩,1,1⟩])∧Below w.heap.size w (claims27 w):=by
 unfold claims27
 have h1:(w.alloc (.cells #[.int .i64 0, .int .i64 5, .int .i64 2] 63)).heap.size=w.heap.size+1:=by simp
 have h2:((w.alloc (.cells #[.int .i64 0, .int .i64 5, .int .i64 2] 63)).alloc (.cells #[.int .i64 3, .int .i64 9, .int .i64 1] 63)).heap.size=w.heap.size+1+1:=by simp
 refine ⟨?_,?_,?_,?_⟩
 ·exact ((Reads.newAt w 63 3 1 (lkcells [⟨0,5,2⟩]) #[.int .i64 0, .int .i64 5, .int .i64 2] w.heap.size rfl rfl rfl).alloc' (by omega) _).alloc' (by omega) _
 ·exact (Reads.newAt _ 63 3 1 (lkcells [⟨3,9,1⟩]) #[.int .i64 3, .int .i64 9, .int .i64 1] (w.heap.size+1) h1 rfl rfl).alloc' (by omega) _
 ·refine OwnS.of_blk (cur:=#[.int .i64 1, .int .u64 9, .slice (some ⟨w.heap.size,0,none⟩) 1 1, .int .i64 2, .int .u64 10, .slice (some ⟨w.heap.size+1,0,none⟩) 1 1]) ?_ rfl (by omega) (by decide) rfl rfl
  rw [←h2]
  exact Blk.new _ _ _
 ·exact (((Below.refl w.heap.size w).alloc (Nat.le_refl _) _).alloc (by rw [h1];omega) _).alloc (by rw [h2];omega) _
set_option maxRecDepth 100000 in
set_option maxHeartbeats 8000000 in
theorem alive27_any {o:Nat→Nat} {w:World} (hf:Fut o w):Calls Tryz.prog 5 #[] w fun e w'=>e = .returned (.bool true)∧∃o',Step o nz w o' w':=by
 have HF:=Lib.hid hf
 clear hf
 go_enter Tryz.func5,Tryz.ntmps5
 go_wp2_with fail
 refine (ready_any (cd:=1) (cr:=10) HF.out (by omega) (by omega)).mono ?_
 rintro e w1 ⟨p,r,rfl,o1,hd,_,hs⟩
 have HV:=Lib.hid bared
 generalize readyD=D0 at hd HV
 have hf1:=HF.out.step hs
 have HX:=Lib.hid (Keep.new hf1 30 #[.int .i64 2, .int .i64 10, .int .i64 8, .int .i64 4, .int .i64 32])
 have HD:=Lib.hid (hd.alloc (.cells #[.int .i64 2, .int .i64 10, .int .i64 8, .int .i64 4, .int .i64 32] 30))
 have HF1:=Lib.hid (hf1.alloc (.cells #[.int .i64 2, .int .i64 10, .int .i64 8, .int .i64 4, .int .i64 32] 30))
 have HS1:=Lib.hid ((hs.mono nz_ready).alloc (.cells #[.int .i64 2, .int .i64 10, .int .i64 8, .int .i64 4, .int .i64 32] 30))
 clear hd hs hf1 HF
 go_upto_region 2 with (fail)
 generalize w1.alloc (.cells #[.int .i64 2, .int .i64 10, .int .i64 8, .int .i64 4, .int .i64 32] 30)=W1 at HX HD HF1 HS1 ⊢
 generalize w1.heap.size=g at HX ⊢
 go_wp2_with fail
 refine (dadmit_calm HD.out 2 10).mono ?_
 rintro e w2 ⟨rfl,o2,hd2,hs2⟩
 have hE:=HV.out.1
 have hb:=HV.out.2
 generalize (D0.admit 2 10).2=D at hd2 hb
 generalize (D0.admit 2 10).1=E2 at hE ⊢
 subst hE
 have HV2:=Lib.hid hb
 have HD2:=Lib.hid hd2
 have HX2:=Lib.hid (HX.out.step hs2 (no_six (by omega)))
 have HF2:=Lib.hid (HF1.out.step hs2)
 have HS2:=Lib.hid (HS1.out.trans (hs2.mono (nz_six 1 (by omega))))
 clear hd2 hs2 hb HV HD HX HF1 HS1
 go_wp2_with fail
 rw [show ((w2.alloc (.cells #[.int .i64 0, .int .i64 5, .int .i64 2] 63)).alloc (.cells #[.int .i64 3, .int .i64 9, .int .i64 1] 63)).alloc (.cells #[.int .i64 1, .int .u64 9, .slice (some ⟨w2.heap.size,0,none⟩) 1 1, .int .i64 2, .int .u64 10, .slice (some ⟨w2.heap.size+1,0,none⟩) 1 1] 66)=claims27 w2 from rfl]
 obtain ⟨ra,rb,rc,rd⟩:=claims27_rows w2
 have HD3:=Lib.hid (HD2.out.below_ rd)
 have HX3:=Lib.hid (HX2.out.below_ rd)
 have HF3:=Lib.hid (HF2.out.below rd)
 have HS3:=Lib.hid (HS2.out.trans (Step.of_below o2 nz rd))
 clear rd HD2 HX2 HF2 HS2
 refine (aclash_two HD3.out HF3.out ⟨1,9,some ⟨w2.heap.size,0,none⟩,1,1⟩ ⟨2,10,some ⟨w2.heap.size+1,0,none⟩,1,1⟩ (show 1≤16 by decide) (show (9:Nat)≠0 by decide) HV2.out.one (show 2≤16 by decide) (show (10:Nat)≠0 by decide) HV2.out.two (show (2:Nat)≠1 by decide) [⟨0,5,2⟩] [⟨3,9,1⟩] rfl rfl ra rb (by decide) (by decide) (some ⟨w2.heap.size+1+1,0,none⟩) 2 rc ⟨3,5⟩ clash27 (by decide)).mono ?_
 rintro e w4 ⟨E4,cap4,rfl,ho4,hb4⟩
 obtain ⟨q4,cur4,rfl,_⟩:=ho4.blk (by decide)
 have HO4:=Lib.hid ho4
 have HD4:=Lib.hid (HD3.out.below_ hb4)
 have HX4:=Lib.hid (HX3.out.below_ hb4)
 have HF4:=Lib.hid (HF3.out.below hb4)
 have HS4:=Lib.hid (HS3.out.trans (Step.of_below o2 nz hb4))
 clear ra rb rc ho4 hb4 HD3 HX3 HF3 HS3
 go_upto_region 5 with (fail)
 generalize w2.heap.size=G2
 obtain ⟨s0,s1,s2,s3,s4⟩:=HX4.out.1.five
 go_wp2_with fail
 refine (aarray_any HD4.out HV2.out.calm.tame HF4.out).mono ?_
 rintro e w5 ⟨A5,cap5,B5,cb5,rfl,_,_,hb5⟩
 have HO5:=Lib.hid (HO4.out.below_ hb5)
 have HD5:=Lib.hid (HD4.out.below_ hb5)
 have HX5:=Lib.hid (HX4.out.below_ hb5)
 have HF5:=Lib.hid (HF4.out.below hb5)
 have HS5:=Lib.hid (HS4.out.trans (Step.of_below o2 nz hb5))
 clear hb5 HO4 HD4 HX4 HF4 HS4 s0 s1 s2 s3 s4
 obtain ⟨e1,e2⟩:=bare_arr HV2.out.calm.live HV2.out.bare
 rw [e1,e2]
 clear e1 e2
 go_upto_region 6 with (fail)
 obtain ⟨s0,s1,s2,s3,s4⟩:=HX5.out.1.five
 go_wp2_with fail
 refine (alogs_any HD5.out HV2.out.calm.tame HF5.out).mono ?_
 rintro e w6 ⟨A6,cap6,rfl,ho6,hb6⟩
 rw [bare_logs HV2.out.calm.live HV2.out.bare] at ho6
 obtain ⟨q6,cur6,rfl,_⟩:=ho6.blk (by decide)
 have HL6:=Lib.hid ho6
 have HO6:=Lib.hid (HO5.out.below_ hb6)
 have HD6:=Lib.hid (HD5.out.below_ hb6)
 have HX6:=Lib.hid (HX5.out.below_ hb6)
 have HF6:=Lib.hid (HF5.out.below hb6)
 have HS6:=Lib.hid (HS5.out.trans (Step.of_below o2 nz hb6))
 clear ho6 hb6 HO5 HD5 HX5 HF5 HS5 s0 s1 s2 s3 s4
 go_upto_region 7 with (fail)
 obtain ⟨s0,s1,s2,s3,s4⟩:=HX6.out.1.five
 go_wp2_with fail
 refine (awhole_any (c2:=1) (k:=49) (fun W hW=>dtwin_any (HD6.out.below_ hW) (by have:=HV2.out.calm.waits;omega)) HV2.out.calm.tame (by omega) (by omega) HF6.out (by rw [HV2.out.last];decide)).mono ?_
 rintro e w7 ⟨A7,cap7,rfl,o7,_,hs7⟩
 obtain ⟨e1,e2⟩:=bare_whole HV2.out.calm HV2.out.bare (by rw [HV2.out.last];decide)
 rw [e1,show wholeN 0 (wholeR D).2=0 by unfold wholeN;rw [e2];rfl]
 have HL7:=Lib.hid (HL6.out.step hs7 (by unfold six;omega))
 have HO7:=Lib.hid (HO6.out.step hs7 (by unfold six;omega))
 have HS7:=Lib.hid (HS6.out.trans (hs7.mono (nz_six 1 (by omega))))
 clear e1 e2 hs7 HL6 HO6 HD6 HX6 HF6 HS6 s0 s1 s2 s3 s4
 have l0:w7.cell? ⟨q6,0,none⟩=some (.int .i64 0):=HL7.out.at_ (j:=0) rfl
 have c0:w7.cell? ⟨q4,0,none⟩=some (.int .i64 3):=HO7.out.at_ (j:=0) rfl
 have c1:w7.cell? ⟨q4,1,none⟩=some (.int .i64 5):=HO7.out.at_ (j:=1) rfl
 have cc4:1≤cap4:=by obtain ⟨_,_,_,_,_,h,_⟩:=HO7.out.blk (by decide);exact h
 have cc6:2≤cap6:=by obtain ⟨_,_,_,_,_,h,_⟩:=HL7.out.blk (by decide);exact h
 go_upto_region 8 with (fail)
 go_wp2_with fail
 go_ret
 exact ⟨rfl,o7,HS7.out⟩
theorem nil_any {o o':Nat→Nat} {c c':Nat} {w w':World} {e:TypeId} {size n:Nat} {xs:List Value} (h:OwnW o c w e size (.slice none 0 0) n xs):OwnW o' c' w' e size (.slice none 0 0) n xs:=by
 refine ⟨h.1, .inl ⟨rfl,?_⟩⟩
 rcases h.2 with ⟨_,h0⟩ | ⟨g,off,cap,cur,e,_⟩
 ·exact h0
 ·cases e
def NilDisk (o:Nat→Nat) (c:Nat) (w:World) (p:Nat) (D:Dk):Prop:=∃mn ml wv,DiskIn o c w p D mn ml wv (.slice none 0 0)
section
variable {o o':Nat→Nat} {c p:Nat} {C:Nat→Prop} {w w':World} {D:Dk}
theorem NilDisk.at_ (h:NilDisk o c w p D):DiskAt o c w p D:=by
 obtain ⟨mn,ml,wv,h1⟩:=h
 exact ⟨mn,ml,wv,_,h1⟩
theorem NilDisk.step (h:NilDisk o c w p D) (hs:Step o C w o' w') (hc:∀x,c≤x→x≤c+4→¬C x):NilDisk o' c w' p D:=by
 obtain ⟨mn,ml,wv,h1⟩:=h
 exact ⟨mn,ml,wv,h1.step hs hc⟩
theorem NilDisk.below_ (h:NilDisk o c w p D) (hb:Below w.heap.size w w'):NilDisk o c w' p D:=h.step (Step.of_below o (fun _=>False) hb) (fun _ _ _=>id)
end
set_option maxRecDepth 100000 in
set_option maxHeartbeats 2000000 in
theorem darm_nil {o:Nat→Nat} {c p:Nat} {w:World} {D:Dk} (h:DiskAt o c w p D) :
 Calls Tryz.prog 7 #[.pointer (some ⟨p,0,none⟩), .int .i64 (-1), .slice none 0 0] w fun e w'=>e = .returned (.tuple #[])∧NilDisk o c w' p (D.arm (-1) [])∧Step o (only c) w o w':=by
 obtain ⟨mn,ml,wv,sv,h1⟩:=h
 have H:=Lib.hid h1
 clear h1
 go_enter Tryz.func7,Tryz.ntmps7
 go_wp2_with fail
 refine (Any.slices_Clone_int_nil Tryz.laysCl 0 0 w).mono ?_
 rintro e w1 ⟨rfl,rfl⟩
 have h2:=H.out
 have f1:=h2.blk.frozen 41
 have f2:=h2.blk.frozen 42
 have f3:=h2.blk.frozen 43
 have c1:w1.cell? ⟨p,41,none⟩=some (.bool D.armed):=h2.blk.cell 41
 have c2:w1.cell? ⟨p,42,none⟩=some (.int .i64 D.left):=h2.blk.cell 42
 have c3:w1.cell? ⟨p,43,none⟩=some sv:=h2.blk.cell 43
 obtain ⟨h3,h4⟩:=h2.armed_ (-1) [] (OwnW.nil o (c+4) w1 3 1)
 have HF:=Lib.hid (show NilDisk o c (((w1.setCell ⟨p,41,none⟩ (.bool false)).setCell ⟨p,42,none⟩ (.int .i64 (-1))).setCell ⟨p,43,none⟩ (.slice none 0 0)) p (D.arm (-1) [])∧Step o (only c) w1 o (((w1.setCell ⟨p,41,none⟩ (.bool false)).setCell ⟨p,42,none⟩ (.int .i64 (-1))).setCell ⟨p,43,none⟩ (.slice none 0 0)) from ⟨⟨mn,ml,wv,h3⟩,h4⟩)
 clear h2 h3 h4
 go_wp2_with fail
 go_end0
 exact ⟨rfl,HF.out⟩
set_option maxRecDepth 100000 in
set_option maxHeartbeats 4000000 in
theorem dtwin_far {o:Nat→Nat} {c p:Nat} {w:World} {D:Dk} (c2:Nat) (h:NilDisk o c w p D) (hwl:D.waits.length≤1000000):Calls Tryz.prog 31 #[.pointer (some ⟨p,0,none⟩)] w fun e w'=>∃t,e = .returned (.pointer (some ⟨t,0,none⟩))∧∃o',DiskAt o' c2 w' t D∧Step o (fun _=>False) w o' w':=by
 obtain ⟨mn,ml,wv,h1⟩:=h
 obtain ⟨sv,hsv⟩:∃sv:Value,Value.slice none 0 0=sv:=⟨_,rfl⟩
 have HSV:=Lib.hid hsv
 rw [hsv] at h1
 clear hsv
 have H:=Lib.hid h1
 have HL:=Lib.hid hwl
 clear h1 hwl
 obtain ⟨CS,hCS⟩:∃CS,D.cells mn ml wv sv=CS:=⟨_,rfl⟩
 have hsz:CS.size=44:=by rw [←hCS];rfl
 have hb:Blk w p 81 CS:=by rw [←hCS];exact H.out.blk
 have HI:=Lib.hid (show (Tryz.prog.info? 81).map (·.size)=some CS.size by rw [hsz];kernel_rfl)
 have H1:=Lib.hid (show CS.all (·.oneCell')=true by rw [←hCS];obtain ⟨A,cap,rfl,_,_⟩:=H.out.waits.form;obtain ⟨A2,cap2,rfl,_,_⟩:=H.out.stays.form;simp [Dk.cells,Value.oneCell'])
 have HB:=Lib.hid hb
 have HSZ:=Lib.hid hsz
 clear hb hsz
 go_enter Tryz.func31,Tryz.ntmps31
 go_upto_region 3 with (fail)
 go_wp2_with (first | (refine wpList_load_row rfl 81 (.tmp 7) rfl p rfl 81 CS (0,0) _ HB.out Tryz.underlying81 rfl HI.out ?_) | (refine wpList_store_row rfl 81 (.tmp 3) (.tmp 8) rfl w.heap.size CS rfl rfl 81 _ (heap_alloc_new w _) HI.out (by rw [HSZ.out];rfl) H1.out ?_))
 rw [World.setRow_alloc_new]
 obtain ⟨o1,ho1,hs1⟩:=alloc_as o w (.cells CS 81) c2
 have HT:=Lib.hid (Blk.new w 81 CS)
 have HD:=Lib.hid (H.out.step hs1 (fun _ _ _=>id))
 have hne:w.heap.size≠p:=by have:=HB.out.lt;omega
 have HS:=Lib.hid hs1
 have HO:=Lib.hid ho1
 have HF:=Lib.hid (show p<w.heap.size from HB.out.lt)
 clear hs1 ho1 H HB HI H1
 generalize hW:w.alloc (.cells CS 81)=W1 at HT HD HS ⊢
 generalize htt:w.heap.size=t at HT HO hne HF ⊢
 clear hW
 obtain ⟨A,cap,rfl,_,_⟩:=HD.out.waits.form
 have d3:W1.cell? ⟨p,3,none⟩=some (.map (some mn)):=HD.out.blk.cell 3
 have d4:W1.cell? ⟨p,4,none⟩=some (.map (some ml)):=HD.out.blk.cell 4
 have d5:W1.cell? ⟨p,5,none⟩=some (.slice A D.waits.length cap):=HD.out.blk.cell 5
 go_upto_region 4 with (fail)
 go_region_held3 (fun w'=>w'.cell? ⟨p,3,none⟩=some (.map (some mn))∧w'.cell? ⟨p,4,none⟩=some (.map (some ml))∧w'.cell? ⟨p,5,none⟩=some (.slice A D.waits.length cap))
  (first | exact ⟨d3,d4,d5⟩ | exact ⟨e3,e4,e5⟩ | exact ⟨f3,f4,f5⟩ | exact ⟨k3,k4,k5⟩ | go_keep)
  (first
    | (go_at_call 74;refine (mclone1_any (c2+1) HD.out.now.drew).mono ?_;rintro e w2 ⟨m1,rfl,o2,hm1,hs2⟩
       have hd2:=HD.out.drew.step hs2 (fun _ _ _=>id)
       have e3:w2.cell? ⟨p,3,none⟩=some (.map (some mn)):=hd2.blk.cell 3
       have e4:w2.cell? ⟨p,4,none⟩=some (.map (some ml)):=hd2.blk.cell 4
       have e5:w2.cell? ⟨p,5,none⟩=some (.slice A D.waits.length cap):=hd2.blk.cell 5
       have HD2:=Lib.hid hd2
       have HM1:=Lib.hid hm1
       have HS2:=Lib.hid hs2
       clear hd2 hm1 hs2)
    | (go_at_call 75;refine (mclone2_any (c2+2) HD2.out.lasts).mono ?_;rintro e w3 ⟨m2,rfl,o3,hm2,hs3⟩
       have hd3:=HD2.out.step hs3 (fun _ _ _=>id)
       have f3:w3.cell? ⟨p,3,none⟩=some (.map (some mn)):=hd3.blk.cell 3
       have f4:w3.cell? ⟨p,4,none⟩=some (.map (some ml)):=hd3.blk.cell 4
       have f5:w3.cell? ⟨p,5,none⟩=some (.slice A D.waits.length cap):=hd3.blk.cell 5
       have HD3:=Lib.hid hd3
       have HM2:=Lib.hid hm2
       have HS3:=Lib.hid hs3
       clear hd3 hm2 hs3)
    | (go_at_call 76;refine (sclone_any (c2+3) HD3.out.waits HL.out).mono ?_;rintro e w4 ⟨v4,rfl,hv4,hb4⟩
       have hs4:=Step.of_below_band o3 (fun _=>False) (c2+3) hb4
       have hd4:=HD3.out.step hs4 (fun _ _ _=>id)
       have k3:w4.cell? ⟨p,3,none⟩=some (.map (some mn)):=hd4.blk.cell 3
       have k4:w4.cell? ⟨p,4,none⟩=some (.map (some ml)):=hd4.blk.cell 4
       have k5:w4.cell? ⟨p,5,none⟩=some (.slice A D.waits.length cap):=hd4.blk.cell 5
       have ht4:=((HT.out.drew.step HS2.out id).step HS3.out id).step hs4 id
       obtain ⟨A4,cap4,rfl,_,_⟩:=hv4.form
       have y3:w4.cell? ⟨t,3,none⟩=some (.map (some mn)):=(ht4.cell 3).trans (by rw [←hCS];rfl)
       have y4:w4.cell? ⟨t,4,none⟩=some (.map (some ml)):=(ht4.cell 4).trans (by rw [←hCS];rfl)
       have y5:w4.cell? ⟨t,5,none⟩=some (.slice A D.waits.length cap):=(ht4.cell 5).trans (by rw [←hCS];rfl)
       have g3:=ht4.frozen 3
       have g4:=ht4.frozen 4
       have g5:=ht4.frozen 5
       have HD4:=Lib.hid hd4
       have HV4:=Lib.hid hv4
       have HS4:=Lib.hid hs4
       have HT4:=Lib.hid ht4
       clear hd4 hv4 hs4 ht4 hb4))
 have hs14:=HS2.out.of_drew.trans (HS3.out.trans HS4.out)
 have hs04:=HS.out.trans hs14
 obtain ⟨o4,ho4⟩:∃o4,band o3 w3.heap.size w4.heap.size (c2+3)=o4:=⟨_,rfl⟩
 rw [ho4] at hs14 hs04 HV4 HD4
 have hc4:o4 t=c2:=(hs14.old t HT.out.lt).trans HO.out
 have hq:Step o4 (only c2) w4 o4 (((w4.setCell ⟨t,3,none⟩ (.map (some m1))).setCell ⟨t,4,none⟩ (.map (some m2))).setCell ⟨t,5,none⟩ (.slice A4 D.waits.length cap4)):=(((Step.refl o4 (only c2) w4).setCell (p:=⟨t,3,none⟩) hc4 _).setCell (p:=⟨t,4,none⟩) hc4 _).setCell (p:=⟨t,5,none⟩) hc4 _
 have hb5:=((HT4.out.set_ 3 (.map (some m1))).set_ 4 (.map (some m2))).set_ 5 (.slice A4 D.waits.length cap4)
 rw [←hCS] at hb5
 have hs34:=HS3.out.trans HS4.out
 have hs4:=HS4.out
 rw [ho4] at hs34 hs4
 have HFIN:=Lib.hid (show DiskAt o4 c2 (((w4.setCell ⟨t,3,none⟩ (.map (some m1))).setCell ⟨t,4,none⟩ (.map (some m2))).setCell ⟨t,5,none⟩ (.slice A4 D.waits.length cap4)) t D∧Step o (fun _=>False) w o4 (((w4.setCell ⟨t,3,none⟩ (.map (some m1))).setCell ⟨t,4,none⟩ (.map (some m2))).setCell ⟨t,5,none⟩ (.slice A4 D.waits.length cap4)) from
  ⟨⟨m1,m2,_,sv,hb5,hc4,(HM1.out.step hs34 id).step hq (by unfold only;omega),(HM2.out.step hs4 id).step hq (by unfold only;omega),HV4.out.step hq (by unfold only;omega),HSV.out▸(nil_any (HSV.out▸HD4.out.stays))⟩,
   ((hs04.setNew (p:=⟨t,3,none⟩) (Nat.le_of_eq htt) _).setNew (p:=⟨t,4,none⟩) (Nat.le_of_eq htt) _).setNew (p:=⟨t,5,none⟩) (Nat.le_of_eq htt) _⟩)
 clear hq hb5 hs34 hs4 hs14 hs04 y3 y4 y5 g3 g4 g5 k3 k4 k5 f3 f4 f5 e3 e4 e5 d3 d4 d5
 go_wp2_with fail
 go_ret
 exact ⟨t,rfl,o4,HFIN.out.1,HFIN.out.2⟩
end Go.Proofs.YtldoeodkeieejaaGreatDoor
