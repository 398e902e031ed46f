import Derived.Test.YtldoeodkeieejaaGreatDoorKRefG
import Derived.Test.YtldoeodkeieejaaGreatDoorKLogB
import Derived.Test.YtldoeodkeieejaaGreatDoorKLogE
namespace Go.Proofs.YtldoeodkeieejaaGreatDoor
open Go.RowKit
theorem marked_cell {W:World} {g:Nat} {C:Array Value} {t:TypeId} {fr:Nat×Nat} (h:W.heap[g]? = some (.cells C t fr)) {xs:List Value} (hx:C.toList=xs):∀j u,xs[j]? = some u→W.cell? ((⟨g,0,none⟩:Addr).add j)=some u:=by
 intro j u hj
 have e:(⟨g,0,none⟩:Addr).add j=⟨g,j,none⟩:=by unfold Addr.add;split <;> simp_all
 rw [e,←hj,←hx,Array.getElem?_toList]
 unfold World.cell?
 simp [h]
theorem put_start {w w1:World} {g:Nat} (hb:Below w.heap.size w w1) (hk:Blk w1 g 28 #[.int .i64 2, .int .i64 10, .int .i64 8, .int .i64 4, .int .i64 32]):∃o,Blk ((w1.alloc (.cells #[.int .u8 67, .int .u8 79, .int .u8 77, .int .u8 77, .int .u8 79, .int .u8 78, .int .u8 83, .int .u8 49] 5 (8,9))).alloc (.cells #[.slice (some ⟨w1.heap.size,0,none⟩) 8 8, .int .i64 0] 177)) (w1.heap.size+1) 177 #[.slice (some ⟨w1.heap.size,0,none⟩) 8 8, .int .i64 0]∧o (w1.heap.size+1)=1∧w1.heap.size<((w1.alloc (.cells #[.int .u8 67, .int .u8 79, .int .u8 77, .int .u8 77, .int .u8 79, .int .u8 78, .int .u8 83, .int .u8 49] 5 (8,9))).alloc (.cells #[.slice (some ⟨w1.heap.size,0,none⟩) 8 8, .int .i64 0] 177)).heap.size∧o w1.heap.size≠1∧(∀j u,(bvs bs8)[j]? = some u→((w1.alloc (.cells #[.int .u8 67, .int .u8 79, .int .u8 77, .int .u8 77, .int .u8 79, .int .u8 78, .int .u8 83, .int .u8 49] 5 (8,9))).alloc (.cells #[.slice (some ⟨w1.heap.size,0,none⟩) 8 8, .int .i64 0] 177)).cell? ((⟨w1.heap.size,0,none⟩:Addr).add j)=some u)∧Env o w ((w1.alloc (.cells #[.int .u8 67, .int .u8 79, .int .u8 77, .int .u8 77, .int .u8 79, .int .u8 78, .int .u8 83, .int .u8 49] 5 (8,9))).alloc (.cells #[.slice (some ⟨w1.heap.size,0,none⟩) 8 8, .int .i64 0] 177))∧Fut o ((w1.alloc (.cells #[.int .u8 67, .int .u8 79, .int .u8 77, .int .u8 77, .int .u8 79, .int .u8 78, .int .u8 83, .int .u8 49] 5 (8,9))).alloc (.cells #[.slice (some ⟨w1.heap.size,0,none⟩) 8 8, .int .i64 0] 177))∧Keep o ((w1.alloc (.cells #[.int .u8 67, .int .u8 79, .int .u8 77, .int .u8 77, .int .u8 79, .int .u8 78, .int .u8 83, .int .u8 49] 5 (8,9))).alloc (.cells #[.slice (some ⟨w1.heap.size,0,none⟩) 8 8, .int .i64 0] 177)) g 28 #[.int .i64 2, .int .i64 10, .int .i64 8, .int .i64 4, .int .i64 32]:=by
 have z1:(w1.alloc (.cells #[.int .u8 67, .int .u8 79, .int .u8 77, .int .u8 77, .int .u8 79, .int .u8 78, .int .u8 83, .int .u8 49] 5 (8,9))).heap.size=w1.heap.size+1:=by simp
 obtain ⟨o2,h2,s2⟩:=alloc_as (fun _=>0) w1 (.cells #[.int .u8 67, .int .u8 79, .int .u8 77, .int .u8 77, .int .u8 79, .int .u8 78, .int .u8 83, .int .u8 49] 5 (8,9)) 0
 obtain ⟨o3,h3,s3⟩:=alloc_as o2 (w1.alloc (.cells #[.int .u8 67, .int .u8 79, .int .u8 77, .int .u8 77, .int .u8 79, .int .u8 78, .int .u8 83, .int .u8 49] 5 (8,9))) (.cells #[.slice (some ⟨w1.heap.size,0,none⟩) 8 8, .int .i64 0] 177) 1
 have s:=s2.trans s3
 have b2:=Blk.new (w1.alloc (.cells #[.int .u8 67, .int .u8 79, .int .u8 77, .int .u8 77, .int .u8 79, .int .u8 78, .int .u8 83, .int .u8 49] 5 (8,9))) 177 #[.slice (some ⟨w1.heap.size,0,none⟩) 8 8, .int .i64 0]
 rw [z1] at h3 b2
 have c1:o3 w1.heap.size=0:=(s3.old _ (by rw [z1];omega)).trans h2
 have hg:((w1.alloc (.cells #[.int .u8 67, .int .u8 79, .int .u8 77, .int .u8 77, .int .u8 79, .int .u8 78, .int .u8 83, .int .u8 49] 5 (8,9))).alloc (.cells #[.slice (some ⟨w1.heap.size,0,none⟩) 8 8, .int .i64 0] 177)).heap[w1.heap.size]? = some (.cells #[.int .u8 67, .int .u8 79, .int .u8 77, .int .u8 77, .int .u8 79, .int .u8 78, .int .u8 83, .int .u8 49] 5 (8,9)):=(Below.heap_alloc _ _ _ (by rw [z1];omega)).trans (heap_alloc_new w1 _)
 exact ⟨o3,b2,h3,by simp;omega,by rw [c1];decide,marked_cell hg rfl,((Env.start w).below_ hb).step s id,(show Fut (fun _=>0) w1 from fun _ _=>rfl).step s,hk.step s id,s.old g hk.lt⟩
theorem bs_add (k:Nat):(bs8++preP k)++le (shp k) (Int.toNat 4)=bs8++preP (k+1):=by
 rw [List.append_assoc]
 rfl
theorem bs_len (k:Nat) (h:k≤5):(bs8++preP k).length≤1000000000:=by
 rw [List.length_append,preP_len]
 show 8+4*k≤_
 omega
theorem shp_ok (k:Nat):numOk (shp k) 4:=by
 have:=shp_le k
 unfold numOk
 refine ⟨by omega,by omega,?_⟩
 show shp k<4294967296
 omega
set_option maxRecDepth 100000 in
set_option maxHeartbeats 4000000 in
theorem refputshape_any (w:World):Calls Tryz.prog 40 #[.agg #[.int .i64 2, .int .i64 10, .int .i64 8, .int .i64 4, .int .i64 32]] w fun e w'=>e = .returned (.tuple #[.string (str superL), .int .i64 0])∧Below w.heap.size w w':=by
 have HB:=Lib.hid ((Below.refl w.heap.size w).alloc (Nat.le_refl _) (.cells #[.int .i64 2, .int .i64 10, .int .i64 8, .int .i64 4, .int .i64 32] 28))
 have HK:=Lib.hid (Blk.new w 28 #[.int .i64 2, .int .i64 10, .int .i64 8, .int .i64 4, .int .i64 32])
 go_enter Tryz.func40,Tryz.ntmps40
 obtain ⟨x0,x1,x2,x3,x4⟩:=HK.out.five
 go_wp2_with fail
 refine (refvalid_any _).mono ?_
 rintro e w1 ⟨rfl,hb1⟩
 obtain ⟨o0,hwb,hwc,hgl,hog,hrd,henv,hfut,hk⟩:=put_start (HB.out.trans (hb1.mono HB.out.size)) (HK.out.below_ hb1)
 have HF1:=Lib.hid (xnum_first hwb hwc hgl hog hrd (shp 0) (by have:=shp_le 0;omega))
 have HEN:=Lib.hid henv
 have HFU:=Lib.hid hfut
 have HK0:=Lib.hid hk
 clear hk hb1 x0 x1 x2 x3 x4 hwb hwc hgl hog hrd henv hfut
 have kc:=Lib.run_convert_bytes_const (P:=Tryz.prog) w1 84 5 #[.int .u8 67, .int .u8 79, .int .u8 77, .int .u8 77, .int .u8 79, .int .u8 78, .int .u8 83, .int .u8 49] 8 8 Tryz.underlying84 Tryz.underlying5
 go_upto_region 4 with (fail)
 clear kc
 generalize ((w1.alloc (.cells #[.int .u8 67, .int .u8 79, .int .u8 77, .int .u8 77, .int .u8 79, .int .u8 78, .int .u8 83, .int .u8 49] 5 (8,9))).alloc (.cells #[.slice (some ⟨w1.heap.size,0,none⟩) 8 8, .int .i64 0] 177))=W0 at HF1 HEN HFU HK0 ⊢
 generalize w1.heap.size+1=p at HF1 ⊢
 obtain ⟨x0,x1,x2,x3,x4⟩:=HK0.out.1.five
 go_wp2_with fail
 refine HF1.out.mono ?_
 rintro e w2 ⟨rfl,o1,hx,hs⟩
 have HX1:=Lib.hid (show Xg o1 w w2 p (bs8++preP 1) from ⟨hx,HEN.out.step hs no10,HFU.out.step hs⟩)
 have HK1:=Lib.hid (HK0.out.step hs no10)
 clear hx hs x0 x1 x2 x3 x4
 obtain ⟨x0,x1,x2,x3,x4⟩:=HK1.out.1.five
 go_wp2_with fail
 refine (xnum_ok HX1.out (shp 1) 4 (shp_ok 1) (by have:=shp_le 1;omega) (bs_len 1 (by omega))).mono ?_
 rintro e w3 ⟨rfl,o2,hx,hs⟩
 rw [bs_add 1] at hx
 have HX2:=Lib.hid hx
 have HK2:=Lib.hid (HK1.out.step hs no10)
 clear hx hs x0 x1 x2 x3 x4
 obtain ⟨x0,x1,x2,x3,x4⟩:=HK2.out.1.five
 go_wp2_with fail
 refine (xnum_ok HX2.out (shp 2) 4 (shp_ok 2) (by have:=shp_le 2;omega) (bs_len 2 (by omega))).mono ?_
 rintro e w4 ⟨rfl,o3,hx,hs⟩
 rw [bs_add 2] at hx
 have HX3:=Lib.hid hx
 have HK3:=Lib.hid (HK2.out.step hs no10)
 clear hx hs x0 x1 x2 x3 x4
 obtain ⟨x0,x1,x2,x3,x4⟩:=HK3.out.1.five
 go_wp2_with fail
 refine (xnum_ok HX3.out (shp 3) 4 (shp_ok 3) (by have:=shp_le 3;omega) (bs_len 3 (by omega))).mono ?_
 rintro e w5 ⟨rfl,o4,hx,hs⟩
 rw [bs_add 3] at hx
 have HX4:=Lib.hid hx
 have HK4:=Lib.hid (HK3.out.step hs no10)
 clear hx hs x0 x1 x2 x3 x4
 obtain ⟨x0,x1,x2,x3,x4⟩:=HK4.out.1.five
 go_wp2_with fail
 refine (xnum_ok HX4.out (shp 4) 4 (shp_ok 4) (by have:=shp_le 4;omega) (bs_len 4 (by omega))).mono ?_
 rintro e w6 ⟨rfl,o5,hx,hs⟩
 rw [bs_add 4] at hx
 have HX5:=Lib.hid hx
 have HK5:=Lib.hid (HK4.out.step hs no10)
 clear hx hs x0 x1 x2 x3 x4
 obtain ⟨A,cap,c0,hcv⟩:=HX5.out.conv
 have HSB:=Lib.hid (show str (bs8++preP 5)=str superT from rfl)
 rw [HSB.out] at hcv
 have HZ:=Lib.hid (show (str superT).size≤60 by rw [str_size,superT_len];omega)
 have HF:=Lib.hid (show str (stampL (str superT).data.toList 64)=str superL by rw [str_list];rfl)
 generalize (bs8++preP 5).length=L at c0 hcv
 generalize str superT=Q at hcv HZ HF
 go_wp2_with fail
 refine (xstamp_any Q HZ.out w6).mono ?_
 rintro e w7 ⟨rfl,hb7⟩
 rw [HF.out]
 have HB7:=Lib.hid (HX5.out.env.low.trans (hb7.mono HX5.out.env.low.size))
 clear hb7
 go_wp2_with fail
 go_ret2
 exact ⟨rfl,HB7.out⟩
structure ApR where
 n:Nat
 e:Int
 D:Dk
def tornE (e:Int):Bool:=decide (e=6∨e=4)
def applyGo (node:Int) (epoch:Nat):List Im→Nat→Dk→ApR
 | [],n,D=>⟨n,0,D⟩
 | i :: l,n,D=>if (D.load i.block).2≠0∧tornE (D.load i.block).2=false then ⟨0,(D.load i.block).2,D⟩
   else if tornE (D.load i.block).2=false∧i.ver≤(D.load i.block).1.ver then applyGo node epoch l n D
   else if (D.store node epoch i).1≠0 then ⟨0,(D.store node epoch i).1,(D.store node epoch i).2⟩
   else applyGo node epoch l (n+1) (D.store node epoch i).2
def applyR (D:Dk) (node:Int) (epoch:Nat) (l:List Im):ApR :=
 if (applyGo node epoch l 0 D).e≠0 then applyGo node epoch l 0 D else if (applyGo node epoch l 0 D).n=0 then applyGo node epoch l 0 D
 else if ((applyGo node epoch l 0 D).D.barrier node epoch).1≠0 then ⟨0,((applyGo node epoch l 0 D).D.barrier node epoch).1,((applyGo node epoch l 0 D).D.barrier node epoch).2⟩
 else ⟨(applyGo node epoch l 0 D).n,0,((applyGo node epoch l 0 D).D.barrier node epoch).2⟩
def runR (D:Dk) (node:Int) (of_:Nat) (by_:Int) (epoch:Nat):ApR :=
 if D.headE node≠0 then ⟨0,D.headE node,D⟩ else if D.headI node=false∨(D.headH node).epoch≠of_ then ⟨0,0,D⟩
 else if D.scanE node≠0 then ⟨0,D.scanE node,D⟩
 else if (applyR D by_ epoch (planOf (D.scan node))).e≠0 then ⟨0,(applyR D by_ epoch (planOf (D.scan node))).e,(applyR D by_ epoch (planOf (D.scan node))).D⟩
 else if ((applyR D by_ epoch (planOf (D.scan node))).D.write by_ epoch (logAt node).1 (str (zer 64))).1≠0 then ⟨0,((applyR D by_ epoch (planOf (D.scan node))).D.write by_ epoch (logAt node).1 (str (zer 64))).1,((applyR D by_ epoch (planOf (D.scan node))).D.write by_ epoch (logAt node).1 (str (zer 64))).2⟩
 else if (((applyR D by_ epoch (planOf (D.scan node))).D.write by_ epoch (logAt node).1 (str (zer 64))).2.barrier by_ epoch).1≠0 then ⟨0,(((applyR D by_ epoch (planOf (D.scan node))).D.write by_ epoch (logAt node).1 (str (zer 64))).2.barrier by_ epoch).1,(((applyR D by_ epoch (planOf (D.scan node))).D.write by_ epoch (logAt node).1 (str (zer 64))).2.barrier by_ epoch).2⟩
 else ⟨(applyR D by_ epoch (planOf (D.scan node))).n,0,(((applyR D by_ epoch (planOf (D.scan node))).D.write by_ epoch (logAt node).1 (str (zer 64))).2.barrier by_ epoch).2⟩
theorem Tame.store {D:Dk} {k:Nat} (h:Tame D k) (n:Int) (e:Nat) (i:Im):Tame (D.store n e i).2 (k+2):=by
 unfold Dk.store
 split
 ·exact h.mono (by omega)
 ·split
  ·exact h.mono (by omega)
  ·rename_i hr
   have hr:i.right:=Classical.byContradiction hr
   exact (h.write _ _ _ _).mono (by rw [str_size,blkL_len hr];omega)
theorem applyGo_cons (node:Int) (epoch:Nat) (i:Im) (l:List Im) (n:Nat) (D:Dk):applyGo node epoch (i :: l) n D=if (D.load i.block).2≠0∧tornE (D.load i.block).2=false then ⟨0,(D.load i.block).2,D⟩
 else if tornE (D.load i.block).2=false∧i.ver≤(D.load i.block).1.ver then applyGo node epoch l n D
 else if (D.store node epoch i).1≠0 then ⟨0,(D.store node epoch i).1,(D.store node epoch i).2⟩
 else applyGo node epoch l (n+1) (D.store node epoch i).2:=rfl
set_option maxRecDepth 100000 in
set_option maxHeartbeats 8000000 in
theorem eapply_any {o:Nat→Nat} {cd ci p k:Nat} {w:World} {D:Dk} (hd:DiskAt o cd w p D) (ht:Tame D k) (hk:k≤500000) (hcd:1≤cd) (hf:Fut o w) (hci:¬six cd ci) (l:List Im) (A:Option Addr) (cap:Nat) (hown:OwnS o ci w 47 3 (.slice A l.length cap) l.length (imcells l)) (hl:l.length≤100000) (hib:∀i∈l,i.data.size≤maxLen∧i.ver<18446744073709551616) (node:Int) (epoch:Nat) :
 Calls Tryz.prog 33 #[.pointer (some ⟨p,0,none⟩), .agg #[.int .i64 2, .int .i64 10, .int .i64 8, .int .i64 4, .int .i64 32], .int .i64 node, .int .u64 (epoch:Int), .slice A l.length cap] w fun r w'=>r = .returned (.tuple #[.int .i64 (applyR D node epoch l).n, .int .i64 (applyR D node epoch l).e])∧∃o',DiskAt o' cd w' p (applyR D node epoch l).D∧Tame (applyR D node epoch l).D (k+2*l.length)∧Step o (six cd) w o' w':=by
 have HG:=Lib.hid (Keep.new hf 30 #[.int .i64 2, .int .i64 10, .int .i64 8, .int .i64 4, .int .i64 32])
 have HD:=Lib.hid (hd.alloc (.cells #[.int .i64 2, .int .i64 10, .int .i64 8, .int .i64 4, .int .i64 32] 30))
 have HF:=Lib.hid (hf.alloc (.cells #[.int .i64 2, .int .i64 10, .int .i64 8, .int .i64 4, .int .i64 32] 30))
 have HO:=Lib.hid (hown.alloc (.cells #[.int .i64 2, .int .i64 10, .int .i64 8, .int .i64 4, .int .i64 32] 30))
 have HS:=Lib.hid ((Step.refl o (six cd) w).alloc (.cells #[.int .i64 2, .int .i64 10, .int .i64 8, .int .i64 4, .int .i64 32] 30))
 have HT:=Lib.hid ht
 have HK:=Lib.hid hk
 have HCD:=Lib.hid hcd
 have HN0:=Lib.hid (no_six hcd)
 have HCI:=Lib.hid hci
 have HIB:=Lib.hid hib
 have HL:=Lib.hid hl
 have hlI:(l.length:Int)≤100000:=by omega
 have HAR:=Lib.hid (show applyR D node epoch l=if (applyGo node epoch l 0 D).e≠0 then applyGo node epoch l 0 D else if (applyGo node epoch l 0 D).n=0 then applyGo node epoch l 0 D
  else if ((applyGo node epoch l 0 D).D.barrier node epoch).1≠0 then ⟨0,((applyGo node epoch l 0 D).D.barrier node epoch).1,((applyGo node epoch l 0 D).D.barrier node epoch).2⟩
  else ⟨(applyGo node epoch l 0 D).n,0,((applyGo node epoch l 0 D).D.barrier node epoch).2⟩ from rfl)
 generalize applyR D node epoch l=S at HAR ⊢
 obtain ⟨R,hR⟩:∃R,applyGo node epoch l 0 D=R:=⟨_,rfl⟩
 rw [hR] at HAR
 have HR:=Lib.hid hR.symm
 clear hd ht hk hcd hf hci hown hl hib hR
 go_enter Tryz.func33,Tryz.ntmps33
 go_wp2_with fail
 generalize w.alloc (.cells #[.int .i64 2, .int .i64 10, .int .i64 8, .int .i64 4, .int .i64 32] 30)=W at HG HD HF HO HS ⊢
 generalize w.heap.size=gL at HG ⊢
 go_loopw [12,22] (fun t12 t22 wr=>∃(j n:Nat) (D1:Dk) (o1:Nat→Nat),j≤l.length∧n≤j∧t12 = .int .i64 n∧t22 = .int .i64 j∧DiskAt o1 cd wr p D1∧Tame D1 (k+2*j)∧Step o (six cd) w o1 wr∧OwnS o1 ci wr 47 3 (.slice A l.length cap) l.length (imcells l)∧Fut o1 wr∧Keep o1 wr gL 30 #[.int .i64 2, .int .i64 10, .int .i64 8, .int .i64 4, .int .i64 32]∧R=applyGo node epoch (l.drop j) n D1) (fun _ t22 _=>l.length - (intOf t22).toNat)
 case atStart=>exact ⟨0,0,D,o,by omega,by omega,rfl,rfl,HD.out,HT.out,HS.out,HO.out,HF.out,HG.out,HR.out⟩
 case round =>
  obtain ⟨j,n,D1,o1,hj,hn,rfl,rfl,hd,ht,hs,ho,hf,hg,hr⟩:=hrel
  have HD1:=Lib.hid hd
  have HT1:=Lib.hid ht
  have HS1:=Lib.hid hs
  have HO1:=Lib.hid ho
  have HF1:=Lib.hid hf
  have HG1:=Lib.hid hg
  have HR1:=Lib.hid hr
  have HNJ:=Lib.hid hn
  clear hd ht hs ho hf hg hr hn
  by_cases hlt:j<l.length
  ·have hltI:(j:Int)<(l.length:Int):=by omega
   have HJL:=Lib.hid hlt
   obtain ⟨x,hx⟩:∃x,l[j]? = some x:=⟨_,List.getElem?_eq_getElem hlt⟩
   have HDR:=Lib.hid (show l.drop j=x :: l.drop (j+1) by obtain ⟨hk,e⟩:=List.getElem?_eq_some_iff.1 hx;rw [←e];exact List.drop_eq_getElem_cons hk)
   have HXB:=Lib.hid (HIB.out x (List.mem_of_getElem? hx))
   obtain ⟨ad,rfl,y0,y1,y2⟩:=(Reads.of_own HO1.out.1).imrow hx
   have HX2:=Lib.hid (Keep.new HF1.out 47 #[.int .i64 x.block, .int .u64 x.ver, .string x.data])
   have HD2:=Lib.hid (HD1.out.alloc (.cells #[.int .i64 x.block, .int .u64 x.ver, .string x.data] 47))
   have HS2:=Lib.hid (HS1.out.alloc (.cells #[.int .i64 x.block, .int .u64 x.ver, .string x.data] 47))
   have HO2:=Lib.hid (HO1.out.alloc (.cells #[.int .i64 x.block, .int .u64 x.ver, .string x.data] 47))
   have HF2:=Lib.hid (HF1.out.alloc (.cells #[.int .i64 x.block, .int .u64 x.ver, .string x.data] 47))
   have HG2:=Lib.hid (HG1.out.alloc (.cells #[.int .i64 x.block, .int .u64 x.ver, .string x.data] 47))
   clear hx
   go_upto_region 5 with (fail)
   generalize wr.alloc (.cells #[.int .i64 x.block, .int .u64 x.ver, .string x.data] 47)=W2 at HX2 HD2 HS2 HO2 HF2 HG2 ⊢
   generalize wr.heap.size=X at HX2 ⊢
   clear y0 y1 y2
   obtain ⟨x0,x1,x2⟩:=HX2.out.1.three
   obtain ⟨g0,g1,g2,g3,g4⟩:=HG2.out.1.five
   go_wp2_with fail
   refine (kload_any HD2.out (by rw [HT1.out.sectors];omega) HT1.out.wf x.block).mono ?_
   rintro e w3 ⟨rfl,hb3⟩
   have HX3:=Lib.hid (HX2.out.below_ hb3)
   have HD3:=Lib.hid (HD2.out.below_ hb3)
   have HS3:=Lib.hid (HS2.out.trans (Step.of_below o1 (six cd) hb3))
   have HO3:=Lib.hid (HO2.out.below_ hb3)
   have HF3:=Lib.hid (HF2.out.below hb3)
   have HG3:=Lib.hid (HG2.out.below_ hb3)
   clear hb3 x0 x1 x2 g0 g1 g2 g3 g4
   have HRC:=Lib.hid (show R=if (D1.load x.block).2≠0∧tornE (D1.load x.block).2=false then ⟨0,(D1.load x.block).2,D1⟩
    else if tornE (D1.load x.block).2=false∧x.ver≤(D1.load x.block).1.ver then applyGo node epoch (l.drop (j+1)) n D1
    else if (D1.store node epoch x).1≠0 then ⟨0,(D1.store node epoch x).1,(D1.store node epoch x).2⟩
    else applyGo node epoch (l.drop (j+1)) (n+1) (D1.store node epoch x).2 by rw [HR1.out,HDR.out,applyGo_cons])
   clear HR1
   obtain ⟨Z,hZ⟩:∃Z,D1.load x.block=Z:=⟨_,rfl⟩
   obtain ⟨⟨wb,wv,wd⟩,e⟩:=Z
   rw [hZ] at HRC ⊢
   clear hZ
   unfold Im.agg
   simp only at HRC ⊢
   have HX4:=Lib.hid (HX3.out.alloc (.cells #[.int .i64 wb, .int .u64 wv, .string wd] 47))
   have HD4:=Lib.hid (HD3.out.alloc (.cells #[.int .i64 wb, .int .u64 wv, .string wd] 47))
   have HS4:=Lib.hid (HS3.out.alloc (.cells #[.int .i64 wb, .int .u64 wv, .string wd] 47))
   have HO4:=Lib.hid (HO3.out.alloc (.cells #[.int .i64 wb, .int .u64 wv, .string wd] 47))
   have HF4:=Lib.hid (HF3.out.alloc (.cells #[.int .i64 wb, .int .u64 wv, .string wd] 47))
   have HG4:=Lib.hid (HG3.out.alloc (.cells #[.int .i64 wb, .int .u64 wv, .string wd] 47))
   have HY4:=Lib.hid (Blk.new w3 47 #[.int .i64 wb, .int .u64 wv, .string wd])
   go_upto_region 6 with (fail)
   generalize w3.alloc (.cells #[.int .i64 wb, .int .u64 wv, .string wd] 47)=W4 at HX4 HD4 HS4 HO4 HF4 HG4 HY4 ⊢
   generalize w3.heap.size=Y at HY4 ⊢
   obtain ⟨v0,v1,v2⟩:=HX4.out.1.three
   obtain ⟨u0,u1,u2⟩:=HY4.out.three
   by_cases c0:e=0
   ·subst c0
    by_cases c1:x.ver≤wv
    ·have c1I:(x.ver:Int)≤(wv:Int):=by omega
     have HR2:=Lib.hid (show R=applyGo node epoch (l.drop (j+1)) n D1 by rw [HRC.out];simp [tornE,c1])
     clear c1 HRC
     go_wp2_with fail
     go_roundw
     case rel=>exact ⟨j+1,n,D1,o1,by have:=HJL.out;omega,by have:=HNJ.out;omega,by go_num,by go_num,HD4.out,HT1.out.mono (by omega),HS4.out,HO4.out,HF4.out,HG4.out,HR2.out⟩
     case measure=>have:=HJL.out;simp [intOf];omega
    ·have c1I:¬(x.ver:Int)≤(wv:Int):=by omega
     have HR2:=Lib.hid (show R=if (D1.store node epoch x).1≠0 then ⟨0,(D1.store node epoch x).1,(D1.store node epoch x).2⟩ else applyGo node epoch (l.drop (j+1)) (n+1) (D1.store node epoch x).2 by rw [HRC.out];simp [tornE,c1])
     clear c1 HRC
     go_upto_region 10 with (fail)
     clear v0 v1 v2 u0 u1 u2
     obtain ⟨v0,v1,v2⟩:=HX4.out.1.three
     obtain ⟨h0,h1,h2,h3,h4⟩:=HG4.out.1.five
     go_wp2_with fail
     refine (kstore_any HD4.out node epoch x (by have:=HT1.out.waits;have:=HK.out;have:=HL.out;have:=HJL.out;omega) (by rw [HT1.out.sectors];omega) (by have:=HT1.out.seq;have:=HK.out;have:=HL.out;have:=HJL.out;omega) HXB.out.1 HXB.out.2 HCD.out HF4.out).mono ?_
     rintro r w5 ⟨rfl,o5,hd5,hs5⟩
     have HD5:=Lib.hid hd5
     have HS5:=Lib.hid (HS4.out.trans hs5)
     have HO5:=Lib.hid (HO4.out.step hs5 HCI.out)
     have HF5:=Lib.hid (HF4.out.step hs5)
     have HG5:=Lib.hid (HG4.out.step hs5 HN0.out)
     have HT5:=Lib.hid ((HT1.out.store node epoch x).mono (m:=k+2*(j+1)) (by omega))
     clear hd5 hs5 v0 v1 v2 h0 h1 h2 h3 h4
     obtain ⟨F,hF⟩:∃F,D1.store node epoch x=F:=⟨_,rfl⟩
     rw [hF] at HR2 HD5 HT5 ⊢
     obtain ⟨F,D5⟩:=F
     simp only at HR2 HD5 HT5 ⊢
     clear hF
     by_cases h9:F=0
     ·subst h9
      have HR3:=Lib.hid (show R=applyGo node epoch (l.drop (j+1)) (n+1) D5 by rw [HR2.out];simp)
      have hw:IntKind.i64.wrap ((n:Int)+1)=((n+1:Nat):Int):=by rw [IntWalk.i64_in _ (by have:=HNJ.out;have:=HL.out;have:=HJL.out;omega)];omega
      clear HR2
      go_wp2_with fail
      go_roundw
      case rel=>exact ⟨j+1,n+1,D5,o5,by have:=HJL.out;omega,by have:=HNJ.out;omega,by go_num,by go_num,HD5.out,HT5.out,HS5.out,HO5.out,HF5.out,HG5.out,HR3.out⟩
      case measure=>have:=HJL.out;simp [intOf];omega
     ·have t1:(F != 0)=true:=bne_iff_ne.2 h9
      have HR3:=Lib.hid (show R=⟨0,F,D5⟩ by rw [HR2.out,if_pos h9])
      have HS9:=Lib.hid (show S=⟨0,F,D5⟩ by rw [HAR.out,HR3.out,if_pos h9])
      clear HR2 h9
      go_wp2_with fail
      go_ret2
      exact ⟨by rw [HS9.out];rfl,o5,by rw [HS9.out];exact HD5.out,by rw [HS9.out];exact HT5.out.mono (by have:=HJL.out;omega),HS5.out⟩
   ·by_cases c6:e=6
    ·subst c6
     have HR2:=Lib.hid (show R=if (D1.store node epoch x).1≠0 then ⟨0,(D1.store node epoch x).1,(D1.store node epoch x).2⟩ else applyGo node epoch (l.drop (j+1)) (n+1) (D1.store node epoch x).2 by rw [HRC.out];simp [tornE])
     clear HRC c0
     go_upto_region 10 with (fail)
     clear v0 v1 v2 u0 u1 u2
     obtain ⟨v0,v1,v2⟩:=HX4.out.1.three
     obtain ⟨h0,h1,h2,h3,h4⟩:=HG4.out.1.five
     go_wp2_with fail
     refine (kstore_any HD4.out node epoch x (by have:=HT1.out.waits;have:=HK.out;have:=HL.out;have:=HJL.out;omega) (by rw [HT1.out.sectors];omega) (by have:=HT1.out.seq;have:=HK.out;have:=HL.out;have:=HJL.out;omega) HXB.out.1 HXB.out.2 HCD.out HF4.out).mono ?_
     rintro r w5 ⟨rfl,o5,hd5,hs5⟩
     have HD5:=Lib.hid hd5
     have HS5:=Lib.hid (HS4.out.trans hs5)
     have HO5:=Lib.hid (HO4.out.step hs5 HCI.out)
     have HF5:=Lib.hid (HF4.out.step hs5)
     have HG5:=Lib.hid (HG4.out.step hs5 HN0.out)
     have HT5:=Lib.hid ((HT1.out.store node epoch x).mono (m:=k+2*(j+1)) (by omega))
     clear hd5 hs5 v0 v1 v2 h0 h1 h2 h3 h4
     obtain ⟨F,hF⟩:∃F,D1.store node epoch x=F:=⟨_,rfl⟩
     rw [hF] at HR2 HD5 HT5 ⊢
     obtain ⟨F,D5⟩:=F
     simp only at HR2 HD5 HT5 ⊢
     clear hF
     by_cases h9:F=0
     ·subst h9
      have HR3:=Lib.hid (show R=applyGo node epoch (l.drop (j+1)) (n+1) D5 by rw [HR2.out];simp)
      have hw:IntKind.i64.wrap ((n:Int)+1)=((n+1:Nat):Int):=by rw [IntWalk.i64_in _ (by have:=HNJ.out;have:=HL.out;have:=HJL.out;omega)];omega
      clear HR2
      go_wp2_with fail
      go_roundw
      case rel=>exact ⟨j+1,n+1,D5,o5,by have:=HJL.out;omega,by have:=HNJ.out;omega,by go_num,by go_num,HD5.out,HT5.out,HS5.out,HO5.out,HF5.out,HG5.out,HR3.out⟩
      case measure=>have:=HJL.out;simp [intOf];omega
     ·have t1:(F != 0)=true:=bne_iff_ne.2 h9
      have HR3:=Lib.hid (show R=⟨0,F,D5⟩ by rw [HR2.out,if_pos h9])
      have HS9:=Lib.hid (show S=⟨0,F,D5⟩ by rw [HAR.out,HR3.out,if_pos h9])
      clear HR2 h9
      go_wp2_with fail
      go_ret2
      exact ⟨by rw [HS9.out];rfl,o5,by rw [HS9.out];exact HD5.out,by rw [HS9.out];exact HT5.out.mono (by have:=HJL.out;omega),HS5.out⟩
    ·by_cases c4:e=4
     ·subst c4
      have HR2:=Lib.hid (show R=if (D1.store node epoch x).1≠0 then ⟨0,(D1.store node epoch x).1,(D1.store node epoch x).2⟩ else applyGo node epoch (l.drop (j+1)) (n+1) (D1.store node epoch x).2 by rw [HRC.out];simp [tornE])
      clear HRC c0 c6
      go_upto_region 10 with (fail)
      clear v0 v1 v2 u0 u1 u2
      obtain ⟨v0,v1,v2⟩:=HX4.out.1.three
      obtain ⟨h0,h1,h2,h3,h4⟩:=HG4.out.1.five
      go_wp2_with fail
      refine (kstore_any HD4.out node epoch x (by have:=HT1.out.waits;have:=HK.out;have:=HL.out;have:=HJL.out;omega) (by rw [HT1.out.sectors];omega) (by have:=HT1.out.seq;have:=HK.out;have:=HL.out;have:=HJL.out;omega) HXB.out.1 HXB.out.2 HCD.out HF4.out).mono ?_
      rintro r w5 ⟨rfl,o5,hd5,hs5⟩
      have HD5:=Lib.hid hd5
      have HS5:=Lib.hid (HS4.out.trans hs5)
      have HO5:=Lib.hid (HO4.out.step hs5 HCI.out)
      have HF5:=Lib.hid (HF4.out.step hs5)
      have HG5:=Lib.hid (HG4.out.step hs5 HN0.out)
      have HT5:=Lib.hid ((HT1.out.store node epoch x).mono (m:=k+2*(j+1)) (by omega))
      clear hd5 hs5 v0 v1 v2 h0 h1 h2 h3 h4
      obtain ⟨F,hF⟩:∃F,D1.store node epoch x=F:=⟨_,rfl⟩
      rw [hF] at HR2 HD5 HT5 ⊢
      obtain ⟨F,D5⟩:=F
      simp only at HR2 HD5 HT5 ⊢
      clear hF
      by_cases h9:F=0
      ·subst h9
       have HR3:=Lib.hid (show R=applyGo node epoch (l.drop (j+1)) (n+1) D5 by rw [HR2.out];simp)
       have hw:IntKind.i64.wrap ((n:Int)+1)=((n+1:Nat):Int):=by rw [IntWalk.i64_in _ (by have:=HNJ.out;have:=HL.out;have:=HJL.out;omega)];omega
       clear HR2
       go_wp2_with fail
       go_roundw
       case rel=>exact ⟨j+1,n+1,D5,o5,by have:=HJL.out;omega,by have:=HNJ.out;omega,by go_num,by go_num,HD5.out,HT5.out,HS5.out,HO5.out,HF5.out,HG5.out,HR3.out⟩
       case measure=>have:=HJL.out;simp [intOf];omega
      ·have t1:(F != 0)=true:=bne_iff_ne.2 h9
       have HR3:=Lib.hid (show R=⟨0,F,D5⟩ by rw [HR2.out,if_pos h9])
       have HS9:=Lib.hid (show S=⟨0,F,D5⟩ by rw [HAR.out,HR3.out,if_pos h9])
       clear HR2 h9
       go_wp2_with fail
       go_ret2
       exact ⟨by rw [HS9.out];rfl,o5,by rw [HS9.out];exact HD5.out,by rw [HS9.out];exact HT5.out.mono (by have:=HJL.out;omega),HS5.out⟩
     ·have HR2:=Lib.hid (show R=⟨0,e,D1⟩ by rw [HRC.out];simp [tornE,c0,c6,c4])
      have HS9:=Lib.hid (show S=⟨0,e,D1⟩ by rw [HAR.out,HR2.out,if_pos c0])
      have t0:(e != 0)=true:=bne_iff_ne.2 c0
      have t6:(e == 6)=false:=beq_eq_false_iff_ne.2 c6
      have t4:(e == 4)=false:=beq_eq_false_iff_ne.2 c4
      clear c0 c6 c4 HRC
      go_wp2_with fail
      go_ret2
      exact ⟨by rw [HS9.out];rfl,o1,by rw [HS9.out];exact HD4.out,by rw [HS9.out];exact HT1.out.mono (by have:=HJL.out;omega),HS4.out⟩
  ·have hltI:¬(j:Int)<(l.length:Int):=by omega
   obtain rfl:j=l.length:=by omega
   have HR2:=Lib.hid (show R=⟨n,0,D1⟩ by rw [HR1.out,List.drop_length];rfl)
   clear HR1
   by_cases n0:n=0
   ·subst n0
    have HS9:=Lib.hid (show S=⟨0,0,D1⟩ by rw [HAR.out,HR2.out];simp)
    go_wp2_with fail
    go_ret2
    exact ⟨by rw [HS9.out];rfl,o1,by rw [HS9.out];exact HD1.out,by rw [HS9.out];exact HT1.out,HS1.out⟩
   ·have n0I:(0:Int)<(n:Int):=by omega
    have HS8:=Lib.hid (show S=if (D1.barrier node epoch).1≠0 then ⟨0,(D1.barrier node epoch).1,(D1.barrier node epoch).2⟩ else ⟨n,0,(D1.barrier node epoch).2⟩ by rw [HAR.out,HR2.out];simp [n0])
    clear n0
    go_wp2_with fail
    refine (dbarrier_calm HD1.out node epoch (by have:=HT1.out.waits;have:=HK.out;have:=HL.out;omega)).mono ?_
    rintro r w5 ⟨rfl,o5,hd5,hs5⟩
    have HD5:=Lib.hid hd5
    have HS5:=Lib.hid (HS1.out.trans hs5)
    have HT5:=Lib.hid (HT1.out.barrier node epoch)
    clear hd5 hs5
    obtain ⟨F,hF⟩:∃F,D1.barrier node epoch=F:=⟨_,rfl⟩
    rw [hF] at HS8 HD5 HT5 ⊢
    obtain ⟨F,D5⟩:=F
    simp only at HS8 HD5 HT5 ⊢
    clear hF
    by_cases h9:F=0
    ·subst h9
     have HS9:=Lib.hid (show S=⟨n,0,D5⟩ by rw [HS8.out];simp)
     go_wp2_with fail
     go_ret2
     exact ⟨by rw [HS9.out];rfl,o5,by rw [HS9.out];exact HD5.out,by rw [HS9.out];exact HT5.out,HS5.out⟩
    ·have t1:(F != 0)=true:=bne_iff_ne.2 h9
     have HS9:=Lib.hid (show S=⟨0,F,D5⟩ by rw [HS8.out,if_pos h9])
     clear h9
     go_wp2_with fail
     go_ret2
     exact ⟨by rw [HS9.out];rfl,o5,by rw [HS9.out];exact HD5.out,by rw [HS9.out];exact HT5.out,HS5.out⟩
def GotPost (oo:Nat→Nat) (d:Nat) (w:World) (b:ByteArray) (e:Ending) (w':World):Prop:=∃A cap,e = .returned (.tuple #[.agg #[.int .u64 (getR b).epoch, .int .u64 (getR b).lsn, .slice A (getR b).images.length cap], .int .i64 (getN b:Nat), .int .i64 (getE b)]) ∧
 OwnS (band oo w.heap.size w'.heap.size d) d w' 47 3 (.slice A (getR b).images.length cap) (getR b).images.length (imcells (getR b).images)∧Below w.heap.size w w'
theorem got_bad {oo:Nat→Nat} {d:Nat} {w W:World} {b:ByteArray} {E:Int} (hb:Below w.heap.size w W) (h:getE b=E) (hne:E≠0):GotPost oo d w b (.returned (.tuple #[.agg #[.int .u64 0, .int .u64 0, .slice none 0 0], .int .i64 0, .int .i64 E])) W:=by
 have h1:getR b=Rc.zero:=if_neg (by rw [h];exact hne)
 have h2:getN b=0:=if_neg (by rw [h];exact hne)
 refine ⟨none,0,?_,?_,hb⟩
 ·rw [h1,h2,h]
  rfl
 ·rw [h1]
  exact OwnS.nil _ _ _ _ _
theorem got_ok {oo o':Nat→Nat} {d c N ep ls cap:Nat} {l:List Im} {A:Option Addr} {w W:World} {b:ByteArray} (hb:Below w.heap.size w W) (hR:getR b=⟨ep,ls,l⟩) (hN:getN b=N) (hE:getE b=0) (ho:OwnS o' c W 47 3 (.slice A l.length cap) l.length (imcells l)) (hnew:∀g,(Value.slice A l.length cap).ownBlock=some g→w.heap.size≤g) :
 GotPost oo d w b (.returned (.tuple #[.agg #[.int .u64 ep, .int .u64 ls, .slice A l.length cap], .int .i64 (N:Int), .int .i64 0])) W:=by
 refine ⟨A,cap,?_,?_,hb⟩
 ·rw [hR,hN,hE]
 ·rw [hR]
  exact ⟨ho.1,fun g hg=>band_in (hnew g hg) (ho.lt g hg)⟩
theorem placesE_mono {b:ByteArray} {x:Rc} {c k:Nat} {E:Int} (h:placesE b x c k=E) (hne:E≠0):∀m,k≤m→placesE b x c m=E:=by
 intro m
 induction m with
 | zero =>
   intro hm
   obtain rfl:k=0:=by omega
   exact h
 | succ m ih =>
   intro hm
   by_cases e:k=m+1
   ·subst e
    exact h
   ·have:=ih (by omega)
    unfold placesE
    rw [this,if_pos hne]
theorem placeL_len {b:ByteArray} {k:Nat} (h:(k+1)*64≤b.size):(placeL b k).length=64:=by
 unfold placeL
 show (b.extract (k*64) ((k+1)*64)).size=64
 rw [ByteArray.size_extract]
 omega
theorem placesE_ok {b:ByteArray} {x:Rc} {c k:Nat} (h:placesE b x c (k+1)=0):placesE b x c k=0∧readE (placeL b k)=0:=by
 unfold placesE at h
 split at h
 ·exact absurd h ‹_›
 ·rename_i h1
  split at h
  ·exact absurd h ‹_›
  ·rename_i h2
   exact ⟨Classical.not_not.1 h1,Classical.not_not.1 h2⟩
theorem placesL_succ (b:ByteArray) (k:Nat):placesL b (k+1)=placesL b k++(readL (placeL b k)).drop 18:=by simp [placesL,List.range_succ]
theorem placesL_len {b:ByteArray} {x:Rc} {c:Nat}:∀ {k:Nat},placesE b x c k=0→k*64≤b.size→(placesL b k).length=k*42
 | 0,_,_=>rfl
 | k+1,h,hs=>by
   obtain ⟨h1,h2⟩:=placesE_ok h
   rw [placesL_succ,List.length_append,placesL_len h1 (by omega),List.length_drop,readL_len h2,placeL_len hs]
   omega
theorem getE_first {b:ByteArray} {E:Int} (h:firstE b=E) (hne:E≠0):getE b=E:=by
 unfold getE
 rw [h,if_pos hne]
theorem getE_short {b:ByteArray} (h:firstE b=0) (hs:b.size<secsOf (firstN b)*64):getE b=5:=by
 unfold getE
 rw [if_neg (by rw [h];decide),if_pos hs]
theorem getE_place {b:ByteArray} {E:Int} (h:firstE b=0) (hs:¬b.size<secsOf (firstN b)*64) (hp:placesE b (firstX b) (firstN b) (secsOf (firstN b))=E) (hne:E≠0):getE b=E:=by
 unfold getE
 rw [if_neg (by rw [h];decide),if_neg hs,hp,if_pos hne]
theorem getE_last {b:ByteArray} (h:firstE b=0) (hs:¬b.size<secsOf (firstN b)*64) (hp:placesE b (firstX b) (firstN b) (secsOf (firstN b))=0):getE b=if (getX b).wrongE=0∧(getX b).putS=b.extract 0 (secsOf (firstN b)*64) then 0 else 4:=by
 unfold getE
 rw [if_neg (by rw [h];decide),if_neg hs,hp,if_neg (by decide)]
theorem first_ok {b:ByteArray} (h:firstE b=0):¬firstBad b:=by
 unfold firstE at h
 split at h
 ·omega
 ·split at h
  ·exact absurd h ‹_›
  ·split at h
   ·omega
   ·assumption
theorem secs_le (n:Int):secsOf n≤155:=by
 unfold secsOf
 split <;> omega
theorem secs_ne {n:Nat} (h:secsOf n≠0):1≤n∧n≤60∧108*n≤secsOf n*42:=by
 unfold secsOf at h ⊢
 split at h
 ·exact absurd rfl h
 ·rename_i h1
  rw [if_neg h1]
  omega
theorem imsG_len (t:List UInt8) (n:Nat):(imsG t n).length=n:=by simp [imsG]
theorem imsG_bd {t:List UInt8} {n:Nat} {i:Im} (h:i∈imsG t n):i.data.size≤108∧i.ver<18446744073709551616:=by
 unfold imsG at h
 obtain ⟨k,_,rfl⟩:=List.mem_map.1 h
 refine ⟨?_,numV_lt _ 8 (by omega)⟩
 show (str (List.drop 12 _)).size≤108
 rw [str_size,List.length_drop,List.length_drop,List.length_take]
 omega
set_option maxRecDepth 100000 in
set_option maxHeartbeats 30000000 in
theorem cget_any (oo:Nat→Nat) (d:Nat) (b:ByteArray) (w:World) (hb:b.size≤100000):Calls Tryz.prog 78 #[.string b] w (GotPost oo d w b):=by
 have HB0:=Lib.hid ((Below.refl w.heap.size w).alloc (Nat.le_refl _) (.cells #[.int .u64 0, .int .u64 0, .slice none 0 0] 160))
 have HZ0:=Lib.hid (Blk.new w 160 #[.int .u64 0, .int .u64 0, .slice none 0 0])
 have HBS:=Lib.hid (show b.size≤1000000000 by omega)
 have HBM:=Lib.hid hb
 clear hb
 go_enter Tryz.func78,Tryz.ntmps78
 go_wp2_with fail
 generalize w.alloc (.cells #[.int .u64 0, .int .u64 0, .slice none 0 0] 160)=W at HB0 HZ0 ⊢
 refine (cfirst_any b W HBS.out).mono ?_
 rintro e w1 ⟨rfl,hb1⟩
 obtain ⟨E,hE⟩:∃E,firstE b=E:=⟨_,rfl⟩
 obtain ⟨ep,hep⟩:∃a,(firstRx b).epoch=a:=⟨_,rfl⟩
 obtain ⟨ls,hls⟩:∃a,(firstRx b).lsn=a:=⟨_,rfl⟩
 obtain ⟨n,hn⟩:∃a,firstNn b=a:=⟨_,rfl⟩
 rw [hep,hls,hn,hE]
 have HB1:=Lib.hid ((HB0.out.trans (hb1.mono HB0.out.size)).alloc (Nat.le_trans HB0.out.size hb1.size) (.cells #[.int .u64 (ep:Int), .int .u64 (ls:Int), .slice none 0 0] 160))
 have HZ1:=Lib.hid ((HZ0.out.below_ hb1).alloc (.cells #[.int .u64 (ep:Int), .int .u64 (ls:Int), .slice none 0 0] 160))
 have HX1:=Lib.hid (Blk.new w1 160 #[.int .u64 (ep:Int), .int .u64 (ls:Int), .slice none 0 0])
 have HGX:=Lib.hid (show w.heap.size≠w1.heap.size from Nat.ne_of_lt (HZ0.out.below_ hb1).lt)
 have HGW:=Lib.hid (show w.heap.size≤w1.heap.size from Nat.le_trans HB0.out.size hb1.size)
 clear hb1
 by_cases h0:E=0
 ·subst h0
  have HFE:=Lib.hid hE
  have hnb:=first_ok hE
  have hfx:firstX b=⟨ep,ls,[]⟩:=by
   have h1:firstRx b=firstX b:=if_pos hE
   rw [h1] at hep hls
   rw [←hep,←hls]
   rfl
  have hfn:firstN b=n:=by
   have h1:firstNn b=firstN b:=if_pos hE
   rw [←h1]
   exact hn
  have hepl:ep<18446744073709551616:=by
   have:(firstX b).epoch=ep:=by rw [hfx]
   rw [←this]
   exact numV_lt _ 8 (by omega)
  have hlsl:ls<18446744073709551616:=by
   have:(firstX b).lsn=ls:=by rw [hfx]
   rw [←this]
   exact numV_lt _ 8 (by omega)
  have hsn:secsOf n≠0:=fun h=>hnb (.inr (.inr (.inr (by rw [hfn];exact h))))
  obtain ⟨n1,n2,n3⟩:=secs_ne hsn
  have HEP:=Lib.hid hepl
  have HLS:=Lib.hid hlsl
  have HFX:=Lib.hid hfx
  have HFN:=Lib.hid hfn
  have HGX2:=Lib.hid (show getX b=⟨ep,ls,imsG (placesL b (secsOf (firstN b))) (firstN b)⟩ by unfold getX;rw [hfx])
  clear hE hep hls hn hnb hfx hfn hepl hlsl hsn
  go_wp2_with fail
  generalize w1.alloc (.cells #[.int .u64 (ep:Int), .int .u64 (ls:Int), .slice none 0 0] 160)=W1 at HB1 HZ1 HX1 ⊢
  generalize w1.heap.size=gX at HX1 HGX HGW ⊢
  refine (secs_any (n:Int) W1).mono ?_
  rintro e w2 ⟨rfl,rfl⟩
  obtain ⟨q,hq⟩:∃q,secsOf (n:Int)=q:=⟨_,rfl⟩
  have hq1:q≤155:=by rw [←hq];exact secs_le _
  have HQ:=Lib.hid (show secsOf (firstN b)=q by rw [HFN.out];exact hq)
  have HQN:=Lib.hid hq
  rw [hq] at n3 ⊢
  clear hq
  obtain ⟨qq,hqq⟩:∃qq,q*64=qq:=⟨_,rfl⟩
  have e0:(q:Int)*64=(qq:Int):=by omega
  have HQQ:=Lib.hid hqq
  clear hqq
  by_cases hsh:b.size<qq
  ·have HE:=Lib.hid (getE_short HFE.out (by rw [HQ.out,HQQ.out];exact hsh))
   have hshI:(b.size:Int)<(qq:Int):=by omega
   obtain ⟨y0,y1,y2⟩:=HZ1.out.three
   have f0:=HZ1.out.frozen 0
   have f1:=HZ1.out.frozen 1
   have f2:=HZ1.out.frozen 2
   have HB3:=Lib.hid (below_put3 HB1.out (Nat.le_refl _) (.int .u64 0) (.int .u64 0) (.slice none 0 0))
   have HZ3:=Lib.hid (HZ1.out.put3 (.int .u64 0) (.int .u64 0) (.slice none 0 0))
   clear hsh
   go_wp2_with fail
   clear y0 y1 y2 f0 f1 f2
   generalize ((W1.setCell ⟨w.heap.size,0,none⟩ (.int .u64 0)).setCell ⟨w.heap.size,1,none⟩ (.int .u64 0)).setCell ⟨w.heap.size,2,none⟩ (.slice none 0 0)=WE at HZ3 HB3 ⊢
   obtain ⟨q0,q1,q2⟩:=HZ3.out.three
   exact bodyPost_ret (v := .tuple #[.agg #[.int .u64 0, .int .u64 0, .slice none 0 0], .int .i64 0, .int .i64 5]) (by simp [results,Tryz.results78,go_sem,q0,q1,q2]) rfl (got_bad HB3.out HE.out (by decide))
  ·have hshI:¬(b.size:Int)<(qq:Int):=by omega
   have hqb:q*64≤b.size:=by have:=HQQ.out;omega
   have HSH:=Lib.hid (show ¬b.size<secsOf (firstN b)*64 by rw [HQ.out,HQQ.out];exact hsh)
   have hq0:0<q:=by omega
   have hdb:decide (b.size<qq)=false:=decide_eq_false hsh
   clear hsh
   go_wp2_with fail
   go_loopw [9,34] (fun t9 t34 wr=>∃k:Nat,k≤q∧t34 = .int .i64 k∧t9 = .string (str (placesL b k))∧Hid (placesE b (firstX b) (firstN b) k=0)∧Below w.heap.size w wr∧Blk wr w.heap.size 160 #[.int .u64 0, .int .u64 0, .slice none 0 0]∧Blk wr gX 160 #[.int .u64 (ep:Int), .int .u64 (ls:Int), .slice none 0 0]) (fun _ t34 _=>q - (intOf t34).toNat)
   case atStart=>exact ⟨0,by omega,rfl,rfl,Lib.hid rfl,HB1.out,HZ1.out,HX1.out⟩
   case round =>
    obtain ⟨k,hk,rfl,rfl,HPK,hbr,hzr,hxr⟩:=hrel
    have HBr:=Lib.hid hbr
    have HZr:=Lib.hid hzr
    have HXr:=Lib.hid hxr
    clear hbr hzr hxr
    by_cases hlt:k<q
    ·have hltI:(k:Int)<(q:Int):=by omega
     obtain ⟨lo,hlo⟩:∃lo,k*64=lo:=⟨_,rfl⟩
     obtain ⟨hi,hhi⟩:∃hi,(k+1)*64=hi:=⟨_,rfl⟩
     have hle:hi≤b.size:=by have:=Nat.mul_le_mul_right 64 (show k+1≤q from hlt);omega
     have e1:(k:Int)*64=(lo:Int):=by omega
     have e2:((k:Int)+1)*64=(hi:Int):=by omega
     have b0:(0:Int)≤(lo:Int):=by omega
     have b1:(lo:Int)≤(hi:Int):=by omega
     have b2:(hi:Int)≤(b.size:Int):=by omega
     have HPL:=Lib.hid (show placeL b k=(b.extract lo hi).data.toList by unfold placeL;rw [hlo,hhi])
     have hsz:(b.extract lo hi).size=64:=by rw [ByteArray.size_extract];omega
     have HSZ:=Lib.hid (show (b.extract lo hi).size≤1000000000 by omega)
     have HSL:=Lib.hid (show (b.extract lo hi).data.toList.length=64 from hsz)
     have HPS:=Lib.hid (show placesE b (firstX b) (firstN b) (k+1)=if readE (placeL b k)≠0 then readE (placeL b k) else if (readL (placeL b k)).take 18=le ep 8++(le ls 8++(le k 1++le n 1)) then 0 else 4 by
      show (if placesE b (firstX b) (firstN b) k≠0 then _ else _)=_
      rw [if_neg (by rw [HPK.out];decide),HFX.out,HFN.out])
     have HPM:=Lib.hid (fun (E:Int) (h:placesE b (firstX b) (firstN b) (k+1)=E) (hne:E≠0)=>getE_place HFE.out HSH.out (placesE_mono h hne (secsOf (firstN b)) (by rw [HQ.out];omega)) hne)
     have HLN:=Lib.hid (show (placesL b k).length=k*42 from placesL_len HPK.out (by omega))
     have HLS2:=Lib.hid (placesL_succ b k)
     clear hlo hhi hle hsz
     go_wp2_with fail
     refine (sread_any (b.extract lo hi) HSZ.out wr).mono ?_
     rintro e w3 ⟨rfl,hb3⟩
     have HB3:=Lib.hid (HBr.out.trans (hb3.mono HBr.out.size))
     have HZ3:=Lib.hid (HZr.out.below_ hb3)
     have HX3:=Lib.hid (HXr.out.below_ hb3)
     clear hb3
     rw [HPL.out] at HPS HLS2
     obtain ⟨F,hF⟩:∃F,readE (b.extract lo hi).data.toList=F:=⟨_,rfl⟩
     have HRL:=Lib.hid (fun (h:readE (b.extract lo hi).data.toList=0)=>readL_len h)
     rw [hF] at HPS HRL ⊢
     clear hF
     by_cases h1:F=0
     ·subst h1
      have ht:=HRL.out rfl
      rw [HSL.out] at ht
      generalize readL (b.extract lo hi).data.toList=t at ht HPS HLS2 ⊢
      have s18:(18:Int)≤((str t).size:Int):=by rw [str_size,ht];omega
      have hx18:(str t).extract 0 18=str (t.take 18):=by rw [extract_str,List.drop_zero]
      have hr18:(str t).extract 18 (str t).size=str (t.drop 18):=rest_str t 18
      have hdl:(t.drop 18).length=42:=by rw [List.length_drop,ht]
      obtain ⟨S,hS⟩:∃S,str t=S:=⟨_,rfl⟩
      obtain ⟨L0,hL0⟩:∃L,str (t.take 18)=L:=⟨_,rfl⟩
      obtain ⟨D0,hD0⟩:∃L,str (t.drop 18)=L:=⟨_,rfl⟩
      obtain ⟨LB,hLB⟩:∃L,str (le ep 8++(le ls 8++(le k 1++le n 1)))=L:=⟨_,rfl⟩
      rw [hS] at s18 hx18 hr18 ⊢
      rw [hL0] at hx18
      rw [hD0] at hr18
      have HLB:=Lib.hid hLB
      have HL0:=Lib.hid hL0
      have HD0:=Lib.hid hD0
      have HKL:=Lib.hid (show k<256 by omega)
      have HNL:=Lib.hid (show n<256 by omega)
      have hds:D0.size=42:=by rw [←hD0,str_size,hdl]
      have hcat:¬9223372036854775807<(str (placesL b k)).size+D0.size:=by rw [str_size,HLN.out,hds];omega
      have HCC:=Lib.hid (show str (placesL b k)++D0=str (placesL b (k+1)) by rw [←hD0,str_append,HLS2.out])
      clear hS hL0 hD0 hLB hds hdl ht
      go_upto_region 14 with (fail)
      obtain ⟨x0,x1,x2⟩:=HX3.out.drew.three
      go_region_held3 (fun w'=>w'.cell? ⟨gX,0,none⟩=some (.int .u64 (ep:Int))∧w'.cell? ⟨gX,1,none⟩=some (.int .u64 (ls:Int))∧w'.cell? ⟨gX,2,none⟩=some (.slice none 0 0))
       (first | exact ⟨x0,x1,x2⟩ | exact hk4.three | go_keep)
       (first | (go_at_call 149;((with_reducible refine (clabel_any ep ls k n none 0 0 _ HEP.out HLS.out HKL.out HNL.out).mono ?_);rintro e4 w4 ⟨rfl,hb4⟩;rw [HLB.out];have hk4:=HX3.out.drew.below_ hb4)))
      have HB4:=Lib.hid (HB3.out.trans ((below_of_drew hb4).mono HB3.out.size))
      have HZ4:=Lib.hid (HZ3.out.below_ (below_of_drew hb4))
      have HX4:=Lib.hid hk4
      clear hb4 hk4 x0 x1 x2
      by_cases heq:t.take 18=le ep 8++(le ls 8++(le k 1++le n 1))
      ·have HP2:=Lib.hid (show placesE b (firstX b) (firstN b) (k+1)=0 by rw [HPS.out,if_neg (by decide),if_pos heq])
       have hLL:L0=LB:=by rw [←HL0.out,←HLB.out,heq]
       rw [hLL,beq_self_eq_true LB.toList]
       clear heq hLL
       go_wp2_with fail
       go_roundw
       case rel=>exact ⟨k+1,by omega,by go_num,by rw [←HCC.out],HP2,HB4.out,HZ4.out,HX4.out⟩
       case measure=>simp [intOf];omega
      ·have HE:=Lib.hid (HPM.out 4 (by rw [HPS.out,if_neg (by decide),if_neg heq]) (by decide))
       have hLL:L0≠LB:=fun e=>heq (str_inj (by rw [HL0.out,HLB.out,e]))
       rw [str_neq hLL]
       obtain ⟨y0,y1,y2⟩:=HZ4.out.three
       have f0:=HZ4.out.frozen 0
       have f1:=HZ4.out.frozen 1
       have f2:=HZ4.out.frozen 2
       have HB5:=Lib.hid (below_put3 HB4.out (Nat.le_refl _) (.int .u64 0) (.int .u64 0) (.slice none 0 0))
       have HZ5:=Lib.hid (HZ4.out.put3 (.int .u64 0) (.int .u64 0) (.slice none 0 0))
       clear heq hLL
       go_wp2_with fail
       clear y0 y1 y2 f0 f1 f2
       generalize ((w4.setCell ⟨w.heap.size,0,none⟩ (.int .u64 0)).setCell ⟨w.heap.size,1,none⟩ (.int .u64 0)).setCell ⟨w.heap.size,2,none⟩ (.slice none 0 0)=WE at HZ5 HB5 ⊢
       obtain ⟨q0,q1,q2⟩:=HZ5.out.three
       exact bodyPost_ret (v := .tuple #[.agg #[.int .u64 0, .int .u64 0, .slice none 0 0], .int .i64 0, .int .i64 4]) (by simp [results,Tryz.results78,go_sem,q0,q1,q2]) rfl (got_bad HB5.out HE.out (by decide))
     ·have t1:(F != 0)=true:=bne_iff_ne.2 h1
      have HE:=Lib.hid (HPM.out F (by rw [HPS.out,if_pos h1]) h1)
      have HFN2:=Lib.hid h1
      generalize str (readL (b.extract lo hi).data.toList)=S
      obtain ⟨y0,y1,y2⟩:=HZ3.out.three
      have f0:=HZ3.out.frozen 0
      have f1:=HZ3.out.frozen 1
      have f2:=HZ3.out.frozen 2
      have HB5:=Lib.hid (below_put3 HB3.out (Nat.le_refl _) (.int .u64 0) (.int .u64 0) (.slice none 0 0))
      have HZ5:=Lib.hid (HZ3.out.put3 (.int .u64 0) (.int .u64 0) (.slice none 0 0))
      clear h1
      go_wp2_with fail
      clear y0 y1 y2 f0 f1 f2
      generalize ((w3.setCell ⟨w.heap.size,0,none⟩ (.int .u64 0)).setCell ⟨w.heap.size,1,none⟩ (.int .u64 0)).setCell ⟨w.heap.size,2,none⟩ (.slice none 0 0)=WE at HZ5 HB5 ⊢
      obtain ⟨q0,q1,q2⟩:=HZ5.out.three
      exact bodyPost_ret (v := .tuple #[.agg #[.int .u64 0, .int .u64 0, .slice none 0 0], .int .i64 0, .int .i64 F]) (by simp [results,Tryz.results78,go_sem,q0,q1,q2]) rfl (got_bad HB5.out HE.out HFN2.out)
    ·have hltI:¬(k:Int)<(q:Int):=by omega
     obtain rfl:k=q:=by omega
     have hpl:(placesL b k).length=k*42:=placesL_len HPK.out hqb
     have HPLN:=Lib.hid hpl
     have HEL:=Lib.hid (getE_last HFE.out HSH.out (by rw [HQ.out];exact HPK.out))
     have hqI:(0:Int)≤(qq:Int):=by omega
     have hqI2:(qq:Int)≤(b.size:Int):=by have:=HQQ.out;omega
     clear hpl
     go_wp2_with fail
     refine (cimages_any (fun _=>0) 2 (placesL b k) n wr n2 (by have:=HPLN.out;omega) (by have:=HPLN.out;omega)).mono ?_
     rintro e w3 ⟨A,cap,rfl,hown,hb3⟩
     rw [HFN.out,HQN.out] at HGX2
     obtain ⟨l,hl⟩:∃l,imsG (placesL b k) n=l:=⟨_,rfl⟩
     have hll:l.length=n:=by rw [←hl];exact imsG_len _ _
     have HLB:=Lib.hid (fun i (hi:i∈l)=>imsG_bd (t:=placesL b k) (n:=n) (i:=i) (by rw [hl];exact hi))
     rw [hl] at hown HGX2
     have HLL:=Lib.hid hll
     have HNEW:=Lib.hid (show ∀g,(Value.slice A n cap).ownBlock=some g→w.heap.size≤g from fun g hg=>by
      have h1:=hown.2 g hg
      have h2:=HBr.out.size
      rcases Nat.lt_or_ge g wr.heap.size with h3 | h3
      ·rw [band_lt h3] at h1
       omega
      ·omega)
     obtain ⟨_,_,hsv,hcp1,hcp2⟩:=own_form' hown
     injection hsv with hsa _ hsc
     subst hsa
     subst hsc
     have hbx:=(HXr.out.below_ hb3)
     have x2:=hbx.cell 2
     have fx2:=hbx.frozen 2
     try simp at x2
     have x0':=hbx.cell 0
     have x1':=hbx.cell 1
     simp at x0' x1'
     have HX4:=Lib.hid (hbx.set_ 2 (.slice A n cap))
     have HO4:=Lib.hid (hown.setCell (p:=⟨gX,2,none⟩) (own_blk_ne hown hbx (by decide)) (.slice A n cap))
     have HB4:=Lib.hid ((HBr.out.trans (hb3.mono HBr.out.size)).setCell (p:=⟨gX,2,none⟩) HGW.out (.slice A n cap))
     have HZ4:=Lib.hid ((HZr.out.below_ hb3).far (p:=⟨gX,2,none⟩) HGX.out (.slice A n cap))
     have HCP:=Lib.hid hcp1
     have HCM:=Lib.hid hcp2
     clear hl hll hown hb3 hbx hcp1 hcp2
     go_wp2_with fail
     clear x2 fx2 x0' x1'
     obtain rfl:=HLL.out
     generalize w3.setCell ⟨gX,2,none⟩ (.slice A l.length cap)=W5 at HX4 HO4 HB4 HZ4 ⊢
     have HEL2:=Lib.hid (show getE b=if Rc.wrongE ⟨ep,ls,l⟩=0∧Rc.putS ⟨ep,ls,l⟩=b.extract 0 qq then 0 else 4 by rw [HEL.out,HGX2.out,HQ.out,HQQ.out])
     refine (cput_any ⟨ep,ls,l⟩ W5 A cap (Reads.of_own HO4.out.1) (by simp only;omega) HCP.out HCM.out (fun i hi=>by have:=(HLB.out i hi).1;unfold maxLen;omega) (fun i hi=>(HLB.out i hi).2) HEP.out HLS.out).mono ?_
     rintro e w6 ⟨rfl,hb6⟩
     have HB6:=Lib.hid (HB4.out.trans (hb6.mono HB4.out.size))
     have HZ6:=Lib.hid (HZ4.out.below_ hb6)
     have HX6:=Lib.hid (HX4.out.below_ hb6)
     have HO6:=Lib.hid (HO4.out.below_ hb6)
     clear hb6
     obtain ⟨X,hX⟩:∃X:Rc,X=⟨ep,ls,l⟩:=⟨_,rfl⟩
     rw [←hX] at HEL2 HGX2 ⊢
     have HXX:=Lib.hid hX
     clear hX
     obtain ⟨x0,x1,x2⟩:=HX6.out.three
     try simp at x2
     obtain ⟨F,hF⟩:∃F,X.wrongE=F:=⟨_,rfl⟩
     rw [hF] at HEL2 ⊢
     clear hF
     generalize X.putS=PS at HEL2 ⊢
     by_cases h1:F=0
     ·subst h1
      obtain ⟨C,hC⟩:∃C,b.extract 0 qq=C:=⟨_,rfl⟩
      rw [hC] at HEL2
      by_cases hpc:PS=C
      ·subst hpc
       have HE:=Lib.hid (show getE b=0 by rw [HEL2.out,if_pos ⟨rfl,rfl⟩])
       have HR:=Lib.hid (show getR b=⟨ep,ls,l⟩ by unfold getR;rw [if_pos HE.out,HGX2.out,HXX.out])
       have HNN:=Lib.hid (show getN b=k by unfold getN;rw [if_pos HE.out,HQ.out])
       have t2:(PS.toList == PS.toList)=true:=beq_self_eq_true _
       obtain ⟨y0,y1,y2⟩:=HZ6.out.three
       have f0:=HZ6.out.frozen 0
       have f1:=HZ6.out.frozen 1
       have f2:=HZ6.out.frozen 2
       have hne:=own_blk_ne HO6.out HZ6.out (by decide)
       have HBE:=Lib.hid (below_put3 HB6.out (Nat.le_refl _) (.int .u64 (ep:Int)) (.int .u64 (ls:Int)) (.slice A l.length cap))
       have HZE:=Lib.hid (HZ6.out.put3 (.int .u64 (ep:Int)) (.int .u64 (ls:Int)) (.slice A l.length cap))
       have HOE:=Lib.hid (((HO6.out.setCell (p:=⟨w.heap.size,0,none⟩) hne (.int .u64 (ep:Int))).setCell (p:=⟨w.heap.size,1,none⟩) hne (.int .u64 (ls:Int))).setCell (p:=⟨w.heap.size,2,none⟩) hne (.slice A l.length cap))
       clear hne
       go_wp2_with fail
       clear y0 y1 y2 f0 f1 f2 x0 x1 x2 t2 hC
       generalize ((w6.setCell ⟨w.heap.size,0,none⟩ (.int .u64 (ep:Int))).setCell ⟨w.heap.size,1,none⟩ (.int .u64 (ls:Int))).setCell ⟨w.heap.size,2,none⟩ (.slice A l.length cap)=WE at HZE HBE HOE ⊢
       obtain ⟨q0,q1,q2⟩:=HZE.out.three
       exact bodyPost_ret (v := .tuple #[.agg #[.int .u64 (ep:Int), .int .u64 (ls:Int), .slice A l.length cap], .int .i64 (k:Int), .int .i64 0]) (by simp [results,Tryz.results78,go_sem,q0,q1,q2]) rfl (got_ok HBE.out HR.out HNN.out HE.out HOE.out HNEW.out)
      ·have HE:=Lib.hid (show getE b=4 by rw [HEL2.out,if_neg (fun h=>hpc h.2)])
       have t2:=str_neq hpc
       clear hpc
       obtain ⟨y0,y1,y2⟩:=HZ6.out.three
       have f0:=HZ6.out.frozen 0
       have f1:=HZ6.out.frozen 1
       have f2:=HZ6.out.frozen 2
       have HBE:=Lib.hid (below_put3 HB6.out (Nat.le_refl _) (.int .u64 0) (.int .u64 0) (.slice none 0 0))
       have HZE:=Lib.hid (HZ6.out.put3 (.int .u64 0) (.int .u64 0) (.slice none 0 0))
       go_wp2_with fail
       clear y0 y1 y2 f0 f1 f2
       generalize ((w6.setCell ⟨w.heap.size,0,none⟩ (.int .u64 0)).setCell ⟨w.heap.size,1,none⟩ (.int .u64 0)).setCell ⟨w.heap.size,2,none⟩ (.slice none 0 0)=WE at HZE HBE ⊢
       obtain ⟨q0,q1,q2⟩:=HZE.out.three
       exact bodyPost_ret (v := .tuple #[.agg #[.int .u64 0, .int .u64 0, .slice none 0 0], .int .i64 0, .int .i64 4]) (by simp [results,Tryz.results78,go_sem,q0,q1,q2]) rfl (got_bad HBE.out HE.out (by decide))
     ·have HE:=Lib.hid (show getE b=4 by rw [HEL2.out,if_neg (fun h=>h1 h.1)])
      have t1:(F != 0)=true:=bne_iff_ne.2 h1
      clear h1
      obtain ⟨y0,y1,y2⟩:=HZ6.out.three
      have f0:=HZ6.out.frozen 0
      have f1:=HZ6.out.frozen 1
      have f2:=HZ6.out.frozen 2
      have HBE:=Lib.hid (below_put3 HB6.out (Nat.le_refl _) (.int .u64 0) (.int .u64 0) (.slice none 0 0))
      have HZE:=Lib.hid (HZ6.out.put3 (.int .u64 0) (.int .u64 0) (.slice none 0 0))
      go_wp2_with fail
      clear y0 y1 y2 f0 f1 f2
      generalize ((w6.setCell ⟨w.heap.size,0,none⟩ (.int .u64 0)).setCell ⟨w.heap.size,1,none⟩ (.int .u64 0)).setCell ⟨w.heap.size,2,none⟩ (.slice none 0 0)=WE at HZE HBE ⊢
      obtain ⟨q0,q1,q2⟩:=HZE.out.three
      exact bodyPost_ret (v := .tuple #[.agg #[.int .u64 0, .int .u64 0, .slice none 0 0], .int .i64 0, .int .i64 4]) (by simp [results,Tryz.results78,go_sem,q0,q1,q2]) rfl (got_bad HBE.out HE.out (by decide))
 ·have HE:=Lib.hid (getE_first hE h0)
  have t1:(E != 0)=true:=bne_iff_ne.2 h0
  have HN0:=Lib.hid h0
  obtain ⟨y0,y1,y2⟩:=HZ1.out.three
  have f0:=HZ1.out.frozen 0
  have f1:=HZ1.out.frozen 1
  have f2:=HZ1.out.frozen 2
  have HB5:=Lib.hid (below_put3 HB1.out (Nat.le_refl _) (.int .u64 0) (.int .u64 0) (.slice none 0 0))
  have HZ5:=Lib.hid (HZ1.out.put3 (.int .u64 0) (.int .u64 0) (.slice none 0 0))
  clear h0 hE hep hls hn
  go_wp2_with fail
  clear y0 y1 y2 f0 f1 f2
  generalize (((w1.alloc (.cells #[.int .u64 (ep:Int), .int .u64 (ls:Int), .slice none 0 0] 160)).setCell ⟨w.heap.size,0,none⟩ (.int .u64 0)).setCell ⟨w.heap.size,1,none⟩ (.int .u64 0)).setCell ⟨w.heap.size,2,none⟩ (.slice none 0 0)=WE at HZ5 HB5 ⊢
  obtain ⟨q0,q1,q2⟩:=HZ5.out.three
  exact bodyPost_ret (v := .tuple #[.agg #[.int .u64 0, .int .u64 0, .slice none 0 0], .int .i64 0, .int .i64 E]) (by simp [results,Tryz.results78,go_sem,q0,q1,q2]) rfl (got_bad HB5.out HE.out HN0.out)
end Go.Proofs.YtldoeodkeieejaaGreatDoor
