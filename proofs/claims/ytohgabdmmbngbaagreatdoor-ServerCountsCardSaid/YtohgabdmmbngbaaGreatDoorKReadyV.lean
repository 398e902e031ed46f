import Derived.Test.YtohgabdmmbngbaaGreatDoorKRefG
import Derived.Test.YtohgabdmmbngbaaGreatDoorKBlkD
set_option linter.unusedVariables false
set_option linter.unusedSimpArgs false
namespace Go.Proofs.YtohgabdmmbngbaaGreatDoor
open Go.RowKit
theorem marked_cell {W:World} {g:Nat} {C:Array Value} {t:TypeId} {fr:Nat×Nat} (h:W.heap[g]? = some (.cells C t fr)) {xs:List Value} (hx:C.toList=xs):∀j u,xs[j]? = some u→W.cell? ((⟨g,0,none⟩:Addr).add j)=some u:=by
 intro j u hj
 have e:(⟨g,0,none⟩:Addr).add j=⟨g,j,none⟩:=by unfold Addr.add;split <;> simp_all
 rw [e,←hj,←hx,Array.getElem?_toList]
 unfold World.cell?
 simp [h]
theorem put_start {w w1:World} {g:Nat} (hb:Below w.heap.size w w1) (hk:Blk w1 g 25 #[.int .i64 3, .int .i64 12, .int .i64 12, .int .i64 6, .int .i64 32]):∃o,Blk ((w1.alloc (.cells #[.int .u8 67, .int .u8 79, .int .u8 77, .int .u8 77, .int .u8 79, .int .u8 78, .int .u8 83, .int .u8 49] 5 (8,9))).alloc (.cells #[.slice (some ⟨w1.heap.size,0,none⟩) 8 8, .int .i64 0] 182)) (w1.heap.size+1) 182 #[.slice (some ⟨w1.heap.size,0,none⟩) 8 8, .int .i64 0]∧o (w1.heap.size+1)=1∧w1.heap.size<((w1.alloc (.cells #[.int .u8 67, .int .u8 79, .int .u8 77, .int .u8 77, .int .u8 79, .int .u8 78, .int .u8 83, .int .u8 49] 5 (8,9))).alloc (.cells #[.slice (some ⟨w1.heap.size,0,none⟩) 8 8, .int .i64 0] 182)).heap.size∧o w1.heap.size≠1∧(∀j u,(bvs bs8)[j]? = some u→((w1.alloc (.cells #[.int .u8 67, .int .u8 79, .int .u8 77, .int .u8 77, .int .u8 79, .int .u8 78, .int .u8 83, .int .u8 49] 5 (8,9))).alloc (.cells #[.slice (some ⟨w1.heap.size,0,none⟩) 8 8, .int .i64 0] 182)).cell? ((⟨w1.heap.size,0,none⟩:Addr).add j)=some u)∧Env o w ((w1.alloc (.cells #[.int .u8 67, .int .u8 79, .int .u8 77, .int .u8 77, .int .u8 79, .int .u8 78, .int .u8 83, .int .u8 49] 5 (8,9))).alloc (.cells #[.slice (some ⟨w1.heap.size,0,none⟩) 8 8, .int .i64 0] 182))∧Fut o ((w1.alloc (.cells #[.int .u8 67, .int .u8 79, .int .u8 77, .int .u8 77, .int .u8 79, .int .u8 78, .int .u8 83, .int .u8 49] 5 (8,9))).alloc (.cells #[.slice (some ⟨w1.heap.size,0,none⟩) 8 8, .int .i64 0] 182))∧Keep o ((w1.alloc (.cells #[.int .u8 67, .int .u8 79, .int .u8 77, .int .u8 77, .int .u8 79, .int .u8 78, .int .u8 83, .int .u8 49] 5 (8,9))).alloc (.cells #[.slice (some ⟨w1.heap.size,0,none⟩) 8 8, .int .i64 0] 182)) g 25 #[.int .i64 3, .int .i64 12, .int .i64 12, .int .i64 6, .int .i64 32]:=by
 have z1:(w1.alloc (.cells #[.int .u8 67, .int .u8 79, .int .u8 77, .int .u8 77, .int .u8 79, .int .u8 78, .int .u8 83, .int .u8 49] 5 (8,9))).heap.size=w1.heap.size+1:=by simp
 obtain ⟨o2,h2,s2⟩:=alloc_as (fun _=>0) w1 (.cells #[.int .u8 67, .int .u8 79, .int .u8 77, .int .u8 77, .int .u8 79, .int .u8 78, .int .u8 83, .int .u8 49] 5 (8,9)) 0
 obtain ⟨o3,h3,s3⟩:=alloc_as o2 (w1.alloc (.cells #[.int .u8 67, .int .u8 79, .int .u8 77, .int .u8 77, .int .u8 79, .int .u8 78, .int .u8 83, .int .u8 49] 5 (8,9))) (.cells #[.slice (some ⟨w1.heap.size,0,none⟩) 8 8, .int .i64 0] 182) 1
 have s:=s2.trans s3
 have b2:=Blk.new (w1.alloc (.cells #[.int .u8 67, .int .u8 79, .int .u8 77, .int .u8 77, .int .u8 79, .int .u8 78, .int .u8 83, .int .u8 49] 5 (8,9))) 182 #[.slice (some ⟨w1.heap.size,0,none⟩) 8 8, .int .i64 0]
 rw [z1] at h3 b2
 have c1:o3 w1.heap.size=0:=(s3.old _ (by rw [z1];omega)).trans h2
 have hg:((w1.alloc (.cells #[.int .u8 67, .int .u8 79, .int .u8 77, .int .u8 77, .int .u8 79, .int .u8 78, .int .u8 83, .int .u8 49] 5 (8,9))).alloc (.cells #[.slice (some ⟨w1.heap.size,0,none⟩) 8 8, .int .i64 0] 182)).heap[w1.heap.size]? = some (.cells #[.int .u8 67, .int .u8 79, .int .u8 77, .int .u8 77, .int .u8 79, .int .u8 78, .int .u8 83, .int .u8 49] 5 (8,9)):=(Below.heap_alloc _ _ _ (by rw [z1];omega)).trans (heap_alloc_new w1 _)
 exact ⟨o3,b2,h3,by simp;omega,by rw [c1];decide,marked_cell hg rfl,((Env.start w).below_ hb).step s id,(show Fut (fun _=>0) w1 from fun _ _=>rfl).step s,hk.step s id,s.old g hk.lt⟩
theorem bs_add (k:Nat):(bs8++preP k)++le (shp k) (Int.toNat 4)=bs8++preP (k+1):=by
 rw [List.append_assoc]
 rfl
theorem bs_len (k:Nat) (h:k≤5):(bs8++preP k).length≤1000000000:=by
 rw [List.length_append,preP_len]
 show 8+4*k≤_
 omega
theorem shp_ok (k:Nat):numOk (shp k) 4:=by
 have:=shp_le k
 unfold numOk
 refine ⟨by omega,by omega,?_⟩
 show shp k<4294967296
 omega
set_option maxRecDepth 100000 in
set_option maxHeartbeats 4000000 in
theorem refputshape_any (w:World):Calls Tryz.prog 66 #[.agg #[.int .i64 3, .int .i64 12, .int .i64 12, .int .i64 6, .int .i64 32]] w fun e w'=>e = .returned (.tuple #[.string (str superL), .int .i64 0])∧Below w.heap.size w w':=by
 have HB:=Lib.hid ((Below.refl w.heap.size w).alloc (Nat.le_refl _) (.cells #[.int .i64 3, .int .i64 12, .int .i64 12, .int .i64 6, .int .i64 32] 25))
 have HK:=Lib.hid (Blk.new w 25 #[.int .i64 3, .int .i64 12, .int .i64 12, .int .i64 6, .int .i64 32])
 go_enter Tryz.func66,Tryz.ntmps66
 obtain ⟨x0,x1,x2,x3,x4⟩:=HK.out.five
 go_wp2_with fail
 refine (refvalid_any _).mono ?_
 rintro e w1 ⟨rfl,hb1⟩
 obtain ⟨o0,hwb,hwc,hgl,hog,hrd,henv,hfut,hk⟩:=put_start (HB.out.trans (hb1.mono HB.out.size)) (HK.out.below_ hb1)
 have HF1:=Lib.hid (xnum_first hwb hwc hgl hog hrd (shp 0) (by have:=shp_le 0;omega))
 have HEN:=Lib.hid henv
 have HFU:=Lib.hid hfut
 have HK0:=Lib.hid hk
 clear hk hb1 x0 x1 x2 x3 x4 hwb hwc hgl hog hrd henv hfut
 have kc:=Lib.run_convert_bytes_const (P:=Tryz.prog) w1 151 5 #[.int .u8 67, .int .u8 79, .int .u8 77, .int .u8 77, .int .u8 79, .int .u8 78, .int .u8 83, .int .u8 49] 8 8 Tryz.underlying151 Tryz.underlying5
 go_upto_region 4 with (fail)
 clear kc
 generalize ((w1.alloc (.cells #[.int .u8 67, .int .u8 79, .int .u8 77, .int .u8 77, .int .u8 79, .int .u8 78, .int .u8 83, .int .u8 49] 5 (8,9))).alloc (.cells #[.slice (some ⟨w1.heap.size,0,none⟩) 8 8, .int .i64 0] 182))=W0 at HF1 HEN HFU HK0 ⊢
 generalize w1.heap.size+1=p at HF1 ⊢
 obtain ⟨x0,x1,x2,x3,x4⟩:=HK0.out.1.five
 go_wp2_with fail
 refine HF1.out.mono ?_
 rintro e w2 ⟨rfl,o1,hx,hs⟩
 have HX1:=Lib.hid (show Xg o1 w w2 p (bs8++preP 1) from ⟨hx,HEN.out.step hs no10,HFU.out.step hs⟩)
 have HK1:=Lib.hid (HK0.out.step hs no10)
 clear hx hs x0 x1 x2 x3 x4
 obtain ⟨x0,x1,x2,x3,x4⟩:=HK1.out.1.five
 go_wp2_with fail
 refine (xnum_ok HX1.out (shp 1) 4 (shp_ok 1) (by have:=shp_le 1;omega) (bs_len 1 (by omega))).mono ?_
 rintro e w3 ⟨rfl,o2,hx,hs⟩
 rw [bs_add 1] at hx
 have HX2:=Lib.hid hx
 have HK2:=Lib.hid (HK1.out.step hs no10)
 clear hx hs x0 x1 x2 x3 x4
 obtain ⟨x0,x1,x2,x3,x4⟩:=HK2.out.1.five
 go_wp2_with fail
 refine (xnum_ok HX2.out (shp 2) 4 (shp_ok 2) (by have:=shp_le 2;omega) (bs_len 2 (by omega))).mono ?_
 rintro e w4 ⟨rfl,o3,hx,hs⟩
 rw [bs_add 2] at hx
 have HX3:=Lib.hid hx
 have HK3:=Lib.hid (HK2.out.step hs no10)
 clear hx hs x0 x1 x2 x3 x4
 obtain ⟨x0,x1,x2,x3,x4⟩:=HK3.out.1.five
 go_wp2_with fail
 refine (xnum_ok HX3.out (shp 3) 4 (shp_ok 3) (by have:=shp_le 3;omega) (bs_len 3 (by omega))).mono ?_
 rintro e w5 ⟨rfl,o4,hx,hs⟩
 rw [bs_add 3] at hx
 have HX4:=Lib.hid hx
 have HK4:=Lib.hid (HK3.out.step hs no10)
 clear hx hs x0 x1 x2 x3 x4
 obtain ⟨x0,x1,x2,x3,x4⟩:=HK4.out.1.five
 go_wp2_with fail
 refine (xnum_ok HX4.out (shp 4) 4 (shp_ok 4) (by have:=shp_le 4;omega) (bs_len 4 (by omega))).mono ?_
 rintro e w6 ⟨rfl,o5,hx,hs⟩
 rw [bs_add 4] at hx
 have HX5:=Lib.hid hx
 have HK5:=Lib.hid (HK4.out.step hs no10)
 clear hx hs x0 x1 x2 x3 x4
 obtain ⟨A,cap,c0,hcv⟩:=HX5.out.conv
 have HSB:=Lib.hid (show str (bs8++preP 5)=str superT from rfl)
 rw [HSB.out] at hcv
 have HZ:=Lib.hid (show (str superT).size≤60 by rw [str_size,superT_len];omega)
 have HF:=Lib.hid (show str (stampL (str superT).data.toList 64)=str superL by rw [str_list];rfl)
 generalize (bs8++preP 5).length=L at c0 hcv
 generalize str superT=Q at hcv HZ HF
 go_wp2_with fail
 refine (xstamp_any Q HZ.out w6).mono ?_
 rintro e w7 ⟨rfl,hb7⟩
 rw [HF.out]
 have HB7:=Lib.hid (HX5.out.env.low.trans (hb7.mono HX5.out.env.low.size))
 clear hb7
 go_wp2_with fail
 go_ret2
 exact ⟨rfl,HB7.out⟩
theorem settle_now (D:Dk) (n:Int):(D.settle n).now=D.now:=(settle_same D n).2.2.2.2.2.1
theorem fence_now {D:Dk} {k:Nat} (h:Calm D k) {n:Nat} (hn:n≤16):(D.fence n).2.now=D.now:=by
 rw [(h.fence hn).1]
 exact settle_now D n
theorem admit_now {D:Dk} {k:Nat} (h:Calm D k) {n:Nat} (hn:n≤16) {e:Nat} (he:D.last<e):(D.admit n e).2.now=D.now:=by
 rw [(h.admit hn he).1]
theorem sec_congr {D E:Dk} (h:D.now=E.now) (k:Int):D.sec k=E.sec k:=by unfold Dk.sec;rw [h]
def Blank (D:Dk):Prop:=∀k,D.sec k=str (zer 64)
theorem sect_zer {n i:Nat} (h:(i+1)*64≤n):sect (str (zer n)) i=str (zer 64):=by
 unfold sect
 rw [extract_str]
 congr 1
 unfold zer
 rw [List.take_replicate,List.drop_replicate]
 congr 1
 omega
theorem sec_write1 (D:Dk) (n a:Int) (s:ByteArray) (k:Int):(D.write1 n a s).sec k=if k=a then s else D.sec k:=by
 unfold Dk.sec Dk.write1 upd
 simp only
 split <;> rfl
theorem blank_write {D:Dk} (h:Blank D) (n a:Int) (z:Nat):∀m,m*64≤z→Blank (D.writeN n a (str (zer z)) m)
 | 0,_=>h
 | m+1,hm=>by
   intro k
   show ((D.writeN n a (str (zer z)) m).write1 n (a+m) (sect (str (zer z)) m)).sec k=_
   rw [sec_write1]
   split
   ·exact sect_zer hm
   ·exact blank_write h n a z m (by omega) k
theorem blank_now {D E:Dk} (h:Blank D) (he:E.now=D.now):Blank E:=fun k=>(sec_congr he k).trans (h k)
theorem blank_zeros {D:Dk} (h:Blank D):∀j,Blank (D.zerosN j)
 | 0=>h
 | j+1=>blank_write (blank_zeros h j) _ _ _ _ (Nat.le_refl _)
theorem blank_fresh : Blank (Dk.fresh 61):=fun _=>rfl
theorem lay_sec {D:Dk} (h:Blank D) (k:Int):D.layF.sec k=if k=0 then str superL else str (zer 64):=by
 have e:D.layF.now=((((D.zerosN 4).settle (0:Nat)).write1 (0:Nat) (0+((0:Nat):Int)) (sect (str superL) 0)):Dk).now:=settle_now _ _
 rw [sec_congr e,sec_write1]
 have h0:sect (str superL) 0=str superL:=by
  unfold sect
  rw [extract_str]
  have e2:(superL.take ((0+1)*64)).drop (0*64)=superL:=by rw [Nat.zero_mul,List.drop_zero,List.take_of_length_le (by rw [superL_len];omega)]
  rw [e2]
 rw [h0]
 split
 ·rename_i hk
  rw [if_pos (by omega)]
 ·rename_i hk
  rw [if_neg (by omega)]
  exact blank_now (blank_zeros h 4) (settle_now _ _) k
theorem fresh_last : (Dk.fresh 61).last=0:=rfl
theorem format_facts {D:Dk} (h:Calm D 0) (hl:D.last=0):Calm D.formatF 65∧D.formatF.last=1∧D.formatF.now=((D.fmtN 17).admit (0:Nat) 1).2.layF.now:=by
 obtain ⟨f1,f2,f3⟩:=fmt_calm h 17 (by omega)
 have f2':(D.fmtN 17).last<1:=by rw [f2,hl];omega
 obtain ⟨a1,a2⟩:=f1.admit (n:=0) (by omega) (e:=1) f2'
 have c1:=lay_calm a2
 obtain ⟨b1,b2⟩:=c1.fence (n:=0) (by omega)
 have e:D.formatF=(((D.fmtN 17).admit (0:Nat) 1).2.layF.fence (0:Nat)).2:=by unfold Dk.formatF;rw [hl];rfl
 have hlast:((D.fmtN 17).admit (0:Nat) 1).2.last=1:=by rw [a1]
 generalize ((D.fmtN 17).admit (0:Nat) 1).2=E at a2 c1 b1 b2 e hlast
 have hl2:E.layF.last=1:=by
  unfold Dk.layF
  rw [(settle_same _ _).2.2.2.1,(writeN_same _ _ _ _ _).2.2.2.1,(settle_same _ _).2.2.2.1,(zeros_calm a2 4).2.2,hlast]
 generalize E.layF=G at c1 b1 b2 e hl2 ⊢
 refine ⟨?_,?_,?_⟩
 ·rw [e]
  exact b2.mono (by omega)
 ·rw [e,b1]
  show (G.settle (0:Nat)).last=1
  rw [(settle_same _ _).2.2.2.1,hl2]
 ·rw [e]
  exact fence_now c1 (by omega)
theorem shape21_any (w:World):Calls Tryz.prog 25 #[] w fun e w'=>e = .returned (.agg #[.int .i64 3, .int .i64 12, .int .i64 12, .int .i64 6, .int .i64 32])∧Below w.heap.size w w':=by
 have hb:=(Blk.new w 25 #[.int .i64 3, .int .i64 12, .int .i64 12, .int .i64 6, .int .i64 32])
 obtain ⟨q0,q1,q2,q3,q4⟩:=hb.five
 have HB:=Lib.hid ((Below.refl w.heap.size w).alloc (Nat.le_refl _) (.cells #[.int .i64 3, .int .i64 12, .int .i64 12, .int .i64 6, .int .i64 32] 25))
 go_enter Tryz.func25,Tryz.ntmps25
 go_wp2_with fail
 exact bodyPost_ret (v := .agg #[.int .i64 3, .int .i64 12, .int .i64 12, .int .i64 6, .int .i64 32]) (by simp [results,Tryz.results25,go_sem,q0,q1,q2,q3,q4]) rfl ⟨rfl,HB.out⟩
def fmtD : Dk:=(Dk.fresh 61).formatF
set_option maxRecDepth 100000 in
theorem format_sec (k:Int):fmtD.sec k=if k=0 then str superL else str (zer 64):=by
 obtain ⟨f1,f2,f3⟩:=format_facts calm_fresh fresh_last
 obtain ⟨g1,g2,g3⟩:=fmt_calm calm_fresh 17 (by omega)
 have hb:Blank ((Dk.fresh 61).fmtN 17):=blank_now blank_fresh g3
 have hlt:((Dk.fresh 61).fmtN 17).last<1:=by rw [g2,fresh_last];omega
 have hb2:=blank_now hb (admit_now g1 (n:=0) (by omega) hlt)
 rw [show fmtD=(Dk.fresh 61).formatF from rfl,sec_congr f3]
 exact lay_sec hb2 k
theorem fmtN_tab {D:Dk} (h:Calm D 0):∀j,j≤17→Calm (D.fmtN j) 0∧(∀i,i<j→(D.fmtN j).table i=0∧(D.fmtN j).words i=0)
 | 0,_=>⟨h,fun i hi=>absurd hi (by omega)⟩
 | j+1,hj=>by
   obtain ⟨h1,h2⟩:=fmtN_tab h j (by omega)
   obtain ⟨e1,c1⟩:=h1.fence (n:=j) (by omega)
   obtain ⟨e2,c2⟩:=c1.put (n:=j) (by omega) 0
   obtain ⟨a1,a2,a3,a4,a5,a6,a7⟩:=settle_same (D.fmtN j) j
   refine ⟨c2,fun i hi => ?_⟩
   show ((((D.fmtN j).fence j).2.put j 0).2).table i=0∧((((D.fmtN j).fence j).2.put j 0).2).words i=0
   rw [e2,e1]
   refine ⟨?_,?_⟩
   ·show (if i=j then 0 else (D.fmtN j).table i)=0
    split
    ·rfl
    ·exact (h2 i (by omega)).1
   ·show (if i=j then 0 else ((D.fmtN j).settle j).words i)=0
    split
    ·rfl
    ·rw [a5]
     exact (h2 i (by omega)).2
def refV0 : RK:=⟨61,[],fun _=>0,fun _=>0,0⟩
def readyW (cd cr:Nat):Nat→Prop:=fun x=>six cd x∨logL cr x
set_option maxRecDepth 100000 in
set_option maxHeartbeats 8000000 in
theorem ready21_any {o:Nat→Nat} {cd cr:Nat} {w:World} (hf:Fut o w) (hcd:1≤cd) (hcr:cd+5<cr):Calls Tryz.prog 27 #[] w fun e w'=>∃p r,e = .returned (.tuple #[.pointer (some ⟨p,0,none⟩), .pointer (some ⟨r,0,none⟩), .agg #[.int .i64 3, .int .i64 12, .int .i64 12, .int .i64 6, .int .i64 32], .bool true])∧∃o',DiskAt o' cd w' p fmtD∧Step o (readyW cd cr) w o' w':=by
 have HX:=Lib.hid (Keep.new hf 27 #[.int .i64 0, .int .i64 0, .int .i64 0, .int .i64 0, .int .i64 0])
 have HF:=Lib.hid (hf.alloc (.cells #[.int .i64 0, .int .i64 0, .int .i64 0, .int .i64 0, .int .i64 0] 27))
 have HS:=Lib.hid ((Step.refl o (readyW cd cr) w).alloc (.cells #[.int .i64 0, .int .i64 0, .int .i64 0, .int .i64 0, .int .i64 0] 27))
 have HCD:=Lib.hid hcd
 have HCR:=Lib.hid hcr
 have HN:=Lib.hid (no_six hcd)
 clear hf hcd hcr
 go_enter Tryz.func27,Tryz.ntmps27
 go_wp2_with fail
 generalize w.alloc (.cells #[.int .i64 0, .int .i64 0, .int .i64 0, .int .i64 0, .int .i64 0] 27)=W at HX HF HS ⊢
 refine (shape21_any W).mono ?_
 rintro e w1 ⟨rfl,hb1⟩
 have HX1:=Lib.hid (HX.out.below_ hb1)
 have HF1:=Lib.hid (HF.out.below hb1)
 have HT1:=Lib.hid (HS.out.trans (Step.of_below o (readyW cd cr) hb1))
 clear hb1
 go_wp2_with fail
 refine (refsize_any w1).mono ?_
 rintro e w2 ⟨rfl,hb2⟩
 have HX2:=Lib.hid (HX1.out.below_ hb2)
 have HF2:=Lib.hid (HF1.out.below hb2)
 have HT2:=Lib.hid (HT1.out.trans (Step.of_below o (readyW cd cr) hb2))
 clear hb2
 go_wp2_with fail
 refine (dnew_any o cd HCD.out w2).mono ?_
 rintro e w3 ⟨p,rfl,o3,hd3,hs3⟩
 have HD3:=Lib.hid hd3
 have HX3:=Lib.hid (HX2.out.step (hs3 (fun _=>False)) id)
 have HF3:=Lib.hid (HF2.out.step (hs3 (fun _=>False)))
 have HT3:=Lib.hid (HT2.out.trans (hs3 (readyW cd cr)))
 clear hd3 hs3
 go_wp2_with fail
 refine (shape21_any w3).mono ?_
 rintro e wa ⟨rfl,hba⟩
 have HDa:=Lib.hid (HD3.out.below_ hba)
 have HXa:=Lib.hid (HX3.out.below_ hba)
 have HFa:=Lib.hid (HF3.out.below hba)
 have HTa:=Lib.hid (HT3.out.trans (Step.of_below o3 (readyW cd cr) hba))
 clear hba
 go_wp2_with fail
 refine (uformat_any HDa.out calm_fresh (by omega) (by rw [fresh_last];omega) HCD.out HFa.out).mono ?_
 rintro e w4 ⟨rfl,o4,hd4,hs4⟩
 have HD4:=Lib.hid (show DiskAt o4 cd w4 p fmtD from hd4)
 have HX4:=Lib.hid (HXa.out.step hs4 HN.out)
 have HF4:=Lib.hid (HFa.out.step hs4)
 have HT4:=Lib.hid (HTa.out.trans (hs4.mono (fun _ h => .inl h)))
 clear hd4 hs4
 obtain ⟨ff1,ff2,_⟩:=format_facts calm_fresh fresh_last
 have HC4:=Lib.hid (show Calm fmtD 65 from ff1)
 have HS0:=Lib.hid (show fmtD.sec 0=str superL by rw [format_sec,if_pos rfl])
 clear ff1 ff2
 obtain ⟨F,hF⟩:∃F,fmtD=F:=⟨_,rfl⟩
 rw [hF] at HD4 HC4 HS0
 have HFQ:=Lib.hid hF
 clear hF
 go_wp2_with fail
 refine (uload_any HD4.out HC4.out HS0.out).mono ?_
 rintro e w5 ⟨rfl,hb5⟩
 have HD5:=Lib.hid ((HD4.out.below_ hb5).alloc (.cells #[.int .i64 3, .int .i64 12, .int .i64 12, .int .i64 6, .int .i64 32] 27))
 have HX5:=Lib.hid ((HX4.out.below_ hb5).alloc (.cells #[.int .i64 3, .int .i64 12, .int .i64 12, .int .i64 6, .int .i64 32] 27))
 have HY5:=Lib.hid (Keep.new (HF4.out.below hb5) 27 #[.int .i64 3, .int .i64 12, .int .i64 12, .int .i64 6, .int .i64 32])
 have HF5:=Lib.hid ((HF4.out.below hb5).alloc (.cells #[.int .i64 3, .int .i64 12, .int .i64 12, .int .i64 6, .int .i64 32] 27))
 have HT5:=Lib.hid ((HT4.out.trans (Step.of_below o4 (readyW cd cr) hb5)).alloc (.cells #[.int .i64 3, .int .i64 12, .int .i64 12, .int .i64 6, .int .i64 32] 27))
 clear hb5
 go_upto_region 4 with (fail)
 generalize w5.alloc (.cells #[.int .i64 3, .int .i64 12, .int .i64 12, .int .i64 6, .int .i64 32] 27)=W5 at HD5 HX5 HY5 HF5 HT5 ⊢
 generalize w5.heap.size=gY at HY5 ⊢
 go_wp2_with fail
 refine (shape21_any W5).mono ?_
 rintro e w6 ⟨rfl,hb6⟩
 have HD6:=Lib.hid (HD5.out.below_ hb6)
 have HX6:=Lib.hid (HX5.out.below_ hb6)
 have HY6:=Lib.hid (HY5.out.below_ hb6)
 have HF6:=Lib.hid (HF5.out.below hb6)
 have HT6:=Lib.hid (HT5.out.trans (Step.of_below o4 (readyW cd cr) hb6))
 clear hb6
 go_wp2_with fail
 refine (refsize_any w6).mono ?_
 rintro e w7 ⟨rfl,hb7⟩
 obtain ⟨o8,hq8,hs8⟩:=alloc_as o4 w7 (.cells #[.int .i64 61, .slice none 0 0, .bool false, .int .u64 0, .int .u64 0, .int .u64 0, .int .u64 0, .int .u64 0, .int .u64 0, .int .u64 0, .int .u64 0, .int .u64 0, .int .u64 0, .int .u64 0, .int .u64 0, .int .u64 0, .int .u64 0, .int .u64 0, .int .u64 0, .int .u64 0, .int .u64 0, .int .u64 0, .int .u64 0, .int .u64 0, .int .u64 0, .int .u64 0, .int .u64 0, .int .u64 0, .int .u64 0, .int .u64 0, .int .u64 0, .int .u64 0, .int .u64 0, .int .u64 0, .int .u64 0, .int .u64 0, .int .u64 0, .int .u64 0, .bool false, .int .i64 0, .slice none 0 0] 127) cr
 have hb8:Step o4 (fun _=>False) w6 o8 (w7.alloc (.cells #[.int .i64 61, .slice none 0 0, .bool false, .int .u64 0, .int .u64 0, .int .u64 0, .int .u64 0, .int .u64 0, .int .u64 0, .int .u64 0, .int .u64 0, .int .u64 0, .int .u64 0, .int .u64 0, .int .u64 0, .int .u64 0, .int .u64 0, .int .u64 0, .int .u64 0, .int .u64 0, .int .u64 0, .int .u64 0, .int .u64 0, .int .u64 0, .int .u64 0, .int .u64 0, .int .u64 0, .int .u64 0, .int .u64 0, .int .u64 0, .int .u64 0, .int .u64 0, .int .u64 0, .int .u64 0, .int .u64 0, .int .u64 0, .int .u64 0, .int .u64 0, .bool false, .int .i64 0, .slice none 0 0] 127)):=(Step.of_below o4 _ hb7).trans hs8
 have HD8:=Lib.hid (HD6.out.step hb8 (fun _ _ _=>id))
 have HX8:=Lib.hid (HX6.out.step hb8 id)
 have HY8:=Lib.hid (HY6.out.step hb8 id)
 have HF8:=Lib.hid (HF6.out.step hb8)
 have HT8:=Lib.hid (HT6.out.trans (hb8.mono (fun _ h=>h.elim)))
 have HR8:=Lib.hid (show RefAt o8 cr (w7.alloc (.cells #[.int .i64 61, .slice none 0 0, .bool false, .int .u64 0, .int .u64 0, .int .u64 0, .int .u64 0, .int .u64 0, .int .u64 0, .int .u64 0, .int .u64 0, .int .u64 0, .int .u64 0, .int .u64 0, .int .u64 0, .int .u64 0, .int .u64 0, .int .u64 0, .int .u64 0, .int .u64 0, .int .u64 0, .int .u64 0, .int .u64 0, .int .u64 0, .int .u64 0, .int .u64 0, .int .u64 0, .int .u64 0, .int .u64 0, .int .u64 0, .int .u64 0, .int .u64 0, .int .u64 0, .int .u64 0, .int .u64 0, .int .u64 0, .int .u64 0, .int .u64 0, .bool false, .int .i64 0, .slice none 0 0] 127)) w7.heap.size refV0 from ⟨.slice none 0 0,Blk.new _ _ _,hq8,OwnS.nil _ _ _ _ _⟩)
 clear hb7 hq8 hs8 hb8
 go_upto_region 5 with (fail)
 generalize w7.alloc (.cells #[.int .i64 61, .slice none 0 0, .bool false, .int .u64 0, .int .u64 0, .int .u64 0, .int .u64 0, .int .u64 0, .int .u64 0, .int .u64 0, .int .u64 0, .int .u64 0, .int .u64 0, .int .u64 0, .int .u64 0, .int .u64 0, .int .u64 0, .int .u64 0, .int .u64 0, .int .u64 0, .int .u64 0, .int .u64 0, .int .u64 0, .int .u64 0, .int .u64 0, .int .u64 0, .int .u64 0, .int .u64 0, .int .u64 0, .int .u64 0, .int .u64 0, .int .u64 0, .int .u64 0, .int .u64 0, .int .u64 0, .int .u64 0, .int .u64 0, .int .u64 0, .bool false, .int .i64 0, .slice none 0 0] 127)=W8 at HD8 HX8 HY8 HF8 HT8 HR8 ⊢
 generalize w7.heap.size=r at HR8 ⊢
 go_wp2_with fail
 refine (shape21_any W8).mono ?_
 rintro e w8 ⟨rfl,hbb⟩
 have HDb:=Lib.hid (HD8.out.below_ hbb)
 have HXb:=Lib.hid (HX8.out.below_ hbb)
 have HYb:=Lib.hid (HY8.out.below_ hbb)
 have HFb:=Lib.hid (HF8.out.below hbb)
 have HTb:=Lib.hid (HT8.out.trans (Step.of_below o8 (readyW cd cr) hbb))
 have HRb:=Lib.hid (HR8.out.below_ hbb)
 clear hbb
 go_wp2_with fail
 refine (refputshape_any w8).mono ?_
 rintro e w9 ⟨rfl,hb9⟩
 have HD9:=Lib.hid (HDb.out.below_ hb9)
 have HX9:=Lib.hid (HXb.out.below_ hb9)
 have HY9:=Lib.hid (HYb.out.below_ hb9)
 have HF9:=Lib.hid (HFb.out.below hb9)
 have HT9:=Lib.hid (HTb.out.trans (Step.of_below o8 (readyW cd cr) hb9))
 have HR9:=Lib.hid (HRb.out.below_ hb9)
 clear hb9
 go_wp2_with fail
 refine (refadmit_ok HR9.out 0 1 (by omega) (by show (0:Nat)<1;omega)).mono ?_
 rintro e w10 ⟨rfl,hr,hs⟩
 have hsl:Step o8 (logL cr) w9 o8 w10:=hs.mono (logL_log cr)
 have HR10:=Lib.hid hr
 have HD10:=Lib.hid (HD9.out.step hsl (by have:=HCR.out;unfold logL;omega))
 have HX10:=Lib.hid (HX9.out.step hsl (by have:=HCR.out;unfold logL;omega))
 have HY10:=Lib.hid (HY9.out.step hsl (by have:=HCR.out;unfold logL;omega))
 have HT10:=Lib.hid (HT9.out.trans (hsl.mono (fun _ h => .inr h)))
 clear hr hsl hs
 go_wp2_with fail
 refine (refwrite_ok HR10.out 0 1 0 (str superL) 1 (by omega) rfl (by omega) (by rw [str_size,superL_len]) (by omega) (by omega) (by omega) (by show (0:Int)+1≤61;omega) (by show (61:Nat)≤100000;omega) (by show (0:Nat)≤90000;omega)).mono ?_
 rintro e w11 ⟨rfl,oN11,hr,hsl⟩
 have HR11:=Lib.hid hr
 have HD11:=Lib.hid (HD10.out.step hsl (by have:=HCR.out;unfold logL;omega))
 have HX11:=Lib.hid (HX10.out.step hsl (by have:=HCR.out;unfold logL;omega))
 have HY11:=Lib.hid (HY10.out.step hsl (by have:=HCR.out;unfold logL;omega))
 have HT11:=Lib.hid (HT10.out.trans (hsl.mono (fun _ h => .inr h)))
 clear hr hsl
 go_wp2_with fail
 refine (refbarrier_ok HR11.out 0 1 (by omega) rfl (by omega) (by show (1:Nat)≤100000;omega)).mono ?_
 rintro e w12 ⟨rfl,oN12,hr,hsl⟩
 have HR12:=Lib.hid hr
 have HD12:=Lib.hid (HD11.out.step hsl (by have:=HCR.out;unfold logL;omega))
 have HX12:=Lib.hid (HX11.out.step hsl (by have:=HCR.out;unfold logL;omega))
 have HY12:=Lib.hid (HY11.out.step hsl (by have:=HCR.out;unfold logL;omega))
 have HT12:=Lib.hid (HT11.out.trans (hsl.mono (fun _ h => .inr h)))
 clear hr hsl
 go_wp2_with fail
 refine (reffence_ok HR12.out 0 (by omega) (by show (1:Nat)≤100000;omega)).mono ?_
 rintro e w14 ⟨rfl,oN14,hr,hsl⟩
 have HD14:=Lib.hid (HD12.out.step hsl (by have:=HCR.out;unfold logL;omega))
 have HX14:=Lib.hid (HX12.out.step hsl (by have:=HCR.out;unfold logL;omega))
 have HY14:=Lib.hid (HY12.out.step hsl (by have:=HCR.out;unfold logL;omega))
 have HT14:=Lib.hid (HT12.out.trans (hsl.mono (fun _ h => .inr h)))
 clear hr hsl
 go_wp2_with fail
 obtain ⟨y0,y1,y2,y3,y4⟩:=HY14.out.1.five
 obtain ⟨x0,x1,x2,x3,x4⟩:=HX14.out.1.five
 have f0:=HX14.out.1.frozen 0
 have f1:=HX14.out.1.frozen 1
 have f2:=HX14.out.1.frozen 2
 have f3:=HX14.out.1.frozen 3
 have f4:=HX14.out.1.frozen 4
 go_region
 have S5:=((((((Step.refl oN14 (only 0) w14).setCell (p:=⟨w.heap.size,0,none⟩) HX14.out.2 (.int .i64 3)).setCell (p:=⟨w.heap.size,1,none⟩) HX14.out.2 (.int .i64 12)).setCell (p:=⟨w.heap.size,2,none⟩) HX14.out.2 (.int .i64 12)).setCell (p:=⟨w.heap.size,3,none⟩) HX14.out.2 (.int .i64 6)).setCell (p:=⟨w.heap.size,4,none⟩) HX14.out.2 (.int .i64 32)).drew
 have HX15:=Lib.hid ((HX14.out.1.put5 (.int .i64 3) (.int .i64 12) (.int .i64 12) (.int .i64 6) (.int .i64 32)).drew)
 have HD15:=Lib.hid (HD14.out.step S5 (by have:=HCD.out;unfold only;omega))
 have HT15:=Lib.hid (((((((HT14.out).setNew (p:=⟨w.heap.size,0,none⟩) (Nat.le_refl _) (.int .i64 3)).setNew (p:=⟨w.heap.size,1,none⟩) (Nat.le_refl _) (.int .i64 12)).setNew (p:=⟨w.heap.size,2,none⟩) (Nat.le_refl _) (.int .i64 12)).setNew (p:=⟨w.heap.size,3,none⟩) (Nat.le_refl _) (.int .i64 6)).setNew (p:=⟨w.heap.size,4,none⟩) (Nat.le_refl _) (.int .i64 32)).drew)
 clear S5 x0 x1 x2 x3 x4 y0 y1 y2 y3 y4 f0 f1 f2 f3 f4
 generalize ((((((w14).setCell ⟨w.heap.size,0,none⟩ (.int .i64 3)).setCell ⟨w.heap.size,1,none⟩ (.int .i64 12)).setCell ⟨w.heap.size,2,none⟩ (.int .i64 12)).setCell ⟨w.heap.size,3,none⟩ (.int .i64 6)).setCell ⟨w.heap.size,4,none⟩ (.int .i64 32)).drew=WE at HX15 HD15 HT15 ⊢
 obtain ⟨q0,q1,q2,q3,q4⟩:=HX15.out.five
 go_wp2_with fail
 exact bodyPost_ret (v := .tuple #[.pointer (some ⟨p,0,none⟩), .pointer (some ⟨r,0,none⟩), .agg #[.int .i64 3, .int .i64 12, .int .i64 12, .int .i64 6, .int .i64 32], .bool true]) (by simp [results,Tryz.results27,go_sem,q0,q1,q2,q3,q4]) rfl ⟨p,r,rfl,oN14,HFQ.out▸HD15.out,HT15.out⟩
end Go.Proofs.YtohgabdmmbngbaaGreatDoor
