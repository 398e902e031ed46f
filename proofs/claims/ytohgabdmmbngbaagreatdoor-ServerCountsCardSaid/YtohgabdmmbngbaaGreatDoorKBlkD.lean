import Derived.Test.YtohgabdmmbngbaaGreatDoorKDiskF
set_option linter.unusedVariables false
set_option linter.unusedSimpArgs false
namespace Go.Proofs.YtohgabdmmbngbaaGreatDoor
open Go.RowKit
theorem sin_any (a b c:Int) (w:World):Calls Tryz.prog 104 #[.int .i64 a, .int .i64 b, .int .i64 c] w fun e w'=>e = .returned (.bool (decide (b≤a∧a≤c)))∧w=w':=by
 by_cases h0:b≤a
 ·by_cases h1:a≤c
  ·rw [decide_eq_true ⟨h0,h1⟩]
   go_enter Tryz.func104,Tryz.ntmps104
   go_wp2_with fail
   go_ret
   exact ⟨rfl,rfl⟩
  ·rw [decide_eq_false (fun h=>h1 h.2)]
   go_enter Tryz.func104,Tryz.ntmps104
   go_wp2_with fail
   go_ret
   exact ⟨rfl,rfl⟩
 ·rw [decide_eq_false (fun h=>h0 h.1)]
  go_enter Tryz.func104,Tryz.ntmps104
  go_wp2_with fail
  go_ret
  exact ⟨rfl,rfl⟩
theorem sin_yes (a b c:Int) (w:World) (h:b≤a∧a≤c):Calls Tryz.prog 104 #[.int .i64 a, .int .i64 b, .int .i64 c] w fun e w'=>e = .returned (.bool true)∧w=w':=by
 have:=sin_any a b c w
 rwa [decide_eq_true h] at this
theorem uvalid_any (w:World):Calls Tryz.prog 47 #[.agg #[.int .i64 3, .int .i64 12, .int .i64 12, .int .i64 6, .int .i64 32]] w fun e w'=>e = .returned (.bool true)∧Below w.heap.size w w':=by
 have HB:=Lib.hid ((Below.refl w.heap.size w).alloc (Nat.le_refl _) (.cells #[.int .i64 3, .int .i64 12, .int .i64 12, .int .i64 6, .int .i64 32] 25))
 go_enter Tryz.func47,Tryz.ntmps47
 go_wp2_with (go_at_call 104;refine (sin_yes _ _ _ _ (by decide)).mono ?_;rintro e w' ⟨rfl,rfl⟩)
 go_ret
 exact ⟨rfl,HB.out⟩
theorem usize_any (w:World):Calls Tryz.prog 121 #[.agg #[.int .i64 3, .int .i64 12, .int .i64 12, .int .i64 6, .int .i64 32]] w fun e w'=>e = .returned (.int .i64 61)∧Below w.heap.size w w':=by
 have HB:=Lib.hid ((Below.refl w.heap.size w).alloc (Nat.le_refl _) (.cells #[.int .i64 3, .int .i64 12, .int .i64 12, .int .i64 6, .int .i64 32] 25))
 have HK:=Lib.hid (Blk.new w 25 #[.int .i64 3, .int .i64 12, .int .i64 12, .int .i64 6, .int .i64 32])
 go_enter Tryz.func121,Tryz.ntmps121
 go_wp2_with fail
 generalize w.alloc (.cells #[.int .i64 3, .int .i64 12, .int .i64 12, .int .i64 6, .int .i64 32] 25)=W at HB HK ⊢
 refine (uvalid_any W).mono ?_
 rintro e w1 ⟨rfl,hb1⟩
 have HB1:=Lib.hid (HB.out.trans (hb1.mono HB.out.size))
 have hk1:=HK.out.below_ hb1
 have x0:=hk1.cell 0
 have x1:=hk1.cell 1
 have x2:=hk1.cell 2
 simp at x0 x1 x2
 clear hb1 hk1
 go_wp2_with fail
 go_ret
 exact ⟨rfl,HB1.out⟩
theorem logat_any (node:Int) (w:World):Calls Tryz.prog 73 #[.agg #[.int .i64 3, .int .i64 12, .int .i64 12, .int .i64 6, .int .i64 32], .int .i64 node] w fun e w'=>e = .returned (.tuple #[.int .i64 (logAt node).1, .int .i64 (logAt node).2])∧Below w.heap.size w w':=by
 have HB:=Lib.hid ((Below.refl w.heap.size w).alloc (Nat.le_refl _) (.cells #[.int .i64 3, .int .i64 12, .int .i64 12, .int .i64 6, .int .i64 32] 27))
 have HK:=Lib.hid (Blk.new w 27 #[.int .i64 3, .int .i64 12, .int .i64 12, .int .i64 6, .int .i64 32])
 go_enter Tryz.func73,Tryz.ntmps73
 go_wp2_with fail
 generalize w.alloc (.cells #[.int .i64 3, .int .i64 12, .int .i64 12, .int .i64 6, .int .i64 32] 27)=W at HB HK ⊢
 refine (uvalid_any W).mono ?_
 rintro e w1 ⟨rfl,hb1⟩
 have HB1:=Lib.hid (HB.out.trans (hb1.mono HB.out.size))
 have hk1:=HK.out.below_ hb1
 have x0:=hk1.cell 0
 have x2:=hk1.cell 2
 simp at x0 x2
 clear hb1 hk1
 go_wp2_with fail
 refine (sin_any node 1 3 w1).mono ?_
 rintro e w2 ⟨rfl,rfl⟩
 by_cases h:node<1∨3<node
 ·have e1:logAt node=(0,3):=if_pos h
  rw [decide_eq_false (by omega)]
  have E1:=Lib.hid e1
  clear e1 h
  go_wp2_with fail
  go_ret2
  rw [E1.out]
  exact ⟨rfl,HB1.out⟩
 ·have e1:logAt node=(1+(node - 1)*12,0):=if_neg h
  rw [decide_eq_true (by omega)]
  have E1:=Lib.hid e1
  have b0:1≤node:=by omega
  have b1:node≤3:=by omega
  clear e1 h
  go_wp2_with fail
  go_ret2
  rw [E1.out]
  exact ⟨rfl,HB1.out⟩
def shp : Nat→Nat
 | 0=>3
 | 1=>12
 | 2=>12
 | 3=>6
 | _=>32
theorem shp_le (k:Nat):shp k≤32:=by
 unfold shp
 split <;> omega
def preP : Nat→List UInt8
 | 0 => []
 | k+1=>preP k++le (shp k) 4
def superT : List UInt8 := [67,79,77,77,79,78,83,49]++preP 5
def superL : List UInt8:=stampL superT 64
theorem preP_len (k:Nat):(preP k).length=4*k:=by
 induction k with
 | zero=>rfl
 | succ k ih =>
   show (preP k++le (shp k) 4).length=_
   rw [List.length_append,ih,le_len]
   omega
theorem superT_len : superT.length=28:=by
 unfold superT
 rw [List.length_append,preP_len]
 rfl
theorem superL_len : superL.length=64:=stamp_len (by rw [superT_len];omega) (by omega)
theorem shp_cell {w:World} {g:Nat} {t:TypeId} (h:Blk w g t #[.int .i64 3, .int .i64 12, .int .i64 12, .int .i64 6, .int .i64 32]) {k:Nat} (hk:k<5):w.cell? ⟨g,k,none⟩=some (.int .i64 (shp k:Int)):=by
 rw [h.cell]
 have:k=0∨k=1∨k=2∨k=3∨k=4:=by omega
 rcases this with rfl | rfl | rfl | rfl | rfl <;> rfl
set_option maxRecDepth 100000 in
set_option maxHeartbeats 2000000 in
theorem uput_any (w:World):Calls Tryz.prog 179 #[.agg #[.int .i64 3, .int .i64 12, .int .i64 12, .int .i64 6, .int .i64 32]] w fun e w'=>e = .returned (.tuple #[.string (str superL), .int .i64 0])∧Below w.heap.size w w':=by
 have HB:=Lib.hid ((Below.refl w.heap.size w).alloc (Nat.le_refl _) (.cells #[.int .i64 3, .int .i64 12, .int .i64 12, .int .i64 6, .int .i64 32] 25))
 have HK:=Lib.hid (Blk.new w 25 #[.int .i64 3, .int .i64 12, .int .i64 12, .int .i64 6, .int .i64 32])
 go_enter Tryz.func179,Tryz.ntmps179
 go_wp2_with fail
 generalize w.alloc (.cells #[.int .i64 3, .int .i64 12, .int .i64 12, .int .i64 6, .int .i64 32] 25)=W at HB HK ⊢
 refine (uvalid_any W).mono ?_
 rintro e w1 ⟨rfl,hb1⟩
 have hB1:=HB.out.trans (hb1.mono HB.out.size)
 obtain ⟨o2,hw2,hs2⟩:=Wg.start (w0:=w) hB1
 have HW2:=Lib.hid hw2
 have hk1:=(HK.out.below_ hb1).alloc (.cells #[.slice none 0 0, .int .i64 0] 256)
 have x0:=hk1.cell 0
 have x1:=hk1.cell 1
 have x2:=hk1.cell 2
 have x3:=hk1.cell 3
 have x4:=hk1.cell 4
 simp at x0 x1 x2 x3 x4
 clear hb1 hk1 hw2 hs2 hB1
 go_upto_region 4 with (fail)
 generalize w1.alloc (.cells #[.slice none 0 0, .int .i64 0] 256)=W2 at HW2 x0 x1 x2 x3 x4 ⊢
 generalize w1.heap.size=p at HW2 ⊢
 have HL:=Lib.hid (Keep.new HW2.out.fut 3 #[.int .i64 3, .int .i64 12, .int .i64 12, .int .i64 6, .int .i64 32])
 have HW3:=Lib.hid (HW2.out.alloc (.cells #[.int .i64 3, .int .i64 12, .int .i64 12, .int .i64 6, .int .i64 32] 3))
 have HN0:=Lib.hid (show ¬only 1 0 by unfold only;omega)
 go_wp2_with fail
 clear x0 x1 x2 x3 x4
 generalize W2.alloc (.cells #[.int .i64 3, .int .i64 12, .int .i64 12, .int .i64 6, .int .i64 32] 3)=W3 at HL HW3 ⊢
 generalize W2.heap.size=g at HL ⊢
 go_loopw [24] (fun t24 wr=>∃(k:Nat) (o':Nat→Nat),k≤5∧t24 = .int .i64 k∧Wg o' w wr p (preP k)∧Keep o' wr g 3 #[.int .i64 3, .int .i64 12, .int .i64 12, .int .i64 6, .int .i64 32]) (fun t24 _=>5 - (intOf t24).toNat)
 case atStart=>exact ⟨0,o2,by omega,rfl,HW3.out,HL.out⟩
 case round =>
  obtain ⟨k,o3,hk,rfl,hw,hkp⟩:=hrel
  have HW:=Lib.hid hw
  have HP:=Lib.hid hkp
  clear hw hkp
  by_cases hlt:k<5
  ·have hltI:(k:Int)<5:=by omega
   have hkI:(0:Int)≤(k:Int):=by omega
   have hc:=shp_cell HP.out.1 hlt
   have hle:=shp_le k
   have hwu:=wrapu_n (v:=shp k) (by omega)
   have HNK:=Lib.hid (show numOk (shp k) 4 from ⟨by omega,by omega,by simp;omega⟩)
   have H64:=Lib.hid (show shp k<18446744073709551616 by omega)
   have HLN:=Lib.hid (show (preP k).length≤1000000000 by rw [preP_len];omega)
   have HPS:=Lib.hid (show preP (k+1)=preP k++le (shp k) (4:Int).toNat from rfl)
   clear hle
   go_wp2_with fail
   refine (wnum_ok HW.out (shp k) 4 HNK.out H64.out HLN.out).mono ?_
   rintro e w4 ⟨rfl,o4,hw4,hs4⟩
   rw [←HPS.out] at hw4
   have HW4:=Lib.hid hw4
   have HP4:=Lib.hid (HP.out.step hs4 HN0.out)
   clear hw4 hs4 hc hwu
   go_wp2_with fail
   go_roundw
   case rel=>exact ⟨k+1,o4,by omega,by go_num,HW4.out,HP4.out⟩
   case measure=>simp [intOf];omega
  ·have hltI:¬(k:Int)<5:=by omega
   obtain rfl:k=5:=by omega
   go_wp2_with fail
   refine (wbytes_okb HW.out).mono ?_
   rintro e w4 ⟨rfl,hw4,hb4⟩
   have HW4:=Lib.hid hw4
   clear hw4 hb4
   have hcat:(ByteArray.mk #[67,79,77,77,79,78,83,49]).size+(str (preP 5)).size≤9223372036854775807:=by rw [str_size,preP_len];decide
   have HC:=Lib.hid (show ByteArray.mk #[67,79,77,77,79,78,83,49]++str (preP 5)=str superT from str_append [67,79,77,77,79,78,83,49] (preP 5))
   have HZ:=Lib.hid (show (str superT).size≤60 by rw [str_size,superT_len];omega)
   have HF:=Lib.hid (show str (stampL (str superT).data.toList 64)=str superL by rw [str_list];rfl)
   go_wp2_with fail
   rw [HC.out]
   refine (stamp_any (str superT) HZ.out w4).mono ?_
   rintro e w5 ⟨rfl,hb5⟩
   rw [HF.out]
   have HB5:=Lib.hid (HW4.out.env.low.trans (hb5.mono HW4.out.env.low.size))
   clear hb5
   go_wp2_with fail
   go_ret2
   exact ⟨rfl,HB5.out⟩
section
variable {o:Nat→Nat} {c p k:Nat} {w:World} {D:Dk}
theorem dwrite_k (h:DiskAt o c w p D) (hk:Calm D k) (hk2:k≤800000) {n e m:Nat} {at_:Int} {data:ByteArray} (hn:n≤16) (he:D.table n=e) (h0:e≠0) (hd:data.size=m*64) (h1:1≤m) (h2:m≤16) (h3:0≤at_) (h4:at_+m≤61) (hc:1≤c) :
 Calls Tryz.prog 136 #[.pointer (some ⟨p,0,none⟩), .int .i64 (n:Int), .int .u64 (e:Int), .int .i64 at_, .string data] w fun r w'=>r = .returned (.int .i64 0)∧∃o',DiskAt o' c w' p (D.writeN n at_ data m)∧Step o (six c) w o' w':=by
 have e1:=(hk.write hn he h0 hd h1 h2 h3 h4).1
 refine (dwrite_calm h n e at_ data (by have:=hk.waits;omega) (by rw [hk.sectors];omega) (by have:=hk.seq;omega) (by omega) hc).mono ?_
 rintro r w' ⟨rfl,hw⟩
 rw [e1] at hw
 exact ⟨by rw [e1],hw⟩
theorem dbarrier_k (h:DiskAt o c w p D) (hk:Calm D k) (hk2:k≤800000) {n e:Nat} (hn:n≤16) (he:D.table n=e) (h0:e≠0) :
 Calls Tryz.prog 84 #[.pointer (some ⟨p,0,none⟩), .int .i64 (n:Int), .int .u64 (e:Int)] w fun r w'=>r = .returned (.int .i64 0)∧∃o',DiskAt o' c w' p (D.settle n)∧Step o (six c) w o' w':=by
 have e1:=(hk.barrier hn he h0).1
 refine (dbarrier_calm h n e (by have:=hk.waits;omega)).mono ?_
 rintro r w' ⟨rfl,hw⟩
 rw [e1] at hw
 exact ⟨by rw [e1],hw⟩
theorem dfence_k (h:DiskAt o c w p D) (hk:Calm D k) (hk2:k≤800000) {n:Nat} (hn:n≤16) :
 Calls Tryz.prog 101 #[.pointer (some ⟨p,0,none⟩), .int .i64 (n:Int)] w fun r w'=>r = .returned (.int .i64 0)∧∃o',DiskAt o' c w' p (D.fence n).2∧Step o (six c) w o' w':=by
 have e1:=(hk.fence hn).1
 refine (dfence_calm h n (by have:=hk.waits;omega)).mono ?_
 rintro r w' ⟨rfl,hw⟩
 exact ⟨by rw [e1],hw⟩
theorem dput_k (h:DiskAt o c w p D) (hk:Calm D k) {n:Nat} (hn:n≤16) (v:Nat) :
 Calls Tryz.prog 122 #[.pointer (some ⟨p,0,none⟩), .int .i64 (n:Int), .int .u64 (v:Int)] w fun r w'=>r = .returned (.int .i64 0)∧∃o',DiskAt o' c w' p (D.put n v).2∧Step o (six c) w o' w':=by
 have e1:=(hk.put hn v).1
 refine (dput_calm h n v).mono ?_
 rintro r w' ⟨rfl,hw⟩
 exact ⟨by rw [e1],hw⟩
theorem dadmit_k (h:DiskAt o c w p D) (hk:Calm D k) {n e:Nat} (hn:n≤16) (he:D.last<e) :
 Calls Tryz.prog 51 #[.pointer (some ⟨p,0,none⟩), .int .i64 (n:Int), .int .u64 (e:Int)] w fun r w'=>r = .returned (.int .i64 0)∧∃o',DiskAt o' c w' p (D.admit n e).2∧Step o (six c) w o' w':=by
 have e1:=(hk.admit hn he).1
 refine (dadmit_calm h n e).mono ?_
 rintro r w' ⟨rfl,hw⟩
 exact ⟨by rw [e1],hw⟩
theorem dread_k (h:DiskAt o c w p D) (hk:Calm D k) {at_:Int} {n:Nat} (h1:1≤n) (h2:0≤at_) (h3:at_+n≤61) :
 Calls Tryz.prog 87 #[.pointer (some ⟨p,0,none⟩), .int .i64 at_, .int .i64 (n:Int)] w fun r w'=>r = .returned (.tuple #[.string (str (D.readL at_ n)), .int .i64 0])∧Below w.heap.size w w':=by
 obtain ⟨e1,e2⟩:=hk.read h1 h2 h3
 refine (dread_any h at_ n (by rw [hk.sectors];omega) hk.wf).mono ?_
 rintro r w' ⟨rfl,hw⟩
 exact ⟨by rw [e1,e2],hw⟩
end
def zlen (j:Nat):Nat:=min 16 (61 - 16*j)
def Dk.zerosN (D:Dk):Nat→Dk
 | 0=>D
 | j+1=>(D.zerosN j).writeN (0:Nat) ((16*j:Nat):Int) (str (zer (zlen j*64))) (zlen j)
theorem zeros_calm {D:Dk} {k:Nat} (h:Calm D k):∀j,Calm (D.zerosN j) (k+16*j)∧(D.zerosN j).table=D.table∧(D.zerosN j).last=D.last
 | 0=>⟨h,rfl,rfl⟩
 | j+1=>by
   obtain ⟨h1,h2,h3⟩:=zeros_calm h j
   have hl:zlen j≤16:=by unfold zlen;omega
   obtain ⟨_,_,_,b4,_,b6,_⟩:=writeN_same (D.zerosN j) (0:Nat) ((16*j:Nat):Int) (str (zer (zlen j*64))) (zlen j)
   exact ⟨(h1.writeN (0:Nat) ((16*j:Nat):Int) (str (zer (zlen j*64))) (zlen j) (by rw [str_size,zer_len];omega)).mono (by omega),b6.trans h2,b4.trans h3⟩
set_option maxRecDepth 100000 in
set_option maxHeartbeats 2000000 in
theorem uzeros_any {o:Nat→Nat} {c p k:Nat} {w:World} {D:Dk} (h:DiskAt o c w p D) (hk:Calm D k) (hk2:k≤1000) {e:Nat} (he:D.table 0=e) (h0:e≠0) (hc:1≤c) :
 Calls Tryz.prog 180 #[.pointer (some ⟨p,0,none⟩), .int .u64 (e:Int), .int .i64 61] w fun r w'=>r = .returned (.int .i64 0)∧∃o',DiskAt o' c w' p ((D.zerosN 4).settle (0:Nat))∧Step o (six c) w o' w':=by
 have H:=Lib.hid h
 have HK:=Lib.hid hk
 have HE:=Lib.hid he
 clear h hk he
 go_enter Tryz.func180,Tryz.ntmps180
 go_wp2_with fail
 go_loopw [7] (fun t7 wr=>∃(j:Nat) (o':Nat→Nat),j≤4∧t7 = .int .i64 ((16*j:Nat):Int)∧DiskAt o' c wr p (D.zerosN j)∧Step o (six c) w o' wr) (fun t7 _=>100 - (intOf t7).toNat)
 case atStart=>exact ⟨0,o,by omega,rfl,H.out,Step.refl _ _ _⟩
 case round =>
  obtain ⟨j,o1,hj,rfl,hd,hs⟩:=hrel
  have HD:=Lib.hid hd
  have HS:=Lib.hid hs
  obtain ⟨zc,zt,_⟩:=zeros_calm HK.out j
  have HZ:=Lib.hid zc
  have HT:=Lib.hid (show (D.zerosN j).table 0=e by rw [zt];exact HE.out)
  clear hd hs zc zt
  by_cases hlt:j<4
  ·obtain ⟨q,hq⟩:∃q,zlen j=q:=⟨_,rfl⟩
   have hmin:∀(w:World) (ts:Array TypeId) (t:TypeId),(Builtin.min_ ts t #[.int .i64 16, .int .i64 (61 - ((16*j:Nat):Int))]).run Tryz.prog w = .ok (.int .i64 (q:Int)) w:=by
    intro w ts t
    have:j=0∨j=1∨j=2∨j=3:=by omega
    rcases this with rfl | rfl | rfl | rfl <;> (rw [←hq];simp [Builtin.min_,Builtin.min2,zlen])
   have hq1:1≤q∧q≤16∧16*j+q≤61:=by rw [←hq];unfold zlen;omega
   obtain ⟨hq2,hq3,hq4⟩:=hq1
   have hI:((16*j:Nat):Int)<61:=by omega
   have hI0:(0:Int)≤((16*j:Nat):Int):=by omega
   have HQ:=Lib.hid hq
   have HQI:=Lib.hid (show (0:Int)≤(q:Int)*64∧(q:Int)*64≤1000000∧((q:Int)*64).toNat=q*64 by omega)
   have HN:=Lib.hid (show D.zerosN (j+1)=(D.zerosN j).writeN (0:Nat) ((16*j:Nat):Int) (str (zer (q*64))) q by rw [←hq];rfl)
   have HSZ:=Lib.hid (show (str (zer (q*64))).size=q*64 by rw [str_size,zer_len])
   have HAT:=Lib.hid (show ((16*j:Nat):Int)+(q:Int)≤61 by omega)
   have HK3:=Lib.hid (show k+16*j≤800000 by omega)
   have HST:=Lib.hid (show ((16*j:Nat):Int)+16=((16*(j+1):Nat):Int) by omega)
   have HM:=Lib.hid (show 100 - (((16*(j+1):Nat):Int)).toNat<100 - (((16*j:Nat):Int)).toNat by omega)
   have hjb:j<4:=hlt
   have HJ:=Lib.hid (show j+1≤4 by omega)
   clear hq hlt hjb hj hq4
   generalize ((16*j:Nat):Int)=at_ at *
   have hsum:at_≤61:=by omega
   go_wp2_with fail
   clear hmin
   refine (rep0_any ((q:Int)*64) HQI.out.1 HQI.out.2.1 wr).mono ?_
   rintro e2 w2 ⟨rfl,hb2⟩
   rw [HQI.out.2.2]
   have HD2:=Lib.hid (HD.out.below_ hb2)
   have HS2:=Lib.hid (HS.out.trans (Step.of_below o1 (six c) hb2))
   clear hb2
   go_wp2_with fail
   refine (dwrite_k (n:=0) HD2.out HZ.out HK3.out (by omega) HT.out h0 HSZ.out hq2 hq3 hI0 HAT.out hc).mono ?_
   rintro e3 w3 ⟨rfl,o3,hd3,hs3⟩
   rw [←HN.out] at hd3
   have HD3:=Lib.hid hd3
   have HS3:=Lib.hid (HS2.out.trans hs3)
   clear hd3 hs3
   go_wp2_with fail
   go_roundw
   case rel=>exact ⟨j+1,o3,HJ.out,by rw [←HST.out],HD3.out,HS3.out⟩
   case measure=>simp [intOf];omega
  ·obtain rfl:j=4:=by omega
   have HK3:=Lib.hid (show k+16*4≤800000 by omega)
   go_wp2_with fail
   refine (dbarrier_k (n:=0) HD.out HZ.out HK3.out (by omega) HT.out h0).mono ?_
   rintro e3 w3 ⟨rfl,o3,hd3,hs3⟩
   have HD3:=Lib.hid hd3
   have HS3:=Lib.hid (HS.out.trans hs3)
   clear hd3 hs3
   go_wp2_with fail
   go_ret
   exact ⟨rfl,o3,HD3.out,HS3.out⟩
def Dk.layF (D:Dk):Dk:=(((D.zerosN 4).settle (0:Nat)).writeN (0:Nat) 0 (str superL) 1).settle (0:Nat)
theorem lay_calm {D:Dk} {k:Nat} (h:Calm D k):Calm D.layF (k+65):=by
 have h1:=(zeros_calm h 4).1.settle (0:Nat)
 exact ((h1.writeN (0:Nat) 0 (str superL) 1 (by rw [str_size,superL_len];omega)).mono (by omega)).settle _
theorem settle_tab (D:Dk) (n:Int):(D.settle n).table=D.table∧(D.settle n).last=D.last:=⟨settle_table D n,(settle_same D n).2.2.2.1⟩
set_option maxRecDepth 100000 in
set_option maxHeartbeats 2000000 in
theorem ulay_any {o:Nat→Nat} {c p k:Nat} {w:World} {D:Dk} (h:DiskAt o c w p D) (hk:Calm D k) (hk2:k≤1000) {e:Nat} (he:D.table 0=e) (h0:e≠0) (hc:1≤c) (hf:Fut o w) :
 Calls Tryz.prog 123 #[.pointer (some ⟨p,0,none⟩), .int .u64 (e:Int), .agg #[.int .i64 3, .int .i64 12, .int .i64 12, .int .i64 6, .int .i64 32]] w fun r w'=>r = .returned (.int .i64 0)∧∃o',DiskAt o' c w' p D.layF∧Step o (six c) w o' w':=by
 have HE:=Lib.hid he
 have HKC:=Lib.hid hk
 have H:=Lib.hid (h.alloc (.cells #[.int .i64 3, .int .i64 12, .int .i64 12, .int .i64 6, .int .i64 32] 25))
 have HS:=Lib.hid ((Step.refl o (six c) w).alloc (.cells #[.int .i64 3, .int .i64 12, .int .i64 12, .int .i64 6, .int .i64 32] 25))
 have HK:=Lib.hid (Keep.new hf 25 #[.int .i64 3, .int .i64 12, .int .i64 12, .int .i64 6, .int .i64 32])
 have HZC:=Lib.hid ((zeros_calm hk 4).1.settle (0:Nat))
 have HZT:=Lib.hid (show ((D.zerosN 4).settle (0:Nat)).table 0=e by rw [(settle_tab _ _).1,(zeros_calm hk 4).2.1];exact he)
 have HSU:=Lib.hid (show (str superL).size=1*64 by rw [str_size,superL_len])
 have HN6:=Lib.hid (no_six hc)
 clear h hk he hf
 go_enter Tryz.func123,Tryz.ntmps123
 go_wp2_with fail
 generalize w.alloc (.cells #[.int .i64 3, .int .i64 12, .int .i64 12, .int .i64 6, .int .i64 32] 25)=W at H HS HK ⊢
 generalize w.heap.size=g at HK ⊢
 refine (uput_any W).mono ?_
 rintro r w1 ⟨rfl,hb1⟩
 have H1:=Lib.hid (H.out.below_ hb1)
 have HS1:=Lib.hid (HS.out.trans (Step.of_below o (six c) hb1))
 have HK1:=Lib.hid (HK.out.below_ hb1)
 obtain ⟨x0,x1,x2,x3,x4⟩:=HK1.out.1.five
 clear hb1
 go_wp2_with fail
 refine (usize_any w1).mono ?_
 rintro r w2 ⟨rfl,hb2⟩
 have H2:=Lib.hid (H1.out.below_ hb2)
 have HS2:=Lib.hid (HS1.out.trans (Step.of_below o (six c) hb2))
 clear hb2 x0 x1 x2 x3 x4
 go_wp2_with fail
 refine (uzeros_any H2.out HKC.out hk2 HE.out h0 hc).mono ?_
 rintro r w3 ⟨rfl,o3,hd3,hs3⟩
 have H3:=Lib.hid hd3
 have HS3:=Lib.hid (HS2.out.trans hs3)
 clear hd3 hs3
 go_wp2_with fail
 refine (dwrite_k (n:=0) (m:=1) H3.out HZC.out (by omega) (by omega) HZT.out h0 HSU.out (by omega) (by omega) (by omega) (by omega) hc).mono ?_
 rintro r w4 ⟨rfl,o4,hd4,hs4⟩
 have H4:=Lib.hid hd4
 have HS4:=Lib.hid (HS3.out.trans hs4)
 have HC4:=Lib.hid (HZC.out.writeN (0:Nat) 0 (str superL) 1 (by rw [HSU.out];omega))
 have HT4:=Lib.hid (show ((((D.zerosN 4).settle (0:Nat)).writeN (0:Nat) 0 (str superL) 1)).table 0=e by rw [(writeN_same _ _ _ _ _).2.2.2.2.2.1];exact HZT.out)
 clear hd4 hs4
 go_wp2_with fail
 refine (dbarrier_k (n:=0) H4.out HC4.out (by omega) (by omega) HT4.out h0).mono ?_
 rintro r w5 ⟨rfl,o5,hd5,hs5⟩
 have H5:=Lib.hid (show DiskAt o5 c w5 p D.layF from hd5)
 have HS5:=Lib.hid (HS4.out.trans hs5)
 clear hd5 hs5
 go_wp2_with fail
 go_ret
 exact ⟨rfl,o5,H5.out,HS5.out⟩
def Dk.fmtN (D:Dk):Nat→Dk
 | 0=>D
 | j+1=>(((D.fmtN j).fence j).2.put j 0).2
theorem fmt_calm {D:Dk} {k:Nat} (h:Calm D k):∀j,j≤17→Calm (D.fmtN j) k∧(D.fmtN j).last=D.last∧(D.fmtN j).now=D.now
 | 0,_=>⟨h,rfl,rfl⟩
 | j+1,hj=>by
   obtain ⟨h1,h2,h4⟩:=fmt_calm h j (by omega)
   obtain ⟨e1,c1⟩:=h1.fence (n:=j) (by omega)
   obtain ⟨e2,c2⟩:=c1.put (n:=j) (by omega) 0
   refine ⟨c2,?_,?_⟩
   ·show ((((D.fmtN j).fence j).2.put j 0).2).last=D.last
    rw [e2,e1,←h2]
    exact (settle_tab _ _).2
   ·show ((((D.fmtN j).fence j).2.put j 0).2).now=D.now
    rw [e2,e1,←h4]
    exact (settle_same _ _).2.2.2.2.2.1
theorem dsectors_37 {o:Nat→Nat} {c p:Nat} {w:World} {D:Dk} (h:DiskAt o c w p D) (hs:D.sectors=61):Calls Tryz.prog 120 #[.pointer (some ⟨p,0,none⟩)] w fun e w'=>e = .returned (.int .i64 61)∧w=w':=by
 have:=dsectors_any h
 rwa [hs] at this
def Dk.formatF (D:Dk):Dk:=(((D.fmtN 17).admit 0 (D.last+1)).2.layF.fence 0).2
set_option maxRecDepth 100000 in
set_option maxHeartbeats 2000000 in
theorem uformat_any {o:Nat→Nat} {c p k:Nat} {w:World} {D:Dk} (h:DiskAt o c w p D) (hk:Calm D k) (hk2:k≤1000) (hl:D.last≤1000) (hc:1≤c) (hf:Fut o w) :
 Calls Tryz.prog 64 #[.pointer (some ⟨p,0,none⟩), .agg #[.int .i64 3, .int .i64 12, .int .i64 12, .int .i64 6, .int .i64 32]] w fun r w'=>r = .returned (.int .i64 0)∧∃o',DiskAt o' c w' p D.formatF∧Step o (six c) w o' w':=by
 have HKC:=Lib.hid hk
 have H:=Lib.hid (h.alloc (.cells #[.int .i64 3, .int .i64 12, .int .i64 12, .int .i64 6, .int .i64 32] 25))
 have HS:=Lib.hid ((Step.refl o (six c) w).alloc (.cells #[.int .i64 3, .int .i64 12, .int .i64 12, .int .i64 6, .int .i64 32] 25))
 have HK:=Lib.hid (Keep.new hf 25 #[.int .i64 3, .int .i64 12, .int .i64 12, .int .i64 6, .int .i64 32])
 have HF:=Lib.hid (hf.alloc (.cells #[.int .i64 3, .int .i64 12, .int .i64 12, .int .i64 6, .int .i64 32] 25))
 have HN6:=Lib.hid (no_six hc)
 have HSEC:=Lib.hid hk.sectors
 clear h hk hf
 go_enter Tryz.func64,Tryz.ntmps64
 go_wp2_with fail
 generalize w.alloc (.cells #[.int .i64 3, .int .i64 12, .int .i64 12, .int .i64 6, .int .i64 32] 25)=W at H HS HK HF ⊢
 generalize w.heap.size=g at HK ⊢
 refine (uvalid_any W).mono ?_
 rintro r w1 ⟨rfl,hb1⟩
 have H1:=Lib.hid (H.out.below_ hb1)
 have HS1:=Lib.hid (HS.out.trans (Step.of_below o (six c) hb1))
 have HK1:=Lib.hid (HK.out.below_ hb1)
 have HF1:=Lib.hid (HF.out.below hb1)
 obtain ⟨x0,x1,x2,x3,x4⟩:=HK1.out.1.five
 clear hb1
 go_upto_region 3 with (fail)
 go_region_held3 (fun w'=>w'.cell? ⟨g,0,none⟩=some (.int .i64 3)∧w'.cell? ⟨g,1,none⟩=some (.int .i64 12)∧w'.cell? ⟨g,2,none⟩=some (.int .i64 12)∧w'.cell? ⟨g,3,none⟩=some (.int .i64 6)∧w'.cell? ⟨g,4,none⟩=some (.int .i64 32))
  (first | exact ⟨x0,x1,x2,x3,x4⟩ | exact hk2'.1.five | go_keep)
  (first | (go_at_call 120;((with_reducible refine (dsectors_37 H1.out.drew HSEC.out).mono ?_);rintro r w2 ⟨rfl,rfl⟩)) | (go_at_call 121;((with_reducible refine (usize_any _).mono ?_);rintro r w3 ⟨rfl,hb3⟩;have hk2':=HK1.out.drew.below_ hb3)))
 have H3:=Lib.hid (H1.out.drew.below_ hb3)
 have HS3:=Lib.hid (HS1.out.drew.trans (Step.of_below o (six c) hb3))
 have HK3:=Lib.hid hk2'
 have HF3:=Lib.hid (HF1.out.drew.below hb3)
 clear hb3 hk2' x0 x1 x2 x3 x4
 go_wp2_with fail
 go_loopw [5] (fun t5 wr=>∃(j:Nat) (o':Nat→Nat),j≤17∧t5 = .int .i64 j∧DiskAt o' c wr p (D.fmtN j)∧Step o (six c) w o' wr∧Keep o' wr g 25 #[.int .i64 3, .int .i64 12, .int .i64 12, .int .i64 6, .int .i64 32]∧Fut o' wr) (fun t5 _=>17 - (intOf t5).toNat)
 case atStart=>exact ⟨0,o,by omega,rfl,H3.out,HS3.out,HK3.out,HF3.out⟩
 case round =>
  obtain ⟨j,o1,hj,rfl,hd,hs,hkk,hff⟩:=hrel
  have HD:=Lib.hid hd
  have HSS:=Lib.hid hs
  have HKK:=Lib.hid hkk
  have HFF:=Lib.hid hff
  have HC:=Lib.hid (fmt_calm HKC.out j hj).1
  clear hd hs hkk hff
  by_cases hlt:j<17
  ·have hltI:(j:Int)≤16:=by omega
   have HC1:=Lib.hid (HC.out.fence (n:=j) (by omega)).2
   go_wp2_with fail
   refine (dfence_k HD.out HC.out (by omega) (n:=j) (by omega)).mono ?_
   rintro r w4 ⟨rfl,o4,hd4,hs4⟩
   have HD4:=Lib.hid hd4
   have HS4:=Lib.hid (HSS.out.trans hs4)
   have HK4:=Lib.hid (HKK.out.step hs4 HN6.out)
   have HF4:=Lib.hid (HFF.out.step hs4)
   clear hd4 hs4
   go_wp2_with fail
   refine (dput_k HD4.out HC1.out (n:=j) (by omega) 0).mono ?_
   rintro r w5 ⟨rfl,o5,hd5,hs5⟩
   have HD5:=Lib.hid hd5
   have HS5:=Lib.hid (HS4.out.trans hs5)
   have HK5:=Lib.hid (HK4.out.step hs5 HN6.out)
   have HF5:=Lib.hid (HF4.out.step hs5)
   clear hd5 hs5
   go_wp2_with fail
   go_roundw
   case rel=>exact ⟨j+1,o5,by omega,by go_num,HD5.out,HS5.out,HK5.out,HF5.out⟩
   case measure=>simp [intOf];omega
  ·have hltI:¬(j:Int)≤16:=by omega
   obtain rfl:j=17:=by omega
   obtain ⟨fc,fl,_⟩:=fmt_calm HKC.out 17 (by omega)
   obtain ⟨L,hL⟩:∃L,D.last=L:=⟨_,rfl⟩
   have HL:=Lib.hid hL
   have HFL:=Lib.hid (show (D.fmtN 17).last=L by rw [fl,hL])
   have hl2:L≤1000:=by rw [←hL];exact hl
   have hwr:IntKind.u64.wrap ((L:Int)+1)=((L+1:Nat):Int):=by rw [IntKind.wrap_u64];omega
   obtain ⟨ae,ac⟩:=fc.admit (n:=0) (by omega) (e:=L+1) (by rw [HFL.out];omega)
   have HAC:=Lib.hid ac
   have HAT:=Lib.hid (show ((D.fmtN 17).admit (0:Nat) (L+1)).2.table 0=L+1 by rw [ae];rfl)
   have HLC:=Lib.hid (lay_calm ac)
   have HFE:=Lib.hid (show D.formatF=(((D.fmtN 17).admit (0:Nat) (L+1)).2.layF.fence (0:Nat)).2 by unfold Dk.formatF;rw [hL];rfl)
   clear fc fl hL hl ae ac
   go_wp2_with fail
   refine (dlast_any HD.out).mono ?_
   rintro r w4 ⟨rfl,rfl⟩
   rw [HFL.out]
   obtain ⟨x0,x1,x2,x3,x4⟩:=HKK.out.1.five
   clear x0 x1 x2 x3 x4
   go_wp2_with fail
   refine (dadmit_k (n:=0) (e:=L+1) HD.out HC.out (by omega) (by rw [HFL.out];omega)).mono ?_
   rintro r w5 ⟨rfl,o5,hd5,hs5⟩
   have HD5:=Lib.hid hd5
   have HS5:=Lib.hid (HSS.out.trans hs5)
   have HK5:=Lib.hid (HKK.out.step hs5 HN6.out)
   have HF5:=Lib.hid (HFF.out.step hs5)
   obtain ⟨x0,x1,x2,x3,x4⟩:=HK5.out.1.five
   clear hd5 hs5
   go_wp2_with fail
   refine (ulay_any HD5.out HAC.out hk2 HAT.out (by omega) hc HF5.out).mono ?_
   rintro r w6 ⟨rfl,o6,hd6,hs6⟩
   have HD6:=Lib.hid hd6
   have HS6:=Lib.hid (HS5.out.trans hs6)
   clear hd6 hs6 x0 x1 x2 x3 x4
   go_wp2_with fail
   refine (dfence_k (n:=0) HD6.out HLC.out (by omega) (by omega)).mono ?_
   rintro r w7 ⟨rfl,o7,hd7,hs7⟩
   rw [←HFE.out] at hd7
   have HD7:=Lib.hid hd7
   have HS7:=Lib.hid (HS6.out.trans hs7)
   clear hd7 hs7
   go_wp2_with fail
   go_ret
   exact ⟨rfl,o7,HD7.out,HS7.out⟩
def sufP : Nat→List UInt8
 | 0=>zer 32
 | j+1=>le (shp (4 - j)) 4++sufP j
theorem super_read : readE (str superL).data.toList=0∧readL (str superL).data.toList=superT++zer 32:=by
 have hr:=read_stamp (l:=superT) (n:=64) (by rw [superT_len];omega) (by omega)
 rw [str_list]
 refine ⟨hr.1,hr.2.trans ?_⟩
 unfold padL
 rw [superT_len]
theorem super_rest : (superT++zer 32).drop 8=sufP 5:=by
 show ([67,79,77,77,79,78,83,49]++preP 5++zer 32).drop 8=sufP 5
 simp [preP,sufP]
theorem super_num (k:Nat) (hk:k<5):(⟨str (sufP (5 - k)),0⟩:Rd).numV 4=shp k∧(⟨str (sufP (5 - k)),0⟩:Rd).numR 4=⟨str (sufP (5 - (k+1))),0⟩:=by
 have e:sufP (5 - k)=le (shp k) 4++sufP (5 - (k+1)):=by
  have:k=0∨k=1∨k=2∨k=3∨k=4:=by omega
  rcases this with rfl | rfl | rfl | rfl | rfl <;> rfl
 rw [e]
 exact num4 (by have:=shp_le k;omega) _
def arrA (k:Nat):Array Value:=#[.int .i64 (if 0<k then 3 else 0), .int .i64 (if 1<k then 12 else 0), .int .i64 (if 2<k then 12 else 0), .int .i64 (if 3<k then 6 else 0), .int .i64 (if 4<k then 32 else 0)]
theorem arrA_set {k:Nat} (hk:k<5):(arrA k).setIfInBounds k (.int .i64 (shp k:Int))=arrA (k+1):=by
 have:k=0∨k=1∨k=2∨k=3∨k=4:=by omega
 rcases this with rfl | rfl | rfl | rfl | rfl <;> rfl
theorem arrA_get {k:Nat} (hk:k<5):(arrA k)[k]? = some (.int .i64 0):=by
 have:k=0∨k=1∨k=2∨k=3∨k=4:=by omega
 rcases this with rfl | rfl | rfl | rfl | rfl <;> rfl
theorem Blk.put5 {w:World} {g:Nat} {t:TypeId} {a b c d e:Value} (h:Blk w g t #[a,b,c,d,e]) (x y z u v:Value):Blk (((((w.setCell ⟨g,0,none⟩ x).setCell ⟨g,1,none⟩ y).setCell ⟨g,2,none⟩ z).setCell ⟨g,3,none⟩ u).setCell ⟨g,4,none⟩ v) g t #[x,y,z,u,v]:=((((h.set_ 0 x).set_ 1 y).set_ 2 z).set_ 3 u).set_ 4 v
theorem below_put5 {B g:Nat} {w0 w:World} (h:Below B w0 w) (hg:B≤g) (x y z u v:Value):Below B w0 (((((w.setCell ⟨g,0,none⟩ x).setCell ⟨g,1,none⟩ y).setCell ⟨g,2,none⟩ z).setCell ⟨g,3,none⟩ u).setCell ⟨g,4,none⟩ v) :=
 ((((h.setCell (p:=⟨g,0,none⟩) hg x).setCell (p:=⟨g,1,none⟩) hg y).setCell (p:=⟨g,2,none⟩) hg z).setCell (p:=⟨g,3,none⟩) hg u).setCell (p:=⟨g,4,none⟩) hg v
set_option maxRecDepth 100000 in
set_option maxHeartbeats 4000000 in
theorem uget_any (w:World):Calls Tryz.prog 124 #[.string (str superL)] w fun e w'=>e = .returned (.tuple #[.agg #[.int .i64 3, .int .i64 12, .int .i64 12, .int .i64 6, .int .i64 32], .int .i64 0])∧Below w.heap.size w w':=by
 obtain ⟨b,hb⟩:∃b,b=str superL:=⟨_,rfl⟩
 have HB:=Lib.hid hb
 have hsz:((b.size:Int) != 64)=false:=by rw [hb,str_size,superL_len];rfl
 have HS:=Lib.hid (show b.size≤1000000000 by rw [hb,str_size,superL_len];omega)
 obtain ⟨r1,r2⟩:=super_read
 rw [←hb] at r1 r2 ⊢
 have HR1:=Lib.hid r1
 have HR2:=Lib.hid r2
 have HE0:=Lib.hid ((Env.start w).alloc (.cells #[.int .i64 0, .int .i64 0, .int .i64 0, .int .i64 0, .int .i64 0] 25))
 have HZ0:=Lib.hid (Keep.new (fut0 w) 25 #[.int .i64 0, .int .i64 0, .int .i64 0, .int .i64 0, .int .i64 0])
 have HN0:=Lib.hid (show ¬only 1 0 by unfold only;omega)
 obtain ⟨g,hg⟩:∃g,g=w.heap.size:=⟨_,rfl⟩
 have HG:=Lib.hid (show w.heap.size≤g by omega)
 clear hb r1 r2
 go_enter Tryz.func124,Tryz.ntmps124
 go_wp2_with fail
 rw [←hg] at HZ0 ⊢
 generalize w.alloc (.cells #[.int .i64 0, .int .i64 0, .int .i64 0, .int .i64 0, .int .i64 0] 25)=W at HE0 HZ0 ⊢
 clear hg
 refine (sread_any b HS.out W).mono ?_
 rintro e w1 ⟨rfl,hb1⟩
 rw [HR1.out,HR2.out]
 have HE1:=Lib.hid (HE0.out.below_ hb1)
 have HZ1:=Lib.hid (HZ0.out.below_ hb1)
 clear hb1
 have hs8:(8:Int)≤((str (superT++zer 32)).size:Int):=by rw [str_size,List.length_append,superT_len,zer_len];omega
 have HRS:=Lib.hid (show (str (superT++zer 32)).extract 8 (str (superT++zer 32)).size=str (sufP 5) by rw [rest_str,super_rest])
 generalize str (superT++zer 32)=S at hs8 HRS ⊢
 go_wp2_with fail
 rw [HRS.out]
 refine (newreader_any (fun _=>0) 1 (str (sufP 5)) w1 (by rw [str_size];decide +kernel)).mono ?_
 rintro e w2 ⟨p,o2,rfl,hrd,hb2,hst2⟩
 have HS2:=Lib.hid (show Gs 291 o2 w w2 p ⟨str (sufP 5),0⟩ from ⟨hrd,HE1.out.step (hst2 (fun _=>False)) (by simp),(show Fut (fun _=>0) w1 from fun _ _=>rfl).step (hst2 (fun _=>False))⟩)
 have HZ2:=Lib.hid (HZ1.out.step (hst2 (fun _=>False)) (by simp))
 have HA2:=Lib.hid (Keep.new HS2.out.fut 248 #[.int .i64 0, .int .i64 0, .int .i64 0, .int .i64 0, .int .i64 0])
 have HS3:=Lib.hid (HS2.out.alloc (.cells #[.int .i64 0, .int .i64 0, .int .i64 0, .int .i64 0, .int .i64 0] 248))
 have HZ3:=Lib.hid (HZ2.out.alloc (.cells #[.int .i64 0, .int .i64 0, .int .i64 0, .int .i64 0, .int .i64 0] 248))
 have HGA:=Lib.hid (show g≠w2.heap.size from Nat.ne_of_lt HZ2.out.1.lt)
 have HWA:=Lib.hid HS2.out.env.low.size
 clear hrd hb2 hst2
 go_wp2_with fail
 generalize w2.alloc (.cells #[.int .i64 0, .int .i64 0, .int .i64 0, .int .i64 0, .int .i64 0] 248)=W3 at HA2 HS3 HZ3 ⊢
 generalize w2.heap.size=gA at HA2 HGA HWA ⊢
 go_loopw [28] (fun t28 wr=>∃(k:Nat) (o':Nat→Nat),k≤5∧t28 = .int .i64 k∧Gs 291 o' w wr p ⟨str (sufP (5 - k)),0⟩∧Keep o' wr g 25 #[.int .i64 0, .int .i64 0, .int .i64 0, .int .i64 0, .int .i64 0]∧Keep o' wr gA 248 (arrA k)) (fun t28 _=>5 - (intOf t28).toNat)
 case atStart=>exact ⟨0,o2,by omega,rfl,HS3.out,HZ3.out,HA2.out⟩
 case round =>
  obtain ⟨k,o3,hk,rfl,hgs,hz,ha⟩:=hrel
  have HGS:=Lib.hid hgs
  have HZ:=Lib.hid hz
  have HA:=Lib.hid ha
  clear hgs hz ha
  by_cases hlt:k<5
  ·have hltI:(k:Int)<5:=by omega
   have hkI:(0:Int)≤(k:Int):=by omega
   obtain ⟨n1,n2⟩:=super_num k hlt
   have HN1:=Lib.hid n1
   have HN2:=Lib.hid n2
   have hle:=shp_le k
   have hw:=wrap_small (v:=shp k) (by omega)
   have HAS:=Lib.hid (arrA_set hlt)
   have HAG:=Lib.hid (arrA_get hlt)
   clear n1 n2 hle
   go_wp2_with fail
   refine (rnum_g HGS.out 4).mono ?_
   rintro e w4 ⟨rfl,o4,hg4,hs4⟩
   rw [HN1.out]
   rw [HN2.out] at hg4
   have hz4:=HZ.out.step hs4 HN0.out
   have ha4:=HA.out.step hs4 HN0.out
   have c4:=(ha4.1.cell k).trans HAG.out
   have f4:=ha4.1.frozen k
   have ha5:=ha4.set_ k (.int .i64 (shp k:Int))
   rw [HAS.out] at ha5
   have HA5:=Lib.hid ha5
   have HZ5:=Lib.hid (hz4.far HGA.out k (.int .i64 (shp k:Int)))
   have HG5:=Lib.hid (hg4.setCell ha4.2 HWA.out k (.int .i64 (shp k:Int)))
   clear hg4 hs4 hz4 ha4 ha5
   go_wp2_with fail
   go_roundw
   case rel=>exact ⟨k+1,o4,by omega,by go_num,HG5.out,HZ5.out,HA5.out⟩
   case measure=>simp [intOf];omega
  ·have hltI:¬(k:Int)<5:=by omega
   obtain rfl:k=5:=by omega
   obtain ⟨x0,x1,x2,x3,x4⟩:=(show Keep o3 wr gA 248 #[.int .i64 3, .int .i64 12, .int .i64 12, .int .i64 6, .int .i64 32] from HA.out).1.five
   have HGL:=Lib.hid (HGS.out.env.low)
   have HX5:=Lib.hid (Blk.new wr 25 #[.int .i64 3, .int .i64 12, .int .i64 12, .int .i64 6, .int .i64 32])
   have HB5:=Lib.hid (HGL.out.alloc HGL.out.size (.cells #[.int .i64 3, .int .i64 12, .int .i64 12, .int .i64 6, .int .i64 32] 25))
   have HZ5:=Lib.hid (HZ.out.1.alloc (.cells #[.int .i64 3, .int .i64 12, .int .i64 12, .int .i64 6, .int .i64 32] 25))
   go_wp2_with fail
   clear x0 x1 x2 x3 x4
   generalize wr.alloc (.cells #[.int .i64 3, .int .i64 12, .int .i64 12, .int .i64 6, .int .i64 32] 25)=W5 at HX5 HB5 HZ5 ⊢
   generalize wr.heap.size=gX at HX5 ⊢
   refine (uput_any W5).mono ?_
   rintro e w6 ⟨rfl,hb6⟩
   rw [←HB.out]
   have HB6:=Lib.hid (HB5.out.trans (hb6.mono HB5.out.size))
   have HZ6:=Lib.hid (HZ5.out.below_ hb6)
   obtain ⟨x0,x1,x2,x3,x4⟩:=(HX5.out.below_ hb6).five
   obtain ⟨y0,y1,y2,y3,y4⟩:=HZ6.out.five
   have f0:=HZ6.out.frozen 0
   have f1:=HZ6.out.frozen 1
   have f2:=HZ6.out.frozen 2
   have f3:=HZ6.out.frozen 3
   have f4:=HZ6.out.frozen 4
   have t1:(b.toList == b.toList)=true:=beq_self_eq_true _
   clear hb6
   go_wp2_with fail
   have hz7:=HZ6.out.put5 (.int .i64 3) (.int .i64 12) (.int .i64 12) (.int .i64 6) (.int .i64 32)
   have hb7:=below_put5 HB6.out HG.out (.int .i64 3) (.int .i64 12) (.int .i64 12) (.int .i64 6) (.int .i64 32)
   clear x0 x1 x2 x3 x4 y0 y1 y2 y3 y4 f0 f1 f2 f3 f4 t1
   generalize ((((w6.setCell ⟨g,0,none⟩ (.int .i64 3)).setCell ⟨g,1,none⟩ (.int .i64 12)).setCell ⟨g,2,none⟩ (.int .i64 12)).setCell ⟨g,3,none⟩ (.int .i64 6)).setCell ⟨g,4,none⟩ (.int .i64 32)=W7 at hz7 hb7 ⊢
   obtain ⟨q0,q1,q2,q3,q4⟩:=hz7.five
   exact bodyPost_ret (v := .tuple #[.agg #[.int .i64 3, .int .i64 12, .int .i64 12, .int .i64 6, .int .i64 32], .int .i64 0]) (by simp [results,Tryz.results124,go_sem,q0,q1,q2,q3,q4]) rfl ⟨rfl,hb7⟩
theorem readL_one (D:Dk) (at_:Int):D.readL at_ 1=(D.sec at_).data.toList:=by
 rw [readL_succ]
 show []++(D.sec (at_+((0:Nat):Int))).data.toList=_
 rw [List.nil_append]
 congr 3
 omega
set_option maxRecDepth 100000 in
set_option maxHeartbeats 2000000 in
theorem uload_any {o:Nat→Nat} {c p k:Nat} {w:World} {D:Dk} (h:DiskAt o c w p D) (hk:Calm D k) (hs:D.sec 0=str superL) :
 Calls Tryz.prog 65 #[.pointer (some ⟨p,0,none⟩)] w fun e w'=>e = .returned (.tuple #[.agg #[.int .i64 3, .int .i64 12, .int .i64 12, .int .i64 6, .int .i64 32], .int .i64 0])∧Below w.heap.size w w':=by
 have HSEC:=Lib.hid hk.sectors
 have HKC:=Lib.hid hk
 have HSU:=Lib.hid (show str (D.readL 0 1)=str superL by rw [readL_one,hs,str_of])
 have H:=Lib.hid (h.alloc (.cells #[.int .i64 0, .int .i64 0, .int .i64 0, .int .i64 0, .int .i64 0] 27))
 have HB:=Lib.hid ((Below.refl w.heap.size w).alloc (Nat.le_refl _) (.cells #[.int .i64 0, .int .i64 0, .int .i64 0, .int .i64 0, .int .i64 0] 27))
 have HZ:=Lib.hid (Blk.new w 27 #[.int .i64 0, .int .i64 0, .int .i64 0, .int .i64 0, .int .i64 0])
 obtain ⟨g,hg⟩:∃g,g=w.heap.size:=⟨_,rfl⟩
 have HG:=Lib.hid (show w.heap.size≤g by omega)
 clear h hk hs
 go_enter Tryz.func65,Tryz.ntmps65
 go_wp2_with fail
 rw [←hg] at HZ ⊢
 generalize w.alloc (.cells #[.int .i64 0, .int .i64 0, .int .i64 0, .int .i64 0, .int .i64 0] 27)=W at H HB HZ ⊢
 clear hg
 refine (dread_k (n:=1) H.out HKC.out (by omega) (by omega) (by omega)).mono ?_
 rintro r w1 ⟨rfl,hb1⟩
 rw [HSU.out]
 have H1:=Lib.hid (H.out.below_ hb1)
 have HB1:=Lib.hid (HB.out.trans (hb1.mono HB.out.size))
 have HZ1:=Lib.hid (HZ.out.below_ hb1)
 clear hb1
 go_wp2_with fail
 refine (uget_any w1).mono ?_
 rintro r w2 ⟨rfl,hb2⟩
 have hx:=Blk.new w2 25 #[.int .i64 3, .int .i64 12, .int .i64 12, .int .i64 6, .int .i64 32]
 have HX2:=Lib.hid hx
 have HB2a:=HB1.out.trans (hb2.mono HB1.out.size)
 have HB2:=Lib.hid (HB2a.alloc HB2a.size (.cells #[.int .i64 3, .int .i64 12, .int .i64 12, .int .i64 6, .int .i64 32] 25))
 have HZ2:=Lib.hid ((HZ1.out.below_ hb2).alloc (.cells #[.int .i64 3, .int .i64 12, .int .i64 12, .int .i64 6, .int .i64 32] 25))
 have H2:=Lib.hid ((H1.out.below_ hb2).alloc (.cells #[.int .i64 3, .int .i64 12, .int .i64 12, .int .i64 6, .int .i64 32] 25))
 clear hb2 hx HB2a
 go_upto_region 5 with (fail)
 generalize w2.alloc (.cells #[.int .i64 3, .int .i64 12, .int .i64 12, .int .i64 6, .int .i64 32] 25)=W2 at HX2 HB2 HZ2 H2 ⊢
 generalize w2.heap.size=gX at HX2 ⊢
 obtain ⟨x0,x1,x2,x3,x4⟩:=HX2.out.five
 go_region_held3 (fun w'=>w'.cell? ⟨gX,0,none⟩=some (.int .i64 3)∧w'.cell? ⟨gX,1,none⟩=some (.int .i64 12)∧w'.cell? ⟨gX,2,none⟩=some (.int .i64 12)∧w'.cell? ⟨gX,3,none⟩=some (.int .i64 6)∧w'.cell? ⟨gX,4,none⟩=some (.int .i64 32))
  (first | exact ⟨x0,x1,x2,x3,x4⟩ | exact hk2'.five | go_keep)
  (first | (go_at_call 120;((with_reducible refine (dsectors_37 H2.out.drew HSEC.out).mono ?_);rintro r w3 ⟨rfl,rfl⟩)) | (go_at_call 121;((with_reducible refine (usize_any _).mono ?_);rintro r w4 ⟨rfl,hb4⟩;have hk2':=HX2.out.drew.below_ hb4)))
 have HX4:=Lib.hid hk2'
 have HB4:=Lib.hid ((below_drew' HB2.out).trans (hb4.mono HB2.out.size))
 have HZ4:=Lib.hid (HZ2.out.drew.below_ hb4)
 clear hb4 hk2' x0 x1 x2 x3 x4
 obtain ⟨x0,x1,x2,x3,x4⟩:=HX4.out.five
 obtain ⟨y0,y1,y2,y3,y4⟩:=HZ4.out.five
 have f0:=HZ4.out.frozen 0
 have f1:=HZ4.out.frozen 1
 have f2:=HZ4.out.frozen 2
 have f3:=HZ4.out.frozen 3
 have f4:=HZ4.out.frozen 4
 go_wp2_with fail
 have hz7:=HZ4.out.put5 (.int .i64 3) (.int .i64 12) (.int .i64 12) (.int .i64 6) (.int .i64 32)
 have hb7:=below_put5 HB4.out HG.out (.int .i64 3) (.int .i64 12) (.int .i64 12) (.int .i64 6) (.int .i64 32)
 clear x0 x1 x2 x3 x4 y0 y1 y2 y3 y4 f0 f1 f2 f3 f4
 generalize ((((w4.setCell ⟨g,0,none⟩ (.int .i64 3)).setCell ⟨g,1,none⟩ (.int .i64 12)).setCell ⟨g,2,none⟩ (.int .i64 12)).setCell ⟨g,3,none⟩ (.int .i64 6)).setCell ⟨g,4,none⟩ (.int .i64 32)=W7 at hz7 hb7 ⊢
 obtain ⟨q0,q1,q2,q3,q4⟩:=hz7.five
 exact bodyPost_ret (v := .tuple #[.agg #[.int .i64 3, .int .i64 12, .int .i64 12, .int .i64 6, .int .i64 32], .int .i64 0]) (by simp [results,Tryz.results65,go_sem,q0,q1,q2,q3,q4]) rfl ⟨rfl,hb7⟩
theorem readS_size {D:Dk} (h:D.wf) (at_:Int) (n:Nat):(D.readS at_ n).size≤n*64:=by
 unfold Dk.readS
 split
 ·rw [str_size,Int.toNat_natCast,Dk.readL_len h]
  omega
 ·exact Nat.zero_le _
end Go.Proofs.YtohgabdmmbngbaaGreatDoor
