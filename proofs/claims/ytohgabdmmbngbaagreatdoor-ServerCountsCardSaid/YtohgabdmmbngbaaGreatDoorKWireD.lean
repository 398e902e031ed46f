import Derived.Test.YtohgabdmmbngbaaGreatDoorKWin
import Derived.Lib.AppendStr
import Derived.Lib.AppendZerosOnto
import Derived.Deep.Cut
import Derived.Deep.DeepCutAuto
import Derived.Deep.CutBlock
import Derived.Deep.CutRange
import Derived.Lib.BufferRead
namespace Go.Proofs.YtohgabdmmbngbaaGreatDoor
open Go.RowKit
def bv (b:UInt8):Value := .int .u8 b.toNat
def bvs (l:List UInt8):List Value:=l.map bv
theorem bvs_len (l:List UInt8):(bvs l).length=l.length:=by simp [bvs]
theorem bvs_app (l m:List UInt8):bvs (l++m)=bvs l++bvs m:=by simp [bvs]
theorem bvs_one (l:List UInt8):∀u∈bvs l,u.oneCell'=true:=by
 intro u hu
 obtain ⟨b,_,rfl⟩:=List.mem_map.1 hu
 rfl
structure Wr where
 bs:List UInt8
 e:Int
def WrAt (T:TypeId) (o:Nat→Nat) (c:Nat) (w:World) (p:Nat) (W:Wr):Prop :=
 ∃v,Blk w p T #[v, .int .i64 W.e]∧o p=c∧OwnS o c w 5 1 v W.bs.length (bvs W.bs)
section
variable {T:TypeId} {o o':Nat→Nat} {c:Nat} {D:Nat→Prop} {w w':World} {p:Nat} {W:Wr}
theorem WrAt.step (h:WrAt T o c w p W) (hk:Step o D w o' w') (hne:¬D c):WrAt T o' c w' p W:=by
 obtain ⟨v,hb,hc,hv⟩:=h
 exact ⟨v,hb.step hk (by rw [hc];exact hne),(hk.old p hb.lt).trans hc,hv.step hk hne⟩
theorem WrAt.below_ (h:WrAt T o c w p W) (hb:Below w.heap.size w w'):WrAt T o c w' p W:=by
 obtain ⟨v,h1,h2,h3⟩:=h
 exact ⟨v,h1.below_ hb,h2,h3.below_ hb⟩
theorem WrAt.alloc (h:WrAt T o c w p W) (x:Obj):WrAt T o c (w.alloc x) p W:=h.below_ ((Below.refl _ _).alloc (Nat.le_refl _) x)
theorem WrAt.drewN (h:WrAt T o c w p W) (n:Nat):WrAt T o c (w.drewN n) p W:=h
theorem WrAt.open_ (h:WrAt T o c w p W):∃A cap,w.cell? ⟨p,0,none⟩=some (.slice A W.bs.length cap)∧w.cell? ⟨p,1,none⟩=some (.int .i64 W.e)∧w.frozen? ⟨p,0,none⟩=false∧w.frozen? ⟨p,1,none⟩=false∧W.bs.length≤cap∧cap≤9223372036854775807∧p<w.heap.size ∧
 Hid (Blk w p T #[.slice A W.bs.length cap, .int .i64 W.e])∧Hid (o p=c)∧Hid (OwnS o c w 5 1 (.slice A W.bs.length cap) W.bs.length (bvs W.bs)):=by
 obtain ⟨v,hb,hc,hv⟩:=h
 rcases hv.1.2 with ⟨rfl,h0⟩ | ⟨g,cap,cur,rfl,_,_,h1,h2,_⟩
 ·refine ⟨none,0,?_⟩
  have hv':=hv
  rw [h0] at hv' ⊢
  have hb':Blk w p T #[.slice none 0 0, .int .i64 W.e]:=hb
  exact ⟨hb'.cell 0,hb'.cell 1,hb'.frozen 0,hb'.frozen 1,Nat.le_refl _,by omega,hb'.lt,hb',hc,hv'⟩
 ·unfold maxLen at h2
  exact ⟨some ⟨g,0,none⟩,cap,hb.cell 0,hb.cell 1,hb.frozen 0,hb.frozen 1,h1,by omega,hb.lt,hb,hc,hv⟩
theorem WrAt.setE (h:WrAt T o c w p W) (hT:T≠5) (e:Int):WrAt T o c (w.setCell ⟨p,1,none⟩ (.int .i64 e)) p {W with e:=e}:=by
 obtain ⟨v,hb,hc,hv⟩:=h
 exact ⟨v,hb.set_ 1 _,hc,hv.setCell (p:=⟨p,1,none⟩) (own_blk_ne hv hb (fun e=>hT e.symm)) _⟩
theorem WrAt.setB {A:Option Addr} {cap:Nat} {l:List UInt8} {cs:Value} (hb:Blk w p T #[cs, .int .i64 W.e]) (hc:o p=c) (hT:T≠5) (hv:OwnS o c w 5 1 (.slice A l.length cap) l.length (bvs l)) :
 WrAt T o c (w.setCell ⟨p,0,none⟩ (.slice A l.length cap)) p {W with bs:=l} :=
 ⟨_,hb.set_ 0 _,hc,hv.setCell (p:=⟨p,0,none⟩) (own_blk_ne hv hb (fun e=>hT e.symm)) _⟩
end
def numOk (v:Nat) (n:Int):Prop:=1≤n∧n≤8∧v<256 ^ n.toNat
instance (v:Nat) (n:Int):Decidable (numOk v n):=inferInstanceAs (Decidable (_∧_∧_))
section
variable {o:Nat→Nat} {c:Nat} {w:World} {p:Nat} {W:Wr}
set_option maxHeartbeats 400000 in
theorem fails_old (h:WrAt 256 o c w p W) (he:W.e≠0) (e:Int) :
 Calls Tryz.prog 226 #[.pointer (some ⟨p,0,none⟩), .int .i64 e] w fun r w'=>r = .returned (.bool true)∧w=w':=by
 obtain ⟨A,cap,h0,h1,f0,f1,hc1,hc2,hlt,HB,HC,HV⟩:=h.open_
 have t1:(W.e == 0)=false:=beq_eq_false_iff_ne.2 he
 have t2:(W.e != 0)=true:=bne_iff_ne.2 he
 clear h
 go_enter Tryz.func226,Tryz.ntmps226
 go_wp2
 go_ret
 exact ⟨rfl,rfl⟩
set_option maxHeartbeats 400000 in
theorem fails_new (h:WrAt 256 o c w p W) (he:W.e=0) (e:Int) (hne:e≠0) :
 Calls Tryz.prog 226 #[.pointer (some ⟨p,0,none⟩), .int .i64 e] w fun r w'=>r = .returned (.bool true)∧WrAt 256 o c w' p {W with e:=e}∧Step o (only c) w o w':=by
 have HW:=Lib.hid h
 obtain ⟨A,cap,h0,h1,f0,f1,hc1,hc2,hlt,HB,HC,HV⟩:=h.open_
 rw [he] at h1
 have t2:(e != 0)=true:=bne_iff_ne.2 hne
 clear h he
 go_enter Tryz.func226,Tryz.ntmps226
 go_wp2
 go_ret
 exact ⟨rfl,HW.out.setE (by decide) e,(Step.refl o (only c) w).setCell (p:=⟨p,1,none⟩) HC.out _⟩
set_option maxHeartbeats 400000 in
theorem fails_ok (h:WrAt 256 o c w p W) (he:W.e=0) :
 Calls Tryz.prog 226 #[.pointer (some ⟨p,0,none⟩), .int .i64 0] w fun r w'=>r = .returned (.bool false)∧WrAt 256 o c w' p W∧Step o (only c) w o w':=by
 have HW:=Lib.hid h
 obtain ⟨A,cap,h0,h1,f0,f1,hc1,hc2,hlt,HB,HC,HV⟩:=h.open_
 rw [he] at h1
 have HE:=Lib.hid he
 clear h he
 go_enter Tryz.func226,Tryz.ntmps226
 go_wp2
 go_ret
 have h9:=HW.out.setE (by decide) 0
 have e9:({W with e:=0}:Wr)=W:=by
  have:=HE.out
  cases W
  simp at this
  subst this
  rfl
 rw [e9] at h9
 exact ⟨rfl,h9,(Step.refl o (only c) w).setCell (p:=⟨p,1,none⟩) HC.out _⟩
end
theorem wrongNum_out (v n:Int) (w:World) (h:n<1∨8<n):Calls Tryz.prog 223 #[.int .u64 v, .int .i64 n] w fun e w'=>e = .returned (.int .i64 1)∧w=w':=by
 by_cases h0:n<1
 ·go_enter Tryz.func223,Tryz.ntmps223
  go_wp2
  go_ret
  exact ⟨rfl,rfl⟩
 ·have h1:8<n:=by omega
  go_enter Tryz.func223,Tryz.ntmps223
  go_wp2
  go_ret
  exact ⟨rfl,rfl⟩
theorem wrongNum_8 (v:Nat) (w:World):Calls Tryz.prog 223 #[.int .u64 v, .int .i64 8] w fun e w'=>e = .returned (.int .i64 0)∧w=w':=by
 go_enter Tryz.func223,Tryz.ntmps223
 go_wp2
 go_ret
 exact ⟨rfl,rfl⟩
theorem wrongNum_in (v:Nat) (n:Int) (hv:v<18446744073709551616) (h1:1≤n) (h7:n≤7) (w:World) :
 Calls Tryz.prog 223 #[.int .u64 v, .int .i64 n] w fun e w'=>e = .returned (.int .i64 (if v<256 ^ n.toNat then 0 else 1))∧w=w':=by
 have hn:n=1∨n=2∨n=3∨n=4∨n=5∨n=6∨n=7:=by omega
 rcases hn with rfl | rfl | rfl | rfl | rfl | rfl | rfl
 ·have e:(if v<256 ^ (1:Int).toNat then (0:Int) else 1)=if v<256 then 0 else 1:=rfl
  rw [e]
  clear e h1 h7
  by_cases hk:v<256
  ·have t1:((v:Int) / 256 != 0)=false:=by simp;omega
   rw [if_pos hk]
   clear hk
   go_enter Tryz.func223,Tryz.ntmps223
   go_wp2
   go_ret
   exact ⟨rfl,rfl⟩
  ·have t1:((v:Int) / 256 != 0)=true:=by simp;omega
   rw [if_neg hk]
   clear hk
   go_enter Tryz.func223,Tryz.ntmps223
   go_wp2
   go_ret
   exact ⟨rfl,rfl⟩
 ·have e:(if v<256 ^ (2:Int).toNat then (0:Int) else 1)=if v<65536 then 0 else 1:=rfl
  rw [e]
  clear e h1 h7
  by_cases hk:v<65536
  ·have t1:((v:Int) / 65536 != 0)=false:=by simp;omega
   rw [if_pos hk]
   clear hk
   go_enter Tryz.func223,Tryz.ntmps223
   go_wp2
   go_ret
   exact ⟨rfl,rfl⟩
  ·have t1:((v:Int) / 65536 != 0)=true:=by simp;omega
   rw [if_neg hk]
   clear hk
   go_enter Tryz.func223,Tryz.ntmps223
   go_wp2
   go_ret
   exact ⟨rfl,rfl⟩
 ·have e:(if v<256 ^ (3:Int).toNat then (0:Int) else 1)=if v<16777216 then 0 else 1:=rfl
  rw [e]
  clear e h1 h7
  by_cases hk:v<16777216
  ·have t1:((v:Int) / 16777216 != 0)=false:=by simp;omega
   rw [if_pos hk]
   clear hk
   go_enter Tryz.func223,Tryz.ntmps223
   go_wp2
   go_ret
   exact ⟨rfl,rfl⟩
  ·have t1:((v:Int) / 16777216 != 0)=true:=by simp;omega
   rw [if_neg hk]
   clear hk
   go_enter Tryz.func223,Tryz.ntmps223
   go_wp2
   go_ret
   exact ⟨rfl,rfl⟩
 ·have e:(if v<256 ^ (4:Int).toNat then (0:Int) else 1)=if v<4294967296 then 0 else 1:=rfl
  rw [e]
  clear e h1 h7
  by_cases hk:v<4294967296
  ·have t1:((v:Int) / 4294967296 != 0)=false:=by simp;omega
   rw [if_pos hk]
   clear hk
   go_enter Tryz.func223,Tryz.ntmps223
   go_wp2
   go_ret
   exact ⟨rfl,rfl⟩
  ·have t1:((v:Int) / 4294967296 != 0)=true:=by simp;omega
   rw [if_neg hk]
   clear hk
   go_enter Tryz.func223,Tryz.ntmps223
   go_wp2
   go_ret
   exact ⟨rfl,rfl⟩
 ·have e:(if v<256 ^ (5:Int).toNat then (0:Int) else 1)=if v<1099511627776 then 0 else 1:=rfl
  rw [e]
  clear e h1 h7
  by_cases hk:v<1099511627776
  ·have t1:((v:Int) / 1099511627776 != 0)=false:=by simp;omega
   rw [if_pos hk]
   clear hk
   go_enter Tryz.func223,Tryz.ntmps223
   go_wp2
   go_ret
   exact ⟨rfl,rfl⟩
  ·have t1:((v:Int) / 1099511627776 != 0)=true:=by simp;omega
   rw [if_neg hk]
   clear hk
   go_enter Tryz.func223,Tryz.ntmps223
   go_wp2
   go_ret
   exact ⟨rfl,rfl⟩
 ·have e:(if v<256 ^ (6:Int).toNat then (0:Int) else 1)=if v<281474976710656 then 0 else 1:=rfl
  rw [e]
  clear e h1 h7
  by_cases hk:v<281474976710656
  ·have t1:((v:Int) / 281474976710656 != 0)=false:=by simp;omega
   rw [if_pos hk]
   clear hk
   go_enter Tryz.func223,Tryz.ntmps223
   go_wp2
   go_ret
   exact ⟨rfl,rfl⟩
  ·have t1:((v:Int) / 281474976710656 != 0)=true:=by simp;omega
   rw [if_neg hk]
   clear hk
   go_enter Tryz.func223,Tryz.ntmps223
   go_wp2
   go_ret
   exact ⟨rfl,rfl⟩
 ·have e:(if v<256 ^ (7:Int).toNat then (0:Int) else 1)=if v<72057594037927936 then 0 else 1:=rfl
  rw [e]
  clear e h1 h7
  by_cases hk:v<72057594037927936
  ·have t1:((v:Int) / 72057594037927936 != 0)=false:=by simp;omega
   rw [if_pos hk]
   clear hk
   go_enter Tryz.func223,Tryz.ntmps223
   go_wp2
   go_ret
   exact ⟨rfl,rfl⟩
  ·have t1:((v:Int) / 72057594037927936 != 0)=true:=by simp;omega
   rw [if_neg hk]
   clear hk
   go_enter Tryz.func223,Tryz.ntmps223
   go_wp2
   go_ret
   exact ⟨rfl,rfl⟩
theorem wrongNum_any (v:Nat) (n:Int) (hv:v<18446744073709551616) (w:World) :
 Calls Tryz.prog 223 #[.int .u64 v, .int .i64 n] w fun e w'=>e = .returned (.int .i64 (if numOk v n then 0 else 1))∧w=w':=by
 by_cases h0:n<1∨8<n
 ·rw [if_neg (by unfold numOk;omega)]
  exact wrongNum_out v n w h0
 ·by_cases h8:n=8
  ·subst h8
   rw [if_pos (show numOk v 8 from ⟨by omega,by omega,by simpa using hv⟩)]
   exact wrongNum_8 v w
  ·have e:(if numOk v n then (0:Int) else 1)=if v<256 ^ n.toNat then 0 else 1:=by
    by_cases hv2:v<256 ^ n.toNat
    ·rw [if_pos hv2,if_pos ⟨by omega,by omega,hv2⟩]
    ·rw [if_neg hv2,if_neg (fun h=>hv2 h.2.2)]
   rw [e]
   exact wrongNum_in v n hv (by omega) (by omega) w
def le (v:Nat):Nat→List UInt8
 | 0 => []
 | k+1=>le v k ++ [UInt8.ofNat (v / 256 ^ k)]
theorem le_len (v k:Nat):(le v k).length=k:=by
 induction k with
 | zero=>rfl
 | succ k ih=>simp [le,ih]
def Wr.num (W:Wr) (v:Nat) (n:Int):Wr:=if W.e≠0 then W else if numOk v n then {W with bs:=W.bs++le v n.toNat} else {W with e:=1}
theorem info_u8 : (Tryz.prog.info? 5).map (fun i=>(i.zero,i.size,i.bytes))=some (some (.int .u8 0),1,1):=by kernel_rfl
theorem own_form' {o:Nat→Nat} {c:Nat} {w:World} {e:TypeId} {size n:Nat} {v:Value} {xs:List Value} (h:OwnS o c w e size v n xs):∃A cap,v = .slice A n cap∧n≤cap∧cap≤maxLen:=by
 rcases h.1.2 with ⟨rfl,rfl⟩ | ⟨g,cap,cur,rfl,_,_,h1,h2,_⟩
 ·exact ⟨none,0,rfl,Nat.le_refl _,Nat.zero_le _⟩
 ·exact ⟨_,_,rfl,h1,h2⟩
section
variable {o:Nat→Nat} {c:Nat} {w:World} {p:Nat} {W:Wr}
set_option maxHeartbeats 1000000 in
theorem wnum_any (h:WrAt 256 o c w p W) (v:Nat) (n:Int) (hv:v<18446744073709551616) (hb:W.bs.length≤1000000000) :
 Calls Tryz.prog 189 #[.pointer (some ⟨p,0,none⟩), .int .u64 v, .int .i64 n] w fun r w'=>r = .returned (.pointer (some ⟨p,0,none⟩))∧∃o',WrAt 256 o' c w' p (W.num v n)∧Step o (only c) w o' w':=by
 have HW:=Lib.hid h
 clear h
 by_cases he:W.e=0
 ·by_cases hok:numOk v n
  ·have e1:W.num v n = {W with bs:=W.bs++le v n.toNat}:=by unfold Wr.num;rw [if_neg (by simpa using he),if_pos hok]
   have E1:=Lib.hid e1
   obtain ⟨hn1,hn8,_⟩:=hok
   have hok':(if numOk v n then (0:Int) else 1)=0:=if_pos ⟨hn1,hn8,by assumption⟩
   have HOK:=Lib.hid hok'
   have HE:=Lib.hid he
   have HV0:=Lib.hid hv
   clear e1 hok' he hv
   obtain ⟨i0,hi0,hz0,hz1,hz2⟩:=info_parts info_u8
   obtain ⟨m,rfl⟩:∃m:Nat,n=m:=⟨n.toNat,by omega⟩
   go_enter Tryz.func189,Tryz.ntmps189
   go_wp2_with fail
   refine (wrongNum_any v m HV0.out _).mono ?_
   rintro e w1 ⟨rfl,rfl⟩
   rw [HOK.out]
   go_wp2_with fail
   refine (fails_ok HW.out HE.out).mono ?_
   rintro e w1 ⟨rfl,hw1,hs1⟩
   have HW1:=Lib.hid hw1
   have HS1:=Lib.hid hs1
   clear hw1 hs1
   go_wp2_with fail
   go_loopw [1,18] (fun t1 t18 wr=>∃(k:Nat) (o':Nat→Nat),k≤m∧t18 = .int .i64 k∧t1 = .int .u64 ((v / 256 ^ k:Nat):Int)∧WrAt 256 o' c wr p {bs:=W.bs++le v k,e:=0}∧Step o (only c) w o' wr) (fun _ t18 _=>m - (intOf t18).toNat)
   case atStart =>
    refine ⟨0,o,Nat.zero_le _,rfl,by simp,?_,HS1.out⟩
    have:=HW1.out
    have h0:=HE.out
    cases W
    simp at h0
    subst h0
    simpa [le] using this
   case round =>
    obtain ⟨k,o1,hk,rfl,rfl,hw,hst⟩:=hrel
    have hu:v / 256 ^ k<18446744073709551616:=Nat.lt_of_le_of_lt (Nat.div_le_self _ _) HV0.out
    have hL:(W.bs++le v k).length≤1000000008:=by rw [List.length_append,le_len];omega
    have hnext:v / 256 ^ (k+1)=v / 256 ^ k / 256:=by rw [Nat.pow_succ,Nat.div_div_eq_div_mul]
    have hsn:W.bs++le v (k+1)=(W.bs++le v k) ++ [UInt8.ofNat (v / 256 ^ k)]:=by simp [le]
    have hw0:=hw
    have HNX:=Lib.hid hnext
    have HSN:=Lib.hid hsn
    clear hnext hsn
    generalize v / 256 ^ k=u at hu HNX HSN
    generalize hbs:W.bs++le v k=bs at hL hw HSN
    have HBS:=Lib.hid hbs
    clear hbs
    have HST:=Lib.hid hst
    have HWK:=Lib.hid hw0
    clear hst hw0
    by_cases hlt:k<m
    ·have hltI:(k:Int)<(m:Int):=by omega
     have hop:=hw.open_
     simp only at hop
     obtain ⟨A,cap,c0,c1,f0,f1,hc1,hc2,hpl,HB,HC,HV⟩:=hop
     have HU:=Lib.hid hu
     clear hw hu
     have hne:=own_blk_ne HV.out HB.out (by decide)
     have HNE:=Lib.hid hne
     clear hne
     go_wp2_with (at_builtin;refine wpList_append_S _ rfl (.tmp 24) (.tmp 27) 151 rfl 5 i0 _ 1 1 Tryz.underlying151 hi0 hz0 hz1 hz2 rfl (by omega) (.slice A bs.length cap) bs.length (bvs bs) rfl (HV.out.alloc _) (some ⟨wr.heap.size,0,none⟩) 1 1 [.int .u8 ((u:Int) % 256)] rfl (Reads.newAt wr 5 1 1 [.int .u8 ((u:Int) % 256)] #[.int .u8 ((u:Int) % 256)] wr.heap.size rfl rfl rfl) (by simp [Value.oneCell']) (by unfold maxLen;omega) (by omega) ?_;intro v2 w2 hown hst hg hat;have hb2:Blk w2 p 256 _:=(hg.block p (by simp;omega) (fun e=>HNE.out e.symm)).trans (HB.out.alloc _);have k0:=hb2.cell 0;have k1:=hb2.frozen 0;simp at k0 k1;obtain ⟨A2,cap2,rfl,_,_⟩:=own_form' hown;have HO2:=Lib.hid hown;have HS2:=Lib.hid hst;have HB2:=Lib.hid hb2;clear hown hst hg hat hb2)
     go_roundw
     case rel =>
      have hbv:bvs bs ++ [.int .u8 ((u:Int) % 256)]=bvs (bs ++ [UInt8.ofNat u]):=by
       rw [bvs_app]
       simp [bvs,bv]
      have h3:OwnS (band o1 (wr.alloc (.cells #[.int .u8 ((u:Int) % 256)] 5)).heap.size w2.heap.size c) c w2 5 1 (.slice A2 (bs ++ [UInt8.ofNat u]).length cap2) (bs ++ [UInt8.ofNat u]).length (bvs (bs ++ [UInt8.ofNat u])):=by
       rw [←hbv,List.length_append]
       exact HO2.out
      have hcol:=(HS2.out.old p (by simp;omega)).trans HC.out
      have h4:=WrAt.setB (W:=⟨bs,0⟩) (l:=bs ++ [UInt8.ofNat u]) HB2.out hcol (by decide) h3
      refine ⟨k+1,_,by omega,by go_num,by rw [HNX.out];simp,?_,((HST.out.alloc _).trans HS2.out).setCell (p:=⟨p,0,none⟩) hcol _⟩
      rw [HSN.out]
      rw [List.length_append] at h4
      exact h4
     case measure=>simp [intOf];omega
    ·have hltI:¬(k:Int)<(m:Int):=by omega
     go_wp2_with fail
     go_ret
     obtain rfl:k=m:=by omega
     refine ⟨rfl,o1,?_,HST.out⟩
     rw [E1.out,HE.out]
     exact HWK.out
  ·have e1:W.num v n = {W with e:=1}:=by unfold Wr.num;rw [if_neg (by simpa using he),if_neg hok]
   have E1:=Lib.hid e1
   have HOK:=Lib.hid (show (if numOk v n then (0:Int) else 1)=1 from if_neg hok)
   have HE:=Lib.hid he
   have HV0:=Lib.hid hv
   clear e1 hok he hv
   go_enter Tryz.func189,Tryz.ntmps189
   go_wp2_with fail
   refine (wrongNum_any v n HV0.out _).mono ?_
   rintro e w1 ⟨rfl,rfl⟩
   rw [HOK.out]
   go_wp2_with fail
   refine (fails_new HW.out HE.out 1 (by decide)).mono ?_
   rintro e w1 ⟨rfl,hw1,hs1⟩
   have HW1:=Lib.hid hw1
   have HS1:=Lib.hid hs1
   clear hw1 hs1
   go_wp2_with fail
   go_ret
   exact ⟨rfl,o,by rw [E1.out];exact HW1.out,HS1.out⟩
 ·have e1:W.num v n=W:=by unfold Wr.num;rw [if_pos he]
  have E1:=Lib.hid e1
  have HE:=Lib.hid he
  have HV0:=Lib.hid hv
  clear e1 he hv
  go_enter Tryz.func189,Tryz.ntmps189
  go_wp2_with fail
  refine (wrongNum_any v n HV0.out _).mono ?_
  rintro e w1 ⟨rfl,rfl⟩
  generalize (if numOk v n then (0:Int) else 1)=E
  go_wp2_with fail
  refine (fails_old HW.out HE.out _).mono ?_
  rintro e w1 ⟨rfl,rfl⟩
  go_wp2_with fail
  go_ret
  exact ⟨rfl,o,by rw [E1.out];exact HW.out,Step.refl _ _ _⟩
end
def Wr.text (W:Wr) (s:ByteArray) (room:Int):Wr :=
 if W.e≠0 then W else if room<0∨60000<room then {W with e:=1} else if room<s.size then {W with e:=2} else {W with bs:=W.bs++le s.size 2++s.data.toList}
def Wr.flag (W:Wr) (b:Bool):Wr:=W.num (if b then 1 else 0) 1
theorem Wr.num_ok {W:Wr} {v:Nat} {n:Int} (he:W.e=0) (h:numOk v n):W.num v n = {W with bs:=W.bs++le v n.toNat}:=by unfold Wr.num;rw [if_neg (by simpa using he),if_pos h]
section
variable {o:Nat→Nat} {c:Nat} {w:World} {p:Nat} {W:Wr}
def u64 (v:Int):Nat:=(v % 18446744073709551616).toNat
end
section
variable {o:Nat→Nat} {c:Nat} {w:World} {p:Nat} {W:Wr}
def str (l:List UInt8):ByteArray:=⟨l.toArray⟩
theorem conv_own {e:TypeId} {o:Nat→Nat} {c:Nat} {w:World} {A:Option Addr} {cap:Nat} {l:List UInt8} (src dst:TypeId) (hs:Tryz.prog.underlying src=some (.slice e)) (he:Tryz.prog.underlying e=some (.int .u8)) (hd:Tryz.prog.underlying dst=some .string)
 (h:OwnS o c w e 1 (.slice A l.length cap) l.length (bvs l)):(convert src dst (.slice A l.length cap)).run Tryz.prog w = .ok (.string (str l)) w:=by
 cases A with
 | none =>
   rcases h.1.2 with ⟨_,h0⟩ | ⟨g,cap',cur,hv,_⟩
   ·have hl:l = []:=List.eq_nil_of_length_eq_zero h0
    subst hl
    exact Lib.run_convert_nil_bytes w src dst e cap hs he hd
   ·simp at hv
 | some a =>
   refine run_convert_bytes_back w src dst e a cap l hs he hd (fun j hj => ?_)
   obtain ⟨ad,e1,hc⟩:=(Reads.of_own h.1).2 (by omega)
   obtain rfl:a=ad:=Option.some.inj e1
   refine hc j _ ?_
   simp [bvs,bv,List.getElem?_eq_getElem hj]
set_option maxRecDepth 100000 in
set_option maxHeartbeats 1000000 in
theorem wbytes_any (h:WrAt 256 o c w p W) :
 Calls Tryz.prog 190 #[.pointer (some ⟨p,0,none⟩)] w fun r w'=>r = .returned (.tuple #[.string (if W.e=0 then str W.bs else ⟨#[]⟩), .int .i64 W.e])∧Below w.heap.size w w':=by
 have HW:=Lib.hid h
 obtain ⟨A,cap,c0,c1,f0,f1,hc1,hc2,hpl,HB,HC,HV⟩:=h.open_
 clear h
 by_cases he:W.e=0
 ·rw [if_pos he]
  rw [he] at c1 ⊢
  have hcv:=conv_own 151 9 Tryz.underlying151 Tryz.underlying5 Tryz.underlying9 HV.out
  have HCV:=Lib.hid hcv
  clear he hc2 hcv
  go_enter Tryz.func190,Tryz.ntmps190
  go_upto_region 5 with (fail)
  have hcv:=HCV.out
  go_wp2_with fail
  go_ret2
  exact ⟨rfl,Below.refl _ _⟩
 ·rw [if_neg he]
  have t1:(W.e != 0)=true:=bne_iff_ne.2 he
  clear he
  go_enter Tryz.func190,Tryz.ntmps190
  go_wp2_with fail
  go_quiet (fail)
  go_wp2_with fail
  go_ret2
  exact ⟨rfl,⟨rfl,rfl,rfl,Nat.le_refl _,fun _ _=>rfl⟩⟩
end
end Go.Proofs.YtohgabdmmbngbaaGreatDoor
