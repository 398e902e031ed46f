import Derived.Test.YtldoeodkeieejaaGreatDoorKWireD
import Derived.Test.YtldoeodkeieejaaGreatDoorKShelf
import Derived.Lib.ConvBytes
import Derived.Outline
import Derived.Test.YtldoeodkeieejaaGreatDoorKLeaf
import Derived.MapKept
namespace Go.Proofs.YtldoeodkeieejaaGreatDoor
open Go.RowKit
structure Rd where
 b:ByteArray
 e:Int
def Rd.fail (R:Rd) (e:Int):Rd:=if R.e=0 then {R with e:=e} else R
def Rd.takeS (R:Rd) (n:Int):ByteArray:=if R.e=0∧n≤R.b.size then R.b.extract 0 n.toNat else ⟨#[]⟩
def Rd.takeR (R:Rd) (n:Int):Rd:=if R.e≠0 then R else if n≤R.b.size then {R with b:=R.b.extract n.toNat R.b.size} else {R with e:=5}
def RdAt (T:TypeId) (o:Nat→Nat) (c:Nat) (w:World) (p:Nat) (R:Rd):Prop:=Blk w p T #[.string R.b, .int .i64 R.e]∧o p=c∧R.b.size≤1000000000
section
variable {T:TypeId} {o o':Nat→Nat} {c:Nat} {D:Nat→Prop} {w w':World} {p:Nat} {R:Rd}
theorem RdAt.step (h:RdAt T o c w p R) (hk:Step o D w o' w') (hne:¬D c):RdAt T o' c w' p R:=⟨h.1.step hk (by rw [h.2.1];exact hne),(hk.old p h.1.lt).trans h.2.1,h.2.2⟩
theorem RdAt.below_ (h:RdAt T o c w p R) (hb:Below w.heap.size w w'):RdAt T o c w' p R:=⟨h.1.below_ hb,h.2⟩
theorem RdAt.alloc (h:RdAt T o c w p R) (x:Obj):RdAt T o c (w.alloc x) p R:=⟨h.1.alloc x,h.2⟩
theorem RdAt.drewN (h:RdAt T o c w p R) (n:Nat):RdAt T o c (w.drewN n) p R:=h
theorem RdAt.setE (h:RdAt T o c w p R) (e:Int):RdAt T o c (w.setCell ⟨p,1,none⟩ (.int .i64 e)) p {R with e:=e}:=⟨h.1.set_ 1 _,h.2⟩
theorem RdAt.setB (h:RdAt T o c w p R) (b:ByteArray) (hb:b.size≤1000000000):RdAt T o c (w.setCell ⟨p,0,none⟩ (.string b)) p {R with b:=b}:=⟨h.1.set_ 0 _,h.2.1,hb⟩
end
section
variable {o:Nat→Nat} {c:Nat} {w:World} {p:Nat} {R:Rd}
theorem rerr_any (h:RdAt 262 o c w p R):Calls Tryz.prog 222 #[.pointer (some ⟨p,0,none⟩)] w fun r w'=>r = .returned (.int .i64 R.e)∧w=w':=by
 have c1:w.cell? ⟨p,1,none⟩=some (.int .i64 R.e):=h.1.cell 1
 go_enter Tryz.func222,Tryz.ntmps222
 go_wp2
 go_ret
 exact ⟨rfl,rfl⟩
theorem rfail_any (h:RdAt 262 o c w p R) (e:Int):Calls Tryz.prog 196 #[.pointer (some ⟨p,0,none⟩), .int .i64 e] w fun r w'=>r = .returned (.tuple #[])∧RdAt 262 o c w' p (R.fail e)∧Step o (only c) w o w':=by
 have HR:=Lib.hid h
 have c1:w.cell? ⟨p,1,none⟩=some (.int .i64 R.e):=h.1.cell 1
 have f1:=h.1.frozen 1
 have hp:=h.1.lt
 clear h
 by_cases he:R.e=0
 ·have e1:R.fail e = {R with e:=e}:=by unfold Rd.fail;rw [if_pos he]
  have E1:=Lib.hid e1
  rw [he] at c1
  clear e1 he
  go_enter Tryz.func196,Tryz.ntmps196
  go_wp2
  go_end0
  exact ⟨rfl,by rw [E1.out];exact HR.out.setE e,(Step.refl o (only c) w).setCell (p:=⟨p,1,none⟩) HR.out.2.1 _⟩
 ·have e1:R.fail e=R:=by unfold Rd.fail;rw [if_neg he]
  have E1:=Lib.hid e1
  have t1:(R.e == 0)=false:=beq_eq_false_iff_ne.2 he
  clear e1 he
  go_enter Tryz.func196,Tryz.ntmps196
  go_wp2
  go_end0
  exact ⟨rfl,by rw [E1.out];exact HR.out,Step.refl _ _ _⟩
set_option maxHeartbeats 400000 in
theorem rtake_any (h:RdAt 262 o c w p R) (n:Int) (hn0:0≤n) (hn1:n≤9223372036854775807) :
 Calls Tryz.prog 197 #[.pointer (some ⟨p,0,none⟩), .int .i64 n] w fun r w'=>r = .returned (.string (R.takeS n))∧RdAt 262 o c w' p (R.takeR n)∧Step o (only c) w o w':=by
 have HR:=Lib.hid h
 have c0:w.cell? ⟨p,0,none⟩=some (.string R.b):=h.1.cell 0
 have c1:w.cell? ⟨p,1,none⟩=some (.int .i64 R.e):=h.1.cell 1
 have f0:=h.1.frozen 0
 have f1:=h.1.frozen 1
 have hp:=h.1.lt
 have hbs:=h.2.2
 clear h
 by_cases he:R.e=0
 ·by_cases hl:n≤R.b.size
  ·have e1:R.takeR n = {R with b:=R.b.extract n.toNat R.b.size}:=by unfold Rd.takeR;rw [if_neg (by simpa using he),if_pos hl]
   have e2:R.takeS n=R.b.extract 0 n.toNat:=by unfold Rd.takeS;rw [if_pos ⟨he,hl⟩]
   have E1:=Lib.hid e1
   have E2:=Lib.hid e2
   clear e1 e2
   obtain ⟨k,rfl⟩:∃k:Nat,n=k:=⟨n.toNat,by omega⟩
   have hk:k≤R.b.size:=by omega
   have HE:=Lib.hid he
   clear he
   go_enter Tryz.func197,Tryz.ntmps197
   go_wp2_with fail
   refine (rerr_any HR.out).mono ?_
   rintro e w1 ⟨rfl,rfl⟩
   rw [HE.out]
   go_wp2_with fail
   go_ret
   refine ⟨by rw [E2.out,Int.toNat_natCast];rfl,?_,(Step.refl o (only c) w).setCell (p:=⟨p,0,none⟩) HR.out.2.1 _⟩
   rw [E1.out,Int.toNat_natCast]
   exact HR.out.setB _ (by rw [ByteArray.size_extract];omega)
  ·have e1:R.takeR n=R.fail 5:=by unfold Rd.takeR Rd.fail;rw [if_neg (by simpa using he),if_neg hl,if_pos he]
   have e2:R.takeS n=⟨#[]⟩:=by unfold Rd.takeS;rw [if_neg (fun h=>hl h.2)]
   have E1:=Lib.hid e1
   have E2:=Lib.hid e2
   have HE:=Lib.hid he
   have hl':(R.b.size:Int)<n:=by omega
   clear e1 e2 he
   go_enter Tryz.func197,Tryz.ntmps197
   go_wp2_with fail
   refine (rerr_any HR.out).mono ?_
   rintro e w1 ⟨rfl,rfl⟩
   rw [HE.out]
   go_wp2_with fail
   refine (rfail_any HR.out 5).mono ?_
   rintro e w1 ⟨rfl,h1,s1⟩
   have H1:=Lib.hid h1
   have S1:=Lib.hid s1
   clear h1 s1
   go_wp2_with fail
   go_ret
   exact ⟨by rw [E2.out];rfl,by rw [E1.out];exact H1.out,S1.out⟩
 ·have e1:R.takeR n=R:=by unfold Rd.takeR;rw [if_pos he]
  have e2:R.takeS n=⟨#[]⟩:=by unfold Rd.takeS;rw [if_neg (fun h=>he h.1)]
  have E1:=Lib.hid e1
  have E2:=Lib.hid e2
  have t1:(R.e != 0)=true:=bne_iff_ne.2 he
  clear e1 e2 he
  go_enter Tryz.func197,Tryz.ntmps197
  go_wp2_with fail
  refine (rerr_any HR.out).mono ?_
  rintro e w1 ⟨rfl,rfl⟩
  go_wp2_with fail
  go_ret
  exact ⟨by rw [E2.out];rfl,by rw [E1.out];exact HR.out,Step.refl _ _ _⟩
end
def lev : List UInt8→Nat
 | []=>0
 | b :: r=>b.toNat+256*lev r
theorem lev_lt (l:List UInt8):lev l<256 ^ l.length:=by
 induction l with
 | nil=>simp [lev]
 | cons b r ih =>
   have:=b.toNat_lt
   simp only [lev,List.length_cons,Nat.pow_succ]
   omega
theorem lev_snoc (l:List UInt8) (b:UInt8):lev (l ++ [b])=lev l+b.toNat*256 ^ l.length:=by
 induction l with
 | nil=>simp [lev]
 | cons c r ih =>
   simp only [List.cons_append,lev,ih,List.length_cons,Nat.pow_succ]
   rw [Nat.mul_add,Nat.mul_left_comm 256 b.toNat,Nat.mul_comm (256 ^ r.length) 256,Nat.add_assoc]
def Rd.numV (R:Rd) (n:Int):Nat:=if 1≤n∧n≤8 then lev (R.takeS n).data.toList else 0
def Rd.numR (R:Rd) (n:Int):Rd:=if 1≤n∧n≤8 then R.takeR n else R.fail 1
theorem takeS_size (R:Rd) (n:Int) (h0:0≤n):((R.takeS n).size:Int)≤n:=by
 unfold Rd.takeS
 split
 ·rw [ByteArray.size_extract];omega
 ·exact h0
theorem or_byte (v k:Nat) (b:UInt8) (hv:v<256 ^ k) (hk:k≤7):bits BinOp.or IntKind.u64 (v:Int) (IntKind.u64.wrap (IntKind.u64.wrap (b.toNat:Int)*2 ^ (8*k)))=((v+b.toNat*256 ^ k:Nat):Int):=by
 have hp:256 ^ k=2 ^ (8*k):=by rw [show 256=2 ^ 8 from rfl,←Nat.pow_mul]
 have hb:=b.toNat_lt
 have hle:2 ^ (8*k+8)≤2 ^ 64:=Nat.pow_le_pow_right (by decide) (by omega)
 have hs:2 ^ (8*k+8)=2 ^ (8*k)*256:=by rw [Nat.pow_add]
 rw [hp] at hv ⊢
 have hm:b.toNat*2 ^ (8*k)≤255*2 ^ (8*k):=Nat.mul_le_mul_right _ (by omega)
 have h64:(2:Nat) ^ 64=18446744073709551616:=rfl
 have hsum:v+b.toNat*2 ^ (8*k)<18446744073709551616:=by omega
 have e1:IntKind.u64.wrap (b.toNat:Int)=(b.toNat:Int):=by rw [IntKind.wrap_u64];omega
 have e2:(b.toNat:Int)*2 ^ (8*k)=((b.toNat*2 ^ (8*k):Nat):Int):=by simp
 have e3:IntKind.u64.wrap ((b.toNat*2 ^ (8*k):Nat):Int)=((b.toNat*2 ^ (8*k):Nat):Int):=by rw [IntKind.wrap_u64];omega
 rw [e1,e2,e3]
 have hor:v ||| b.toNat*2 ^ (8*k)=v+b.toNat*2 ^ (8*k):=by
  rw [Nat.or_comm,Nat.mul_comm,←Nat.two_pow_add_eq_or_of_lt hv,Nat.add_comm]
 generalize b.toNat*2 ^ (8*k)=y at *
 have e4:(BitVec.ofInt IntKind.u64.bits (v:Int) ||| BitVec.ofInt IntKind.u64.bits (y:Int)).toNat=v+y:=by
  rw [BitVec.toNat_or,BitVec.ofInt_natCast,BitVec.ofInt_natCast,BitVec.toNat_ofNat,BitVec.toNat_ofNat]
  have hbits:2 ^ IntKind.u64.bits=18446744073709551616:=rfl
  rw [hbits,Nat.mod_eq_of_lt (by omega),Nat.mod_eq_of_lt (by omega),hor]
 unfold bits
 simp only [e4]
 rw [IntKind.wrap_u64]
 omega
theorem below_bytes (w:World) (e:TypeId) (s:ByteArray):Below w.heap.size w (Lib.bytesWorld w e s):=⟨rfl,rfl,rfl,by rw [Lib.bytesWorld_size];omega,fun k hk=>Lib.bytesWorld_at_old w e s k hk⟩
section
variable {o:Nat→Nat} {c:Nat} {w:World} {p:Nat} {R:Rd}
set_option maxRecDepth 100000 in
set_option maxHeartbeats 1000000 in
theorem rnum_any (h:RdAt 262 o c w p R) (n:Int) :
 Calls Tryz.prog 161 #[.pointer (some ⟨p,0,none⟩), .int .i64 n] w fun r w'=>r = .returned (.int .u64 (R.numV n))∧∃o',RdAt 262 o' c w' p (R.numR n)∧Step o (only c) w o' w':=by
 have HR:=Lib.hid h
 clear h
 by_cases hn:1≤n∧n≤8
 ·have e1:R.numR n=R.takeR n:=by unfold Rd.numR;rw [if_pos hn]
  have e2:R.numV n=lev (R.takeS n).data.toList:=by unfold Rd.numV;rw [if_pos hn]
  have E1:=Lib.hid e1
  have E2:=Lib.hid e2
  have HOK:=Lib.hid (show (if numOk 0 n then (0:Int) else 1)=0 from if_pos ⟨hn.1,hn.2,Nat.pow_pos (by decide)⟩)
  obtain ⟨hn1,hn8⟩:=hn
  clear e1 e2
  have hsz:=takeS_size R n (by omega)
  go_enter Tryz.func161,Tryz.ntmps161
  go_wp2_with fail
  refine (wrongNum_any 0 n (by omega) _).mono ?_
  rintro e w1 ⟨rfl,rfl⟩
  rw [HOK.out]
  go_wp2_with fail
  refine (rtake_any HR.out n (by omega) (by omega)).mono ?_
  rintro e w2 ⟨rfl,h2,s2⟩
  have H2:=Lib.hid h2
  have S2:=Lib.hid s2
  clear h2 s2
  generalize hS:R.takeS n=S at hsz E2
  have HS:=Lib.hid hS
  clear hS
  have hcv:=fun w=>Lib.run_convert_string_bytes (P:=Tryz.prog) w 9 84 5 S Tryz.underlying9 Tryz.underlying84 Tryz.underlying5
  go_wp2_with fail
  have hcell:∀j,j<S.size→(Lib.bytesWorld w2 5 S).cell? ⟨w2.heap.size,j,none⟩=some (.int .u8 (S.data.toList.getD j 0).toNat):=fun j hj=>Lib.bytesWorld_cell w2 5 S j hj
  have hbw:=below_bytes w2 5 S
  have HCELL:=Lib.hid hcell
  have HBW:=Lib.hid hbw
  clear hcell hbw hcv
  generalize Lib.bytesWorld w2 5 S=W3 at HCELL HBW ⊢
  generalize w2.heap.size=B at HCELL ⊢
  have hs8:(S.size:Int)≤8:=by omega
  go_loop [6,21] (fun t6 t21=>∃k:Nat,k≤S.size∧t21 = .int .i64 k∧t6 = .int .u64 ((lev (S.data.toList.take k):Nat):Int)) (fun _ t21=>S.size - (intOf t21).toNat)
  case atStart=>exact ⟨0,Nat.zero_le _,rfl,rfl⟩
  case round =>
   obtain ⟨k,hk,rfl,rfl⟩:=hrel
   by_cases hlt:k<S.size
   ·have hltI:(k:Int)<(S.size:Int):=by omega
    have hc:=HCELL.out k hlt
    have hk7:k≤7:=by omega
    have hkl:(S.data.toList.take k).length=k:=by rw [List.length_take];exact Nat.min_eq_left (Nat.le_of_lt hlt)
    have hvl:=lev_lt (S.data.toList.take k)
    rw [hkl] at hvl
    have htk:S.data.toList.take (k+1)=S.data.toList.take k ++ [S.data.toList.getD k 0]:=by
     rw [List.take_add_one,List.getElem?_eq_getElem hlt]
     simp [List.getD,List.getElem?_eq_getElem hlt]
    have HKL:=Lib.hid hkl
    have HTK:=Lib.hid htk
    clear hkl htk
    generalize hv:lev (S.data.toList.take k)=v at hvl
    have HV:=Lib.hid hv
    have HVL:=Lib.hid hvl
    clear hv hvl
    generalize S.data.toList.getD k 0=b at hc HTK
    go_wp2_with fail
    go_round
    case rel =>
     refine ⟨k+1,by omega,by go_num,?_⟩
     rw [HTK.out,lev_snoc,HV.out,HKL.out,or_byte v k b HVL.out hk7]
    case measure=>simp [intOf];omega
   ·have hltI:¬(k:Int)<(S.size:Int):=by omega
    go_wp2_with fail
    go_ret
    have hke:k=S.size:=by omega
    have htl:S.data.toList.take k=S.data.toList:=List.take_of_length_le (by rw [hke];exact Nat.le_refl _)
    refine ⟨?_,o,?_,?_⟩
    ·rw [E2.out,htl];rfl
    ·rw [E1.out];exact H2.out.below_ HBW.out
    ·exact S2.out.trans (Step.of_below _ _ HBW.out)
 ·have e1:R.numR n=R.fail 1:=by unfold Rd.numR;rw [if_neg hn]
  have e2:R.numV n=0:=by unfold Rd.numV;rw [if_neg hn]
  have E1:=Lib.hid e1
  have E2:=Lib.hid e2
  have HOK:=Lib.hid (show (if numOk 0 n then (0:Int) else 1)=1 from if_neg (fun h=>hn ⟨h.1,h.2.1⟩))
  clear e1 e2 hn
  go_enter Tryz.func161,Tryz.ntmps161
  go_wp2_with fail
  refine (wrongNum_any 0 n (by omega) _).mono ?_
  rintro e w1 ⟨rfl,rfl⟩
  rw [HOK.out]
  go_wp2_with fail
  refine (rfail_any HR.out 1).mono ?_
  rintro e w2 ⟨rfl,h2,s2⟩
  have H2:=Lib.hid h2
  have S2:=Lib.hid s2
  clear h2 s2
  go_wp2_with fail
  go_ret
  exact ⟨by rw [E2.out];rfl,o,by rw [E1.out];exact H2.out,S2.out⟩
end
theorem numV_lt (R:Rd) (n:Int) (h0:0≤n):R.numV n<256 ^ n.toNat:=by
 unfold Rd.numV
 split
 ·have h1:=lev_lt (R.takeS n).data.toList
  have h2:=takeS_size R n h0
  have h3:(R.takeS n).data.toList.length=(R.takeS n).size:=rfl
  exact Nat.lt_of_lt_of_le h1 (Nat.pow_le_pow_right (by decide) (by omega))
 ·exact Nat.pow_pos (by decide)
def Rd.countV (R:Rd) (most:Int):Int:=if (R.numR 2).e=0∧most<(R.numV 2:Int) then (0:Int) else (R.numV 2:Int)
def Rd.countR (R:Rd) (most:Int):Rd:=if (R.numR 2).e=0∧most<R.numV 2 then {R.numR 2 with e:=2} else R.numR 2
theorem clone_any (s:ByteArray) (w:World) (hlim:s.size≤281474976710656):Calls Tryz.prog 81 #[.string s] w fun e w'=>e = .returned (.string s)∧Below w.heap.size w w':=by
 go_enter Tryz.func81,Tryz.ntmps81
 go_wp2_with (go_at_call 154;refine (Tryz.stringslite_Clone s _ hlim).mono ?_;rintro e w' ⟨rfl,hb⟩)
 go_ret
 exact ⟨rfl,hb⟩
theorem newreader_any (o:Nat→Nat) (c:Nat) (b:ByteArray) (w:World) (hb:b.size≤1000000000) :
 Calls Tryz.prog 160 #[.string b] w fun e w'=>∃p o',e = .returned (.pointer (some ⟨p,0,none⟩))∧RdAt 262 o' c w' p ⟨b,0⟩∧Below w.heap.size w w'∧∀C,Step o C w o' w':=by
 go_enter Tryz.func160,Tryz.ntmps160
 go_wp2_with (go_at_call 81;refine (clone_any b _ (by omega)).mono ?_;rintro e w1 ⟨rfl,hb1⟩)
 go_ret
 have hs:=hb1.size
 have hbl:Below w.heap.size w (w1.alloc (.cells #[.string b, .int .i64 0] 262)):=hb1.alloc hb1.size _
 have e1:(w1.alloc (.cells #[.string b, .int .i64 0] 262)).heap.size=w1.heap.size+1:=by simp
 refine ⟨w1.heap.size,band o w1.heap.size (w1.heap.size+1) c,rfl,⟨Blk.new _ _ _,band_in (Nat.le_refl _) (by omega),hb⟩,hbl,fun C=>⟨hbl.os,hbl.tape,hbl.output,hbl.size,fun k hk=>band_lt (by omega),fun k hk=>band_ge (by omega),fun k hk _=>hbl.block k hk⟩⟩
def zeros (b:ByteArray):Prop:=∀x∈b.data.toList,x=0
instance (b:ByteArray):Decidable (zeros b):=inferInstanceAs (Decidable (∀x∈_,_))
def Rd.endV (R:Rd):Int:=if R.e≠0 then R.e else if zeros R.b then 0 else 4
theorem zeros_dw (r:List UInt8):(∀x∈r.dropWhile (· == 0),x=0)↔∀x∈r,x=0:=by
 induction r with
 | nil=>simp
 | cons a r ih =>
   by_cases h:a=0
   ·subst h
    have e:List.dropWhile (fun x:UInt8=>x == 0) ((0:UInt8) :: r)=r.dropWhile (· == 0):=by simp [List.dropWhile]
    rw [e,ih]
    simp
   ·have e:List.dropWhile (fun x:UInt8=>x == 0) (a :: r)=a :: r:=by
     have hb:(a == 0)=false:=beq_eq_false_iff_ne.2 h
     simp [List.dropWhile,hb]
    rw [e]
theorem dw_nil (l:List UInt8):l.dropWhile (· == 0) = []↔∀x∈l,x=0:=by
 induction l with
 | nil=>simp
 | cons a r ih =>
   by_cases h:a=0
   ·subst h
    have e:List.dropWhile (fun x:UInt8=>x == 0) ((0:UInt8) :: r)=r.dropWhile (· == 0):=by simp [List.dropWhile]
    rw [e,ih]
    simp
   ·have e:List.dropWhile (fun x:UInt8=>x == 0) (a :: r)=a :: r:=by
     have hb:(a == 0)=false:=beq_eq_false_iff_ne.2 h
     simp [List.dropWhile,hb]
    rw [e]
    simp [h]
theorem trim_nil (l:List UInt8):Lib.trimB l 0 = []↔∀x∈l,x=0:=by
 unfold Lib.trimB Lib.trimLeftB Lib.trimRightB
 rw [dw_nil]
 have h:=zeros_dw l.reverse
 simp only [List.mem_reverse] at h
 rw [←h]
 simp
def digs : Nat→Nat→List UInt8→List UInt8
 | 0,_,acc=>acc
 | f+1,n,acc=>if n / 10=0 then UInt8.ofNat (48+n % 10) :: acc else digs f (n / 10) (UInt8.ofNat (48+n % 10) :: acc)
def digits (v:Int):List UInt8:=if v<0 then 45 :: digs 20 v.natAbs [] else digs 20 v.natAbs []
theorem conv_at {w:World} {g j n cap:Nat} {t:TypeId} {cs:Array Value} {l:List UInt8} (hb:Blk w g t cs) (hd:cs.toList.drop j=bvs l) (hn:l.length=n) :
 (convert 84 9 (.slice (some ⟨g,j,none⟩) n cap)).run Tryz.prog w = .ok (.string (str l)) w:=by
 subst hn
 refine run_convert_bytes_back w 84 9 5 _ cap l Tryz.underlying84 Tryz.underlying5 Tryz.underlying9 (fun i hi => ?_)
 have e:(⟨g,j,none⟩:Addr).add i=⟨g,j+i,none⟩:=by unfold Addr.add;split <;> simp_all
 rw [e,hb.cell,←Array.getElem?_toList,←List.getElem?_drop,hd]
 simp [bvs,bv,List.getElem?_eq_getElem hi]
structure Env (o:Nat→Nat) (w0 w:World):Prop where
 low:Below w0.heap.size w0 w
 old:∀k,k<w0.heap.size→o k=0
section
variable {o o':Nat→Nat} {C:Nat→Prop} {w0 w w':World}
theorem Env.start (w:World):Env (fun _=>0) w w:=⟨Below.refl _ _,fun _ _=>rfl⟩
theorem Env.step (h:Env o w0 w) (hs:Step o C w o' w') (h0:¬C 0):Env o' w0 w' :=
 ⟨h.low.trans (hs.below (fun k hk=>by rw [h.old k hk];exact h0) h.low.size),fun k hk=>(hs.old k (Nat.lt_of_lt_of_le hk h.low.size)).trans (h.old k hk)⟩
theorem Env.below_ (h:Env o w0 w) (hb:Below w.heap.size w w'):Env o w0 w':=h.step (Step.of_below o (fun _=>False) hb) (by simp)
theorem Env.drewN (h:Env o w0 w) (n:Nat):Env o w0 (w.drewN n):=⟨⟨h.low.os,h.low.tape,h.low.output,h.low.size,h.low.block⟩,h.old⟩
theorem Env.alloc (h:Env o w0 w) (x:Obj):Env o w0 (w.alloc x):=h.below_ ((Below.refl _ _).alloc (Nat.le_refl _) x)
end
theorem wr_new (T:TypeId) (o:Nat→Nat) (c:Nat) (w:World):∃o',WrAt T o' c (w.alloc (.cells #[.slice none 0 0, .int .i64 0] T)) w.heap.size ⟨[],0⟩∧∀C,Step o C w o' (w.alloc (.cells #[.slice none 0 0, .int .i64 0] T)):=by
 refine ⟨band o w.heap.size (w.alloc (.cells #[.slice none 0 0, .int .i64 0] T)).heap.size c,⟨_,Blk.new _ _ _,band_in (Nat.le_refl _) (by simp),OwnS.nil _ _ _ _ _⟩,fun C => ?_⟩
 exact Step.of_below_band o C c ((Below.refl _ _).alloc (Nat.le_refl _) _)
namespace Al
def A : ByteArray:=⟨#[97]⟩
theorem w1 : ((Wr.num ⟨[],0⟩ 258 2).text A 9).flag true=⟨[2,1,1,0,97,1],0⟩:=by kernel_rfl
def B : ByteArray:=⟨#[2,1,5]⟩
theorem r1 : Rd.numV ⟨B,0⟩ 2=258:=by kernel_rfl
theorem r2 : (Rd.numR ⟨B,0⟩ 2).endV=4:=by kernel_rfl
theorem d7 : str (digits (-7))=⟨#[45,55]⟩:=by kernel_rfl
theorem s1 : (str [2,1,1,0,97,1]).toList = [2,1,1,0,97,1]:=by decide +kernel
theorem s2 : ((str (digits (-7))).toList == [45,55])=true:=by decide +kernel
theorem l1 : (Wr.num ⟨[],0⟩ 258 2).bs.length≤1000000000:=by decide +kernel
theorem l2 : ((Wr.num ⟨[],0⟩ 258 2).text A 9).bs.length≤1000000000:=by decide +kernel
end Al
theorem str_size (l:List UInt8):(str l).size=l.length:=by simp [str,ByteArray.size]
theorem str_list (l:List UInt8):(str l).data.toList=l:=by simp [str]
theorem str_ext {a b:ByteArray} (h:a.data.toList=b.data.toList):a=b:=by
 cases a;cases b
 congr 1
 exact Array.toList_inj.1 h
theorem str_of (b:ByteArray):str b.data.toList=b:=str_ext (by rw [str_list])
theorem extract_list (b:ByteArray) (i j:Nat):(b.extract i j).data.toList=(b.data.toList.take j).drop i:=by
 rw [ByteArray.data_extract,Array.toList_extract]
 rw [List.drop_take]
theorem lev_le (v k:Nat):lev (le v k)=v % 256 ^ k:=by
 induction k with
 | zero=>simp [le,lev,Nat.mod_one]
 | succ k ih =>
   have h1:(UInt8.ofNat (v / 256 ^ k)).toNat=v / 256 ^ k % 256:=by simp
   rw [le,lev_snoc,ih,le_len,h1,Nat.pow_succ,Nat.mod_mul,Nat.mul_comm (256 ^ k)]
theorem takeS_app (l m:List UInt8) {n:Int} (h:n=l.length):(⟨str (l++m),0⟩:Rd).takeS n=str l:=by
 subst h
 unfold Rd.takeS
 rw [if_pos ⟨rfl,by rw [str_size,List.length_append];omega⟩]
 refine str_ext ?_
 rw [extract_list,str_list,str_list]
 simp
theorem takeR_app (l m:List UInt8) {n:Int} (h:n=l.length):(⟨str (l++m),0⟩:Rd).takeR n=⟨str m,0⟩:=by
 subst h
 unfold Rd.takeR
 rw [if_neg (by simp),if_pos (by rw [str_size,List.length_append];omega)]
 simp only [Rd.mk.injEq,and_true]
 refine str_ext ?_
 rw [extract_list,str_list,str_list,str_size,Int.toNat_natCast,List.take_of_length_le (Nat.le_refl _),List.drop_left]
theorem num_app {v:Nat} {n:Int} (h:numOk v n) (m:List UInt8):(⟨str (le v n.toNat++m),0⟩:Rd).numV n=v∧(⟨str (le v n.toNat++m),0⟩:Rd).numR n=⟨str m,0⟩:=by
 obtain ⟨h1,h2,h3⟩:=h
 have e:n=(le v n.toNat).length:=by rw [le_len];omega
 refine ⟨?_,?_⟩
 ·unfold Rd.numV
  rw [if_pos ⟨h1,h2⟩,takeS_app _ _ e,str_list,lev_le,Nat.mod_eq_of_lt h3]
 ·unfold Rd.numR
  rw [if_pos ⟨h1,h2⟩,takeR_app _ _ e]
def crcBit (x:Nat):Nat:=if x % 2=1 then (x / 2) ^^^ 3988292384 else x / 2
def crcBits (x:Nat):Nat→Nat
 | 0=>x
 | k+1=>crcBit (crcBits x k)
def crcByte (x:Nat) (b:UInt8):Nat:=crcBits (x ^^^ b.toNat) 8
def crc (x:Nat):List UInt8→Nat
 | []=>x
 | b :: r=>crc (crcByte x b) r
def sumOf (l:List UInt8):Nat:=4294967295 - crc 4294967295 l
theorem crc_snoc (x:Nat) (l:List UInt8) (b:UInt8):crc x (l ++ [b])=crcByte (crc x l) b:=by
 induction l generalizing x with
 | nil=>rfl
 | cons c r ih=>exact ih _
theorem crcBit_lt {x:Nat} (h:x<4294967296):crcBit x<4294967296:=by
 unfold crcBit
 split
 ·exact Nat.xor_lt_two_pow (n:=32) (by omega) (by decide)
 ·omega
theorem crcBits_lt {x:Nat} (h:x<4294967296) (k:Nat):crcBits x k<4294967296:=by
 induction k with
 | zero=>exact h
 | succ k ih=>exact crcBit_lt ih
theorem xb_lt {x:Nat} (h:x<4294967296) (b:UInt8):x ^^^ b.toNat<4294967296:=Nat.xor_lt_two_pow (n:=32) h (by have:=b.toNat_lt;omega)
theorem crcByte_lt {x:Nat} (h:x<4294967296) (b:UInt8):crcByte x b<4294967296:=crcBits_lt (xb_lt h b) 8
theorem crc_lt {x:Nat} (h:x<4294967296) (l:List UInt8):crc x l<4294967296:=by
 induction l generalizing x with
 | nil=>exact h
 | cons b r ih=>exact ih (crcByte_lt h b)
theorem sumOf_lt (l:List UInt8):sumOf l<4294967296:=by unfold sumOf;omega
def four (v:Nat):List UInt8:=le v 4
def zer (n:Nat):List UInt8:=List.replicate n 0
theorem zer_len (n:Nat):(zer n).length=n:=List.length_replicate
theorem four_len (v:Nat):(four v).length=4:=le_len _ _
def padL (l:List UInt8) (n:Nat):List UInt8:=l++zer (n - 4 - l.length)
def stampL (l:List UInt8) (n:Nat):List UInt8:=padL l n++four (sumOf (padL l n))
theorem pad_len {l:List UInt8} {n:Nat} (h:l.length≤n - 4):(padL l n).length=n - 4:=by
 unfold padL
 rw [List.length_append,zer_len]
 omega
theorem stamp_len {l:List UInt8} {n:Nat} (h:l.length≤n - 4) (h4:4≤n):(stampL l n).length=n:=by
 unfold stampL
 rw [List.length_append,pad_len h,four_len]
 omega
def readE (b:List UInt8):Int:=if b.length<4 then 5 else if b.drop (b.length - 4)=four (sumOf (b.take (b.length - 4))) then 0 else 6
def readL (b:List UInt8):List UInt8:=if readE b=0 then b.take (b.length - 4) else []
theorem read_stamp {l:List UInt8} {n:Nat} (h:l.length≤n - 4) (h4:4≤n):readE (stampL l n)=0∧readL (stampL l n)=padL l n:=by
 have hl:=stamp_len h h4
 have hp:=pad_len h
 have e1:(stampL l n).drop (n - 4)=four (sumOf (padL l n)):=by
  unfold stampL
  rw [List.drop_append_of_le_length (by omega),List.drop_of_length_le (by omega),List.nil_append]
 have e2:(stampL l n).take (n - 4)=padL l n:=by
  unfold stampL
  rw [List.take_append_of_le_length (by omega),List.take_of_length_le (by omega)]
 have e3:readE (stampL l n)=0:=by
  unfold readE
  rw [if_neg (by omega),hl,e1,e2,if_pos rfl]
 refine ⟨e3,?_⟩
 unfold readL
 rw [if_pos e3,hl,e2]
theorem readL_len {b:List UInt8} (h:readE b=0):(readL b).length=b.length - 4:=by
 unfold readL
 rw [if_pos h,List.length_take]
 omega
structure Im where
 block:Int
 ver:Nat
 data:ByteArray
deriving DecidableEq
def Im.zero : Im:=⟨0,0,⟨#[]⟩⟩
def Im.cells (i:Im):List Value := [.int .i64 i.block, .int .u64 i.ver, .string i.data]
def Im.agg (i:Im):Value := .agg #[.int .i64 i.block, .int .u64 i.ver, .string i.data]
def Im.right (i:Im):Prop:=0≤i.block∧i.block<4096∧i.data.size=96
instance (i:Im):Decidable i.right:=by unfold Im.right;infer_instance
def secT (i:Im) (k:Nat):List UInt8:=(i.data.extract (k*48) ((k+1)*48)).data.toList++(le i.block.toNat 4++le i.ver 8)
def secL (i:Im) (k:Nat):List UInt8:=stampL (secT i k) 64
def blkL (i:Im):List UInt8:=secL i 0++secL i 1
theorem secT_len {i:Im} (h:i.right) {k:Nat} (hk:k≤1):(secT i k).length=60:=by
 unfold secT
 rw [List.length_append,List.length_append,le_len,le_len]
 have:((i.data.extract (k*48) ((k+1)*48)).data.toList).length=(i.data.extract (k*48) ((k+1)*48)).size:=rfl
 rw [this,ByteArray.size_extract]
 have:=h.2.2
 omega
theorem secL_len {i:Im} (h:i.right) {k:Nat} (hk:k≤1):(secL i k).length=64:=stamp_len (by rw [secT_len h hk];omega) (by omega)
theorem blkL_len {i:Im} (h:i.right):(blkL i).length=128:=by
 unfold blkL
 rw [List.length_append,secL_len h (by omega),secL_len h (by omega)]
def secI (t:List UInt8):Im:=⟨((⟨str (t.drop 48),0⟩:Rd).numV 4:Nat),((⟨str (t.drop 48),0⟩:Rd).numR 4).numV 8,str (t.take 48)⟩
theorem secI_T {i:Im} (h:i.right) (hv:i.ver<18446744073709551616) {k:Nat} (hk:k≤1):secI (secT i k)=⟨i.block,i.ver,i.data.extract (k*48) ((k+1)*48)⟩:=by
 have hx:((i.data.extract (k*48) ((k+1)*48)).data.toList).length=48:=by
  show (i.data.extract (k*48) ((k+1)*48)).size=48
  rw [ByteArray.size_extract]
  have:=h.2.2
  omega
 have e1:(secT i k).drop 48=le i.block.toNat (4:Int).toNat++(le i.ver (8:Int).toNat ++ []):=by
  unfold secT
  rw [List.drop_append_of_le_length (by omega),List.drop_of_length_le (by omega),List.nil_append,List.append_nil]
  rfl
 have e3:(secT i k).take 48=(i.data.extract (k*48) ((k+1)*48)).data.toList:=by
  unfold secT
  rw [List.take_append_of_le_length (by omega),List.take_of_length_le (by omega)]
 have n1:=num_app (v:=i.block.toNat) (n:=4) ⟨by omega,by omega,by have:=h.2.1;have:=h.1;simp;omega⟩ (le i.ver (8:Int).toNat ++ [])
 have n2:=num_app (v:=i.ver) (n:=8) ⟨by omega,by omega,by simpa using hv⟩ []
 unfold secI
 rw [e1,e3,n1.1,n1.2,n2.1,str_of]
 congr 1
 have:=h.1
 omega
def secG (b:ByteArray) (k:Nat):Im×Int:=if readE (b.extract (k*64) ((k+1)*64)).data.toList=0 then (secI (readL (b.extract (k*64) ((k+1)*64)).data.toList),0) else (Im.zero,readE (b.extract (k*64) ((k+1)*64)).data.toList)
def getB (block:Int) (b:ByteArray):Im×Int :=
 if b.size≠128 then (Im.zero,5) else if b=str (zer 128) then (⟨block,0,str (zer 96)⟩,0)
 else if (secG b 0).2≠0 then (Im.zero,(secG b 0).2) else if (secG b 1).2≠0 then (Im.zero,(secG b 1).2)
 else if (secG b 0).1.block≠block∨(secG b 1).1.block≠block∨4096≤block then (Im.zero,4)
 else if (secG b 0).1.ver≠(secG b 1).1.ver then (Im.zero,6)
 else (⟨block,(secG b 0).1.ver,(secG b 0).1.data++(secG b 1).1.data⟩,0)
theorem zer_app (m n:Nat):zer m++zer n=zer (m+n):=List.replicate_append_replicate
theorem extract_str (l:List UInt8) (i j:Nat):(str l).extract i j=str ((l.take j).drop i):=by
 refine str_ext ?_
 rw [extract_list,str_list,str_list]
theorem sum_zero_ne (n:Nat) (_hn:n=60∨n=92∨n=124):four (sumOf (zer 60))≠zer 4:=by
 decide +kernel
theorem blkL_ne_zero {i:Im} (h:i.right):str (blkL i)≠str (zer 128):=by
 intro e
 have e1:=congrArg (fun b:ByteArray=>b.data.toList) e
 simp only [str_list] at e1
 have e2:secL i 0=zer 64:=by
  have:=congrArg (List.take 64) e1
  unfold blkL at this
  rw [List.take_append_of_le_length (by rw [secL_len h (by omega)];omega),List.take_of_length_le (by rw [secL_len h (by omega)];omega)] at this
  rw [this]
  decide +kernel
 have e3:padL (secT i 0) 64=zer 60∧four (sumOf (padL (secT i 0) 64))=zer 4:=by
  have hp:(padL (secT i 0) 64).length=60:=pad_len (by rw [secT_len h (by omega)];omega)
  unfold secL stampL at e2
  constructor
  ·have:=congrArg (List.take 60) e2
   rw [List.take_append_of_le_length (by omega),List.take_of_length_le (by omega)] at this
   rw [this]
   decide +kernel
  ·have:=congrArg (List.drop 60) e2
   rw [List.drop_append_of_le_length (by omega),List.drop_of_length_le (by omega),List.nil_append] at this
   rw [this]
   decide +kernel
 rw [e3.1] at e3
 exact sum_zero_ne 60 (.inl rfl) e3.2
theorem secG_blk {i:Im} (h:i.right) (hv:i.ver<18446744073709551616) {k:Nat} (hk:k≤1):secG (str (blkL i)) k=(⟨i.block,i.ver,i.data.extract (k*48) ((k+1)*48)⟩,0):=by
 have hl0:=secL_len h (k:=0) (by omega)
 have hl1:=secL_len h (k:=1) (by omega)
 have e1:((str (blkL i)).extract (k*64) ((k+1)*64)).data.toList=secL i k:=by
  rw [extract_str,str_list]
  unfold blkL
  rcases (show k=0∨k=1 by omega) with rfl | rfl
  ·rw [Nat.zero_mul,List.drop_zero,List.take_append_of_le_length (by omega),List.take_of_length_le (by omega)]
  ·rw [List.take_of_length_le (by rw [List.length_append];omega),List.drop_append_of_le_length (by omega),List.drop_of_length_le (by omega),List.nil_append]
 have hp:padL (secT i k) 64=secT i k:=by
  unfold padL
  rw [secT_len h hk]
  exact List.append_nil _
 have hr:=read_stamp (l:=secT i k) (n:=64) (by rw [secT_len h hk];omega) (by omega)
 unfold secG
 rw [e1]
 unfold secL
 rw [if_pos hr.1,hr.2,hp,secI_T h hv hk]
theorem data_halves {b:ByteArray} (h:b.size=96):b.extract 0 48++b.extract 48 96=b:=by
 refine str_ext ?_
 have e:(b.extract 0 48++b.extract 48 96).data.toList=(b.extract 0 48).data.toList++(b.extract 48 96).data.toList:=by
  rw [ByteArray.data_append,Array.toList_append]
 have hl:b.data.toList.take 96=b.data.toList:=List.take_of_length_le (show b.data.toList.length≤96 by show b.size≤96;omega)
 rw [e,extract_list,extract_list,List.drop_zero,hl,List.take_append_drop]
theorem getB_put {i:Im} (h:i.right) (hv:i.ver<18446744073709551616):getB i.block (str (blkL i))=(i,0):=by
 have g0:=secG_blk h hv (k:=0) (by omega)
 have g1:=secG_blk h hv (k:=1) (by omega)
 unfold getB
 rw [if_neg (by rw [str_size,blkL_len h];simp),if_neg (blkL_ne_zero h),if_neg (by rw [g0];simp),if_neg (by rw [g1];simp),if_neg (by rw [g0,g1];have:=h.2.1;simp;omega),if_neg (by rw [g0,g1];simp),g0,g1]
 have:=data_halves h.2.2
 simp only [Nat.zero_mul,Nat.zero_add,Nat.one_mul] at *
 rw [this]
end Go.Proofs.YtldoeodkeieejaaGreatDoor
namespace Go.Proofs.YtldoeodkeieejaaGreatDoor
open Go.RowKit Go.MapKept
def EsR (es:Array MapEntry) (f:Int→Option Value):Prop:=∀k v,f k=some v↔∃e∈es.toList,e.key = .int .i64 k∧e.val=v
def MapR (o:Nat→Nat) (c:Nat) (w:World) (m:Nat) (f:Int→Option Value):Prop :=
 o m=c∧∃es clock,w.heap[m]? = some (.map es clock)∧Stamped es clock∧(∀x∈es.toList,IsKey (.int .i64) x.key)∧EsR es f
def upd {α:Type} (f:Int→Option α) (k:Int) (v:α):Int→Option α:=fun j=>if j=k then some v else f j
theorem upd_same {α:Type} (f:Int→Option α) (k:Int) (v:α):upd f k v k=some v:=if_pos rfl
theorem upd_other {α:Type} (f:Int→Option α) {k j:Int} (v:α) (h:j≠k):upd f k v j=f j:=if_neg h
theorem nodup_at {l:List Value} (h:l.Nodup) {i j:Nat} {v:Value} (hi:l[i]? = some v) (hj:l[j]? = some v):i=j:=by
 obtain ⟨h1,h2⟩:=List.getElem?_eq_some_iff.1 hi
 obtain ⟨h3,h4⟩:=List.getElem?_eq_some_iff.1 hj
 rcases Nat.lt_trichotomy i j with hlt | he | hlt
 ·exact absurd (h2.trans h4.symm) (List.pairwise_iff_getElem.1 h i j h1 h3 hlt)
 ·exact he
 ·exact absurd (h4.trans h2.symm) (List.pairwise_iff_getElem.1 h j i h3 h1 hlt)
section
variable {o o':Nat→Nat} {c:Nat} {D:Nat→Prop} {w w':World} {m:Nat} {f g:Int→Option Value}
theorem MapR.lt (h:MapR o c w m f):m<w.heap.size:=by
 obtain ⟨_,es,clock,h1,_⟩:=h
 exact (Array.getElem?_eq_some_iff.1 h1).1
theorem MapR.heap (h:MapR o c w m f) (hb:w'.heap[m]? = w.heap[m]?) (ho:o' m=o m):MapR o' c w' m f:=by
 obtain ⟨hc,es,clock,h1,h2⟩:=h
 exact ⟨ho.trans hc,es,clock,hb.trans h1,h2⟩
theorem MapR.step (h:MapR o c w m f) (hk:Step o D w o' w') (hne:¬D c):MapR o' c w' m f :=
 h.heap (hk.block m h.lt (by rw [h.1];exact hne)) (hk.old m h.lt)
theorem MapR.drew (h:MapR o c w m f):MapR o c w.drew m f:=h
theorem MapR.drewN (h:MapR o c w m f) (n:Nat):MapR o c (w.drewN n) m f:=h
theorem MapR.new (o:Nat→Nat) (w:World):MapR o (o w.heap.size) (w.alloc (.map #[] 0)) w.heap.size (fun _=>none):=by
 refine ⟨rfl,#[],0,heap_alloc_new w _,stamped_empty 0,by simp,fun k v => ?_⟩
 simp
theorem MapR.newAs (o:Nat→Nat) (w:World) (c:Nat) (h:o w.heap.size=c):MapR o c (w.alloc (.map #[] 0)) w.heap.size (fun _=>none):=by
 subst h
 exact MapR.new o w
section
variable {P:Program} {t kt e:TypeId}
theorem MapR.look (h:MapR o c w m f) (ht:P.underlying t=some (.map kt e)) (hk:P.underlying kt=some (.int .i64)) {z:Value} (hz:(zeroValue e).run P w = .ok z w) (k:Int) (ok:Bool) :
 (Instr.lookup t (.map (some m)) (.int .i64 k) ok).run P w = .ok (if ok then .tuple #[(f k).getD z, .bool (f k).isSome] else (f k).getD z) w:=by
 obtain ⟨_,es,clock,h1,hst,hks,hf⟩:=h
 have hkk:IsKey (.int .i64) (.int .i64 k):=rfl
 rcases findNow_spec hkk es.toList 0 hks with ⟨h3,h4⟩ | ⟨j,x,h3,h4,h5⟩
 ·have hn:f k=none:=by
   cases hfk:f k with
   | none=>rfl
   | some v =>
     obtain ⟨x,hx,e1,_⟩:=(hf k v).1 hfk
     exact absurd e1 (h4 x hx)
  simp [Instr.lookup,run_underlying ht,Go.MapKept.run_getObj_map h1,run_checkKey hk hkk,run_findKey hk h3,Result.andThen,hz,hn]
 ·have hs:f k=some x.val:=(hf k x.val).2 ⟨x,List.mem_of_getElem? h4,h5,rfl⟩
  simp [Instr.lookup,run_underlying ht,Go.MapKept.run_getObj_map h1,run_checkKey hk hkk,run_findKey hk h3,Result.andThen,hs]
theorem setHeap_step (hc:o m=c) (x:Obj):Step o (only c) w o {w with heap:=w.heap.setIfInBounds m x} :=
 ⟨rfl,rfl,rfl,by simp,fun _ _=>rfl,fun _ _=>rfl,fun k _ hne=>by
  have:m≠k:=by
   rintro rfl
   exact hne hc
  simp [this]⟩
theorem setHeap_blk {es:Array MapEntry} {clock:Nat} (h1:w.heap[m]? = some (.map es clock)) (x:Obj):∀g t cs,Blk w g t cs→Blk {w with heap:=w.heap.setIfInBounds m x} g t cs:=by
 intro g t cs h
 unfold Blk at h ⊢
 have:m≠g:=by
  rintro rfl
  rw [h1] at h
  cases h
 simpa [Array.getElem?_setIfInBounds,this] using h
theorem MapR.put (h:MapR o c w m f) (ht:P.underlying t=some (.map kt e)) (hk:P.underlying kt=some (.int .i64)) (k:Int) (v:Value) :
 ∃w',(Instr.mapUpdate t (.map (some m)) (.int .i64 k) v).run P w = .ok () w'∧MapR o c w' m (upd f k v)∧Step o (only c) w o w'∧∀g t cs,Blk w g t cs→Blk w' g t cs:=by
 obtain ⟨hc,es,clock,h1,hst,hks,hf⟩:=h
 have hkk:IsKey (.int .i64) (.int .i64 k):=rfl
 rcases findNow_spec hkk es.toList 0 hks with ⟨h3,h4⟩ | ⟨j,x,h3,h4,h5⟩
 ·refine ⟨_,by simp [Instr.mapUpdate,run_underlying ht,Go.MapKept.run_getObj_map h1,run_checkKey hk hkk,run_findKey hk h3,run_setObj_map _ h1,Result.andThen];rfl,⟨hc,_,_,(heap_set h1).1,stamped_push hst h4,?_,fun j u => ?_⟩,setHeap_step hc _,setHeap_blk h1 _⟩
  ·intro y hy
   simp only [Array.toList_push,List.mem_append,List.mem_singleton] at hy
   rcases hy with hy | rfl
   ·exact hks y hy
   ·exact hkk
  ·simp only [Array.toList_push,List.mem_append,List.mem_singleton]
   by_cases hj:j=k
   ·subst hj
    rw [upd_same]
    constructor
    ·intro hh
     injection hh with hh
     exact ⟨_, .inr rfl,rfl,hh⟩
    ·rintro ⟨y,hy | rfl,e1,e2⟩
     ·exact absurd e1 (h4 y hy)
     ·rw [←e2]
   ·rw [upd_other f v hj,hf j u]
    constructor
    ·rintro ⟨y,hy,e1,e2⟩
     exact ⟨y, .inl hy,e1,e2⟩
    ·rintro ⟨y,hy | rfl,e1,e2⟩
     ·exact ⟨y,hy,e1,e2⟩
     ·injection e1 with _ e1
      exact absurd e1.symm hj
 ·have hj:es[j]? = some x:=by simpa using h4
  have hkey:∀e',es[j]? = some e'→({e' with key := .int .i64 k,val:=v}:MapEntry).key=e'.key:=fun e' he'=>by rw [hj] at he';cases he';exact h5.symm
  refine ⟨{w with heap:=w.heap.setIfInBounds m (.map (es.modify j fun e' => {e' with key := .int .i64 k,val:=v}) clock)},by simp [Instr.mapUpdate,run_underlying ht,Go.MapKept.run_getObj_map h1,run_checkKey hk hkk,run_findKey hk h3,hj,h5,run_keyThatStays hkk,run_setObj_map _ h1,Result.andThen],⟨hc,_,_,(heap_set h1).1,stamped_modify hst _ _ (fun _ _=>rfl) (fun e' _ he'=>hkey e' he'),isKey_modify hks _ _ hkey,fun i u => ?_⟩,setHeap_step hc _,setHeap_blk h1 _⟩
  have hmem:∀y,y∈(es.modify j (fun e' => {e' with key := .int .i64 k,val:=v})).toList↔(y = {x with key := .int .i64 k,val:=v}∨∃i',i'≠j∧es[i']? = some y):=by
   intro y
   rw [Array.mem_toList_iff,Array.mem_iff_getElem?]
   constructor
   ·rintro ⟨i',hi'⟩
    rw [Array.getElem?_modify] at hi'
    by_cases hij:j=i'
    ·subst hij
     simp [hj] at hi'
     exact .inl hi'.symm
    ·rw [if_neg hij] at hi'
     exact .inr ⟨i',fun e=>hij e.symm,hi'⟩
   ·rintro (rfl | ⟨i',hne,hi'⟩)
    ·exact ⟨j,by simp [Array.getElem?_modify,hj]⟩
    ·exact ⟨i',by rw [Array.getElem?_modify,if_neg (fun e=>hne e.symm)];exact hi'⟩
  have huni:∀i' y,i'≠j→es[i']? = some y→y.key ≠ .int .i64 k:=by
   intro i' y hne hi' hky
   refine hne (nodup_at (v := .int .i64 k) hst.2.2 (i:=i') (j:=j) ?_ ?_)
   ·rw [List.getElem?_map,Array.getElem?_toList,hi',Option.map_some,hky]
   ·rw [List.getElem?_map,Array.getElem?_toList,hj,Option.map_some,h5]
  by_cases hik:i=k
  ·subst hik
   rw [upd_same]
   constructor
   ·intro hh
    injection hh with hh
    exact ⟨_,(hmem _).2 (.inl rfl),rfl,hh⟩
   ·rintro ⟨y,hy,e1,e2⟩
    rcases (hmem y).1 hy with rfl | ⟨i',hne,hi'⟩
    ·rw [←e2]
    ·exact absurd e1 (huni i' y hne hi')
  ·rw [upd_other f v hik,hf i u]
   constructor
   ·rintro ⟨y,hy,e1,e2⟩
    refine ⟨y,(hmem y).2 (.inr ?_),e1,e2⟩
    rw [Array.mem_toList_iff,Array.mem_iff_getElem?] at hy
    obtain ⟨i',hi'⟩:=hy
    refine ⟨i',?_,hi'⟩
    rintro rfl
    rw [hj] at hi'
    injection hi' with hi'
    subst hi'
    rw [h5] at e1
    injection e1 with _ e1
    exact hik e1.symm
   ·rintro ⟨y,hy,e1,e2⟩
    rcases (hmem y).1 hy with rfl | ⟨i',hne,hi'⟩
    ·injection e1 with _ e1
     exact absurd e1.symm hik
    ·exact ⟨y,by rw [Array.mem_toList_iff,Array.mem_iff_getElem?];exact ⟨i',hi'⟩,e1,e2⟩
end
end
end Go.Proofs.YtldoeodkeieejaaGreatDoor
