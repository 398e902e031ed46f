import Derived.Test.YtohgabdmmbngbaaGreatDoorKWireD
import Derived.Test.YtohgabdmmbngbaaGreatDoorKShelf
import Derived.Lib.ConvBytes
import Derived.Outline
import Derived.Test.YtohgabdmmbngbaaGreatDoorKWin
namespace Go.Proofs.YtohgabdmmbngbaaGreatDoor
open Go.RowKit
structure Rd where
 b:ByteArray
 e:Int
def Rd.fail (R:Rd) (e:Int):Rd:=if R.e=0 then {R with e:=e} else R
def Rd.takeS (R:Rd) (n:Int):ByteArray:=if R.e=0∧n≤R.b.size then R.b.extract 0 n.toNat else ⟨#[]⟩
def Rd.takeR (R:Rd) (n:Int):Rd:=if R.e≠0 then R else if n≤R.b.size then {R with b:=R.b.extract n.toNat R.b.size} else {R with e:=5}
def RdAt (T:TypeId) (o:Nat→Nat) (c:Nat) (w:World) (p:Nat) (R:Rd):Prop:=Blk w p T #[.string R.b, .int .i64 R.e]∧o p=c∧R.b.size≤1000000000
section
variable {T:TypeId} {o o':Nat→Nat} {c:Nat} {D:Nat→Prop} {w w':World} {p:Nat} {R:Rd}
theorem RdAt.below_ (h:RdAt T o c w p R) (hb:Below w.heap.size w w'):RdAt T o c w' p R:=⟨h.1.below_ hb,h.2⟩
theorem RdAt.alloc (h:RdAt T o c w p R) (x:Obj):RdAt T o c (w.alloc x) p R:=⟨h.1.alloc x,h.2⟩
theorem RdAt.setE (h:RdAt T o c w p R) (e:Int):RdAt T o c (w.setCell ⟨p,1,none⟩ (.int .i64 e)) p {R with e:=e}:=⟨h.1.set_ 1 _,h.2⟩
theorem RdAt.setB (h:RdAt T o c w p R) (b:ByteArray) (hb:b.size≤1000000000):RdAt T o c (w.setCell ⟨p,0,none⟩ (.string b)) p {R with b:=b}:=⟨h.1.set_ 0 _,h.2.1,hb⟩
end
section
variable {o:Nat→Nat} {c:Nat} {w:World} {p:Nat} {R:Rd}
theorem rerr_any (h:RdAt 291 o c w p R):Calls Tryz.prog 256 #[.pointer (some ⟨p,0,none⟩)] w fun r w'=>r = .returned (.int .i64 R.e)∧w=w':=by
 have c1:w.cell? ⟨p,1,none⟩=some (.int .i64 R.e):=h.1.cell 1
 go_enter Tryz.func256,Tryz.ntmps256
 go_wp2
 go_ret
 exact ⟨rfl,rfl⟩
theorem rfail_any (h:RdAt 291 o c w p R) (e:Int):Calls Tryz.prog 224 #[.pointer (some ⟨p,0,none⟩), .int .i64 e] w fun r w'=>r = .returned (.tuple #[])∧RdAt 291 o c w' p (R.fail e)∧Step o (only c) w o w':=by
 have HR:=Lib.hid h
 have c1:w.cell? ⟨p,1,none⟩=some (.int .i64 R.e):=h.1.cell 1
 have f1:=h.1.frozen 1
 have hp:=h.1.lt
 clear h
 by_cases he:R.e=0
 ·have e1:R.fail e = {R with e:=e}:=by unfold Rd.fail;rw [if_pos he]
  have E1:=Lib.hid e1
  rw [he] at c1
  clear e1 he
  go_enter Tryz.func224,Tryz.ntmps224
  go_wp2
  go_end0
  exact ⟨rfl,by rw [E1.out];exact HR.out.setE e,(Step.refl o (only c) w).setCell (p:=⟨p,1,none⟩) HR.out.2.1 _⟩
 ·have e1:R.fail e=R:=by unfold Rd.fail;rw [if_neg he]
  have E1:=Lib.hid e1
  have t1:(R.e == 0)=false:=beq_eq_false_iff_ne.2 he
  clear e1 he
  go_enter Tryz.func224,Tryz.ntmps224
  go_wp2
  go_end0
  exact ⟨rfl,by rw [E1.out];exact HR.out,Step.refl _ _ _⟩
set_option maxHeartbeats 400000 in
theorem rtake_any (h:RdAt 291 o c w p R) (n:Int) (hn0:0≤n) (hn1:n≤9223372036854775807) :
 Calls Tryz.prog 225 #[.pointer (some ⟨p,0,none⟩), .int .i64 n] w fun r w'=>r = .returned (.string (R.takeS n))∧RdAt 291 o c w' p (R.takeR n)∧Step o (only c) w o w':=by
 have HR:=Lib.hid h
 have c0:w.cell? ⟨p,0,none⟩=some (.string R.b):=h.1.cell 0
 have c1:w.cell? ⟨p,1,none⟩=some (.int .i64 R.e):=h.1.cell 1
 have f0:=h.1.frozen 0
 have f1:=h.1.frozen 1
 have hp:=h.1.lt
 have hbs:=h.2.2
 clear h
 by_cases he:R.e=0
 ·by_cases hl:n≤R.b.size
  ·have e1:R.takeR n = {R with b:=R.b.extract n.toNat R.b.size}:=by unfold Rd.takeR;rw [if_neg (by simpa using he),if_pos hl]
   have e2:R.takeS n=R.b.extract 0 n.toNat:=by unfold Rd.takeS;rw [if_pos ⟨he,hl⟩]
   have E1:=Lib.hid e1
   have E2:=Lib.hid e2
   clear e1 e2
   obtain ⟨k,rfl⟩:∃k:Nat,n=k:=⟨n.toNat,by omega⟩
   have hk:k≤R.b.size:=by omega
   have HE:=Lib.hid he
   clear he
   go_enter Tryz.func225,Tryz.ntmps225
   go_wp2_with fail
   refine (rerr_any HR.out).mono ?_
   rintro e w1 ⟨rfl,rfl⟩
   rw [HE.out]
   go_wp2_with fail
   go_ret
   refine ⟨by rw [E2.out,Int.toNat_natCast];rfl,?_,(Step.refl o (only c) w).setCell (p:=⟨p,0,none⟩) HR.out.2.1 _⟩
   rw [E1.out,Int.toNat_natCast]
   exact HR.out.setB _ (by rw [ByteArray.size_extract];omega)
  ·have e1:R.takeR n=R.fail 5:=by unfold Rd.takeR Rd.fail;rw [if_neg (by simpa using he),if_neg hl,if_pos he]
   have e2:R.takeS n=⟨#[]⟩:=by unfold Rd.takeS;rw [if_neg (fun h=>hl h.2)]
   have E1:=Lib.hid e1
   have E2:=Lib.hid e2
   have HE:=Lib.hid he
   have hl':(R.b.size:Int)<n:=by omega
   clear e1 e2 he
   go_enter Tryz.func225,Tryz.ntmps225
   go_wp2_with fail
   refine (rerr_any HR.out).mono ?_
   rintro e w1 ⟨rfl,rfl⟩
   rw [HE.out]
   go_wp2_with fail
   refine (rfail_any HR.out 5).mono ?_
   rintro e w1 ⟨rfl,h1,s1⟩
   have H1:=Lib.hid h1
   have S1:=Lib.hid s1
   clear h1 s1
   go_wp2_with fail
   go_ret
   exact ⟨by rw [E2.out];rfl,by rw [E1.out];exact H1.out,S1.out⟩
 ·have e1:R.takeR n=R:=by unfold Rd.takeR;rw [if_pos he]
  have e2:R.takeS n=⟨#[]⟩:=by unfold Rd.takeS;rw [if_neg (fun h=>he h.1)]
  have E1:=Lib.hid e1
  have E2:=Lib.hid e2
  have t1:(R.e != 0)=true:=bne_iff_ne.2 he
  clear e1 e2 he
  go_enter Tryz.func225,Tryz.ntmps225
  go_wp2_with fail
  refine (rerr_any HR.out).mono ?_
  rintro e w1 ⟨rfl,rfl⟩
  go_wp2_with fail
  go_ret
  exact ⟨by rw [E2.out];rfl,by rw [E1.out];exact HR.out,Step.refl _ _ _⟩
end
def lev : List UInt8→Nat
 | []=>0
 | b :: r=>b.toNat+256*lev r
theorem lev_lt (l:List UInt8):lev l<256 ^ l.length:=by
 induction l with
 | nil=>simp [lev]
 | cons b r ih =>
   have:=b.toNat_lt
   simp only [lev,List.length_cons,Nat.pow_succ]
   omega
theorem lev_snoc (l:List UInt8) (b:UInt8):lev (l ++ [b])=lev l+b.toNat*256 ^ l.length:=by
 induction l with
 | nil=>simp [lev]
 | cons c r ih =>
   simp only [List.cons_append,lev,ih,List.length_cons,Nat.pow_succ]
   rw [Nat.mul_add,Nat.mul_left_comm 256 b.toNat,Nat.mul_comm (256 ^ r.length) 256,Nat.add_assoc]
def Rd.numV (R:Rd) (n:Int):Nat:=if 1≤n∧n≤8 then lev (R.takeS n).data.toList else 0
def Rd.numR (R:Rd) (n:Int):Rd:=if 1≤n∧n≤8 then R.takeR n else R.fail 1
theorem takeS_size (R:Rd) (n:Int) (h0:0≤n):((R.takeS n).size:Int)≤n:=by
 unfold Rd.takeS
 split
 ·rw [ByteArray.size_extract];omega
 ·exact h0
theorem or_byte (v k:Nat) (b:UInt8) (hv:v<256 ^ k) (hk:k≤7):bits BinOp.or IntKind.u64 (v:Int) (IntKind.u64.wrap (IntKind.u64.wrap (b.toNat:Int)*2 ^ (8*k)))=((v+b.toNat*256 ^ k:Nat):Int):=by
 have hp:256 ^ k=2 ^ (8*k):=by rw [show 256=2 ^ 8 from rfl,←Nat.pow_mul]
 have hb:=b.toNat_lt
 have hle:2 ^ (8*k+8)≤2 ^ 64:=Nat.pow_le_pow_right (by decide) (by omega)
 have hs:2 ^ (8*k+8)=2 ^ (8*k)*256:=by rw [Nat.pow_add]
 rw [hp] at hv ⊢
 have hm:b.toNat*2 ^ (8*k)≤255*2 ^ (8*k):=Nat.mul_le_mul_right _ (by omega)
 have h64:(2:Nat) ^ 64=18446744073709551616:=rfl
 have hsum:v+b.toNat*2 ^ (8*k)<18446744073709551616:=by omega
 have e1:IntKind.u64.wrap (b.toNat:Int)=(b.toNat:Int):=by rw [IntKind.wrap_u64];omega
 have e2:(b.toNat:Int)*2 ^ (8*k)=((b.toNat*2 ^ (8*k):Nat):Int):=by simp
 have e3:IntKind.u64.wrap ((b.toNat*2 ^ (8*k):Nat):Int)=((b.toNat*2 ^ (8*k):Nat):Int):=by rw [IntKind.wrap_u64];omega
 rw [e1,e2,e3]
 have hor:v ||| b.toNat*2 ^ (8*k)=v+b.toNat*2 ^ (8*k):=by
  rw [Nat.or_comm,Nat.mul_comm,←Nat.two_pow_add_eq_or_of_lt hv,Nat.add_comm]
 generalize b.toNat*2 ^ (8*k)=y at *
 have e4:(BitVec.ofInt IntKind.u64.bits (v:Int) ||| BitVec.ofInt IntKind.u64.bits (y:Int)).toNat=v+y:=by
  rw [BitVec.toNat_or,BitVec.ofInt_natCast,BitVec.ofInt_natCast,BitVec.toNat_ofNat,BitVec.toNat_ofNat]
  have hbits:2 ^ IntKind.u64.bits=18446744073709551616:=rfl
  rw [hbits,Nat.mod_eq_of_lt (by omega),Nat.mod_eq_of_lt (by omega),hor]
 unfold bits
 simp only [e4]
 rw [IntKind.wrap_u64]
 omega
theorem below_bytes (w:World) (e:TypeId) (s:ByteArray):Below w.heap.size w (Lib.bytesWorld w e s):=⟨rfl,rfl,rfl,by rw [Lib.bytesWorld_size];omega,fun k hk=>Lib.bytesWorld_at_old w e s k hk⟩
section
variable {o:Nat→Nat} {c:Nat} {w:World} {p:Nat} {R:Rd}
set_option maxRecDepth 100000 in
set_option maxHeartbeats 1000000 in
theorem rnum_any (h:RdAt 291 o c w p R) (n:Int) :
 Calls Tryz.prog 183 #[.pointer (some ⟨p,0,none⟩), .int .i64 n] w fun r w'=>r = .returned (.int .u64 (R.numV n))∧∃o',RdAt 291 o' c w' p (R.numR n)∧Step o (only c) w o' w':=by
 have HR:=Lib.hid h
 clear h
 by_cases hn:1≤n∧n≤8
 ·have e1:R.numR n=R.takeR n:=by unfold Rd.numR;rw [if_pos hn]
  have e2:R.numV n=lev (R.takeS n).data.toList:=by unfold Rd.numV;rw [if_pos hn]
  have E1:=Lib.hid e1
  have E2:=Lib.hid e2
  have HOK:=Lib.hid (show (if numOk 0 n then (0:Int) else 1)=0 from if_pos ⟨hn.1,hn.2,Nat.pow_pos (by decide)⟩)
  obtain ⟨hn1,hn8⟩:=hn
  clear e1 e2
  have hsz:=takeS_size R n (by omega)
  go_enter Tryz.func183,Tryz.ntmps183
  go_wp2_with fail
  refine (wrongNum_any 0 n (by omega) _).mono ?_
  rintro e w1 ⟨rfl,rfl⟩
  rw [HOK.out]
  go_wp2_with fail
  refine (rtake_any HR.out n (by omega) (by omega)).mono ?_
  rintro e w2 ⟨rfl,h2,s2⟩
  have H2:=Lib.hid h2
  have S2:=Lib.hid s2
  clear h2 s2
  generalize hS:R.takeS n=S at hsz E2
  have HS:=Lib.hid hS
  clear hS
  have hcv:=fun w=>Lib.run_convert_string_bytes (P:=Tryz.prog) w 9 151 5 S Tryz.underlying9 Tryz.underlying151 Tryz.underlying5
  go_wp2_with fail
  have hcell:∀j,j<S.size→(Lib.bytesWorld w2 5 S).cell? ⟨w2.heap.size,j,none⟩=some (.int .u8 (S.data.toList.getD j 0).toNat):=fun j hj=>Lib.bytesWorld_cell w2 5 S j hj
  have hbw:=below_bytes w2 5 S
  have HCELL:=Lib.hid hcell
  have HBW:=Lib.hid hbw
  clear hcell hbw hcv
  generalize Lib.bytesWorld w2 5 S=W3 at HCELL HBW ⊢
  generalize w2.heap.size=B at HCELL ⊢
  have hs8:(S.size:Int)≤8:=by omega
  go_loop [6,21] (fun t6 t21=>∃k:Nat,k≤S.size∧t21 = .int .i64 k∧t6 = .int .u64 ((lev (S.data.toList.take k):Nat):Int)) (fun _ t21=>S.size - (intOf t21).toNat)
  case atStart=>exact ⟨0,Nat.zero_le _,rfl,rfl⟩
  case round =>
   obtain ⟨k,hk,rfl,rfl⟩:=hrel
   by_cases hlt:k<S.size
   ·have hltI:(k:Int)<(S.size:Int):=by omega
    have hc:=HCELL.out k hlt
    have hk7:k≤7:=by omega
    have hkl:(S.data.toList.take k).length=k:=by rw [List.length_take];exact Nat.min_eq_left (Nat.le_of_lt hlt)
    have hvl:=lev_lt (S.data.toList.take k)
    rw [hkl] at hvl
    have htk:S.data.toList.take (k+1)=S.data.toList.take k ++ [S.data.toList.getD k 0]:=by
     rw [List.take_add_one,List.getElem?_eq_getElem hlt]
     simp [List.getD,List.getElem?_eq_getElem hlt]
    have HKL:=Lib.hid hkl
    have HTK:=Lib.hid htk
    clear hkl htk
    generalize hv:lev (S.data.toList.take k)=v at hvl
    have HV:=Lib.hid hv
    have HVL:=Lib.hid hvl
    clear hv hvl
    generalize S.data.toList.getD k 0=b at hc HTK
    go_wp2_with fail
    go_round
    case rel =>
     refine ⟨k+1,by omega,by go_num,?_⟩
     rw [HTK.out,lev_snoc,HV.out,HKL.out,or_byte v k b HVL.out hk7]
    case measure=>simp [intOf];omega
   ·have hltI:¬(k:Int)<(S.size:Int):=by omega
    go_wp2_with fail
    go_ret
    have hke:k=S.size:=by omega
    have htl:S.data.toList.take k=S.data.toList:=List.take_of_length_le (by rw [hke];exact Nat.le_refl _)
    refine ⟨?_,o,?_,?_⟩
    ·rw [E2.out,htl];rfl
    ·rw [E1.out];exact H2.out.below_ HBW.out
    ·exact S2.out.trans (Step.of_below _ _ HBW.out)
 ·have e1:R.numR n=R.fail 1:=by unfold Rd.numR;rw [if_neg hn]
  have e2:R.numV n=0:=by unfold Rd.numV;rw [if_neg hn]
  have E1:=Lib.hid e1
  have E2:=Lib.hid e2
  have HOK:=Lib.hid (show (if numOk 0 n then (0:Int) else 1)=1 from if_neg (fun h=>hn ⟨h.1,h.2.1⟩))
  clear e1 e2 hn
  go_enter Tryz.func183,Tryz.ntmps183
  go_wp2_with fail
  refine (wrongNum_any 0 n (by omega) _).mono ?_
  rintro e w1 ⟨rfl,rfl⟩
  rw [HOK.out]
  go_wp2_with fail
  refine (rfail_any HR.out 1).mono ?_
  rintro e w2 ⟨rfl,h2,s2⟩
  have H2:=Lib.hid h2
  have S2:=Lib.hid s2
  clear h2 s2
  go_wp2_with fail
  go_ret
  exact ⟨by rw [E2.out];rfl,o,by rw [E1.out];exact H2.out,S2.out⟩
end
theorem numV_lt (R:Rd) (n:Int) (h0:0≤n):R.numV n<256 ^ n.toNat:=by
 unfold Rd.numV
 split
 ·have h1:=lev_lt (R.takeS n).data.toList
  have h2:=takeS_size R n h0
  have h3:(R.takeS n).data.toList.length=(R.takeS n).size:=rfl
  exact Nat.lt_of_lt_of_le h1 (Nat.pow_le_pow_right (by decide) (by omega))
 ·exact Nat.pow_pos (by decide)
def Rd.countV (R:Rd) (most:Int):Int:=if (R.numR 2).e=0∧most<(R.numV 2:Int) then (0:Int) else (R.numV 2:Int)
def Rd.countR (R:Rd) (most:Int):Rd:=if (R.numR 2).e=0∧most<R.numV 2 then {R.numR 2 with e:=2} else R.numR 2
theorem clone_any (s:ByteArray) (w:World) (hlim:s.size≤281474976710656):Calls Tryz.prog 191 #[.string s] w fun e w'=>e = .returned (.string s)∧Below w.heap.size w w':=by
 go_enter Tryz.func191,Tryz.ntmps191
 go_wp2_with (go_at_call 227;refine (Tryz.stringslite_Clone s _ hlim).mono ?_;rintro e w' ⟨rfl,hb⟩)
 go_ret
 exact ⟨rfl,hb⟩
theorem newreader_any (o:Nat→Nat) (c:Nat) (b:ByteArray) (w:World) (hb:b.size≤1000000000) :
 Calls Tryz.prog 182 #[.string b] w fun e w'=>∃p o',e = .returned (.pointer (some ⟨p,0,none⟩))∧RdAt 291 o' c w' p ⟨b,0⟩∧Below w.heap.size w w'∧∀C,Step o C w o' w':=by
 go_enter Tryz.func182,Tryz.ntmps182
 go_wp2_with (go_at_call 191;refine (clone_any b _ (by omega)).mono ?_;rintro e w1 ⟨rfl,hb1⟩)
 go_ret
 have hs:=hb1.size
 have hbl:Below w.heap.size w (w1.alloc (.cells #[.string b, .int .i64 0] 291)):=hb1.alloc hb1.size _
 have e1:(w1.alloc (.cells #[.string b, .int .i64 0] 291)).heap.size=w1.heap.size+1:=by simp
 refine ⟨w1.heap.size,band o w1.heap.size (w1.heap.size+1) c,rfl,⟨Blk.new _ _ _,band_in (Nat.le_refl _) (by omega),hb⟩,hbl,fun C=>⟨hbl.os,hbl.tape,hbl.output,hbl.size,fun k hk=>band_lt (by omega),fun k hk=>band_ge (by omega),fun k hk _=>hbl.block k hk⟩⟩
def zeros (b:ByteArray):Prop:=∀x∈b.data.toList,x=0
instance (b:ByteArray):Decidable (zeros b):=inferInstanceAs (Decidable (∀x∈_,_))
def Rd.endV (R:Rd):Int:=if R.e≠0 then R.e else if zeros R.b then 0 else 4
theorem zeros_dw (r:List UInt8):(∀x∈r.dropWhile (· == 0),x=0)↔∀x∈r,x=0:=by
 induction r with
 | nil=>simp
 | cons a r ih =>
   by_cases h:a=0
   ·subst h
    have e:List.dropWhile (fun x:UInt8=>x == 0) ((0:UInt8) :: r)=r.dropWhile (· == 0):=by simp [List.dropWhile]
    rw [e,ih]
    simp
   ·have e:List.dropWhile (fun x:UInt8=>x == 0) (a :: r)=a :: r:=by
     have hb:(a == 0)=false:=beq_eq_false_iff_ne.2 h
     simp [List.dropWhile,hb]
    rw [e]
theorem dw_nil (l:List UInt8):l.dropWhile (· == 0) = []↔∀x∈l,x=0:=by
 induction l with
 | nil=>simp
 | cons a r ih =>
   by_cases h:a=0
   ·subst h
    have e:List.dropWhile (fun x:UInt8=>x == 0) ((0:UInt8) :: r)=r.dropWhile (· == 0):=by simp [List.dropWhile]
    rw [e,ih]
    simp
   ·have e:List.dropWhile (fun x:UInt8=>x == 0) (a :: r)=a :: r:=by
     have hb:(a == 0)=false:=beq_eq_false_iff_ne.2 h
     simp [List.dropWhile,hb]
    rw [e]
    simp [h]
theorem trim_nil (l:List UInt8):Lib.trimB l 0 = []↔∀x∈l,x=0:=by
 unfold Lib.trimB Lib.trimLeftB Lib.trimRightB
 rw [dw_nil]
 have h:=zeros_dw l.reverse
 simp only [List.mem_reverse] at h
 rw [←h]
 simp
def digs : Nat→Nat→List UInt8→List UInt8
 | 0,_,acc=>acc
 | f+1,n,acc=>if n / 10=0 then UInt8.ofNat (48+n % 10) :: acc else digs f (n / 10) (UInt8.ofNat (48+n % 10) :: acc)
def digits (v:Int):List UInt8:=if v<0 then 45 :: digs 20 v.natAbs [] else digs 20 v.natAbs []
theorem conv_at {w:World} {g j n cap:Nat} {t:TypeId} {cs:Array Value} {l:List UInt8} (hb:Blk w g t cs) (hd:cs.toList.drop j=bvs l) (hn:l.length=n) :
 (convert 151 9 (.slice (some ⟨g,j,none⟩) n cap)).run Tryz.prog w = .ok (.string (str l)) w:=by
 subst hn
 refine run_convert_bytes_back w 151 9 5 _ cap l Tryz.underlying151 Tryz.underlying5 Tryz.underlying9 (fun i hi => ?_)
 have e:(⟨g,j,none⟩:Addr).add i=⟨g,j+i,none⟩:=by unfold Addr.add;split <;> simp_all
 rw [e,hb.cell,←Array.getElem?_toList,←List.getElem?_drop,hd]
 simp [bvs,bv,List.getElem?_eq_getElem hi]
structure Env (o:Nat→Nat) (w0 w:World):Prop where
 low:Below w0.heap.size w0 w
 old:∀k,k<w0.heap.size→o k=0
section
variable {o o':Nat→Nat} {C:Nat→Prop} {w0 w w':World}
theorem Env.start (w:World):Env (fun _=>0) w w:=⟨Below.refl _ _,fun _ _=>rfl⟩
theorem Env.step (h:Env o w0 w) (hs:Step o C w o' w') (h0:¬C 0):Env o' w0 w' :=
 ⟨h.low.trans (hs.below (fun k hk=>by rw [h.old k hk];exact h0) h.low.size),fun k hk=>(hs.old k (Nat.lt_of_lt_of_le hk h.low.size)).trans (h.old k hk)⟩
theorem Env.below_ (h:Env o w0 w) (hb:Below w.heap.size w w'):Env o w0 w':=h.step (Step.of_below o (fun _=>False) hb) (by simp)
theorem Env.drewN (h:Env o w0 w) (n:Nat):Env o w0 (w.drewN n):=⟨⟨h.low.os,h.low.tape,h.low.output,h.low.size,h.low.block⟩,h.old⟩
theorem Env.alloc (h:Env o w0 w) (x:Obj):Env o w0 (w.alloc x):=h.below_ ((Below.refl _ _).alloc (Nat.le_refl _) x)
end
theorem wr_new (T:TypeId) (o:Nat→Nat) (c:Nat) (w:World):∃o',WrAt T o' c (w.alloc (.cells #[.slice none 0 0, .int .i64 0] T)) w.heap.size ⟨[],0⟩∧∀C,Step o C w o' (w.alloc (.cells #[.slice none 0 0, .int .i64 0] T)):=by
 refine ⟨band o w.heap.size (w.alloc (.cells #[.slice none 0 0, .int .i64 0] T)).heap.size c,⟨_,Blk.new _ _ _,band_in (Nat.le_refl _) (by simp),OwnS.nil _ _ _ _ _⟩,fun C => ?_⟩
 exact Step.of_below_band o C c ((Below.refl _ _).alloc (Nat.le_refl _) _)
namespace Al
def A : ByteArray:=⟨#[97]⟩
theorem w1 : ((Wr.num ⟨[],0⟩ 258 2).text A 9).flag true=⟨[2,1,1,0,97,1],0⟩:=by kernel_rfl
def B : ByteArray:=⟨#[2,1,5]⟩
theorem r1 : Rd.numV ⟨B,0⟩ 2=258:=by kernel_rfl
theorem r2 : (Rd.numR ⟨B,0⟩ 2).endV=4:=by kernel_rfl
theorem s1 : (str [2,1,1,0,97,1]).toList = [2,1,1,0,97,1]:=by decide +kernel
theorem s2 : ((str (digits (-7))).toList == [45,55])=true:=by decide +kernel
theorem l1 : (Wr.num ⟨[],0⟩ 258 2).bs.length≤1000000000:=by decide +kernel
theorem l2 : ((Wr.num ⟨[],0⟩ 258 2).text A 9).bs.length≤1000000000:=by decide +kernel
end Al
theorem str_size (l:List UInt8):(str l).size=l.length:=by simp [str,ByteArray.size]
theorem str_list (l:List UInt8):(str l).data.toList=l:=by simp [str]
theorem str_ext {a b:ByteArray} (h:a.data.toList=b.data.toList):a=b:=by
 cases a;cases b
 congr 1
 exact Array.toList_inj.1 h
theorem str_of (b:ByteArray):str b.data.toList=b:=str_ext (by rw [str_list])
theorem extract_list (b:ByteArray) (i j:Nat):(b.extract i j).data.toList=(b.data.toList.take j).drop i:=by
 rw [ByteArray.data_extract,Array.toList_extract]
 rw [List.drop_take]
theorem lev_le (v k:Nat):lev (le v k)=v % 256 ^ k:=by
 induction k with
 | zero=>simp [le,lev,Nat.mod_one]
 | succ k ih =>
   have h1:(UInt8.ofNat (v / 256 ^ k)).toNat=v / 256 ^ k % 256:=by simp
   rw [le,lev_snoc,ih,le_len,h1,Nat.pow_succ,Nat.mod_mul,Nat.mul_comm (256 ^ k)]
theorem takeS_app (l m:List UInt8) {n:Int} (h:n=l.length):(⟨str (l++m),0⟩:Rd).takeS n=str l:=by
 subst h
 unfold Rd.takeS
 rw [if_pos ⟨rfl,by rw [str_size,List.length_append];omega⟩]
 refine str_ext ?_
 rw [extract_list,str_list,str_list]
 simp
theorem takeR_app (l m:List UInt8) {n:Int} (h:n=l.length):(⟨str (l++m),0⟩:Rd).takeR n=⟨str m,0⟩:=by
 subst h
 unfold Rd.takeR
 rw [if_neg (by simp),if_pos (by rw [str_size,List.length_append];omega)]
 simp only [Rd.mk.injEq,and_true]
 refine str_ext ?_
 rw [extract_list,str_list,str_list,str_size,Int.toNat_natCast,List.take_of_length_le (Nat.le_refl _),List.drop_left]
theorem num_app {v:Nat} {n:Int} (h:numOk v n) (m:List UInt8):(⟨str (le v n.toNat++m),0⟩:Rd).numV n=v∧(⟨str (le v n.toNat++m),0⟩:Rd).numR n=⟨str m,0⟩:=by
 obtain ⟨h1,h2,h3⟩:=h
 have e:n=(le v n.toNat).length:=by rw [le_len];omega
 refine ⟨?_,?_⟩
 ·unfold Rd.numV
  rw [if_pos ⟨h1,h2⟩,takeS_app _ _ e,str_list,lev_le,Nat.mod_eq_of_lt h3]
 ·unfold Rd.numR
  rw [if_pos ⟨h1,h2⟩,takeR_app _ _ e]
structure Lk where
 a:Int
 b:Int
 m:Int
 deriving DecidableEq
structure Mg where
 kind:Int
 id:Int
 node:Int
 gen:Int
 stamp:Int
 epoch:Nat
 err:Int
 locks:List Lk
 deriving DecidableEq
def Mg.zero : Mg:=⟨0,0,0,0,0,0,0,[]⟩
def Lk.ok (l:Lk):Prop:=0≤l.a∧l.a<l.b∧l.b≤4096∧0≤l.m∧l.m≤2
instance (l:Lk):Decidable l.ok:=inferInstanceAs (Decidable (_∧_))
def sm (n:Int):Prop:=0≤n∧n≤2147483647
instance (n:Int):Decidable (sm n):=inferInstanceAs (Decidable (_∧_))
def Mg.ok (m:Mg):Prop:=(1≤m.kind∧m.kind≤15∧m.locks.length≤200)∧(sm m.id∧sm m.node∧sm m.gen∧sm m.stamp∧sm m.err)∧∀l∈m.locks,l.ok
instance (m:Mg):Decidable m.ok:=inferInstanceAs (Decidable (_∧_))
def Lk.enc (l:Lk):List UInt8:=le l.a.toNat 4++(le l.b.toNat 4++le l.m.toNat 1)
def Mg.head (m:Mg):List UInt8:=le m.kind.toNat 1++(le m.id.toNat 4++(le m.node.toNat 4++(le m.gen.toNat 4++(le m.stamp.toNat 4++(le m.err.toNat 4++le m.epoch 8)))))
def Mg.enc (m:Mg):List UInt8:=m.head++(le m.locks.length 2++m.locks.flatMap Lk.enc)
def lkV (R:Rd):Lk:=⟨R.numV 4,(R.numR 4).numV 4,((R.numR 4).numR 4).numV 1⟩
def lkR (R:Rd):Rd:=((R.numR 4).numR 4).numR 1
def lksR (R:Rd):Nat→Rd
 | 0=>R
 | k+1=>lkR (lksR R k)
def lksV (R:Rd):Nat→List Lk
 | 0 => []
 | k+1=>lksV R k ++ [lkV (lksR R k)]
def hdR (b:ByteArray):Rd:=((((((((⟨b,0⟩:Rd).numR 1).numR 4).numR 4).numR 4).numR 4).numR 4).numR 8)
def getM (b:ByteArray):Mg :=
 ⟨(⟨b,0⟩:Rd).numV 1,((⟨b,0⟩:Rd).numR 1).numV 4,(((⟨b,0⟩:Rd).numR 1).numR 4).numV 4,((((⟨b,0⟩:Rd).numR 1).numR 4).numR 4).numV 4,(((((⟨b,0⟩:Rd).numR 1).numR 4).numR 4).numR 4).numV 4,
   (((((((⟨b,0⟩:Rd).numR 1).numR 4).numR 4).numR 4).numR 4).numR 4).numV 8,((((((⟨b,0⟩:Rd).numR 1).numR 4).numR 4).numR 4).numR 4).numV 4,lksV ((hdR b).countR 200) ((hdR b).countV 200).toNat⟩
def goodM (b:ByteArray):Prop:=(getM b).ok∧str (getM b).enc=b
instance (b:ByteArray):Decidable (goodM b):=inferInstanceAs (Decidable (_∧_))
theorem flat_at {α:Type} {f:α→List Value} {s:Nat} (hs:∀x,(f x).length=s) {l:List α} {k:Nat} {y:α} (h:l[k]? = some y) {j:Nat} (hj:j<s):(l.flatMap f)[k*s+j]? = (f y)[j]? := by
 induction l generalizing k with
 | nil=>simp at h
 | cons x r ih =>
   rw [List.flatMap_cons]
   cases k with
   | zero =>
     simp at h
     subst h
     rw [List.getElem?_append_left (by rw [hs];omega)]
     simp
   | succ k =>
     have h':r[k]? = some y:=by simpa using h
     have e:(k+1)*s+j - s=k*s+j:=by rw [Nat.add_mul];omega
     rw [List.getElem?_append_right (by rw [hs,Nat.add_mul];omega),hs,e]
     exact ih h'
theorem Reads.row {α:Type} {f:α→List Value} {s:Nat} (hs:∀x,(f x).length=s) {w:World} {A:Option Addr} {l:List α} (h:Reads w s A l.length (l.flatMap f)) {k:Nat} {y:α} (hy:l[k]? = some y) :
 ∃ad,A=some ad∧∀j u,(f y)[j]? = some u→w.cell? ((ad.add (k*s)).add j)=some u:=by
 have hk:k<l.length:=(List.getElem?_eq_some_iff.1 hy).1
 obtain ⟨ad,rfl,hc⟩:=h.2 (by omega)
 refine ⟨ad,rfl,fun j u hu => ?_⟩
 rw [add_of_add]
 have hj:j<s:=by have:=(List.getElem?_eq_some_iff.1 hu).1;rwa [hs] at this
 exact hc _ u ((flat_at hs hy hj).trans hu)
theorem Reads.below {w w':World} {A:Option Addr} {s n:Nat} {xs:List Value} (h:Reads w s A n xs) (hs:0<s) (hb:Below w.heap.size w w'):Reads w' s A n xs:=by
 rcases Nat.eq_zero_or_pos n with h0 | h0
 ·exact ⟨h.1,fun h1=>absurd h1 (by omega)⟩
 ·exact h.keep_ (fun ad had=>hb.block _ (h.lt hs ad h0 had))
theorem toList_loop (b:ByteArray) (i:Nat) (r:List UInt8):ByteArray.toList.loop b i r=r.reverse++b.data.toList.drop i:=by
 unfold ByteArray.toList.loop
 split
 ·rename_i h
  rw [toList_loop b (i+1)]
  have h':i<b.data.toList.length:=h
  rw [List.drop_eq_getElem_cons h',List.reverse_cons,List.append_assoc]
  congr 2
  rw [List.singleton_append]
  congr 1
  show b.data[i]! = _
  rw [getElem!_pos b.data i h]
  rfl
 ·rename_i h
  rw [List.drop_of_length_le (Nat.le_of_not_lt h),List.append_nil]
termination_by b.size - i
theorem toList_data (b:ByteArray):b.toList=b.data.toList:=by
 unfold ByteArray.toList
 rw [toList_loop]
 simp
theorem str_neq {a b:ByteArray} (h:a≠b):(a.toList == b.toList)=false:=by
 refine beq_eq_false_iff_ne.2 (fun e=>h ?_)
 rw [toList_data,toList_data] at e
 cases a;cases b
 congr 1
 exact Array.toList_inj.1 e
def Lk.cells (l:Lk):List Value := [.int .i64 l.a, .int .i64 l.b, .int .i64 l.m]
def lkcells (l:List Lk):List Value:=l.flatMap Lk.cells
theorem Lk.cells_len (l:Lk):l.cells.length=3:=rfl
theorem Lk.cells_one (l:Lk):∀u∈l.cells,u.oneCell'=true:=by simp [Lk.cells,Value.oneCell']
def Mg.agg (m:Mg) (A:Option Addr) (cap:Nat):Value := .agg #[.int .i64 m.kind, .int .i64 m.id, .int .i64 m.node, .int .i64 m.gen, .int .i64 m.stamp, .int .u64 m.epoch, .int .i64 m.err, .slice A m.locks.length cap]
theorem Reads.lock {w:World} {A:Option Addr} {l:List Lk} (h:Reads w 3 A l.length (lkcells l)) {k:Nat} {y:Lk} (hy:l[k]? = some y) :
 ∃ad,A=some ad∧w.cell? (ad.add (k*3))=some (.int .i64 y.a)∧w.cell? ⟨(ad.add (k*3)).block,(ad.add (k*3)).off+1,none⟩=some (.int .i64 y.b)∧w.cell? ⟨(ad.add (k*3)).block,(ad.add (k*3)).off+2,none⟩=some (.int .i64 y.m):=by
 obtain ⟨ad,rfl,hc⟩:=Reads.row Lk.cells_len h hy
 exact ⟨ad,rfl,hc 0 _ rfl,hc 1 _ rfl,hc 2 _ rfl⟩
theorem spvalid_any (a b:Int) (w:World):Calls Tryz.prog 89 #[.agg #[.int .i64 a, .int .i64 b]] w fun e w'=>e = .returned (.bool (decide (0≤a∧a<b)))∧Below w.heap.size w w':=by
 by_cases h0:0≤a
 ·by_cases h1:a<b
  ·rw [decide_eq_true ⟨h0,h1⟩]
   go_enter Tryz.func89,Tryz.ntmps89
   go_wp2
   go_ret
   exact ⟨rfl,(Below.refl _ _).alloc (Nat.le_refl _) _⟩
  ·rw [decide_eq_false (fun h=>h1 h.2)]
   go_enter Tryz.func89,Tryz.ntmps89
   go_wp2
   go_ret
   exact ⟨rfl,(Below.refl _ _).alloc (Nat.le_refl _) _⟩
 ·rw [decide_eq_false (fun h=>h0 h.1)]
  go_enter Tryz.func89,Tryz.ntmps89
  go_wp2
  go_ret
  exact ⟨rfl,(Below.refl _ _).alloc (Nat.le_refl _) _⟩
theorem mdvalid_any (a:Int) (w:World):Calls Tryz.prog 90 #[.int .i64 a] w fun e w'=>e = .returned (.bool (decide (0≤a∧a≤2)))∧w=w':=by
 by_cases h0:0≤a
 ·by_cases h1:a≤2
  ·rw [decide_eq_true ⟨h0,h1⟩]
   go_enter Tryz.func90,Tryz.ntmps90
   go_wp2
   go_ret
   exact ⟨rfl,rfl⟩
  ·rw [decide_eq_false (fun h=>h1 h.2)]
   go_enter Tryz.func90,Tryz.ntmps90
   go_wp2
   go_ret
   exact ⟨rfl,rfl⟩
 ·rw [decide_eq_false (fun h=>h0 h.1)]
  go_enter Tryz.func90,Tryz.ntmps90
  go_wp2
  go_ret
  exact ⟨rfl,rfl⟩
def Mg.five (m:Mg):Nat→Int
 | 0=>m.id
 | 1=>m.node
 | 2=>m.gen
 | 3=>m.stamp
 | _=>m.err
theorem Mg.five_ok {m:Mg} (h:m.ok) (k:Nat):sm (m.five k):=by
 obtain ⟨_,⟨h1,h2,h3,h4,h5⟩,_⟩:=h
 match k with
 | 0=>exact h1
 | 1=>exact h2
 | 2=>exact h3
 | 3=>exact h4
 | k+4=>exact h5
theorem five_cell {m:Mg} (w:World) (t:TypeId) {k:Nat} (hk:k<5):(w.alloc (.cells #[.int .i64 m.id, .int .i64 m.node, .int .i64 m.gen, .int .i64 m.stamp, .int .i64 m.err] t)).cell? ⟨w.heap.size,k,none⟩=some (.int .i64 (m.five k)):=by
 rw [(Blk.new w t _).cell k]
 have:k=0∨k=1∨k=2∨k=3∨k=4:=by omega
 rcases this with rfl | rfl | rfl | rfl | rfl <;> rfl
set_option maxRecDepth 100000 in
set_option maxHeartbeats 2000000 in
theorem valid_any (m:Mg) (w:World) (A:Option Addr) (cap:Nat) (h:Reads w 3 A m.locks.length (lkcells m.locks)) (hl:m.locks.length≤maxLen) :
 Calls Tryz.prog 40 #[m.agg A cap] w fun e w'=>e = .returned (.bool (decide m.ok))∧Below w.heap.size w w':=by
 unfold maxLen at hl
 have HR:=Lib.hid h
 clear h
 by_cases b0:1≤m.kind∧m.kind≤15∧m.locks.length≤200
 ·obtain ⟨b1,b2,b3⟩:=b0
  have b3I:(m.locks.length:Int)≤200:=by omega
  have HB:=Lib.hid (show 1≤m.kind∧m.kind≤15∧m.locks.length≤200 from ⟨b1,b2,b3⟩)
  unfold Mg.agg
  go_enter Tryz.func40,Tryz.ntmps40
  go_wp2_with fail
  have hb:=((Below.refl w.heap.size w).alloc (Nat.le_refl _) (.cells #[.int .i64 m.kind, .int .i64 m.id, .int .i64 m.node, .int .i64 m.gen, .int .i64 m.stamp, .int .u64 m.epoch, .int .i64 m.err, .slice A m.locks.length cap] 38)).alloc (by simp) (.cells #[.int .i64 m.id, .int .i64 m.node, .int .i64 m.gen, .int .i64 m.stamp, .int .i64 m.err] 3)
  have hx:((w.alloc (.cells #[.int .i64 m.kind, .int .i64 m.id, .int .i64 m.node, .int .i64 m.gen, .int .i64 m.stamp, .int .u64 m.epoch, .int .i64 m.err, .slice A m.locks.length cap] 38)).alloc (.cells #[.int .i64 m.id, .int .i64 m.node, .int .i64 m.gen, .int .i64 m.stamp, .int .i64 m.err] 3)).cell? ⟨w.heap.size,7,none⟩=some (.slice A m.locks.length cap) :=
   ((Blk.new w 38 #[.int .i64 m.kind, .int .i64 m.id, .int .i64 m.node, .int .i64 m.gen, .int .i64 m.stamp, .int .u64 m.epoch, .int .i64 m.err, .slice A m.locks.length cap]).alloc (.cells #[.int .i64 m.id, .int .i64 m.node, .int .i64 m.gen, .int .i64 m.stamp, .int .i64 m.err] 3)).cell 7
  have h5:∀k,k<5→((w.alloc (.cells #[.int .i64 m.kind, .int .i64 m.id, .int .i64 m.node, .int .i64 m.gen, .int .i64 m.stamp, .int .u64 m.epoch, .int .i64 m.err, .slice A m.locks.length cap] 38)).alloc (.cells #[.int .i64 m.id, .int .i64 m.node, .int .i64 m.gen, .int .i64 m.stamp, .int .i64 m.err] 3)).cell? ⟨w.heap.size+1,k,none⟩=some (.int .i64 (m.five k)):=fun k hk=>by
   have:=five_cell (m:=m) (w.alloc (.cells #[.int .i64 m.kind, .int .i64 m.id, .int .i64 m.node, .int .i64 m.gen, .int .i64 m.stamp, .int .u64 m.epoch, .int .i64 m.err, .slice A m.locks.length cap] 38)) 3 hk
   simpa using this
  generalize (w.alloc (.cells #[.int .i64 m.kind, .int .i64 m.id, .int .i64 m.node, .int .i64 m.gen, .int .i64 m.stamp, .int .u64 m.epoch, .int .i64 m.err, .slice A m.locks.length cap] 38)).alloc (.cells #[.int .i64 m.id, .int .i64 m.node, .int .i64 m.gen, .int .i64 m.stamp, .int .i64 m.err] 3)=V at hb hx h5 ⊢
  have HV:=Lib.hid hb
  have H5:=Lib.hid h5
  clear hb h5
  go_loop [33] (fun t33=>∃k:Nat,k≤5∧t33 = .int .i64 k∧∀j,j<k→sm (m.five j)) (fun t33=>5 - (intOf t33).toNat)
  case atStart=>exact ⟨0,by omega,rfl,fun j hj=>absurd hj (by omega)⟩
  case round =>
   obtain ⟨k,hk,rfl,hsm⟩:=hrel
   have HSM:=Lib.hid hsm
   clear hsm
   by_cases hlt:k<5
   ·have hltI:(k:Int)<5:=by omega
    have hc:=H5.out k hlt
    obtain ⟨n,hn⟩:∃n,n=m.five k:=⟨_,rfl⟩
    rw [←hn] at hc
    have HN:=Lib.hid hn
    clear hn
    by_cases n0:0≤n
    ·by_cases n1:n≤2147483647
     ·go_wp2_with fail
      go_round
      case rel =>
       refine ⟨k+1,by omega,by go_num,fun j hj => ?_⟩
       by_cases e:j=k
       ·subst e
        rw [←HN.out]
        exact ⟨n0,n1⟩
       ·exact HSM.out j (by omega)
      case measure=>simp [intOf];omega
     ·go_wp2_with fail
      go_ret
      refine ⟨?_,HV.out⟩
      rw [decide_eq_false (fun h:m.ok=>by have:=(Mg.five_ok h k).2;rw [←HN.out] at this;omega)]
      rfl
    ·go_wp2_with fail
     go_ret
     refine ⟨?_,HV.out⟩
     rw [decide_eq_false (fun h:m.ok=>by have:=(Mg.five_ok h k).1;rw [←HN.out] at this;omega)]
     rfl
   ·have hltI:¬(k:Int)<5:=by omega
    have HSM5:=Lib.hid (show sm m.id∧sm m.node∧sm m.gen∧sm m.stamp∧sm m.err from ⟨HSM.out 0 (by omega),HSM.out 1 (by omega),HSM.out 2 (by omega),HSM.out 3 (by omega),HSM.out 4 (by omega)⟩)
    clear HSM H5
    have HRV:=Lib.hid (HR.out.below (by decide) HV.out)
    go_wp2_with fail
    go_loopw [47] (fun t47 wr=>∃k:Nat,k≤m.locks.length∧t47 = .int .i64 k∧Below w.heap.size w wr∧∀j y,j<k→m.locks[j]? = some y→y.ok) (fun t47 _=>m.locks.length - (intOf t47).toNat)
    case atStart=>exact ⟨0,by omega,rfl,HV.out,fun j y hj=>absurd hj (by omega)⟩
    case round =>
     clear hx HRV
     obtain ⟨k,hk,rfl,hbr,hok⟩:=hrel
     have HBR:=Lib.hid hbr
     have HOK:=Lib.hid hok
     clear hbr hok
     by_cases hlt2:k<m.locks.length
     ·have hltI2:(k:Int)<(m.locks.length:Int):=by omega
      obtain ⟨y,hy⟩:∃y,m.locks[k]? = some y:=⟨_,List.getElem?_eq_getElem hlt2⟩
      obtain ⟨ad,rfl,c0,c1,c2⟩:=(HR.out.below (by decide) HBR.out).lock hy
      have HY:=Lib.hid hy
      clear hy
      obtain ⟨ya,yb,ym⟩:=y
      simp only at c0 c1 c2
      go_upto_region 12 with (fail)
      have hbx:=HBR.out.alloc HBR.out.size (.cells #[.int .i64 ya, .int .i64 yb, .int .i64 ym] 47)
      have hblk:=Blk.new wr 47 #[.int .i64 ya, .int .i64 yb, .int .i64 ym]
      clear c0 c1 c2
      generalize wr.alloc (.cells #[.int .i64 ya, .int .i64 yb, .int .i64 ym] 47)=W at hbx hblk ⊢
      generalize wr.heap.size=B at hblk ⊢
      have d0:=hblk.cell 0
      have d1:=hblk.cell 1
      have d2:=hblk.cell 2
      simp at d0 d1 d2
      have HBX:=Lib.hid hbx
      have HBLK:=Lib.hid hblk
      clear hbx hblk
      go_wp2_with fail
      refine (spvalid_any ya yb _).mono ?_
      rintro e w1 ⟨rfl,hb1⟩
      have e1:=(HBLK.out.below_ hb1).cell 1
      have e2:=(HBLK.out.below_ hb1).cell 2
      simp at e1 e2
      have HB1:=Lib.hid (HBX.out.trans (hb1.mono HBX.out.size))
      clear hb1 d0 d1 d2
      by_cases p1:0≤ya∧ya<yb
      ·rw [decide_eq_true p1]
       by_cases p2:yb≤4096
       ·by_cases p3:0≤ym∧ym≤2
        ·have HP:=Lib.hid (show Lk.ok ⟨ya,yb,ym⟩ from ⟨p1.1,p1.2,p2,p3.1,p3.2⟩)
         have P3:=Lib.hid p3
         clear p1 p3
         go_wp2_with fail
         refine (mdvalid_any ym _).mono ?_
         rintro e w2 ⟨rfl,rfl⟩
         rw [decide_eq_true P3.out]
         go_wp2_with fail
         go_roundw
         case rel =>
          refine ⟨k+1,by omega,by go_num,HB1.out,fun j z hj hz => ?_⟩
          by_cases e:j=k
          ·subst e
           rw [HY.out] at hz
           injection hz with hz
           subst hz
           exact HP.out
          ·exact HOK.out j z (by omega) hz
         case measure=>simp [intOf];omega
        ·have HNO:=Lib.hid (show ¬Lk.ok ⟨ya,yb,ym⟩ from fun h=>p3 ⟨h.2.2.2.1,h.2.2.2.2⟩)
         have P3:=Lib.hid p3
         clear p1 p3
         go_wp2_with fail
         refine (mdvalid_any ym _).mono ?_
         rintro e w2 ⟨rfl,rfl⟩
         rw [decide_eq_false P3.out]
         go_wp2_with fail
         go_ret
         refine ⟨?_,HB1.out⟩
         rw [decide_eq_false (fun h:m.ok=>HNO.out (h.2.2 _ (List.mem_of_getElem? HY.out)))]
         rfl
       ·have HNO:=Lib.hid (show ¬Lk.ok ⟨ya,yb,ym⟩ from fun h=>p2 h.2.2.1)
        clear p1
        go_wp2_with fail
        go_ret
        refine ⟨?_,HB1.out⟩
        rw [decide_eq_false (fun h:m.ok=>HNO.out (h.2.2 _ (List.mem_of_getElem? HY.out)))]
        rfl
      ·have HNO:=Lib.hid (show ¬Lk.ok ⟨ya,yb,ym⟩ from fun h=>p1 ⟨h.1,h.2.1⟩)
       rw [decide_eq_false p1]
       clear p1
       go_wp2_with fail
       go_ret
       refine ⟨?_,HB1.out⟩
       rw [decide_eq_false (fun h:m.ok=>HNO.out (h.2.2 _ (List.mem_of_getElem? HY.out)))]
       rfl
     ·have hltI2:¬(k:Int)<(m.locks.length:Int):=by omega
      go_wp2_with fail
      go_ret
      refine ⟨?_,HBR.out⟩
      rw [decide_eq_true (show m.ok from ⟨HB.out,HSM5.out,fun y hy=>by
       obtain ⟨j,hj,rfl⟩:=List.mem_iff_getElem.1 hy
       exact HOK.out j _ (by omega) (List.getElem?_eq_getElem hj)⟩)]
      rfl
 ·rw [decide_eq_false (fun h:m.ok=>b0 h.1)]
  unfold Mg.agg
  by_cases b1:1≤m.kind
  ·by_cases b2:m.kind≤15
   ·have b3:¬(m.locks.length:Int)≤200:=fun h=>b0 ⟨b1,b2,by omega⟩
    clear b0
    go_enter Tryz.func40,Tryz.ntmps40
    go_wp2_with fail
    go_ret
    exact ⟨rfl,(Below.refl _ _).alloc (Nat.le_refl _) _⟩
   ·clear b0
    go_enter Tryz.func40,Tryz.ntmps40
    go_wp2_with fail
    go_ret
    exact ⟨rfl,(Below.refl _ _).alloc (Nat.le_refl _) _⟩
  ·clear b0
   go_enter Tryz.func40,Tryz.ntmps40
   go_wp2_with fail
   go_ret
   exact ⟨rfl,(Below.refl _ _).alloc (Nat.le_refl _) _⟩
end Go.Proofs.YtohgabdmmbngbaaGreatDoor
