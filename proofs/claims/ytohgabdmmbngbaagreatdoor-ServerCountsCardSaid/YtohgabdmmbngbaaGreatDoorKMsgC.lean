import Derived.Test.YtohgabdmmbngbaaGreatDoorKMsgA
import Derived.Outline
namespace Go.Proofs.YtohgabdmmbngbaaGreatDoor
open Go.RowKit
def crcBit (x:Nat):Nat:=if x % 2=1 then (x / 2) ^^^ 3988292384 else x / 2
def crcBits (x:Nat):Nat→Nat
 | 0=>x
 | k+1=>crcBit (crcBits x k)
def crcByte (x:Nat) (b:UInt8):Nat:=crcBits (x ^^^ b.toNat) 8
def crc (x:Nat):List UInt8→Nat
 | []=>x
 | b :: r=>crc (crcByte x b) r
def sumOf (l:List UInt8):Nat:=4294967295 - crc 4294967295 l
theorem crc_snoc (x:Nat) (l:List UInt8) (b:UInt8):crc x (l ++ [b])=crcByte (crc x l) b:=by
 induction l generalizing x with
 | nil=>rfl
 | cons c r ih=>exact ih _
theorem crcBit_lt {x:Nat} (h:x<4294967296):crcBit x<4294967296:=by
 unfold crcBit
 split
 ·exact Nat.xor_lt_two_pow (n:=32) (by omega) (by decide)
 ·omega
theorem crcBits_lt {x:Nat} (h:x<4294967296) (k:Nat):crcBits x k<4294967296:=by
 induction k with
 | zero=>exact h
 | succ k ih=>exact crcBit_lt ih
theorem xb_lt {x:Nat} (h:x<4294967296) (b:UInt8):x ^^^ b.toNat<4294967296:=Nat.xor_lt_two_pow (n:=32) h (by have:=b.toNat_lt;omega)
theorem crcByte_lt {x:Nat} (h:x<4294967296) (b:UInt8):crcByte x b<4294967296:=crcBits_lt (xb_lt h b) 8
theorem crc_lt {x:Nat} (h:x<4294967296) (l:List UInt8):crc x l<4294967296:=by
 induction l generalizing x with
 | nil=>exact h
 | cons b r ih=>exact ih (crcByte_lt h b)
theorem sumOf_lt (l:List UInt8):sumOf l<4294967296:=by unfold sumOf;omega
def four (v:Nat):List UInt8:=le v 4
def zer (n:Nat):List UInt8:=List.replicate n 0
theorem zer_len (n:Nat):(zer n).length=n:=List.length_replicate
theorem four_len (v:Nat):(four v).length=4:=le_len _ _
def padL (l:List UInt8) (n:Nat):List UInt8:=l++zer (n - 4 - l.length)
def stampL (l:List UInt8) (n:Nat):List UInt8:=padL l n++four (sumOf (padL l n))
theorem pad_len {l:List UInt8} {n:Nat} (h:l.length≤n - 4):(padL l n).length=n - 4:=by
 unfold padL
 rw [List.length_append,zer_len]
 omega
theorem stamp_len {l:List UInt8} {n:Nat} (h:l.length≤n - 4) (h4:4≤n):(stampL l n).length=n:=by
 unfold stampL
 rw [List.length_append,pad_len h,four_len]
 omega
def readE (b:List UInt8):Int:=if b.length<4 then 5 else if b.drop (b.length - 4)=four (sumOf (b.take (b.length - 4))) then 0 else 6
def readL (b:List UInt8):List UInt8:=if readE b=0 then b.take (b.length - 4) else []
theorem read_stamp {l:List UInt8} {n:Nat} (h:l.length≤n - 4) (h4:4≤n):readE (stampL l n)=0∧readL (stampL l n)=padL l n:=by
 have hl:=stamp_len h h4
 have hp:=pad_len h
 have e1:(stampL l n).drop (n - 4)=four (sumOf (padL l n)):=by
  unfold stampL
  rw [List.drop_append_of_le_length (by omega),List.drop_of_length_le (by omega),List.nil_append]
 have e2:(stampL l n).take (n - 4)=padL l n:=by
  unfold stampL
  rw [List.take_append_of_le_length (by omega),List.take_of_length_le (by omega)]
 have e3:readE (stampL l n)=0:=by
  unfold readE
  rw [if_neg (by omega),hl,e1,e2,if_pos rfl]
 refine ⟨e3,?_⟩
 unfold readL
 rw [if_pos e3,hl,e2]
theorem readL_len {b:List UInt8} (h:readE b=0):(readL b).length=b.length - 4:=by
 unfold readL
 rw [if_pos h,List.length_take]
 omega
structure Im where
 block:Int
 ver:Nat
 data:ByteArray
deriving DecidableEq
def Im.zero : Im:=⟨0,0,⟨#[]⟩⟩
def Im.right (i:Im):Prop:=0≤i.block∧i.block<4096∧i.data.size=96
instance (i:Im):Decidable i.right:=by unfold Im.right;infer_instance
def secT (i:Im) (k:Nat):List UInt8:=(i.data.extract (k*48) ((k+1)*48)).data.toList++(le i.block.toNat 4++le i.ver 8)
def secL (i:Im) (k:Nat):List UInt8:=stampL (secT i k) 64
def blkL (i:Im):List UInt8:=secL i 0++secL i 1
def secI (t:List UInt8):Im:=⟨((⟨str (t.drop 48),0⟩:Rd).numV 4:Nat),((⟨str (t.drop 48),0⟩:Rd).numR 4).numV 8,str (t.take 48)⟩
def secG (b:ByteArray) (k:Nat):Im×Int:=if readE (b.extract (k*64) ((k+1)*64)).data.toList=0 then (secI (readL (b.extract (k*64) ((k+1)*64)).data.toList),0) else (Im.zero,readE (b.extract (k*64) ((k+1)*64)).data.toList)
def getB (block:Int) (b:ByteArray):Im×Int :=
 if b.size≠128 then (Im.zero,5) else if b=str (zer 128) then (⟨block,0,str (zer 96)⟩,0)
 else if (secG b 0).2≠0 then (Im.zero,(secG b 0).2) else if (secG b 1).2≠0 then (Im.zero,(secG b 1).2)
 else if (secG b 0).1.block≠block∨(secG b 1).1.block≠block∨4096≤block then (Im.zero,4)
 else if (secG b 0).1.ver≠(secG b 1).1.ver then (Im.zero,6)
 else (⟨block,(secG b 0).1.ver,(secG b 0).1.data++(secG b 1).1.data⟩,0)
theorem extract_str (l:List UInt8) (i j:Nat):(str l).extract i j=str ((l.take j).drop i):=by
 refine str_ext ?_
 rw [extract_list,str_list,str_list]
theorem xor_is {a b:Nat} (ha:a<4294967296) (hb:b<4294967296):bits BinOp.xor IntKind.u32 (a:Int) (b:Int)=((a ^^^ b:Nat):Int):=by
 have e4:(BitVec.ofInt IntKind.u32.bits (a:Int) ^^^ BitVec.ofInt IntKind.u32.bits (b:Int)).toNat=a ^^^ b:=by
  rw [BitVec.toNat_xor,BitVec.ofInt_natCast,BitVec.ofInt_natCast,BitVec.toNat_ofNat,BitVec.toNat_ofNat]
  have hbits:2 ^ IntKind.u32.bits=4294967296:=rfl
  rw [hbits,Nat.mod_eq_of_lt ha,Nat.mod_eq_of_lt hb]
 have hl:a ^^^ b<4294967296:=Nat.xor_lt_two_pow (n:=32) ha hb
 unfold bits
 simp only [e4]
 rw [IntKind.wrap_u32]
 omega
theorem and_is {a:Nat} (ha:a<4294967296):bits BinOp.and IntKind.u32 (a:Int) 1=((a % 2:Nat):Int):=by
 have e4:(BitVec.ofInt IntKind.u32.bits (a:Int) &&& BitVec.ofInt IntKind.u32.bits 1).toNat=a % 2:=by
  rw [BitVec.toNat_and,BitVec.ofInt_natCast,BitVec.toNat_ofNat]
  have hbits:2 ^ IntKind.u32.bits=4294967296:=rfl
  rw [hbits,Nat.mod_eq_of_lt ha,show (BitVec.ofInt IntKind.u32.bits 1).toNat=1 from rfl,Nat.and_one_is_mod]
 unfold bits
 simp only [e4]
 rw [IntKind.wrap_u32]
 omega
theorem nat_not {x:Nat} (h:x<4294967296):4294967295 ^^^ x=4294967295 - x:=by
 have e1:(~~~(BitVec.ofNat 32 x)).toNat=4294967295 - x:=by
  rw [BitVec.toNat_not,BitVec.toNat_ofNat,Nat.mod_eq_of_lt h]
 rw [BitVec.not_def,BitVec.toNat_xor,BitVec.toNat_allOnes,BitVec.toNat_ofNat,Nat.mod_eq_of_lt h] at e1
 exact e1
theorem xor_max {x:Nat} (h:x<4294967296):bits BinOp.xor IntKind.u32 IntKind.u32.max (x:Int)=4294967295 - (x:Int):=by
 have e:=xor_is (a:=4294967295) (by decide) h
 rw [nat_not h] at e
 rw [show IntKind.u32.max=((4294967295:Nat):Int) from rfl,e]
 omega
theorem xor_half {y:Nat} (h:y<4294967296):bits BinOp.xor IntKind.u32 ((y:Int) / 2) 3988292384=((y / 2 ^^^ 3988292384:Nat):Int):=by
 have e:=xor_is (a:=y / 2) (b:=3988292384) (by omega) (by decide)
 rw [←e,Int.natCast_ediv]
 rfl
theorem take_snoc' (s:ByteArray) (k:Nat) (h:k<s.size):s.data.toList.take (k+1)=s.data.toList.take k ++ [s[k]]:=by
 rw [List.take_succ_eq_append_getElem (by simpa using h)];rfl
set_option maxRecDepth 100000 in
set_option maxHeartbeats 2000000 in
theorem of_any (s:ByteArray) (w:World) (g:Nat) (hc:w.cell? ⟨g,0,none⟩=some (.string s)) (hs:s.size≤maxLen) :
 Calls Tryz.prog 194 #[.slice (some ⟨g,0,none⟩) 1 1] w fun e w'=>e = .returned (.int .u32 (sumOf s.data.toList:Int))∧w=w':=by
 unfold maxLen at hs
 go_enter Tryz.func194,Tryz.ntmps194
 go_wp2_with fail
 go_loop [3,10] (fun t3 t10=>∃k:Nat,k≤1∧t10 = .int .i64 k∧t3 = .int .u32 ((if k=0 then 4294967295 else crc 4294967295 s.data.toList:Nat):Int)) (fun _ t10=>1 - (intOf t10).toNat)
 case atStart=>exact ⟨0,by omega,rfl,rfl⟩
 case round =>
  obtain ⟨k,hk,rfl,rfl⟩:=hrel
  have hk01:k=0∨k=1:=by omega
  rcases hk01 with rfl | rfl
  ·rw [if_pos rfl]
   go_wp2_with fail
   go_loop [3,16] (fun t3 t16=>∃i:Nat,i≤s.size∧t16 = .int .i64 i∧t3 = .int .u32 (crc 4294967295 (s.data.toList.take i):Int)) (fun _ t16=>s.size - (intOf t16).toNat)
   case atStart=>exact ⟨0,by omega,rfl,rfl⟩
   case round =>
    obtain ⟨i,hi,rfl,rfl⟩:=hrel
    by_cases hlt:i<s.size
    ·have hltI:(i:Int)<(s.size:Int):=by omega
     obtain ⟨x,hx⟩:∃x,x=crc 4294967295 (s.data.toList.take i):=⟨_,rfl⟩
     have hxl:x<4294967296:=by rw [hx];exact crc_lt (by decide) _
     rw [←hx]
     have hcr:crc 4294967295 (s.data.toList.take (i+1))=crcByte x s[i]:=by rw [take_snoc' s i hlt,crc_snoc,hx]
     have HCR:=Lib.hid hcr
     have hbl:s[i].toNat<4294967296:=by have:=s[i].toNat_lt;omega
     have hxo:=xor_is hxl hbl
     have hyl:=xb_lt hxl s[i]
     clear hx hcr
     go_wp2_with fail
     go_loop [3,25] (fun t3 t25=>∃j:Nat,j≤8∧t25 = .int .i64 j∧t3 = .int .u32 (crcBits (x ^^^ s[i].toNat) j:Int)) (fun _ t25=>8 - (intOf t25).toNat)
     case atStart=>exact ⟨0,by omega,rfl,rfl⟩
     case round =>
      obtain ⟨j,hj,rfl,rfl⟩:=hrel
      obtain ⟨y,hy⟩:∃y,y=crcBits (x ^^^ s[i].toNat) j:=⟨_,rfl⟩
      have hyl2:y<4294967296:=by rw [hy];exact crcBits_lt hyl j
      rw [←hy]
      have hyb:crcBits (x ^^^ s[i].toNat) (j+1)=crcBit y:=by rw [crcBits,hy]
      have HYB:=Lib.hid hyb
      clear hyb hxo
      by_cases hlt8:j<8
      ·have hltI8:(j:Int)<8:=by omega
       have han:=and_is hyl2
       have hx2:=xor_half hyl2
       clear hy
       by_cases ho:y % 2=1
       ·have ho':((y % 2:Nat):Int)=1:=by omega
        rw [ho'] at han
        have hcb:crcBit y=y / 2 ^^^ 3988292384:=if_pos ho
        have HCB:=Lib.hid hcb
        clear hcb ho ho'
        go_wp2_with fail
        go_round
        case rel=>exact ⟨j+1,by omega,by go_num,by rw [HYB.out,HCB.out]⟩
        case measure=>simp [intOf];omega
       ·have ho':((y % 2:Nat):Int)=0:=by omega
        rw [ho'] at han
        have hcb:crcBit y=y / 2:=if_neg ho
        have HCB:=Lib.hid hcb
        clear hcb ho ho' hx2
        go_wp2_with fail
        go_round
        case rel=>exact ⟨j+1,by omega,by go_num,by rw [HYB.out,HCB.out];go_num⟩
        case measure=>simp [intOf];omega
      ·have hltI8:¬(j:Int)<8:=by omega
       obtain rfl:j=8:=by omega
       have HY:=Lib.hid (show y=crcByte x s[i] from hy)
       clear hy
       go_wp2_with fail
       go_round
       case rel=>exact ⟨i+1,by omega,by go_num,by rw [HCR.out,HY.out]⟩
       case measure=>simp [intOf];omega
    ·have hltI:¬(i:Int)<(s.size:Int):=by omega
     obtain rfl:i=s.size:=by omega
     rw [show s.data.toList.take s.size=s.data.toList from List.take_of_length_le (Nat.le_refl s.data.toList.length)]
     go_wp2_with fail
     go_round
     case rel=>exact ⟨1,by omega,by go_num,rfl⟩
     case measure=>simp [intOf]
  ·rw [if_neg (by decide)]
   have hcl:=crc_lt (x:=4294967295) (by decide) s.data.toList
   have hsm:((sumOf s.data.toList:Nat):Int)=4294967295 - (crc 4294967295 s.data.toList:Int):=by unfold sumOf;omega
   have HSM:=Lib.hid hsm
   clear hsm
   generalize crc 4294967295 s.data.toList=x at hcl HSM ⊢
   have hxm:=xor_max hcl
   go_wp2_with fail
   go_ret
   exact ⟨by rw [HSM.out];rfl,rfl⟩
set_option maxRecDepth 100000 in
set_option maxHeartbeats 2000000 in
theorem xsum_any (s:ByteArray) (w:World) (hs:s.size≤maxLen) :
 Calls Tryz.prog 186 #[.string s] w fun e w'=>e = .returned (.int .u32 (sumOf s.data.toList:Int))∧w=w':=by
 unfold maxLen at hs
 go_enter Tryz.func186,Tryz.ntmps186
 go_wp2_with fail
 go_loop [3,4] (fun t3 t4=>∃i:Nat,i≤s.size∧t4 = .int .i64 i∧t3 = .int .u32 (crc 4294967295 (s.data.toList.take i):Int)) (fun _ t4=>s.size - (intOf t4).toNat)
 case atStart=>exact ⟨0,by omega,rfl,rfl⟩
 case round =>
  obtain ⟨i,hi,rfl,rfl⟩:=hrel
  by_cases hlt:i<s.size
  ·have hltI:(i:Int)<(s.size:Int):=by omega
   obtain ⟨x,hx⟩:∃x,x=crc 4294967295 (s.data.toList.take i):=⟨_,rfl⟩
   have hxl:x<4294967296:=by rw [hx];exact crc_lt (by decide) _
   rw [←hx]
   have hcr:crc 4294967295 (s.data.toList.take (i+1))=crcByte x s[i]:=by rw [take_snoc' s i hlt,crc_snoc,hx]
   have HCR:=Lib.hid hcr
   have hbl:s[i].toNat<4294967296:=by have:=s[i].toNat_lt;omega
   have hxo:=xor_is hxl hbl
   have hyl:=xb_lt hxl s[i]
   clear hx hcr
   go_wp2_with fail
   go_loop [3,5] (fun t3 t5=>∃j:Nat,j≤8∧t5 = .int .i64 j∧t3 = .int .u32 (crcBits (x ^^^ s[i].toNat) j:Int)) (fun _ t5=>8 - (intOf t5).toNat)
   case atStart=>exact ⟨0,by omega,rfl,rfl⟩
   case round =>
    obtain ⟨j,hj,rfl,rfl⟩:=hrel
    obtain ⟨y,hy⟩:∃y,y=crcBits (x ^^^ s[i].toNat) j:=⟨_,rfl⟩
    have hyl2:y<4294967296:=by rw [hy];exact crcBits_lt hyl j
    rw [←hy]
    have hyb:crcBits (x ^^^ s[i].toNat) (j+1)=crcBit y:=by rw [crcBits,hy]
    have HYB:=Lib.hid hyb
    clear hyb hxo
    by_cases hlt8:j<8
    ·have hltI8:(j:Int)<8:=by omega
     have hx2:=xor_half hyl2
     clear hy
     by_cases ho:y % 2=1
     ·have hb:((y:Int) % 2 == 1)=true:=by rw [beq_iff_eq];omega
      have hcb:crcBit y=y / 2 ^^^ 3988292384:=if_pos ho
      have HCB:=Lib.hid hcb
      clear hcb ho
      go_wp2_with fail
      go_round
      case rel=>exact ⟨j+1,by omega,by go_num,by rw [HYB.out,HCB.out]⟩
      case measure=>simp [intOf];omega
     ·have hb:((y:Int) % 2 == 1)=false:=by rw [beq_eq_false_iff_ne];omega
      have hcb:crcBit y=y / 2:=if_neg ho
      have HCB:=Lib.hid hcb
      clear hcb ho hx2
      go_wp2_with fail
      go_round
      case rel=>exact ⟨j+1,by omega,by go_num,by rw [HYB.out,HCB.out];go_num⟩
      case measure=>simp [intOf];omega
    ·have hltI8:¬(j:Int)<8:=by omega
     obtain rfl:j=8:=by omega
     have HY:=Lib.hid (show y=crcByte x s[i] from hy)
     clear hy
     go_wp2_with fail
     go_round
     case rel=>exact ⟨i+1,by omega,by go_num,by rw [HCR.out,HY.out]⟩
     case measure=>simp [intOf];omega
  ·have hltI:¬(i:Int)<(s.size:Int):=by omega
   obtain rfl:i=s.size:=by omega
   rw [show s.data.toList.take s.size=s.data.toList from List.take_of_length_le (Nat.le_refl s.data.toList.length)]
   have hcl:=crc_lt (x:=4294967295) (by decide) s.data.toList
   have hsm:((sumOf s.data.toList:Nat):Int)=4294967295 - (crc 4294967295 s.data.toList:Int):=by unfold sumOf;omega
   have HSM:=Lib.hid hsm
   clear hsm
   generalize crc 4294967295 s.data.toList=x at hcl HSM ⊢
   go_wp2_with fail
   go_ret
   exact ⟨by rw [HSM.out];rfl,rfl⟩
def Keep (o:Nat→Nat) (w:World) (g:Nat) (t:TypeId) (cs:Array Value):Prop:=Blk w g t cs∧o g=0
section
variable {o o':Nat→Nat} {C:Nat→Prop} {w w':World} {g:Nat} {t:TypeId} {cs:Array Value}
theorem Keep.step (h:Keep o w g t cs) (hs:Step o C w o' w') (h0:¬C 0):Keep o' w' g t cs:=⟨h.1.step hs (by rw [h.2];exact h0),(hs.old g h.1.lt).trans h.2⟩
theorem Keep.below_ (h:Keep o w g t cs) (hb:Below w.heap.size w w'):Keep o w' g t cs:=⟨h.1.below_ hb,h.2⟩
theorem Keep.alloc (h:Keep o w g t cs) (x:Obj):Keep o (w.alloc x) g t cs:=⟨h.1.alloc x,h.2⟩
theorem Keep.drew (h:Keep o w g t cs):Keep o w.drew g t cs:=h
theorem Keep.new (hf:Fut o w) (t:TypeId) (cs:Array Value):Keep o (w.alloc (.cells cs t)) w.heap.size t cs:=⟨Blk.new _ _ _,hf.at_⟩
end
theorem Blk.eight {w:World} {g:Nat} {t:TypeId} {c0 c1 c2 c3 c4 c5 c6 c7:Value} (h:Blk w g t #[c0,c1,c2,c3,c4,c5,c6,c7]):w.cell? ⟨g,0,none⟩=some c0∧w.cell? ⟨g,1,none⟩=some c1∧w.cell? ⟨g,2,none⟩=some c2∧w.cell? ⟨g,3,none⟩=some c3∧w.cell? ⟨g,4,none⟩=some c4∧w.cell? ⟨g,5,none⟩=some c5∧w.cell? ⟨g,6,none⟩=some c6∧w.cell? ⟨g,7,none⟩=some c7 :=
 ⟨h.cell 0,h.cell 1,h.cell 2,h.cell 3,h.cell 4,h.cell 5,h.cell 6,h.cell 7⟩
theorem Blk.three {w:World} {g:Nat} {t:TypeId} {c0 c1 c2:Value} (h:Blk w g t #[c0,c1,c2]):w.cell? ⟨g,0,none⟩=some c0∧w.cell? ⟨g,1,none⟩=some c1∧w.cell? ⟨g,2,none⟩=some c2:=⟨h.cell 0,h.cell 1,h.cell 2⟩
structure Wg (o:Nat→Nat) (w0 w:World) (p:Nat) (bs:List UInt8):Prop where
 wr:WrAt 256 o 1 w p ⟨bs,0⟩
 env:Env o w0 w
 fut:Fut o w
section
variable {o o':Nat→Nat} {w0 w w':World} {p:Nat} {bs bs':List UInt8}
theorem Wg.next (h:Wg o w0 w p bs) (hw:WrAt 256 o' 1 w' p ⟨bs',0⟩) (hs:Step o (only 1) w o' w'):Wg o' w0 w' p bs':=⟨hw,h.env.step hs (by unfold only;omega),h.fut.step hs⟩
theorem Wg.below_ (h:Wg o w0 w p bs) (hb:Below w.heap.size w w'):Wg o w0 w' p bs:=⟨h.wr.below_ hb,h.env.below_ hb,h.fut.below hb⟩
theorem Wg.alloc (h:Wg o w0 w p bs) (x:Obj):Wg o w0 (w.alloc x) p bs:=⟨h.wr.alloc x,h.env.alloc x,h.fut.alloc x⟩
theorem Wg.drewN (h:Wg o w0 w p bs) (n:Nat):Wg o w0 (w.drewN n) p bs:=⟨h.wr.drewN n,h.env.drewN n,h.fut.drewN n⟩
theorem Wg.drew (h:Wg o w0 w p bs):Wg o w0 w.drew p bs:=h.drewN 1
theorem Wg.start {w0 w1:World} (hb:Below w0.heap.size w0 w1):∃o,Wg o w0 (w1.alloc (.cells #[.slice none 0 0, .int .i64 0] 256)) w1.heap.size []∧∀C,Step (fun _=>0) C w1 o (w1.alloc (.cells #[.slice none 0 0, .int .i64 0] 256)):=by
 obtain ⟨o1,h1,hs⟩:=wr_new 256 (fun _=>0) 1 w1
 exact ⟨o1,⟨h1,((Env.start w0).below_ hb).step (hs (fun _=>False)) (by simp),(show Fut (fun _=>0) w1 from fun _ _=>rfl).step (hs (fun _=>False))⟩,hs⟩
theorem wnum_ok (h:Wg o w0 w p bs) (v:Nat) (n:Int) (hok:numOk v n) (hv:v<18446744073709551616) (hb:bs.length≤1000000000) :
 Calls Tryz.prog 189 #[.pointer (some ⟨p,0,none⟩), .int .u64 v, .int .i64 n] w fun r w'=>r = .returned (.pointer (some ⟨p,0,none⟩))∧∃o',Wg o' w0 w' p (bs++le v n.toNat)∧Step o (only 1) w o' w':=by
 refine (wnum_any h.wr v n hv hb).mono ?_
 rintro e w1 ⟨rfl,o1,hw,hs⟩
 rw [Wr.num_ok rfl hok] at hw
 exact ⟨rfl,o1,h.next hw hs,hs⟩
theorem wbytes_ok (h:Wg o w0 w p bs):Calls Tryz.prog 190 #[.pointer (some ⟨p,0,none⟩)] w fun r w'=>r = .returned (.tuple #[.string (str bs), .int .i64 0])∧Wg o w0 w' p bs:=by
 refine (wbytes_any h.wr).mono ?_
 rintro e w1 ⟨rfl,hb⟩
 exact ⟨rfl,h.below_ hb⟩
end
theorem four_any (v:Nat) (hv:v<4294967296) (w:World):Calls Tryz.prog 193 #[.int .u32 v] w fun e w'=>e = .returned (.string (str (four v)))∧Below w.heap.size w w':=by
 obtain ⟨o1,h1,_⟩:=Wg.start (w0:=w) (Below.refl w.heap.size w)
 have H1:=Lib.hid h1
 have HN:=Lib.hid (show numOk v 4 from ⟨by omega,by omega,by simpa using hv⟩)
 have H64:=Lib.hid (show v<18446744073709551616 by omega)
 clear h1
 go_enter Tryz.func193,Tryz.ntmps193
 go_wp2_with fail
 refine (wnum_ok H1.out v 4 HN.out H64.out (by simp)).mono ?_
 rintro e w2 ⟨rfl,o2,h2,s2⟩
 have H2:=Lib.hid h2
 clear h2 s2
 go_wp2_with fail
 refine (wbytes_ok H2.out).mono ?_
 rintro e w3 ⟨rfl,h3⟩
 have H3:=Lib.hid h3
 clear h3
 rw [show ([]:List UInt8)++le v (4:Int).toNat=four v from rfl]
 go_wp2_with fail
 go_ret
 exact ⟨rfl,H3.out.env.low⟩
theorem of_val (s:ByteArray) (v:Nat) (hv:sumOf s.data.toList=v) (w:World) (g:Nat) (hc:w.cell? ⟨g,0,none⟩=some (.string s)) (hs:s.size≤maxLen) :
 Calls Tryz.prog 194 #[.slice (some ⟨g,0,none⟩) 1 1] w fun e w'=>e = .returned (.int .u32 (v:Int))∧w=w':=hv▸of_any s w g hc hs
theorem below_drew' {B:Nat} {w w1:World} (h:Below B w w1):Below B w w1.drew:=⟨h.os,h.tape,h.output,h.size,h.block⟩
theorem str_append (l m:List UInt8):str l++str m=str (l++m):=by
 refine str_ext ?_
 rw [ByteArray.data_append]
 simp [str]
theorem str_inj {l m:List UInt8} (h:str l=str m):l=m:=by
 have:=congrArg (fun b:ByteArray=>b.data.toList) h
 simpa [str_list] using this
theorem repeatL_zero (c:Nat):Lib.repeatL [0] c=zer c:=by
 induction c with
 | zero=>rfl
 | succ c ih =>
   show [0]++Lib.repeatL [0] c=zer (c+1)
   rw [ih]
   rfl
theorem rep0_any (k:Int) (h0:0≤k) (h1:k≤1000000) (w:World):Calls Tryz.prog 151 #[.string ⟨#[0]⟩, .int .i64 k] w fun e w'=>e = .returned (.string (str (zer k.toNat)))∧Below w.heap.size w w':=by
 obtain ⟨c,rfl⟩:∃c:Nat,k=c:=⟨k.toNat,by omega⟩
 refine (Tryz.strings_Repeat ⟨#[0]⟩ c w (by omega) (by show 1*c≤_;omega)).mono ?_
 rintro e w' ⟨rfl,hb⟩
 refine ⟨?_,hb⟩
 rw [Int.toNat_natCast,←repeatL_zero]
 rfl
theorem pad_str (s:ByteArray) (h:s.size≤60):s++str (zer (60 - (s.size:Int)).toNat)=str (padL s.data.toList 64):=by
 have e:(60 - (s.size:Int)).toNat=64 - 4 - s.data.toList.length:=by
  show (60 - (s.size:Int)).toNat=64 - 4 - s.size
  omega
 rw [e]
 have:=str_append s.data.toList (zer (64 - 4 - s.data.toList.length))
 rwa [str_of] at this
set_option maxRecDepth 100000 in
set_option maxHeartbeats 1000000 in
theorem stamp_any (s:ByteArray) (hs:s.size≤60) (w:World):Calls Tryz.prog 140 #[.string s, .int .i64 64] w fun e w'=>e = .returned (.tuple #[.string (str (stampL s.data.toList 64)), .int .i64 0])∧Below w.heap.size w w':=by
 have HP:=Lib.hid (pad_str s hs)
 have hI:¬(60:Int)<(s.size:Int):=by omega
 have h0:(0:Int)≤60 - (s.size:Int):=by omega
 have h1:60 - (s.size:Int)≤1000000:=by omega
 have hsz:(str (padL s.data.toList 64)).size=60:=by rw [str_size];exact pad_len (show s.data.toList.length≤64 - 4 by show s.size≤60;omega)
 have HSZ:=Lib.hid hsz
 obtain ⟨v,hv⟩:∃v,sumOf (padL s.data.toList 64)=v:=⟨_,rfl⟩
 have hvl:v<4294967296:=by rw [←hv];exact sumOf_lt _
 have HV:=Lib.hid (show sumOf (str (padL s.data.toList 64)).data.toList=v by rw [str_list];exact hv)
 have HVL:=Lib.hid hvl
 have HE:=Lib.hid (show str (padL s.data.toList 64)++str (four v)=str (stampL s.data.toList 64) by rw [str_append];unfold stampL;rw [hv])
 have HML:=Lib.hid (show (str (padL s.data.toList 64)).size≤maxLen by rw [hsz];unfold maxLen;omega)
 clear hsz hv hvl hs
 go_enter Tryz.func140,Tryz.ntmps140
 go_wp2_with fail
 refine (rep0_any (60 - (s.size:Int)) h0 h1 w).mono ?_
 rintro e w1 ⟨rfl,hb1⟩
 have HB1:=Lib.hid hb1
 have hz:(str (zer (60 - (s.size:Int)).toNat)).size≤60:=by rw [str_size,zer_len];omega
 have hcat:s.size+(str (zer (60 - (s.size:Int)).toNat)).size≤9223372036854775807:=by omega
 clear hb1
 generalize hZ:str (zer (60 - (s.size:Int)).toNat)=Z at HP hz hcat ⊢
 clear hZ
 go_wp2_with fail
 rw [HP.out]
 generalize str (padL s.data.toList 64)=P at HV HE HML HSZ ⊢
 refine (of_val P v HV.out _ w1.heap.size ((Blk.new w1 9 #[.string P]).cell 0) HML.out).mono ?_
 rintro e w2 ⟨rfl,rfl⟩
 go_wp2_with fail
 refine (four_any v HVL.out _).mono ?_
 rintro e w3 ⟨rfl,hb3⟩
 have h4:(str (four v)).size=4:=by rw [str_size,four_len]
 have hPI:P.size+(str (four v)).size≤9223372036854775807:=by rw [h4];have:=HSZ.out;omega
 have HF:=Lib.hid ((HB1.out.alloc (HB1.out.size) (.cells #[.string P] 9)).trans (hb3.mono (by have:=HB1.out.size;simp;omega)))
 clear hb3 h4
 generalize str (four v)=F at HE hPI ⊢
 go_wp2_with fail
 go_ret2
 exact ⟨by rw [←HE.out];rfl,HF.out⟩
theorem read_first (b:ByteArray) (m:Nat) (h:b.size=m+4):(b.extract 0 m).data.toList=b.data.toList.take (b.data.toList.length - 4):=by
 rw [extract_list,List.drop_zero]
 congr 1
 show m=b.size - 4
 omega
theorem read_last (b:ByteArray) (m:Nat) (h:b.size=m+4):b.extract m b.size=str (b.data.toList.drop (b.data.toList.length - 4)):=by
 refine str_ext ?_
 have e:b.data.toList.length=b.size:=rfl
 rw [str_list,extract_list,List.take_of_length_le (by omega),e]
 congr 1
 omega
set_option maxRecDepth 100000 in
set_option maxHeartbeats 1000000 in
theorem sread_any (b:ByteArray) (hs:b.size≤1000000000) (w:World):Calls Tryz.prog 181 #[.string b] w fun e w'=>e = .returned (.tuple #[.string (str (readL b.data.toList)), .int .i64 (readE b.data.toList)])∧Below w.heap.size w w':=by
 have hlen:b.data.toList.length=b.size:=rfl
 by_cases h4:b.size<4
 ·have e1:readE b.data.toList=5:=if_pos (by omega)
  have e2:str (readL b.data.toList)=⟨#[]⟩:=by unfold readL;rw [if_neg (by rw [e1];decide)];rfl
  rw [e1,e2]
  have h4I:(b.size:Int) - 4<0:=by omega
  clear e1 e2 hlen h4
  go_enter Tryz.func181,Tryz.ntmps181
  go_wp2_with fail
  go_ret2
  exact ⟨rfl,Below.refl _ _⟩
 ·obtain ⟨m,hm⟩:∃m,b.size=m+4:=⟨b.size - 4,by omega⟩
  have hmI:(b.size:Int) - 4=(m:Int):=by omega
  have hmB:(m:Int)≤(b.size:Int):=by omega
  have hmN:(0:Int)≤(m:Int):=by omega
  have hr:(b.extract 0 m).size≤maxLen:=by rw [ByteArray.size_extract];unfold maxLen;omega
  have HR:=Lib.hid hr
  obtain ⟨v,hv⟩:∃v,sumOf (b.extract 0 m).data.toList=v:=⟨_,rfl⟩
  have HV:=Lib.hid hv
  have hsl:v<4294967296:=by rw [←hv];exact sumOf_lt _
  have HSL:=Lib.hid hsl
  have HX:=Lib.hid (show (b.extract 0 m).size≤281474976710656 by rw [ByteArray.size_extract];omega)
  have e0:=read_first b m hm
  have HL:=Lib.hid (read_last b m hm)
  rw [e0] at hv
  clear hr hsl
  by_cases hq:b.data.toList.drop (b.data.toList.length - 4)=four (sumOf (b.data.toList.take (b.data.toList.length - 4)))
  ·have e1:readE b.data.toList=0:=by unfold readE;rw [if_neg (by omega),if_pos hq]
   have e2:str (readL b.data.toList)=b.extract 0 m:=by unfold readL;rw [if_pos e1,←e0,str_of]
   rw [e1,e2]
   have HQ:=Lib.hid (show str (four v)=b.extract m b.size by rw [HL.out,hq,hv])
   clear e1 e2 hq h4 hv e0 hlen hm
   go_enter Tryz.func181,Tryz.ntmps181
   go_upto_region 4 with (fail)
   have HC:=Lib.hid (show (w.alloc (.cells #[.string (b.extract 0 m)] 9)).drew.cell? ⟨w.heap.size,0,none⟩=some (.string (b.extract 0 m)) from (Blk.new w 9 #[.string (b.extract 0 m)]).cell 0)
   go_region_held3 (fun _=>True) (first | exact trivial)
    (first | (go_at_call 194;((with_reducible refine (of_val (b.extract 0 m) v HV.out _ _ HC.out HR.out).mono ?_);rintro e w1 ⟨rfl,rfl⟩)) | (go_at_call 193;((with_reducible refine (four_any v HSL.out _).mono ?_);rintro e w2 ⟨rfl,hb2⟩)))
   have HB2:=Lib.hid ((below_drew' ((Below.refl w.heap.size w).alloc (Nat.le_refl _) (.cells #[.string (b.extract 0 m)] 9))).trans (hb2.mono (by show w.heap.size≤(w.alloc (.cells #[.string (b.extract 0 m)] 9)).heap.size;simp)))
   rw [HQ.out]
   clear hb2
   rw [beq_self_eq_true (b.extract m b.size).toList]
   go_wp2_with fail
   refine (clone_any (b.extract 0 m) _ HX.out).mono ?_
   rintro e w3 ⟨rfl,hb3⟩
   go_wp2_with fail
   go_ret2
   exact ⟨rfl,HB2.out.trans (hb3.mono HB2.out.size)⟩
  ·have e1:readE b.data.toList=6:=by unfold readE;rw [if_neg (by omega),if_neg hq]
   have e2:str (readL b.data.toList)=⟨#[]⟩:=by unfold readL;rw [if_neg (by rw [e1];decide)];rfl
   rw [e1,e2]
   have HQ:=str_neq (show b.extract m b.size≠str (four v) from fun e=>hq (by
    rw [HL.out,←hv] at e
    exact str_inj e))
   have HQ2:=Lib.hid HQ
   clear e1 e2 hq h4 HQ hv e0 hlen hm
   go_enter Tryz.func181,Tryz.ntmps181
   go_upto_region 4 with (fail)
   have HC:=Lib.hid (show (w.alloc (.cells #[.string (b.extract 0 m)] 9)).drew.cell? ⟨w.heap.size,0,none⟩=some (.string (b.extract 0 m)) from (Blk.new w 9 #[.string (b.extract 0 m)]).cell 0)
   go_region_held3 (fun _=>True) (first | exact trivial)
    (first | (go_at_call 194;((with_reducible refine (of_val (b.extract 0 m) v HV.out _ _ HC.out HR.out).mono ?_);rintro e w1 ⟨rfl,rfl⟩)) | (go_at_call 193;((with_reducible refine (four_any v HSL.out _).mono ?_);rintro e w2 ⟨rfl,hb2⟩)))
   have HB2:=Lib.hid ((below_drew' ((Below.refl w.heap.size w).alloc (Nat.le_refl _) (.cells #[.string (b.extract 0 m)] 9))).trans (hb2.mono (by show w.heap.size≤(w.alloc (.cells #[.string (b.extract 0 m)] 9)).heap.size;simp)))
   have HQ:=HQ2.out
   clear hb2
   generalize str (four v)=S at HQ ⊢
   generalize b.extract m b.size=T at HQ ⊢
   rw [HQ]
   clear HQ HQ2
   go_wp2_with fail
   go_ret2
   exact ⟨rfl,HB2.out⟩
structure Gs (T:TypeId) (o:Nat→Nat) (w0 w:World) (p:Nat) (R:Rd):Prop where
 rd:RdAt T o 1 w p R
 env:Env o w0 w
 fut:Fut o w
section
variable {T:TypeId} {o o':Nat→Nat} {w0 w w':World} {p g:Nat} {R R':Rd}
theorem Gs.next (h:Gs T o w0 w p R) (hw:RdAt T o' 1 w' p R') (hs:Step o (only 1) w o' w'):Gs T o' w0 w' p R':=⟨hw,h.env.step hs (by unfold only;omega),h.fut.step hs⟩
theorem Gs.alloc (h:Gs T o w0 w p R) (x:Obj):Gs T o w0 (w.alloc x) p R:=⟨h.rd.alloc x,h.env.alloc x,h.fut.alloc x⟩
theorem Gs.setCell (h:Gs T o w0 w p R) (ho:o g=0) (hg:w0.heap.size≤g) (i:Nat) (u:Value):Gs T o w0 (w.setCell ⟨g,i,none⟩ u) p R:=by
 have hne:p≠g:=by
  rintro rfl
  have:=h.rd.2.1
  omega
 exact ⟨⟨h.rd.1.far (p:=⟨g,i,none⟩) hne u,h.rd.2⟩,⟨h.env.low.setCell (p:=⟨g,i,none⟩) hg u,h.env.old⟩,h.fut.setCell _ _⟩
theorem rnum_g (h:Gs 291 o w0 w p R) (n:Int) :
 Calls Tryz.prog 183 #[.pointer (some ⟨p,0,none⟩), .int .i64 n] w fun r w'=>r = .returned (.int .u64 (R.numV n))∧∃o',Gs 291 o' w0 w' p (R.numR n)∧Step o (only 1) w o' w':=by
 refine (rnum_any h.rd n).mono ?_
 rintro e w1 ⟨rfl,o1,h1,hs⟩
 exact ⟨rfl,o1,h.next h1 hs,hs⟩
theorem Keep.set_ {t:TypeId} {cs:Array Value} (h:Keep o w g t cs) (i:Nat) (u:Value):Keep o (w.setCell ⟨g,i,none⟩ u) g t (cs.setIfInBounds i u):=⟨h.1.set_ i u,h.2⟩
theorem Keep.far {t:TypeId} {cs:Array Value} {g':Nat} (h:Keep o w g t cs) (hne:g≠g') (i:Nat) (u:Value):Keep o (w.setCell ⟨g',i,none⟩ u) g t cs:=⟨h.1.far (p:=⟨g',i,none⟩) hne u,h.2⟩
end
end Go.Proofs.YtohgabdmmbngbaaGreatDoor
