import Derived.Test.YtldoeodkeieejaaGreatDoorKMapR
import Derived.Test.YtldoeodkeieejaaGreatDoorKCutA
import Derived.Test.YtldoeodkeieejaaGreatDoorKSumA
namespace Go.Proofs.YtldoeodkeieejaaGreatDoor
open Go.RowKit
structure Lk where
 a:Int
 b:Int
 m:Int
 deriving DecidableEq
structure Mg where
 kind:Int
 id:Int
 node:Int
 gen:Int
 stamp:Int
 epoch:Nat
 err:Int
 locks:List Lk
 deriving DecidableEq
def Mg.zero : Mg:=⟨0,0,0,0,0,0,0,[]⟩
def Lk.ok (l:Lk):Prop:=0≤l.a∧l.a<l.b∧l.b≤4096∧0≤l.m∧l.m≤2
instance (l:Lk):Decidable l.ok:=inferInstanceAs (Decidable (_∧_))
def sm (n:Int):Prop:=0≤n∧n≤2147483647
instance (n:Int):Decidable (sm n):=inferInstanceAs (Decidable (_∧_))
def Mg.ok (m:Mg):Prop:=(1≤m.kind∧m.kind≤15∧m.locks.length≤200)∧(sm m.id∧sm m.node∧sm m.gen∧sm m.stamp∧sm m.err)∧∀l∈m.locks,l.ok
instance (m:Mg):Decidable m.ok:=inferInstanceAs (Decidable (_∧_))
def Lk.enc (l:Lk):List UInt8:=le l.a.toNat 4++(le l.b.toNat 4++le l.m.toNat 1)
def Mg.head (m:Mg):List UInt8:=le m.kind.toNat 1++(le m.id.toNat 4++(le m.node.toNat 4++(le m.gen.toNat 4++(le m.stamp.toNat 4++(le m.err.toNat 4++le m.epoch 8)))))
def Mg.enc (m:Mg):List UInt8:=m.head++(le m.locks.length 2++m.locks.flatMap Lk.enc)
def Mg.putS (m:Mg):ByteArray:=if m.ok then str m.enc else ⟨#[]⟩
def lkV (R:Rd):Lk:=⟨R.numV 4,(R.numR 4).numV 4,((R.numR 4).numR 4).numV 1⟩
def lkR (R:Rd):Rd:=((R.numR 4).numR 4).numR 1
def lksR (R:Rd):Nat→Rd
 | 0=>R
 | k+1=>lkR (lksR R k)
def lksV (R:Rd):Nat→List Lk
 | 0 => []
 | k+1=>lksV R k ++ [lkV (lksR R k)]
def hdR (b:ByteArray):Rd:=((((((((⟨b,0⟩:Rd).numR 1).numR 4).numR 4).numR 4).numR 4).numR 4).numR 8)
def getM (b:ByteArray):Mg :=
 ⟨(⟨b,0⟩:Rd).numV 1,((⟨b,0⟩:Rd).numR 1).numV 4,(((⟨b,0⟩:Rd).numR 1).numR 4).numV 4,((((⟨b,0⟩:Rd).numR 1).numR 4).numR 4).numV 4,(((((⟨b,0⟩:Rd).numR 1).numR 4).numR 4).numR 4).numV 4,
   (((((((⟨b,0⟩:Rd).numR 1).numR 4).numR 4).numR 4).numR 4).numR 4).numV 8,((((((⟨b,0⟩:Rd).numR 1).numR 4).numR 4).numR 4).numR 4).numV 4,lksV ((hdR b).countR 200) ((hdR b).countV 200).toNat⟩
def goodM (b:ByteArray):Prop:=(getM b).ok∧str (getM b).enc=b
instance (b:ByteArray):Decidable (goodM b):=inferInstanceAs (Decidable (_∧_))
def Lk.cells (l:Lk):List Value := [.int .i64 l.a, .int .i64 l.b, .int .i64 l.m]
def lkcells (l:List Lk):List Value:=l.flatMap Lk.cells
theorem Lk.cells_len (l:Lk):l.cells.length=3:=rfl
theorem Reads.lock {w:World} {A:Option Addr} {l:List Lk} (h:Reads w 3 A l.length (lkcells l)) {k:Nat} {y:Lk} (hy:l[k]? = some y) :
 ∃ad,A=some ad∧w.cell? (ad.add (k*3))=some (.int .i64 y.a)∧w.cell? ⟨(ad.add (k*3)).block,(ad.add (k*3)).off+1,none⟩=some (.int .i64 y.b)∧w.cell? ⟨(ad.add (k*3)).block,(ad.add (k*3)).off+2,none⟩=some (.int .i64 y.m):=by
 obtain ⟨ad,rfl,hc⟩:=Reads.row Lk.cells_len h hy
 exact ⟨ad,rfl,hc 0 _ rfl,hc 1 _ rfl,hc 2 _ rfl⟩
theorem spvalid_any (a b:Int) (w:World):Calls Tryz.prog 104 #[.agg #[.int .i64 a, .int .i64 b]] w fun e w'=>e = .returned (.bool (decide (0≤a∧a<b)))∧Below w.heap.size w w':=by
 by_cases h0:0≤a
 ·by_cases h1:a<b
  ·rw [decide_eq_true ⟨h0,h1⟩]
   go_enter Tryz.func104,Tryz.ntmps104
   go_wp2
   go_ret
   exact ⟨rfl,(Below.refl _ _).alloc (Nat.le_refl _) _⟩
  ·rw [decide_eq_false (fun h=>h1 h.2)]
   go_enter Tryz.func104,Tryz.ntmps104
   go_wp2
   go_ret
   exact ⟨rfl,(Below.refl _ _).alloc (Nat.le_refl _) _⟩
 ·rw [decide_eq_false (fun h=>h0 h.1)]
  go_enter Tryz.func104,Tryz.ntmps104
  go_wp2
  go_ret
  exact ⟨rfl,(Below.refl _ _).alloc (Nat.le_refl _) _⟩
theorem mdvalid_any (a:Int) (w:World):Calls Tryz.prog 166 #[.int .i64 a] w fun e w'=>e = .returned (.bool (decide (0≤a∧a≤2)))∧w=w':=by
 by_cases h0:0≤a
 ·by_cases h1:a≤2
  ·rw [decide_eq_true ⟨h0,h1⟩]
   go_enter Tryz.func166,Tryz.ntmps166
   go_wp2
   go_ret
   exact ⟨rfl,rfl⟩
  ·rw [decide_eq_false (fun h=>h1 h.2)]
   go_enter Tryz.func166,Tryz.ntmps166
   go_wp2
   go_ret
   exact ⟨rfl,rfl⟩
 ·rw [decide_eq_false (fun h=>h0 h.1)]
  go_enter Tryz.func166,Tryz.ntmps166
  go_wp2
  go_ret
  exact ⟨rfl,rfl⟩
def Keep (o:Nat→Nat) (w:World) (g:Nat) (t:TypeId) (cs:Array Value):Prop:=Blk w g t cs∧o g=0
section
variable {o o':Nat→Nat} {C:Nat→Prop} {w w':World} {g:Nat} {t:TypeId} {cs:Array Value}
theorem Keep.step (h:Keep o w g t cs) (hs:Step o C w o' w') (h0:¬C 0):Keep o' w' g t cs:=⟨h.1.step hs (by rw [h.2];exact h0),(hs.old g h.1.lt).trans h.2⟩
theorem Keep.below_ (h:Keep o w g t cs) (hb:Below w.heap.size w w'):Keep o w' g t cs:=⟨h.1.below_ hb,h.2⟩
theorem Keep.alloc (h:Keep o w g t cs) (x:Obj):Keep o (w.alloc x) g t cs:=⟨h.1.alloc x,h.2⟩
theorem Keep.drewN (h:Keep o w g t cs) (n:Nat):Keep o (w.drewN n) g t cs:=h
theorem Keep.drew (h:Keep o w g t cs):Keep o w.drew g t cs:=h
theorem Keep.new (hf:Fut o w) (t:TypeId) (cs:Array Value):Keep o (w.alloc (.cells cs t)) w.heap.size t cs:=⟨Blk.new _ _ _,hf.at_⟩
end
theorem Blk.eight {w:World} {g:Nat} {t:TypeId} {c0 c1 c2 c3 c4 c5 c6 c7:Value} (h:Blk w g t #[c0,c1,c2,c3,c4,c5,c6,c7]):w.cell? ⟨g,0,none⟩=some c0∧w.cell? ⟨g,1,none⟩=some c1∧w.cell? ⟨g,2,none⟩=some c2∧w.cell? ⟨g,3,none⟩=some c3∧w.cell? ⟨g,4,none⟩=some c4∧w.cell? ⟨g,5,none⟩=some c5∧w.cell? ⟨g,6,none⟩=some c6∧w.cell? ⟨g,7,none⟩=some c7 :=
 ⟨h.cell 0,h.cell 1,h.cell 2,h.cell 3,h.cell 4,h.cell 5,h.cell 6,h.cell 7⟩
theorem Blk.three {w:World} {g:Nat} {t:TypeId} {c0 c1 c2:Value} (h:Blk w g t #[c0,c1,c2]):w.cell? ⟨g,0,none⟩=some c0∧w.cell? ⟨g,1,none⟩=some c1∧w.cell? ⟨g,2,none⟩=some c2:=⟨h.cell 0,h.cell 1,h.cell 2⟩
structure Wg (o:Nat→Nat) (w0 w:World) (p:Nat) (bs:List UInt8):Prop where
 wr:WrAt 242 o 1 w p ⟨bs,0⟩
 env:Env o w0 w
 fut:Fut o w
section
variable {o o':Nat→Nat} {w0 w w':World} {p:Nat} {bs bs':List UInt8}
theorem Wg.next (h:Wg o w0 w p bs) (hw:WrAt 242 o' 1 w' p ⟨bs',0⟩) (hs:Step o (only 1) w o' w'):Wg o' w0 w' p bs':=⟨hw,h.env.step hs (by unfold only;omega),h.fut.step hs⟩
theorem Wg.below_ (h:Wg o w0 w p bs) (hb:Below w.heap.size w w'):Wg o w0 w' p bs:=⟨h.wr.below_ hb,h.env.below_ hb,h.fut.below hb⟩
theorem Wg.alloc (h:Wg o w0 w p bs) (x:Obj):Wg o w0 (w.alloc x) p bs:=⟨h.wr.alloc x,h.env.alloc x,h.fut.alloc x⟩
theorem Wg.drewN (h:Wg o w0 w p bs) (n:Nat):Wg o w0 (w.drewN n) p bs:=⟨h.wr.drewN n,h.env.drewN n,h.fut.drewN n⟩
theorem Wg.drew (h:Wg o w0 w p bs):Wg o w0 w.drew p bs:=h.drewN 1
theorem Wg.start {w0 w1:World} (hb:Below w0.heap.size w0 w1):∃o,Wg o w0 (w1.alloc (.cells #[.slice none 0 0, .int .i64 0] 242)) w1.heap.size []∧∀C,Step (fun _=>0) C w1 o (w1.alloc (.cells #[.slice none 0 0, .int .i64 0] 242)):=by
 obtain ⟨o1,h1,hs⟩:=wr_new 242 (fun _=>0) 1 w1
 exact ⟨o1,⟨h1,((Env.start w0).below_ hb).step (hs (fun _=>False)) (by simp),(show Fut (fun _=>0) w1 from fun _ _=>rfl).step (hs (fun _=>False))⟩,hs⟩
theorem wnum_ok (h:Wg o w0 w p bs) (v:Nat) (n:Int) (hok:numOk v n) (hv:v<18446744073709551616) (hb:bs.length≤1000000000) :
 Calls Tryz.prog 171 #[.pointer (some ⟨p,0,none⟩), .int .u64 v, .int .i64 n] w fun r w'=>r = .returned (.pointer (some ⟨p,0,none⟩))∧∃o',Wg o' w0 w' p (bs++le v n.toNat)∧Step o (only 1) w o' w':=by
 refine (wnum_any h.wr v n hv hb).mono ?_
 rintro e w1 ⟨rfl,o1,hw,hs⟩
 rw [Wr.num_ok rfl hok] at hw
 exact ⟨rfl,o1,h.next hw hs,hs⟩
theorem wbytes_ok (h:Wg o w0 w p bs):Calls Tryz.prog 172 #[.pointer (some ⟨p,0,none⟩)] w fun r w'=>r = .returned (.tuple #[.string (str bs), .int .i64 0])∧Wg o w0 w' p bs:=by
 refine (wbytes_any h.wr).mono ?_
 rintro e w1 ⟨rfl,hb⟩
 exact ⟨rfl,h.below_ hb⟩
end
theorem four_any (v:Nat) (hv:v<4294967296) (w:World):Calls Tryz.prog 189 #[.int .u32 v] w fun e w'=>e = .returned (.string (str (four v)))∧Below w.heap.size w w':=by
 obtain ⟨o1,h1,_⟩:=Wg.start (w0:=w) (Below.refl w.heap.size w)
 have H1:=Lib.hid h1
 have HN:=Lib.hid (show numOk v 4 from ⟨by omega,by omega,by simpa using hv⟩)
 have H64:=Lib.hid (show v<18446744073709551616 by omega)
 clear h1
 go_enter Tryz.func189,Tryz.ntmps189
 go_wp2_with fail
 refine (wnum_ok H1.out v 4 HN.out H64.out (by simp)).mono ?_
 rintro e w2 ⟨rfl,o2,h2,s2⟩
 have H2:=Lib.hid h2
 clear h2 s2
 go_wp2_with fail
 refine (wbytes_ok H2.out).mono ?_
 rintro e w3 ⟨rfl,h3⟩
 have H3:=Lib.hid h3
 clear h3
 rw [show ([]:List UInt8)++le v (4:Int).toNat=four v from rfl]
 go_wp2_with fail
 go_ret
 exact ⟨rfl,H3.out.env.low⟩
theorem of_val (s:ByteArray) (v:Nat) (hv:sumOf s.data.toList=v) (w:World) (g:Nat) (hc:w.cell? ⟨g,0,none⟩=some (.string s)) (hs:s.size≤maxLen) :
 Calls Tryz.prog 190 #[.slice (some ⟨g,0,none⟩) 1 1] w fun e w'=>e = .returned (.int .u32 (v:Int))∧w=w':=hv▸of_any s w g hc hs
theorem below_drew' {B:Nat} {w w1:World} (h:Below B w w1):Below B w w1.drew:=⟨h.os,h.tape,h.output,h.size,h.block⟩
theorem str_append (l m:List UInt8):str l++str m=str (l++m):=by
 refine str_ext ?_
 rw [ByteArray.data_append]
 simp [str]
theorem str_inj {l m:List UInt8} (h:str l=str m):l=m:=by
 have:=congrArg (fun b:ByteArray=>b.data.toList) h
 simpa [str_list] using this
theorem repeatL_zero (c:Nat):Lib.repeatL [0] c=zer c:=by
 induction c with
 | zero=>rfl
 | succ c ih =>
   show [0]++Lib.repeatL [0] c=zer (c+1)
   rw [ih]
   rfl
theorem rep0_any (k:Int) (h0:0≤k) (h1:k≤1000000) (w:World):Calls Tryz.prog 27 #[.string ⟨#[0]⟩, .int .i64 k] w fun e w'=>e = .returned (.string (str (zer k.toNat)))∧Below w.heap.size w w':=by
 obtain ⟨c,rfl⟩:∃c:Nat,k=c:=⟨k.toNat,by omega⟩
 refine (Tryz.strings_Repeat ⟨#[0]⟩ c w (by omega) (by show 1*c≤_;omega)).mono ?_
 rintro e w' ⟨rfl,hb⟩
 refine ⟨?_,hb⟩
 rw [Int.toNat_natCast,←repeatL_zero]
 rfl
theorem zero_any (k:Int) (h0:0≤k) (h1:k≤1000000) (w:World):Calls Tryz.prog 142 #[.int .i64 k] w fun e w'=>e = .returned (.string (str (zer k.toNat)))∧Below w.heap.size w w':=by
 go_enter Tryz.func142,Tryz.ntmps142
 go_wp2_with fail
 refine (rep0_any k h0 h1 w).mono ?_
 rintro e w1 ⟨rfl,hb⟩
 have HB:=Lib.hid hb
 clear hb
 go_wp2_with fail
 go_ret
 exact ⟨rfl,HB.out⟩
theorem pad_str (s:ByteArray) (h:s.size≤60):s++str (zer (60 - (s.size:Int)).toNat)=str (padL s.data.toList 64):=by
 have e:(60 - (s.size:Int)).toNat=64 - 4 - s.data.toList.length:=by
  show (60 - (s.size:Int)).toNat=64 - 4 - s.size
  omega
 rw [e]
 have:=str_append s.data.toList (zer (64 - 4 - s.data.toList.length))
 rwa [str_of] at this
set_option maxRecDepth 100000 in
set_option maxHeartbeats 1000000 in
theorem stamp_any (s:ByteArray) (hs:s.size≤60) (w:World):Calls Tryz.prog 173 #[.string s, .int .i64 64] w fun e w'=>e = .returned (.tuple #[.string (str (stampL s.data.toList 64)), .int .i64 0])∧Below w.heap.size w w':=by
 have HP:=Lib.hid (pad_str s hs)
 have hI:¬(60:Int)<(s.size:Int):=by omega
 have h0:(0:Int)≤60 - (s.size:Int):=by omega
 have h1:60 - (s.size:Int)≤1000000:=by omega
 have hsz:(str (padL s.data.toList 64)).size=60:=by rw [str_size];exact pad_len (show s.data.toList.length≤64 - 4 by show s.size≤60;omega)
 have HSZ:=Lib.hid hsz
 obtain ⟨v,hv⟩:∃v,sumOf (padL s.data.toList 64)=v:=⟨_,rfl⟩
 have hvl:v<4294967296:=by rw [←hv];exact sumOf_lt _
 have HV:=Lib.hid (show sumOf (str (padL s.data.toList 64)).data.toList=v by rw [str_list];exact hv)
 have HVL:=Lib.hid hvl
 have HE:=Lib.hid (show str (padL s.data.toList 64)++str (four v)=str (stampL s.data.toList 64) by rw [str_append];unfold stampL;rw [hv])
 have HML:=Lib.hid (show (str (padL s.data.toList 64)).size≤maxLen by rw [hsz];unfold maxLen;omega)
 clear hsz hv hvl hs
 go_enter Tryz.func173,Tryz.ntmps173
 go_wp2_with fail
 refine (rep0_any (60 - (s.size:Int)) h0 h1 w).mono ?_
 rintro e w1 ⟨rfl,hb1⟩
 have HB1:=Lib.hid hb1
 have hz:(str (zer (60 - (s.size:Int)).toNat)).size≤60:=by rw [str_size,zer_len];omega
 have hcat:s.size+(str (zer (60 - (s.size:Int)).toNat)).size≤9223372036854775807:=by omega
 clear hb1
 generalize hZ:str (zer (60 - (s.size:Int)).toNat)=Z at HP hz hcat ⊢
 clear hZ
 go_wp2_with fail
 rw [HP.out]
 generalize str (padL s.data.toList 64)=P at HV HE HML HSZ ⊢
 refine (of_val P v HV.out _ w1.heap.size ((Blk.new w1 9 #[.string P]).cell 0) HML.out).mono ?_
 rintro e w2 ⟨rfl,rfl⟩
 go_wp2_with fail
 refine (four_any v HVL.out _).mono ?_
 rintro e w3 ⟨rfl,hb3⟩
 have h4:(str (four v)).size=4:=by rw [str_size,four_len]
 have hPI:P.size+(str (four v)).size≤9223372036854775807:=by rw [h4];have:=HSZ.out;omega
 have HF:=Lib.hid ((HB1.out.alloc (HB1.out.size) (.cells #[.string P] 9)).trans (hb3.mono (by have:=HB1.out.size;simp;omega)))
 clear hb3 h4
 generalize str (four v)=F at HE hPI ⊢
 go_wp2_with fail
 go_ret2
 exact ⟨by rw [←HE.out];rfl,HF.out⟩
theorem read_first (b:ByteArray) (m:Nat) (h:b.size=m+4):(b.extract 0 m).data.toList=b.data.toList.take (b.data.toList.length - 4):=by
 rw [extract_list,List.drop_zero]
 congr 1
 show m=b.size - 4
 omega
theorem read_last (b:ByteArray) (m:Nat) (h:b.size=m+4):b.extract m b.size=str (b.data.toList.drop (b.data.toList.length - 4)):=by
 refine str_ext ?_
 have e:b.data.toList.length=b.size:=rfl
 rw [str_list,extract_list,List.take_of_length_le (by omega),e]
 congr 1
 omega
set_option maxRecDepth 100000 in
set_option maxHeartbeats 1000000 in
theorem sread_any (b:ByteArray) (hs:b.size≤1000000000) (w:World):Calls Tryz.prog 148 #[.string b] w fun e w'=>e = .returned (.tuple #[.string (str (readL b.data.toList)), .int .i64 (readE b.data.toList)])∧Below w.heap.size w w':=by
 have hlen:b.data.toList.length=b.size:=rfl
 by_cases h4:b.size<4
 ·have e1:readE b.data.toList=5:=if_pos (by omega)
  have e2:str (readL b.data.toList)=⟨#[]⟩:=by unfold readL;rw [if_neg (by rw [e1];decide)];rfl
  rw [e1,e2]
  have h4I:(b.size:Int) - 4<0:=by omega
  clear e1 e2 hlen h4
  go_enter Tryz.func148,Tryz.ntmps148
  go_wp2_with fail
  go_ret2
  exact ⟨rfl,Below.refl _ _⟩
 ·obtain ⟨m,hm⟩:∃m,b.size=m+4:=⟨b.size - 4,by omega⟩
  have hmI:(b.size:Int) - 4=(m:Int):=by omega
  have hmB:(m:Int)≤(b.size:Int):=by omega
  have hmN:(0:Int)≤(m:Int):=by omega
  have hr:(b.extract 0 m).size≤maxLen:=by rw [ByteArray.size_extract];unfold maxLen;omega
  have HR:=Lib.hid hr
  obtain ⟨v,hv⟩:∃v,sumOf (b.extract 0 m).data.toList=v:=⟨_,rfl⟩
  have HV:=Lib.hid hv
  have hsl:v<4294967296:=by rw [←hv];exact sumOf_lt _
  have HSL:=Lib.hid hsl
  have HX:=Lib.hid (show (b.extract 0 m).size≤281474976710656 by rw [ByteArray.size_extract];omega)
  have e0:=read_first b m hm
  have HL:=Lib.hid (read_last b m hm)
  rw [e0] at hv
  clear hr hsl
  by_cases hq:b.data.toList.drop (b.data.toList.length - 4)=four (sumOf (b.data.toList.take (b.data.toList.length - 4)))
  ·have e1:readE b.data.toList=0:=by unfold readE;rw [if_neg (by omega),if_pos hq]
   have e2:str (readL b.data.toList)=b.extract 0 m:=by unfold readL;rw [if_pos e1,←e0,str_of]
   rw [e1,e2]
   have HQ:=Lib.hid (show str (four v)=b.extract m b.size by rw [HL.out,hq,hv])
   clear e1 e2 hq h4 hv e0 hlen hm
   go_enter Tryz.func148,Tryz.ntmps148
   go_upto_region 4 with (fail)
   have HC:=Lib.hid (show (w.alloc (.cells #[.string (b.extract 0 m)] 9)).drew.cell? ⟨w.heap.size,0,none⟩=some (.string (b.extract 0 m)) from (Blk.new w 9 #[.string (b.extract 0 m)]).cell 0)
   go_region_held3 (fun _=>True) (first | exact trivial)
    (first | (go_at_call 190;((with_reducible refine (of_val (b.extract 0 m) v HV.out _ _ HC.out HR.out).mono ?_);rintro e w1 ⟨rfl,rfl⟩)) | (go_at_call 189;((with_reducible refine (four_any v HSL.out _).mono ?_);rintro e w2 ⟨rfl,hb2⟩)))
   have HB2:=Lib.hid ((below_drew' ((Below.refl w.heap.size w).alloc (Nat.le_refl _) (.cells #[.string (b.extract 0 m)] 9))).trans (hb2.mono (by show w.heap.size≤(w.alloc (.cells #[.string (b.extract 0 m)] 9)).heap.size;simp)))
   rw [HQ.out]
   clear hb2
   rw [beq_self_eq_true (b.extract m b.size).toList]
   go_wp2_with fail
   refine (clone_any (b.extract 0 m) _ HX.out).mono ?_
   rintro e w3 ⟨rfl,hb3⟩
   go_wp2_with fail
   go_ret2
   exact ⟨rfl,HB2.out.trans (hb3.mono HB2.out.size)⟩
  ·have e1:readE b.data.toList=6:=by unfold readE;rw [if_neg (by omega),if_neg hq]
   have e2:str (readL b.data.toList)=⟨#[]⟩:=by unfold readL;rw [if_neg (by rw [e1];decide)];rfl
   rw [e1,e2]
   have HQ:=str_neq (show b.extract m b.size≠str (four v) from fun e=>hq (by
    rw [HL.out,←hv] at e
    exact str_inj e))
   have HQ2:=Lib.hid HQ
   clear e1 e2 hq h4 HQ hv e0 hlen hm
   go_enter Tryz.func148,Tryz.ntmps148
   go_upto_region 4 with (fail)
   have HC:=Lib.hid (show (w.alloc (.cells #[.string (b.extract 0 m)] 9)).drew.cell? ⟨w.heap.size,0,none⟩=some (.string (b.extract 0 m)) from (Blk.new w 9 #[.string (b.extract 0 m)]).cell 0)
   go_region_held3 (fun _=>True) (first | exact trivial)
    (first | (go_at_call 190;((with_reducible refine (of_val (b.extract 0 m) v HV.out _ _ HC.out HR.out).mono ?_);rintro e w1 ⟨rfl,rfl⟩)) | (go_at_call 189;((with_reducible refine (four_any v HSL.out _).mono ?_);rintro e w2 ⟨rfl,hb2⟩)))
   have HB2:=Lib.hid ((below_drew' ((Below.refl w.heap.size w).alloc (Nat.le_refl _) (.cells #[.string (b.extract 0 m)] 9))).trans (hb2.mono (by show w.heap.size≤(w.alloc (.cells #[.string (b.extract 0 m)] 9)).heap.size;simp)))
   have HQ:=HQ2.out
   clear hb2
   generalize str (four v)=S at HQ ⊢
   generalize b.extract m b.size=T at HQ ⊢
   rw [HQ]
   clear HQ HQ2
   go_wp2_with fail
   go_ret2
   exact ⟨rfl,HB2.out⟩
structure Gs (T:TypeId) (o:Nat→Nat) (w0 w:World) (p:Nat) (R:Rd):Prop where
 rd:RdAt T o 1 w p R
 env:Env o w0 w
 fut:Fut o w
section
variable {T:TypeId} {o o':Nat→Nat} {w0 w w':World} {p g:Nat} {R R':Rd}
theorem Gs.next (h:Gs T o w0 w p R) (hw:RdAt T o' 1 w' p R') (hs:Step o (only 1) w o' w'):Gs T o' w0 w' p R':=⟨hw,h.env.step hs (by unfold only;omega),h.fut.step hs⟩
theorem Gs.below_ (h:Gs T o w0 w p R) (hb:Below w.heap.size w w'):Gs T o w0 w' p R:=⟨h.rd.below_ hb,h.env.below_ hb,h.fut.below hb⟩
theorem Gs.alloc (h:Gs T o w0 w p R) (x:Obj):Gs T o w0 (w.alloc x) p R:=⟨h.rd.alloc x,h.env.alloc x,h.fut.alloc x⟩
theorem Gs.drewN (h:Gs T o w0 w p R) (n:Nat):Gs T o w0 (w.drewN n) p R:=⟨h.rd.drewN n,h.env.drewN n,h.fut.drewN n⟩
theorem Gs.drew (h:Gs T o w0 w p R):Gs T o w0 w.drew p R:=h.drewN 1
theorem Gs.setCell (h:Gs T o w0 w p R) (ho:o g=0) (hg:w0.heap.size≤g) (i:Nat) (u:Value):Gs T o w0 (w.setCell ⟨g,i,none⟩ u) p R:=by
 have hne:p≠g:=by
  rintro rfl
  have:=h.rd.2.1
  omega
 exact ⟨⟨h.rd.1.far (p:=⟨g,i,none⟩) hne u,h.rd.2⟩,⟨h.env.low.setCell (p:=⟨g,i,none⟩) hg u,h.env.old⟩,h.fut.setCell _ _⟩
theorem rnum_g (h:Gs 262 o w0 w p R) (n:Int) :
 Calls Tryz.prog 161 #[.pointer (some ⟨p,0,none⟩), .int .i64 n] w fun r w'=>r = .returned (.int .u64 (R.numV n))∧∃o',Gs 262 o' w0 w' p (R.numR n)∧Step o (only 1) w o' w':=by
 refine (rnum_any h.rd n).mono ?_
 rintro e w1 ⟨rfl,o1,h1,hs⟩
 exact ⟨rfl,o1,h.next h1 hs,hs⟩
theorem Keep.set_ {t:TypeId} {cs:Array Value} (h:Keep o w g t cs) (i:Nat) (u:Value):Keep o (w.setCell ⟨g,i,none⟩ u) g t (cs.setIfInBounds i u):=⟨h.1.set_ i u,h.2⟩
theorem Keep.far {t:TypeId} {cs:Array Value} {g':Nat} (h:Keep o w g t cs) (hne:g≠g') (i:Nat) (u:Value):Keep o (w.setCell ⟨g',i,none⟩ u) g t cs:=⟨h.1.far (p:=⟨g',i,none⟩) hne u,h.2⟩
end
theorem fut0 (w:World):Fut (fun _=>0) w:=fun _ _=>rfl
set_option maxHeartbeats 1000000 in
theorem right_any (i:Im) (w:World) (hd:i.data.size≤maxLen):Calls Tryz.prog 191 #[.agg #[.int .i64 i.block, .int .u64 i.ver, .string i.data]] w fun e w'=>e = .returned (.bool (decide i.right))∧Below w.heap.size w w':=by
 obtain ⟨n,v,d⟩:=i
 simp only at hd ⊢
 have HB:=Lib.hid ((Below.refl w.heap.size w).alloc (Nat.le_refl _) (.cells #[.int .i64 n, .int .u64 v, .string d] 47))
 unfold maxLen at hd
 by_cases h0:0≤n
 ·by_cases h1:n<4096
  ·by_cases h2:d.size=96
   ·have h2I:((d.size:Int) == 96)=true:=by simp;omega
    rw [decide_eq_true (show Im.right ⟨n,v,d⟩ from ⟨h0,h1,h2⟩)]
    clear h2
    go_enter Tryz.func191,Tryz.ntmps191
    go_wp2_with fail
    go_ret
    exact ⟨rfl,HB.out⟩
   ·have h2I:((d.size:Int) == 96)=false:=by simp;omega
    rw [decide_eq_false (show ¬Im.right ⟨n,v,d⟩ from fun h=>h2 h.2.2)]
    clear h2
    go_enter Tryz.func191,Tryz.ntmps191
    go_wp2_with fail
    go_ret
    exact ⟨rfl,HB.out⟩
  ·rw [decide_eq_false (show ¬Im.right ⟨n,v,d⟩ from fun h=>h1 h.2.1)]
   go_enter Tryz.func191,Tryz.ntmps191
   go_wp2_with fail
   go_ret
   exact ⟨rfl,HB.out⟩
 ·rw [decide_eq_false (show ¬Im.right ⟨n,v,d⟩ from fun h=>h0 h.1)]
  go_enter Tryz.func191,Tryz.ntmps191
  go_wp2_with fail
  go_ret
  exact ⟨rfl,HB.out⟩
theorem Blk.two {w:World} {g:Nat} {t:TypeId} {c0 c1 c2:Value} (h:Blk w g t #[c0,c1,c2]):w.cell? ⟨g,0,none⟩=some c0∧w.cell? ⟨g,1,none⟩=some c1:=⟨h.cell 0,h.cell 1⟩
theorem wbytes_okb {o:Nat→Nat} {w0 w:World} {p:Nat} {bs:List UInt8} (h:Wg o w0 w p bs):Calls Tryz.prog 172 #[.pointer (some ⟨p,0,none⟩)] w fun r w'=>r = .returned (.tuple #[.string (str bs), .int .i64 0])∧Wg o w0 w' p bs∧Below w.heap.size w w':=by
 refine (wbytes_any h.wr).mono ?_
 rintro e w1 ⟨rfl,hb⟩
 exact ⟨rfl,h.below_ hb,hb⟩
theorem wrapu_n {v:Nat} (h:v≤9223372036854775807):IntKind.u64.wrap (v:Int)=(v:Int):=by rw [IntKind.wrap_u64];omega
set_option maxRecDepth 100000 in
set_option maxHeartbeats 2000000 in
theorem sector_any (n v:Nat) (d:ByteArray) (k:Nat) (w:World) (hn:n<4096) (hv:v<18446744073709551616) (hd:d.size=96) (hk:k≤1) :
 Calls Tryz.prog 192 #[.agg #[.int .i64 (n:Int), .int .u64 (v:Int), .string d], .int .i64 (k:Int)] w fun e w'=>e = .returned (.tuple #[.string (str (secL ⟨n,v,d⟩ k)), .int .i64 0])∧Below w.heap.size w w':=by
 have HNA:=Lib.hid (show numOk n 4 from ⟨by omega,by omega,by simp;omega⟩)
 have HNB:=Lib.hid (show numOk v 8 from ⟨by omega,by omega,by simpa using hv⟩)
 have HA6:=Lib.hid (show n<18446744073709551616 by omega)
 have HB6:=Lib.hid hv
 have wa:=wrapu_n (v:=n) (by omega)
 have HL0:=Lib.hid (show ([]:List UInt8).length≤1000000000 by simp)
 have HL1:=Lib.hid (show ([]++le n (4:Int).toNat).length≤1000000000 by simp [le_len])
 have HN0:=Lib.hid (show ¬only 1 0 by unfold only;omega)
 obtain ⟨lo,hlo⟩:∃lo,k*48=lo:=⟨_,rfl⟩
 obtain ⟨hi,hhi⟩:∃hi,(k+1)*48=hi:=⟨_,rfl⟩
 have e1:(k:Int)*48=(lo:Int):=by omega
 have e2:((k:Int)+1)*48=(hi:Int):=by omega
 have b0:(0:Int)≤(lo:Int):=by omega
 have b1:(lo:Int)≤(hi:Int):=by omega
 have b2:(hi:Int)≤(d.size:Int):=by omega
 have kI0:(0:Int)≤(k:Int):=by omega
 have kI1:(k:Int)≤1:=by omega
 have hxs:(d.extract lo hi).size=48:=by rw [ByteArray.size_extract];omega
 have HT:=Lib.hid (show d.extract lo hi++str (le n 4++le v 8)=str (secT ⟨n,v,d⟩ k) by
  have:=str_append (d.extract lo hi).data.toList (le n 4++le v 8)
  rw [str_of] at this
  rw [this]
  unfold secT
  rw [hlo,hhi]
  rfl)
 have hzz:(str (secT ⟨n,v,d⟩ k)).size≤60:=by rw [str_size,secT_len ⟨by simp,by simp;omega,hd⟩ hk];omega
 have HZZ:=Lib.hid hzz
 have HF:=Lib.hid (show str (stampL (str (secT ⟨n,v,d⟩ k)).data.toList 64)=str (secL ⟨n,v,d⟩ k) by rw [str_list];rfl)
 have hcat:(d.extract lo hi).size+(str (le n 4++le v 8)).size≤9223372036854775807:=by rw [hxs,str_size];simp [le_len]
 have HCAT:=Lib.hid hcat
 clear hlo hhi hv hd hk hxs hzz hcat hn
 obtain ⟨o2,hw2,hs2⟩:=Wg.start (w0:=w) ((Below.refl w.heap.size w).alloc (Nat.le_refl _) (.cells #[.int .i64 (n:Int), .int .u64 (v:Int), .string d] 47))
 have hk2:Keep o2 _ w.heap.size 47 _:=Keep.step (o:=fun _=>0) ⟨Blk.new w 47 #[.int .i64 (n:Int), .int .u64 (v:Int), .string d],rfl⟩ (hs2 (fun _=>False)) (by simp)
 have HW2:=Lib.hid hw2
 have HK2:=Lib.hid hk2
 clear hw2 hs2 hk2
 go_enter Tryz.func192,Tryz.ntmps192
 go_upto_region 2 with (fail)
 rw [show (w.alloc (.cells #[.int .i64 (n:Int), .int .u64 (v:Int), .string d] 47)).heap.size=w.heap.size+1 by simp] at HW2
 generalize (w.alloc (.cells #[.int .i64 (n:Int), .int .u64 (v:Int), .string d] 47)).alloc (.cells #[.slice none 0 0, .int .i64 0] 242)=W at HW2 HK2 ⊢
 generalize hp:w.heap.size+1=p at HW2 ⊢
 generalize hq:w.heap.size=q at HK2 ⊢
 have HP:=Lib.hid hp
 have HQ:=Lib.hid hq
 clear hp hq
 obtain ⟨x0,x1⟩:=HK2.out.1.two
 go_region_held3 (fun w'=>w'.cell? ⟨q,0,none⟩=some (.int .i64 (n:Int))∧w'.cell? ⟨q,1,none⟩=some (.int .u64 (v:Int)))
  (first | exact ⟨x0,x1⟩ | exact hk5.1.two | exact hk4.1.two | exact hk3.1.two | go_keep)
  (first | (go_at_call 171;((with_reducible refine (wnum_ok HW2.out.drew n 4 HNA.out HA6.out HL0.out).mono ?_);rintro e3 w3 ⟨rfl,o3,hw3,hs3⟩;have hk3:=HK2.out.drew.step hs3 HN0.out)) | (go_at_call 171;((with_reducible refine (wnum_ok hw3 v 8 HNB.out HB6.out HL1.out).mono ?_);rintro e4 w4 ⟨rfl,o4,hw4,hs4⟩;have hk4:=hk3.step hs4 HN0.out)) | (go_at_call 172;((with_reducible refine (wbytes_okb hw4).mono ?_);rintro e5 w5 ⟨rfl,hw5,hb5⟩;have hk5:=hk4.below_ hb5)))
 have HW5:=Lib.hid hw5
 have HK5:=Lib.hid hk5
 clear hw3 hs3 hk3 hw4 hs4 hk4 hw5 hb5 hk5 x0 x1 wa HK2 HW2
 have x2:w5.cell? ⟨q,2,none⟩=some (.string d):=HK5.out.1.cell 2
 have hcat:=HCAT.out
 go_wp2_with fail
 rw [HT.out]
 refine (stamp_any (str (secT ⟨n,v,d⟩ k)) HZZ.out _).mono ?_
 rintro e w6 ⟨rfl,hb6⟩
 rw [HF.out]
 have HF6:=Lib.hid (HW5.out.env.low.trans (hb6.mono HW5.out.env.low.size))
 clear hb6 x2
 go_wp2_with fail
 go_ret2
 exact ⟨rfl,HF6.out⟩
end Go.Proofs.YtldoeodkeieejaaGreatDoor
