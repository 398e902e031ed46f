import Derived.Test.YtohgabdmmbngbaaGreatDoorKSrvD
import Derived.Test.YtohgabdmmbngbaaGreatDoorKSortK
import Derived.Test.YtohgabdmmbngbaaGreatDoorKSrvI
set_option linter.unusedVariables false
set_option linter.unusedSimpArgs false
namespace Go.Proofs.YtohgabdmmbngbaaGreatDoor
open Go.RowKit
def PrRq (o:Nat→Nat) (c:Nat) (g:Nat) (lb:Array Value) (l:List RqV) (q:RqV→Bool) (w:World):Prop:=∀(W:World) (s:RqV),s∈l→Step o (only c) w o W→Calls Tryz.prog g (#[.agg #[.int .i64 s.r.node, .int .i64 s.r.m.kind, .int .i64 s.r.m.id, .int .i64 s.r.m.node, .int .i64 s.r.m.gen, .int .i64 s.r.m.stamp, .int .u64 s.r.m.epoch, .int .i64 s.r.m.err, .slice s.A s.n s.cap]]++lb) W fun e w'=>e = .returned (.bool (q s))∧Below W.heap.size W w'
section
variable {w:World} {o:Nat→Nat} {c:Nat}
theorem reqs_size (x:RqV):(RqV.cells x).length=9:=rfl
set_option maxRecDepth 100000 in
set_option maxHeartbeats 2000000 in
theorem idxreqs_any (g:Nat) (lb:Array Value) (eg:∀args w,(callFunc g args).run Tryz.prog w = .ok (.enter g args) w) (l:List RqV) (q:RqV→Bool) (A:Option Addr) (cap:Nat) (h:OwnS o c w 161 9 (.slice A l.length cap) l.length (rqcells l)) (hl:l.length≤1000000) (hp:PrRq o c g lb l q w) :
 Calls Tryz.prog 164 #[.slice A l.length cap, .func (.func g) #[] lb] w fun e w'=>e = .returned (.int .i64 (idxI q l))∧Below w.heap.size w w':=by
 have HR:=Lib.hid h
 have HP:=Lib.hid hp
 have hlI:(l.length:Int)≤1000000:=by omega
 clear h hp hl
 go_enter Tryz.func164,Tryz.ntmps164
 go_wp2_with fail
 go_loopg [8] l.length (fun n t8 wr=>∃i:Nat,n+i=l.length∧t8 = .int .i64 (i:Nat)∧(∀x∈l.take i,q x=false)∧Hid (Below w.heap.size w wr))
 case atStart=>exact ⟨0,by omega,rfl,by simp,Lib.hid (Below.refl _ _)⟩
 case round =>
  obtain ⟨i,hni,rfl,hno,HB⟩:=hrel
  have HNI:=Lib.hid hni
  have HNO:=Lib.hid hno
  clear hni hno
  by_cases hlt:i<l.length
  ·have hltI:(i:Int)<(l.length:Int):=by omega
   obtain ⟨s,hs⟩:∃s,l[i]? = some s:=⟨_,List.getElem?_eq_getElem hlt⟩
   obtain ⟨gb,cur,rfl,_⟩:=HR.out.blk (by omega)
   have HOWN:=Lib.hid (HR.out.below_ HB.out)
   have hat:∀k u,(RqV.cells s)[k]? = some u→(rqcells l)[i*9+k]? = some u:=fun k u hk=>flatS_at reqs_size hs hk
   have x0:wr.cell? ⟨gb,i*9,none⟩=some (.int .i64 s.r.node):=HOWN.out.at_ (hat 0 _ rfl)
   have x1:wr.cell? ⟨gb,i*9+1,none⟩=some (.int .i64 s.r.m.kind):=HOWN.out.at_ (hat 1 _ rfl)
   have x2:wr.cell? ⟨gb,i*9+2,none⟩=some (.int .i64 s.r.m.id):=HOWN.out.at_ (hat 2 _ rfl)
   have x3:wr.cell? ⟨gb,i*9+3,none⟩=some (.int .i64 s.r.m.node):=HOWN.out.at_ (hat 3 _ rfl)
   have x4:wr.cell? ⟨gb,i*9+4,none⟩=some (.int .i64 s.r.m.gen):=HOWN.out.at_ (hat 4 _ rfl)
   have x5:wr.cell? ⟨gb,i*9+5,none⟩=some (.int .i64 s.r.m.stamp):=HOWN.out.at_ (hat 5 _ rfl)
   have x6:wr.cell? ⟨gb,i*9+6,none⟩=some (.int .u64 s.r.m.epoch):=HOWN.out.at_ (hat 6 _ rfl)
   have x7:wr.cell? ⟨gb,i*9+7,none⟩=some (.int .i64 s.r.m.err):=HOWN.out.at_ (hat 7 _ rfl)
   have x8:wr.cell? ⟨gb,i*9+8,none⟩=some (.slice s.A s.n s.cap):=HOWN.out.at_ (hat 8 _ rfl)
   have HC:=Lib.hid (HP.out wr s (List.mem_of_getElem? hs) (Step.of_below o _ HB.out))
   have HS:=Lib.hid hs
   clear hat hs
   by_cases hq:q s=true
   ·have HI:=Lib.hid (idxI_at HNO.out HS.out hq)
    go_wp2_with (go_at_fn g;refine HC.out.mono ?_;rintro e w2 ⟨rfl,hb2⟩;have HB2:=Lib.hid (HB.out.trans (hb2.mono HB.out.size));clear hb2)
    go_ret
    exact ⟨by rw [HI.out];first | done | rfl,HB2.out⟩
   ·have hq:q s=false:=Bool.eq_false_iff.2 hq
    have HN2:=Lib.hid (take_no HNO.out HS.out hq)
    go_wp2_with (go_at_fn g;refine HC.out.mono ?_;rintro e w2 ⟨rfl,hb2⟩;have HB2:=Lib.hid (HB.out.trans (hb2.mono HB.out.size));clear hb2)
    go_roundg (l.length - (i+1))
    case measure=>have:=HNI.out;omega
    case rel=>exact ⟨i+1,by omega,by go_num,HN2.out,HB2⟩
  ·have hltI:¬(i:Int)<(l.length:Int):=by omega
   have HI:=Lib.hid (idxI_no (l:=l) (q:=q) (fun x hx=>HNO.out x (by rw [List.take_of_length_le (by omega)];exact hx)))
   go_wp2_with fail
   go_ret
   exact ⟨by rw [HI.out];first | done | rfl,HB.out⟩
set_option maxRecDepth 100000 in
set_option maxHeartbeats 4000000 in
theorem delreqs_any (g:Nat) (lb:Array Value) (eg:∀args w,(callFunc g args).run Tryz.prog w = .ok (.enter g args) w) (l:List RqV) (q:RqV→Bool) (A:Option Addr) (cap:Nat) (h:OwnS o c w 161 9 (.slice A l.length cap) l.length (rqcells l)) (hl:l.length≤1000000) (hp:PrRq o c g lb l q w) :
 Calls Tryz.prog 177 #[.slice A l.length cap, .func (.func g) #[] lb] w fun e w'=>e = .returned (.slice A (l.filter (fun x => !q x)).length cap)∧OwnS o c w' 161 9 (.slice A (l.filter (fun x => !q x)).length cap) (l.filter (fun x => !q x)).length (rqcells (l.filter (fun x => !q x)))∧Step o (only c) w o w':=by
 have HI:=Lib.hid (idxreqs_any g lb eg l q A cap h hl hp)
 have HR:=Lib.hid h
 have HP:=Lib.hid hp
 have hlI:(l.length:Int)≤1000000:=by omega
 rcases idx_cases q l with ⟨hi,hn⟩ | ⟨i0,hi,hlt0,hT,hF⟩
 ·have HF:=Lib.hid (filter_all_no hn)
  rw [hi] at HI
  clear h hp hl hi hn
  go_enter Tryz.func177,Tryz.ntmps177
  go_wp2_with fail
  refine HI.out.mono ?_
  rintro e w1 ⟨rfl,hb⟩
  have HB:=Lib.hid hb
  clear hb
  go_wp2_with fail
  go_ret
  exact ⟨by rw [HF.out];rfl,by rw [HF.out];exact HR.out.below_ HB.out,Step.of_below o _ HB.out⟩
 ·rw [hi] at HI
  have e0:((i0:Int) == -1)=false:=by
   simp
  obtain ⟨gb,cur,rfl,_,hgc,hcap,hcm,_⟩:=h.blk (by omega)
  have HGC:=Lib.hid hgc
  have HT:=Lib.hid hT
  have HFF:=Lib.hid hF
  have HLT0:=Lib.hid hlt0
  have hcapI:(l.length:Int)≤(cap:Int):=by omega
  have HCM:=Lib.hid hcm
  have hi0I:(i0:Int)<1000000:=by omega
  clear h hp hl hi hgc hT hF hcm
  go_enter Tryz.func177,Tryz.ntmps177
  go_wp2_with fail
  refine HI.out.mono ?_
  rintro e w1 ⟨rfl,hb⟩
  have HB:=Lib.hid hb
  clear hb
  go_wp2_with fail
  go_loopg [5,6] (l.length - (i0+1)) (fun n t5 t6 wr=>∃(i j:Nat) (M:List RqV),n+j=l.length∧i<j∧t5 = .int .i64 (i:Nat)∧t6 = .int .i64 (j:Nat)∧M.length=l.length∧M.take i=(l.take j).filter (fun x => !q x)∧M.drop j=l.drop j∧OwnS o c wr 161 9 (.slice (some ⟨gb,0,none⟩) l.length cap) l.length (rqcells M)∧Step o (only c) w o wr)
  case atStart=>exact ⟨i0,i0+1,l,by have:=HLT0.out;omega,by omega,rfl,by go_num,rfl,HT.out,rfl,HR.out.below_ HB.out,Step.of_below o _ HB.out⟩
  case round =>
   obtain ⟨i,j,M,hnj,hij,rfl,rfl,hML,hMT,hMD,hown,hst⟩:=hrel
   have HNJ:=Lib.hid hnj
   have HMT:=Lib.hid hMT
   have HMD:=Lib.hid hMD
   have HOWN:=Lib.hid hown
   have HST:=Lib.hid hst
   have HML:=Lib.hid hML
   clear hnj hMT hMD hown hst hML
   by_cases hlt:j<l.length
   ·have hltI:(j:Int)<(l.length:Int):=by omega
    have hijI:(i:Int)<(j:Int):=by omega
    obtain ⟨s,hs⟩:∃s,l[j]? = some s:=⟨_,List.getElem?_eq_getElem hlt⟩
    have hsM:M[j]? = some s:=drop_get HMD.out hs
    have hat:∀k u,(RqV.cells s)[k]? = some u→(rqcells M)[j*9+k]? = some u:=fun k u hk=>flatS_at reqs_size hsM hk
    have x0:wr.cell? ⟨gb,j*9,none⟩=some (.int .i64 s.r.node):=HOWN.out.at_ (hat 0 _ rfl)
    have x1:wr.cell? ⟨gb,j*9+1,none⟩=some (.int .i64 s.r.m.kind):=HOWN.out.at_ (hat 1 _ rfl)
    have x2:wr.cell? ⟨gb,j*9+2,none⟩=some (.int .i64 s.r.m.id):=HOWN.out.at_ (hat 2 _ rfl)
    have x3:wr.cell? ⟨gb,j*9+3,none⟩=some (.int .i64 s.r.m.node):=HOWN.out.at_ (hat 3 _ rfl)
    have x4:wr.cell? ⟨gb,j*9+4,none⟩=some (.int .i64 s.r.m.gen):=HOWN.out.at_ (hat 4 _ rfl)
    have x5:wr.cell? ⟨gb,j*9+5,none⟩=some (.int .i64 s.r.m.stamp):=HOWN.out.at_ (hat 5 _ rfl)
    have x6:wr.cell? ⟨gb,j*9+6,none⟩=some (.int .u64 s.r.m.epoch):=HOWN.out.at_ (hat 6 _ rfl)
    have x7:wr.cell? ⟨gb,j*9+7,none⟩=some (.int .i64 s.r.m.err):=HOWN.out.at_ (hat 7 _ rfl)
    have x8:wr.cell? ⟨gb,j*9+8,none⟩=some (.slice s.A s.n s.cap):=HOWN.out.at_ (hat 8 _ rfl)
    have HS:=Lib.hid hs
    have HBX:=Lib.hid (Blk.new wr 161 #[.int .i64 s.r.node, .int .i64 s.r.m.kind, .int .i64 s.r.m.id, .int .i64 s.r.m.node, .int .i64 s.r.m.gen, .int .i64 s.r.m.stamp, .int .u64 s.r.m.epoch, .int .i64 s.r.m.err, .slice s.A s.n s.cap])
    have HOW1:=Lib.hid (HOWN.out.alloc (.cells #[.int .i64 s.r.node, .int .i64 s.r.m.kind, .int .i64 s.r.m.id, .int .i64 s.r.m.node, .int .i64 s.r.m.gen, .int .i64 s.r.m.stamp, .int .u64 s.r.m.epoch, .int .i64 s.r.m.err, .slice s.A s.n s.cap] 161))
    have HST1:=Lib.hid (HST.out.alloc (.cells #[.int .i64 s.r.node, .int .i64 s.r.m.kind, .int .i64 s.r.m.id, .int .i64 s.r.m.node, .int .i64 s.r.m.gen, .int .i64 s.r.m.stamp, .int .u64 s.r.m.epoch, .int .i64 s.r.m.err, .slice s.A s.n s.cap] 161))
    have HNE:=Lib.hid (show gb≠wr.heap.size from fun e=>by
     have:=HOWN.out.lt gb rfl
     omega)
    have HC:=Lib.hid (HP.out _ s (List.mem_of_getElem? HS.out) HST1.out)
    clear hat hs hsM HOWN HST
    go_upto_region 8 with (fail)
    generalize wr.alloc (.cells #[.int .i64 s.r.node, .int .i64 s.r.m.kind, .int .i64 s.r.m.id, .int .i64 s.r.m.node, .int .i64 s.r.m.gen, .int .i64 s.r.m.stamp, .int .u64 s.r.m.epoch, .int .i64 s.r.m.err, .slice s.A s.n s.cap] 161)=W1 at HBX HOW1 HST1 HC ⊢
    generalize wr.heap.size=X at HBX HNE ⊢
    clear x0 x1 x2 x3 x4 x5 x6 x7 x8
    have y0:=HBX.out.cell 0
    have y1:=HBX.out.cell 1
    have y2:=HBX.out.cell 2
    have y3:=HBX.out.cell 3
    have y4:=HBX.out.cell 4
    have y5:=HBX.out.cell 5
    have y6:=HBX.out.cell 6
    have y7:=HBX.out.cell 7
    have y8:=HBX.out.cell 8
    simp only [List.getElem?_toArray,List.getElem?_cons_zero,List.getElem?_cons_succ] at y0 y1 y2 y3 y4 y5 y6 y7 y8
    by_cases hq:q s=true
    ·rw [hq] at HC
     have HFN:=Lib.hid (filter_skip HMT.out HS.out hq)
     have HDN:=Lib.hid (drop_next HMD.out)
     go_wp2_with (go_at_fn g;refine HC.out.mono ?_;rintro e w2 ⟨rfl,hb2⟩;have HB2:=Lib.hid hb2;clear hb2)
     go_roundg (l.length - (j+1))
     case measure=>have:=HNJ.out;omega
     case rel=>exact ⟨i,j+1,M,by omega,by omega,rfl,by go_num,HML.out,HFN.out,HDN.out,HOW1.out.below_ HB2.out,HST1.out.trans (Step.of_below o _ HB2.out)⟩
    ·have hq:q s=false:=Bool.eq_false_iff.2 hq
     rw [hq] at HC
     have HFN:=Lib.hid (filter_take (v:=s) HMT.out HS.out hq hij hlt HML.out)
     have HDN:=Lib.hid (drop_setM (v:=s) (i:=i) HMD.out hij)
     go_upto_region 9 with (go_at_fn g;refine HC.out.mono ?_;rintro e w2 ⟨rfl,hb2⟩;have HB2:=Lib.hid hb2;clear hb2)
     have HOW2:=Lib.hid (HOW1.out.below_ HB2.out)
     obtain ⟨gb',cur2,hg2,hb2,_,hc1,_,hc3,_⟩:=HOW2.out.blk (by omega)
     injection hg2 with hg2
     injection hg2 with hg2
     subst hg2
     have hkn:(i+1)*9≤l.length*9:=Nat.mul_le_mul_right _ (by omega)
     have hkc:l.length*9≤cap*9:=Nat.mul_le_mul_right _ hc1
     obtain ⟨u0,p0⟩:∃u,w2.cell? ⟨gb,i*9,none⟩=some u:=hb2.cell_some (by omega)
     obtain ⟨u1,p1⟩:∃u,w2.cell? ⟨gb,i*9+1,none⟩=some u:=hb2.cell_some (by omega)
     obtain ⟨u2,p2⟩:∃u,w2.cell? ⟨gb,i*9+2,none⟩=some u:=hb2.cell_some (by omega)
     obtain ⟨u3,p3⟩:∃u,w2.cell? ⟨gb,i*9+3,none⟩=some u:=hb2.cell_some (by omega)
     obtain ⟨u4,p4⟩:∃u,w2.cell? ⟨gb,i*9+4,none⟩=some u:=hb2.cell_some (by omega)
     obtain ⟨u5,p5⟩:∃u,w2.cell? ⟨gb,i*9+5,none⟩=some u:=hb2.cell_some (by omega)
     obtain ⟨u6,p6⟩:∃u,w2.cell? ⟨gb,i*9+6,none⟩=some u:=hb2.cell_some (by omega)
     obtain ⟨u7,p7⟩:∃u,w2.cell? ⟨gb,i*9+7,none⟩=some u:=hb2.cell_some (by omega)
     obtain ⟨u8,p8⟩:∃u,w2.cell? ⟨gb,i*9+8,none⟩=some u:=hb2.cell_some (by omega)
     have f0:=hb2.frozen (i*9)
     have f1:=hb2.frozen (i*9+1)
     have f2:=hb2.frozen (i*9+2)
     have f3:=hb2.frozen (i*9+3)
     have f4:=hb2.frozen (i*9+4)
     have f5:=hb2.frozen (i*9+5)
     have f6:=hb2.frozen (i*9+6)
     have f7:=hb2.frozen (i*9+7)
     have f8:=hb2.frozen (i*9+8)
     have HBY:=HBX.out.below_ HB2.out
     have z0:=HBY.cell 0
     have z1:=HBY.cell 1
     have z2:=HBY.cell 2
     have z3:=HBY.cell 3
     have z4:=HBY.cell 4
     have z5:=HBY.cell 5
     have z6:=HBY.cell 6
     have z7:=HBY.cell 7
     have z8:=HBY.cell 8
     simp only [List.getElem?_toArray,List.getElem?_cons_zero,List.getElem?_cons_succ] at z0 z1 z2 z3 z4 z5 z6 z7 z8
     have hset:=HOW2.out.setAt reqs_size HML.out (show i<l.length by omega) s
     have HN:=Lib.hid (show OwnS o c (((((((((w2.setCell ⟨gb,i*9,none⟩ (.int .i64 s.r.node)).setCell ⟨gb,i*9+1,none⟩ (.int .i64 s.r.m.kind)).setCell ⟨gb,i*9+2,none⟩ (.int .i64 s.r.m.id)).setCell ⟨gb,i*9+3,none⟩ (.int .i64 s.r.m.node)).setCell ⟨gb,i*9+4,none⟩ (.int .i64 s.r.m.gen)).setCell ⟨gb,i*9+5,none⟩ (.int .i64 s.r.m.stamp)).setCell ⟨gb,i*9+6,none⟩ (.int .u64 s.r.m.epoch)).setCell ⟨gb,i*9+7,none⟩ (.int .i64 s.r.m.err)).setCell ⟨gb,i*9+8,none⟩ (.slice s.A s.n s.cap)) 161 9 (.slice (some ⟨gb,0,none⟩) l.length cap) l.length (rqcells (M.set i s)) from hset)
     have HST2:=Lib.hid (show Step o (only c) w o (((((((((w2.setCell ⟨gb,i*9,none⟩ (.int .i64 s.r.node)).setCell ⟨gb,i*9+1,none⟩ (.int .i64 s.r.m.kind)).setCell ⟨gb,i*9+2,none⟩ (.int .i64 s.r.m.id)).setCell ⟨gb,i*9+3,none⟩ (.int .i64 s.r.m.node)).setCell ⟨gb,i*9+4,none⟩ (.int .i64 s.r.m.gen)).setCell ⟨gb,i*9+5,none⟩ (.int .i64 s.r.m.stamp)).setCell ⟨gb,i*9+6,none⟩ (.int .u64 s.r.m.epoch)).setCell ⟨gb,i*9+7,none⟩ (.int .i64 s.r.m.err)).setCell ⟨gb,i*9+8,none⟩ (.slice s.A s.n s.cap)) from (HST1.out.trans (Step.of_below o _ HB2.out)).trans (setCells_step (i:=i*9) (vs:=RqV.cells s) HGC.out))
     have hne:=HNE.out
     clear hset hb2 HBY hkn hkc hc1 hc3
     go_wp2_with fail
     go_roundg (l.length - (j+1))
     case measure=>have:=HNJ.out;omega
     case rel=>exact ⟨i+1,j+1,M.set i s,by omega,by omega,by go_num,by go_num,by rw [List.length_set];exact HML.out,HFN.out,HDN.out,HN.out,HST2.out⟩
   ·have hltI:¬(j:Int)<(l.length:Int):=by omega
    obtain rfl:j=l.length:=by have:=HNJ.out;omega
    obtain ⟨hk1,hk2⟩:=take_all HMT.out (Nat.le_refl _) (by rw [HML.out];omega)
    have hcapi:¬cap=i:=by omega
    obtain ⟨w3,hclr,hcut,hst3⟩:=run_clear_rows (P:=Tryz.prog) HOWN.out 67 _ Tryz.underlying67 Tryz.zeroValue161 (by rfl) (by simp [Value.cells,Value.oneCell']) hij (by omega) (cap - i)
    have hclr2:=fun ty=>hclr gb ty rfl
    have htk:(rqcells M).take (i*9)=rqcells (l.filter (fun x => !q x)):=(flatS_take reqs_size M i).trans (by rw [hk1];rfl)
    rw [htk] at hcut
    have HCUT:=Lib.hid hcut
    have HK2:=Lib.hid hk2
    have HST3:=Lib.hid (HST.out.trans hst3)
    clear hclr hcut hst3 hk1 hk2 htk
    go_wp2_with fail
    go_ret
    exact ⟨by rw [HK2.out];rfl,by rw [HK2.out];exact HCUT.out,HST3.out⟩
end
theorem Gr.step_count (G:Gr) (w:Wq):(G.step w).out.length+(G.step w).left.length=G.out.length+G.left.length+1:=by
 unfold Gr.step
 split
 ·simp
  omega
 ·simp
  omega
theorem Gr.go_count : ∀(ws:List Wq) (G:Gr),(ws.foldl Gr.step G).out.length+(ws.foldl Gr.step G).left.length=G.out.length+G.left.length+ws.length
 | [],G=>rfl
 | x :: ws,G=>by
   have h1:=Gr.go_count ws (G.step x)
   have h2:=G.step_count x
   rw [List.foldl_cons,List.length_cons]
   omega
theorem grant_count (T:Tb):T.grant.1.length+T.grant.2.waits.length=T.waits.length:=by
 have:=Gr.go_count T.waits ⟨[],[],[],T⟩
 simp only [List.length_nil,Nat.zero_add] at this
 exact this
theorem cancel_count (T:Tb) (id:Int):(T.cancel id).1.1.length+(T.cancel id).2.waits.length≤T.waits.length:=by
 have hf:=List.length_filter_le (fun w:Wq => !decide (w.id=id)) T.waits
 unfold Tb.cancel
 split
 ·show 0+_≤_
  rw [Nat.zero_add]
  exact hf
 ·have:=grant_count {T with waits:=T.waits.filter (fun w => !decide (w.id=id))}
  exact Nat.le_trans (Nat.le_of_eq this) hf
structure FgWf (S0 S:Sv):Prop where
 wf:TbWf S.T
 count:S.granted.length+S.T.waits.length≤S0.granted.length+S0.T.waits.length
theorem FgWf.step {S0 S:Sv} (h:FgWf S0 S) (node:Int) (w:Wq):FgWf S0 (forget1 node S w):=by
 unfold forget1
 split
 ·refine ⟨h.wf.cancel w.id,?_⟩
  show (S.granted++(S.T.cancel w.id).1.1).length+(S.T.cancel w.id).2.waits.length≤_
  have:=cancel_count S.T w.id
  have h2:=h.count
  rw [List.length_append]
  omega
 ·exact h
section
variable {o o':Nat→Nat} {c:Nat} {C:Nat→Prop} {w w':World} {s:Nat} {S:Sv} {P:SvP} {v:Value}
theorem SvIn.keep (h:SvIn o c w s S P) (hc1:1≤c) {o1:Nat→Nat} {w1:World} {v:Value} {K:List Rq} (hs:Step o (only (c+2)) w o1 w1) (hk:KeptAt o1 (c+2) w1 v K) :
 SvIn o1 c (w1.setCell ⟨s,166,none⟩ v) s {S with kept:=K} {P with kv:=v}∧Step o (svC c) w o1 (w1.setCell ⟨s,166,none⟩ v):=by
 have hc0:¬only (c+2) 0:=by unfold only;omega
 have hr1:∀d,d≠2→¬only (c+2) (c+d):=fun d hd=>by unfold only;omega
 have hb1:Blk w1 s 70 (S.cells P):=h.blk.step hs (by rw [h.col];exact hr1 0 (by omega))
 have hcol:o1 s=c:=(hs.old s h.blk.lt).trans h.col
 have hrest:SvRest o1 c w1 {S with kept:=K} {P with kv:=v}:=by
  refine ⟨h.rest.outs.step hs (hr1 1 (by omega)) hc0,hk,h.rest.granted.step hs (hr1 3 (by omega)),h.rest.ids.step hs (hr1 4 (by omega)),fun i h1 h2 => ?_,h.rest.table.step hs (fun y hy=>by unfold tabC at hy;unfold only;omega),h.rest.lease.step hs (hr1 41 (by omega)) (hr1 42 (by omega)),h.rest.disk.step hs (fun y h1 h2=>by unfold only;omega),h.rest.nodes⟩
  obtain ⟨m,e,hm⟩:=h.rest.told i h1 h2
  exact ⟨m,e,hm.step hs (by unfold only;omega)⟩
 have hs3:Step o1 (only c) w1 o1 (w1.setCell ⟨s,166,none⟩ v):=(Step.refl o1 (only c) w1).setCell (p:=⟨s,166,none⟩) hcol _
 have hcell:(S.cells P).setIfInBounds (163+3) v=({S with kept:=K}:Sv).cells {P with kv:=v}:=Sv.tail_set rfl rfl rfl rfl
 refine ⟨⟨hcell▸hb1.set_ 166 _,hcol,hrest.step hs3 (fun y h1 h2=>by unfold only;omega) (by unfold only;omega)⟩,?_⟩
 exact (hs.mono (only_sv (by omega))).trans (hs3.mono (fun y h=>by unfold only at h;unfold svC;omega))
theorem forget1_pr {gb:Nat} {node:Int} (hk:Keep o w gb 3 #[.int .i64 node]) (hc:c≠0) (l:List RqV):PrRq o c 178 #[.pointer (some ⟨gb,0,none⟩)] l (fun s=>decide (s.r.node=node)) w:=fun W s _ hst=>by
 show Calls Tryz.prog 178 #[.agg #[.int .i64 s.r.node, .int .i64 s.r.m.kind, .int .i64 s.r.m.id, .int .i64 s.r.m.node, .int .i64 s.r.m.gen, .int .i64 s.r.m.stamp, .int .u64 s.r.m.epoch, .int .i64 s.r.m.err, .slice s.A s.n s.cap], .pointer (some ⟨gb,0,none⟩)] W fun e w'=>e = .returned (.bool (decide (s.r.node=node)))∧Below W.heap.size W w'
 have hk2:=(hk.step hst (by unfold only;omega)).1
 have HB:=Lib.hid ((Below.refl W.heap.size W).alloc (Nat.le_refl _) (.cells #[.int .i64 s.r.node, .int .i64 s.r.m.kind, .int .i64 s.r.m.id, .int .i64 s.r.m.node, .int .i64 s.r.m.gen, .int .i64 s.r.m.stamp, .int .u64 s.r.m.epoch, .int .i64 s.r.m.err, .slice s.A s.n s.cap] 161))
 have x0:(W.alloc (.cells #[.int .i64 s.r.node, .int .i64 s.r.m.kind, .int .i64 s.r.m.id, .int .i64 s.r.m.node, .int .i64 s.r.m.gen, .int .i64 s.r.m.stamp, .int .u64 s.r.m.epoch, .int .i64 s.r.m.err, .slice s.A s.n s.cap] 161)).cell? ⟨gb,0,none⟩=some (.int .i64 node):=(hk2.alloc _).cell 0
 clear hk2 hst
 by_cases h:s.r.node=node
 ·have b1:(s.r.node == node)=true:=by simp [h]
  have HS:=Lib.hid (decide_eq_true h)
  clear h
  go_enter Tryz.func178,Tryz.ntmps178
  go_wp2_with fail
  go_ret
  exact ⟨by rw [HS.out];first | done | rfl,HB.out⟩
 ·have b1:(s.r.node == node)=false:=by simp [h]
  have HS:=Lib.hid (decide_eq_false h)
  clear h
  go_enter Tryz.func178,Tryz.ntmps178
  go_wp2_with fail
  go_ret
  exact ⟨by rw [HS.out];first | done | rfl,HB.out⟩
set_option maxRecDepth 100000 in
set_option maxHeartbeats 16000000 in
theorem vforget_any (h:SvAt o c w s S) (hf:Fut o w) (hc1:1≤c) (wf:TbWf S.T) (hkl:S.kept.length≤1000000) (hg:S.granted.length+S.T.waits.length≤1000000) (node:Int) :
 Calls Tryz.prog 117 #[.pointer (some ⟨s,0,none⟩), .int .i64 node] w fun e w'=>e = .returned (.tuple #[])∧∃o',SvAt o' c w' s (S.forget node)∧Step o (svC c) w o' w':=by
 have eg:∀args w,(callFunc 178 args).run Tryz.prog w = .ok (.enter 178 args) w:=enters_of Tryz.func178 (by kernel_rfl) rfl
 obtain ⟨P,h⟩:=h
 have HC:=Lib.hid hc1
 have HW:=Lib.hid wf
 have HG:=Lib.hid hg
 have HV0:=Lib.hid (h.alloc (.cells #[.int .i64 node] 3))
 have HK0:=Lib.hid (Keep.new hf 3 #[.int .i64 node])
 have HF0:=Lib.hid (hf.alloc (.cells #[.int .i64 node] 3))
 have HS0:=Lib.hid ((Step.refl o (svC c) w).alloc (.cells #[.int .i64 node] 3))
 have HRD:=Lib.hid (show S.forget node=S.T.waits.foldl (forget1 node) {S with kept:=S.kept.filter (fun r => !decide (r.node=node))} from rfl)
 clear h hf hc1 wf hg
 go_enter Tryz.func117,Tryz.ntmps117
 go_upto_region 1 with (fail)
 generalize w.alloc (.cells #[.int .i64 node] 3)=W0 at HV0 HK0 HF0 HS0 ⊢
 generalize w.heap.size=gb at HK0 ⊢
 obtain ⟨rows,hr1,hr2,hr3⟩:=HV0.out.rest.kept
 obtain ⟨A,cap,hkv,_⟩:=own_form' hr2
 rw [hkv] at hr2
 have hrl:rows.length≤1000000:=by
  rw [←hr1,List.length_map] at hkl
  exact hkl
 have y166:W0.cell? ⟨s,166,none⟩=some (.slice A rows.length cap):=(HV0.out.t (k:=3) rfl).trans (by rw [hkv])
 have hd:=delreqs_any 178 #[.pointer (some ⟨gb,0,none⟩)] eg rows (fun s=>decide (s.r.node=node)) A cap hr2 hrl (forget1_pr HK0.out (by omega) rows)
 have HKM:=Lib.hid (show (rows.filter (fun x => !decide (x.r.node=node))).map RqV.r=S.kept.filter (fun r => !decide (r.node=node)) by
  rw [←hr1,List.filter_map]
  rfl)
 have HR3:=Lib.hid hr3
 clear hr1 hr2 hr3 hkl
 go_wp2_with fail
 refine hd.mono ?_
 clear hd
 rintro e w1 ⟨rfl,ho1,hs1⟩
 have hc02:¬only (c+2) 0:=by unfold only;omega
 have hkp:KeptAt o (c+2) w1 (.slice A (rows.filter (fun x => !decide (x.r.node=node))).length cap) (S.kept.filter (fun r => !decide (r.node=node))):=⟨_,HKM.out,ho1,fun x hx=>⟨(HR3.out x (List.mem_filter.1 hx).1).1,(HR3.out x (List.mem_filter.1 hx).1).2.step hs1 hc02⟩⟩
 obtain ⟨hv2,hs2⟩:=HV0.out.keep HC.out hs1 hkp
 have hb1:=HV0.out.blk.step hs1 (by rw [HV0.out.col];unfold only;omega)
 have y166b:w1.cell? ⟨s,166,none⟩=some (.slice A rows.length cap):=((hb1.cell (163+3)).trans (Sv.tail_at (k:=3))).trans (show some P.kv=_ by rw [hkv])
 have f166:=hb1.frozen 166
 generalize (rows.filter (fun x => !decide (x.r.node=node))).length=kn at hv2 hs2 ⊢
 have HV2:=Lib.hid hv2
 have HS2:=Lib.hid (HS0.out.trans hs2)
 have HK2:=Lib.hid (HK0.out.step hs2 (svC_0 HC.out))
 have HF2:=Lib.hid (HF0.out.step hs2)
 generalize S.kept.filter (fun r => !decide (r.node=node))=K at HRD hv2 HV2 hkp
 clear ho1 hs1 hkp hv2 hs2 hb1 y166
 go_upto_region 2 with (fail)
 generalize w1.setCell ⟨s,166,none⟩ (.slice A kn cap)=W2 at HV2 HS2 HK2 HF2 ⊢
 clear y166b f166
 have y164:W2.cell? ⟨s,164,none⟩=some (.pointer (some ⟨P.tp,0,none⟩)):=HV2.out.t (k:=1) rfl
 obtain ⟨tpp,tA,tcap,htab⟩:=HV2.out.rest.table
 have HWT:=Lib.hid (twaits_any htab HW.out)
 clear htab
 go_wp2_with fail
 refine HWT.out.mono ?_
 rintro e w3 ⟨D3,cap3,rfl,hr3,hb3⟩
 have HV3:=Lib.hid (HV2.out.below_ hb3)
 have HO3:=Lib.hid (own_from' (c:=0) (o:=o) hr3 (fun g hg=>HF2.out g hg))
 have HK3:=Lib.hid (HK2.out.below_ hb3)
 have HF3:=Lib.hid (HF2.out.below hb3)
 have HS3:=Lib.hid (HS2.out.trans (Step.of_below o (svC c) hb3))
 have HFW:=Lib.hid (show ∀i,FgWf {S with kept:=K} ((S.T.waits.take i).foldl (forget1 node) {S with kept:=K}) from fun i=>foldl_inv (P:=FgWf {S with kept:=K}) (f:=forget1 node) _ _ ⟨HW.out,Nat.le_refl _⟩ (fun b x _ hb=>hb.step node x))
 obtain ⟨WS,hWS⟩:∃WS,S.T.waits=WS:=⟨_,rfl⟩
 have hwl:=HW.out.many
 have HGB:=Lib.hid (show ({S with kept:=K}:Sv).granted.length+({S with kept:=K}:Sv).T.waits.length≤1000000 from HG.out)
 simp only [hWS] at HRD HO3 HFW hwl ⊢
 have hwI:(WS.length:Int)≤1000:=by omega
 generalize ({S with kept:=K}:Sv)=S1 at HRD HV3 HFW HGB
 clear hr3 hb3 y164 hWS HV2 HK2 HF2 HS2 HWT
 go_wp2_with fail
 go_loopg [21] WS.length (fun n t21 wr=>∃(i:Nat) (oL:Nat→Nat),n+i=WS.length∧t21 = .int .i64 (i:Nat)∧SvAt oL c wr s ((WS.take i).foldl (forget1 node) S1)∧OwnS oL 0 wr 164 5 (.slice D3 WS.length cap3) WS.length (wqcells WS)∧Keep oL wr gb 3 #[.int .i64 node]∧Fut oL wr∧Step o (svC c) w oL wr)
 case atStart=>exact ⟨0,o,by omega,rfl,⟨_,HV3.out⟩,HO3.out,HK3.out,HF3.out,HS3.out⟩
 case round =>
  obtain ⟨i,oL,hni,rfl,hv,hrow,hk,hf,hst⟩:=hrel
  have HNI:=Lib.hid hni
  have HROW:=Lib.hid hrow
  have HKL:=Lib.hid hk
  have HFL:=Lib.hid hf
  have HST:=Lib.hid hst
  clear HV3 HO3 HK3 HF3 HS3 hni hrow hk hf hst
  by_cases hlt:i<WS.length
  ·have hltI:(i:Int)<(WS.length:Int):=by omega
   obtain ⟨P2,hv⟩:=hv
   obtain ⟨q,hq⟩:∃q,WS[i]? = some q:=⟨_,List.getElem?_eq_getElem hlt⟩
   have HNX:=Lib.hid (foldl_next (f:=forget1 node) (b:=S1) hq)
   have HFI:=Lib.hid (HFW.out i)
   obtain ⟨ad,rfl,x0,x1,x2,x3,x4⟩:=(Reads.of_own HROW.out.1).wait hq
   have HQ:=Lib.hid (Keep.new HFL.out 164 #[.int .i64 q.id, .int .i64 q.node, .int .i64 q.l.a, .int .i64 q.l.b, .int .i64 q.l.m])
   have HV4:=Lib.hid (hv.alloc (.cells #[.int .i64 q.id, .int .i64 q.node, .int .i64 q.l.a, .int .i64 q.l.b, .int .i64 q.l.m] 164))
   have HR4:=Lib.hid (HROW.out.alloc (.cells #[.int .i64 q.id, .int .i64 q.node, .int .i64 q.l.a, .int .i64 q.l.b, .int .i64 q.l.m] 164))
   have HK4:=Lib.hid (HKL.out.alloc (.cells #[.int .i64 q.id, .int .i64 q.node, .int .i64 q.l.a, .int .i64 q.l.b, .int .i64 q.l.m] 164))
   have HF4:=Lib.hid (HFL.out.alloc (.cells #[.int .i64 q.id, .int .i64 q.node, .int .i64 q.l.a, .int .i64 q.l.b, .int .i64 q.l.m] 164))
   have HS4:=Lib.hid (HST.out.alloc (.cells #[.int .i64 q.id, .int .i64 q.node, .int .i64 q.l.a, .int .i64 q.l.b, .int .i64 q.l.m] 164))
   clear hq hv HROW HKL HFL HST
   generalize (WS.take i).foldl (forget1 node) S1=SI at HNX HFI HV4 ⊢
   go_upto_region 5 with (fail)
   generalize wr.alloc (.cells #[.int .i64 q.id, .int .i64 q.node, .int .i64 q.l.a, .int .i64 q.l.b, .int .i64 q.l.m] 164)=W4 at HQ HV4 HR4 HK4 HF4 HS4 ⊢
   generalize wr.heap.size=gq at HQ ⊢
   clear x0 x1 x2 x3 x4
   obtain ⟨y0,y1,y2,y3,y4⟩:=HQ.out.1.five
   have xb:W4.cell? ⟨gb,0,none⟩=some (.int .i64 node):=HK4.out.1.cell 0
   by_cases hn:q.node=node
   ·have b1:(q.node == node)=true:=by simp [hn]
    have HN:=Lib.hid (HNX.out.trans (show forget1 node SI q=SI.cancel q.id from if_pos hn))
    have hgb:=HGB.out
    have hfc:=HFI.out.count
    have hcc:=cancel_count SI.T q.id
    have HCN:=Lib.hid (vcancel_any ⟨P2,HV4.out⟩ HF4.out HC.out HFI.out.wf q.id (by omega))
    clear hn hgb hfc hcc
    go_wp2_with fail
    refine HCN.out.mono ?_
    rintro e w5 ⟨rfl,o5,hv5,hs5⟩
    have HV5:=Lib.hid hv5
    have HS5:=Lib.hid (HS4.out.trans hs5)
    have HR5:=Lib.hid (HR4.out.step hs5 (svC_0 HC.out))
    have HK5:=Lib.hid (HK4.out.step hs5 (svC_0 HC.out))
    have HF5:=Lib.hid (HF4.out.step hs5)
    clear hv5 hs5
    go_wp2_with fail
    go_roundg (WS.length - (i+1))
    case measure=>have:=HNI.out;omega
    case rel=>exact ⟨i+1,o5,by omega,by go_num,by rw [HN.out];exact HV5.out,HR5.out,HK5.out,HF5.out,HS5.out⟩
   ·have b1:(q.node == node)=false:=by simp [hn]
    have HN:=Lib.hid (HNX.out.trans (show forget1 node SI q=SI from if_neg hn))
    clear hn
    go_wp2_with fail
    go_roundg (WS.length - (i+1))
    case measure=>have:=HNI.out;omega
    case rel=>exact ⟨i+1,oL,by omega,by go_num,by rw [HN.out];exact ⟨P2,HV4.out⟩,HR4.out,HK4.out,HF4.out,HS4.out⟩
  ·have hltI:¬(i:Int)<(WS.length:Int):=by omega
   obtain rfl:i=WS.length:=by have:=HNI.out;omega
   rw [List.take_length,←HRD.out] at hv
   have HVE:=Lib.hid hv
   clear hv
   go_wp2_with fail
   go_end0
   exact ⟨rfl,oL,HVE.out,HST.out⟩
end
theorem peer_at (S:Sv) (k:Nat) (p:Pe):(S.peer k p).peers k=p:=if_pos rfl
theorem peer_peer (S:Sv) (k:Nat) (p q:Pe):(S.peer k p).peer k q=S.peer k q:=by
 unfold Sv.peer
 congr 1
 funext i
 by_cases h:i=k
 ·rw [if_pos h,if_pos h]
 ·rw [if_neg h,if_neg h]
  exact if_neg h
section
variable {o o':Nat→Nat} {c:Nat} {C:Nat→Prop} {w w':World} {s:Nat} {S:Sv} {P:SvP} {v:Value}
theorem lose_eq (S:Sv) (k:Nat) (u:Bool) (hu:((S.peers k).unknown || decide ((S.peers k).state=2))=u):S.lose k =
 {({S.peer k {S.peers k with unknown:=u,state:=3} with D:=(S.D.fence k).2}.check (S.D.fence k).1) with L:=(S.L.drop k).2}.forget k:=by
 subst hu
 rfl
theorem check_same (S:Sv) (e:Int):(S.check e).T=S.T∧(S.check e).kept=S.kept∧(S.check e).granted=S.granted∧(S.check e).L=S.L∧(S.check e).out=S.out∧(S.check e).sh=S.sh:=by
 unfold Sv.check
 split
 ·exact ⟨rfl,rfl,rfl,rfl,rfl,rfl⟩
 ·exact ⟨rfl,rfl,rfl,rfl,rfl,rfl⟩
set_option maxRecDepth 100000 in
set_option maxHeartbeats 16000000 in
theorem vlose_any (h:SvAt o c w s S) (hf:Fut o w) (hc1:1≤c) (wf:TbWf S.T) (hkl:S.kept.length≤1000000) (hg:S.granted.length+S.T.waits.length≤1000000) (hw:S.D.waits.length≤1000000) (k:Nat) (hk16:k≤16) :
 Calls Tryz.prog 58 #[.pointer (some ⟨s,0,none⟩), .int .i64 (k:Nat)] w fun e w'=>e = .returned (.tuple #[])∧∃o',SvAt o' c w' s (S.lose k)∧Step o (svC c) w o' w':=by
 obtain ⟨P,h⟩:=h
 have hk17:(k:Int)<17:=by omega
 have HC:=Lib.hid hc1
 have HW:=Lib.hid wf
 have HKL:=Lib.hid hkl
 have HG:=Lib.hid hg
 have HDW:=Lib.hid hw
 have HV:=Lib.hid h
 have HF:=Lib.hid hf
 have tail:∀(u:Bool),((S.peers k).unknown || decide ((S.peers k).state=2))=u→∀V,SvIn o c V s (S.peer k {S.peers k with unknown:=u,state:=3}) P→Step o (svC c) w o V→Fut o V →
  V.cell? ⟨s,0,none⟩=some (.pointer (some ⟨P.dp,0,none⟩))∧Calls Tryz.prog 101 #[.pointer (some ⟨P.dp,0,none⟩), .int .i64 (k:Nat)] V (fun e w'=>e = .returned (.int .i64 (S.D.fence k).1)∧∃o',SvIn o' c w' s {S.peer k {S.peers k with unknown:=u,state:=3} with D:=(S.D.fence k).2} P∧Step o (svC c) w o' w'∧Fut o' w'):=fun u hu V hv hs hfv=>by
  refine ⟨hv.h (k:=0) (by omega) rfl,(dfence_calm hv.rest.disk (k:Nat) HDW.out).mono ?_⟩
  rintro e w1 ⟨rfl,o1,hd1,hs1⟩
  have hs2:Step o (svC c) V o1 w1:=hs1.mono (fun x hx=>by unfold six at hx;unfold svC;omega)
  exact ⟨rfl,o1,hv.onD hc1 hs1 hd1,hs.trans hs2,hfv.step hs1⟩
 have HTL:=Lib.hid tail
 obtain ⟨pu,hpu⟩:∃pu,(S.peers k).unknown=pu:=⟨_,rfl⟩
 obtain ⟨ps,hps⟩:∃ps,(S.peers k).state=ps:=⟨_,rfl⟩
 have x4:w.cell? ⟨s,10+k*9+4,none⟩=some (.bool pu):=hpu▸h.p (j:=4) hk16 (by omega) rfl
 have x0:w.cell? ⟨s,10+k*9,none⟩=some (.int .i64 ps):=hps▸h.p (j:=0) hk16 (by omega) rfl
 have f4:=h.blk.frozen (10+k*9+4)
 have split3:(pu=true∧((S.peers k).unknown || decide ((S.peers k).state=2))=true)∨(pu=false∧(ps == 2)=true∧((S.peers k).unknown || decide ((S.peers k).state=2))=true)∨(pu=false∧(ps == 2)=false∧((S.peers k).unknown || decide ((S.peers k).state=2))=false):=by
  rw [hpu,hps]
  cases pu with
  | true=>exact .inl ⟨rfl,rfl⟩
  | false =>
    by_cases h2:ps=2
    ·exact .inr (.inl ⟨rfl,beq_iff_eq.2 h2,by simp [h2]⟩)
    ·exact .inr (.inr ⟨rfl,beq_eq_false_iff_ne.2 h2,by simp [h2]⟩)
 clear hf hc1 wf hkl hg hw tail hpu hps
 rcases split3 with ⟨rfl,hu⟩ | ⟨rfl,b1,hu⟩ | ⟨rfl,b1,hu⟩
 ·obtain ⟨h1,h2⟩:=h.peer HC.out (i:=k) (j:=4) (v := .bool true) (p := {S.peers k with unknown:=true}) hk16 (by omega) rfl rfl
  have y0:(w.setCell ⟨s,10+k*9+4,none⟩ (.bool true)).cell? ⟨s,10+k*9,none⟩=some (.int .i64 (S.peers k).state):=h1.p (j:=0) hk16 (by omega) (by rw [peer_at];rfl)
  have f0:=h1.blk.frozen (10+k*9)
  obtain ⟨h3,h4⟩:=h1.peer HC.out (i:=k) (j:=0) (v := .int .i64 3) (p := {S.peers k with unknown:=true,state:=3}) hk16 (by omega) (by rw [peer_at];rfl) (by rw [peer_at])
  rw [peer_peer] at h3
  have HV3:=Lib.hid h3
  have HS3:=Lib.hid ((h2.trans h4).mono (D:=svC c) (fun x hx=>by unfold only at hx;unfold svC;omega))
  have HF3:=Lib.hid (HF.out.step (h2.trans h4))
  have HLE:=Lib.hid (lose_eq S k true hu)
  have HTU:=Lib.hid (HTL.out true hu)
  clear h h1 h2 h3 h4 HTL
  go_enter Tryz.func58,Tryz.ntmps58
  go_upto_region 3 with (fail)
  generalize (w.setCell ⟨s,10+k*9+4,none⟩ (.bool true)).setCell ⟨s,10+k*9,none⟩ (.int .i64 3)=V at HV3 HS3 HF3 ⊢
  clear x4 x0 f4 y0 f0
  obtain ⟨z0,hfc⟩:=HTU.out V HV3.out HS3.out HF3.out
  obtain ⟨S3,hS3⟩:∃S3,S.peer k {S.peers k with unknown:=true,state:=3}=S3:=⟨_,rfl⟩
  have HSM:=Lib.hid (show S3.T=S.T∧S3.kept=S.kept∧S3.granted=S.granted∧S3.L=S.L by rw [←hS3];exact ⟨rfl,rfl,rfl,rfl⟩)
  rw [hS3] at HLE hfc
  clear hS3
  go_wp2_with fail
  refine hfc.mono ?_
  clear hfc
  rintro e w1 ⟨rfl,o1,hv1,hs1,hf1⟩
  have HV1:=Lib.hid hv1
  have HS1:=Lib.hid hs1
  have HF1:=Lib.hid hf1
  clear hv1 hs1 hf1
  go_wp2_with fail
  refine (vcheck_any HV1.out HC.out (S.D.fence k).1).mono ?_
  rintro e w2 ⟨rfl,hv2,hs2⟩
  have HV2:=Lib.hid hv2
  have HS2:=Lib.hid (HS1.out.trans (hs2.mono (D:=svC c) (fun x hx=>by unfold only at hx;unfold svC;omega)))
  have HF2:=Lib.hid (HF1.out.step hs2)
  obtain ⟨e1,e2,e3,e4,_,_⟩:=check_same ({S3 with D:=(S.D.fence k).2}:Sv) (S.D.fence k).1
  have HE:=Lib.hid (show (({S3 with D:=(S.D.fence k).2}:Sv).check (S.D.fence k).1).T=S.T∧(({S3 with D:=(S.D.fence k).2}:Sv).check (S.D.fence k).1).kept=S.kept∧(({S3 with D:=(S.D.fence k).2}:Sv).check (S.D.fence k).1).granted=S.granted∧(({S3 with D:=(S.D.fence k).2}:Sv).check (S.D.fence k).1).L=S.L from ⟨e1.trans HSM.out.1,e2.trans HSM.out.2.1,e3.trans HSM.out.2.2.1,e4.trans HSM.out.2.2.2⟩)
  generalize ({S3 with D:=(S.D.fence k).2}:Sv).check (S.D.fence k).1=S4 at HLE HV2 HE
  have y163:w2.cell? ⟨s,163,none⟩=some (.pointer (some ⟨P.lp,0,none⟩)):=HV2.out.t (k:=0) rfl
  have HDR:=Lib.hid (ldrop_any HV2.out.rest.lease (k:Nat))
  rw [HE.out.2.2.2] at HDR
  clear hv2 hs2 e1 e2 e3 e4 z0
  go_wp2_with fail
  refine HDR.out.mono ?_
  rintro e w4 ⟨rfl,hl4,hs4⟩
  have HV4:=Lib.hid (HV2.out.onL HC.out hs4 hl4)
  have HS4:=Lib.hid (HS2.out.trans (hs4.mono lea_sv))
  have HF4:=Lib.hid (HF2.out.step hs4)
  have HFG:=Lib.hid (vforget_any ⟨P,HV4.out⟩ HF4.out HC.out (show TbWf S4.T by rw [HE.out.1];exact HW.out) (show S4.kept.length≤1000000 by rw [HE.out.2.1];exact HKL.out) (show S4.granted.length+S4.T.waits.length≤1000000 by rw [HE.out.1,HE.out.2.2.1];exact HG.out) (k:Nat))
  clear hl4 hs4 y163
  go_wp2_with fail
  refine HFG.out.mono ?_
  rintro e w5 ⟨rfl,o5,hv5,hs5⟩
  have HV5:=Lib.hid hv5
  have HS5:=Lib.hid (HS4.out.trans hs5)
  clear hv5 hs5
  go_wp2_with fail
  go_end0
  exact ⟨rfl,o5,by rw [HLE.out];exact HV5.out,HS5.out⟩
 ·obtain ⟨h1,h2⟩:=h.peer HC.out (i:=k) (j:=4) (v := .bool true) (p := {S.peers k with unknown:=true}) hk16 (by omega) rfl rfl
  have y0:(w.setCell ⟨s,10+k*9+4,none⟩ (.bool true)).cell? ⟨s,10+k*9,none⟩=some (.int .i64 (S.peers k).state):=h1.p (j:=0) hk16 (by omega) (by rw [peer_at];rfl)
  have f0:=h1.blk.frozen (10+k*9)
  obtain ⟨h3,h4⟩:=h1.peer HC.out (i:=k) (j:=0) (v := .int .i64 3) (p := {S.peers k with unknown:=true,state:=3}) hk16 (by omega) (by rw [peer_at];rfl) (by rw [peer_at])
  rw [peer_peer] at h3
  have HV3:=Lib.hid h3
  have HS3:=Lib.hid ((h2.trans h4).mono (D:=svC c) (fun x hx=>by unfold only at hx;unfold svC;omega))
  have HF3:=Lib.hid (HF.out.step (h2.trans h4))
  have HLE:=Lib.hid (lose_eq S k true hu)
  have HTU:=Lib.hid (HTL.out true hu)
  clear h h1 h2 h3 h4 HTL
  go_enter Tryz.func58,Tryz.ntmps58
  go_upto_region 3 with (fail)
  generalize (w.setCell ⟨s,10+k*9+4,none⟩ (.bool true)).setCell ⟨s,10+k*9,none⟩ (.int .i64 3)=V at HV3 HS3 HF3 ⊢
  clear x4 x0 f4 y0 f0
  obtain ⟨z0,hfc⟩:=HTU.out V HV3.out HS3.out HF3.out
  obtain ⟨S3,hS3⟩:∃S3,S.peer k {S.peers k with unknown:=true,state:=3}=S3:=⟨_,rfl⟩
  have HSM:=Lib.hid (show S3.T=S.T∧S3.kept=S.kept∧S3.granted=S.granted∧S3.L=S.L by rw [←hS3];exact ⟨rfl,rfl,rfl,rfl⟩)
  rw [hS3] at HLE hfc
  clear hS3
  go_wp2_with fail
  refine hfc.mono ?_
  clear hfc
  rintro e w1 ⟨rfl,o1,hv1,hs1,hf1⟩
  have HV1:=Lib.hid hv1
  have HS1:=Lib.hid hs1
  have HF1:=Lib.hid hf1
  clear hv1 hs1 hf1
  go_wp2_with fail
  refine (vcheck_any HV1.out HC.out (S.D.fence k).1).mono ?_
  rintro e w2 ⟨rfl,hv2,hs2⟩
  have HV2:=Lib.hid hv2
  have HS2:=Lib.hid (HS1.out.trans (hs2.mono (D:=svC c) (fun x hx=>by unfold only at hx;unfold svC;omega)))
  have HF2:=Lib.hid (HF1.out.step hs2)
  obtain ⟨e1,e2,e3,e4,_,_⟩:=check_same ({S3 with D:=(S.D.fence k).2}:Sv) (S.D.fence k).1
  have HE:=Lib.hid (show (({S3 with D:=(S.D.fence k).2}:Sv).check (S.D.fence k).1).T=S.T∧(({S3 with D:=(S.D.fence k).2}:Sv).check (S.D.fence k).1).kept=S.kept∧(({S3 with D:=(S.D.fence k).2}:Sv).check (S.D.fence k).1).granted=S.granted∧(({S3 with D:=(S.D.fence k).2}:Sv).check (S.D.fence k).1).L=S.L from ⟨e1.trans HSM.out.1,e2.trans HSM.out.2.1,e3.trans HSM.out.2.2.1,e4.trans HSM.out.2.2.2⟩)
  generalize ({S3 with D:=(S.D.fence k).2}:Sv).check (S.D.fence k).1=S4 at HLE HV2 HE
  have y163:w2.cell? ⟨s,163,none⟩=some (.pointer (some ⟨P.lp,0,none⟩)):=HV2.out.t (k:=0) rfl
  have HDR:=Lib.hid (ldrop_any HV2.out.rest.lease (k:Nat))
  rw [HE.out.2.2.2] at HDR
  clear hv2 hs2 e1 e2 e3 e4 z0
  go_wp2_with fail
  refine HDR.out.mono ?_
  rintro e w4 ⟨rfl,hl4,hs4⟩
  have HV4:=Lib.hid (HV2.out.onL HC.out hs4 hl4)
  have HS4:=Lib.hid (HS2.out.trans (hs4.mono lea_sv))
  have HF4:=Lib.hid (HF2.out.step hs4)
  have HFG:=Lib.hid (vforget_any ⟨P,HV4.out⟩ HF4.out HC.out (show TbWf S4.T by rw [HE.out.1];exact HW.out) (show S4.kept.length≤1000000 by rw [HE.out.2.1];exact HKL.out) (show S4.granted.length+S4.T.waits.length≤1000000 by rw [HE.out.1,HE.out.2.2.1];exact HG.out) (k:Nat))
  clear hl4 hs4 y163
  go_wp2_with fail
  refine HFG.out.mono ?_
  rintro e w5 ⟨rfl,o5,hv5,hs5⟩
  have HV5:=Lib.hid hv5
  have HS5:=Lib.hid (HS4.out.trans hs5)
  clear hv5 hs5
  go_wp2_with fail
  go_end0
  exact ⟨rfl,o5,by rw [HLE.out];exact HV5.out,HS5.out⟩
 ·obtain ⟨h1,h2⟩:=h.peer HC.out (i:=k) (j:=4) (v := .bool false) (p := {S.peers k with unknown:=false}) hk16 (by omega) rfl rfl
  have y0:(w.setCell ⟨s,10+k*9+4,none⟩ (.bool false)).cell? ⟨s,10+k*9,none⟩=some (.int .i64 (S.peers k).state):=h1.p (j:=0) hk16 (by omega) (by rw [peer_at];rfl)
  have f0:=h1.blk.frozen (10+k*9)
  obtain ⟨h3,h4⟩:=h1.peer HC.out (i:=k) (j:=0) (v := .int .i64 3) (p := {S.peers k with unknown:=false,state:=3}) hk16 (by omega) (by rw [peer_at];rfl) (by rw [peer_at])
  rw [peer_peer] at h3
  have HV3:=Lib.hid h3
  have HS3:=Lib.hid ((h2.trans h4).mono (D:=svC c) (fun x hx=>by unfold only at hx;unfold svC;omega))
  have HF3:=Lib.hid (HF.out.step (h2.trans h4))
  have HLE:=Lib.hid (lose_eq S k false hu)
  have HTU:=Lib.hid (HTL.out false hu)
  clear h h1 h2 h3 h4 HTL
  go_enter Tryz.func58,Tryz.ntmps58
  go_upto_region 3 with (fail)
  generalize (w.setCell ⟨s,10+k*9+4,none⟩ (.bool false)).setCell ⟨s,10+k*9,none⟩ (.int .i64 3)=V at HV3 HS3 HF3 ⊢
  clear x4 x0 f4 y0 f0
  obtain ⟨z0,hfc⟩:=HTU.out V HV3.out HS3.out HF3.out
  obtain ⟨S3,hS3⟩:∃S3,S.peer k {S.peers k with unknown:=false,state:=3}=S3:=⟨_,rfl⟩
  have HSM:=Lib.hid (show S3.T=S.T∧S3.kept=S.kept∧S3.granted=S.granted∧S3.L=S.L by rw [←hS3];exact ⟨rfl,rfl,rfl,rfl⟩)
  rw [hS3] at HLE hfc
  clear hS3
  go_wp2_with fail
  refine hfc.mono ?_
  clear hfc
  rintro e w1 ⟨rfl,o1,hv1,hs1,hf1⟩
  have HV1:=Lib.hid hv1
  have HS1:=Lib.hid hs1
  have HF1:=Lib.hid hf1
  clear hv1 hs1 hf1
  go_wp2_with fail
  refine (vcheck_any HV1.out HC.out (S.D.fence k).1).mono ?_
  rintro e w2 ⟨rfl,hv2,hs2⟩
  have HV2:=Lib.hid hv2
  have HS2:=Lib.hid (HS1.out.trans (hs2.mono (D:=svC c) (fun x hx=>by unfold only at hx;unfold svC;omega)))
  have HF2:=Lib.hid (HF1.out.step hs2)
  obtain ⟨e1,e2,e3,e4,_,_⟩:=check_same ({S3 with D:=(S.D.fence k).2}:Sv) (S.D.fence k).1
  have HE:=Lib.hid (show (({S3 with D:=(S.D.fence k).2}:Sv).check (S.D.fence k).1).T=S.T∧(({S3 with D:=(S.D.fence k).2}:Sv).check (S.D.fence k).1).kept=S.kept∧(({S3 with D:=(S.D.fence k).2}:Sv).check (S.D.fence k).1).granted=S.granted∧(({S3 with D:=(S.D.fence k).2}:Sv).check (S.D.fence k).1).L=S.L from ⟨e1.trans HSM.out.1,e2.trans HSM.out.2.1,e3.trans HSM.out.2.2.1,e4.trans HSM.out.2.2.2⟩)
  generalize ({S3 with D:=(S.D.fence k).2}:Sv).check (S.D.fence k).1=S4 at HLE HV2 HE
  have y163:w2.cell? ⟨s,163,none⟩=some (.pointer (some ⟨P.lp,0,none⟩)):=HV2.out.t (k:=0) rfl
  have HDR:=Lib.hid (ldrop_any HV2.out.rest.lease (k:Nat))
  rw [HE.out.2.2.2] at HDR
  clear hv2 hs2 e1 e2 e3 e4 z0
  go_wp2_with fail
  refine HDR.out.mono ?_
  rintro e w4 ⟨rfl,hl4,hs4⟩
  have HV4:=Lib.hid (HV2.out.onL HC.out hs4 hl4)
  have HS4:=Lib.hid (HS2.out.trans (hs4.mono lea_sv))
  have HF4:=Lib.hid (HF2.out.step hs4)
  have HFG:=Lib.hid (vforget_any ⟨P,HV4.out⟩ HF4.out HC.out (show TbWf S4.T by rw [HE.out.1];exact HW.out) (show S4.kept.length≤1000000 by rw [HE.out.2.1];exact HKL.out) (show S4.granted.length+S4.T.waits.length≤1000000 by rw [HE.out.1,HE.out.2.2.1];exact HG.out) (k:Nat))
  clear hl4 hs4 y163
  go_wp2_with fail
  refine HFG.out.mono ?_
  rintro e w5 ⟨rfl,o5,hv5,hs5⟩
  have HV5:=Lib.hid hv5
  have HS5:=Lib.hid (HS4.out.trans hs5)
  clear hv5 hs5
  go_wp2_with fail
  go_end0
  exact ⟨rfl,o5,by rw [HLE.out];exact HV5.out,HS5.out⟩
end
theorem peer_self (S:Sv) (k:Nat):S.peer k (S.peers k)=S:=by
 unfold Sv.peer
 have:(fun i=>if i=k then S.peers k else S.peers i)=S.peers:=by
  funext i
  split
  ·rename_i h
   rw [h]
  ·rfl
 rw [this]
theorem cells_peer {S:Sv} {P:SvP} {k j:Nat} {v:Value} {p q:Pe} (hk:k≤16) (hj:j<9) (h1:(p.cells (P.tv k)).set j v=q.cells (P.tv k)):((S.peer k p).cells P).setIfInBounds (10+k*9+j) v=(S.peer k q).cells P:=by
 refine Sv.peer_set hk hj (p:=q) (tv:=P.tv k) (by rw [peer_at];exact h1) ?_ ?_ rfl rfl
 ·rw [←peer_peer S k p q]
  rfl
 ·funext i
  split
  ·rename_i h
   rw [h]
  ·rfl
theorem cells_tv {S:Sv} {P:SvP} {k:Nat} {v:Value} {p:Pe} (hk:k≤16):((S.peer k p).cells P).setIfInBounds (10+k*9+8) v=(S.peer k p).cells {P with tv:=fun i=>if i=k then v else P.tv i}:=by
 refine Sv.peer_set hk (by omega) (p:=p) (tv:=v) (by rw [peer_at];rfl) ?_ rfl rfl rfl
 funext i
 show (S.peer k p).peers i=_
 split
 ·rename_i h
  rw [h,peer_at]
 ·rfl
theorem cells_told {S:Sv} {P:SvP} {k:Nat} {p q:Pe} (h:∀tv,p.cells tv=q.cells tv):(S.peer k p).cells P=(S.peer k q).cells P:=by
 have hp:peersC (S.peer k p).peers P.tv=peersC (S.peer k q).peers P.tv:=fm_congr _ (fun i _=>by
  show (if i=k then p else S.peers i).cells (P.tv i)=(if i=k then q else S.peers i).cells (P.tv i)
  split
  ·exact h _
  ·rfl)
 unfold Sv.cells
 rw [hp]
 rfl
section
variable {o o':Nat→Nat} {c:Nat} {C:Nat→Prop} {w w':World} {s:Nat} {S:Sv} {P:SvP} {v:Value}
def setPe (w:World) (s k:Nat) (p:Pe) (v:Value):World :=
 ((((((((w.setCell ⟨s,10+k*9,none⟩ (.int .i64 p.state)).setCell ⟨s,10+k*9+1,none⟩ (.int .u64 p.epoch)).setCell ⟨s,10+k*9+2,none⟩ (.int .i64 p.life)).setCell ⟨s,10+k*9+3,none⟩ (.int .i64 p.hello)).setCell ⟨s,10+k*9+4,none⟩ (.bool p.unknown)).setCell ⟨s,10+k*9+5,none⟩ (.int .i64 p.by_)).setCell ⟨s,10+k*9+6,none⟩ (.int .i64 p.stamp)).setCell ⟨s,10+k*9+7,none⟩ (.int .i64 p.grants)).setCell ⟨s,10+k*9+8,none⟩ v
theorem SvIn.anew (h:SvIn o c w s S P) (hc1:1≤c) {k m:Nat} (hk:k≤16) (p:Pe) (hm:MapL o (c+5+k) w m p.told) :
 SvIn o c (setPe w s k p (.map (some m))) s (S.peer k p) {P with tv:=fun i=>if i=k then .map (some m) else P.tv i}∧Step o (only c) w o (setPe w s k p (.map (some m))):=by
 have hb:Blk w s 70 ((S.peer k (S.peers k)).cells P):=by
  rw [peer_self]
  exact h.blk
 have b0:=hb.set_ (10+k*9+0) (.int .i64 p.state)
 rw [cells_peer (q := {S.peers k with state:=p.state}) hk (by omega) rfl] at b0
 have b1:=b0.set_ (10+k*9+1) (.int .u64 p.epoch)
 rw [cells_peer (q := {S.peers k with state:=p.state,epoch:=p.epoch}) hk (by omega) rfl] at b1
 have b2:=b1.set_ (10+k*9+2) (.int .i64 p.life)
 rw [cells_peer (q := {S.peers k with state:=p.state,epoch:=p.epoch,life:=p.life}) hk (by omega) rfl] at b2
 have b3:=b2.set_ (10+k*9+3) (.int .i64 p.hello)
 rw [cells_peer (q := {S.peers k with state:=p.state,epoch:=p.epoch,life:=p.life,hello:=p.hello}) hk (by omega) rfl] at b3
 have b4:=b3.set_ (10+k*9+4) (.bool p.unknown)
 rw [cells_peer (q := {S.peers k with state:=p.state,epoch:=p.epoch,life:=p.life,hello:=p.hello,unknown:=p.unknown}) hk (by omega) rfl] at b4
 have b5:=b4.set_ (10+k*9+5) (.int .i64 p.by_)
 rw [cells_peer (q := {S.peers k with state:=p.state,epoch:=p.epoch,life:=p.life,hello:=p.hello,unknown:=p.unknown,by_:=p.by_}) hk (by omega) rfl] at b5
 have b6:=b5.set_ (10+k*9+6) (.int .i64 p.stamp)
 rw [cells_peer (q := {S.peers k with state:=p.state,epoch:=p.epoch,life:=p.life,hello:=p.hello,unknown:=p.unknown,by_:=p.by_,stamp:=p.stamp}) hk (by omega) rfl] at b6
 have b7:=b6.set_ (10+k*9+7) (.int .i64 p.grants)
 rw [cells_peer (q := {S.peers k with state:=p.state,epoch:=p.epoch,life:=p.life,hello:=p.hello,unknown:=p.unknown,by_:=p.by_,stamp:=p.stamp,grants:=p.grants}) hk (by omega) rfl,cells_told (p := {S.peers k with state:=p.state,epoch:=p.epoch,life:=p.life,hello:=p.hello,unknown:=p.unknown,by_:=p.by_,stamp:=p.stamp,grants:=p.grants}) (q:=p) (fun _=>rfl)] at b7
 have b8:=b7.set_ (10+k*9+8) (.map (some m))
 rw [cells_tv hk] at b8
 have hs:Step o (only c) w o (setPe w s k p (.map (some m))):=by
  have hc:=h.col
  unfold setPe
  exact (((((((((Step.refl o (only c) w).setCell (p:=⟨s,_,none⟩) hc _).setCell (p:=⟨s,_,none⟩) hc _).setCell (p:=⟨s,_,none⟩) hc _).setCell (p:=⟨s,_,none⟩) hc _).setCell (p:=⟨s,_,none⟩) hc _).setCell (p:=⟨s,_,none⟩) hc _).setCell (p:=⟨s,_,none⟩) hc _).setCell (p:=⟨s,_,none⟩) hc _).setCell (p:=⟨s,_,none⟩) hc _
 have hrest:SvRest o c w (S.peer k p) {P with tv:=fun i=>if i=k then .map (some m) else P.tv i}:=by
  refine ⟨h.rest.outs,h.rest.kept,h.rest.granted,h.rest.ids,fun i h1 h2 => ?_,h.rest.table,h.rest.lease,h.rest.disk,h.rest.nodes⟩
  by_cases hik:i=k
  ·subst hik
   exact ⟨m,if_pos rfl,by rw [peer_at];exact hm⟩
  ·obtain ⟨m',e,hm'⟩:=h.rest.told i h1 h2
   refine ⟨m',(if_neg hik).trans e,?_⟩
   show MapL o (c+5+i) w m' (if i=k then p else S.peers i).told
   rw [if_neg hik]
   exact hm'
 exact ⟨⟨b8,h.col,hrest.step hs (fun x h1 h2=>by unfold only;omega) (by unfold only;omega)⟩,hs⟩
end
end Go.Proofs.YtohgabdmmbngbaaGreatDoor
