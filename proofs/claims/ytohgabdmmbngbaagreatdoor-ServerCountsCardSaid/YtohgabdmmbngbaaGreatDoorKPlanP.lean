import Derived.Test.YtohgabdmmbngbaaGreatDoorKLogE
import Derived.Test.YtohgabdmmbngbaaGreatDoorKWireD
import Derived.Test.YtohgabdmmbngbaaGreatDoorKMsgC
import Derived.Test.YtohgabdmmbngbaaGreatDoorKMapK
import Derived.Test.YtohgabdmmbngbaaGreatDoorKRecA
set_option linter.unusedVariables false
set_option linter.unusedSimpArgs false
namespace Go.Proofs.YtohgabdmmbngbaaGreatDoor
open Go.RowKit
structure RW where
 node:Int
 at_:Int
 data:ByteArray
 lasts:Bool
def RW.cells (x:RW):List Value := [.int .i64 x.node, .int .i64 x.at_, .string x.data, .bool x.lasts]
def rwcells (l:List RW):List Value:=l.flatMap RW.cells
structure RK where
 room:Nat
 ws:List RW
 table:Nat→Nat
 words:Nat→Nat
 last:Nat
def RK.cells (R:RK) (lv:Value):Array Value :=
 #[.int .i64 R.room,lv, .bool false,
  .int .u64 (R.table 0), .int .u64 (R.table 1), .int .u64 (R.table 2), .int .u64 (R.table 3), .int .u64 (R.table 4), .int .u64 (R.table 5), .int .u64 (R.table 6), .int .u64 (R.table 7), .int .u64 (R.table 8), .int .u64 (R.table 9), .int .u64 (R.table 10), .int .u64 (R.table 11), .int .u64 (R.table 12), .int .u64 (R.table 13), .int .u64 (R.table 14), .int .u64 (R.table 15), .int .u64 (R.table 16),
  .int .u64 (R.words 0), .int .u64 (R.words 1), .int .u64 (R.words 2), .int .u64 (R.words 3), .int .u64 (R.words 4), .int .u64 (R.words 5), .int .u64 (R.words 6), .int .u64 (R.words 7), .int .u64 (R.words 8), .int .u64 (R.words 9), .int .u64 (R.words 10), .int .u64 (R.words 11), .int .u64 (R.words 12), .int .u64 (R.words 13), .int .u64 (R.words 14), .int .u64 (R.words 15), .int .u64 (R.words 16),
  .int .u64 R.last, .bool false, .int .i64 0, .slice none 0 0]
def RefAt (o:Nat→Nat) (c:Nat) (w:World) (p:Nat) (R:RK):Prop:=∃lv,Blk w p 127 (R.cells lv)∧o p=c∧OwnS o (c+1) w 186 4 lv R.ws.length (rwcells R.ws)
section
variable {o o':Nat→Nat} {c p:Nat} {C:Nat→Prop} {w w':World} {R:RK}
theorem RefAt.step (h:RefAt o c w p R) (hs:Step o C w o' w') (h0:¬C c) (h1:¬C (c+1)):RefAt o' c w' p R:=by
 obtain ⟨lv,hb,hc,ho⟩:=h
 exact ⟨lv,hb.step hs (by rw [hc];exact h0),(hs.old p hb.lt).trans hc,ho.step hs h1⟩
theorem RefAt.below_ (h:RefAt o c w p R) (hb:Below w.heap.size w w'):RefAt o c w' p R:=h.step (Step.of_below o (fun _=>False) hb) id id
theorem rk_table (R:RK) (lv:Value) (k:Nat) (hk:k≤16):(R.cells lv)[3+k]? = some (.int .u64 (R.table k)):=by
 rcases k with _ | _ | _ | _ | _ | _ | _ | _ | _ | _ | _ | _ | _ | _ | _ | _ | _ | k <;> first | rfl | omega
theorem rk_put (R:RK) (lv:Value) (k:Nat) (hk:k≤16) (v:Nat):(R.cells lv).setIfInBounds (3+k) (.int .u64 v)=({R with table:=fun j=>if j=k then v else R.table j}:RK).cells lv:=by
 rcases k with _ | _ | _ | _ | _ | _ | _ | _ | _ | _ | _ | _ | _ | _ | _ | _ | _ | k <;> first | rfl | omega
theorem refnode_any (n:Int) (w:World):Calls Tryz.prog 127 #[.int .i64 n] w fun e w'=>e = .returned (.bool (decide (0≤n∧n≤16)))∧w=w':=by
 by_cases h0:0≤n
 ·by_cases h1:n≤16
  ·go_enter Tryz.func127,Tryz.ntmps127
   go_wp2_with fail
   go_ret
   exact ⟨by simp [h0,h1],rfl⟩
  ·go_enter Tryz.func127,Tryz.ntmps127
   go_wp2_with fail
   go_ret
   exact ⟨by simp [h1],rfl⟩
 ·go_enter Tryz.func127,Tryz.ntmps127
  go_wp2_with fail
  go_ret
  exact ⟨by simp;omega,rfl⟩
theorem refspend_any (h:RefAt o c w p R):Calls Tryz.prog 128 #[.pointer (some ⟨p,0,none⟩)] w fun e w'=>e = .returned (.int .i64 0)∧w=w':=by
 obtain ⟨lv,hb,_,_⟩:=h
 have x38:w.cell? ⟨p,38,none⟩=some (.bool false):=hb.cell 38
 clear hb
 go_enter Tryz.func128,Tryz.ntmps128
 go_wp2
 all_goals go_ret
 all_goals exact ⟨rfl,rfl⟩
theorem refmay_ok (h:RefAt o c w p R) (k e:Nat) (hk:k≤16) (he:R.table k=e) (h0:e≠0):Calls Tryz.prog 129 #[.pointer (some ⟨p,0,none⟩), .int .i64 (k:Int), .int .u64 (e:Int)] w fun r w'=>r = .returned (.int .i64 0)∧w=w':=by
 obtain ⟨lv,hb,_,_⟩:=h
 have x2:w.cell? ⟨p,2,none⟩=some (.bool false):=hb.cell 2
 have ct:w.cell? ⟨p,3+k,none⟩=some (.int .u64 (e:Int)):=by rw [hb.cell,rk_table R lv k hk,he]
 have hd:decide ((0:Int)≤(k:Int)∧(k:Int)≤16)=true:=decide_eq_true (by omega)
 have h0I:¬(e:Int)=0:=by omega
 have hkI:(k:Int)<17:=by omega
 clear hb
 go_enter Tryz.func129,Tryz.ntmps129
 go_wp2_with fail
 refine (refnode_any k w).mono ?_
 rintro r w1 ⟨rfl,rfl⟩
 rw [hd]
 go_wp2_with fail
 go_ret
 exact ⟨rfl,rfl⟩
def RK.admit (R:RK) (k e:Nat):RK := {R with table:=fun j=>if j=k then e else R.table j,last:=e}
set_option maxRecDepth 100000 in
theorem refadmit_ok (h:RefAt o c w p R) (k e:Nat) (hk:k≤16) (he:R.last<e):Calls Tryz.prog 67 #[.pointer (some ⟨p,0,none⟩), .int .i64 (k:Int), .int .u64 (e:Int)] w fun r w'=>r = .returned (.int .i64 0)∧RefAt o c w' p (R.admit k e)∧Step o (only c) w o w':=by
 have H:=Lib.hid h
 obtain ⟨lv,hb,hc,ho⟩:=h
 have x2:w.cell? ⟨p,2,none⟩=some (.bool false):=hb.cell 2
 have x37:w.cell? ⟨p,37,none⟩=some (.int .u64 R.last):=hb.cell 37
 have ct:w.cell? ⟨p,3+k,none⟩=some (.int .u64 (R.table k:Int)):=by rw [hb.cell,rk_table R lv k hk]
 have ft:=hb.frozen (3+k)
 have f37:=hb.frozen 37
 have hd:decide ((0:Int)≤(k:Int)∧(k:Int)≤16)=true:=decide_eq_true (by omega)
 have heI:¬(e:Int)≤(R.last:Int):=by omega
 have hkI:(k:Int)<17:=by omega
 have hne:¬3+k=37:=by omega
 have hb2:=(hb.set_ (3+k) (.int .u64 e))
 rw [rk_put R lv k hk e] at hb2
 have HB3:=Lib.hid (hb2.set_ 37 (.int .u64 e))
 have S2:=((Step.refl o (only c) w).setCell (p:=⟨p,3+k,none⟩) hc (.int .u64 e)).setCell (p:=⟨p,37,none⟩) hc (.int .u64 e)
 have HS:=Lib.hid S2
 have HO:=Lib.hid (ho.step S2 (by unfold only;omega))
 have HC:=Lib.hid hc
 have y37:(w.setCell ⟨p,3+k,none⟩ (.int .u64 e)).cell? ⟨p,37,none⟩=some (.int .u64 R.last):=hb2.cell 37
 have g37:=hb2.frozen 37
 clear hb hb2 S2 hc ho
 go_enter Tryz.func67,Tryz.ntmps67
 go_wp2_with fail
 refine (refnode_any k w).mono ?_
 rintro r w1 ⟨rfl,rfl⟩
 rw [hd]
 go_wp2_with fail
 refine (refspend_any H.out).mono ?_
 rintro r w1 ⟨rfl,rfl⟩
 go_wp2_with fail
 go_ret
 exact ⟨rfl,⟨lv,HB3.out,HC.out,HO.out⟩,HS.out⟩
def RW.keep (k:Int) (x:RW):RW:=if x.node=k then {x with lasts:=true} else x
theorem rw_get {l:List RW} {k:Nat} {x:RW} (h:l[k]? = some x):(rwcells l)[k*4]? = some (.int .i64 x.node)∧(rwcells l)[k*4+3]? = some (.bool x.lasts):=by
 induction l generalizing k with
 | nil=>simp at h
 | cons y l ih =>
   cases k with
   | zero =>
     simp at h
     subst h
     exact ⟨rfl,rfl⟩
   | succ k =>
     obtain ⟨a,b⟩:=ih (k:=k) (by simpa using h)
     rw [show (k+1)*4=k*4+1+1+1+1 from by omega]
     exact ⟨a,b⟩
theorem rw_set {x:RW}:∀ {l:List RW} {k:Nat},l[k]? = some x→(rwcells l).set (k*4+3) (.bool true)=rwcells (l.set k {x with lasts:=true})
 | y :: l,0,h=>by
   simp at h
   subst h
   rfl
 | y :: l,k+1,h=>by
   have ih:=rw_set (l:=l) (k:=k) (by simpa using h)
   rw [show (k+1)*4+3=k*4+3+1+1+1+1 from by omega,List.set_cons_succ]
   show _ :: _ :: _ :: _ :: (rwcells l).set (k*4+3) (.bool true)=_
   rw [ih]
   rfl
theorem rw_one (l:List RW):∀u∈rwcells l,u.oneCell'=true:=by
 intro u hu
 unfold rwcells at hu
 obtain ⟨x,_,hx⟩:=List.mem_flatMap.1 hu
 simp only [RW.cells,List.mem_cons,List.mem_nil_iff,or_false] at hx
 rcases hx with rfl | rfl | rfl | rfl <;> rfl
theorem info_rw : (Tryz.prog.info? 186).map (fun i=>(i.zero,i.size,i.bytes))=some (some (.agg #[.int .i64 0, .int .i64 0, .string ⟨#[]⟩, .bool false]),4,40):=by kernel_rfl
def keepTo (k:Int) (l:List RW) (j:Nat):List RW:=(l.take j).map (RW.keep k)++l.drop j
theorem keepTo_len (k:Int) (l:List RW) (j:Nat):(keepTo k l j).length=l.length:=by
 unfold keepTo
 rw [List.length_append,List.length_map,List.length_take,List.length_drop]
 omega
theorem keepTo_get {k:Int} {l:List RW} {j:Nat} (h:j<l.length):(keepTo k l j)[j]? = l[j]? := by
 unfold keepTo
 rw [List.getElem?_append_right (by rw [List.length_map,List.length_take];omega),List.length_map,List.length_take,List.getElem?_drop]
 congr 1
 omega
theorem keepTo_succ {k:Int} {l:List RW} {j:Nat} {x:RW} (h:l[j]? = some x):keepTo k l (j+1)=(keepTo k l j).set j (RW.keep k x):=by
 obtain ⟨hj,e⟩:=List.getElem?_eq_some_iff.1 h
 unfold keepTo
 rw [List.set_append_right _ _ (by rw [List.length_map,List.length_take];omega),List.length_map,List.length_take,List.take_add_one,h,List.drop_eq_getElem_cons hj,e]
 have:j - min j l.length=0:=by omega
 rw [this]
 simp
end
def RK.keep (R:RK) (k:Int):RK := {R with ws:=R.ws.map (RW.keep k)}
theorem keepTo_all (k:Int) (l:List RW):keepTo k l l.length=l.map (RW.keep k):=by
 unfold keepTo
 rw [List.take_length,List.drop_length,List.append_nil]
theorem RefAt.row {o:Nat→Nat} {c p:Nat} {w:World} {R:RK} (h:RefAt o c w p R):∃A cap,Hid (Blk w p 127 (R.cells (.slice A R.ws.length cap)))∧Hid (o p=c)∧Hid (OwnS o (c+1) w 186 4 (.slice A R.ws.length cap) R.ws.length (rwcells R.ws))∧w.cell? ⟨p,1,none⟩=some (.slice A R.ws.length cap)∧w.frozen? ⟨p,1,none⟩=false∧R.ws.length≤cap∧cap≤maxLen:=by
 obtain ⟨lv,hb,hc,ho⟩:=h
 obtain ⟨A,cap,rfl,h1,h2⟩:=own_form' ho
 exact ⟨A,cap,hb,hc,ho,hb.cell 1,hb.frozen 1,h1,h2⟩
theorem set_self {α:Type} {l:List α} {j:Nat} {x:α} (h:l[j]? = some x):l.set j x=l:=by
 obtain ⟨hj,e⟩:=List.getElem?_eq_some_iff.1 h
 rw [←e]
 exact List.set_getElem_self hj
theorem blk_row {w:World} {g i m:Nat} {e:TypeId} {cur:Array Value} {xs:List Value} {u:Value} (hb:Blk w g e cur) (ht:cur.toList.take m=xs) (hi:i<m) (hx:xs[i]? = some u):w.cell? ⟨g,i,none⟩=some u:=by
 rw [hb.cell,←Array.getElem?_toList,←hx,←ht,List.getElem?_take_of_lt hi]
section
variable {o:Nat→Nat} {c p:Nat} {w:World} {R:RK}
set_option maxRecDepth 100000 in
set_option maxHeartbeats 4000000 in
theorem refkeep_any (h:RefAt o c w p R) (k:Int) (hl:R.ws.length≤100000):Calls Tryz.prog 130 #[.pointer (some ⟨p,0,none⟩), .int .i64 k] w fun r w'=>r = .returned (.tuple #[])∧∃o',RefAt o' c w' p (R.keep k)∧Step o (logL c) w o' w':=by
 obtain ⟨A,cap,HB,HC,HO,x1,f1,hcap,hcm⟩:=h.row
 obtain ⟨i0,hi,hz0,hz1,hz2⟩:=info_parts info_rw
 have HL:=Lib.hid hl
 have hcmx:cap≤9223372036854775807:=by unfold maxLen at hcm;omega
 have HCM:=Lib.hid hcm
 clear h hcm
 go_enter Tryz.func130,Tryz.ntmps130
 go_wp2_with (at_builtin;refine wpList_append_S _ rfl (.const (.slice none 0 0)) (.tmp 9) 125 rfl 186 i0 _ 4 40 Tryz.underlying125 hi hz0 hz1 hz2 rfl (by omega) (.slice none 0 0) 0 [] rfl (OwnS.nil o (c+1) _ _ _) A R.ws.length cap (rwcells R.ws) rfl (Reads.of_own HO.out.1) (rw_one R.ws) (by unfold maxLen;omega) (by omega) ?_;intro v7 w7 hown7 hst7 hgr7 hat7;simp only [Nat.zero_add,List.nil_append] at hown7;obtain ⟨A7,cap7,rfl,hq1,hq2⟩:=own_form' hown7;have hb7:=HB.out.step hst7 (by rw [HC.out];unfold only;omega);have y1:w7.cell? ⟨p,1,none⟩=some (.slice A R.ws.length cap):=hb7.cell 1;have g1:=hb7.frozen 1;have HB7:=Lib.hid hb7;have HO7:=Lib.hid hown7;have HS7:=Lib.hid hst7;clear hown7 hst7 hgr7 hat7 hb7)
 obtain ⟨o7,ho7⟩:∃o7,band o w.heap.size w7.heap.size (c+1)=o7:=⟨_,rfl⟩
 rw [ho7] at HO7 HS7
 have hc7:o7 p=c:=(HS7.out.old p HB.out.lt).trans HC.out
 have hr7:RefAt o7 c (w7.setCell ⟨p,1,none⟩ (.slice A7 R.ws.length cap7)) p R:=⟨.slice A7 R.ws.length cap7,HB7.out.set_ 1 (.slice A7 R.ws.length cap7),hc7,HO7.out.setCell (p:=⟨p,1,none⟩) (own_blk_ne HO7.out HB7.out (by decide)) _⟩
 have HR7:=Lib.hid hr7
 have HS8:=Lib.hid ((HS7.out.mono (logL_ring c)).setCell (p:=⟨p,1,none⟩) (.inl hc7) (.slice A7 R.ws.length cap7))
 clear hr7 ho7 y1 g1 x1 f1
 generalize w7.setCell ⟨p,1,none⟩ (.slice A7 R.ws.length cap7)=W8 at HR7 HS8 ⊢
 go_loopw [4] (fun t4 wr=>∃j:Nat,j≤R.ws.length∧t4 = .int .i64 j∧RefAt o7 c wr p {R with ws:=keepTo k R.ws j}∧Step o (logL c) w o7 wr) (fun t4 _=>R.ws.length - (intOf t4).toNat)
 case atStart=>exact ⟨0,by omega,rfl,HR7.out,HS8.out⟩
 case round =>
  obtain ⟨j,hj,rfl,hr,hs⟩:=hrel
  obtain ⟨A9,cap9,HB9,HC9,HO9,x1,f1,hcap9,hcm9⟩:=hr.row
  have HRR:=Lib.hid hr
  have HSS:=Lib.hid hs
  clear hr hs
  simp only [keepTo_len] at HO9 HB9 x1 hcap9
  have hcm9':cap9≤9223372036854775807:=by unfold maxLen at hcm9;omega
  have HCM9:=Lib.hid hcm9
  clear hcm9
  by_cases hlt:j<R.ws.length
  ·have hltI:(j:Int)<(R.ws.length:Int):=by omega
   have HJL:=Lib.hid hlt
   have hlI:(R.ws.length:Int)≤100000:=by have:=HL.out;omega
   obtain ⟨x,hx⟩:∃x,R.ws[j]? = some x:=⟨_,List.getElem?_eq_getElem hlt⟩
   have hx2:=(keepTo_get (k:=k) hlt).trans hx
   obtain ⟨g,cur,rfl,hb,hg,_,hcm2,hsz,htk⟩:=HO9.out.blk (by omega)
   have hc0:=rw_get hx2
   have y0:=blk_row (m:=R.ws.length*4) hb htk (by omega) hc0.1
   have y3:=blk_row (m:=R.ws.length*4) hb htk (by omega) hc0.2
   have g3:=hb.frozen (j*4+3)
   have HBB:=Lib.hid hb
   have HGG:=Lib.hid hg
   have HSZ:=Lib.hid hsz
   have HTK:=Lib.hid htk
   have HKS:=Lib.hid (keepTo_succ (k:=k) hx)
   have HX2:=Lib.hid hx2
   clear hb hg hsz htk hx hx2 hcm2 hc0
   by_cases hk:x.node=k
   ·have HK2:=Lib.hid (show keepTo k R.ws (j+1)=(keepTo k R.ws j).set j {x with lasts:=true} by rw [HKS.out];unfold RW.keep;rw [if_pos hk])
    have hgp:g≠p:=HBB.out.ne_ HB9.out (by decide)
    go_wp2_with fail
    go_roundw
    case rel =>
     refine ⟨j+1,by have:=HJL.out;omega,by go_num,⟨_,HB9.out.far (p:=⟨g,j*4+3,none⟩) hgp.symm (.bool true),HC9.out,?_⟩,HSS.out.setCell (p:=⟨g,j*4+3,none⟩) (.inr HGG.out) (.bool true)⟩
     have hl2:(keepTo k R.ws (j+1)).length=R.ws.length:=keepTo_len _ _ _
     show OwnS _ _ _ _ _ _ (keepTo k R.ws (j+1)).length (rwcells (keepTo k R.ws (j+1)))
     rw [hl2,HK2.out,←rw_set HX2.out,←HTK.out]
     exact OwnS.of_blk (HBB.out.set_ (j*4+3) (.bool true)) HGG.out hcap9 HCM9.out (by simp [HSZ.out]) (by simp [List.take_set])
    case measure=>have:=HJL.out;simp [intOf];omega
   ·have HK2:=Lib.hid (show keepTo k R.ws (j+1)=keepTo k R.ws j by rw [HKS.out];unfold RW.keep;rw [if_neg hk];exact set_self HX2.out)
    go_wp2_with fail
    go_roundw
    case rel=>exact ⟨j+1,by have:=HJL.out;omega,by go_num,by rw [HK2.out];exact HRR.out,HSS.out⟩
    case measure=>have:=HJL.out;simp [intOf];omega
  ·have hltI:¬(j:Int)<(R.ws.length:Int):=by omega
   obtain rfl:j=R.ws.length:=by omega
   rw [keepTo_all] at HRR
   go_wp2_with fail
   go_end0
   exact ⟨rfl,o7,HRR.out,HSS.out⟩
end
def RK.fence (R:RK) (k:Nat):RK := {R.keep k with table:=fun j=>if j=k then 0 else R.table j}
section
variable {o:Nat→Nat} {c p:Nat} {w:World} {R:RK}
theorem reffence_ok (h:RefAt o c w p R) (k:Nat) (hk:k≤16) (hl:R.ws.length≤100000):Calls Tryz.prog 70 #[.pointer (some ⟨p,0,none⟩), .int .i64 (k:Int)] w fun r w'=>r = .returned (.int .i64 0)∧∃o',RefAt o' c w' p (R.fence k)∧Step o (logL c) w o' w':=by
 have H:=Lib.hid h
 have HL:=Lib.hid hl
 have HK:=Lib.hid hk
 obtain ⟨lv,hb,hc,ho⟩:=h
 have x2:w.cell? ⟨p,2,none⟩=some (.bool false):=hb.cell 2
 have hd:decide ((0:Int)≤(k:Int)∧(k:Int)≤16)=true:=decide_eq_true (by omega)
 have hkI:(k:Int)<17:=by omega
 clear hb hc ho hl hk
 go_enter Tryz.func70,Tryz.ntmps70
 go_wp2_with fail
 refine (refnode_any k w).mono ?_
 rintro r w1 ⟨rfl,rfl⟩
 rw [hd]
 go_wp2_with fail
 refine (refspend_any H.out).mono ?_
 rintro r w1 ⟨rfl,rfl⟩
 clear x2
 go_wp2_with fail
 refine (refkeep_any H.out k HL.out).mono ?_
 rintro r w2 ⟨rfl,o2,hr2,hs2⟩
 obtain ⟨lv,hb,hc,ho⟩:=hr2
 have ct:w2.cell? ⟨p,3+k,none⟩=some (.int .u64 ((R.keep k).table k:Int)):=by rw [hb.cell,rk_table (R.keep k) lv k HK.out]
 have ft:=hb.frozen (3+k)
 have hb2:=hb.set_ (3+k) (.int .u64 (0:Nat))
 rw [rk_put (R.keep k) lv k HK.out 0] at hb2
 have S2:=(Step.refl o2 (only c) w2).setCell (p:=⟨p,3+k,none⟩) hc (.int .u64 (0:Nat))
 have HF:=Lib.hid (show RefAt o2 c (w2.setCell ⟨p,3+k,none⟩ (.int .u64 0)) p (R.fence k) from ⟨lv,hb2,hc,ho.step S2 (by unfold only;omega)⟩)
 have HS:=Lib.hid (hs2.trans (S2.mono (logL_log c)))
 clear hb hb2 S2 hs2 ho hc
 go_wp2_with fail
 go_ret
 exact ⟨rfl,o2,HF.out,HS.out⟩
theorem refbarrier_ok (h:RefAt o c w p R) (k e:Nat) (hk:k≤16) (he:R.table k=e) (h0:e≠0) (hl:R.ws.length≤100000):Calls Tryz.prog 69 #[.pointer (some ⟨p,0,none⟩), .int .i64 (k:Int), .int .u64 (e:Int)] w fun r w'=>r = .returned (.int .i64 0)∧∃o',RefAt o' c w' p (R.keep k)∧Step o (logL c) w o' w':=by
 have H:=Lib.hid h
 have HL:=Lib.hid hl
 have HM:=Lib.hid (refmay_ok h k e hk he h0)
 clear h hl hk he h0
 go_enter Tryz.func69,Tryz.ntmps69
 go_wp2_with fail
 refine HM.out.mono ?_
 rintro r w1 ⟨rfl,rfl⟩
 go_wp2_with fail
 refine (refspend_any H.out).mono ?_
 rintro r w1 ⟨rfl,rfl⟩
 go_wp2_with fail
 refine (refkeep_any H.out k HL.out).mono ?_
 rintro r w2 ⟨rfl,o2,hr2,hs2⟩
 have HF:=Lib.hid hr2
 have HS:=Lib.hid hs2
 clear hr2 hs2
 go_wp2_with fail
 go_ret
 exact ⟨rfl,o2,HF.out,HS.out⟩
def rwsN (n at_:Int) (data:ByteArray) (i:Nat):List RW:=(List.range i).map (fun t:Nat=>⟨n,at_+t,sect data t,false⟩)
theorem rwsN_succ (n at_:Int) (data:ByteArray) (i:Nat):rwsN n at_ data (i+1)=rwsN n at_ data i ++ [⟨n,at_+i,sect data i,false⟩]:=by
 unfold rwsN
 rw [List.range_succ,List.map_append]
 rfl
theorem rwcells_app (l m:List RW):rwcells (l++m)=rwcells l++rwcells m:=by simp [rwcells]
def RK.write (R:RK) (n at_:Int) (data:ByteArray) (m:Nat):RK := {R with ws:=R.ws++rwsN n at_ data m}
set_option maxRecDepth 100000 in
set_option maxHeartbeats 4000000 in
theorem refwrite_ok (h:RefAt o c w p R) (k e:Nat) (at_:Int) (data:ByteArray) (m:Nat) (hk:k≤16) (he:R.table k=e) (h0:e≠0) (hd:data.size=m*64) (h1:1≤m) (h2:m≤16) (h3:0≤at_) (h4:at_+m≤R.room) (hr:R.room≤100000) (hl:R.ws.length≤90000) :
 Calls Tryz.prog 68 #[.pointer (some ⟨p,0,none⟩), .int .i64 (k:Int), .int .u64 (e:Int), .int .i64 at_, .string data] w fun r w'=>r = .returned (.int .i64 0)∧∃o',RefAt o' c w' p (R.write k at_ data m)∧Step o (logL c) w o' w':=by
 have H:=Lib.hid h
 have HL:=Lib.hid hl
 have HM:=Lib.hid (refmay_ok h k e hk he h0)
 have HDS:=Lib.hid hd
 have HM2:=Lib.hid h2
 obtain ⟨lv,hb,hc,ho⟩:=h
 have x0:w.cell? ⟨p,0,none⟩=some (.int .i64 R.room):=hb.cell 0
 have x2:w.cell? ⟨p,2,none⟩=some (.bool false):=hb.cell 2
 have hn:decide ((0:Int)≤(k:Int)∧(k:Int)≤16)=true:=decide_eq_true (by omega)
 have hq:(data.size:Int).tdiv 64=(m:Int):=tdiv64 (by omega)
 have hqw:IntKind.i64.wrap (m:Int)=(m:Int):=IntWalk.i64_in _ (by omega)
 have hrem:(data.size:Int).tmod 64=0:=tmod64 (r:=0) (by omega)
 have hm1:¬(m:Int)<1:=by omega
 have hm2:¬16<(m:Int):=by omega
 have hm1':(1:Int)≤(m:Int):=by omega
 have hm2':(m:Int)≤16:=by omega
 have hsub:IntKind.i64.wrap ((R.room:Int) - (m:Int))=(R.room:Int) - (m:Int):=IntWalk.i64_in _ (by omega)
 have hat:¬(R.room:Int) - (m:Int)<at_:=by omega
 have hat2:at_≤(R.room:Int) - (m:Int):=by omega
 have hat0:¬at_<0:=by omega
 have HAT:=Lib.hid h4
 have HRM:=Lib.hid hr
 clear hb hc ho hl hk he h0 hd h1 h2 h4 hr
 go_enter Tryz.func68,Tryz.ntmps68
 go_wp2_with fail
 refine (refnode_any k w).mono ?_
 rintro r w1 ⟨rfl,rfl⟩
 rw [hn]
 go_wp2_with fail
 refine HM.out.mono ?_
 rintro r w1 ⟨rfl,rfl⟩
 go_wp2_with fail
 refine (refspend_any H.out).mono ?_
 rintro r w1 ⟨rfl,rfl⟩
 go_wp2_with fail
 clear x0 x2 hn hq hqw hrem hm1 hm2 hm1' hm2' hsub hat hat2
 have H0:=Lib.hid (show RefAt o c w p (R.write k at_ data 0) by have e:R.write k at_ data 0=R:=by unfold RK.write rwsN;simp
                                                                rw [e];exact H.out)
 go_loopw [13] (fun t13 wr=>∃(i:Nat) (o1:Nat→Nat),i≤m∧t13 = .int .i64 i∧RefAt o1 c wr p (R.write k at_ data i)∧Step o (logL c) w o1 wr) (fun t13 _=>m - (intOf t13).toNat)
 case atStart=>exact ⟨0,o,by omega,rfl,H0.out,Step.refl _ _ _⟩
 case round =>
  obtain ⟨i,o1,hi,rfl,hr,hs⟩:=hrel
  have HRR:=Lib.hid hr
  have HSS:=Lib.hid hs
  clear hr hs
  by_cases hlt:i<m
  ·have hltI:(i:Int)<(m:Int):=by omega
   have HIL:=Lib.hid hlt
   obtain ⟨A9,cap9,HB9,HC9,HO9,x1,f1,hcap9,hcm9⟩:=HRR.out.row
   obtain ⟨i0,hi0,hz0,hz1,hz2⟩:=info_parts info_rw
   have hWL:(R.write k at_ data i).ws.length=R.ws.length+i:=by show (R.ws++rwsN k at_ data i).length=_;rw [List.length_append];unfold rwsN;rw [List.length_map,List.length_range]
   have HWS:=Lib.hid (show (R.write k at_ data (i+1)).ws=(R.write k at_ data i).ws ++ [⟨k,at_+i,sect data i,false⟩] by show R.ws++rwsN k at_ data (i+1)=(R.ws++rwsN k at_ data i)++_;rw [rwsN_succ,List.append_assoc])
   obtain ⟨Q,hQ⟩:∃Q,R.write k at_ data i=Q:=⟨_,rfl⟩
   have HQC:=Lib.hid (show ∀lv,(R.write k at_ data (i+1)).cells lv=Q.cells lv from fun lv=>by rw [←hQ];rfl)
   rw [hQ] at HB9 HO9 x1 hcap9 hWL HWS
   have hWL2:Q.ws.length≤100000:=by have:=HL.out;have:=HM2.out;omega
   have hcm9':cap9≤9223372036854775807:=by unfold maxLen at hcm9;omega
   have HCM9:=Lib.hid hcm9
   clear hcm9 hWL hQ
   obtain ⟨lo,hlo⟩:∃lo,i*64=lo:=⟨_,rfl⟩
   obtain ⟨hi',hhi⟩:∃hi',(i+1)*64=hi':=⟨_,rfl⟩
   have hhs:hi'≤data.size:=by have:=HDS.out;omega
   have e1:IntKind.i64.wrap (at_+(i:Int))=at_+i:=IntWalk.i64_in _ (by have:=HAT.out;have:=HRM.out;omega)
   have e2:IntKind.i64.wrap (64*(i:Int))=(lo:Int):=by rw [IntWalk.i64_in _ (by have:=HM2.out;omega)];omega
   have e3:IntKind.i64.wrap ((lo:Int)+64)=(hi':Int):=by rw [IntWalk.i64_in _ (by have:=HM2.out;omega)];omega
   have b0:(0:Int)≤(lo:Int):=by omega
   have b1:(lo:Int)≤(hi':Int):=by omega
   have b2:(hi':Int)≤(data.size:Int):=by omega
   obtain ⟨S,hS⟩:∃S,data.extract lo hi'=S:=⟨_,rfl⟩
   have HSE:=Lib.hid (show sect data i=S by unfold sect;rw [hlo,hhi,hS])
   have HO10:=Lib.hid (HO9.out.alloc (.cells #[.int .i64 (k:Int), .int .i64 (at_+(i:Int)), .string S, .bool false] 186)).drew
   have HB10:=Lib.hid (HB9.out.alloc (.cells #[.int .i64 (k:Int), .int .i64 (at_+(i:Int)), .string S, .bool false] 186)).drew
   have HSA:=Lib.hid (HSS.out.alloc (.cells #[.int .i64 (k:Int), .int .i64 (at_+(i:Int)), .string S, .bool false] 186)).drew
   have z1:wr.drew.cell? ⟨p,1,none⟩=some (.slice A9 Q.ws.length cap9):=x1
   have z1b:(wr.alloc (.cells #[.int .i64 (k:Int), .int .i64 (at_+(i:Int)), .string S, .bool false] 186)).cell? ⟨p,1,none⟩=some (.slice A9 Q.ws.length cap9):=(HB9.out.alloc (.cells #[.int .i64 (k:Int), .int .i64 (at_+(i:Int)), .string S, .bool false] 186)).cell 1
   clear hlo hhi hhs
   go_upto_region 17 with (fail)
   go_region_law ((refine step_append_S _ rfl (.tmp 71) (.tmp 84) 125 rfl 186 i0 _ 4 40 Tryz.underlying125 hi0 hz0 hz1 hz2 rfl (by omega) (.slice A9 Q.ws.length cap9) Q.ws.length (rwcells Q.ws) rfl HO10.out (some ⟨wr.heap.size,0,none⟩) 1 1 [.int .i64 (k:Int), .int .i64 (at_+(i:Int)), .string S, .bool false] rfl (Reads.newAt wr 186 4 1 _ #[.int .i64 (k:Int), .int .i64 (at_+(i:Int)), .string S, .bool false] _ rfl rfl rfl).drew (by simp [Value.oneCell']) (by unfold maxLen;omega) (by omega) ?_;intro v7 w7 hown7 hst7 hgr7 hat7;obtain ⟨A7,cap7,rfl,_,_⟩:=own_form' hown7;have hb7:=HB10.out.step hst7 (by rw [HC9.out];unfold only;omega);have y1:w7.cell? ⟨p,1,none⟩=some (.slice A9 Q.ws.length cap9):=hb7.cell 1;have g1:=hb7.frozen 1;have HB7:=Lib.hid hb7;have HO7:=Lib.hid hown7;have HS7:=Lib.hid hst7;clear hown7 hst7 hgr7 hat7 hb7))
   all_goals
    have hc7:=(HS7.out.old p HB10.out.lt).trans HC9.out
    have hne:=own_blk_ne HO7.out HB7.out (by decide)
    have HF:=Lib.hid (show ∃o2,RefAt o2 c (w7.setCell ⟨p,1,none⟩ (.slice A7 (Q.ws.length+1) cap7)) p (R.write k at_ data (i+1))∧Step o (logL c) w o2 (w7.setCell ⟨p,1,none⟩ (.slice A7 (Q.ws.length+1) cap7)) from by
     refine ⟨_,⟨.slice A7 (Q.ws.length+1) cap7,?_,hc7,?_⟩,(HSA.out.trans (HS7.out.mono (logL_ring c))).setCell (p:=⟨p,1,none⟩) (.inl hc7) _⟩
     ·rw [HQC.out]
      exact HB7.out.set_ 1 (.slice A7 (Q.ws.length+1) cap7)
     ·have h2:=HO7.out.setCell (p:=⟨p,1,none⟩) hne (.slice A7 (Q.ws.length+1) cap7)
      rw [HWS.out,rwcells_app,HSE.out,List.length_append]
      exact h2)
    clear hc7 hne HO7 HS7 HB7
    go_wp2_with fail
    go_roundw
    case rel=>exact ⟨i+1,HF.out.choose,by have:=HIL.out;omega,by go_num,HF.out.choose_spec.1,HF.out.choose_spec.2⟩
    case measure=>have:=HIL.out;simp [intOf];omega
  ·have hltI:¬(i:Int)<(m:Int):=by omega
   obtain rfl:i=m:=by omega
   go_wp2_with fail
   go_ret
   exact ⟨rfl,o1,HRR.out,HSS.out⟩
end
section
variable {o:Nat→Nat} {c:Nat} {w:World} {p:Nat} {W:Wr}
set_option maxHeartbeats 400000 in
theorem xfail_old (h:WrAt 182 o c w p W) (he:W.e≠0) (e:Int) :
 Calls Tryz.prog 184 #[.pointer (some ⟨p,0,none⟩), .int .i64 e] w fun r w'=>r = .returned (.bool true)∧w=w':=by
 obtain ⟨A,cap,h0,h1,f0,f1,hc1,hc2,hlt,HB,HC,HV⟩:=h.open_
 have t1:(W.e == 0)=false:=beq_eq_false_iff_ne.2 he
 have t2:(W.e != 0)=true:=bne_iff_ne.2 he
 clear h
 go_enter Tryz.func184,Tryz.ntmps184
 go_wp2
 go_ret
 exact ⟨rfl,rfl⟩
set_option maxHeartbeats 400000 in
theorem xfail_new (h:WrAt 182 o c w p W) (he:W.e=0) (e:Int) (hne:e≠0) :
 Calls Tryz.prog 184 #[.pointer (some ⟨p,0,none⟩), .int .i64 e] w fun r w'=>r = .returned (.bool true)∧WrAt 182 o c w' p {W with e:=e}∧Step o (only c) w o w':=by
 have HW:=Lib.hid h
 obtain ⟨A,cap,h0,h1,f0,f1,hc1,hc2,hlt,HB,HC,HV⟩:=h.open_
 rw [he] at h1
 have t2:(e != 0)=true:=bne_iff_ne.2 hne
 clear h he
 go_enter Tryz.func184,Tryz.ntmps184
 go_wp2
 go_ret
 exact ⟨rfl,HW.out.setE (by decide) e,(Step.refl o (only c) w).setCell (p:=⟨p,1,none⟩) HC.out _⟩
set_option maxHeartbeats 400000 in
theorem xfail_ok (h:WrAt 182 o c w p W) (he:W.e=0) :
 Calls Tryz.prog 184 #[.pointer (some ⟨p,0,none⟩), .int .i64 0] w fun r w'=>r = .returned (.bool false)∧WrAt 182 o c w' p W∧Step o (only c) w o w':=by
 have HW:=Lib.hid h
 obtain ⟨A,cap,h0,h1,f0,f1,hc1,hc2,hlt,HB,HC,HV⟩:=h.open_
 rw [he] at h1
 have HE:=Lib.hid he
 clear h he
 go_enter Tryz.func184,Tryz.ntmps184
 go_wp2
 go_ret
 have h9:=HW.out.setE (by decide) 0
 have e9:({W with e:=0}:Wr)=W:=by
  have:=HE.out
  cases W
  simp at this
  subst this
  rfl
 rw [e9] at h9
 exact ⟨rfl,h9,(Step.refl o (only c) w).setCell (p:=⟨p,1,none⟩) HC.out _⟩
end
theorem numOk_div {v:Nat} {m:Nat} (h1:1≤m) (h8:m≤8):numOk v (m:Int)↔v / 256 ^ m=0:=by
 unfold numOk
 rw [Int.toNat_natCast,Nat.div_eq_zero_iff_lt (Nat.pow_pos (by decide))]
 exact ⟨fun h=>h.2.2,fun h=>⟨by omega,by omega,h⟩⟩
section
variable {o:Nat→Nat} {c:Nat} {w:World} {p:Nat} {W:Wr}
set_option maxRecDepth 100000 in
set_option maxHeartbeats 1000000 in
theorem xnum_any (h:WrAt 182 o c w p W) (v:Nat) (n:Int) (hv:v<18446744073709551616) (hb:W.bs.length≤1000000000) :
 Calls Tryz.prog 125 #[.pointer (some ⟨p,0,none⟩), .int .u64 v, .int .i64 n] w fun r w'=>r = .returned (.tuple #[])∧∃o',WrAt 182 o' c w' p (W.num v n)∧Step o (only c) w o' w':=by
 have HW:=Lib.hid h
 clear h
 have HV0:=Lib.hid hv
 clear hv
 by_cases he:W.e=0
 ·have HE:=Lib.hid he
  by_cases hr:n<1∨8<n
  ·have e1:W.num v n = {W with e:=1}:=by unfold Wr.num;rw [if_neg (by simpa using he),if_neg (by unfold numOk;omega)]
   have E1:=Lib.hid e1
   clear e1 he
   by_cases h1:n<1
   ·clear hr
    go_enter Tryz.func125,Tryz.ntmps125
    go_wp2_with fail
    refine (xfail_ok HW.out HE.out).mono ?_
    rintro e w1 ⟨rfl,hw1,hs1⟩
    have HW1:=Lib.hid hw1
    have HS1:=Lib.hid hs1
    clear hw1 hs1
    go_wp2_with fail
    refine (xfail_new HW1.out HE.out 1 (by decide)).mono ?_
    rintro e w2 ⟨rfl,hw2,hs2⟩
    have HW2:=Lib.hid hw2
    have HS2:=Lib.hid hs2
    clear hw2 hs2
    go_wp2_with fail
    first | go_end0 | refine bodyPost_ret (v := .tuple #[]) (by simp [results,Tryz.results125,go_sem]) rfl ?_
    exact ⟨rfl,o,by rw [E1.out];exact HW2.out,HS1.out.trans HS2.out⟩
   ·have h8:8<n:=by omega
    clear hr
    go_enter Tryz.func125,Tryz.ntmps125
    go_wp2_with fail
    refine (xfail_ok HW.out HE.out).mono ?_
    rintro e w1 ⟨rfl,hw1,hs1⟩
    have HW1:=Lib.hid hw1
    have HS1:=Lib.hid hs1
    clear hw1 hs1
    go_wp2_with fail
    refine (xfail_new HW1.out HE.out 1 (by decide)).mono ?_
    rintro e w2 ⟨rfl,hw2,hs2⟩
    have HW2:=Lib.hid hw2
    have HS2:=Lib.hid hs2
    clear hw2 hs2
    go_wp2_with fail
    first | go_end0 | refine bodyPost_ret (v := .tuple #[]) (by simp [results,Tryz.results125,go_sem]) rfl ?_
    exact ⟨rfl,o,by rw [E1.out];exact HW2.out,HS1.out.trans HS2.out⟩
  ·obtain ⟨m,rfl⟩:∃m:Nat,n=m:=⟨n.toNat,by omega⟩
   have hm1:¬(m:Int)<1:=by omega
   have hm8:¬(8:Int)<(m:Int):=by omega
   have E1:=Lib.hid (show v / 256 ^ m=0→W.num v m = {W with bs:=W.bs++le v m} from fun h0=>by
    unfold Wr.num;rw [if_neg (by simpa using he),if_pos ((numOk_div (by omega) (by omega)).2 h0),Int.toNat_natCast])
   have E2:=Lib.hid (show v / 256 ^ m≠0→W.num v m = {W with e:=1} from fun h0=>by
    unfold Wr.num;rw [if_neg (by simpa using he),if_neg (fun h1=>h0 ((numOk_div (by omega) (by omega)).1 h1))])
   clear hr he
   obtain ⟨i0,hi0,hz0,hz1,hz2⟩:=info_parts info_u8
   go_enter Tryz.func125,Tryz.ntmps125
   go_wp2_with fail
   refine (xfail_ok HW.out HE.out).mono ?_
   rintro e w1 ⟨rfl,hw1,hs1⟩
   have HW1:=Lib.hid hw1
   have HS1:=Lib.hid hs1
   clear hw1 hs1
   go_wp2_with fail
   go_loopw [1,6,7] (fun t1 t6 t7 wr=>∃(k:Nat) (o':Nat→Nat),k≤m∧t7 = .int .i64 k∧t1 = .int .u64 ((v / 256 ^ k:Nat):Int)∧OwnS o' (c+1) wr 5 1 t6 k (bvs (le v k))∧(∀g,t6.ownBlock=some g→w.heap.size≤g)∧WrAt 182 o' c wr p W∧Step o (only c) w o' wr) (fun _ _ t7 _=>m - (intOf t7).toNat)
   case atStart=>exact ⟨0,o,Nat.zero_le _,rfl,by simp,OwnS.nil _ _ _ _ _,by simp [Value.ownBlock],HW1.out,HS1.out⟩
   case round =>
    obtain ⟨k,o1,hk,rfl,rfl,hown6,hblk6,hw,hst⟩:=hrel
    obtain ⟨A6,cap6,rfl,hle6,hcap6⟩:=own_form' hown6
    unfold maxLen at hcap6
    have hu:v / 256 ^ k<18446744073709551616:=Nat.lt_of_le_of_lt (Nat.div_le_self _ _) HV0.out
    have HNX:=Lib.hid (show v / 256 ^ (k+1)=v / 256 ^ k / 256 by rw [Nat.pow_succ,Nat.div_div_eq_div_mul])
    have HSN:=Lib.hid (show le v (k+1)=le v k ++ [UInt8.ofNat (v / 256 ^ k)] from rfl)
    have HL6:=Lib.hid (le_len v k)
    have HF:=Lib.hid (show k=m→v / 256 ^ k=v / 256 ^ m from fun e=>by rw [e])
    generalize v / 256 ^ k=u at hu HNX HSN HF
    have HO6:=Lib.hid hown6
    have HB6:=Lib.hid hblk6
    have HWK:=Lib.hid hw
    have HST:=Lib.hid hst
    clear hown6 hblk6 hw hst
    by_cases hlt:k<m
    ·have hltI:(k:Int)<(m:Int):=by omega
     have HU:=Lib.hid hu
     clear hu
     go_wp2_with (at_builtin;refine wpList_append_S _ rfl (.tmp 23) (.tmp 27) 151 rfl 5 i0 _ 1 1 Tryz.underlying151 hi0 hz0 hz1 hz2 rfl (by omega) (.slice A6 k cap6) k (bvs (le v k)) rfl (HO6.out.alloc _) (some ⟨wr.heap.size,0,none⟩) 1 1 [.int .u8 ((u:Int) % 256)] rfl (Reads.newAt wr 5 1 1 [.int .u8 ((u:Int) % 256)] #[.int .u8 ((u:Int) % 256)] wr.heap.size rfl rfl rfl) (by simp [Value.oneCell']) (by unfold maxLen;omega) (by omega) ?_;intro v2 w2 hown hst hg hat;have HO2:=Lib.hid hown;have HS2:=Lib.hid hst;have HG2:=Lib.hid hg;have HA2:=Lib.hid hat;clear hown hst hg hat)
     go_roundw
     case rel =>
      have hbv:bvs (le v k) ++ [.int .u8 ((u:Int) % 256)]=bvs (le v (k+1)):=by
       rw [HSN.out,bvs_app]
       simp [bvs,bv]
      have hst0:=HST.out.size
      refine ⟨k+1,_,by omega,by go_num,by rw [HNX.out,IntKind.wrap_u64];have h9:=HU.out;congr 1;omega,by rw [←hbv];exact HO2.out,?_,(HWK.out.alloc _).step HS2.out (by unfold only;omega),(HST.out.alloc _).grownNew (c+1) HG2.out HB6.out⟩
      intro g hg
      rcases HA2.out with h2 | h2
      ·exact HB6.out g (h2▸hg)
      ·rw [h2] at hg
       injection hg with hg
       simp at hg
       omega
     case measure=>simp [intOf];omega
    ·have hltI:¬(k:Int)<(m:Int):=by omega
     obtain rfl:k=m:=by omega
     have hum:=HF.out rfl
     by_cases hz:u=0
     ·have hzI:¬(0:Int)<(u:Int):=by omega
      have E3:=Lib.hid (E1.out (by rw [←hum];exact hz))
      clear hum hz E1 E2 HF HNX HSN hu
      obtain ⟨A,cap,c0,c1,f0,f1,hc1,hc2,hpl,HB,HC,HV⟩:=HWK.out.open_
      have HNE:=Lib.hid (own_blk_ne HV.out HB.out (by decide))
      go_wp2_with (at_builtin;refine wpList_append_S _ rfl (.tmp 39) (.tmp 40) 151 rfl 5 i0 _ 1 1 Tryz.underlying151 hi0 hz0 hz1 hz2 rfl (by omega) (.slice A W.bs.length cap) W.bs.length (bvs W.bs) rfl HV.out A6 k cap6 (bvs (le v k)) rfl (Reads.of_own HO6.out.1) (bvs_one _) (by unfold maxLen;omega) (by omega) ?_;intro v2 w2 hown hst hg hat;have hb2:Blk w2 p 182 _:=(hg.block p hpl (fun e=>HNE.out e.symm)).trans HB.out;have k0:=hb2.cell 0;have k1:=hb2.frozen 0;simp at k0 k1;obtain ⟨A2,cap2,rfl,_,_⟩:=own_form' hown;have HO2:=Lib.hid hown;have HS2:=Lib.hid hst;have HB2:=Lib.hid hb2;clear hown hst hg hat hb2)
      first | go_end0 | refine bodyPost_ret (v := .tuple #[]) (by simp [results,Tryz.results125,go_sem]) rfl ?_
      have hcol:=(HS2.out.old p hpl).trans HC.out
      have hll:(W.bs++le v k).length=W.bs.length+k:=by rw [List.length_append,le_len]
      have h4:=WrAt.setB (W:=W) (l:=W.bs++le v k) HB2.out hcol (by decide) (by rw [hll,bvs_app];exact HO2.out)
      refine ⟨rfl,_,?_,(HST.out.trans HS2.out).setCell (p:=⟨p,0,none⟩) hcol _⟩
      rw [E3.out]
      rw [hll] at h4
      exact h4
     ·have hzI:(0:Int)<(u:Int):=by omega
      have E3:=Lib.hid (E2.out (by rw [←hum];exact hz))
      clear hum hz E1 E2 HF HNX HSN hu
      go_wp2_with fail
      refine (xfail_new HWK.out HE.out 1 (by decide)).mono ?_
      rintro e w2 ⟨rfl,hw2,hs2⟩
      have HW2:=Lib.hid hw2
      have HS2:=Lib.hid hs2
      clear hw2 hs2
      go_wp2_with fail
      first | go_end0 | refine bodyPost_ret (v := .tuple #[]) (by simp [results,Tryz.results125,go_sem]) rfl ?_
      exact ⟨rfl,o1,by rw [E3.out];exact HW2.out,HST.out.trans HS2.out⟩
 ·have e1:W.num v n=W:=by unfold Wr.num;rw [if_pos he]
  have E1:=Lib.hid e1
  have HE:=Lib.hid he
  clear e1 he
  go_enter Tryz.func125,Tryz.ntmps125
  go_wp2_with fail
  refine (xfail_old HW.out HE.out _).mono ?_
  rintro e w1 ⟨rfl,rfl⟩
  go_wp2_with fail
  first | go_end0 | refine bodyPost_ret (v := .tuple #[]) (by simp [results,Tryz.results125,go_sem]) rfl ?_
  exact ⟨rfl,o,by rw [E1.out];exact HW.out,Step.refl _ _ _⟩
end
structure Xg (o:Nat→Nat) (w0 w:World) (p:Nat) (bs:List UInt8):Prop where
 wr:WrAt 182 o 1 w p ⟨bs,0⟩
 env:Env o w0 w
 fut:Fut o w
theorem no10 : ¬only 1 0:=by unfold only;omega
section
variable {o o':Nat→Nat} {w0 w w':World} {p:Nat} {bs bs':List UInt8}
theorem Xg.next (h:Xg o w0 w p bs) (hw:WrAt 182 o' 1 w' p ⟨bs',0⟩) (hs:Step o (only 1) w o' w'):Xg o' w0 w' p bs':=⟨hw,h.env.step hs no10,h.fut.step hs⟩
theorem xnum_ok (h:Xg o w0 w p bs) (v:Nat) (n:Int) (hok:numOk v n) (hv:v<18446744073709551616) (hb:bs.length≤1000000000) :
 Calls Tryz.prog 125 #[.pointer (some ⟨p,0,none⟩), .int .u64 v, .int .i64 n] w fun r w'=>r = .returned (.tuple #[])∧∃o',Xg o' w0 w' p (bs++le v n.toNat)∧Step o (only 1) w o' w':=by
 refine (xnum_any h.wr v n hv hb).mono ?_
 rintro e w1 ⟨rfl,o1,hw,hs⟩
 rw [Wr.num_ok rfl hok] at hw
 exact ⟨rfl,o1,h.next hw hs,hs⟩
theorem Xg.conv (h:Xg o w0 w p bs):∃A cap,w.cell? ⟨p,0,none⟩=some (.slice A bs.length cap)∧(convert 151 9 (.slice A bs.length cap)).run Tryz.prog w = .ok (.string (str bs)) w:=by
 obtain ⟨A,cap,c0,c1,f0,f1,hc1,hc2,hpl,HB,HC,HV⟩:=h.wr.open_
 exact ⟨A,cap,c0,conv_own 151 9 Tryz.underlying151 Tryz.underlying5 Tryz.underlying9 HV.out⟩
end
theorem four_eq (v:Nat):four v = [UInt8.ofNat v,UInt8.ofNat (v / 256),UInt8.ofNat (v / 65536),UInt8.ofNat (v / 16777216)]:=by
 simp [four,le]
theorem u8_wrap (v:Nat):IntKind.u8.wrap (v:Int)=((UInt8.ofNat v).toNat:Int):=by
 rw [IntKind.wrap_u8,UInt8.toNat_ofNat']
 omega
set_option maxRecDepth 100000 in
set_option maxHeartbeats 1000000 in
theorem xfour_any (v:Nat) (hv:v<4294967296) (w:World):Calls Tryz.prog 185 #[.int .u32 v] w fun e w'=>e = .returned (.string (str (four v)))∧Below w.heap.size w w':=by
 have e0:=u8_wrap v
 have e1:IntKind.u8.wrap ((v:Int) / 256)=((UInt8.ofNat (v / 256)).toNat:Int):=u8_wrap (v / 256)
 have e2:IntKind.u8.wrap ((v:Int) / 65536)=((UInt8.ofNat (v / 65536)).toNat:Int):=u8_wrap (v / 65536)
 have e3:IntKind.u8.wrap ((v:Int) / 16777216)=((UInt8.ofNat (v / 16777216)).toNat:Int):=u8_wrap (v / 16777216)
 have HF:=Lib.hid (four_eq v)
 generalize UInt8.ofNat v=b0 at e0 HF
 generalize UInt8.ofNat (v / 256)=b1 at e1 HF
 generalize UInt8.ofNat (v / 65536)=b2 at e2 HF
 generalize UInt8.ofNat (v / 16777216)=b3 at e3 HF
 have hcv:∀cap,(convert 151 9 (.slice (some ⟨w.heap.size,0,none⟩) 4 cap)).run Tryz.prog (w.alloc (.cells #[.int .u8 b0.toNat, .int .u8 b1.toNat, .int .u8 b2.toNat, .int .u8 b3.toNat] 5)) = .ok (.string (str (four v))) (w.alloc (.cells #[.int .u8 b0.toNat, .int .u8 b1.toNat, .int .u8 b2.toNat, .int .u8 b3.toNat] 5)):=fun cap=>by
  rw [HF.out]
  exact conv_at (cap:=cap) (l := [b0,b1,b2,b3]) (Blk.new w 5 #[.int .u8 b0.toNat, .int .u8 b1.toNat, .int .u8 b2.toNat, .int .u8 b3.toNat]) rfl rfl
 have hcv4:=hcv 4
 clear hcv
 generalize str (four v)=S at hcv4 ⊢
 go_enter Tryz.func185,Tryz.ntmps185
 go_wp2_with fail
 go_ret
 exact ⟨rfl,(Below.refl _ _).alloc (Nat.le_refl _) _⟩
end Go.Proofs.YtohgabdmmbngbaaGreatDoor
