import Derived.Test.YtldoeodkeieejaaGreatDoorKSimR
import Derived.Test.YtldoeodkeieejaaGreatDoorKRefG
namespace Go.Proofs.YtldoeodkeieejaaGreatDoor
open Go.RowKit
def RF.cells (R:RF) (lv kv:Value):Array Value :=
 #[.int .i64 R.room,lv, .bool R.off,
  .int .u64 (R.table 0), .int .u64 (R.table 1), .int .u64 (R.table 2), .int .u64 (R.table 3), .int .u64 (R.table 4), .int .u64 (R.table 5), .int .u64 (R.table 6), .int .u64 (R.table 7), .int .u64 (R.table 8), .int .u64 (R.table 9), .int .u64 (R.table 10), .int .u64 (R.table 11), .int .u64 (R.table 12), .int .u64 (R.table 13), .int .u64 (R.table 14), .int .u64 (R.table 15), .int .u64 (R.table 16),
  .int .u64 (R.words 0), .int .u64 (R.words 1), .int .u64 (R.words 2), .int .u64 (R.words 3), .int .u64 (R.words 4), .int .u64 (R.words 5), .int .u64 (R.words 6), .int .u64 (R.words 7), .int .u64 (R.words 8), .int .u64 (R.words 9), .int .u64 (R.words 10), .int .u64 (R.words 11), .int .u64 (R.words 12), .int .u64 (R.words 13), .int .u64 (R.words 14), .int .u64 (R.words 15), .int .u64 (R.words 16),
  .int .u64 R.last, .bool R.armed, .int .i64 R.left,kv]
def RefIn (o:Nat→Nat) (c:Nat) (w:World) (p:Nat) (R:RF) (kv:Value):Prop:=∃lv,Blk w p 111 (R.cells lv kv)∧o p=c∧OwnS o (c+1) w 142 4 lv R.ws.length (rwcells R.ws)
def RFAt (o:Nat→Nat) (c:Nat) (w:World) (p:Nat) (R:RF):Prop:=∃kv,RefIn o c w p R kv∧OwnW o (c+2) w 3 1 kv R.keep.length (intcells R.keep)
def RF.of (R:RK):RF:=⟨R.room,R.ws,false,R.table,R.words,R.last,false,0,[]⟩
def three (c:Nat):Nat→Prop:=fun x=>x=c∨x=c+1∨x=c+2
section
variable {o o':Nat→Nat} {c p:Nat} {C:Nat→Prop} {w w':World} {R:RF} {kv:Value}
theorem RefIn.step (h:RefIn o c w p R kv) (hs:Step o C w o' w') (h0:¬C c) (h1:¬C (c+1)):RefIn o' c w' p R kv:=by
 obtain ⟨lv,hb,hc,ho⟩:=h
 exact ⟨lv,hb.step hs (by rw [hc];exact h0),(hs.old p hb.lt).trans hc,ho.step hs h1⟩
theorem RefIn.below_ (h:RefIn o c w p R kv) (hb:Below w.heap.size w w'):RefIn o c w' p R kv:=h.step (Step.of_below o (fun _=>False) hb) id id
theorem RFAt.step (h:RFAt o c w p R) (hs:Step o C w o' w') (h0:∀x,three c x→¬C x):RFAt o' c w' p R:=by
 obtain ⟨kv,h1,h2⟩:=h
 exact ⟨kv,h1.step hs (h0 _ (.inl rfl)) (h0 _ (.inr (.inl rfl))),h2.step hs (h0 _ (.inr (.inr rfl)))⟩
theorem RFAt.below_ (h:RFAt o c w p R) (hb:Below w.heap.size w w'):RFAt o c w' p R:=h.step (Step.of_below o (fun _=>False) hb) (fun _ _=>id)
theorem RFAt.alloc (h:RFAt o c w p R) (x:Obj):RFAt o c (w.alloc x) p R:=h.below_ ((Below.refl _ _).alloc (Nat.le_refl _) x)
theorem RFAt.of {R:RK} (h:RefAt o c w p R):RFAt o c w p (RF.of R):=by
 obtain ⟨lv,hb,hc,ho⟩:=h
 exact ⟨.slice none 0 0,⟨lv,hb,hc,ho⟩,OwnW.nil _ _ _ _ _⟩
theorem RFAt.moved {R2:RF} (h:OwnW o (c+2) w 3 1 kv R.keep.length (intcells R.keep)) (hk:R2.keep=R.keep) (h2:RefIn o' c w' p R2 kv) (hs:Step o (logL c) w o' w'):RFAt o' c w' p R2 :=
 ⟨kv,h2,by rw [hk];exact h.step hs (by unfold logL;omega)⟩
theorem rf_table (R:RF) (lv kv:Value) (k:Nat) (hk:k≤16):(R.cells lv kv)[3+k]? = some (.int .u64 (R.table k)):=by
 rcases k with _ | _ | _ | _ | _ | _ | _ | _ | _ | _ | _ | _ | _ | _ | _ | _ | _ | k <;> first | rfl | omega
theorem rf_word (R:RF) (lv kv:Value) (k:Nat) (hk:k≤16):(R.cells lv kv)[20+k]? = some (.int .u64 (R.words k)):=by
 rcases k with _ | _ | _ | _ | _ | _ | _ | _ | _ | _ | _ | _ | _ | _ | _ | _ | _ | k <;> first | rfl | omega
theorem rfnode_any (n:Int) (w:World):Calls Tryz.prog 93 #[.int .i64 n] w fun e w'=>e = .returned (.bool (nodeOk n))∧w=w':=refnode_any n w
theorem rfmay_any (h:RefIn o c w p R kv) (n:Int) (e:Nat):Calls Tryz.prog 95 #[.pointer (some ⟨p,0,none⟩), .int .i64 n, .int .u64 (e:Int)] w fun r w'=>r = .returned (.int .i64 (R.may n e))∧w=w':=by
 obtain ⟨lv,hb,_,_⟩:=h
 have x2:w.cell? ⟨p,2,none⟩=some (.bool R.off):=hb.cell 2
 have ht:∀k,k≤16→w.cell? ⟨p,3+k,none⟩=some (.int .u64 (R.table k:Int)):=fun k hk=>by rw [hb.cell,rf_table R lv kv k hk]
 have HT:=Lib.hid ht
 clear hb ht
 unfold RF.may
 generalize R.off=b at x2 ⊢
 cases b with
 | true =>
   go_enter Tryz.func95,Tryz.ntmps95
   go_wp2_with fail
   go_ret
   exact ⟨rfl,rfl⟩
 | false =>
   rw [if_neg (by decide)]
   by_cases hn:nodeOk n=false
   ·rw [if_pos hn]
    go_enter Tryz.func95,Tryz.ntmps95
    go_wp2_with fail
    refine (rfnode_any n w).mono ?_
    rintro r w1 ⟨rfl,rfl⟩
    rw [hn]
    go_wp2_with fail
    go_ret
    exact ⟨rfl,rfl⟩
   ·have hn2:nodeOk n=true:=by simpa using hn
    have hnn:0≤n∧n≤16:=of_decide_eq_true hn2
    obtain ⟨k,rfl⟩:∃k:Nat,n=k:=⟨n.toNat,by omega⟩
    have ct:=HT.out k (by omega)
    have hkI:(k:Int)<17:=by omega
    rw [if_neg hn,Int.toNat_natCast]
    by_cases h0:e=0
    ·rw [if_pos (.inl h0)]
     have h0I:(e:Int)=0:=by omega
     go_enter Tryz.func95,Tryz.ntmps95
     go_wp2_with fail
     refine (rfnode_any k w).mono ?_
     rintro r w1 ⟨rfl,rfl⟩
     rw [hn2]
     go_wp2_with fail
     go_ret
     exact ⟨rfl,rfl⟩
    ·have h0I:¬(e:Int)=0:=by omega
     by_cases he:e≠R.table k
     ·rw [if_pos (.inr he)]
      have heI:((e:Int) != (R.table k:Int))=true:=by simp;omega
      go_enter Tryz.func95,Tryz.ntmps95
      go_wp2_with fail
      refine (rfnode_any k w).mono ?_
      rintro r w1 ⟨rfl,rfl⟩
      rw [hn2]
      go_wp2_with fail
      go_ret
      exact ⟨rfl,rfl⟩
     ·have he2:e=R.table k:=by omega
      rw [if_neg (by omega)]
      rw [←he2] at ct
      go_enter Tryz.func95,Tryz.ntmps95
      go_wp2_with fail
      refine (rfnode_any k w).mono ?_
      rintro r w1 ⟨rfl,rfl⟩
      rw [hn2]
      go_wp2_with fail
      go_ret
      exact ⟨rfl,rfl⟩
theorem rfmay_zero (h:RefIn o c w p R kv) (k e:Nat) (hof:R.off=false) (hk:k≤16) (he:R.table k=e) (h0:e≠0):Calls Tryz.prog 95 #[.pointer (some ⟨p,0,none⟩), .int .i64 (k:Int), .int .u64 (e:Int)] w fun r w'=>r = .returned (.int .i64 0)∧w=w':=by
 have h1:=rfmay_any h (k:Int) e
 have h2:R.may (k:Int) e=0:=by
  unfold RF.may
  rw [if_neg (by rw [hof];decide),if_neg (by unfold nodeOk;simp;omega),if_neg (by rw [Int.toNat_natCast,he];simp [h0])]
 rw [h2] at h1
 exact h1
theorem RefIn.row (h:RefIn o c w p R kv):∃A cap,Hid (Blk w p 111 (R.cells (.slice A R.ws.length cap) kv))∧Hid (o p=c)∧Hid (OwnS o (c+1) w 142 4 (.slice A R.ws.length cap) R.ws.length (rwcells R.ws))∧w.cell? ⟨p,1,none⟩=some (.slice A R.ws.length cap)∧w.frozen? ⟨p,1,none⟩=false∧R.ws.length≤cap∧cap≤maxLen:=by
 obtain ⟨lv,hb,hc,ho⟩:=h
 obtain ⟨A,cap,rfl,h1,h2⟩:=own_form' ho
 exact ⟨A,cap,hb,hc,ho,hb.cell 1,hb.frozen 1,h1,h2⟩
set_option maxRecDepth 100000 in
set_option maxHeartbeats 4000000 in
theorem rfkeep_in (h:RefIn o c w p R kv) (k:Int) (hl:R.ws.length≤100000):Calls Tryz.prog 96 #[.pointer (some ⟨p,0,none⟩), .int .i64 k] w fun r w'=>r = .returned (.tuple #[])∧∃o',RefIn o' c w' p (R.settle k) kv∧Step o (logL c) w o' w':=by
 obtain ⟨A,cap,HB,HC,HO,x1,f1,hcap,hcm⟩:=h.row
 obtain ⟨i0,hi,hz0,hz1,hz2⟩:=info_parts info_rw
 have HL:=Lib.hid hl
 have hcmx:cap≤9223372036854775807:=by unfold maxLen at hcm;omega
 have HCM:=Lib.hid hcm
 clear h hcm
 go_enter Tryz.func96,Tryz.ntmps96
 go_wp2_with (at_builtin;refine wpList_append_S _ rfl (.const (.slice none 0 0)) (.tmp 9) 109 rfl 142 i0 _ 4 40 Tryz.underlying109 hi hz0 hz1 hz2 rfl (by omega) (.slice none 0 0) 0 [] rfl (OwnS.nil o (c+1) _ _ _) A R.ws.length cap (rwcells R.ws) rfl (Reads.of_own HO.out.1) (rw_one R.ws) (by unfold maxLen;omega) (by omega) ?_;intro v7 w7 hown7 hst7 hgr7 hat7;simp only [Nat.zero_add,List.nil_append] at hown7;obtain ⟨A7,cap7,rfl,hq1,hq2⟩:=own_form' hown7;have hb7:=HB.out.step hst7 (by rw [HC.out];unfold only;omega);have y1:w7.cell? ⟨p,1,none⟩=some (.slice A R.ws.length cap):=hb7.cell 1;have g1:=hb7.frozen 1;have HB7:=Lib.hid hb7;have HO7:=Lib.hid hown7;have HS7:=Lib.hid hst7;clear hown7 hst7 hgr7 hat7 hb7)
 obtain ⟨o7,ho7⟩:∃o7,band o w.heap.size w7.heap.size (c+1)=o7:=⟨_,rfl⟩
 rw [ho7] at HO7 HS7
 have hc7:o7 p=c:=(HS7.out.old p HB.out.lt).trans HC.out
 have hr7:RefIn o7 c (w7.setCell ⟨p,1,none⟩ (.slice A7 R.ws.length cap7)) p R kv:=⟨.slice A7 R.ws.length cap7,HB7.out.set_ 1 (.slice A7 R.ws.length cap7),hc7,HO7.out.setCell (p:=⟨p,1,none⟩) (own_blk_ne HO7.out HB7.out (by decide)) _⟩
 have HR7:=Lib.hid hr7
 have HS8:=Lib.hid ((HS7.out.mono (logL_ring c)).setCell (p:=⟨p,1,none⟩) (.inl hc7) (.slice A7 R.ws.length cap7))
 clear hr7 ho7 y1 g1 x1 f1
 generalize w7.setCell ⟨p,1,none⟩ (.slice A7 R.ws.length cap7)=W8 at HR7 HS8 ⊢
 go_loopw [4] (fun t4 wr=>∃j:Nat,j≤R.ws.length∧t4 = .int .i64 j∧RefIn o7 c wr p {R with ws:=keepTo k R.ws j} kv∧Step o (logL c) w o7 wr) (fun t4 _=>R.ws.length - (intOf t4).toNat)
 case atStart=>exact ⟨0,by omega,rfl,HR7.out,HS8.out⟩
 case round =>
  obtain ⟨j,hj,rfl,hr,hs⟩:=hrel
  obtain ⟨A9,cap9,HB9,HC9,HO9,x1,f1,hcap9,hcm9⟩:=hr.row
  have HRR:=Lib.hid hr
  have HSS:=Lib.hid hs
  clear hr hs
  simp only [keepTo_len] at HO9 HB9 x1 hcap9
  have hcm9':cap9≤9223372036854775807:=by unfold maxLen at hcm9;omega
  have HCM9:=Lib.hid hcm9
  clear hcm9
  by_cases hlt:j<R.ws.length
  ·have hltI:(j:Int)<(R.ws.length:Int):=by omega
   have HJL:=Lib.hid hlt
   have hlI:(R.ws.length:Int)≤100000:=by have:=HL.out;omega
   obtain ⟨x,hx⟩:∃x,R.ws[j]? = some x:=⟨_,List.getElem?_eq_getElem hlt⟩
   have hx2:=(keepTo_get (k:=k) hlt).trans hx
   obtain ⟨g,cur,rfl,hb,hg,_,hcm2,hsz,htk⟩:=HO9.out.blk (by omega)
   have hc0:=rw_get hx2
   have y0:=blk_row (m:=R.ws.length*4) hb htk (by omega) hc0.1
   have y3:=blk_row (m:=R.ws.length*4) hb htk (by omega) hc0.2
   have g3:=hb.frozen (j*4+3)
   have HBB:=Lib.hid hb
   have HGG:=Lib.hid hg
   have HSZ:=Lib.hid hsz
   have HTK:=Lib.hid htk
   have HKS:=Lib.hid (keepTo_succ (k:=k) hx)
   have HX2:=Lib.hid hx2
   clear hb hg hsz htk hx hx2 hcm2 hc0
   by_cases hk:x.node=k
   ·have HK2:=Lib.hid (show keepTo k R.ws (j+1)=(keepTo k R.ws j).set j {x with lasts:=true} by rw [HKS.out];unfold RW.keep;rw [if_pos hk])
    have hgp:g≠p:=HBB.out.ne_ HB9.out (by decide)
    go_wp2_with fail
    go_roundw
    case rel =>
     refine ⟨j+1,by have:=HJL.out;omega,by go_num,⟨_,HB9.out.far (p:=⟨g,j*4+3,none⟩) hgp.symm (.bool true),HC9.out,?_⟩,HSS.out.setCell (p:=⟨g,j*4+3,none⟩) (.inr HGG.out) (.bool true)⟩
     have hl2:(keepTo k R.ws (j+1)).length=R.ws.length:=keepTo_len _ _ _
     show OwnS _ _ _ _ _ _ (keepTo k R.ws (j+1)).length (rwcells (keepTo k R.ws (j+1)))
     rw [hl2,HK2.out,←rw_set HX2.out,←HTK.out]
     exact OwnS.of_blk (HBB.out.set_ (j*4+3) (.bool true)) HGG.out hcap9 HCM9.out (by simp [HSZ.out]) (by simp [List.take_set])
    case measure=>have:=HJL.out;simp [intOf];omega
   ·have HK2:=Lib.hid (show keepTo k R.ws (j+1)=keepTo k R.ws j by rw [HKS.out];unfold RW.keep;rw [if_neg hk];exact set_self HX2.out)
    go_wp2_with fail
    go_roundw
    case rel=>exact ⟨j+1,by have:=HJL.out;omega,by go_num,by rw [HK2.out];exact HRR.out,HSS.out⟩
    case measure=>have:=HJL.out;simp [intOf];omega
  ·have hltI:¬(j:Int)<(R.ws.length:Int):=by omega
   obtain rfl:j=R.ws.length:=by omega
   rw [keepTo_all] at HRR
   go_wp2_with fail
   go_end0
   exact ⟨rfl,o7,HRR.out,HSS.out⟩
def RF.wrote (R:RF) (n at_:Int) (data:ByteArray) (m:Nat):RF := {R with ws:=R.ws++rwsN n at_ data m}
end
theorem Reads.rwrow {w:World} {A:Option Addr} {l:List RW} (h:Reads w 4 A l.length (rwcells l)) {k:Nat} {y:RW} (hy:l[k]? = some y) :
 ∃ad,A=some ad∧w.cell? (ad.add (k*4))=some (.int .i64 y.node)∧w.cell? ⟨(ad.add (k*4)).block,(ad.add (k*4)).off+1,none⟩=some (.int .i64 y.at_)∧w.cell? ⟨(ad.add (k*4)).block,(ad.add (k*4)).off+2,none⟩=some (.string y.data)∧w.cell? ⟨(ad.add (k*4)).block,(ad.add (k*4)).off+3,none⟩=some (.bool y.lasts):=by
 obtain ⟨ad,rfl,hc⟩:=Reads.row (f:=RW.cells) (fun _=>rfl) h hy
 exact ⟨ad,rfl,hc 0 _ rfl,hc 1 _ rfl,hc 2 _ rfl,hc 3 _ rfl⟩
section
variable {o:Nat→Nat} {c p:Nat} {w:World} {R:RF} {kv:Value}
theorem round_up {i m:Nat} (h:i<m) (hi:i≤1000000):wrap64 ((i:Int)+1)=((i+1:Nat):Int)∧m - (intOf (.int .i64 (wrap64 ((i:Int)+1)))).toNat<m - (intOf (.int .i64 (i:Int))).toNat:=by
 have e:wrap64 ((i:Int)+1)=((i+1:Nat):Int):=by rw [IntWalk.wrap64_in _ (by omega)];omega
 refine ⟨e,?_⟩
 rw [e]
 simp only [intOf,Int.toNat_natCast]
 omega
end
def RF.admit8 (R:RF) (n:Int) (e:Nat):Int×RF:=if R.off=true then (14,R) else if nodeOk n=false then (1,R) else if e≤R.last then (8,R) else if R.spend.1≠0 then (14,R.spend.2) else (0,{R.spend.2 with table:=fun j=>if j=n.toNat then e else R.spend.2.table j,last:=e})
def RF.arm (R:RF) (n:Int) (keep:List Int):RF := {R with armed:=decide (0≤n),left:=n,keep:=keep}
def RF.restore (R:RF):RF := {R with off:=false}
def hid1 (x:RW) (l:List RW):Bool:=x.lasts && l.any (fun y=>decide (y.at_=x.at_) && y.lasts)
def trimW : List RW→List RW
 | [] => []
 | x :: l=>if hid1 x l=true then trimW l else x :: trimW l
def RF.trim (R:RF):RF := {R with ws:=trimW R.ws}
theorem trimW_le : ∀l:List RW,(trimW l).length≤l.length
 | []=>Nat.le_refl _
 | x :: l=>by
   have:=trimW_le l
   unfold trimW
   split
   ·rw [List.length_cons];omega
   ·rw [List.length_cons,List.length_cons];omega
theorem lst_drop {P:RW×Nat→Bool} {A B:List (RW×Nat)} {x y:RW×Nat} (hy:y∈B) (hat:y.1.at_=x.1.at_) (hP:P y=true) (k:Int):lst P (A++x :: B) k=lst P (A++B) k:=by
 unfold lst
 rw [List.filter_append,List.filter_append]
 by_cases hk:x.1.at_=k
 ·have hm:y∈B.filter (fun z=>decide (z.1.at_=k) && P z):=List.mem_filter.2 ⟨hy,by simp [hat,hk,hP]⟩
  obtain ⟨z,hz⟩:∃z,(B.filter (fun z=>decide (z.1.at_=k) && P z)).getLast? = some z:=by
   cases hB:(B.filter (fun z=>decide (z.1.at_=k) && P z)) with
   | nil=>rw [hB] at hm;cases hm
   | cons b t=>exact ⟨_,List.getLast?_eq_some_getLast (by simp)⟩
  rw [List.getLast?_append,List.getLast?_append,List.filter_cons]
  split
  ·rw [List.getLast?_cons,hz]
   rfl
  ·rfl
 ·rw [List.filter_cons_of_neg (by simp [hk])]
section
variable {D:Dk} {R:RF}
theorem Rows.drop1 {A B:List RW} {x:RW} {L:List (RW×Nat)} (h:Rows D (A++x :: B) L) (hx:x.lasts=true) (hy:∃y∈B,y.at_=x.at_∧y.lasts=true):∃L',Rows D (A++B) L':=by
 have hr:=h.rows
 obtain ⟨LA,L2,e,hA,h2⟩:=List.map_eq_append_iff.1 hr
 obtain ⟨lx,LB,e2,hx2,hB⟩:=List.map_eq_cons_iff.1 h2
 subst e2
 subst e
 obtain ⟨y,hyB,hya,hyl⟩:=hy
 rw [←hB] at hyB
 obtain ⟨ly,hly,ely⟩:=List.mem_map.1 hyB
 have hsub:(LA++LB).Sublist (LA++lx :: LB):=List.Sublist.append (List.Sublist.refl _) (List.sublist_cons_self _ _)
 refine ⟨LA++LB,?_,h.rise.sublist hsub,fun z hz=>h.bound z (hsub.subset hz),?_,fun k => ?_,fun k => ?_⟩
 ·rw [List.map_append,hA,hB]
 ·rw [h.waits,List.filter_append,List.filter_append,List.filter_cons_of_neg (by rw [hx2,hx];decide)]
 ·rw [h.now,lst_drop hly (by rw [ely,hya,hx2]) rfl]
 ·rw [h.lasts,lst_drop hly (by rw [ely,hya,hx2]) (by rw [ely];exact hyl)]
theorem Rows.trim : ∀(B A:List RW) (L:List (RW×Nat)),Rows D (A++B) L→∃L',Rows D (A++trimW B) L'
 | [],A,L,h=>⟨L,h⟩
 | x :: B,A,L,h=>by
   unfold trimW
   by_cases hh:hid1 x B=true
   ·rw [if_pos hh]
    unfold hid1 at hh
    rw [Bool.and_eq_true,List.any_eq_true] at hh
    obtain ⟨hx,y,hy,hy2⟩:=hh
    rw [Bool.and_eq_true,decide_eq_true_eq] at hy2
    obtain ⟨L1,h1⟩:=h.drop1 hx ⟨y,hy,hy2⟩
    exact Rows.trim B A L1 h1
   ·rw [if_neg hh]
    have h1:Rows D ((A ++ [x])++B) L:=by rw [List.append_assoc];exact h
    obtain ⟨L2,h2⟩:=Rows.trim B (A ++ [x]) L h1
    rw [List.append_assoc] at h2
    exact ⟨L2,h2⟩
theorem Sim.trim (h:Sim D R):Sim D R.trim:=by
 obtain ⟨G,L,hG,hr⟩:=h.rows
 obtain ⟨L2,h2⟩:=hr.trim
 exact ⟨h.room,h.on,h.table,h.words,h.last,h.armed,h.left,G,L2,hG,h2⟩
theorem Sim.restore (h:Sim D R):Sim D.restore R.restore:=by
 obtain ⟨G,L,hG,hr⟩:=h.rows
 exact ⟨h.room,rfl,h.table,h.words,h.last,h.armed,h.left,G,L,hG,hr.rows,hr.rise,hr.bound,hr.waits,hr.now,hr.lasts⟩
theorem Sim.arm (h:Sim D R) (n:Int) (keep:List Int):Sim (D.arm n keep) (R.arm n keep):=by
 obtain ⟨G,L,hG,hr⟩:=h.rows
 exact ⟨h.room,h.on,h.table,h.words,h.last,rfl,fun ha=>⟨rfl,rfl,of_decide_eq_true ha⟩,G,L,hG,hr.rows,hr.rise,hr.bound,hr.waits,hr.now,hr.lasts⟩
theorem Sim.admit (h:Sim D R) (hl:R.leftOk) (n:Int) (e:Nat):(D.admit n e).1=(R.admit8 n e).1∧Sim (D.admit n e).2 (R.admit8 n e).2:=by
 unfold Dk.admit RF.admit8
 rw [h.may]
 by_cases ho:R.off=true
 ·rw [if_pos ho,if_pos ho,if_pos (by decide)]
  exact ⟨rfl,h⟩
 rw [if_neg ho,if_neg ho]
 by_cases hn:nodeOk n=false
 ·rw [if_pos hn,if_pos hn,if_pos (by decide)]
  exact ⟨rfl,h⟩
 rw [if_neg hn,if_neg hn,if_neg (by decide),h.last]
 by_cases he:e≤R.last
 ·rw [if_pos he,if_pos he]
  exact ⟨rfl,h⟩
 rw [if_neg he,if_neg he]
 obtain ⟨hg,hs⟩:=h.goes hl
 rcases hg with ⟨g1,g2⟩ | ⟨g1,g2⟩
 ·rw [if_pos g1,if_pos (show ¬R.spend.1=0 by rw [g2];decide)]
  exact ⟨rfl,hs⟩
 ·rw [if_neg (show ¬D.goes.1=true by rw [g1];decide),if_neg (show ¬ ¬R.spend.1=0 from fun x=>x g2)]
  obtain ⟨G,L,hG,hr⟩:=hs.rows
  exact ⟨rfl,hs.room,hs.on,by rw [hs.table],hs.words,rfl,hs.armed,hs.left,G,L,hG,hr.rows,hr.rise,hr.bound,hr.waits,hr.now,hr.lasts⟩
theorem Sim.put (h:Sim D R) (hl:R.leftOk) (n:Int) (v:Nat):(D.put n v).1=(R.put n v).1∧Sim (D.put n v).2 (R.put n v).2:=by
 unfold Dk.put RF.put
 rw [h.may]
 by_cases ho:R.off=true
 ·rw [if_pos ho,if_pos ho,if_pos (by decide)]
  exact ⟨rfl,h⟩
 rw [if_neg ho,if_neg ho]
 by_cases hn:nodeOk n=false
 ·rw [if_pos hn,if_pos hn,if_pos (by decide)]
  exact ⟨rfl,h⟩
 rw [if_neg hn,if_neg hn,if_neg (by decide)]
 obtain ⟨hg,hs⟩:=h.goes hl
 rcases hg with ⟨g1,g2⟩ | ⟨g1,g2⟩
 ·rw [if_pos g1,if_pos (show ¬R.spend.1=0 by rw [g2];decide)]
  exact ⟨rfl,hs⟩
 ·rw [if_neg (show ¬D.goes.1=true by rw [g1];decide),if_neg (show ¬ ¬R.spend.1=0 from fun x=>x g2)]
  obtain ⟨G,L,hG,hr⟩:=hs.rows
  exact ⟨rfl,hs.room,hs.on,hs.table,by rw [hs.words],hs.last,hs.armed,hs.left,G,L,hG,hr.rows,hr.rise,hr.bound,hr.waits,hr.now,hr.lasts⟩
theorem Sim.fence (h:Sim D R) (hl:R.leftOk) (n:Int):(D.fence n).1=(R.fence n).1∧Sim (D.fence n).2 (R.fence n).2:=by
 unfold Dk.fence RF.fence
 rw [h.may]
 by_cases ho:R.off=true
 ·rw [if_pos ho,if_pos ho,if_pos (by decide)]
  exact ⟨rfl,h⟩
 rw [if_neg ho,if_neg ho]
 by_cases hn:nodeOk n=false
 ·rw [if_pos hn,if_pos hn,if_pos (by decide)]
  exact ⟨rfl,h⟩
 rw [if_neg hn,if_neg hn,if_neg (by decide)]
 obtain ⟨hg,hs⟩:=h.goes hl
 rcases hg with ⟨g1,g2⟩ | ⟨g1,g2⟩
 ·rw [if_pos g1,if_pos (show ¬R.spend.1=0 by rw [g2];decide)]
  exact ⟨rfl,hs⟩
 ·rw [if_neg (show ¬D.goes.1=true by rw [g1];decide),if_neg (show ¬ ¬R.spend.1=0 from fun x=>x g2)]
  have hq:=hs.settle n
  obtain ⟨G,L,hG,hr⟩:=hq.rows
  exact ⟨rfl,hq.room,hq.on,by rw [hs.table],hq.words,hq.last,hq.armed,hq.left,G,L,hG,hr.rows,hr.rise,hr.bound,hr.waits,hr.now,hr.lasts⟩
end
end Go.Proofs.YtldoeodkeieejaaGreatDoor
