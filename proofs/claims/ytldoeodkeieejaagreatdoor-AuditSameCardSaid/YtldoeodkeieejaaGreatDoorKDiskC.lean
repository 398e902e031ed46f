import Derived.Test.YtldoeodkeieejaaGreatDoorKCutA
import Derived.Deep.CutRange
namespace Go.Proofs.YtldoeodkeieejaaGreatDoor
open Go.RowKit
def bitI (n:Int):Int:=bits BinOp.and IntKind.i64 n 1
def stayB (keep:List Int) (k:Nat):Bool:=decide (k<keep.length) && decide (bitI (keep.getD k 0)=1)
def Dk.cutN (D:Dk) (keep:List Int):Nat→Dk
 | 0=>D
 | k+1=>match D.waits[k]? with
   | some x=>if stayB keep k=true then (D.cutN keep k).keep x else D.cutN keep k
   | none=>D.cutN keep k
def Dk.off (E:Dk):Dk := {E with on:=false,now:=fun k=>(E.lasts k).map (fun x:Ws=>x.data),waits := []}
def Dk.cut (D:Dk) (keep:List Int):Nat×Dk:=if D.on=false then (0,D.arm (-1) []) else (D.waits.length,((D.arm (-1) []).cutN keep D.waits.length).off)
def cutC (c:Nat):Nat→Prop:=fun x=>x=c∨x=c+1∨x=c+2∨x=c+5
theorem cutN_waits (D:Dk) (keep:List Int) (k:Nat):(D.cutN keep k).waits=D.waits:=by
 induction k with
 | zero=>rfl
 | succ k ih =>
   unfold Dk.cutN
   split
   ·split
    ·rw [keep_waits,ih]
    ·exact ih
   ·exact ih
theorem cutN_succ {D:Dk} {keep:List Int} {k:Nat} {x:Ws} (h:D.waits[k]? = some x):D.cutN keep (k+1)=if stayB keep k=true then (D.cutN keep k).keep x else D.cutN keep k:=by
 show (match D.waits[k]? with | some x=>_ | none=>_)=_
 rw [h]
def nowP (E:Dk) (left:Int→Bool):Int→Option ByteArray:=fun k=>if left k=true then none else (E.lasts k).map (fun x:Ws=>x.data)
def Dk.withNow (E:Dk) (f:Int→Option ByteArray) (l:List Ws):Dk := {E with on:=false,now:=f,waits:=l}
def Dk.part (E:Dk) (left:Int→Bool):Dk:=E.withNow (nowP E left) E.waits
theorem part_next {E:Dk} {left:Int→Bool} {k:Int} {x:Ws} (h:E.lasts k=some x):({E.part left with now:=upd (E.part left).now k x.data}:Dk)=E.part (fun j=>left j && decide (j≠k)):=by
 show E.withNow (upd (nowP E left) k x.data) E.waits=E.withNow (nowP E _) E.waits
 congr 1
 funext j
 unfold upd nowP
 by_cases hj:j=k
 ·subst hj
  simp [h]
 ·simp [hj]
theorem part_end {E:Dk} {left:Int→Bool} (h:∀k,left k=true→(E.lasts k).map Ws.agg=none):({E.part left with waits := []}:Dk)=E.off:=by
 show E.withNow (nowP E left) []=E.withNow (fun k=>(E.lasts k).map (fun x:Ws=>x.data)) []
 congr 1
 funext k
 unfold nowP
 by_cases hk:left k=true
 ·rw [if_pos hk]
  have:=h k hk
  cases hl:E.lasts k with
  | none=>rfl
  | some x=>rw [hl] at this;cases this
 ·rw [if_neg hk]
theorem Reads.int {w:World} {A:Option Addr} {l:List Int} (h:Reads w 1 A l.length (intcells l)) {k:Nat} (hk:k<l.length):∃ad,A=some ad∧w.cell? (ad.add k)=some (.int .i64 (l.getD k 0)):=by
 obtain ⟨ad,rfl,hc⟩:=h.2 (by omega)
 exact ⟨ad,rfl,hc k _ (intcells_get hk)⟩
set_option maxRecDepth 100000 in
set_option maxHeartbeats 8000000 in
theorem dcut_any {o:Nat→Nat} {c p:Nat} {w:World} {D:Dk} (h:DiskAt o c w p D) (keep:List Int) (A:Option Addr) (cap:Nat) (hK:∀o' w',Step o (cutC c) w o' w'→Reads w' 1 A keep.length (intcells keep)) (hk:keep.length≤maxLen) :
 Calls Tryz.prog 97 #[.pointer (some ⟨p,0,none⟩), .slice A keep.length cap] w fun e w'=>e = .returned (.int .i64 (D.cut keep).1)∧∃o',DiskAt o' c w' p (D.cut keep).2∧Step o (cutC c) w o' w':=by
 have H:=Lib.hid h
 have HK:=Lib.hid hK
 have HKL:=Lib.hid hk
 clear h hK hk
 go_enter Tryz.func97,Tryz.ntmps97
 go_wp2_with fail
 refine (darm_any H.out (-1) [] none 0 (Reads.none_ _ _ _) (by simp)).mono ?_
 rintro e w1 ⟨rfl,o1,hd,hs⟩
 have HD1:=Lib.hid hd
 have HS1:=Lib.hid (hs.mono (fun y hy=>by unfold only at hy;unfold cutC;omega:∀y,only c y→cutC c y))
 clear hd hs H
 go_wp2_with fail
 refine (don_any HD1.out).mono ?_
 rintro e w2 ⟨rfl,rfl⟩
 obtain ⟨b,hb⟩:∃b,D.on=b:=⟨_,rfl⟩
 have hb':(D.arm (-1) []).on=b:=hb
 rw [hb']
 cases b with
 | false =>
   have HC:=Lib.hid (show D.cut keep=(0,D.arm (-1) []) from if_pos hb)
   clear hb hb'
   go_wp2_with fail
   go_ret
   rw [HC.out]
   exact ⟨rfl,o1,HD1.out,HS1.out⟩
 | true =>
   have HC:=Lib.hid (show D.cut keep=(D.waits.length,((D.arm (-1) []).cutN keep D.waits.length).off) from if_neg (by rw [hb];decide))
   have hwe:(D.arm (-1) []).waits=D.waits:=rfl
   generalize D.arm (-1) []=E0 at HD1 HC hwe
   rw [←hwe] at HC
   clear hb hb' hwe
   obtain ⟨mn,ml,wv,sv,hd⟩:=HD1.out
   obtain ⟨A5,cap5,rfl,hc5,hm5⟩:=hd.waits.form
   have c5:w1.cell? ⟨p,5,none⟩=some (.slice A5 E0.waits.length cap5):=hd.blk.cell 5
   have HD2:=Lib.hid hd
   obtain ⟨N,hN⟩:∃N,E0.waits.length=N:=⟨_,rfl⟩
   have HN:=Lib.hid hN
   have hNI:(N:Int)≤9223372036854775807:=by unfold maxLen at hm5;omega
   rw [hN] at c5
   clear hd hN HD1 hc5
   go_wp2_with fail
   clear c5
   go_loopw [21] (fun t21 wr=>∃(k:Nat) (o2:Nat→Nat),k≤N∧t21 = .int .i64 k∧DiskIn o2 c wr p (E0.cutN keep k) mn ml (.slice A5 E0.waits.length cap5) sv∧Step o (cutC c) w o2 wr) (fun t21 _=>N - (intOf t21).toNat)
   case atStart=>exact ⟨0,o1,by omega,rfl,HD2.out,HS1.out⟩
   case round =>
    obtain ⟨k,o2,hkn,rfl,hd,hs⟩:=hrel
    have HDr:=Lib.hid hd
    have HSr:=Lib.hid hs
    clear hd hs HD2 HS1
    by_cases hlt:k<N
    ·have hltI:(k:Int)<(N:Int):=by omega
     obtain ⟨x,hx⟩:∃x,E0.waits[k]? = some x:=⟨_,List.getElem?_eq_getElem (by rw [HN.out];exact hlt)⟩
     have HX:=Lib.hid (cutN_succ (keep:=keep) hx)
     have hrow:Reads wr 4 A5 E0.waits.length (E0.waits.flatMap Ws.cells):=by
      have:=HDr.out.waits
      rw [cutN_waits] at this
      exact OwnW.reads this
     obtain ⟨ad,rfl,y0,y1,y2,y3⟩:=hrow.wrow hx
     have HB:=Lib.hid (Blk.new wr 153 #[.int .i64 x.node, .int .i64 x.at_, .int .i64 x.seq, .string x.data])
     have HD3:=Lib.hid (HDr.out.step ((Step.refl o2 (fun _=>False) wr).alloc (.cells #[.int .i64 x.node, .int .i64 x.at_, .int .i64 x.seq, .string x.data] 153)) (fun _ _ _=>id))
     have HS3:=Lib.hid (HSr.out.alloc (.cells #[.int .i64 x.node, .int .i64 x.at_, .int .i64 x.seq, .string x.data] 153))
     clear hrow hx
     go_upto_region 8 with (fail)
     generalize wr.alloc (.cells #[.int .i64 x.node, .int .i64 x.at_, .int .i64 x.seq, .string x.data] 153)=W at HB HD3 HS3 ⊢
     generalize wr.heap.size=X at HB ⊢
     clear y0 y1 y2 y3
     have z0:W.cell? ⟨X,0,none⟩=some (.int .i64 x.node):=HB.out.cell 0
     have z1:W.cell? ⟨X,1,none⟩=some (.int .i64 x.at_):=HB.out.cell 1
     have z2:W.cell? ⟨X,2,none⟩=some (.int .i64 x.seq):=HB.out.cell 2
     have z3:W.cell? ⟨X,3,none⟩=some (.string x.data):=HB.out.cell 3
     by_cases hkk:k<keep.length
     ·have hkI:(k:Int)<(keep.length:Int):=by omega
      obtain ⟨ak,rfl,ck⟩:=(HK.out _ _ HS3.out).int hkk
      obtain ⟨bt,hbt⟩:∃bt,keep.getD k 0=bt:=⟨_,rfl⟩
      rw [hbt] at ck
      by_cases hb1:bits BinOp.and IntKind.i64 bt 1=1
      ·have HS:=Lib.hid (show stayB keep k=true by unfold stayB bitI;rw [hbt,hb1];simp [hkk])
       have hbB:(bits BinOp.and IntKind.i64 bt 1 == 1)=true:=by rw [hb1];rfl
       clear hbt
       go_upto_region 9 with (fail)
       clear ck hb1 hbB
       go_wp2_with fail
       refine (dkeep_in HD3.out x).mono ?_
       rintro e w4 ⟨rfl,hd,hs⟩
       have HD4:=Lib.hid (show DiskIn o2 c w4 p (E0.cutN keep (k+1)) mn ml (.slice (some ad) E0.waits.length cap5) sv by rw [HX.out,if_pos HS.out];exact hd)
       have HS4:=Lib.hid (HS3.out.trans (hs.mono (fun y hy=>by unfold only at hy;unfold cutC;omega:∀y,only (c+2) y→cutC c y)))
       clear hd hs z0 z1 z2 z3
       go_wp2_with fail
       go_roundw
       case rel=>exact ⟨k+1,o2,by omega,by go_num,HD4.out,HS4.out⟩
       case measure=>simp [intOf];omega
      ·have HS:=Lib.hid (show ¬stayB keep k=true by unfold stayB bitI;rw [hbt];simp [hb1])
       have hbB:(bits BinOp.and IntKind.i64 bt 1 == 1)=false:=by simp [hb1]
       have HD4:=Lib.hid (show DiskIn o2 c W p (E0.cutN keep (k+1)) mn ml (.slice (some ad) E0.waits.length cap5) sv by rw [HX.out,if_neg HS.out];exact HD3.out)
       clear hbt z0 z1 z2 z3
       go_wp2_with fail
       go_roundw
       case rel=>exact ⟨k+1,o2,by omega,by go_num,HD4.out,HS3.out⟩
       case measure=>simp [intOf];omega
     ·have hkI:¬(k:Int)<(keep.length:Int):=by omega
      have HS:=Lib.hid (show ¬stayB keep k=true by unfold stayB;simp [hkk])
      have HD4:=Lib.hid (show DiskIn o2 c W p (E0.cutN keep (k+1)) mn ml (.slice (some ad) E0.waits.length cap5) sv by rw [HX.out,if_neg HS.out];exact HD3.out)
      clear z0 z1 z2 z3
      go_wp2_with fail
      go_roundw
      case rel=>exact ⟨k+1,o2,by omega,by go_num,HD4.out,HS3.out⟩
      case measure=>simp [intOf];omega
    ·have hltI:¬(k:Int)<(N:Int):=by omega
     obtain rfl:k=N:=by omega
     have HC2:=Lib.hid (show D.cut keep=(k,(E0.cutN keep k).off) by rw [HC.out,HN.out])
     have hwk:=cutN_waits E0 keep k
     generalize E0.cutN keep k=E1 at HDr HC2 hwk
     rw [HN.out] at HDr
     have hmm := @run_makeMap Tryz.prog
     obtain ⟨o3,h03,hs3⟩:=alloc_as o2 wr (.map #[] 0) (c+1)
     have hd3:=HDr.out.step hs3 (fun _ _ _=>id)
     have hm3:MapR o3 (c+1) (wr.alloc (.map #[] 0)) wr.heap.size (fun _=>none):=MapR.newAs o3 wr (c+1) h03
     have x1:(wr.alloc (.map #[] 0)).cell? ⟨p,1,none⟩=some (.bool E1.on):=hd3.blk.cell 1
     have x3:(wr.alloc (.map #[] 0)).cell? ⟨p,3,none⟩=some (.map (some mn)):=hd3.blk.cell 3
     have f1:=hd3.blk.frozen 1
     have f3:=hd3.blk.frozen 3
     go_upto_region 12 with (fail)
     have hs4:Step o3 (only c) (wr.alloc (.map #[] 0)) o3 (((wr.alloc (.map #[] 0)).setCell ⟨p,1,none⟩ (.bool false)).setCell ⟨p,3,none⟩ (.map (some wr.heap.size))):=((Step.refl o3 (only c) _).setCell (p:=⟨p,1,none⟩) hd3.col _).setCell (p:=⟨p,3,none⟩) hd3.col _
     have HD4:=Lib.hid (show DiskIn o3 c (((wr.alloc (.map #[] 0)).setCell ⟨p,1,none⟩ (.bool false)).setCell ⟨p,3,none⟩ (.map (some wr.heap.size))) p (E1.part (fun _=>true)) wr.heap.size ml (.slice A5 k cap5) sv from
      ⟨(hd3.blk.set_ 1 _).set_ 3 _,hd3.col,hm3.step hs4 (by unfold only;omega),hd3.lasts.step hs4 (by unfold only;omega),hd3.waits.step hs4 (by unfold only;omega),hd3.stays.step hs4 (by unfold only;omega)⟩)
     have HS4:=Lib.hid ((HSr.out.trans (hs3.mono (fun _ h=>h.elim))).trans (hs4.mono (fun y hy=>by unfold only at hy;unfold cutC;omega:∀y,only c y→cutC c y)))
     clear hs3 hs4 hd3 hm3 x1 x3 f1 f3 hmm h03
     generalize ((wr.alloc (.map #[] 0)).setCell ⟨p,1,none⟩ (.bool false)).setCell ⟨p,3,none⟩ (.map (some wr.heap.size))=W4 at HD4 HS4 ⊢
     generalize wr.heap.size=M at HD4 ⊢
     obtain ⟨ob,n0,o5,hrng,hit,hs5⟩:=IterR.start (P:=Tryz.prog) HD4.out.lasts Tryz.underlying77 (c+5)
     have HIT:=Lib.hid hit
     have HD5:=Lib.hid (HD4.out.step hs5 (fun _ _ _=>id))
     have HS5:=Lib.hid (HS4.out.trans (hs5.mono (fun _ h=>h.elim)))
     have c4:W4.cell? ⟨p,4,none⟩=some (.map (some ml)):=HD4.out.blk.cell 4
     clear hit hs5
     go_wp2_with fail
     generalize W4.alloc ob=W5 at HIT HD5 HS5 hrng ⊢
     generalize W4.heap.size=R at HIT hrng ⊢
     clear c4 hrng
     go_loopg [8] n0 (fun n _ w5=>∃(left:Int→Bool) (o6:Nat→Nat),DiskIn o6 c w5 p (E1.part left) M ml (.slice A5 k cap5) sv∧IterR o6 (c+5) w5 R ml (fun j=>(E1.lasts j).map Ws.agg) left n∧Step o (cutC c) w o6 w5)
     case atStart=>exact ⟨_,o5,HD5.out,HIT.out,HS5.out⟩
     case round =>
      obtain ⟨left,o6,hd,hit,hs⟩:=hrel
      have HDr:=Lib.hid hd
      have HSr2:=Lib.hid hs
      have HIr:=Lib.hid hit
      clear hd hs hit HD5 HS5 HIT
      rcases HIr.out.next (P:=Tryz.prog) with ⟨hdone,hrun⟩ | ⟨q,v,w5,n1,hfk,hlk,hrun,hit5,hlt5,hs5,hent⟩
      ·have HE:=Lib.hid (part_end (E:=E1) (left:=left) hdone)
       have y5:wr.cell? ⟨p,5,none⟩=some (.slice A5 k cap5):=HDr.out.blk.cell 5
       have f5:=HDr.out.blk.frozen 5
       have hs6:Step o6 (only c) wr o6 (wr.setCell ⟨p,5,none⟩ (.slice none 0 0)):=(Step.refl o6 (only c) _).setCell (p:=⟨p,5,none⟩) HDr.out.col _
       have HD6:=Lib.hid (show DiskIn o6 c (wr.setCell ⟨p,5,none⟩ (.slice none 0 0)) p E1.off M ml (.slice none 0 0) sv by
        rw [←HE.out]
        exact ⟨HDr.out.blk.set_ 5 _,HDr.out.col,HDr.out.now.step hs6 (by unfold only;omega),HDr.out.lasts.step hs6 (by unfold only;omega),OwnW.nil _ _ _ _ _,HDr.out.stays.step hs6 (by unfold only;omega)⟩)
       have HS6:=Lib.hid (HSr2.out.trans (hs6.mono (fun y hy=>by unfold only at hy;unfold cutC;omega:∀y,only c y→cutC c y)))
       clear hs6 hdone
       go_wp2_with fail
       go_ret
       rw [HC2.out]
       exact ⟨rfl,o6,⟨M,ml,_,sv,HD6.out⟩,HS6.out⟩
      ·obtain ⟨x,hx,rfl⟩:∃x,E1.lasts q=some x∧v=x.agg:=by
        cases hl:E1.lasts q with
        | none=>simp [hl] at hfk
        | some x=>simp [hl] at hfk;exact ⟨x,rfl,hfk.symm⟩
       unfold Ws.agg at hrun hent
       have HPN:=Lib.hid (part_next (left:=left) hx)
       have hd5:=HDr.out.step hs5 (fun y h1 h2=>by unfold only;omega)
       obtain ⟨o7,h07,hs7⟩:=alloc_as o6 w5 (.cells #[.int .i64 x.node, .int .i64 x.at_, .int .i64 x.seq, .string x.data] 153) 0
       have hd7:=hd5.step hs7 (fun _ _ _=>id)
       have HI7:=Lib.hid (hit5.step hs7 id id)
       have HS7:=Lib.hid ((HSr2.out.trans (hs5.mono (fun y hy=>by unfold only at hy;unfold cutC;omega:∀y,only (c+5) y→cutC c y))).trans (hs7.mono (fun _ h=>h.elim)))
       have hb7:=Blk.new w5 153 #[.int .i64 x.node, .int .i64 x.at_, .int .i64 x.seq, .string x.data]
       obtain ⟨w8,hupd,hd8,hs8,hbk8⟩:=hd7.drew.now_put q x.data
       rw [HPN.out] at hd8
       have x8:=hbk8 _ _ _ hb7
       have c3:(w5.alloc (.cells #[.int .i64 x.node, .int .i64 x.at_, .int .i64 x.seq, .string x.data] 153)).cell? ⟨p,3,none⟩=some (.map (some M)):=hd7.blk.cell 3
       have z3:w8.cell? ⟨p,3,none⟩=some (.map (some M)):=hd8.blk.cell 3
       have b3:(w5.alloc (.cells #[.int .i64 x.node, .int .i64 x.at_, .int .i64 x.seq, .string x.data] 153)).cell? ⟨w5.heap.size,3,none⟩=some (.string x.data):=hb7.cell 3
       have e3:w8.cell? ⟨w5.heap.size,3,none⟩=some (.string x.data):=x8.cell 3
       have HD8:=Lib.hid hd8
       have HI8:=Lib.hid (HI7.out.step (Step.of_drew hs8) (by unfold only;omega) (by rw [hd7.lasts.1];unfold only;omega))
       have HS8:=Lib.hid (HS7.out.trans ((Step.of_drew hs8).mono (fun y hy=>by unfold only at hy;unfold cutC;omega:∀y,only (c+1) y→cutC c y)))
       clear hd5 hs7 hd7 hb7 hd8 hs8 hbk8 x8 hs5 hit5 h07 hx hfk hlk
       go_upto_region 15 with (fail)
       go_region_held3 (fun w'=>w'.cell? ⟨p,3,none⟩=some (.map (some M))∧w'.cell? ⟨w5.heap.size,3,none⟩=some (.string x.data))
        (first | exact ⟨c3,b3⟩ | exact ⟨z3,e3⟩ | go_keep)
        (fail)
       clear hupd c3 z3 b3 e3 hrun hent
       go_wp2_with fail
       go_roundg n1
       case measure=>omega
       case rel=>exact ⟨_,o7,HD8.out,HI8.out,HS8.out⟩
def Dk.restore (D:Dk):Dk := {D with on:=true}
theorem cutC_six (c:Nat):∀x,cutC c x→six c x:=by unfold cutC six;omega
def Dk.goes (D:Dk):Bool×Dk:=if D.armed=false then (false,D) else if 0<D.left then (false,{D with left:=wrap64 (D.left - 1)}) else (true,(D.cut D.stays).2)
theorem goes_calm {D:Dk} (h:D.armed=false):D.goes=(false,D):=if_pos h
set_option maxRecDepth 100000 in
set_option maxHeartbeats 2000000 in
theorem dgoes_any {o:Nat→Nat} {c p:Nat} {w:World} {D:Dk} (h:DiskAt o c w p D):Calls Tryz.prog 46 #[.pointer (some ⟨p,0,none⟩)] w fun e w'=>e = .returned (.bool D.goes.1)∧∃o',DiskAt o' c w' p D.goes.2∧Step o (six c) w o' w':=by
 obtain ⟨mn,ml,wv,sv,h1⟩:=h
 obtain ⟨b,hb⟩:∃b,D.armed=b:=⟨_,rfl⟩
 have c1:w.cell? ⟨p,41,none⟩=some (.bool D.armed):=h1.blk.cell 41
 have c2:w.cell? ⟨p,42,none⟩=some (.int .i64 D.left):=h1.blk.cell 42
 have f2:=h1.blk.frozen 42
 rw [hb] at c1
 have H:=Lib.hid h1
 cases b with
 | false =>
   have HG:=Lib.hid (goes_calm hb)
   clear h1 hb
   go_enter Tryz.func46,Tryz.ntmps46
   go_wp2_with fail
   go_ret
   rw [HG.out]
   exact ⟨rfl,o,⟨mn,ml,wv,sv,H.out⟩,Step.refl _ _ _⟩
 | true =>
   by_cases hl:0<D.left
   ·have HG:=Lib.hid (show D.goes=(false,{D with left:=wrap64 (D.left - 1)}) by unfold Dk.goes;rw [if_neg (by rw [hb];decide),if_pos hl])
    obtain ⟨h2,h3⟩:=h1.set_ (D2 := {D with left:=wrap64 (D.left - 1)}) 42 (.int .i64 (wrap64 (D.left - 1))) rfl rfl rfl rfl rfl
    have HF:=Lib.hid (show DiskAt o c (w.setCell ⟨p,42,none⟩ (.int .i64 (wrap64 (D.left - 1)))) p {D with left:=wrap64 (D.left - 1)}∧Step o (six c) w o (w.setCell ⟨p,42,none⟩ (.int .i64 (wrap64 (D.left - 1)))) from ⟨⟨mn,ml,wv,sv,h2⟩,h3.mono (only_six c)⟩)
    clear h1 hb h2 h3
    go_enter Tryz.func46,Tryz.ntmps46
    go_wp2_with fail
    go_ret
    rw [HG.out]
    exact ⟨rfl,o,HF.out⟩
   ·have HG:=Lib.hid (show D.goes=(true,(D.cut D.stays).2) by unfold Dk.goes;rw [if_neg (by rw [hb];decide),if_neg hl])
    obtain ⟨A,cap,e,hc,hm⟩:=h1.stays.form
    have c3:w.cell? ⟨p,43,none⟩=some sv:=h1.blk.cell 43
    subst e
    have HK:=Lib.hid (show ∀o' w',Step o (cutC c) w o' w'→Reads w' 1 A D.stays.length (intcells D.stays) from fun o' w' hs=>(h1.stays.step hs (by unfold cutC;omega)).reads)
    have HM:=Lib.hid (Nat.le_trans hc hm)
    clear h1 hb hc hm
    go_enter Tryz.func46,Tryz.ntmps46
    go_wp2_with fail
    refine (dcut_any ⟨mn,ml,wv,_,H.out⟩ D.stays A cap HK.out HM.out).mono ?_
    rintro e w1 ⟨rfl,o1,hd,hs⟩
    have HF:=Lib.hid (show ∃o',DiskAt o' c w1 p (D.cut D.stays).2∧Step o (six c) w o' w1 from ⟨o1,hd,hs.mono (cutC_six c)⟩)
    clear hd hs c1 c2 c3 f2
    go_wp2_with fail
    go_ret
    rw [HG.out]
    exact ⟨rfl,HF.out⟩
theorem goes_same {D:Dk} (h:D.goes.1=false):∃n,D.goes.2 = {D with left:=n}:=by
 unfold Dk.goes at h ⊢
 by_cases ha:D.armed=false
 ·rw [if_pos ha]
  exact ⟨D.left,rfl⟩
 ·rw [if_neg ha] at h ⊢
  by_cases hl:0<D.left
  ·rw [if_pos hl]
   exact ⟨_,rfl⟩
  ·rw [if_neg hl] at h
   cases h
theorem may_ok {D:Dk} {node:Int} (h:D.may node=0):D.on=true∧0≤node∧node≤16:=by
 unfold Dk.may at h
 split at h
 ·omega
 ·split at h
  ·omega
  ·rename_i h1 h2
   exact ⟨by simpa using h1,by omega,by omega⟩
def Dk.barrier (D:Dk) (node:Int) (epoch:Nat):Int×Dk :=
 if D.may node≠0 then (D.may node,D) else if D.admits node.toNat epoch≠0 then (D.admits node.toNat epoch,D) else if D.goes.1=true then (14,D.goes.2) else (0,D.goes.2.settle node)
set_option maxRecDepth 100000 in
set_option maxHeartbeats 1000000 in
theorem dbarrier_calm {o:Nat→Nat} {c p:Nat} {w:World} {D:Dk} (h:DiskAt o c w p D) (node:Int) (epoch:Nat) (hl:D.waits.length≤1000000) :
 Calls Tryz.prog 80 #[.pointer (some ⟨p,0,none⟩), .int .i64 node, .int .u64 epoch] w fun e w'=>e = .returned (.int .i64 (D.barrier node epoch).1)∧∃o',DiskAt o' c w' p (D.barrier node epoch).2∧Step o (six c) w o' w':=by
 have H:=Lib.hid h
 clear h
 go_enter Tryz.func80,Tryz.ntmps80
 go_wp2_with fail
 refine (dmay_any H.out node).mono ?_
 rintro e w1 ⟨rfl,rfl⟩
 obtain ⟨E,hE⟩:∃E,D.may node=E:=⟨_,rfl⟩
 rw [hE]
 by_cases h0:E=0
 ·subst h0
  obtain ⟨hon,hn0,hn1⟩:=may_ok hE
  obtain ⟨k,rfl⟩:∃k:Nat,node=k:=⟨node.toNat,by omega⟩
  have HE:=Lib.hid hE
  clear hE hon
  go_wp2_with fail
  refine (dadmits_any H.out k epoch (by omega)).mono ?_
  rintro e w2 ⟨rfl,rfl⟩
  obtain ⟨F,hF⟩:∃F,D.admits k epoch=F:=⟨_,rfl⟩
  rw [hF]
  by_cases h1:F=0
  ·subst h1
   have HB:=Lib.hid (show D.barrier (k:Int) epoch=if D.goes.1=true then (14,D.goes.2) else (0,D.goes.2.settle k) from by unfold Dk.barrier;rw [if_neg (by simp [HE.out]),if_neg (by simp [hF])])
   clear hF
   go_wp2_with fail
   refine (dgoes_any H.out).mono ?_
   rintro e w3 ⟨rfl,o3,hd3,hs3⟩
   have HGS:=Lib.hid (goes_same (D:=D))
   obtain ⟨⟨G,D3⟩,hG⟩:∃G,D.goes=G:=⟨_,rfl⟩
   rw [hG] at hd3 HB HGS ⊢
   simp only at hd3 HB HGS ⊢
   have HD3:=Lib.hid hd3
   have HS3:=Lib.hid hs3
   clear hd3 hs3 hG
   cases G with
   | true =>
     go_wp2_with fail
     go_ret
     rw [HB.out]
     exact ⟨rfl,o3,HD3.out,HS3.out⟩
   | false =>
     obtain ⟨nl,hnl⟩:=HGS.out rfl
     have HB2:=Lib.hid (HB.out.trans (if_neg (by decide)))
     clear HB HGS
     go_wp2_with fail
     refine (dsettle_any HD3.out (k:Int) (by rw [hnl];exact hl)).mono ?_
     rintro e w4 ⟨rfl,o4,hd,hs⟩
     have HD:=Lib.hid hd
     have HS:=Lib.hid hs
     clear hd hs
     go_wp2_with fail
     go_ret
     rw [HB2.out]
     exact ⟨rfl,o4,HD.out,HS3.out.trans HS.out⟩
  ·have h1B:(F != 0)=true:=by simp [h1]
   have HB:=Lib.hid (show D.barrier (k:Int) epoch=(F,D) from by unfold Dk.barrier;rw [if_neg (by simp [HE.out]),if_pos (by simp only [Int.toNat_natCast,hF];exact h1),Int.toNat_natCast,hF])
   clear hF h1
   go_wp2_with fail
   go_ret
   rw [HB.out]
   exact ⟨rfl,o,H.out,Step.refl _ _ _⟩
 ·have h0B:(E != 0)=true:=by simp [h0]
  have HB:=Lib.hid (show D.barrier node epoch=(E,D) from by unfold Dk.barrier;rw [if_pos (by rw [hE];exact h0),hE])
  clear hE h0
  go_wp2_with fail
  go_ret
  rw [HB.out]
  exact ⟨rfl,o,H.out,Step.refl _ _ _⟩
def Dk.fence (D:Dk) (node:Int):Int×Dk :=
 if D.may node≠0 then (D.may node,D) else if D.goes.1=true then (14,D.goes.2) else (0,{D.goes.2.settle node with table:=fun k=>if k=node.toNat then 0 else D.goes.2.table k})
theorem settle_table (D:Dk) (node:Int):(D.settle node).table=D.table:=by
 have h:∀(l:List Ws) (D:Dk),(l.foldl Dk.keep D).table=D.table:=by
  intro l
  induction l with
  | nil=>intro D;rfl
  | cons x l ih=>intro D;rw [List.foldl_cons,ih];unfold Dk.keep;split <;> rfl
 exact h _ _
theorem settle_same (D:Dk) (node:Int):(D.settle node).on=D.on∧(D.settle node).armed=D.armed∧(D.settle node).sectors=D.sectors∧(D.settle node).last=D.last∧(D.settle node).words=D.words∧(D.settle node).now=D.now∧(D.settle node).seq=D.seq:=by
 have h:∀(l:List Ws) (D:Dk),(l.foldl Dk.keep D).on=D.on∧(l.foldl Dk.keep D).armed=D.armed∧(l.foldl Dk.keep D).sectors=D.sectors∧(l.foldl Dk.keep D).last=D.last∧(l.foldl Dk.keep D).words=D.words∧(l.foldl Dk.keep D).now=D.now∧(l.foldl Dk.keep D).seq=D.seq:=by
  intro l
  induction l with
  | nil=>intro D;exact ⟨rfl,rfl,rfl,rfl,rfl,rfl,rfl⟩
  | cons x l ih =>
    intro D
    have h1:(D.keep x).on=D.on∧(D.keep x).armed=D.armed∧(D.keep x).sectors=D.sectors∧(D.keep x).last=D.last∧(D.keep x).words=D.words∧(D.keep x).now=D.now∧(D.keep x).seq=D.seq:=by
     unfold Dk.keep
     split <;> exact ⟨rfl,rfl,rfl,rfl,rfl,rfl,rfl⟩
    obtain ⟨a1,a2,a3,a4,a5,a6,a7⟩:=ih (D.keep x)
    obtain ⟨b1,b2,b3,b4,b5,b6,b7⟩:=h1
    exact ⟨a1.trans b1,a2.trans b2,a3.trans b3,a4.trans b4,a5.trans b5,a6.trans b6,a7.trans b7⟩
 exact h _ _
theorem cells_table (D:Dk) (mn ml:Nat) (wv sv:Value) (k:Nat) (hk:k≤16) (v:Nat):(D.cells mn ml wv sv).setIfInBounds (6+k) (.int .u64 v)=({D with table:=fun j=>if j=k then v else D.table j}:Dk).cells mn ml wv sv:=by
 rcases k with _ | _ | _ | _ | _ | _ | _ | _ | _ | _ | _ | _ | _ | _ | _ | _ | _ | k <;> first | rfl | omega
theorem cells_word (D:Dk) (mn ml:Nat) (wv sv:Value) (k:Nat) (hk:k≤16) (v:Nat):(D.cells mn ml wv sv).setIfInBounds (23+k) (.int .u64 v)=({D with words:=fun j=>if j=k then v else D.words j}:Dk).cells mn ml wv sv:=by
 rcases k with _ | _ | _ | _ | _ | _ | _ | _ | _ | _ | _ | _ | _ | _ | _ | _ | _ | k <;> first | rfl | omega
set_option maxRecDepth 100000 in
set_option maxHeartbeats 1000000 in
theorem dfence_calm {o:Nat→Nat} {c p:Nat} {w:World} {D:Dk} (h:DiskAt o c w p D) (node:Int) (hl:D.waits.length≤1000000) :
 Calls Tryz.prog 87 #[.pointer (some ⟨p,0,none⟩), .int .i64 node] w fun e w'=>e = .returned (.int .i64 (D.fence node).1)∧∃o',DiskAt o' c w' p (D.fence node).2∧Step o (six c) w o' w':=by
 have H:=Lib.hid h
 clear h
 go_enter Tryz.func87,Tryz.ntmps87
 go_wp2_with fail
 refine (dmay_any H.out node).mono ?_
 rintro e w1 ⟨rfl,rfl⟩
 obtain ⟨E,hE⟩:∃E,D.may node=E:=⟨_,rfl⟩
 rw [hE]
 by_cases h0:E=0
 ·subst h0
  obtain ⟨hon,hn0,hn1⟩:=may_ok hE
  obtain ⟨k,rfl⟩:∃k:Nat,node=k:=⟨node.toNat,by omega⟩
  have HB:=Lib.hid (show D.fence (k:Int)=if D.goes.1=true then (14,D.goes.2) else (0,{D.goes.2.settle k with table:=fun j=>if j=k then 0 else D.goes.2.table j}) from by unfold Dk.fence;rw [if_neg (by simp [hE])];rfl)
  clear hE hon
  go_wp2_with fail
  refine (dgoes_any H.out).mono ?_
  rintro e w3 ⟨rfl,o3,hd3,hs3⟩
  have HGS:=Lib.hid (goes_same (D:=D))
  obtain ⟨⟨G,D3⟩,hG⟩:∃G,D.goes=G:=⟨_,rfl⟩
  rw [hG] at hd3 HB HGS ⊢
  simp only at hd3 HB HGS ⊢
  have HD3:=Lib.hid hd3
  have HS3:=Lib.hid hs3
  clear hd3 hs3 hG
  cases G with
  | true =>
    go_wp2_with fail
    go_ret
    rw [HB.out]
    exact ⟨rfl,o3,HD3.out,HS3.out⟩
  | false =>
    obtain ⟨nl,hnl⟩:=HGS.out rfl
    have HB2:=Lib.hid (HB.out.trans (if_neg (by decide)))
    clear HB HGS
    go_wp2_with fail
    refine (dsettle_any HD3.out (k:Int) (by rw [hnl];exact hl)).mono ?_
    rintro e w4 ⟨rfl,o4,⟨mn,ml,wv,sv,hd⟩,hs⟩
    have ct:=hd.table k (by omega)
    have ft:=hd.blk.frozen (6+k)
    obtain ⟨hd2,hs2⟩:=hd.set_ (6+k) (.int .u64 (0:Nat)) (cells_table _ _ _ _ _ k (by omega) 0) rfl rfl rfl rfl
    have HF:=Lib.hid (show ∃o',DiskAt o' c (w4.setCell ⟨p,6+k,none⟩ (.int .u64 0)) p (D.fence k).2∧Step o (six c) w o' (w4.setCell ⟨p,6+k,none⟩ (.int .u64 0)) from ⟨o4,by rw [HB2.out];rw [settle_table] at hd2;exact ⟨mn,ml,wv,sv,hd2⟩,HS3.out.trans (hs.trans (hs2.mono (only_six c)))⟩)
    have hkI:(k:Int)<17:=by omega
    clear hd hs hd2 hs2
    go_wp2_with fail
    go_ret
    exact ⟨by rw [HB2.out];rfl,HF.out⟩
 ·have h0B:(E != 0)=true:=by simp [h0]
  have HB:=Lib.hid (show D.fence node=(E,D) from by unfold Dk.fence;rw [if_pos (by rw [hE];exact h0),hE])
  clear hE h0
  go_wp2_with fail
  go_ret
  rw [HB.out]
  exact ⟨rfl,o,H.out,Step.refl _ _ _⟩
def Dk.admit (D:Dk) (node:Int) (epoch:Nat):Int×Dk :=
 if D.may node≠0 then (D.may node,D) else if epoch≤D.last then (8,D) else if D.goes.1=true then (14,D.goes.2) else (0,{D.goes.2 with table:=fun k=>if k=node.toNat then epoch else D.goes.2.table k,last:=epoch})
def Dk.put (D:Dk) (node:Int) (word:Nat):Int×Dk :=
 if D.may node≠0 then (D.may node,D) else if D.goes.1=true then (14,D.goes.2) else (0,{D.goes.2 with words:=fun k=>if k=node.toNat then word else D.goes.2.words k})
set_option maxRecDepth 100000 in
set_option maxHeartbeats 1000000 in
theorem dput_calm {o:Nat→Nat} {c p:Nat} {w:World} {D:Dk} (h:DiskAt o c w p D) (node:Int) (word:Nat) :
 Calls Tryz.prog 88 #[.pointer (some ⟨p,0,none⟩), .int .i64 node, .int .u64 word] w fun e w'=>e = .returned (.int .i64 (D.put node word).1)∧∃o',DiskAt o' c w' p (D.put node word).2∧Step o (six c) w o' w':=by
 have H:=Lib.hid h
 clear h
 go_enter Tryz.func88,Tryz.ntmps88
 go_wp2_with fail
 refine (dmay_any H.out node).mono ?_
 rintro e w1 ⟨rfl,rfl⟩
 obtain ⟨E,hE⟩:∃E,D.may node=E:=⟨_,rfl⟩
 rw [hE]
 by_cases h0:E=0
 ·subst h0
  obtain ⟨hon,hn0,hn1⟩:=may_ok hE
  obtain ⟨k,rfl⟩:∃k:Nat,node=k:=⟨node.toNat,by omega⟩
  have HB:=Lib.hid (show D.put (k:Int) word=if D.goes.1=true then (14,D.goes.2) else (0,{D.goes.2 with words:=fun j=>if j=k then word else D.goes.2.words j}) from by unfold Dk.put;rw [if_neg (by simp [hE])];rfl)
  clear hE hon
  go_wp2_with fail
  refine (dgoes_any H.out).mono ?_
  rintro e w3 ⟨rfl,o3,hd3,hs3⟩
  have HGS:=Lib.hid (goes_same (D:=D))
  obtain ⟨⟨G,D3⟩,hG⟩:∃G,D.goes=G:=⟨_,rfl⟩
  rw [hG] at hd3 HB HGS ⊢
  simp only at hd3 HB HGS ⊢
  have HD3:=Lib.hid hd3
  have HS3:=Lib.hid hs3
  clear hd3 hs3 hG
  cases G with
  | true =>
    go_wp2_with fail
    go_ret
    rw [HB.out]
    exact ⟨rfl,o3,HD3.out,HS3.out⟩
  | false =>
    obtain ⟨nl,hnl⟩:=HGS.out rfl
    have HB2:=Lib.hid (HB.out.trans (if_neg (by decide)))
    clear HB HGS
    obtain ⟨mn,ml,wv,sv,hd⟩:=HD3.out
    have ct:=hd.word k (by omega)
    have ft:=hd.blk.frozen (23+k)
    obtain ⟨hd2,hs2⟩:=hd.set_ (23+k) (.int .u64 word) (cells_word _ _ _ _ _ k (by omega) word) rfl rfl rfl rfl
    have HF:=Lib.hid (show ∃o',DiskAt o' c (w3.setCell ⟨p,23+k,none⟩ (.int .u64 word)) p (D.put k word).2∧Step o (six c) w o' (w3.setCell ⟨p,23+k,none⟩ (.int .u64 word)) from ⟨o3,by rw [HB2.out];exact ⟨mn,ml,wv,sv,hd2⟩,HS3.out.trans (hs2.mono (only_six c))⟩)
    have hkI:(k:Int)<17:=by omega
    clear hd hd2 hs2
    go_wp2_with fail
    go_ret
    exact ⟨by rw [HB2.out];rfl,HF.out⟩
 ·have h0B:(E != 0)=true:=by simp [h0]
  have HB:=Lib.hid (show D.put node word=(E,D) from by unfold Dk.put;rw [if_pos (by rw [hE];exact h0),hE])
  clear hE h0
  go_wp2_with fail
  go_ret
  rw [HB.out]
  exact ⟨rfl,o,H.out,Step.refl _ _ _⟩
set_option maxRecDepth 100000 in
set_option maxHeartbeats 1000000 in
theorem dadmit_calm {o:Nat→Nat} {c p:Nat} {w:World} {D:Dk} (h:DiskAt o c w p D) (node:Int) (epoch:Nat) :
 Calls Tryz.prog 17 #[.pointer (some ⟨p,0,none⟩), .int .i64 node, .int .u64 epoch] w fun e w'=>e = .returned (.int .i64 (D.admit node epoch).1)∧∃o',DiskAt o' c w' p (D.admit node epoch).2∧Step o (six c) w o' w':=by
 have H:=Lib.hid h
 clear h
 go_enter Tryz.func17,Tryz.ntmps17
 go_wp2_with fail
 refine (dmay_any H.out node).mono ?_
 rintro e w1 ⟨rfl,rfl⟩
 obtain ⟨E,hE⟩:∃E,D.may node=E:=⟨_,rfl⟩
 rw [hE]
 by_cases h0:E=0
 ·subst h0
  obtain ⟨hon,hn0,hn1⟩:=may_ok hE
  obtain ⟨k,rfl⟩:∃k:Nat,node=k:=⟨node.toNat,by omega⟩
  have HE:=Lib.hid hE
  clear hE hon
  obtain ⟨mn,ml,wv,sv,hd⟩:=H.out
  have c40:w.cell? ⟨p,40,none⟩=some (.int .u64 D.last):=hd.blk.cell 40
  have HD:=Lib.hid hd
  clear hd
  by_cases h1:epoch≤D.last
  ·have h1I:(epoch:Int)≤(D.last:Int):=by omega
   have HB:=Lib.hid (show D.admit (k:Int) epoch=(8,D) from by unfold Dk.admit;rw [if_neg (by simp [HE.out]),if_pos h1])
   go_wp2_with fail
   go_ret
   rw [HB.out]
   exact ⟨rfl,o,H.out,Step.refl _ _ _⟩
  ·have h1I:¬(epoch:Int)≤(D.last:Int):=by omega
   have HB:=Lib.hid (show D.admit (k:Int) epoch=if D.goes.1=true then (14,D.goes.2) else (0,{D.goes.2 with table:=fun j=>if j=k then epoch else D.goes.2.table j,last:=epoch}) from by unfold Dk.admit;rw [if_neg (by simp [HE.out]),if_neg h1];rfl)
   go_wp2_with fail
   refine (dgoes_any H.out).mono ?_
   rintro e w3 ⟨rfl,o3,hd3,hs3⟩
   have HGS:=Lib.hid (goes_same (D:=D))
   obtain ⟨⟨G,D3⟩,hG⟩:∃G,D.goes=G:=⟨_,rfl⟩
   rw [hG] at hd3 HB HGS ⊢
   simp only at hd3 HB HGS ⊢
   have HD3:=Lib.hid hd3
   have HS3:=Lib.hid hs3
   clear hd3 hs3 hG
   cases G with
   | true =>
     go_wp2_with fail
     go_ret
     rw [HB.out]
     exact ⟨rfl,o3,HD3.out,HS3.out⟩
   | false =>
     obtain ⟨nl,hnl⟩:=HGS.out rfl
     have HB2:=Lib.hid (HB.out.trans (if_neg (by decide)))
     clear HB HGS
     have hkI:(k:Int)<17:=by omega
     obtain ⟨mn3,ml3,wv3,sv3,hd3⟩:=HD3.out
     have HD:=Lib.hid hd3
     clear hd3
     obtain ⟨hd2,hs2⟩:=HD.out.set_ (6+k) (.int .u64 epoch) (cells_table _ _ _ _ _ k (by omega) epoch) rfl rfl rfl rfl
     obtain ⟨hd3,hs3⟩:=hd2.set_ (D2 := {D3 with table:=fun j=>if j=k then epoch else D3.table j,last:=epoch}) 40 (.int .u64 epoch) rfl rfl rfl rfl rfl
     have ct:=HD.out.table k (by omega)
     have ft:=HD.out.blk.frozen (6+k)
     have ct2:(w3.setCell ⟨p,6+k,none⟩ (.int .u64 epoch)).cell? ⟨p,40,none⟩=some (.int .u64 D3.last):=hd2.blk.cell 40
     have ft2:=hd2.blk.frozen 40
     have HF:=Lib.hid (show ∃o',DiskAt o' c ((w3.setCell ⟨p,6+k,none⟩ (.int .u64 epoch)).setCell ⟨p,40,none⟩ (.int .u64 epoch)) p (D.admit k epoch).2∧Step o (six c) w o' ((w3.setCell ⟨p,6+k,none⟩ (.int .u64 epoch)).setCell ⟨p,40,none⟩ (.int .u64 epoch)) from ⟨o3,by rw [HB2.out];exact ⟨mn3,ml3,wv3,sv3,hd3⟩,HS3.out.trans ((hs2.trans hs3).mono (only_six c))⟩)
     clear hd2 hs2 hd3 hs3
     go_wp2_with fail
     go_ret
     exact ⟨by rw [HB2.out];rfl,HF.out⟩
 ·have h0B:(E != 0)=true:=by simp [h0]
  have HB:=Lib.hid (show D.admit node epoch=(E,D) from by unfold Dk.admit;rw [if_pos (by rw [hE];exact h0),hE])
  clear hE h0
  go_wp2_with fail
  go_ret
  rw [HB.out]
  exact ⟨rfl,o,H.out,Step.refl _ _ _⟩
end Go.Proofs.YtldoeodkeieejaaGreatDoor
