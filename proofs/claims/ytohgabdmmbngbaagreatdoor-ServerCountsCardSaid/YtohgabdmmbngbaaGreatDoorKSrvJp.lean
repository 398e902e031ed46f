import Derived.Test.YtohgabdmmbngbaaGreatDoorKSrvU
import Derived.Test.YtohgabdmmbngbaaGreatDoorKSrvV
import Derived.Test.YtohgabdmmbngbaaGreatDoorKSrvNw
import Derived.Test.YtohgabdmmbngbaaGreatDoorKSrvTi
import Derived.Test.YtohgabdmmbngbaaGreatDoorKSrvY
import Derived.Test.YtohgabdmmbngbaaGreatDoorKSortK
import Derived.Test.YtohgabdmmbngbaaGreatDoorKReadyV
set_option linter.unusedVariables false
set_option linter.unusedSimpArgs false
namespace Go.Proofs.YtohgabdmmbngbaaGreatDoor
open Go.RowKit
section
variable {o o':Nat→Nat} {c n:Nat} {C:Nat→Prop} {w w':World} {s:Nat} {S:Sv} {P:SvP} {v:Value} {b:Bnd} {L:List Lk}
theorem SvIn.idLook2 (h:SvIn o c w s S P) (k:Int):(Instr.lookup 66 (.map (some P.im)) (.int .i64 k) false).run Tryz.prog w = .ok (.int .i64 ((S.ids k).getD 0)) w:=by
 have:=h.rest.ids.look Tryz.underlying66 Tryz.underlying3 (zero_i w) k false
 unfold leV at this
 cases hk:S.ids k with
 | none =>
   rw [hk] at this
   exact this
 | some v =>
   rw [hk] at this
   exact this
theorem find_next {α:Type} {p:α→Bool} {l:List α} {i:Nat} (h:∀(j:Nat) (x:α),j<i→l[j]? = some x→p x=false) {x:α} (hx:l[i]? = some x) (hp:p x=true):l.find? p=some x:=by
 rw [List.find?_eq_some_iff_getElem]
 obtain ⟨hlt,he⟩:=List.getElem?_eq_some_iff.1 hx
 refine ⟨hp,i,hlt,he,fun j hj => ?_⟩
 rw [h j _ hj (List.getElem?_eq_getElem (by omega))]
 rfl
theorem find_none {α:Type} {p:α→Bool} {l:List α} (h:∀(j:Nat) (x:α),l[j]? = some x→p x=false):l.find? p=none:=by
 rw [List.find?_eq_none]
 intro x hx
 obtain ⟨j,hj⟩:=List.getElem?_of_mem hx
 rw [h j x hj]
 decide
theorem mine_next {α:Type} {p:α→Bool} {l:List α} {i:Nat} (h:∀(j:Nat) (x:α),j<i→l[j]? = some x→p x=false) {q:α} (hq:l[i]? = some q) (hp:p q=false):∀j x,j<i+1→l[j]? = some x→p x=false:=fun j x hj hx=>by
 by_cases hji:j=i
 ·subst hji
  rw [hq] at hx
  injection hx with hx
  rw [←hx]
  exact hp
 ·exact h j x (by omega) hx
set_option maxRecDepth 100000 in
set_option maxHeartbeats 16000000 in
theorem vtakeBack_none (h:SvAt o c w s S) (hf:Fut o w) (hc1:1≤c) (wf:TbWf S.T) (hg:S.granted.length+S.T.waits.length≤1000000) (ho:S.out.length≤1000000) (hkp:S.kept = []) (k:Nat) (hk16:k≤16) (id:Int) :
 Calls Tryz.prog 98 #[.pointer (some ⟨s,0,none⟩), .int .i64 (k:Nat), .int .i64 id] w fun e w'=>e = .returned (.tuple #[])∧∃o',SvAt o' c w' s (S.takeBack k id)∧Step o (svC c) w o' w':=by
 obtain ⟨P,h⟩:=h
 have HC:=Lib.hid hc1
 have HW:=Lib.hid wf
 have HG:=Lib.hid hg
 have HO:=Lib.hid ho
 have HKP:=Lib.hid hkp
 have HRD:=Lib.hid (show S.takeBack k id=match S.T.waits.find? (mineB S k id) with
 | some w=>(S.cancel w.id).deny k id 35
 | none =>
   match S.kept.findIdx? (fun r=>decide (r.node=(k:Int)∧r.m.id=id)) with
   | some k1 => {S with kept:=S.kept.eraseIdx k1}.deny k id 35
   | none=>S from rfl)
 obtain ⟨R,hR⟩:∃R,S.takeBack k id=R:=⟨_,rfl⟩
 rw [hR] at HRD ⊢
 have HVw:=Lib.hid h
 have HFw:=Lib.hid hf
 clear h hf hc1 wf hg ho hkp hR
 have eg:∀args w,(callFunc 165 args).run Tryz.prog w = .ok (.enter 165 args) w:=enters_of Tryz.func165 (by kernel_rfl) rfl
 have hka:=Keep.new HFw.out 3 #[.int .i64 (k:Nat)]
 have hfa:=HFw.out.alloc (.cells #[.int .i64 (k:Nat)] 3)
 have hkb:=Keep.new hfa 3 #[.int .i64 id]
 have hfb:=hfa.alloc (.cells #[.int .i64 id] 3)
 have hkm:=Keep.new hfb 38 #[.int .i64 7, .int .i64 id, .int .i64 0, .int .i64 0, .int .i64 0, .int .u64 0, .int .i64 35, .slice none 0 0]
 have z1:(w.alloc (.cells #[.int .i64 (k:Nat)] 3)).heap.size=w.heap.size+1:=by simp
 have z2:((w.alloc (.cells #[.int .i64 (k:Nat)] 3)).alloc (.cells #[.int .i64 id] 3)).heap.size=w.heap.size+1+1:=by simp
 rw [z1] at hkb
 rw [z2] at hkm
 have HKA:=Lib.hid ((hka.alloc (.cells #[.int .i64 id] 3)).alloc (.cells #[.int .i64 7, .int .i64 id, .int .i64 0, .int .i64 0, .int .i64 0, .int .u64 0, .int .i64 35, .slice none 0 0] 38))
 have HKB:=Lib.hid (hkb.alloc (.cells #[.int .i64 7, .int .i64 id, .int .i64 0, .int .i64 0, .int .i64 0, .int .u64 0, .int .i64 35, .slice none 0 0] 38))
 have HKM:=Lib.hid hkm
 have HF2:=Lib.hid (hfb.alloc (.cells #[.int .i64 7, .int .i64 id, .int .i64 0, .int .i64 0, .int .i64 0, .int .u64 0, .int .i64 35, .slice none 0 0] 38))
 have HV2:=Lib.hid (((HVw.out.alloc (.cells #[.int .i64 (k:Nat)] 3)).alloc (.cells #[.int .i64 id] 3)).alloc (.cells #[.int .i64 7, .int .i64 id, .int .i64 0, .int .i64 0, .int .i64 0, .int .u64 0, .int .i64 35, .slice none 0 0] 38))
 have HS2:=Lib.hid ((((Step.refl o (svC c) w).alloc (.cells #[.int .i64 (k:Nat)] 3)).alloc (.cells #[.int .i64 id] 3)).alloc (.cells #[.int .i64 7, .int .i64 id, .int .i64 0, .int .i64 0, .int .i64 0, .int .u64 0, .int .i64 35, .slice none 0 0] 38))
 have xb:=hkb.1.cell 0
 clear hka hfa hfb hkm z1 z2
 go_enter Tryz.func98,Tryz.ntmps98
 go_upto_region 2 with (fail)
 clear hkb xb
 generalize ((w.alloc (.cells #[.int .i64 (k:Nat)] 3)).alloc (.cells #[.int .i64 id] 3)).alloc (.cells #[.int .i64 7, .int .i64 id, .int .i64 0, .int .i64 0, .int .i64 0, .int .u64 0, .int .i64 35, .slice none 0 0] 38)=W2 at HKA HKB HKM HF2 HV2 HS2 ⊢
 generalize w.heap.size=gA at HKA HKB HKM ⊢
 have y164:W2.cell? ⟨s,164,none⟩=some (.pointer (some ⟨P.tp,0,none⟩)):=HV2.out.t (k:=1) rfl
 obtain ⟨tpp,tA,tcap,htab⟩:=HV2.out.rest.table
 have HWT:=Lib.hid (twaits_any htab HW.out)
 clear htab
 go_wp2_with fail
 refine HWT.out.mono ?_
 rintro e w3 ⟨D3,cap3,rfl,hr3,hb3⟩
 have HV3:=Lib.hid (HV2.out.below_ hb3)
 have HO3:=Lib.hid (own_from' (c:=0) (o:=o) hr3 (fun g hg=>HF2.out g hg))
 have HA3:=Lib.hid (HKA.out.below_ hb3)
 have HB3:=Lib.hid (HKB.out.below_ hb3)
 have HM3:=Lib.hid (HKM.out.below_ hb3)
 have HF3:=Lib.hid (HF2.out.below hb3)
 have HS3:=Lib.hid (HS2.out.trans (Step.of_below o (svC c) hb3))
 obtain ⟨WS,hWS⟩:∃WS,S.T.waits=WS:=⟨_,rfl⟩
 have hwl:=HW.out.many
 rw [hWS] at HRD HO3 hwl ⊢
 have hwI:(WS.length:Int)≤1000:=by omega
 clear hr3 hb3 y164 hWS HV2 HKA HKB HKM HF2 HS2 HWT HVw HFw
 go_wp2_with fail
 go_loopg [18] WS.length (fun n t18 wr=>∃(i:Nat),n+i=WS.length∧t18 = .int .i64 (i:Nat)∧(∀j x,j<i→WS[j]? = some x→mineB S k id x=false)∧SvIn o c wr s S P∧OwnS o 0 wr 164 5 (.slice D3 WS.length cap3) WS.length (wqcells WS)∧Keep o wr gA 3 #[.int .i64 (k:Nat)]∧Keep o wr (gA+1) 3 #[.int .i64 id]∧Keep o wr (gA+1+1) 38 #[.int .i64 7, .int .i64 id, .int .i64 0, .int .i64 0, .int .i64 0, .int .u64 0, .int .i64 35, .slice none 0 0]∧Fut o wr∧Step o (svC c) w o wr)
 case atStart=>exact ⟨0,by omega,rfl,fun j x hj=>absurd hj (Nat.not_lt_zero j),HV3.out,HO3.out,HA3.out,HB3.out,HM3.out,HF3.out,HS3.out⟩
 case round =>
  obtain ⟨i,hni,rfl,hno,hv,hrow,hka,hkb,hkm,hf,hst⟩:=hrel
  have HNI:=Lib.hid hni
  have HNO:=Lib.hid hno
  have HVI:=Lib.hid hv
  have HROW:=Lib.hid hrow
  have HKA:=Lib.hid hka
  have HKB:=Lib.hid hkb
  have HKM:=Lib.hid hkm
  have HFL:=Lib.hid hf
  have HST:=Lib.hid hst
  clear HV3 HO3 HA3 HB3 HM3 HF3 HS3 hni hno hv hrow hka hkb hkm hf hst
  by_cases hlt:i<WS.length
  ·have hltI:(i:Int)<(WS.length:Int):=by omega
   obtain ⟨q,hq⟩:∃q,WS[i]? = some q:=⟨_,List.getElem?_eq_getElem hlt⟩
   have HQE:=Lib.hid hq
   obtain ⟨ad,rfl,x0,x1,x2,x3,x4⟩:=(Reads.of_own HROW.out.1).wait hq
   have HQ:=Lib.hid (Keep.new HFL.out 164 #[.int .i64 q.id, .int .i64 q.node, .int .i64 q.l.a, .int .i64 q.l.b, .int .i64 q.l.m])
   have HV4:=Lib.hid (HVI.out.alloc (.cells #[.int .i64 q.id, .int .i64 q.node, .int .i64 q.l.a, .int .i64 q.l.b, .int .i64 q.l.m] 164))
   have HR4:=Lib.hid (HROW.out.alloc (.cells #[.int .i64 q.id, .int .i64 q.node, .int .i64 q.l.a, .int .i64 q.l.b, .int .i64 q.l.m] 164))
   have HA4:=Lib.hid (HKA.out.alloc (.cells #[.int .i64 q.id, .int .i64 q.node, .int .i64 q.l.a, .int .i64 q.l.b, .int .i64 q.l.m] 164))
   have HB4:=Lib.hid (HKB.out.alloc (.cells #[.int .i64 q.id, .int .i64 q.node, .int .i64 q.l.a, .int .i64 q.l.b, .int .i64 q.l.m] 164))
   have HM4:=Lib.hid (HKM.out.alloc (.cells #[.int .i64 q.id, .int .i64 q.node, .int .i64 q.l.a, .int .i64 q.l.b, .int .i64 q.l.m] 164))
   have HF4:=Lib.hid (HFL.out.alloc (.cells #[.int .i64 q.id, .int .i64 q.node, .int .i64 q.l.a, .int .i64 q.l.b, .int .i64 q.l.m] 164))
   have HS4:=Lib.hid (HST.out.alloc (.cells #[.int .i64 q.id, .int .i64 q.node, .int .i64 q.l.a, .int .i64 q.l.b, .int .i64 q.l.m] 164))
   clear hq HVI HROW HKA HKB HKM HFL HST
   go_upto_region 5 with (fail)
   generalize wr.alloc (.cells #[.int .i64 q.id, .int .i64 q.node, .int .i64 q.l.a, .int .i64 q.l.b, .int .i64 q.l.m] 164)=W4 at HQ HV4 HR4 HA4 HB4 HM4 HF4 HS4 ⊢
   generalize wr.heap.size=gq at HQ ⊢
   clear x0 x1 x2 x3 x4
   obtain ⟨y0,y1,y2,y3,y4⟩:=HQ.out.1.five
   have xa:W4.cell? ⟨gA,0,none⟩=some (.int .i64 (k:Nat)):=HA4.out.1.cell 0
   have xb:W4.cell? ⟨gA+1,0,none⟩=some (.int .i64 id):=HB4.out.1.cell 0
   have y165:W4.cell? ⟨s,165,none⟩=some (.map (some P.im)):=HV4.out.t (k:=2) rfl
   have hlk:∀n,(Instr.lookup 66 (.map (some P.im)) (.int .i64 q.id) false).run Tryz.prog (W4.drewN n) = .ok (.int .i64 ((S.ids q.id).getD 0)) (W4.drewN n):=fun n=>(HV4.out.drewN n).idLook2 q.id
   obtain ⟨qi,hqi⟩:∃qi,(S.ids q.id).getD 0=qi:=⟨_,rfl⟩
   have HMB:=Lib.hid (show mineB S k id q=decide (q.node=(k:Int)∧qi=id) by rw [←hqi];rfl)
   simp only [hqi] at hlk
   clear hqi
   by_cases hn:q.node=(k:Int)
   ·have b1:(q.node == (k:Int))=true:=by simp [hn]
    by_cases hi:qi=id
    ·have b2:(qi == id)=true:=by simp [hi]
     have HMT:=Lib.hid (show mineB S k id q=true by rw [HMB.out];exact decide_eq_true ⟨hn,hi⟩)
     have HFI:=Lib.hid (find_next HNO.out HQE.out HMT.out)
     have HN:=Lib.hid (show (S.cancel q.id).deny k id 35=R by
      have:=HRD.out
      rw [HFI.out] at this
      exact this.symm)
     have hgb:=HG.out
     have hcc:=cancel_count S.T q.id
     have hob:=HO.out
     have HCN:=Lib.hid (fun n=>vcancel_any ⟨P,HV4.out.drewN n⟩ (HF4.out.drewN n) HC.out HW.out q.id (by omega))
     clear hn hi hgb hcc HMB
     go_wp2_with fail
     go_quiet (fail)
     go_wp2_with fail
     refine (HCN.out nq).mono ?_
     rintro e w5 ⟨rfl,o5,hv5,hs5⟩
     have HV5:=Lib.hid hv5
     have HS5:=Lib.hid (HS4.out.trans hs5.of_drewN)
     have hka5:=HA4.out.step hs5.of_drewN (svC_0 HC.out)
     have hkm5:=HM4.out.step hs5.of_drewN (svC_0 HC.out)
     have HF5:=Lib.hid (HF4.out.step hs5.of_drewN)
     have za:w5.cell? ⟨gA,0,none⟩=some (.int .i64 (k:Nat)):=hka5.1.cell 0
     obtain ⟨z0,z1,z2,z3,z4,z5,z6,z7⟩:=Blk.eight hkm5.1
     have HT:=Lib.hid (vtell_any HV5.out HF5.out HC.out (show (S.cancel q.id).out.length≤1000000000 from Nat.le_trans hob (by omega)) k hk16 {Mg.zero with kind:=7,id:=id,err:=35} (.slice none 0 0) (OwnS.nil _ _ _ _ _))
     clear hv5 hs5 hka5 hkm5 y0 y1 y2 y3 y4 xa xb y165 hlk
     go_wp2_with fail
     refine HT.out.mono ?_
     rintro e w6 ⟨rfl,o6,hv6,hs6⟩
     have HV6:=Lib.hid hv6
     have HS6:=Lib.hid (HS5.out.trans hs6)
     clear hv6 hs6
     go_wp2_with fail
     refine bodyPost_ret (results_none rfl _ _ _) rfl ?_
     exact ⟨rfl,o6,by rw [←HN.out];exact HV6.out,HS6.out⟩
    ·have b2:(qi == id)=false:=by simp [hi]
     have HMT:=Lib.hid (show mineB S k id q=false by rw [HMB.out];exact decide_eq_false (fun hh=>hi hh.2))
     clear hn hi HMB
     go_wp2_with fail
     go_quiet (fail)
     have HVD:=Lib.hid (HV4.out.drewN nq)
     have HRD4:=Lib.hid (HR4.out.drewN nq)
     have hbd:=Go.Proofs.YtohgabdmmbngbaaGreatDoor.below_drewN W4 nq
     have HAD:=Lib.hid (HA4.out.below_ hbd)
     have HBD:=Lib.hid (HB4.out.below_ hbd)
     have HMD:=Lib.hid (HM4.out.below_ hbd)
     have HFD:=Lib.hid (HF4.out.drewN nq)
     have HSD:=Lib.hid (HS4.out.drewN nq)
     clear hbd
     generalize W4.drewN nq=WD at HVD HRD4 HAD HBD HMD HFD HSD ⊢
     go_wp2_with fail
     go_roundg (WS.length - (i+1))
     case measure=>have:=HNI.out;omega
     case rel=>exact ⟨i+1,by omega,by go_num,mine_next HNO.out HQE.out HMT.out,HVD.out,HRD4.out,HAD.out,HBD.out,HMD.out,HFD.out,HSD.out⟩
   ·have b1:(q.node == (k:Int))=false:=by simp [hn]
    have HMT:=Lib.hid (show mineB S k id q=false by rw [HMB.out];exact decide_eq_false (fun hh=>hn hh.1))
    clear hn HMB
    go_wp2_with fail
    go_quiet (fail)
    have HVD:=Lib.hid (HV4.out.drewN nq)
    have HRD4:=Lib.hid (HR4.out.drewN nq)
    have hbd:=Go.Proofs.YtohgabdmmbngbaaGreatDoor.below_drewN W4 nq
    have HAD:=Lib.hid (HA4.out.below_ hbd)
    have HBD:=Lib.hid (HB4.out.below_ hbd)
    have HMD:=Lib.hid (HM4.out.below_ hbd)
    have HFD:=Lib.hid (HF4.out.drewN nq)
    have HSD:=Lib.hid (HS4.out.drewN nq)
    clear hbd
    generalize W4.drewN nq=WD at HVD HRD4 HAD HBD HMD HFD HSD ⊢
    go_wp2_with fail
    go_roundg (WS.length - (i+1))
    case measure=>have:=HNI.out;omega
    case rel=>exact ⟨i+1,by omega,by go_num,mine_next HNO.out HQE.out HMT.out,HVD.out,HRD4.out,HAD.out,HBD.out,HMD.out,HFD.out,HSD.out⟩
  ·have hltI:¬(i:Int)<(WS.length:Int):=by omega
   obtain rfl:i=WS.length:=by have:=HNI.out;omega
   have HFN:=Lib.hid (find_none (p:=mineB S k id) (l:=WS) (fun j x hx=>HNO.out j x (List.getElem?_eq_some_iff.1 hx).1 hx))
   have HN:=Lib.hid (show S=R by
    have:=HRD.out
    rw [HFN.out,HKP.out] at this
    exact this.symm)
   obtain ⟨rows,hr1,hr2,_⟩:=HVI.out.rest.kept
   rw [HKP.out] at hr1
   obtain rfl:rows = []:=by simpa using hr1
   obtain ⟨A,kcap,hkv,_⟩:=own_form' hr2
   rw [hkv] at hr2
   have y166:wr.cell? ⟨s,166,none⟩=some (.slice A 0 kcap):=(HVI.out.t (k:=3) rfl).trans (by rw [hkv];rfl)
   have HIX:=Lib.hid (show Calls Tryz.prog 164 #[.slice A 0 kcap, .func (.func 165) #[] #[.pointer (some ⟨gA,0,none⟩), .pointer (some ⟨gA+1,0,none⟩)]] wr (fun e w'=>e = .returned (.int .i64 (-1))∧Below wr.heap.size wr w') from idxreqs_any 165 #[.pointer (some ⟨gA,0,none⟩), .pointer (some ⟨gA+1,0,none⟩)] eg [] (fun _=>true) A kcap hr2 (by simp) (fun W s hs=>by cases hs))
   clear hr1 hr2 hkv HRD
   go_wp2_with fail
   refine HIX.out.mono ?_
   rintro e w5 ⟨rfl,hb5⟩
   have HV5:=Lib.hid (HVI.out.below_ hb5)
   have HS5:=Lib.hid (HST.out.trans (Step.of_below o (svC c) hb5))
   clear hb5 y166
   go_wp2_with fail
   go_end0
   exact ⟨rfl,o,by rw [←HN.out];exact ⟨P,HV5.out⟩,HS5.out⟩
end
def bn (n:Nat):Bnd:=⟨0,n,1000,n*(1020+2*n),3*n,2+(3+1)*n,n*(n+2)⟩
theorem bn_next (n:Nat):(bn n).next.le (bn (n+1)):=by
 have e1:(n+1)*(1020+2*(n+1))=n*(1020+2*n)+(4*n+1022):=by
  rw [Nat.add_mul,Nat.one_mul,Nat.mul_add n,Nat.mul_add n,Nat.mul_add 2]
  have:n*(2*(n+1))=n*(2*n)+2*n:=by rw [Nat.mul_add 2,Nat.mul_add n];omega
  have h2:n*(2*n+2*1)=n*(2*n)+2*n:=by rw [Nat.mul_add n];omega
  omega
 have e2:(n+1)*(n+1+2)=n*(n+2)+(2*n+3):=by
  rw [Nat.add_mul,Nat.one_mul,show n+1+2=(n+2)+1 from rfl,Nat.mul_add n (n+2) 1]
  omega
 refine ⟨Nat.le_refl _,Nat.le_refl _,Nat.le_refl _,?_,?_,?_,?_⟩
 ·show n*(1020+2*n)+1000+2*n+20≤(n+1)*(1020+2*(n+1))
  omega
 ·show 3*n+3≤3*(n+1)
  omega
 ·show 2+(3+1)*n+3+1≤2+(3+1)*(n+1)
  omega
 ·show n*(n+2)+n+2≤(n+1)*(n+1+2)
  omega
theorem bn_bounds {n:Nat} (h:n≤9000):n*(1020+2*n)≤180000000∧n*(n+2)≤90000000:=by
 have h1:n*(1020+2*n)≤9000*(1020+2*9000):=Nat.mul_le_mul h (by omega)
 have h2:n*(n+2)≤9000*(9000+2):=Nat.mul_le_mul h (by omega)
 omega
theorem bn_small {n:Nat} (h:n≤9000):(bn n).small:=by
 obtain ⟨h1,h2⟩:=bn_bounds h
 exact ⟨by show 0≤_;omega,by show n≤_;omega,by show 1000≤_;omega,by show n*(1020+2*n)≤_;omega,by show 3*n≤_;omega,by show 2+(3+1)*n≤_;omega,by show n*(n+2)≤_;omega⟩
theorem bn_one {n:Nat} (h:n≤9000):(bn n).one.small:=by
 obtain ⟨h1,h2⟩:=bn_bounds h
 exact ⟨by show 0+1≤_;omega,by show n+1≤_;omega,by show 1000+1≤_;omega,by show n*(1020+2*n)+1≤_;omega,by show 3*n≤_;omega,by show 2+(3+1)*n+1≤_;omega,by show n*(n+2)+1≤_;omega⟩
structure SvRun (o:Nat→Nat) (c:Nat) (w:World) (s:Nat) (n:Nat) (S:Sv):Prop where
 at_:SvAt o c w s S
 fut:Fut o w
 ok:SvOk (bn n) S
 out:S.out = []
section
variable {o o':Nat→Nat} {c n k:Nat} {C:Nat→Prop} {w w':World} {s:Nat} {S:Sv} {v lv:Value} {m:Mg}
theorem end_out (S:Sv):S.end_.2.out = []:=rfl
theorem SvRun.takeR (h:SvRun o c w s n S) (hc1:1≤c) (hn:n≤8500) (hk:1≤k∧k≤3) (hl:RowL o w lv m.locks.length (lkcells m.locks)) (hm:m.ok) (hu:upB m.kind=true) (hg:m.kind=1∨m.gen=S.gen) (hkp:m.kind=15→S.kept = []) :
 Calls Tryz.prog 16 #[.pointer (some ⟨s,0,none⟩), .int .i64 (k:Nat), .agg #[.int .i64 m.kind, .int .i64 m.id, .int .i64 m.node, .int .i64 m.gen, .int .i64 m.stamp, .int .u64 m.epoch, .int .i64 m.err,lv]] w fun e w'=>∃v,e = .returned v∧∃o',SvRun o' c w' s (n+1) (S.take (k:Nat) m).2∧OutsAt o' 0 w' v (S.take (k:Nat) m).1∧Step o (svC c) w o' w':=by
 have hkn:1≤k∧k≤S.n:=by rw [h.ok.n];exact hk
 have e1:S.take (k:Nat) m=(S.takes k m).end_:=take_eq h.ok.up hkn hm hu hg
 have hb:=bn_small (n:=n) (by omega)
 have hok:SvOk (bn (n+1)) (S.take (k:Nat) m).2:=(h.ok.take rfl (Nat.le_refl _) hb.tl (by show n≤_;omega) (k:Nat) m).mono (bn_next n)
 have hend:EndOk (S.takes k m):=SvOk.ends (h.ok.takes (by have:=hb.tl;omega) (node:=k) (by omega) hm.locks) (bn_one (by omega))
 rw [e1] at hok
 rw [e1]
 refine (told_run h.at_ h.out (end_out _) h.fut hc1 (fun ha hf=>vTake_in ha hf hc1 h.ok hb hend hkn (hl.recolor (hide_agree (by omega))) hm hu hg (fun h15 {o1 w1} ha1 hf1=>vtakeBack_none ha1 hf1 hc1 h.ok.wf (Nat.le_trans h.ok.gw (by have:=hb.gw;omega)) (Nat.le_trans h.ok.out (by have:=hb.out;omega)) (hkp h15) k (by omega) m.id))).mono ?_
 rintro e w' ⟨v,he,o',ha,ho,hs⟩
 exact ⟨v,he,o',⟨ha,h.fut.step hs,hok,end_out _⟩,ho,hs⟩
theorem SvRun.take (h:SvRun o c w s n S) (hc1:1≤c) (hn:n≤8500) (hk:1≤k∧k≤3) (hl:OwnS o 0 w 47 3 lv m.locks.length (lkcells m.locks)) (hm:m.ok) (hu:upB m.kind=true) (hg:m.kind=1∨m.gen=S.gen) (hkp:m.kind=15→S.kept = []) :
 Calls Tryz.prog 16 #[.pointer (some ⟨s,0,none⟩), .int .i64 (k:Nat), .agg #[.int .i64 m.kind, .int .i64 m.id, .int .i64 m.node, .int .i64 m.gen, .int .i64 m.stamp, .int .u64 m.epoch, .int .i64 m.err,lv]] w fun e w'=>∃v,e = .returned v∧∃o',SvRun o' c w' s (n+1) (S.take (k:Nat) m).2∧OutsAt o' 0 w' v (S.take (k:Nat) m).1∧Step o (svC c) w o' w' :=
 h.takeR hc1 hn hk hl.row hm hu hg hkp
theorem SvRun.step (h:SvRun o c w s n S) (hs:Step o C w o' w') (hc:∀x,svC c x→¬C x) (h0:¬C 0):SvRun o' c w' s n S:=by
 obtain ⟨P,ha⟩:=h.at_
 exact ⟨⟨P,ha.step hs hc h0⟩,h.fut.step hs,h.ok,h.out⟩
end
section
variable {l:Lk} {s:Sp} {v f:Int}
theorem meet_self (h:s.ok):meetR s s=(s,true):=by
 have h2:0≤s.a∧s.a<s.b:=h
 unfold meetR
 rw [if_pos ⟨h,h,by omega⟩,Int.max_self,Int.min_self]
theorem parts_nil (s:Sp):partsL [] s = []:=rfl
theorem parts_self (h:l.sp.ok) (m:Int):partsL [⟨l.a,l.b,m⟩] l.sp = [⟨l.a,l.b,m⟩]:=by
 show List.filterMap _ [_]=_
 rw [List.filterMap_cons_some (b:=⟨l.a,l.b,m⟩)]
 ·rfl
 ·have e:meetR (Lk.sp ⟨l.a,l.b,m⟩) l.sp=(l.sp,true):=meet_self h
  show (if (meetR (Lk.sp ⟨l.a,l.b,m⟩) l.sp).2=true then some _ else none)=_
  rw [e]
  rfl
theorem set_nil (s:Sp) (v:Int):setL [] s v = [⟨s.a,s.b,v⟩]:=by
 unfold setL layL sortP
 show glueL (List.mergeSort [_] _)=_
 rw [List.mergeSort_singleton]
 rfl
theorem without_self (h:l.sp.ok) (m:Int):withoutL [⟨l.a,l.b,m⟩] l.sp = []:=by
 show List.flatMap _ [_]=_
 rw [List.flatMap_singleton]
 have h2:0≤l.a∧l.a<l.b:=h
 have:minus1 (Lk.sp ⟨l.a,l.b,m⟩) l.sp = []:=by
  unfold minus1
  rw [show meetR (Lk.sp ⟨l.a,l.b,m⟩) l.sp=(l.sp,true) from meet_self h]
  have h3:¬Sp.ok ⟨l.a,l.a⟩:=fun hh=>by
   have:0≤l.a∧l.a<l.a:=hh
   omega
  have h4:¬Sp.ok ⟨l.b,l.b⟩:=fun hh=>by
   have:0≤l.b∧l.b<l.b:=hh
   omega
  rw [if_neg (by simp)]
  show List.filter _ [(⟨l.a,l.a⟩:Sp),(⟨l.b,l.b⟩:Sp)] = []
  rw [List.filter_cons_of_neg (by simpa using h3),List.filter_cons_of_neg (by simpa using h4)]
  rfl
 rw [this]
 rfl
theorem clear_self (h:l.sp.ok) (m:Int):clearL [⟨l.a,l.b,m⟩] l.sp = []:=by
 unfold clearL
 rw [without_self h]
 unfold layL sortP
 rw [List.mergeSort_nil]
 rfl
theorem raise_nil (l:Lk):raiseL [] l = [l]:=by
 unfold raiseL
 rw [parts_nil,set_nil]
 rfl
theorem asked_one (hm:l.m=1∨l.m=2):askedL [l] = [l]:=by
 show (if l.m=1∨l.m=2 then raiseL [] l else [])=_
 rw [if_pos hm,raise_nil]
theorem needs_nil (hm:l.m=1∨l.m=2):needsL [] [l]≠[]:=by
 unfold needsL
 rw [asked_one hm]
 show needs1 [] [l] l≠[]
 unfold needs1
 rw [parts_nil]
 simp
theorem hind_self (h:l.sp.ok) {m:Int} (hf:fitB m l.m=false) (f:Int):hindH l f [⟨l.a,l.b,m⟩]=min f l.a:=by
 unfold hindH
 rw [parts_self h]
 show (if fitB m l.m=true then f else min f l.a)=_
 rw [if_neg (by rw [hf];decide)]
theorem hind_le (l:Lk):∀(P:List Lk) (f:Int),P.foldl (fun f p=>if fitB p.m l.m=true then f else min f p.a) f≤f
 | [],_=>Int.le_refl _
 | p :: P,f=>by
   refine Int.le_trans (hind_le l P _) ?_
   show (if fitB p.m l.m=true then f else min f p.a)≤f
   split
   ·exact Int.le_refl _
   ·exact Int.min_le_left _ _
theorem hindH_le (l:Lk) (f:Int) (L:List Lk):hindH l f L≤f:=hind_le l _ f
end
section
variable {T:Tb} {node:Int} {l:Lk} {k:Nat}
theorem hind1_free (h:∀j:Nat,1≤j→(j:Int)≠node→T.held j = []):∀n,T.hind1 node l n=l.b
 | 0=>rfl
 | n+1=>by
   unfold Tb.hind1
   split
   ·exact hind1_free h n
   ·rename_i hn
    rw [h (n+1) (by omega) hn,hind1_free h n]
    rfl
theorem hind1_mono (n:Nat):T.hind1 node l (n+1)≤T.hind1 node l n:=by
 show (if ((n+1:Nat):Int)=node then T.hind1 node l n else hindH l (T.hind1 node l n) (T.held (n+1)))≤_
 split
 ·exact Int.le_refl _
 ·exact hindH_le _ _ _
theorem hind1_held (hl:l.sp.ok) {j:Nat} (hj:1≤j) (hn:(j:Int)≠node) {m:Int} (hh:T.held j = [⟨l.a,l.b,m⟩]) (hf:fitB m l.m=false):∀n,j≤n→T.hind1 node l n≤l.a
 | 0,h=>absurd h (by omega)
 | n+1,h=>by
   by_cases hjn:j=n+1
   ·subst hjn
    show (if ((n+1:Nat):Int)=node then T.hind1 node l n else hindH l (T.hind1 node l n) (T.held (n+1)))≤_
    rw [if_neg hn,hh,hind_self hl hf]
    exact Int.min_le_right _ _
   ·exact Int.le_trans (hind1_mono n) (hind1_held hl hj hn hh hf n (by omega))
theorem hindW_leT (node:Int) (l:Lk) (f:Int) (w:Wq):hindW node l f w≤f:=by
 unfold hindW
 split
 ·exact Int.min_le_left _ _
 ·exact Int.le_refl _
theorem hindWs_le (node:Int) (l:Lk):∀(ws:List Wq) (f:Int),ws.foldl (hindW node l) f≤f
 | [],_=>Int.le_refl _
 | w :: ws,f=>Int.le_trans (hindWs_le node l ws _) (hindW_leT node l f w)
theorem hinders_held (hl:l.sp.ok) {j:Nat} (hj:1≤j∧j≤T.nodes) (hn:(j:Int)≠node) {m:Int} (hh:T.held j = [⟨l.a,l.b,m⟩]) (hf:fitB m l.m=false) (ahead:List Wq):T.hinders node l ahead<l.b:=by
 have h1:=hindWs_le node l ahead (T.hind1 node l T.nodes)
 have h2:=hind1_held hl hj.1 hn hh hf T.nodes hj.2
 have h3:0≤l.a∧l.a<l.b:=hl
 show ahead.foldl (hindW node l) (T.hind1 node l T.nodes)<l.b
 omega
theorem hinders_free (h:∀j:Nat,1≤j→(j:Int)≠node→T.held j = []):¬T.hinders node l []<l.b:=by
 show ¬T.hind1 node l T.nodes<l.b
 rw [hind1_free h]
 exact Int.lt_irrefl _
theorem claims_nil (hw:T.waits = []):T.claims = []:=by
 unfold Tb.claims
 rw [hw]
 rfl
theorem right_m (h:rightB l=true):l.sp.ok∧l.b≤4096∧(l.m=1∨l.m=2):=of_decide_eq_true h
theorem ask_free (hi:T.is (k:Nat)) (hr:rightB l=true) (hk:T.held k = []) (hw:T.waits = []) (ho:∀j:Nat,1≤j→(j:Int)≠(k:Int)→T.held j = []):T.ask (k:Nat) l=((0,true,0),T.hold k [l]):=by
 obtain ⟨h1,h2,h3⟩:=right_m hr
 unfold Tb.ask
 rw [if_neg (by simp [hi,hr]),Int.toNat_natCast,hk,if_neg (needs_nil h3),if_pos]
 ·unfold Tb.raise
  rw [hk,raise_nil]
 ·unfold Tb.free
  rw [claims_nil hw]
  exact hinders_free ho
theorem ask_waits (hi:T.is (k:Nat)) (hr:rightB l=true) (hk:T.held k = []) {j:Nat} (hj:1≤j∧j≤T.nodes) (hn:(j:Int)≠(k:Int)) {m:Int} (hh:T.held j = [⟨l.a,l.b,m⟩]) (hf:fitB m l.m=false) (hd:T.dead (k:Nat) l=false) (hm:T.waits.length<1000) :
 T.ask (k:Nat) l=((T.last+1,false,0),{T with waits:=T.waits ++ [⟨T.last+1,(k:Nat),l⟩],last:=T.last+1}):=by
 obtain ⟨h1,h2,h3⟩:=right_m hr
 unfold Tb.ask
 rw [if_neg (by simp [hi,hr]),Int.toNat_natCast,hk,if_neg (needs_nil h3),if_neg,if_neg (by rw [hd];decide),if_neg (by omega)]
 unfold Tb.free
 exact fun h=>h (hinders_held h1 hj hn hh hf _)
theorem dead_nil (hw:T.waits = []):T.dead node l=false:=by
 unfold Tb.dead
 rw [hw]
 simp
theorem grant_one {w:Wq} (hw:T.waits = [w]) (hk:T.held w.node.toNat = []) (ho:∀j:Nat,1≤j→(j:Int)≠w.node→T.held j = []):T.grant=([w],{T.hold w.node.toNat [w.l] with waits := []}):=by
 have:T.grantG=⟨[w],[],[],T.hold w.node.toNat [w.l]⟩:=by
  unfold Tb.grantG
  rw [hw]
  show Gr.step ⟨[],[],[],T⟩ w=_
  unfold Gr.step
  rw [if_neg (hinders_free ho)]
  unfold Tb.raise
  show Gr.mk ([] ++ [w]) [] [] (T.hold w.node.toNat (raiseL (T.held w.node.toNat) w.l))=_
  rw [hk,raise_nil]
  rfl
 unfold Tb.grant
 rw [this]
theorem revoked_self (hl:l.sp.ok) {m:Int} (hf:fitB m l.m=false):revokedL [⟨l.a,l.b,m⟩] l [] = [⟨l.a,l.b,keepsI l.m m⟩]:=by
 unfold revokedL
 rw [parts_self hl]
 show rvk1 l [] [] ⟨l.a,l.b,m⟩=_
 unfold rvk1
 rw [if_neg (by show ¬fitB m l.m=true;rw [hf];decide),parts_nil]
 exact set_nil _ _
end
structure Qs (S:Sv):Prop where
 up:S.down=false
 out:S.out = []
 kept:S.kept = []
 granted:S.granted = []
 st:∀i,i<17→(S.peers i).state=0∨(S.peers i).state=1∨(S.peers i).state=2
 n:S.n=3
section
variable {S:Sv} {t wd:Nat→Nat} {l k:Nat}
theorem end_rest (hd:S.down=false) (hs:∀i,i<17→(S.peers i).state=0∨(S.peers i).state=1∨(S.peers i).state=2) (hn:S.n≤16) (hk:S.kept = []) (hg:S.granted = []) (hr:S.T.revokes = []):S.end_=(S.out,{S with out := [],granted := []}):=by
 have e1:S.back=S:=back_id (fun i hi=>by have:=hs i hi;omega)
 have e2:S.lost=S:=lost_id (fun i h1 h2=>by have:=hs i (by omega);omega)
 unfold Sv.end_
 rw [e1,e2,serve_id hk,give_id hg,revoke_id hr,if_neg (by rw [hd];decide)]
def hi (v:Int):Mg := {Mg.zero with kind:=1,stamp:=v}
theorem hi_ok {v:Int} (h:0≤v∧v≤2147483647):(hi v).ok:=by
 unfold Mg.ok sm hi Mg.zero
 simp
 omega
theorem hello_step (q:Qs S) (hv:Dv S.D t wd l) (hk:1≤k∧k≤3) (hs:(S.peers k).state=0) (hw:S.T.waits = []) {v:Int} (h1:1≤v∧v≤2147483647) :
 ∃D' L',L'=((S.L.drop k).2.renew k S.now).2∧Dv D' (set1 t k (l+1)) (set1 wd k (l+1)) (l+1)∧S.take (k:Nat) (hi v)=([((k:Int),{Mg.zero with kind:=2,gen:=S.gen,epoch:=l+1})],{S with D:=D',L:=L',peers:=fun i=>if i=k then {Pe.away with state:=1,epoch:=l+1,life:=v} else S.peers i})∧Qs (S.take (k:Nat) (hi v)).2:=by
 obtain ⟨D',hd',ej⟩:=join_dv hv (k:=k) (by omega) v
 have e1:S.take (k:Nat) (hi v)=(S.takes k (hi v)).end_:=take_eq q.up (by rw [q.n];exact hk) (hi_ok (by omega)) rfl (.inl rfl)
 have e2:S.takes k (hi v) = {S with D:=D'}.joined k v (l+1):=by
  rw [←ej]
  unfold Sv.takes Sv.hello
  rw [if_pos (show (hi v).kind=1 from rfl),if_neg (show ¬(hi v).stamp<1 by show ¬v<1;omega),if_pos hs]
  rfl
 have hst:∀i,i<17→((if i=k then ({Pe.away with state:=1,epoch:=l+1,life:=v}:Pe) else S.peers i).state=0∨(if i=k then ({Pe.away with state:=1,epoch:=l+1,life:=v}:Pe) else S.peers i).state=1∨(if i=k then ({Pe.away with state:=1,epoch:=l+1,life:=v}:Pe) else S.peers i).state=2):=fun i hi=>by
  split
  ·exact .inr (.inl rfl)
  ·exact q.st i hi
 have e3:(S.takes k (hi v)).end_=([((k:Int),{Mg.zero with kind:=2,gen:=S.gen,epoch:=l+1})],{S with D:=D',L:=((S.L.drop k).2.renew k S.now).2,peers:=fun i=>if i=k then {Pe.away with state:=1,epoch:=l+1,life:=v} else S.peers i}):=by
  rw [e2]
  refine (end_rest (S:=({S with D:=D'}:Sv).joined k v (l+1)) q.up hst (by show S.n≤16;rw [q.n];omega) q.kept q.granted (waits_revokes hw)).trans ?_
  unfold Sv.joined Sv.tell Sv.peer
  dsimp only
  rw [q.out,if_pos rfl]
  congr 1
  rw [←q.out,←q.granted]
 refine ⟨D',_,rfl,hd',e1.trans e3,?_⟩
 rw [e1,e3]
 exact ⟨q.up,q.out,q.kept,q.granted,hst,q.n⟩
end
theorem fmtD_eq : fmtD=(Dk.fresh 61).formatF:=rfl
theorem zeros_words (D:Dk):∀j,(D.zerosN j).words=D.words
 | 0=>rfl
 | j+1=>by
   obtain ⟨_,_,_,_,b5,_⟩:=writeN_same (D.zerosN j) (0:Nat) ((16*j:Nat):Int) (str (zer (zlen j*64))) (zlen j)
   exact b5.trans (zeros_words D j)
theorem lay_words (D:Dk):D.layF.words=D.words:=by
 unfold Dk.layF
 rw [(settle_same _ _).2.2.2.2.1,(writeN_same _ _ _ _ _).2.2.2.2.1,(settle_same _ _).2.2.2.2.1,zeros_words]
theorem lay_table {D:Dk} {k:Nat} (h:Calm D k):D.layF.table=D.table:=by
 unfold Dk.layF
 rw [settle_table,(writeN_same _ _ _ _ _).2.2.2.2.2.1,settle_table,(zeros_calm h 4).2.1]
attribute [local irreducible] fmtD
set_option maxRecDepth 100000 in
theorem fmtD_dv : Dv fmtD fmtD.table fmtD.words 1∧∀i,i≤16→fmtD.table i=0∧fmtD.words i=0:=by
 obtain ⟨f1,f2,f3⟩:=format_facts calm_fresh fresh_last
 rw [←fmtD_eq] at f1 f2
 refine ⟨⟨f1.mono (by omega),fun node h1 h2 => ?_,rfl,rfl,f2⟩,fun i hi => ?_⟩
 ·rw [format_sec,if_neg (by omega)]
 ·obtain ⟨g1,g2⟩:=fmtN_tab calm_fresh 17 (by omega)
  obtain ⟨t1,t2⟩:=g2 i (by omega)
  have hlt:((Dk.fresh 61).fmtN 17).last<1:=by rw [(fmt_calm calm_fresh 17 (by omega)).2.1,fresh_last];omega
  have e:fmtD=((((Dk.fresh 61).fmtN 17).admit (0:Nat) 1).2.layF.fence (0:Nat)).2:=by
   rw [fmtD_eq]
   unfold Dk.formatF
   rw [fresh_last]
   rfl
  generalize (Dk.fresh 61).fmtN 17=D at g1 t1 t2 hlt e
  obtain ⟨a1,a2⟩:=g1.admit (n:=0) (by omega) (e:=1) hlt
  have hw:(D.admit (0:Nat) 1).2.words i=0:=by rw [a1];exact t2
  have ht:(D.admit (0:Nat) 1).2.table i=if i=0 then 1 else 0:=by
   rw [a1]
   show (if i=0 then 1 else D.table i)=_
   split
   ·rfl
   ·exact t1
  generalize (D.admit (0:Nat) 1).2=E at a2 e hw ht
  have hl:=lay_table a2
  have hl2:=lay_words E
  have c1:=lay_calm a2
  obtain ⟨b1,b2⟩:=c1.fence (n:=0) (by omega)
  generalize E.layF=G at hl hl2 c1 b1 b2 e
  rw [e,b1]
  refine ⟨?_,?_⟩
  ·show (if i=0 then 0 else G.table i)=0
   rw [hl,ht]
   split <;> rfl
  ·show (G.settle (0:Nat)).words i=0
   rw [(settle_same _ _).2.2.2.2.1,hl2,hw]
def new0 (dp:Nat):Sv:=Sv.new dp fmtD (3,12,12,6,32) 1
def joinN (dp:Nat):Nat→Sv
 | 0=>new0 dp
 | n+1=>((joinN dp n).take ((n+1:Nat):Int) (hi 1)).2
def peJ (n i:Nat):Pe:=if i=0∨3<i then Pe.zero else if i≤n then {Pe.away with state:=1,epoch:=2+i,life:=1} else Pe.away
structure JnOk (dp n:Nat) (S:Sv):Prop where
 q:Qs S
 dv:∃t wd,Dv S.D t wd (2+n)∧t 0=2∧∀i,1≤i→i≤16→t i=(if i≤n then 2+i else 0)∧wd i=(if i≤n then 2+i else 0)
 pe:S.peers=peJ n
 T:S.T=Tb.zero 3
 ids:S.ids=fun _=>none
 gen:S.gen=1
 now:S.now=0
 st:S.stamp=0
 dp:S.dp=dp
 lea:S.L.term=64∧∀i:Int,S.L.m i=if 1≤i∧i≤(n:Int) then some 64 else none
theorem see1_away {S:Sv} {k:Nat} (h1:S.D.table k=0) (h2:S.D.words k=0):S.see1 k=S.peer k Pe.away:=by
 unfold Sv.see1
 rw [if_neg (fun h=>h h1),if_neg (fun h=>h h2)]
def new1 (dp:Nat):Sv := {Sv.raw dp fmtD 1 with D:=(fmtD.admit 0 (fmtD.last+1)).2}
set_option maxRecDepth 100000 in
theorem new0_eq (dp:Nat):new0 dp=(((new1 dp).peer 1 Pe.away).peer 2 Pe.away).peer 3 Pe.away∧new0 dp=(new1 dp).seeN 3:=by
 obtain ⟨hd,h0⟩:=fmtD_dv
 obtain ⟨e1,h1⟩:=hd.admit (k:=0) (by omega) (v:=2) (by omega)
 have hD:(new1 dp).D=(fmtD.admit (0:Nat) 2).2:=by
  show (fmtD.admit 0 (fmtD.last+1)).2=_
  rw [hd.last]
  rfl
 have hz:∀k,1≤k→k≤16→(new1 dp).D.table k=0∧(new1 dp).D.words k=0:=fun k h2 h3=>by
  rw [hD,h1.tab,h1.word]
  refine ⟨?_,(h0 k h3).2⟩
  unfold set1
  rw [if_neg (by omega)]
  exact (h0 k h3).1
 obtain ⟨S1,hS1⟩:∃S1,new1 dp=S1:=⟨_,rfl⟩
 have e2:new0 dp=(S1.seeN 3).lost:=by rw [←hS1];exact new_eq dp fmtD 1
 rw [hS1] at hz
 have hp:∀i,(S1.peers i).state=0:=fun i=>by rw [←hS1];rfl
 have hn:S1.n=3:=by rw [←hS1];rfl
 have e3:S1.seeN 3=((S1.peer 1 Pe.away).peer 2 Pe.away).peer 3 Pe.away:=by
  show ((S1.see1 1).see1 2).see1 3=_
  rw [see1_away (hz 1 (by omega) (by omega)).1 (hz 1 (by omega) (by omega)).2]
  rw [see1_away (S:=S1.peer 1 Pe.away) (hz 2 (by omega) (by omega)).1 (hz 2 (by omega) (by omega)).2]
  rw [see1_away (S:=(S1.peer 1 Pe.away).peer 2 Pe.away) (hz 3 (by omega) (by omega)).1 (hz 3 (by omega) (by omega)).2]
 have e4:(S1.seeN 3).lost=S1.seeN 3:=lost_id (fun i _ _=>by
  rw [e3]
  show (if i=3 then Pe.away else if i=2 then Pe.away else if i=1 then Pe.away else S1.peers i).state≠3
  have:=hp i
  split
  ·decide
  ·split
   ·decide
   ·split
    ·decide
    ·omega)
 rw [hS1]
 exact ⟨(e2.trans e4).trans e3,e2.trans e4⟩
theorem new0_ok (dp:Nat):JnOk dp 0 (new0 dp)∧SvOk (⟨0,0,0,0,0,2,0⟩:Bnd) (new0 dp):=by
 obtain ⟨e1,e2⟩:=new0_eq dp
 obtain ⟨hd,h0⟩:=fmtD_dv
 obtain ⟨a1,h1⟩:=hd.admit (k:=0) (by omega) (v:=2) (by omega)
 have hD:(new1 dp).D=(fmtD.admit (0:Nat) 2).2:=by
  show (fmtD.admit 0 (fmtD.last+1)).2=_
  rw [hd.last]
  rfl
 have hpe:(new0 dp).peers=peJ 0:=by
  rw [e1]
  funext i
  show (if i=3 then Pe.away else if i=2 then Pe.away else if i=1 then Pe.away else Pe.zero)=peJ 0 i
  unfold peJ
  by_cases h3:i=3
  ·subst h3;rfl
  ·by_cases h2:i=2
   ·subst h2;rfl
   ·by_cases h1:i=1
    ·subst h1;rfl
    ·rw [if_neg h3,if_neg h2,if_neg h1,if_pos (by omega)]
 refine ⟨⟨⟨by rw [e1];rfl,by rw [e1];rfl,by rw [e1];rfl,by rw [e1];rfl,fun i _ => ?_,by rw [e1];rfl⟩,?_,hpe,by rw [e1];rfl,by rw [e1];rfl,by rw [e1];rfl,by rw [e1];rfl,by rw [e1];rfl,by rw [e1];rfl,?_⟩,?_⟩
 ·rw [hpe]
  unfold peJ
  split
  ·exact .inl rfl
  ·split
   ·exact .inr (.inl rfl)
   ·exact .inl rfl
 ·refine ⟨set1 fmtD.table 0 2,fmtD.words,?_,?_,fun i h2 h3=>⟨?_,?_⟩⟩
  ·rw [e1]
   show Dv (new1 dp).D _ _ _
   rw [hD]
   exact h1
  ·rfl
  ·unfold set1
   rw [if_neg (by omega),if_neg (by omega)]
   exact (h0 i h3).1
  ·rw [if_neg (by omega)]
   exact (h0 i h3).2
 ·rw [e1]
  refine ⟨rfl,fun i => ?_⟩
  rw [if_neg (by omega)]
  rfl
 ·rw [e2]
  have hl:=hd.last
  have h2:SvOk (⟨0,0,0,0,0,fmtD.last+1,0⟩:Bnd) ((new1 dp).seeN 3):=(raw_ok dp (hd.calm) hd.empty 1).seeN 3 (by omega)
  exact h2.mono ⟨Nat.le_refl _,Nat.le_refl _,Nat.le_refl _,Nat.le_refl _,Nat.le_refl _,by show fmtD.last+1≤2;omega,Nat.le_refl _⟩
theorem joinN_ok (dp:Nat):∀n,n≤3→JnOk dp n (joinN dp n)∧SvOk (bn n) (joinN dp n)
 | 0,_=>⟨(new0_ok dp).1,(new0_ok dp).2.mono ⟨Nat.le_refl _,Nat.le_refl _,by show 0≤1000;omega,Nat.zero_le _,Nat.zero_le _,Nat.le_refl _,Nat.zero_le _⟩⟩
 | n+1,hn=>by
   obtain ⟨h,hok⟩:=joinN_ok dp n (by omega)
   have hok2:SvOk (bn (n+1)) (joinN dp (n+1)):=(hok.take rfl (Nat.le_refl _) (bn_small (n:=n) (by omega)).tl (by show n≤_;omega) ((n+1:Nat):Int) (hi 1)).mono (bn_next n)
   refine ⟨?_,hok2⟩
   obtain ⟨t,wd,hv,ht0,htw⟩:=h.dv
   have hpk:((joinN dp n).peers (n+1)).state=0:=by
    rw [h.pe]
    unfold peJ
    rw [if_neg (by omega),if_neg (by omega)]
    rfl
   obtain ⟨D',L',hL',hd',he,hq⟩:=hello_step h.q hv (k:=n+1) (by omega) hpk (by rw [h.T];rfl) (v:=1) (by omega)
   have e:joinN dp (n+1)=_:=(rfl:joinN dp (n+1)=((joinN dp n).take ((n+1:Nat):Int) (hi 1)).2).trans (congrArg Prod.snd he)
   refine ⟨hq,⟨_,_,(by rw [e];exact hd'),?_,fun i h1 h2=>⟨?_,?_⟩⟩,?_,by rw [e];exact h.T,by rw [e];exact h.ids,by rw [e];exact h.gen,by rw [e];exact h.now,by rw [e];exact h.st,by rw [e];exact h.dp,?_⟩
   ·unfold set1
    rw [if_neg (by omega),ht0]
   ·unfold set1
    by_cases hi:i=n+1
    ·rw [if_pos hi,if_pos (by omega)]
     omega
    ·rw [if_neg hi,(htw i h1 h2).1]
     by_cases h3:i≤n
     ·rw [if_pos h3,if_pos (by omega)]
     ·rw [if_neg h3,if_neg (by omega)]
   ·unfold set1
    by_cases hi:i=n+1
    ·rw [if_pos hi,if_pos (by omega)]
     omega
    ·rw [if_neg hi,(htw i h1 h2).2]
     by_cases h3:i≤n
     ·rw [if_pos h3,if_pos (by omega)]
     ·rw [if_neg h3,if_neg (by omega)]
   ·rw [e]
    show (fun i=>if i=n+1 then {Pe.away with state:=1,epoch:=2+n+1,life:=1} else (joinN dp n).peers i)=peJ (n+1)
    rw [h.pe]
    funext i
    by_cases hi:i=n+1
    ·subst hi
     rw [if_pos rfl]
     unfold peJ
     rw [if_neg (by omega),if_pos (by omega)]
     rfl
    ·rw [if_neg hi]
     unfold peJ
     split
     ·rfl
     ·by_cases h3:i≤n
      ·rw [if_pos h3,if_pos (by omega)]
      ·rw [if_neg h3,if_neg (by omega)]
   ·rw [e]
    show L'.term=64∧∀i:Int,L'.m i=if 1≤i∧i≤((n+1:Nat):Int) then some 64 else none
    obtain ⟨a1,a2⟩:=h.lea
    have hdn:(((joinN dp n).L.drop ((n+1:Nat):Int)).2).m ((n+1:Nat):Int)=none:=by
     show del (joinN dp n).L.m ((n+1:Nat):Int) ((n+1:Nat):Int)=none
     unfold del
     rw [if_pos rfl]
    rw [hL',h.now]
    unfold Le.renew
    rw [hdn]
    refine ⟨a1,fun i => ?_⟩
    show upd (del (joinN dp n).L.m ((n+1:Nat):Int)) ((n+1:Nat):Int) (behindI 0 (joinN dp n).L.term) i=_
    rw [a1]
    unfold upd del
    by_cases hi:i=((n+1:Nat):Int)
    ·rw [if_pos hi,if_pos (by omega)]
     rfl
    ·rw [if_neg hi,if_neg hi,a2]
     by_cases h3:1≤i∧i≤(n:Int)
     ·rw [if_pos h3,if_pos (by omega)]
     ·rw [if_neg h3,if_neg (by omega)]
theorem joinN_said (dp n:Nat) (hn:n+1≤3):((joinN dp n).take ((n+1:Nat):Int) (hi 1)).1 = [(((n+1:Nat):Int),{Mg.zero with kind:=2,gen:=1,epoch:=2+n+1})]:=by
 obtain ⟨h,_⟩:=joinN_ok dp n (by omega)
 obtain ⟨t,wd,hv,ht0,htw⟩:=h.dv
 have hpk:((joinN dp n).peers (n+1)).state=0:=by
  rw [h.pe]
  unfold peJ
  rw [if_neg (by omega),if_neg (by omega)]
  rfl
 obtain ⟨D',L',hL',hd',he,hq⟩:=hello_step h.q hv (k:=n+1) (by omega) hpk (by rw [h.T];rfl) (v:=1) (by omega)
 rw [he,h.gen]
end Go.Proofs.YtohgabdmmbngbaaGreatDoor
