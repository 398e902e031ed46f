import Derived.Test.YtohgabdmmbngbaaGreatDoorKRecB
set_option linter.unusedVariables false
set_option linter.unusedSimpArgs false
namespace Go.Proofs.YtohgabdmmbngbaaGreatDoor
open Go.RowKit
set_option maxRecDepth 100000 in
set_option maxHeartbeats 2000000 in
theorem puthead_any (h:Hd) (w:World) (he:h.epoch<18446744073709551616) (hl:h.lsn<18446744073709551616) :
 Calls Tryz.prog 135 #[.agg #[.int .u64 h.epoch, .int .u64 h.lsn, .int .i64 h.at_]] w fun e w'=>e = .returned (.tuple #[.string h.putS, .int .i64 h.putE])∧Below w.heap.size w w':=by
 obtain ⟨ep,ls,a⟩:=h
 simp only at he hl ⊢
 have HB:=Lib.hid ((Below.refl w.heap.size w).alloc (Nat.le_refl _) (.cells #[.int .u64 ep, .int .u64 ls, .int .i64 a] 194))
 have bad:Hd.bad ⟨ep,ls,a⟩→Hd.putS ⟨ep,ls,a⟩=⟨#[]⟩∧Hd.putE ⟨ep,ls,a⟩=1:=fun h=>⟨if_pos h,if_pos h⟩
 by_cases z0:ep=0
 ·obtain ⟨e1,e2⟩:=bad (.inl z0)
  have zI:((ep:Int) == 0)=true:=by simp [z0]
  rw [e1,e2]
  clear e1 e2 bad z0 he hl
  go_enter Tryz.func135,Tryz.ntmps135
  go_wp2_with fail
  go_ret2
  exact ⟨rfl,HB.out⟩
 ·have zI:((ep:Int) == 0)=false:=by simp [z0]
  by_cases z1:ls=0
  ·obtain ⟨e1,e2⟩:=bad (.inr (.inl z1))
   have yI:((ls:Int) == 0)=true:=by simp [z1]
   rw [e1,e2]
   clear e1 e2 bad z0 z1 he hl
   go_enter Tryz.func135,Tryz.ntmps135
   go_wp2_with fail
   go_ret2
   exact ⟨rfl,HB.out⟩
  ·have yI:((ls:Int) == 0)=false:=by simp [z1]
   by_cases z2:a<0
   ·obtain ⟨e1,e2⟩:=bad (.inr (.inr (.inl z2)))
    rw [e1,e2]
    clear e1 e2 bad z0 z1 he hl
    go_enter Tryz.func135,Tryz.ntmps135
    go_wp2_with fail
    go_ret2
    exact ⟨rfl,HB.out⟩
   ·by_cases z3:256<a
    ·obtain ⟨e1,e2⟩:=bad (.inr (.inr (.inr z3)))
     rw [e1,e2]
     clear e1 e2 bad z0 z1 he hl
     go_enter Tryz.func135,Tryz.ntmps135
     go_wp2_with fail
     go_ret2
     exact ⟨rfl,HB.out⟩
    ·have hnb:¬Hd.bad ⟨ep,ls,a⟩:=by unfold Hd.bad;simp only;omega
     obtain ⟨n,rfl⟩:∃n:Nat,a=n:=⟨a.toNat,by omega⟩
     have e1:Hd.putS ⟨ep,ls,n⟩=str (headL ⟨ep,ls,n⟩):=if_neg hnb
     have e2:Hd.putE ⟨ep,ls,n⟩=0:=if_neg hnb
     rw [e1,e2]
     have hn:n≤256:=by omega
     have HNA:=Lib.hid (show numOk ep 8 from ⟨by omega,by omega,by simpa using he⟩)
     have HNB:=Lib.hid (show numOk ls 8 from ⟨by omega,by omega,by simpa using hl⟩)
     have HNC:=Lib.hid (show numOk n 4 from ⟨by omega,by omega,by simp;omega⟩)
     have HA6:=Lib.hid he
     have HB6:=Lib.hid hl
     have HC6:=Lib.hid (show n<18446744073709551616 by omega)
     have wn:=wrapu_n (v:=n) (by omega)
     have HL0:=Lib.hid (show ([]:List UInt8).length≤1000000000 by simp)
     have HL1:=Lib.hid (show ([]++le ep (8:Int).toNat).length≤1000000000 by simp [le_len])
     have HL2:=Lib.hid (show ([]++le ep (8:Int).toNat++le ls (8:Int).toNat).length≤1000000000 by simp [le_len])
     have HN0:=Lib.hid (show ¬only 1 0 by unfold only;omega)
     have hcat:¬9223372036854775807<(ByteArray.mk #[72,69,65,68]).size+(str (le ep 8++(le ls 8++le n 4))).size:=by
      rw [str_size]
      simp [le_len]
      decide
     have HC:=Lib.hid (show ByteArray.mk #[72,69,65,68]++str (le ep 8++(le ls 8++le n 4))=str (headT ⟨ep,ls,n⟩) from str_append [72,69,65,68] _)
     have HZ:=Lib.hid (show (str (headT ⟨ep,ls,n⟩)).size≤60 by rw [str_size,headT_len];omega)
     have HF:=Lib.hid (show str (stampL (str (headT ⟨ep,ls,n⟩)).data.toList 64)=str (headL ⟨ep,ls,n⟩) by rw [str_list];rfl)
     have z3I:¬(256:Int)<(n:Int):=z3
     clear e1 e2 bad z0 z1 z2 z3 he hl hnb
     obtain ⟨o2,hw2,hs2⟩:=Wg.start (w0:=w) ((Below.refl w.heap.size w).alloc (Nat.le_refl _) (.cells #[.int .u64 (ep:Int), .int .u64 (ls:Int), .int .i64 (n:Int)] 194))
     have hk2:Keep o2 _ w.heap.size 194 _:=Keep.step (o:=fun _=>0) ⟨Blk.new w 194 #[.int .u64 (ep:Int), .int .u64 (ls:Int), .int .i64 (n:Int)],rfl⟩ (hs2 (fun _=>False)) (by simp)
     rw [show (w.alloc (.cells #[.int .u64 (ep:Int), .int .u64 (ls:Int), .int .i64 (n:Int)] 194)).heap.size=w.heap.size+1 by simp] at hw2
     have HW2:=Lib.hid hw2
     have HK2:=Lib.hid hk2
     clear hw2 hs2 hk2
     go_enter Tryz.func135,Tryz.ntmps135
     go_upto_region 4 with (fail)
     generalize (w.alloc (.cells #[.int .u64 (ep:Int), .int .u64 (ls:Int), .int .i64 (n:Int)] 194)).alloc (.cells #[.slice none 0 0, .int .i64 0] 256)=W at HW2 HK2 ⊢
     generalize hpe:w.heap.size+1=p at HW2 ⊢
     generalize hq:w.heap.size=q at HK2 ⊢
     have HPE:=Lib.hid hpe
     have HQ:=Lib.hid hq
     clear hpe hq
     obtain ⟨x0,x1,x2⟩:=HK2.out.1.three
     go_region_held3 (fun w'=>w'.cell? ⟨q,0,none⟩=some (.int .u64 (ep:Int))∧w'.cell? ⟨q,1,none⟩=some (.int .u64 (ls:Int))∧w'.cell? ⟨q,2,none⟩=some (.int .i64 (n:Int)))
      (first | exact ⟨x0,x1,x2⟩ | exact hk7.1.three | exact hk5.1.three | exact hk4.1.three | exact hk3.1.three | go_keep)
      (first | (go_at_call 189;((with_reducible refine (wnum_ok HW2.out.drew ep 8 HNA.out HA6.out HL0.out).mono ?_);rintro e3 w3 ⟨rfl,o3,hw3,hs3⟩;have hk3:=HK2.out.drew.step hs3 HN0.out)) | (go_at_call 189;((with_reducible refine (wnum_ok hw3 ls 8 HNB.out HB6.out HL1.out).mono ?_);rintro e4 w4 ⟨rfl,o4,hw4,hs4⟩;have hk4:=hk3.step hs4 HN0.out)) | (go_at_call 189;((with_reducible refine (wnum_ok hw4 n 4 HNC.out HC6.out HL2.out).mono ?_);rintro e5 w5 ⟨rfl,o5,hw5,hs5⟩;have hk5:=hk4.step hs5 HN0.out)) | (go_at_call 190;((with_reducible refine (wbytes_okb hw5).mono ?_);rintro e7 w7 ⟨rfl,hw7,hb7⟩;have hk7:=hk5.below_ hb7)))
     have HF7:=Lib.hid hw7.env.low
     clear hw3 hs3 hk3 hw4 hs4 hk4 hw5 hs5 hk5 hw7 hb7 hk7 x0 x1 x2 wn
     try go_wp2_with fail
     rw [HC.out]
     refine (stamp_any (str (headT ⟨ep,ls,n⟩)) HZ.out w7).mono ?_
     rintro e w8 ⟨rfl,hb8⟩
     rw [HF.out]
     have HB8:=Lib.hid (HF7.out.trans (hb8.mono HF7.out.size))
     clear hb8
     go_wp2_with fail
     go_ret2
     exact ⟨rfl,HB8.out⟩
set_option maxRecDepth 100000 in
set_option maxHeartbeats 4000000 in
theorem gethead_any (b:ByteArray) (w:World) (hb:b.size≤1000000000) :
 Calls Tryz.prog 215 #[.string b] w fun e w'=>e = .returned (.tuple #[(lhG b).agg, .int .i64 (lhE b)])∧Below w.heap.size w w':=by
 have HB0:=Lib.hid ((Env.start w).alloc (.cells #[.int .u64 0, .int .u64 0, .int .i64 0] 194))
 have HZ0:=Lib.hid (Keep.new (fut0 w) 194 #[.int .u64 0, .int .u64 0, .int .i64 0])
 have fin:∀(W:World) (x:Hd) (e:Int),Blk W w.heap.size 194 #[.int .u64 x.epoch, .int .u64 x.lsn, .int .i64 x.at_]→Below w.heap.size w W→lhG b=x→lhE b=e →
  Blk W w.heap.size 194 #[.int .u64 x.epoch, .int .u64 x.lsn, .int .i64 x.at_]∧Below w.heap.size w W∧Ending.returned (.tuple #[.agg #[.int .u64 x.epoch, .int .u64 x.lsn, .int .i64 x.at_], .int .i64 e]) = .returned (.tuple #[(lhG b).agg, .int .i64 (lhE b)]):=fun W x e h1 h2 h3 h4=>⟨h1,h2,by rw [h3,h4];rfl⟩
 have FIN:=Lib.hid fin
 clear fin
 by_cases hs:b.size=64
 ·have hsI:((b.size:Int) != 64)=false:=by simp;omega
  have HLE:=Lib.hid (show lhE b=if readE b.data.toList≠0 then readE b.data.toList else if ¬(lhX b).bad∧(lhX b).putS=b then 0 else 4 by unfold lhE;rw [if_neg (by omega)])
  have HS:=Lib.hid hb
  have HSZ:=Lib.hid hs
  have HLG:=Lib.hid (show lhG b=if lhE b=0 then lhX b else Hd.zero from rfl)
  clear hs hb
  go_enter Tryz.func215,Tryz.ntmps215
  go_wp2_with fail
  generalize w.alloc (.cells #[.int .u64 0, .int .u64 0, .int .i64 0] 194)=W at HB0 HZ0 ⊢
  refine (sread_any b HS.out W).mono ?_
  rintro e w1 ⟨rfl,hb1⟩
  have HB1:=Lib.hid (HB0.out.below_ hb1)
  have HZ1:=Lib.hid (HZ0.out.below_ hb1)
  clear hb1
  obtain ⟨E,hE⟩:∃E,readE b.data.toList=E:=⟨_,rfl⟩
  have HRL:=Lib.hid (fun (h:readE b.data.toList=0)=>readL_len h)
  rw [hE] at HLE HRL ⊢
  have HEE:=Lib.hid hE
  clear hE
  by_cases h0:E=0
  ·subst h0
   have ht:=HRL.out rfl
   rw [show b.data.toList.length=64 from HSZ.out] at ht
   have HX:=Lib.hid (show lhX b=⟨(⟨str ((readL b.data.toList).drop 4),0⟩:Rd).numV 8,((⟨str ((readL b.data.toList).drop 4),0⟩:Rd).numR 8).numV 8,((((⟨str ((readL b.data.toList).drop 4),0⟩:Rd).numR 8).numR 8).numV 4:Nat)⟩ from rfl)
   generalize readL b.data.toList=t at ht HX ⊢
   have hsz:(str t).size=60:=by rw [str_size,ht]
   have s1:(4:Int)≤((str t).size:Int):=by rw [hsz];omega
   have HRS:=Lib.hid (rest_str t 4)
   have HN:=Lib.hid (show (str (t.drop 4)).size≤1000000000 by rw [str_size,List.length_drop,ht];omega)
   have HN0:=Lib.hid (show ¬only 1 0 by unfold only;omega)
   clear hsz ht
   go_wp2_with fail
   rw [HRS.out]
   generalize t.drop 4=u at HX HN ⊢
   refine (newreader_any (fun _=>0) 1 (str u) w1 HN.out).mono ?_
   rintro e w2 ⟨p,o2,rfl,hrd,hb2,hst2⟩
   have HS2:=Lib.hid (show Gs 291 o2 w w2 p ⟨str u,0⟩ from ⟨hrd,HB1.out.step (hst2 (fun _=>False)) (by simp),(show Fut (fun _=>0) w1 from fun _ _=>rfl).step (hst2 (fun _=>False))⟩)
   have HK2:=Lib.hid (HZ1.out.step (hst2 (fun _=>False)) (by simp))
   clear hrd hb2 hst2
   go_wp2_with fail
   refine (rnum_g HS2.out 8).mono ?_
   rintro e w3 ⟨rfl,o3,hg3,hs3⟩
   have HS3:=Lib.hid hg3
   have HK3:=Lib.hid (HK2.out.step hs3 HN0.out)
   clear hg3 hs3
   go_wp2_with fail
   refine (rnum_g HS3.out 8).mono ?_
   rintro e w4 ⟨rfl,o4,hg4,hs4⟩
   have HS4:=Lib.hid hg4
   have HK4:=Lib.hid (HK3.out.step hs4 HN0.out)
   clear hg4 hs4
   go_wp2_with fail
   refine (rnum_g HS4.out 4).mono ?_
   rintro e w5 ⟨rfl,o5,hg5,hs5⟩
   have HK5:=Lib.hid (HK4.out.step hs5 HN0.out)
   have HL5:=Lib.hid hg5.env.low
   clear hg5 hs5
   obtain ⟨a,ha⟩:∃a,(⟨str u,0⟩:Rd).numV 8=a:=⟨_,rfl⟩
   obtain ⟨v,hv⟩:∃v,((⟨str u,0⟩:Rd).numR 8).numV 8=v:=⟨_,rfl⟩
   obtain ⟨c,hc⟩:∃c,(((⟨str u,0⟩:Rd).numR 8).numR 8).numV 4=c:=⟨_,rfl⟩
   have HAL:=Lib.hid (show a<18446744073709551616 by rw [←ha];exact numV_lt _ 8 (by omega))
   have HVL:=Lib.hid (show v<18446744073709551616 by rw [←hv];exact numV_lt _ 8 (by omega))
   have hcl:c<4294967296:=by rw [←hc];exact numV_lt _ 4 (by omega)
   have hwc:=wrap_small hcl
   rw [ha,hv,hc] at HX ⊢
   clear ha hv hc hcl
   have HX5:=Lib.hid (Blk.new w5 194 #[.int .u64 (a:Int), .int .u64 (v:Int), .int .i64 (c:Int)])
   have HB5:=Lib.hid (HL5.out.alloc HL5.out.size (.cells #[.int .u64 (a:Int), .int .u64 (v:Int), .int .i64 (c:Int)] 194))
   have HZ5:=Lib.hid (HK5.out.1.alloc (.cells #[.int .u64 (a:Int), .int .u64 (v:Int), .int .i64 (c:Int)] 194))
   go_wp2_with fail
   generalize w5.alloc (.cells #[.int .u64 (a:Int), .int .u64 (v:Int), .int .i64 (c:Int)] 194)=W5 at HX5 HB5 HZ5 ⊢
   generalize w5.heap.size=gX at HX5 ⊢
   refine (puthead_any ⟨a,v,(c:Int)⟩ W5 HAL.out HVL.out).mono ?_
   rintro e w6 ⟨rfl,hb6⟩
   have HB6:=Lib.hid (HB5.out.trans (hb6.mono HB5.out.size))
   have HZ6:=Lib.hid (HZ5.out.below_ hb6)
   obtain ⟨x0,x1,x2⟩:=(HX5.out.below_ hb6).three
   obtain ⟨y0,y1,y2⟩:=HZ6.out.three
   have f0:=HZ6.out.frozen 0
   have f1:=HZ6.out.frozen 1
   have f2:=HZ6.out.frozen 2
   clear hb6 hwc
   obtain ⟨X,hX⟩:∃X:Hd,X=⟨a,v,(c:Int)⟩:=⟨_,rfl⟩
   rw [←hX] at HX ⊢
   rw [HX.out] at HLE HLG
   have HXX:=Lib.hid hX
   clear hX
   by_cases hbad:X.bad
   ·have t1:X.putE=1:=if_pos hbad
    have HE:=Lib.hid (show lhE b=4 by rw [HLE.out];simp [hbad])
    have HG:=Lib.hid (show lhG b=Hd.zero by rw [HLG.out,HE.out];rfl)
    rw [t1]
    generalize X.putS=PS
    clear hbad t1
    go_wp2_with fail
    obtain ⟨hz3,hb3,he⟩:=FIN.out _ Hd.zero 4 (HZ6.out.put3 (.int .u64 0) (.int .u64 0) (.int .i64 0)) (below_put3 HB6.out (Nat.le_refl _) _ _ _) HG.out HE.out
    rw [←he]
    clear x0 x1 x2 y0 y1 y2 f0 f1 f2
    generalize ((w6.setCell ⟨w.heap.size,0,none⟩ (.int .u64 0)).setCell ⟨w.heap.size,1,none⟩ (.int .u64 0)).setCell ⟨w.heap.size,2,none⟩ (.int .i64 0)=WE at hz3 hb3 ⊢
    obtain ⟨q0,q1,q2⟩:=hz3.three
    exact bodyPost_ret (v := .tuple #[.agg #[.int .u64 0, .int .u64 0, .int .i64 0], .int .i64 4]) (by simp [results,Tryz.results215,go_sem,q0,q1,q2,Hd.zero]) rfl ⟨rfl,hb3⟩
   ·have t1:X.putE=0:=if_neg hbad
    rw [t1]
    by_cases hsb:X.putS=b
    ·have HE:=Lib.hid (show lhE b=0 by rw [HLE.out];simp [hbad,hsb])
     have HG:=Lib.hid (show lhG b=⟨a,v,(c:Int)⟩ by rw [HLG.out,HE.out,HXX.out];rfl)
     rw [hsb]
     have t2:(b.toList == b.toList)=true:=beq_self_eq_true _
     clear hbad hsb t1
     go_wp2_with fail
     obtain ⟨hz3,hb3,he⟩:=FIN.out _ ⟨a,v,(c:Int)⟩ 0 (HZ6.out.put3 (.int .u64 (a:Int)) (.int .u64 (v:Int)) (.int .i64 (c:Int))) (below_put3 HB6.out (Nat.le_refl _) _ _ _) HG.out HE.out
     rw [←he]
     clear x0 x1 x2 y0 y1 y2 f0 f1 f2 t2
     generalize ((w6.setCell ⟨w.heap.size,0,none⟩ (.int .u64 (a:Int))).setCell ⟨w.heap.size,1,none⟩ (.int .u64 (v:Int))).setCell ⟨w.heap.size,2,none⟩ (.int .i64 (c:Int))=WE at hz3 hb3 ⊢
     obtain ⟨q0,q1,q2⟩:=hz3.three
     exact bodyPost_ret (v := .tuple #[.agg #[.int .u64 (a:Int), .int .u64 (v:Int), .int .i64 (c:Int)], .int .i64 0]) (by simp [results,Tryz.results215,go_sem,q0,q1,q2]) rfl ⟨rfl,hb3⟩
    ·have HE:=Lib.hid (show lhE b=4 by rw [HLE.out];simp [hbad,hsb])
     have HG:=Lib.hid (show lhG b=Hd.zero by rw [HLG.out,HE.out];rfl)
     have t2:=str_neq hsb
     generalize X.putS=PS at t2 ⊢
     clear hbad hsb t1
     go_wp2_with fail
     obtain ⟨hz3,hb3,he⟩:=FIN.out _ Hd.zero 4 (HZ6.out.put3 (.int .u64 0) (.int .u64 0) (.int .i64 0)) (below_put3 HB6.out (Nat.le_refl _) _ _ _) HG.out HE.out
     rw [←he]
     clear x0 x1 x2 y0 y1 y2 f0 f1 f2 t2
     generalize ((w6.setCell ⟨w.heap.size,0,none⟩ (.int .u64 0)).setCell ⟨w.heap.size,1,none⟩ (.int .u64 0)).setCell ⟨w.heap.size,2,none⟩ (.int .i64 0)=WE at hz3 hb3 ⊢
     obtain ⟨q0,q1,q2⟩:=hz3.three
     exact bodyPost_ret (v := .tuple #[.agg #[.int .u64 0, .int .u64 0, .int .i64 0], .int .i64 4]) (by simp [results,Tryz.results215,go_sem,q0,q1,q2,Hd.zero]) rfl ⟨rfl,hb3⟩
  ·have t1:(E != 0)=true:=bne_iff_ne.2 h0
   have HE:=Lib.hid (show lhE b=E by rw [HLE.out];simp [h0])
   have HG:=Lib.hid (show lhG b=Hd.zero by rw [HLG.out,HE.out];exact if_neg h0)
   obtain ⟨y0,y1,y2⟩:=HZ1.out.1.three
   have f0:=HZ1.out.1.frozen 0
   have f1:=HZ1.out.1.frozen 1
   have f2:=HZ1.out.1.frozen 2
   clear h0
   go_wp2_with fail
   obtain ⟨hz3,hb3,he⟩:=FIN.out _ Hd.zero E (HZ1.out.1.put3 (.int .u64 0) (.int .u64 0) (.int .i64 0)) (below_put3 HB1.out.low (Nat.le_refl _) _ _ _) HG.out HE.out
   rw [←he]
   clear y0 y1 y2 f0 f1 f2
   generalize ((w1.setCell ⟨w.heap.size,0,none⟩ (.int .u64 0)).setCell ⟨w.heap.size,1,none⟩ (.int .u64 0)).setCell ⟨w.heap.size,2,none⟩ (.int .i64 0)=WE at hz3 hb3 ⊢
   obtain ⟨q0,q1,q2⟩:=hz3.three
   exact bodyPost_ret (v := .tuple #[.agg #[.int .u64 0, .int .u64 0, .int .i64 0], .int .i64 E]) (by simp [results,Tryz.results215,go_sem,q0,q1,q2,Hd.zero]) rfl ⟨rfl,hb3⟩
 ·have hsI:((b.size:Int) != 64)=true:=by simp;omega
  have HE:=Lib.hid (show lhE b=5 by unfold lhE;rw [if_pos hs])
  have HG:=Lib.hid (show lhG b=Hd.zero by unfold lhG;rw [HE.out];rfl)
  clear hs
  go_enter Tryz.func215,Tryz.ntmps215
  go_wp2_with fail
  obtain ⟨hz,hb,he⟩:=FIN.out _ Hd.zero 5 HZ0.out.1 HB0.out.low HG.out HE.out
  rw [←he]
  exact bodyPost_ret (v := .tuple #[.agg #[.int .u64 0, .int .u64 0, .int .i64 0], .int .i64 5]) (by simp [results,Tryz.results215,go_sem]) rfl ⟨rfl,hb⟩
end Go.Proofs.YtohgabdmmbngbaaGreatDoor
