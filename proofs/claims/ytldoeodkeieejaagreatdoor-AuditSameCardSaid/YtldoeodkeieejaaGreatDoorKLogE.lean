import Derived.Test.YtldoeodkeieejaaGreatDoorKLogB
import Derived.Test.YtldoeodkeieejaaGreatDoorKRecE
namespace Go.Proofs.YtldoeodkeieejaaGreatDoor
open Go.RowKit
def logC (cd c:Nat):Nat→Prop:=fun x=>six cd x∨x=c∨x=c+1
theorem logC_six (cd c:Nat):∀x,six cd x→logC cd c x:=fun _ h => .inl h
theorem logC_log (cd c:Nat):∀x,only c x→logC cd c x:=fun _ h => .inr (.inl h)
theorem logC_ring (cd c:Nat):∀x,only (c+1) x→logC cd c x:=fun _ h => .inr (.inr h)
structure LgR where
 n:Nat
 e:Int
 D:Dk
 g:Lg
def En.done (x:En):En := {x with written:=true,bytes:=⟨#[]⟩}
def Lg.wrote (g:Lg) (k:Nat) (x:En):Lg := {g with live:=g.live.set k x.done,written:=x.lsn}
def wrGo : List En→Nat→Nat→Dk→Lg→LgR
 | [],_,n,D,g=>⟨n,0,D,g⟩
 | x :: l,k,n,D,g=>if x.written then wrGo l (k+1) n D g else if (D.put_ g x).1≠0 then ⟨0,(D.put_ g x).1,(D.put_ g x).2,g.failG (D.put_ g x).1⟩ else wrGo l (k+1) (n+1) (D.put_ g x).2 (g.wrote k x)
def writeR (D:Dk) (g:Lg):LgR:=if g.mayE≠0 then ⟨0,g.mayE,D,g⟩ else wrGo g.live 0 0 D g
def Ens (l:List En):Prop:=∀x∈l,x.at_<7∧x.n≤7∧(x.written=false→x.bytes.size=x.n*64)
theorem Fut.band0 {o:Nat→Nat} {w:World} (hf:Fut o w) (m:Nat):band o w.heap.size m 0=o:=by
 funext k
 unfold band
 split
 ·exact (hf k (by omega)).symm
 ·rfl
theorem wrGo_drop {l:List En} {k:Nat} {x:En} (h:l[k]? = some x):l.drop k=x :: l.drop (k+1):=by
 obtain ⟨hk,e⟩:=List.getElem?_eq_some_iff.1 h
 rw [←e]
 exact List.drop_eq_getElem_cons hk
theorem wrGo_true {x:En} (h:x.written=true) (l:List En) (k n:Nat) (D:Dk) (g:Lg):wrGo (x :: l) k n D g=wrGo l (k+1) n D g:=by
 show (if x.written=true then _ else _)=_
 rw [if_pos h]
theorem wrGo_false {x:En} (h:x.written=false) (l:List En) (k n:Nat) (D:Dk) (g:Lg):wrGo (x :: l) k n D g=if (D.put_ g x).1≠0 then ⟨0,(D.put_ g x).1,(D.put_ g x).2,g.failG (D.put_ g x).1⟩ else wrGo l (k+1) (n+1) (D.put_ g x).2 (g.wrote k x):=by
 show (if x.written=true then _ else _)=_
 rw [if_neg (by rw [h];decide)]
theorem LogAt.out_ {o:Nat→Nat} {c p q:Nat} {w:World} {g:Lg} (h:LogAt o c w q g p):∃r,Hid (Blk w q 128 (g.cells p r))∧Hid (o q=c)∧Hid (EringAt o (c+1) w r 100000 g.live)∧w.cell? ⟨q,14,none⟩=some (.pointer (some ⟨r,0,none⟩))∧w.frozen? ⟨q,12,none⟩=false:=by
 obtain ⟨r,h1,h2,h3⟩:=h
 exact ⟨r,h1,h2,h3,h1.cell 14,h1.frozen 12⟩
theorem EringAt.drew {o:Nat→Nat} {c:Nat} {w:World} {r:Nat} {most:Int} {l:List En} (h:EringAt o c w r most l):EringAt o c w.drew r most l:=h
theorem eset_done {o:Nat→Nat} {c:Nat} {w:World} {r:Nat} {most:Int} {l:List En} (h:EringAt o c w r most l) (k:Nat) (hk:k<l.length) (x:En) :
 Calls Tryz.prog 128 #[.pointer (some ⟨r,0,none⟩), .int .i64 k, .agg #[.int .u64 x.lsn, .int .i64 x.at_, .int .i64 x.n, .string ⟨#[]⟩, .bool true]] w fun e w'=>e = .returned (.bool true)∧EringAt o c w' r most (l.set k x.done)∧Step o (only c) w o w':=eset_any h k hk x.done
section
variable {o:Nat→Nat} {c cd p q k:Nat} {w:World} {g:Lg} {D:Dk}
set_option maxRecDepth 100000 in
set_option maxHeartbeats 8000000 in
theorem gwrite_any (h:LogAt o c w q g p) (hd:DiskAt o cd w p D) (ht:Tame D k) (hk:k≤600000) (hcd:1≤cd) (hc:cd+5<c) (hf:Fut o w) (hb:g.base≤1000) (hl:g.live.length≤1000) (hen:Ens g.live) :
 Calls Tryz.prog 60 #[.pointer (some ⟨q,0,none⟩)] w fun e w'=>e = .returned (.tuple #[.int .i64 (writeR D g).n, .int .i64 (writeR D g).e])∧∃o',DiskAt o' cd w' p (writeR D g).D∧LogAt o' c w' q (writeR D g).g p∧Tame (writeR D g).D (k+7*g.live.length)∧Step o (logC cd c) w o' w':=by
 have H:=Lib.hid h
 have HD:=Lib.hid hd
 have HT:=Lib.hid ht
 have HN0:=Lib.hid (show ¬logC cd c 0 by unfold logC six;omega)
 have HN1:=Lib.hid (show ¬six cd c by unfold six;omega)
 have HN2:=Lib.hid (show ¬six cd (c+1) by unfold six;omega)
 have HCX:=Lib.hid hc
 have HNS:=Lib.hid (no_six hcd)
 have HK:=Lib.hid hk
 have HCD:=Lib.hid hcd
 have HBA:=Lib.hid hb
 have HL:=Lib.hid hl
 have HEN:=Lib.hid hen
 have HFU:=Lib.hid hf
 have HWE:=Lib.hid (show writeR D g=if g.mayE≠0 then ⟨0,g.mayE,D,g⟩ else wrGo g.live 0 0 D g from rfl)
 generalize writeR D g=R at HWE ⊢
 obtain ⟨M,hM⟩:∃M,g.mayE=M:=⟨_,rfl⟩
 rw [hM] at HWE
 have HMM:=Lib.hid hM
 obtain ⟨r,hb',hc',hr⟩:=h
 have x14:w.cell? ⟨q,14,none⟩=some (.pointer (some ⟨r,0,none⟩)):=hb'.cell 14
 have HR:=Lib.hid hr
 clear hd ht hk hcd hc hb hl hen hf hM hb' hc' hr
 by_cases h0:M=0
 ·subst h0
  have HW2:=Lib.hid (show R=wrGo g.live 0 0 D g by rw [HWE.out];simp)
  clear HWE
  go_enter Tryz.func60,Tryz.ntmps60
  go_wp2_with fail
  refine (gmay_any H.out).mono ?_
  rintro e w1 ⟨rfl,rfl⟩
  rw [HMM.out]
  go_wp2_with fail
  refine (elist_any 0 HR.out (by have:=HL.out;omega)).mono ?_
  rintro e w1 ⟨A,cap,rfl,hv,hb1⟩
  rw [HFU.out.band0] at hv
  have HV:=Lib.hid hv
  have HS1:=Lib.hid (Step.of_below o (logC cd c) hb1)
  have H1:=Lib.hid (H.out.below_ hb1)
  have HD1:=Lib.hid (HD.out.below_ hb1)
  have HF1:=Lib.hid (HFU.out.below hb1)
  obtain ⟨N,hN⟩:∃N,g.live.length=N:=⟨_,rfl⟩
  have HN:=Lib.hid hN
  have hNI:(N:Int)≤1000:=by have:=HL.out;omega
  rw [hN]
  clear hv hb1 x14 hN
  go_wp2_with fail
  go_loopw [5,20] (fun t5 t20 wr=>∃(j n:Nat) (D1:Dk) (g1:Lg) (o1:Nat→Nat),j≤N∧n≤j∧t5 = .int .i64 n∧t20 = .int .i64 j∧DiskAt o1 cd wr p D1∧Tame D1 (k+7*j)∧Step o (logC cd c) w o1 wr∧LogAt o1 c wr q g1 p∧Fut o1 wr∧OwnS o1 0 wr 126 5 (.slice A N cap) N (encells g.live)∧R=wrGo (g.live.drop j) j n D1 g1∧g1.base=g.base∧g1.live.length=N) (fun _ t20 _=>N - (intOf t20).toNat)
  case atStart=>exact ⟨0,0,D,g,o,by omega,by omega,rfl,rfl,HD1.out,HT.out,HS1.out,H1.out,HF1.out,by have h:=HV.out;rw [HN.out] at h;exact h,HW2.out,rfl,HN.out⟩
  case round =>
   obtain ⟨j,n,D1,g1,o1,hj,hn,rfl,rfl,hd,ht,hs,hh,hf,hv,hr,hg1,hg2⟩:=hrel
   have HDr:=Lib.hid hd
   have HTr:=Lib.hid ht
   have HSr:=Lib.hid hs
   have Hr:=Lib.hid hh
   have HFr:=Lib.hid hf
   have HVr:=Lib.hid hv
   have HRr:=Lib.hid hr
   have HG1:=Lib.hid hg1
   have HG2:=Lib.hid hg2
   have HNJ:=Lib.hid hn
   clear hd ht hs hh hf hv hr hg1 hg2 hn
   by_cases hlt:j<N
   ·have hltI:(j:Int)<(N:Int):=by omega
    obtain ⟨x,hx⟩:∃x,g.live[j]? = some x:=⟨_,List.getElem?_eq_getElem (by rw [HN.out];exact hlt)⟩
    have HDR:=Lib.hid (wrGo_drop hx)
    have HX:=Lib.hid (HEN.out x (List.mem_of_getElem? hx))
    obtain ⟨ad,rfl,y0,y1,y2,y3,y4⟩:=Reads.enrow (l:=g.live) (A:=A) (w:=wr) (by rw [HN.out];exact Reads.of_own HVr.out.1) hx
    have HE:=Lib.hid (Keep.new HFr.out 126 #[.int .u64 x.lsn, .int .i64 x.at_, .int .i64 x.n, .string x.bytes, .bool x.written])
    have HD2:=Lib.hid (HDr.out.alloc (.cells #[.int .u64 x.lsn, .int .i64 x.at_, .int .i64 x.n, .string x.bytes, .bool x.written] 126))
    have HS2:=Lib.hid (HSr.out.alloc (.cells #[.int .u64 x.lsn, .int .i64 x.at_, .int .i64 x.n, .string x.bytes, .bool x.written] 126))
    have H2:=Lib.hid (Hr.out.alloc (.cells #[.int .u64 x.lsn, .int .i64 x.at_, .int .i64 x.n, .string x.bytes, .bool x.written] 126))
    have HF2:=Lib.hid (HFr.out.alloc (.cells #[.int .u64 x.lsn, .int .i64 x.at_, .int .i64 x.n, .string x.bytes, .bool x.written] 126))
    have HV2:=Lib.hid (HVr.out.alloc (.cells #[.int .u64 x.lsn, .int .i64 x.at_, .int .i64 x.n, .string x.bytes, .bool x.written] 126))
    have HJ:=Lib.hid hj
    have HJL:=Lib.hid hlt
    clear hx
    cases hw:x.written with
    | true =>
      rw [hw] at y4
      have HR2:=Lib.hid (show R=wrGo (g.live.drop (j+1)) (j+1) n D1 g1 by rw [HRr.out,HDR.out,wrGo_true hw])
      rw [hw] at HD2 HS2 H2 HF2 HV2
      clear hw
      go_wp2_with fail
      go_roundw
      case rel=>exact ⟨j+1,n,D1,g1,o1,by omega,by have:=HNJ.out;omega,by go_num,by go_num,HD2.out,HTr.out.mono (by omega),HS2.out,H2.out,HF2.out,HV2.out,HR2.out,HG1.out,HG2.out⟩
      case measure=>simp [intOf];omega
    | false =>
      have HXS:=Lib.hid (HX.out.2.2 hw)
      have HR2:=Lib.hid (show R=if (D1.put_ g1 x).1≠0 then ⟨0,(D1.put_ g1 x).1,(D1.put_ g1 x).2,g1.failG (D1.put_ g1 x).1⟩ else wrGo (g.live.drop (j+1)) (j+1) (n+1) (D1.put_ g1 x).2 (g1.wrote j x) by
       rw [HRr.out,HDR.out,wrGo_false hw])
      rw [hw] at y4 HE HD2 HS2 H2 HF2 HV2
      have HWF:=Lib.hid hw
      clear hw
      go_upto_region 9 with (fail)
      generalize wr.alloc (.cells #[.int .u64 x.lsn, .int .i64 x.at_, .int .i64 x.n, .string x.bytes, .bool false] 126)=W at HE HD2 HS2 H2 HF2 HV2 ⊢
      have HVN:=Lib.hid (show ∀g,(Value.slice (some ad) N cap).ownBlock=some g→g≠wr.heap.size from fun g hg=>Nat.ne_of_lt (HVr.out.lt g hg))
      have HXW:=Lib.hid (show w.heap.size≤wr.heap.size from HSr.out.size)
      generalize wr.heap.size=X at HE HVN HXW ⊢
      clear y0 y1 y2 y3 y4
      obtain ⟨z0,z1,z2,z3,z4⟩:=HE.out.1.five
      go_wp2_with fail
      have hput:=gput_any H2.out HD2.out HTr.out (by have:=HK.out;have:=HL.out;have:=HJ.out;have:=HN.out;omega) HCD.out HCX.out HF2.out (by rw [HG1.out];exact HBA.out) x HX.out.1 HX.out.2.1 HXS.out
      rw [show x.agg = .agg #[.int .u64 x.lsn, .int .i64 x.at_, .int .i64 x.n, .string x.bytes, .bool false] by unfold En.agg;rw [HWF.out]] at hput
      refine hput.mono ?_
      clear hput
      rintro e w2 ⟨rfl,o2,hd2,ht2,hs2⟩
      have HD3:=Lib.hid hd2
      have HT3:=Lib.hid (ht2.mono (m:=k+7*(j+1)) (by have:=HX.out.2.1;omega))
      have HE3:=Lib.hid (HE.out.step hs2 HNS.out)
      have HS3:=Lib.hid (HS2.out.trans (hs2.mono (logC_six cd c)))
      have H3:=Lib.hid (H2.out.step hs2 HN1.out HN2.out)
      have HF3:=Lib.hid (HF2.out.step hs2)
      have HV3:=Lib.hid (HV2.out.step hs2 HNS.out)
      clear hd2 ht2 hs2 z0 z1 z2 z3 z4
      obtain ⟨F,hF⟩:∃F,D1.put_ g1 x=F:=⟨_,rfl⟩
      rw [hF] at HR2 HD3 HT3 ⊢
      obtain ⟨F,D3⟩:=F
      simp only at HD3 HT3 HR2 ⊢
      clear hF
      by_cases h1:F=0
      ·subst h1
       have HR3:=Lib.hid (show R=wrGo (g.live.drop (j+1)) (j+1) (n+1) D3 (g1.wrote j x) by rw [HR2.out];simp)
       clear HR2
       obtain ⟨z0,z1,z2,z3,z4⟩:=HE3.out.1.five
       have f3:=HE3.out.1.frozen 3
       have f4:=HE3.out.1.frozen 4
       go_upto_region 13 with (fail)
       have HE4:=Lib.hid ((HE3.out.set_ 4 (.bool true)).set_ 3 (.string ⟨#[]⟩))
       have S4:=((Step.refl o2 (only 0) w2).setCell (p:=⟨X,4,none⟩) HE3.out.2 (.bool true)).setCell (p:=⟨X,3,none⟩) HE3.out.2 (.string ⟨#[]⟩)
       have HD4:=Lib.hid (HD3.out.step S4 (by have:=HCD.out;unfold only;omega))
       have H4:=Lib.hid (H3.out.step S4 (by have:=HCX.out;unfold only;omega) (by unfold only;omega))
       have HS4:=Lib.hid ((HS3.out.setNew (p:=⟨X,4,none⟩) HXW.out (.bool true)).setNew (p:=⟨X,3,none⟩) HXW.out (.string ⟨#[]⟩))
       have HV4:=Lib.hid ((HV3.out.setCell (p:=⟨X,4,none⟩) (fun e=>HVN.out X e rfl) (.bool true)).setCell (p:=⟨X,3,none⟩) (fun e=>HVN.out X e rfl) (.string ⟨#[]⟩))
       have HF4:=Lib.hid ((HF3.out.setCell ⟨X,4,none⟩ (.bool true)).setCell ⟨X,3,none⟩ (.string ⟨#[]⟩))
       clear S4 z0 z1 z2 z3 z4 f3 f4
       generalize (w2.setCell ⟨X,4,none⟩ (.bool true)).setCell ⟨X,3,none⟩ (.string ⟨#[]⟩)=W4 at HE4 HD4 H4 HS4 HV4 HF4 ⊢
       obtain ⟨r4,HB4,HC4,HR4,v14,_⟩:=H4.out.out_
       have z14:W4.drew.cell? ⟨q,14,none⟩=some (.pointer (some ⟨r4,0,none⟩)):=v14
       have z5:=HE4.out.drew.1.five
       go_region_held3 (fun w'=>w'.cell? ⟨q,14,none⟩=some (.pointer (some ⟨r4,0,none⟩))∧w'.cell? ⟨X,0,none⟩=some (.int .u64 x.lsn)∧w'.cell? ⟨X,1,none⟩=some (.int .i64 x.at_)∧w'.cell? ⟨X,2,none⟩=some (.int .i64 x.n)∧w'.cell? ⟨X,3,none⟩=some (.string ⟨#[]⟩)∧w'.cell? ⟨X,4,none⟩=some (.bool true))
        (first | exact ⟨z14,z5.1,z5.2.1,z5.2.2.1,z5.2.2.2.1,z5.2.2.2.2⟩ | exact ⟨hb5.cell 14,hk5.1.cell 0,hk5.1.cell 1,hk5.1.cell 2,hk5.1.cell 3,hk5.1.cell 4⟩ | go_keep)
        (first | (go_at_call 128;((with_reducible refine (eset_done HR4.out.drew j (by rw [HG2.out];exact HJL.out) x).mono ?_);rintro e5 w5 ⟨rfl,hr5,hs5⟩;have hb5:=HB4.out.drew.step hs5 (by rw [HC4.out];unfold only;omega);have hk5:=HE4.out.drew.step hs5 (by unfold only;omega))))
       have g12:=hb5.frozen 12
       have y12:w5.cell? ⟨q,12,none⟩=some (.int .u64 g1.written):=hb5.cell 12
       have hc5:o2 q=c:=HC4.out
       have S6:=(Step.refl o2 (only c) w5).setCell (p:=⟨q,12,none⟩) hc5 (.int .u64 x.lsn)
       have H6:=Lib.hid (show LogAt o2 c (w5.setCell ⟨q,12,none⟩ (.int .u64 x.lsn)) q (g1.wrote j x) p from ⟨r4,hb5.set_ 12 (.int .u64 x.lsn),hc5,hr5.step S6 (by unfold only;omega)⟩)
       have HS6:=Lib.hid ((HS4.out.trans (hs5.of_drew.mono (logC_ring cd c))).trans (S6.mono (logC_log cd c)))
       have HD6:=Lib.hid ((HD4.out.step hs5.of_drew (by have:=HCX.out;unfold only;omega)).step S6 (by have:=HCX.out;unfold only;omega))
       have HF6:=Lib.hid ((HF4.out.step hs5.of_drew).step S6)
       have HV6:=Lib.hid ((HV4.out.step hs5.of_drew (by unfold only;omega)).step S6 (by have:=HCX.out;unfold only;omega))
       have y0:w5.cell? ⟨X,0,none⟩=some (.int .u64 x.lsn):=hk5.1.cell 0
       have hw1:IntKind.i64.wrap ((n:Int)+1)=((n+1:Nat):Int):=by rw [IntWalk.i64_in _ (by have:=HNJ.out;omega)];omega
       clear hb5 hk5 hr5 hs5 S6 hc5 z14 z5 v14
       go_wp2_with fail
       go_roundw
       case rel=>exact ⟨j+1,n+1,D3,g1.wrote j x,o2,by omega,by have:=HNJ.out;omega,by go_num,by go_num,HD6.out,HT3.out,HS6.out,H6.out,HF6.out,HV6.out,HR3.out,HG1.out,by show (g1.live.set j x.done).length=N;rw [List.length_set];exact HG2.out⟩
       case measure=>simp [intOf];omega
      ·have t1:(F != 0)=true:=bne_iff_ne.2 h1
       have HR3:=Lib.hid (show R=⟨0,F,D3,g1.failG F⟩ by rw [HR2.out,if_pos h1])
       clear HR2 h1
       go_wp2_with fail
       refine (gfail_any H3.out F).mono ?_
       rintro e w4 ⟨rfl,hl4,hs4⟩
       have HL4:=Lib.hid hl4
       have HS4:=Lib.hid (HS3.out.trans (hs4.mono (logC_log cd c)))
       have HD4:=Lib.hid (HD3.out.step hs4 (by have:=HCX.out;unfold only;omega))
       clear hl4 hs4
       go_wp2_with fail
       go_ret2
       exact ⟨by rw [HR3.out];rfl,o2,by rw [HR3.out];exact HD4.out,by rw [HR3.out];exact HL4.out,by rw [HR3.out];exact HT3.out.mono (by have:=HJ.out;have:=HN.out;have:=HJL.out;omega),HS4.out⟩
   ·have hltI:¬(j:Int)<(N:Int):=by omega
    obtain rfl:j=N:=by omega
    have HR2:=Lib.hid (show R=⟨n,0,D1,g1⟩ by rw [HRr.out,←HN.out,List.drop_length];rfl)
    go_wp2_with fail
    go_ret2
    exact ⟨by rw [HR2.out];rfl,o1,by rw [HR2.out];exact HDr.out,by rw [HR2.out];exact Hr.out,by rw [HR2.out];exact HN.out▸HTr.out,HSr.out⟩
 ·have HR2:=Lib.hid (show R=⟨0,M,D,g⟩ by rw [HWE.out,if_pos h0])
  have t1:(M != 0)=true:=bne_iff_ne.2 h0
  clear HWE h0
  go_enter Tryz.func60,Tryz.ntmps60
  go_wp2_with fail
  refine (gmay_any H.out).mono ?_
  rintro e w1 ⟨rfl,rfl⟩
  rw [HMM.out]
  go_wp2_with fail
  go_ret2
  exact ⟨by rw [HR2.out];rfl,o,by rw [HR2.out];exact HD.out,by rw [HR2.out];exact H.out,by rw [HR2.out];exact HT.out.mono (by omega),Step.refl _ _ _⟩
end
def syncR (D:Dk) (g:Lg):LgR:=if (writeR D g).e≠0 then writeR D g else if (writeR D g).g.written≤(writeR D g).g.synced then writeR D g
 else if ((writeR D g).D.barrier (writeR D g).g.node (writeR D g).g.epoch).1≠0 then ⟨0,((writeR D g).D.barrier (writeR D g).g.node (writeR D g).g.epoch).1,((writeR D g).D.barrier (writeR D g).g.node (writeR D g).g.epoch).2,(writeR D g).g.failG ((writeR D g).D.barrier (writeR D g).g.node (writeR D g).g.epoch).1⟩
 else ⟨0,0,((writeR D g).D.barrier (writeR D g).g.node (writeR D g).g.epoch).2,{(writeR D g).g with synced:=(writeR D g).g.written}⟩
section
variable {o:Nat→Nat} {c cd p q k:Nat} {w:World} {g:Lg} {D:Dk}
set_option maxRecDepth 100000 in
set_option maxHeartbeats 8000000 in
theorem gsync_any (h:LogAt o c w q g p) (hd:DiskAt o cd w p D) (ht:Tame D k) (hk:k≤600000) (hcd:1≤cd) (hc:cd+5<c) (hf:Fut o w) (hb:g.base≤1000) (hl:g.live.length≤1000) (hen:Ens g.live) :
 Calls Tryz.prog 62 #[.pointer (some ⟨q,0,none⟩)] w fun e w'=>e = .returned (.int .i64 (syncR D g).e)∧∃o',DiskAt o' cd w' p (syncR D g).D∧LogAt o' c w' q (syncR D g).g p∧Tame (syncR D g).D (k+7*g.live.length)∧Step o (logC cd c) w o' w':=by
 have HS:=Lib.hid (show syncR D g=if (writeR D g).e≠0 then writeR D g else if (writeR D g).g.written≤(writeR D g).g.synced then writeR D g
  else if ((writeR D g).D.barrier (writeR D g).g.node (writeR D g).g.epoch).1≠0 then ⟨0,((writeR D g).D.barrier (writeR D g).g.node (writeR D g).g.epoch).1,((writeR D g).D.barrier (writeR D g).g.node (writeR D g).g.epoch).2,(writeR D g).g.failG ((writeR D g).D.barrier (writeR D g).g.node (writeR D g).g.epoch).1⟩
  else ⟨0,0,((writeR D g).D.barrier (writeR D g).g.node (writeR D g).g.epoch).2,{(writeR D g).g with synced:=(writeR D g).g.written}⟩ from rfl)
 generalize syncR D g=S at HS ⊢
 have HW:=Lib.hid (gwrite_any h hd ht hk hcd hc hf hb hl hen)
 have HL:=Lib.hid hl
 have HK:=Lib.hid hk
 have HCX:=Lib.hid hc
 have HCD:=Lib.hid hcd
 have HN1:=Lib.hid (show ¬six cd c by unfold six;omega)
 have HN2:=Lib.hid (show ¬six cd (c+1) by unfold six;omega)
 clear h hd ht hk hcd hc hf hb hl hen
 generalize writeR D g=R at HS HW
 obtain ⟨n1,e1,D1,g1⟩:=R
 simp only at HS HW
 go_enter Tryz.func62,Tryz.ntmps62
 go_wp2_with fail
 refine HW.out.mono ?_
 rintro e w1 ⟨rfl,o1,hd1,hg1,ht1,hs1⟩
 have HD1:=Lib.hid hd1
 have H1:=Lib.hid hg1
 have HT1:=Lib.hid ht1
 have HS1:=Lib.hid hs1
 clear hd1 hg1 ht1 hs1 HW
 by_cases h0:e1=0
 ·subst h0
  obtain ⟨r1,HB1,HC1,HR1,_,_⟩:=H1.out.out_
  have x12:w1.cell? ⟨q,12,none⟩=some (.int .u64 g1.written):=HB1.out.cell 12
  have x13:w1.cell? ⟨q,13,none⟩=some (.int .u64 g1.synced):=HB1.out.cell 13
  by_cases h2:g1.written≤g1.synced
  ·have HR:=Lib.hid (show S=⟨n1,0,D1,g1⟩ by rw [HS.out];simp [h2])
   have h2I:¬(g1.synced:Int)<(g1.written:Int):=by omega
   clear HS h2
   go_wp2_with fail
   go_quiet (fail)
   go_wp2_with fail
   go_ret
   exact ⟨by rw [HR.out];rfl,o1,by rw [HR.out];exact HD1.out.drewN nq,by rw [HR.out];exact H1.out.drewN nq,by rw [HR.out];exact HT1.out,HS1.out.drewN nq⟩
  ·have HS2:=Lib.hid (show S=if (D1.barrier g1.node g1.epoch).1≠0 then ⟨0,(D1.barrier g1.node g1.epoch).1,(D1.barrier g1.node g1.epoch).2,g1.failG (D1.barrier g1.node g1.epoch).1⟩ else ⟨0,0,(D1.barrier g1.node g1.epoch).2,{g1 with synced:=g1.written}⟩ by rw [HS.out];simp [h2])
   have h2I:(g1.synced:Int)<(g1.written:Int):=by omega
   clear HS h2
   go_upto_region 4 with (fail)
   go_quiet (fail)
   have HD2:=Lib.hid (HD1.out.drewN nq)
   have H2:=Lib.hid (H1.out.drewN nq)
   have HS3:=Lib.hid (HS1.out.drewN nq)
   generalize w1.drewN nq=W2 at HD2 H2 HS3 ⊢
   clear x12 x13 HB1 HC1 HR1
   go_upto_region 5 with (fail)
   have x3:=H2.out.drew.three
   go_region_held3 (fun w'=>w'.cell? ⟨q,0,none⟩=some (.pointer (some ⟨p,0,none⟩))∧w'.cell? ⟨q,6,none⟩=some (.int .i64 g1.node)∧w'.cell? ⟨q,7,none⟩=some (.int .u64 g1.epoch))
    (first | exact x3 | exact hx3.three | go_keep)
    (first | (go_at_call 80;((with_reducible refine (dbarrier_calm HD2.out.drew g1.node g1.epoch (by have:=HT1.out.waits;have:=HK.out;have:=HL.out;omega)).mono ?_);rintro e3 w3 ⟨rfl,o3,hd3,hs3⟩;have hx3:=H2.out.drew.step hs3 HN1.out HN2.out)))
   have HD3:=Lib.hid hd3
   have H3:=Lib.hid hx3
   have HS4:=Lib.hid (HS3.out.trans (hs3.of_drew.mono (logC_six cd c)))
   have HT3:=Lib.hid (HT1.out.barrier g1.node g1.epoch)
   clear hx3 hd3 hs3 x3
   obtain ⟨F,hF⟩:∃F,D1.barrier g1.node g1.epoch=F:=⟨_,rfl⟩
   rw [hF] at HS2 HD3 HT3 ⊢
   obtain ⟨F,D3⟩:=F
   simp only at HD3 HT3 HS2 ⊢
   clear hF
   obtain ⟨r3,HB3,HC3,HR3,_,_⟩:=H3.out.out_
   by_cases h1:F=0
   ·subst h1
    have HR:=Lib.hid (show S=⟨0,0,D3,{g1 with synced:=g1.written}⟩ by rw [HS2.out];simp)
    clear HS2
    have x12:w3.cell? ⟨q,12,none⟩=some (.int .u64 g1.written):=HB3.out.cell 12
    have x13:w3.cell? ⟨q,13,none⟩=some (.int .u64 g1.synced):=HB3.out.cell 13
    have f13:=HB3.out.frozen 13
    have S6:=(Step.refl o3 (only c) w3).setCell (p:=⟨q,13,none⟩) HC3.out (.int .u64 g1.written)
    have H6:=Lib.hid (show LogAt o3 c (w3.setCell ⟨q,13,none⟩ (.int .u64 g1.written)) q {g1 with synced:=g1.written} p from ⟨r3,HB3.out.set_ 13 (.int .u64 g1.written),HC3.out,HR3.out.step S6 (by unfold only;omega)⟩)
    have HS6:=Lib.hid (HS4.out.trans (S6.mono (logC_log cd c)))
    have HD6:=Lib.hid (HD3.out.step S6 (by have:=HCX.out;unfold only;omega))
    clear S6
    go_wp2_with fail
    go_ret
    exact ⟨by rw [HR.out];rfl,o3,by rw [HR.out];exact HD6.out,by rw [HR.out];exact H6.out,by rw [HR.out];exact HT3.out,HS6.out⟩
   ·have t1:(F != 0)=true:=bne_iff_ne.2 h1
    have HR:=Lib.hid (show S=⟨0,F,D3,g1.failG F⟩ by rw [HS2.out,if_pos h1])
    clear HS2 h1
    go_wp2_with fail
    refine (gfail_any H3.out F).mono ?_
    rintro e w4 ⟨rfl,hl4,hs4⟩
    have HL4:=Lib.hid hl4
    have HS5:=Lib.hid (HS4.out.trans (hs4.mono (logC_log cd c)))
    have HD4:=Lib.hid (HD3.out.step hs4 (by have:=HCX.out;unfold only;omega))
    clear hl4 hs4
    go_wp2_with fail
    go_ret
    exact ⟨by rw [HR.out];rfl,o3,by rw [HR.out];exact HD4.out,by rw [HR.out];exact HL4.out,by rw [HR.out];exact HT3.out,HS5.out⟩
 ·have t1:(e1 != 0)=true:=bne_iff_ne.2 h0
  have HR:=Lib.hid (show S=⟨n1,e1,D1,g1⟩ by rw [HS.out,if_pos h0])
  clear HS h0
  go_wp2_with fail
  go_ret
  exact ⟨by rw [HR.out];rfl,o1,by rw [HR.out];exact HD1.out,by rw [HR.out];exact H1.out,by rw [HR.out];exact HT1.out,HS1.out⟩
end
def recTo (r:Rc) (k:Nat):List UInt8:=(List.range k).flatMap (recS r)
theorem recTo_succ (r:Rc) (k:Nat):recTo r (k+1)=recTo r k++recS r k:=by simp [recTo,List.range_succ]
theorem recS_eq (r:Rc) (k:Nat):recS r k=stampL ((le r.epoch 8++(le r.lsn 8++(le k 1++le r.images.length 1)))++chunk (bodyL r.images) k) 64:=rfl
set_option maxRecDepth 100000 in
set_option maxHeartbeats 4000000 in
theorem cput_any (r:Rc) (w:World) (A:Option Addr) (cap:Nat) (h:Reads w 3 A r.images.length (imcells r.images)) (hl:r.images.length≤1000000) (hcap:r.images.length≤cap) (hcm:cap≤maxLen) (hd:∀i∈r.images,i.data.size≤maxLen) (hv:∀i∈r.images,i.ver<18446744073709551616) (he:r.epoch<18446744073709551616) (hls:r.lsn<18446744073709551616) :
 Calls Tryz.prog 115 #[.agg #[.int .u64 r.epoch, .int .u64 r.lsn, .slice A r.images.length cap]] w fun e w'=>e = .returned (.tuple #[.string r.putS, .int .i64 r.wrongE])∧Below w.heap.size w w':=by
 have HCW:=Lib.hid (fun W (hb:Below w.heap.size w W)=>cwrong_any r W A cap (h.below' (by omega) hb) hl hcap hcm hd)
 have HBD:=Lib.hid (fun (hw:r.wrongE=0) W (hb:Below w.heap.size w W)=>cbody_any r.images W A cap (h.below' (by omega) hb) (wrong_zero hw).2.2.2.2.2 hcap hcm (wrong_zero hw).2.2.2.1 hv)
 have HWZ:=Lib.hid (fun (hw:r.wrongE=0)=>wrong_zero hw)
 have HRS:=Lib.hid (recS_eq r)
 have HPS:=Lib.hid (show r.putS=if r.wrongE=0 then str (recL r) else ⟨#[]⟩ from rfl)
 have HRL:=Lib.hid (show recTo r (secsOf r.images.length)=recL r from rfl)
 have HTL:=Lib.hid (fun k=>(show (recTo r k).length=k*64 from recs_len r k))
 have HTS:=Lib.hid (recTo_succ r)
 have HR0:=Lib.hid (show recTo r 0 = [] from rfl)
 have HRZ:=Lib.hid (fun k=>recS_len r k)
 obtain ⟨ep,ls,l⟩:=r
 simp only at hcap he hls HCW HBD HRS HRL ⊢
 have HE:=Lib.hid he
 have HLS:=Lib.hid hls
 have HB:=Lib.hid ((Below.refl w.heap.size w).alloc (Nat.le_refl _) (.cells #[.int .u64 ep, .int .u64 ls, .slice A l.length cap] 160))
 have HBK:=Lib.hid (Blk.new w 160 #[.int .u64 ep, .int .u64 ls, .slice A l.length cap])
 obtain ⟨R,hR⟩:∃R:Rc,R=⟨ep,ls,l⟩:=⟨_,rfl⟩
 rw [←hR] at HCW HBD HRS HRL HPS HTL HTS HWZ HR0 HRZ ⊢
 have HRI:=Lib.hid (show R.images=l by rw [hR])
 clear h hl hcm hd hv he hls hR
 go_enter Tryz.func115,Tryz.ntmps115
 go_wp2_with fail
 generalize w.alloc (.cells #[.int .u64 ep, .int .u64 ls, .slice A l.length cap] 160)=W at HB HBK ⊢
 refine (HCW.out W HB.out).mono ?_
 rintro e w1 ⟨rfl,hb1⟩
 have HB1:=Lib.hid (HB.out.trans (hb1.mono HB.out.size))
 have HBK1:=Lib.hid (HBK.out.below_ hb1)
 clear hb1
 by_cases hw:R.wrongE=0
 ·have HWR:=Lib.hid hw
  have HP:=Lib.hid (show R.putS=str (recL R) by rw [HPS.out,if_pos hw])
  obtain ⟨_,_,n1,n2,_,n3⟩:=HWZ.out hw
  rw [HRI.out] at n1 n2 n3
  have hn1:1≤l.length:=List.length_pos_iff.2 n1
  have HBL:=Lib.hid (bodyL_len n2)
  have HSN:=Lib.hid (secs_pos hn1 n3)
  rw [hw]
  clear hw n1 n2
  obtain ⟨x0,x1,x2⟩:=HBK1.out.three
  go_wp2_with fail
  refine (HBD.out HWR.out w1 HB1.out).mono ?_
  rintro e w2 ⟨rfl,hb2⟩
  have HB2:=Lib.hid (HB1.out.trans (hb2.mono HB1.out.size))
  have HBK2:=Lib.hid (HBK1.out.below_ hb2)
  clear hb2 x0 x1 x2
  have x2:w2.cell? ⟨w.heap.size,2,none⟩=some (.slice A l.length cap):=HBK2.out.cell 2
  obtain ⟨B,hB⟩:∃B,B=str (bodyL l):=⟨_,rfl⟩
  have HBS:=Lib.hid (show B.size=108*l.length by rw [hB,str_size,HBL.out])
  have HBB:=Lib.hid hB
  rw [←hB]
  clear hB
  go_wp2_with fail
  refine (secs_any (l.length:Int) w2).mono ?_
  rintro e w3 ⟨rfl,rfl⟩
  rw [HSN.out]
  rw [HSN.out] at HRL
  obtain ⟨q,hq⟩:∃q,(108*l.length+41) / 42=q:=⟨_,rfl⟩
  rw [hq] at HRL ⊢
  have hq1:q≤155:=by omega
  have hq2:q*42≤108*l.length+41:=by omega
  clear x2 hq
  go_wp2_with fail
  go_loopw [6,22] (fun t6 t22 wr=>∃k:Nat,k≤q∧t22 = .int .i64 k∧t6 = .string (str (recTo R k))∧Below w.heap.size w wr∧Blk wr w.heap.size 160 #[.int .u64 ep, .int .u64 ls, .slice A l.length cap]) (fun _ t22 _=>q - (intOf t22).toNat)
  case atStart=>exact ⟨0,by omega,rfl,by rw [HR0.out];rfl,HB2.out,HBK2.out⟩
  case round =>
   obtain ⟨k,hk,rfl,rfl,hb,hbk⟩:=hrel
   have HBr:=Lib.hid hb
   have HKr:=Lib.hid hbk
   clear hb hbk
   by_cases hlt:k<q
   ·have hltI:(k:Int)<(q:Int):=by omega
    have HPL:=Lib.hid (show k<256 by omega)
    have HNN:=Lib.hid (show l.length<256 by omega)
    obtain ⟨lo,hlo⟩:∃lo,k*42=lo:=⟨_,rfl⟩
    obtain ⟨hi,hhi⟩:∃hi,(k+1)*42=hi:=⟨_,rfl⟩
    obtain ⟨m,hm⟩:∃m,min hi (108*l.length)=m:=⟨_,rfl⟩
    have e1:IntKind.i64.wrap ((k:Int)*42)=(lo:Int):=by rw [IntWalk.i64_in _ (by omega)];omega
    have e2:IntKind.i64.wrap ((k:Int)+1)=(k:Int)+1:=IntWalk.i64_in _ (by omega)
    have e3:IntKind.i64.wrap (((k:Int)+1)*42)=(hi:Int):=by rw [IntWalk.i64_in _ (by omega)];omega
    have b0:(0:Int)≤(lo:Int):=by omega
    have b1:(lo:Int)≤(m:Int):=by omega
    have b2:(m:Int)≤(B.size:Int):=by rw [HBS.out];omega
    have hmin:∀(w:World) (ts:Array TypeId) (t:TypeId),(Builtin.min_ ts t #[.int .i64 (hi:Int), .int .i64 (B.size:Int)]).run Tryz.prog w = .ok (.int .i64 (m:Int)) w:=by
     intro w ts t
     simp only [Builtin.min_,HBS.out]
     rw [←hm]
     by_cases hc:hi<108*l.length
     ·simp [Builtin.min2]
      omega
     ·simp [Builtin.min2]
      omega
    have hch:B.extract lo m=str (chunk (bodyL l) k):=by
     rw [HBB.out,extract_str]
     unfold chunk
     rw [hlo,hhi,←hm]
     congr 2
     rw [←HBL.out]
     rcases Nat.le_total hi (bodyL l).length with hh | hh
     ·rw [Nat.min_eq_left hh]
     ·rw [Nat.min_eq_right hh,List.take_of_length_le (Nat.le_refl _),List.take_of_length_le hh]
    have hcl:(chunk (bodyL l) k).length≤42:=by rw [chunk_len];omega
    have HLB:=Lib.hid (show (le ep 8++(le ls 8++(le k 1++le l.length 1))).length=18 by simp [le_len])
    obtain ⟨L,hL⟩:∃L,str (le ep 8++(le ls 8++(le k 1++le l.length 1)))=L:=⟨_,rfl⟩
    obtain ⟨C,hC⟩:∃C,B.extract lo m=C:=⟨_,rfl⟩
    have hls:L.size=18:=by rw [←hL,str_size,HLB.out]
    have hcs:C.size≤42:=by rw [←hC,hch,str_size];exact hcl
    have hcat:¬9223372036854775807<L.size+C.size:=by omega
    have HZ:=Lib.hid (show (L++C).size≤60 by rw [ByteArray.size_append];omega)
    have HF:=Lib.hid (show str (stampL (L++C).data.toList 64)=str (recS R k) by
     rw [←hC,←hL,hch,str_append,str_list,HRS.out k])
    have HLL:=Lib.hid hL
    clear hls hcs hL
    have HC2:=Lib.hid (show (str (recTo R k)).size+(str (recS R k)).size≤9223372036854775807 by rw [str_size,str_size,HTL.out,HRZ.out];omega)
    have HCC:=Lib.hid (show str (recTo R k)++str (recS R k)=str (recTo R (k+1)) by rw [str_append,HTS.out])
    have hc2:=Nat.not_lt.2 HC2.out
    clear hlo hhi hm hch hcl hq2
    go_upto_region 8 with (fail)
    obtain ⟨x0,x1,x2⟩:=HKr.out.drew.three
    go_region_held3 (fun w'=>w'.cell? ⟨w.heap.size,0,none⟩=some (.int .u64 ep)∧w'.cell? ⟨w.heap.size,1,none⟩=some (.int .u64 ls)∧w'.cell? ⟨w.heap.size,2,none⟩=some (.slice A l.length cap))
     (first | exact ⟨x0,x1,x2⟩ | exact hk5.three | exact hk4.three | go_keep)
     (first | (go_at_call 149;((with_reducible refine (clabel_any ep ls k l.length A l.length cap _ HE.out HLS.out HPL.out HNN.out).mono ?_);rintro e4 w4 ⟨rfl,hb4⟩;rw [HLL.out];have hk4:=HKr.out.drew.below_ hb4)) | (go_at_call 173;((with_reducible refine (stamp_any (L++C) HZ.out _).mono ?_);rintro e5 w5 ⟨rfl,hb5⟩;rw [HF.out];have hk5:=hk4.below_ hb5)))
    all_goals
     have HB5:=Lib.hid ((HBr.out.trans ((below_of_drew hb4).mono HBr.out.size)).trans (hb5.mono (Nat.le_trans HBr.out.size hb4.size)))
     have HK5:=Lib.hid hk5
     clear hb4 hk4 hb5 hk5 x0 x1 x2 e1 e2 e3 hmin hcat hC
     go_wp2_with fail
     first
      | exact ⟨⟨k+1,by omega,by go_num,by rw [←HCC.out],HB5.out,HK5.out⟩,by simp [intOf];omega⟩
      | (go_roundw
         case rel=>exact ⟨k+1,by omega,by go_num,by rw [←HCC.out],HB5.out,HK5.out⟩
         case measure=>simp [intOf];omega)
   ·have hltI:¬(k:Int)<(q:Int):=by omega
    obtain rfl:k=q:=by omega
    go_wp2_with fail
    go_ret2
    exact ⟨by rw [HP.out,HWR.out,←HRL.out];rfl,HBr.out⟩
 ·have HP:=Lib.hid (show R.putS=⟨#[]⟩ by rw [HPS.out,if_neg hw])
  obtain ⟨E,hE⟩:∃E,R.wrongE=E:=⟨_,rfl⟩
  rw [hE] at hw ⊢
  have t1:(E != 0)=true:=bne_iff_ne.2 hw
  have HEE:=Lib.hid hE
  clear hw hE
  go_wp2_with fail
  go_ret2
  exact ⟨by rw [HP.out,HEE.out];rfl,HB1.out⟩
def logL (c:Nat):Nat→Prop:=fun x=>x=c∨x=c+1
def Lg.addN (g:Lg) (l:List Im):Nat:=if g.addE l=0 then g.next else 0
theorem logL_log (c:Nat):∀x,only c x→logL c x:=fun _ h => .inl h
theorem logL_ring (c:Nat):∀x,only (c+1) x→logL c x:=fun _ h => .inr h
theorem reads_entry (w:World) (x:En):Reads (w.alloc (.cells #[.int .u64 x.lsn, .int .i64 x.at_, .int .i64 x.n, .string x.bytes, .bool x.written] 126)) 5 (some ⟨w.heap.size,0,none⟩) 1 x.cells:=Reads.newAt w 126 5 1 _ #[.int .u64 x.lsn, .int .i64 x.at_, .int .i64 x.n, .string x.bytes, .bool x.written] _ rfl rfl rfl
section
variable {o:Nat→Nat} {c p q:Nat} {w:World} {g:Lg}
set_option maxRecDepth 100000 in
set_option maxHeartbeats 8000000 in
theorem gadd_any (h:LogAt o c w q g p) (l:List Im) (A:Option Addr) (cap:Nat) (hrd:Reads w 3 A l.length (imcells l)) (hll:l.length≤1000000) (hcap:l.length≤cap) (hcm:cap≤maxLen) (hd:∀i∈l,i.data.size≤maxLen) (hv:∀i∈l,i.ver<18446744073709551616)
 (he:g.epoch<18446744073709551616) (hn:g.next<18446744073709551616) (hl:g.live.length≤1000) (hu:g.used≤1000000) (hat:g.at_<7) (hc:1≤c) (hf:Fut o w) :
 Calls Tryz.prog 58 #[.pointer (some ⟨q,0,none⟩), .slice A l.length cap] w fun e w'=>e = .returned (.tuple #[.int .u64 (g.addN l), .int .i64 (g.addE l)])∧∃o',LogAt o' c w' q (g.addG l) p∧Step o (logL c) w o' w':=by
 have H:=Lib.hid h
 have HRD:=Lib.hid hrd
 have HCP:=Lib.hid (fun W (hb:Below w.heap.size w W)=>cput_any ⟨g.epoch,g.next,l⟩ W A cap (hrd.below' (by omega) hb) hll hcap hcm hd hv he hn)
 have HLL:=Lib.hid hll
 have HN:=Lib.hid hn
 have HL:=Lib.hid hl
 have HU:=Lib.hid hu
 have HAT:=Lib.hid hat
 have HC:=Lib.hid hc
 have HF:=Lib.hid hf
 obtain ⟨r,HB,HCC,HR,x14,_⟩:=h.out_
 have HAE:=Lib.hid (show g.addE l=if g.broken then 13 else if (Rc.mk g.epoch g.next l).wrongE≠0 then (Rc.mk g.epoch g.next l).wrongE else if 1<l.length then 31 else if 7<secsOf l.length+g.used then 10 else 0 from rfl)
 have HAG:=Lib.hid (show g.addG l=if g.addE l≠0 then g else {g with live:=g.live ++ [g.entry l],at_:=(g.at_+secsOf l.length) % 7,next:=(g.next+1) % 18446744073709551616} from rfl)
 have x3:w.cell? ⟨q,3,none⟩=some (.int .i64 8):=HB.out.cell 3
 obtain ⟨M,hM⟩:∃M,g.mayE=M:=⟨_,rfl⟩
 have HMM:=Lib.hid hM
 have HM2:=Lib.hid (show g.mayE=if g.broken then 13 else 0 from rfl)
 clear h hrd hll hcap hcm hd hv he hn hl hu hat hc hf x14 hM
 go_enter Tryz.func58,Tryz.ntmps58
 go_wp2_with fail
 refine (gmay_any H.out).mono ?_
 rintro e w1 ⟨rfl,rfl⟩
 rw [HMM.out]
 by_cases h0:M=0
 ·subst h0
  have HBR:=Lib.hid (show g.broken=false by have h1:=HM2.out;rw [HMM.out] at h1;cases hb:g.broken with | false=>rfl | true=>rw [hb] at h1;simp at h1)
  go_upto_region 4 with (fail)
  have x7:w.drew.cell? ⟨q,7,none⟩=some (.int .u64 g.epoch):=HB.out.cell 7
  have x9:w.drew.cell? ⟨q,9,none⟩=some (.int .u64 g.next):=HB.out.cell 9
  go_region_held3 (fun w'=>w'.cell? ⟨q,7,none⟩=some (.int .u64 g.epoch)∧w'.cell? ⟨q,9,none⟩=some (.int .u64 g.next))
   (first | exact ⟨x7,x9⟩ | exact ⟨hbk.cell 7,hbk.cell 9⟩ | go_keep)
   (first | (go_at_call 115;((with_reducible refine (HCP.out w.drew (below_drew' (Below.refl _ _))).mono ?_);rintro e2 w2 ⟨rfl,hb2⟩;have hbk:=HB.out.drew.below_ hb2)))
  have hb3:Below w.heap.size w w2:=below_of_drew hb2
  have HB2:=Lib.hid hbk
  have HS2:=Lib.hid (Step.of_below o (logL c) hb3)
  have H2:=Lib.hid (H.out.below_ hb3)
  have HF2:=Lib.hid (HF.out.below hb3)
  have HAB:=Lib.hid (show ∀e,g.addE l=e→e≠0→g.addE l=e∧g.addG l=g∧g.addN l=0 from fun e h1 h2=>⟨h1,by rw [HAG.out,if_pos (by rw [h1];exact h2)],by unfold Lg.addN;rw [if_neg (by rw [h1];exact h2)]⟩)
  clear hb2 hb3 hbk x7 x9 HCP HRD HR HB
  obtain ⟨E,hE⟩:∃E,(Rc.mk g.epoch g.next l).wrongE=E:=⟨_,rfl⟩
  have HWR:=Lib.hid hE
  obtain ⟨PS,hPS⟩:∃S,(Rc.mk g.epoch g.next l).putS=S:=⟨_,rfl⟩
  have HPS:=Lib.hid hPS
  rw [hE] at HAE ⊢
  rw [hPS]
  clear hE hPS
  by_cases h1:E=0
  ·subst h1
   have hl1:1≤l.length:=by have:=(wrong_zero HWR.out).2.2.1;cases l with | nil=>exact absurd rfl this | cons x l=>simp
   by_cases h2:1<l.length
   ·have HE:=Lib.hid (HAB.out 31 (by rw [HAE.out,HBR.out];simp [h2]) (by decide))
    have h2I:(1:Int)<(l.length:Int):=by omega
    have x3':w2.cell? ⟨q,3,none⟩=some (.int .i64 8):=HB2.out.cell 3
    clear h2 hl1
    go_wp2_with fail
    refine (most_eight _).mono ?_
    rintro e w3 ⟨rfl,rfl⟩
    go_wp2_with fail
    go_ret2
    obtain ⟨r1,r2,r3⟩:=HE.out
    exact ⟨by rw [r3,r1];rfl,o,by rw [r2];exact H2.out,HS2.out⟩
   ·obtain ⟨i0,hi0⟩:∃i,l = [i]:=by
     match l,hl1,h2 with
     | [i],_,_=>exact ⟨i,rfl⟩
     | _ :: _ :: _,_,h=>exact absurd (by simp) h
    have hle:l.length=1:=by rw [hi0];rfl
    have HI0:=Lib.hid hi0
    have x3':w2.cell? ⟨q,3,none⟩=some (.int .i64 8):=HB2.out.cell 3
    clear hi0 hl1 h2
    go_wp2_with fail
    refine (most_eight _).mono ?_
    rintro e w3 ⟨rfl,rfl⟩
    go_wp2_with fail
    refine (gfits_any H2.out (by have:=HL.out;omega) HU.out 1).mono ?_
    rintro e w3 ⟨rfl,hb3⟩
    have HB3:=Lib.hid (HB2.out.below_ hb3)
    have HS3:=Lib.hid (HS2.out.trans (Step.of_below o (logL c) hb3))
    have H3:=Lib.hid (H2.out.below_ hb3)
    have HF3:=Lib.hid (HF2.out.below hb3)
    have HFT:=Lib.hid (show g.fits 1=decide (3+g.used≤7) by unfold Lg.fits;rw [HMM.out];simp)
    rw [HFT.out]
    clear hb3 x3' HFT
    have hs3:secsOf ((1:Nat):Int)=3:=by decide
    have HA2:=Lib.hid (show g.addE l=if 7<3+g.used then 10 else 0 by rw [HAE.out,HBR.out,hle,hs3];simp)
    clear hs3
    by_cases h3:3+g.used≤7
    ·have hd3:decide (3+g.used≤7)=true:=decide_eq_true h3
     have HE0:=Lib.hid (show g.addE l=0 by rw [HA2.out,if_neg (by omega)])
     rw [hd3]
     go_upto_region 11 with (fail)
     have x9:w3.drew.cell? ⟨q,9,none⟩=some (.int .u64 g.next):=HB3.out.cell 9
     have x11:w3.drew.cell? ⟨q,11,none⟩=some (.int .i64 g.at_):=HB3.out.cell 11
     have hs3:secsOf 1=3:=by decide
     have v9:w3.cell? ⟨q,9,none⟩=some (.int .u64 g.next):=x9
     have v11:w3.cell? ⟨q,11,none⟩=some (.int .i64 g.at_):=x11
     have dn:=World.new_ne w3 _ v9
     have dn2:=World.new_ne w3 _ v11
     go_cut [9] from 50 to 62 (fun t9 wx=>t9 = .pointer (some ⟨w3.heap.size,0,none⟩)∧wx=(w3.alloc (.cells #[.int .u64 g.next, .int .i64 g.at_, .int .i64 3, .string PS, .bool false] 126)).drew)
     case first =>
      go_region_held3 (fun w'=>w'.cell? ⟨q,9,none⟩=some (.int .u64 g.next)∧w'.cell? ⟨q,11,none⟩=some (.int .i64 g.at_))
       (first | exact ⟨x9,x11⟩ | go_keep)
       (first | (go_at_call 118;((with_reducible refine (secs_any 1 _).mono ?_);rintro e4 w4 ⟨rfl,rfl⟩;rw [hs3])))
      all_goals
       go_wp2_with fail
       go_meet
       case rel=>exact ⟨rfl,rfl⟩
     case rest =>
      obtain ⟨rfl,rfl⟩:=hcut
      have HX4:=Lib.hid (Keep.new HF3.out 126 #[.int .u64 g.next, .int .i64 g.at_, .int .i64 3, .string PS, .bool false]).drew
      have HB4:=Lib.hid (HB3.out.alloc (.cells #[.int .u64 g.next, .int .i64 g.at_, .int .i64 3, .string PS, .bool false] 126)).drew
      have HS4:=Lib.hid (HS3.out.alloc (.cells #[.int .u64 g.next, .int .i64 g.at_, .int .i64 3, .string PS, .bool false] 126)).drew
      have H4:=Lib.hid (H3.out.alloc (.cells #[.int .u64 g.next, .int .i64 g.at_, .int .i64 3, .string PS, .bool false] 126)).drew
      have HF4:=Lib.hid (HF3.out.alloc (.cells #[.int .u64 g.next, .int .i64 g.at_, .int .i64 3, .string PS, .bool false] 126)).drew
      have HXW:=Lib.hid (show w.heap.size≤w3.heap.size from HS3.out.size)
      generalize (w3.alloc (.cells #[.int .u64 g.next, .int .i64 g.at_, .int .i64 3, .string PS, .bool false] 126)).drew=W4 at HX4 HB4 HS4 H4 HF4 ⊢
      generalize w3.heap.size=X at HX4 HXW ⊢
      clear x9 x11 v9 v11 dn dn2
      obtain ⟨r4,HBr,HCr,HRr,y14,_⟩:=H4.out.out_
      have z14:W4.drew.cell? ⟨q,14,none⟩=some (.pointer (some ⟨r4,0,none⟩)):=y14
      have z5:=HX4.out.drew.1.five
      obtain ⟨v0,v1,v2,v3,v4⟩:=HX4.out.1.five
      have dn:=World.new_ne W4 _ y14
      have dn0:=World.new_ne W4 _ v0
      have HRE:=Lib.hid (show Reads (W4.alloc (.cells #[.int .u64 g.next, .int .i64 g.at_, .int .i64 3, .string PS, .bool false] 126)).drew 5 (some ⟨W4.heap.size,0,none⟩) 1 (En.cells ⟨g.next,g.at_,3,PS,false⟩) from (reads_entry W4 ⟨g.next,g.at_,3,PS,false⟩).drew)
      have HLI:=Lib.hid (show (g.live.length:Int)<100000 by have:=HL.out;omega)
      have HEN:=Lib.hid (show g.entry l=⟨g.next,g.at_,3,PS,false⟩ by unfold Lg.entry;rw [HPS.out,hle];rfl)
      go_upto_region 12 with (fail)
      go_region_held3 (fun w'=>w'.cell? ⟨q,14,none⟩=some (.pointer (some ⟨r4,0,none⟩))∧w'.cell? ⟨X,0,none⟩=some (.int .u64 g.next)∧w'.cell? ⟨X,1,none⟩=some (.int .i64 g.at_)∧w'.cell? ⟨X,2,none⟩=some (.int .i64 3)∧w'.cell? ⟨X,3,none⟩=some (.string PS)∧w'.cell? ⟨X,4,none⟩=some (.bool false))
       (first | exact ⟨z14,z5.1,z5.2.1,z5.2.2.1,z5.2.2.2.1,z5.2.2.2.2⟩ | exact ⟨hb5.cell 14,hk5.1.cell 0,hk5.1.cell 1,hk5.1.cell 2,hk5.1.cell 3,hk5.1.cell 4⟩ | go_keep)
       (first | (go_at_call 119;((with_reducible refine (epush_any (HRr.out.alloc (.cells #[.int .u64 g.next, .int .i64 g.at_, .int .i64 3, .string PS, .bool false] 126)).drew (by omega) HLI.out (some ⟨W4.heap.size,0,none⟩) 1 ⟨g.next,g.at_,3,PS,false⟩ HRE.out (by omega) (by unfold maxLen;omega)).mono ?_);rintro e5 w5 ⟨rfl,o5,hr5,hs5⟩;have hb5:=(HBr.out.alloc (.cells #[.int .u64 g.next, .int .i64 g.at_, .int .i64 3, .string PS, .bool false] 126)).drew.step hs5 (by rw [HCr.out];unfold only;omega);have hk5:=(HX4.out.alloc (.cells #[.int .u64 g.next, .int .i64 g.at_, .int .i64 3, .string PS, .bool false] 126)).drew.step hs5 (by unfold only;omega))))
      have HX5:=Lib.hid hk5
      have HB5:=Lib.hid hb5
      have hc5:o5 q=c:=(hs5.old q (by simp;exact Nat.lt_succ_of_lt HBr.out.lt)).trans HCr.out
      have H5:=Lib.hid (show LogAt o5 c w5 q {g with live:=g.live ++ [⟨g.next,g.at_,3,PS,false⟩]} p from ⟨r4,hb5,hc5,hr5⟩)
      have HS5:=Lib.hid ((HS4.out.alloc (.cells #[.int .u64 g.next, .int .i64 g.at_, .int .i64 3, .string PS, .bool false] 126)).trans (hs5.of_drew.mono (logL_ring c)))
      have x11:w5.cell? ⟨q,11,none⟩=some (.int .i64 g.at_):=hb5.cell 11
      have f11:=hb5.frozen 11
      have xn:w5.cell? ⟨X,2,none⟩=some (.int .i64 3):=hk5.1.cell 2
      obtain ⟨m,hm⟩:∃m,(g.at_+3) % 7=m:=⟨_,rfl⟩
      have e1:IntKind.i64.wrap ((g.at_:Int)+3)=(g.at_:Int)+3:=IntWalk.i64_in _ (by have:=HAT.out;omega)
      have e2:((g.at_:Int)+3).tmod 7=(m:Int):=by rw [Int.tmod_eq_emod_of_nonneg (by omega)];omega
      have e3:IntKind.i64.wrap (m:Int)=(m:Int):=IntWalk.i64_in _ (by omega)
      have HM:=Lib.hid hm
      clear hb5 hk5 hs5 z14 z5 v0 v1 v2 v3 v4 dn dn0 y14 hm
      go_upto_region 13 with (fail)
      go_cut [] from 70 to 82 (fun wx=>wx=(w5.setCell ⟨q,11,none⟩ (.int .i64 m)).drew)
      case first =>
       go_region_with (go_at_call 120;((with_reducible refine (gsize_any H5.out.drew).mono ?_);rintro e6 w6 ⟨rfl,rfl⟩))
       all_goals
        go_wp2_with fail
        go_meet
        case rel=>rfl
      case rest =>
       obtain rfl:=hcut
       have S6:=(Step.refl o5 (only c) w5).setCell (p:=⟨q,11,none⟩) hc5 (.int .i64 m)
       have HB6:=Lib.hid (HB5.out.set_ 11 (.int .i64 m)).drew
       have HX6:=Lib.hid (HX5.out.step S6 (by have:=HC.out;unfold only;omega)).drew
       have HS6:=Lib.hid (HS5.out.trans (S6.mono (logL_log c))).drew
       have HR6:=Lib.hid (hr5.step S6 (by unfold only;omega)).drew
       clear S6 x11 f11 xn e1 e2 e3
       generalize (w5.setCell ⟨q,11,none⟩ (.int .i64 m)).drew=W6 at HB6 HX6 HS6 HR6 ⊢
       have x9:W6.cell? ⟨q,9,none⟩=some (.int .u64 g.next):=HB6.out.cell 9
       have f9:=HB6.out.frozen 9
       have x0:W6.cell? ⟨X,0,none⟩=some (.int .u64 g.next):=HX6.out.1.cell 0
       have S7:=(Step.refl o5 (only c) W6).setCell (p:=⟨q,9,none⟩) hc5 (.int .u64 ((g.next+1) % 18446744073709551616:Nat))
       have x0':(W6.setCell ⟨q,9,none⟩ (.int .u64 ((g.next+1) % 18446744073709551616:Nat))).cell? ⟨X,0,none⟩=some (.int .u64 g.next):=(HX6.out.step S7 (by have:=HC.out;unfold only;omega)).1.cell 0
       have HS7:=Lib.hid (HS6.out.trans (S7.mono (logL_log c)))
       have HR7:=Lib.hid (HR6.out.step S7 (by unfold only;omega))
       have HB7:=Lib.hid (HB6.out.set_ 9 (.int .u64 ((g.next+1) % 18446744073709551616:Nat)))
       have hw:IntKind.u64.wrap ((g.next:Int)+1)=(((g.next+1) % 18446744073709551616:Nat):Int):=by rw [IntKind.wrap_u64];omega
       have HAG2:=Lib.hid (show g.addG l = {g with live:=g.live ++ [⟨g.next,g.at_,3,PS,false⟩],at_:=m,next:=(g.next+1) % 18446744073709551616} by
        rw [HAG.out,if_neg (by rw [HE0.out];decide),HEN.out,hle,show secsOf ((1:Nat):Int)=3 from hs3,HM.out])
       have HAN:=Lib.hid (show g.addN l=g.next from if_pos HE0.out)
       clear S7
       go_wp2_with fail
       go_ret2
       exact ⟨by rw [HAN.out,HE0.out];rfl,o5,by rw [HAG2.out];exact ⟨r4,HB7.out,hc5,HR7.out⟩,HS7.out⟩
    ·have hd3:decide (3+g.used≤7)=false:=decide_eq_false h3
     have HE:=Lib.hid (HAB.out 10 (by rw [HA2.out,if_pos (by omega)]) (by decide))
     rw [hd3]
     go_wp2_with fail
     go_ret2
     obtain ⟨r1,r2,r3⟩:=HE.out
     exact ⟨by rw [r3,r1];rfl,o,by rw [r2];exact H3.out,HS3.out⟩
  ·have t1:(E != 0)=true:=bne_iff_ne.2 h1
   have HE:=Lib.hid (HAB.out E (by rw [HAE.out,HBR.out];simp [h1]) h1)
   clear h1
   go_wp2_with fail
   go_ret2
   obtain ⟨r1,r2,r3⟩:=HE.out
   exact ⟨by rw [r3,r1];rfl,o,by rw [r2];exact H2.out,HS2.out⟩
 ·have t1:(M != 0)=true:=bne_iff_ne.2 h0
  have HE:=Lib.hid (show g.addE l=M∧g.addG l=g∧g.addN l=0 by
   have h1:=HM2.out
   rw [HMM.out] at h1
   have hb:g.broken=true:=by cases hb:g.broken with | true=>rfl | false=>rw [hb] at h1;exact absurd h1 h0
   have h2:g.addE l=13:=by rw [HAE.out,if_pos hb]
   have h3:M=13:=by rw [h1,if_pos hb]
   exact ⟨h2.trans h3.symm,by rw [HAG.out,if_pos (by rw [h2];decide)],by unfold Lg.addN;rw [h2];rfl⟩)
  clear h0
  go_wp2_with fail
  go_ret2
  obtain ⟨r1,r2,r3⟩:=HE.out
  exact ⟨by rw [r3,r1];rfl,o,by rw [r2];exact H.out,Step.refl _ _ _⟩
end
end Go.Proofs.YtldoeodkeieejaaGreatDoor
