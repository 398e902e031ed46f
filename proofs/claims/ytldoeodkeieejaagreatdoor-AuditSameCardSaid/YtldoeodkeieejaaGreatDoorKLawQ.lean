import Derived.Test.YtldoeodkeieejaaGreatDoorKRecH
import Derived.Test.YtldoeodkeieejaaGreatDoorKLogB
import Derived.Test.YtldoeodkeieejaaGreatDoorKRefG
import Derived.Test.YtldoeodkeieejaaGreatDoorKLogE
import Derived.Test.YtldoeodkeieejaaGreatDoorKOpenRecs
namespace Go.Proofs.YtldoeodkeieejaaGreatDoor
open Go.RowKit
def rcells (x:Rc×Value):List Value := [.int .u64 x.1.epoch, .int .u64 x.1.lsn,x.2]
structure RecsAt (o:Nat→Nat) (w wr:World) (V:Value) (rs:List Rc) (vs:List Value):Prop where
 len:vs.length=rs.length
 own:OwnS o 1 wr 160 3 V rs.length ((rs.zip vs).flatMap rcells)
 ims:∀(k:Nat) (r:Rc) (v:Value),rs[k]? = some r→vs[k]? = some v→∃B cp,v = .slice B r.images.length cp∧OwnS o 2 wr 47 3 v r.images.length (imcells r.images)
 env:Env o w wr
 fut:Fut o wr
theorem RecsAt.start (w wr:World) (hb:Below w.heap.size w wr):RecsAt (fun _=>0) w wr (.slice none 0 0) [] [] :=
 ⟨rfl,OwnS.nil _ _ _ _ _,fun k r v h _=>by simp at h,(Env.start w).below_ hb,fun _ _=>rfl⟩
theorem RecsAt.step {o o':Nat→Nat} {w wr w':World} {V:Value} {rs:List Rc} {vs:List Value} {C:Nat→Prop} (h:RecsAt o w wr V rs vs) (hs:Step o C wr o' w') (h0:¬C 0) (h1:¬C 1) (h2:¬C 2):RecsAt o' w w' V rs vs :=
 ⟨h.len,h.own.step hs h1,fun k r v hr hv=>by obtain ⟨B,cp,e,hown⟩:=h.ims k r v hr hv;exact ⟨B,cp,e,hown.step hs h2⟩,h.env.step hs h0,h.fut.step hs⟩
theorem get_small {b:ByteArray} (h:getE b=0):1≤getN b∧getN b*64≤b.size:=by
 have hn:getN b=secsOf (firstN b):=if_pos h
 unfold getE at h
 split at h
 ·exact absurd h (by assumption)
 ·rename_i h1
  have h1:firstE b=0:=Classical.byContradiction h1
  split at h
  ·exact absurd h (by decide)
  ·rename_i h2
   refine ⟨?_,by rw [hn];omega⟩
   have:=first_ok h1
   have h3:¬secsOf (firstN b)=0:=fun e=>this (.inr (.inr (.inr e)))
   rw [hn]
   omega
theorem headI_E {D:Dk} {node:Int} (h:D.headI node=true):D.headE1 node=0∧lhE (D.headB node)=0∧(D.headH node).at_<7∧0≤(D.headH node).at_∧D.headE node=0:=by
 have h1:=of_decide_eq_true h
 have h2:D.headH node=lhG (D.headB node):=if_pos ⟨h1.1,h1.2.1⟩
 have h3:lhG (D.headB node)=lhX (D.headB node):=if_pos h1.2.1
 refine ⟨h1.1,h1.2.1,by rw [h2];exact h1.2.2,by rw [h2,h3];unfold lhX;simp,?_⟩
 unfold Dk.headE
 rw [h1.1,if_neg (by decide),if_pos h1.2.1]
theorem head_log {D:Dk} {node:Int} (h:D.headE1 node=0):(logAt node).2=0∧D.readE (logAt node).1 1=0:=by
 unfold Dk.headE1 at h
 split at h
 ·exact absurd h (by assumption)
 ·rename_i h1
  exact ⟨Classical.byContradiction h1,h⟩
theorem logAt_at {node:Int} (h:(logAt node).2=0):1≤(logAt node).1∧(logAt node).1≤9:=by
 unfold logAt at h ⊢
 split at h
 ·exact absurd h (by decide)
 ·rw [if_neg (by assumption)]
  simp only
  omega
theorem scanL_zero (ep:Nat) {f lsn:Nat} {b:ByteArray} (hf:b.size<f*64) (h:getE b≠0∨(getR b).epoch≠ep∨(getR b).lsn≠lsn):scanL ep f lsn b = []:=by
 cases f with
 | zero=>rfl
 | succ f=>exact if_pos h
theorem scanL_succ (ep:Nat) {f lsn:Nat} {b:ByteArray} (h:¬(getE b≠0∨(getR b).epoch≠ep∨(getR b).lsn≠lsn)):scanL ep (f+1) lsn b=getR b :: scanL ep f ((lsn+1) % 18446744073709551616) (b.extract (getN b*64) b.size):=if_neg h
def strLen : Value→Nat
 | .string s=>s.size
 | _=>0
theorem info_rec : (Tryz.prog.info? 160).map (fun i=>(i.zero,i.size,i.bytes))=some (some (.agg #[.int .u64 0, .int .u64 0, .slice none 0 0]),3,40):=by kernel_rfl
def ScanPost (w:World) (rs:List Rc) (E:Int) (e:Ending) (w':World):Prop:=∃A cap,e = .returned (.tuple #[.slice A rs.length cap, .int .i64 E])∧∃o vs,RecsAt o w w' (.slice A rs.length cap) rs vs
theorem RecsAt.add {o2 o3:Nat→Nat} {w w2 w3:World} {V V':Value} {rs:List Rc} {vs:List Value} {r:Rc} {B:Option Addr} {cp:Nat} (h:RecsAt o2 w w2 V rs vs) (hi:OwnS o2 2 w2 47 3 (.slice B r.images.length cp) r.images.length (imcells r.images))
 (hs:Step o2 (only 1) w2 o3 w3) (hown:OwnS o3 1 w3 160 3 V' (rs.length+1) ((rs.zip vs).flatMap rcells ++ [.int .u64 r.epoch, .int .u64 r.lsn, .slice B r.images.length cp])):RecsAt o3 w w3 V' (rs ++ [r]) (vs ++ [.slice B r.images.length cp]):=by
 refine ⟨by simp [h.len],?_,?_,h.env.step hs (by unfold only;omega),h.fut.step hs⟩
 ·rw [List.zip_append h.len.symm,List.flatMap_append,List.length_append]
  simpa [rcells] using hown
 ·intro k r' v hr hv
  by_cases hk:k<rs.length
  ·rw [List.getElem?_append_left hk] at hr
   rw [List.getElem?_append_left (by rw [h.len];exact hk)] at hv
   obtain ⟨B',cp',e,ho⟩:=h.ims k r' v hr hv
   exact ⟨B',cp',e,ho.step hs (by unfold only;omega)⟩
  ·rw [List.getElem?_append_right (by omega)] at hr
   rw [List.getElem?_append_right (by rw [h.len];omega),h.len] at hv
   obtain ⟨n,hn⟩:∃n,k - rs.length=n:=⟨_,rfl⟩
   rw [hn] at hr hv
   cases n with
   | zero =>
     simp at hr hv
     subst hr
     subst hv
     exact ⟨B,cp,rfl,hi.step hs (by unfold only;omega)⟩
   | succ n=>simp at hr
set_option maxRecDepth 100000 in
set_option maxHeartbeats 8000000 in
theorem escan_any {o:Nat→Nat} {c p:Nat} {w:World} {D:Dk} (h:DiskAt o c w p D) (hsec:D.sectors≤20000) (hwf:D.wf) (node:Int) :
 Calls Tryz.prog 32 #[.pointer (some ⟨p,0,none⟩), .agg #[.int .i64 2, .int .i64 10, .int .i64 8, .int .i64 4, .int .i64 32], .int .i64 node] w (ScanPost w (D.scan node) (D.scanE node)):=by
 have hB0:=(Below.refl w.heap.size w).alloc (Nat.le_refl _) (.cells #[.int .i64 2, .int .i64 10, .int .i64 8, .int .i64 4, .int .i64 32] 30)
 have HB:=Lib.hid hB0
 have HD:=Lib.hid (h.alloc (.cells #[.int .i64 2, .int .i64 10, .int .i64 8, .int .i64 4, .int .i64 32] 30))
 have HL:=Lib.hid (Blk.new w 30 #[.int .i64 2, .int .i64 10, .int .i64 8, .int .i64 4, .int .i64 32])
 have HW:=Lib.hid hwf
 obtain ⟨RS,hRS⟩:∃RS,D.scan node=RS:=⟨_,rfl⟩
 obtain ⟨RE,hRE⟩:∃RE,D.scanE node=RE:=⟨_,rfl⟩
 rw [hRS,hRE]
 have HRE:=Lib.hid (show RE=if D.headE node≠0 then D.headE node else if D.headI node=false then 0 else D.readE ((logAt node).1+1) 7 from hRE▸rfl)
 have HRS:=Lib.hid (show RS=if D.headE node≠0∨D.headI node=false∨D.readE ((logAt node).1+1) 7≠0 then [] else scanL (D.headH node).epoch 10 (D.headH node).lsn (rotS (D.readS ((logAt node).1+1) 7) ((D.headH node).at_.toNat*64)) from hRS▸rfl)
 clear h hwf hB0 hRS hRE
 go_enter Tryz.func32,Tryz.ntmps32
 go_wp2_with fail
 generalize w.alloc (.cells #[.int .i64 2, .int .i64 10, .int .i64 8, .int .i64 4, .int .i64 32] 30)=W at HB HD HL ⊢
 refine (ehead_any HD.out hsec HW.out node).mono ?_
 rintro r w1 ⟨rfl,hb1⟩
 have HB1:=Lib.hid (HB.out.trans (hb1.mono HB.out.size))
 have HD1:=Lib.hid (HD.out.below_ hb1)
 have HL1:=Lib.hid (HL.out.below_ hb1)
 clear hb1
 cases hI:D.headI node with
 | false =>
   have HE1:=Lib.hid (show RE=D.headE node by rw [HRE.out,hI];by_cases h0:D.headE node=0 <;> simp [h0])
   have HE2:=Lib.hid (show RS = [] by rw [HRS.out,hI];simp)
   generalize D.headE node=E at HE1 ⊢
   obtain ⟨X,hX⟩:∃X,D.headH node=X:=⟨_,rfl⟩
   obtain ⟨xe,xl,xa⟩:=X
   rw [hX]
   unfold Hd.agg
   clear hI hX HRE HRS
   have HB2:=Lib.hid (HB1.out.alloc HB1.out.size (.cells #[.int .u64 xe, .int .u64 xl, .int .i64 xa] 156))
   go_wp2_with fail
   go_ret2
   rw [HE1.out,HE2.out]
   exact ⟨none,0,rfl,_,[],RecsAt.start _ _ HB2.out⟩
 | true =>
   obtain ⟨i1,i2,i3,i4,i5⟩:=headI_E hI
   obtain ⟨l1,l2⟩:=head_log i1
   obtain ⟨l3,l4⟩:=logAt_at l1
   obtain ⟨X,hX⟩:∃X,D.headH node=X:=⟨_,rfl⟩
   obtain ⟨xe,xl,xa⟩:=X
   rw [hX] at HRS i3 i4 ⊢
   rw [i5,hI] at HRE HRS
   rw [i5]
   obtain ⟨A,hA⟩:∃A,logAt node=A:=⟨_,rfl⟩
   have HLA:=Lib.hid hA
   rw [hA] at HRE HRS l1 l3 l4
   obtain ⟨a,ae⟩:=A
   simp only at HRE HRS l1 l3 l4
   subst l1
   obtain ⟨f,hf⟩:∃f:Nat,xa=f:=⟨xa.toNat,by simp only at i4;omega⟩
   subst hf
   simp only at i3
   have HX3:=Lib.hid i3
   have HA3:=Lib.hid l3
   have HA4:=Lib.hid l4
   unfold Hd.agg
   clear hI i1 i2 i3 i4 i5 l2 l3 l4 hX hA
   have HB2:=Lib.hid (HB1.out.alloc HB1.out.size (.cells #[.int .u64 xe, .int .u64 xl, .int .i64 (f:Int)] 156))
   have HD2:=Lib.hid (HD1.out.alloc (.cells #[.int .u64 xe, .int .u64 xl, .int .i64 (f:Int)] 156))
   have HL2:=Lib.hid (HL1.out.alloc (.cells #[.int .u64 xe, .int .u64 xl, .int .i64 (f:Int)] 156))
   have HX2:=Lib.hid (Blk.new w1 156 #[.int .u64 xe, .int .u64 xl, .int .i64 (f:Int)])
   obtain ⟨x0,x1,x2,x3,x4⟩:=HL2.out.five
   go_wp2_with fail
   generalize w1.alloc (.cells #[.int .u64 xe, .int .u64 xl, .int .i64 (f:Int)] 156)=W2 at HB2 HD2 HL2 HX2 x0 x1 x2 x3 x4 ⊢
   generalize w1.heap.size=gX at HX2 ⊢
   refine (logat_any node W2).mono ?_
   rintro r w3 ⟨rfl,hb3⟩
   rw [HLA.out]
   have HB3:=Lib.hid (HB2.out.trans (hb3.mono HB2.out.size))
   have HD3:=Lib.hid (HD2.out.below_ hb3)
   have HL3:=Lib.hid (HL2.out.below_ hb3)
   have HX3':=Lib.hid (HX2.out.below_ hb3)
   clear hb3 x0 x1 x2 x3 x4
   have x2:w3.cell? ⟨w.heap.size,2,none⟩=some (.int .i64 8):=HL3.out.cell 2
   have hw7:IntKind.i64.wrap 7=7:=by rw [IntKind.wrap_i64];decide
   have hwa:IntKind.i64.wrap (a+1)=a+1:=IntWalk.i64_in _ (by have:=HA3.out;have:=HA4.out;omega)
   go_wp2_with fail
   refine (dread_any HD3.out (a+1) 7 hsec HW.out).mono ?_
   rintro r w4 ⟨rfl,hb4⟩
   have HB4:=Lib.hid (HB3.out.trans (hb4.mono HB3.out.size))
   have HX4:=Lib.hid (HX3'.out.below_ hb4)
   clear hb4 x2 hw7 hwa
   obtain ⟨F,hF⟩:∃F,D.readE (a+1) 7=F:=⟨_,rfl⟩
   by_cases h1:F=0
   ·subst h1
    have hbs:(D.readS (a+1) 7).size=448:=by
     unfold Dk.readS
     rw [if_pos hF,str_size,Dk.readL_len HW.out]
     rfl
    rw [hF] at HRE HRS ⊢
    obtain ⟨b,hb⟩:∃b,D.readS (a+1) 7=b:=⟨_,rfl⟩
    rw [hb] at HRS hbs ⊢
    have HE2:=Lib.hid (show RE=0 by rw [HRE.out];simp)
    obtain ⟨lo,hlo⟩:∃lo,f*64=lo:=⟨_,rfl⟩
    have HS2:=Lib.hid (show RS=scanL xe 10 xl (rotS b lo) by
     have h1:=HRS.out
     simp only [Int.toNat_natCast,hlo] at h1
     rw [h1]
     simp)
    obtain ⟨L,hL⟩:∃L,b.extract lo b.size=L:=⟨_,rfl⟩
    obtain ⟨M,hM⟩:∃M,b.extract 0 lo=M:=⟨_,rfl⟩
    have hlo2:lo≤384:=by have:=HX3.out;omega
    have hLs:L.size=448 - lo:=by rw [←hL,ByteArray.size_extract];omega
    have hMs:M.size=lo:=by rw [←hM,ByteArray.size_extract];omega
    have e1:IntKind.i64.wrap ((f:Int)*64)=(lo:Int):=by rw [IntWalk.i64_in _ (by have:=HX3.out;omega)];omega
    have b0:(0:Int)≤(lo:Int):=by omega
    have b1:(lo:Int)≤(b.size:Int):=by omega
    have b2:¬9223372036854775807<L.size+M.size:=by omega
    have HCC:=Lib.hid (show L++M=rotS b lo by unfold rotS;rw [hL,hM])
    have hRs:(rotS b lo).size=448:=by rw [←HCC.out,ByteArray.size_append];omega
    have HRZ:=Lib.hid hRs
    clear HRE HRS hF hb hlo hlo2 hLs hMs hbs hRs
    obtain ⟨y0,y1,y2⟩:=HX4.out.three
    go_upto_region 10 with (fail)
    go_region_held3 (fun _=>True) (first | exact trivial) (fail)
    have HB5:=Lib.hid (below_drew' HB4.out)
    have HX5:=Lib.hid HX4.out.drew
    rw [HCC.out]
    generalize rotS b lo=B0 at HS2 HRZ ⊢
    generalize w4.drew=W5 at HB5 HX5 ⊢
    clear e1 b0 b1 b2 y0 y1 y2 hL hM HCC
    obtain ⟨z0,z1,z2⟩:=HX5.out.three
    go_wp2_with fail
    clear z0 z1 z2
    go_loopw [14,16,17] (fun t14 t16 t17 wr=>∃(f':Nat) (b':ByteArray) (ls:Nat) (A:Option Addr) (cap:Nat) (rs:List Rc) (vs:List Value) (o1:Nat→Nat),t14 = .string b'∧t16 = .slice A rs.length cap∧t17 = .int .u64 ls∧b'.size<f'*64∧b'.size≤448∧rs.length+f'≤10∧RS=rs++scanL xe f' ls b'∧RecsAt o1 w wr (.slice A rs.length cap) rs vs∧Keep o1 wr gX 156 #[.int .u64 xe, .int .u64 xl, .int .i64 (f:Int)]) (fun t14 _ _ _=>strLen t14)
    case atStart=>exact ⟨10,B0,xl,none,0,[],[],fun _=>0,rfl,rfl,rfl,by have:=HRZ.out;omega,by have:=HRZ.out;omega,by simp,HS2.out,RecsAt.start _ _ HB5.out,HX5.out,rfl⟩
    case round =>
     obtain ⟨f',b',ls,A,cap,rs,vs,o1,rfl,rfl,rfl,hf1,hf2,hf3,hrs,hra,hkx⟩:=hrel
     have HF1:=Lib.hid hf1
     have HF2:=Lib.hid hf2
     have HF3:=Lib.hid hf3
     have HRS2:=Lib.hid hrs
     have HRA:=Lib.hid hra
     have HKX:=Lib.hid hkx
     clear hf1 hf2 hf3 hrs hra hkx
     go_wp2_with fail
     refine (cget_any o1 2 b' wr (by have:=HF2.out;omega)).mono ?_
     rintro e w2 ⟨A2,cap2,rfl,hown,hb2⟩
     have hs2:Step o1 (fun _=>False) wr (band o1 wr.heap.size w2.heap.size 2) w2:=Step.of_below_band o1 _ 2 hb2
     generalize band o1 wr.heap.size w2.heap.size 2=o2 at hown hs2
     have HR2:=Lib.hid (HRA.out.step hs2 id id id)
     have HK2:=Lib.hid (HKX.out.step hs2 id)
     have HGS:=Lib.hid (fun (h:getE b'=0)=>get_small h)
     have HSC:=Lib.hid (fun f (h:b'.size<f*64) (hb:getE b'≠0∨(getR b').epoch≠xe∨(getR b').lsn≠ls)=>scanL_zero xe h hb)
     have HSD:=Lib.hid (fun f (hb:¬(getE b'≠0∨(getR b').epoch≠xe∨(getR b').lsn≠ls))=>scanL_succ xe (f:=f) hb)
     clear hb2 hs2
     obtain ⟨⟨re,rl,ri⟩,hR⟩:∃R,getR b'=R:=⟨_,rfl⟩
     obtain ⟨E,hE⟩:∃E,getE b'=E:=⟨_,rfl⟩
     obtain ⟨N,hN⟩:∃N,getN b'=N:=⟨_,rfl⟩
     rw [hE,hR] at HSC
     rw [hE,hR,hN] at HSD
     rw [hE,hN] at HGS
     rw [hR] at hown
     rw [hR,hN,hE]
     simp only at HSC HSD hown ⊢
     clear hR hE hN
     have HO2:=Lib.hid hown
     have HR3:=Lib.hid (HR2.out.step ((Step.refl o2 (fun _=>False) w2).alloc (.cells #[.int .u64 re, .int .u64 rl, .slice A2 ri.length cap2] 160)) id id id)
     have HK3:=Lib.hid (HK2.out.alloc (.cells #[.int .u64 re, .int .u64 rl, .slice A2 ri.length cap2] 160))
     have HO3:=Lib.hid (hown.alloc (.cells #[.int .u64 re, .int .u64 rl, .slice A2 ri.length cap2] 160))
     have HQ3:=Lib.hid (Keep.new HR2.out.fut 160 #[.int .u64 re, .int .u64 rl, .slice A2 ri.length cap2])
     clear hown
     obtain ⟨z0,z1,z2⟩:=HK3.out.1.three
     by_cases c0:E=0
     ·subst c0
      by_cases c1:re=xe
      ·subst c1
       by_cases c2:rl=ls
       ·subst c2
        obtain ⟨i0,hi0,hz0,hz1,hz2⟩:=info_parts info_rec
        obtain ⟨g1,g2⟩:=HGS.out rfl
        obtain ⟨f2,hf2⟩:∃m,f'=m+1:=⟨f' - 1,by have:=HF1.out;omega⟩
        have HRS3:=Lib.hid (show RS=(rs ++ [⟨re,rl,ri⟩])++scanL re f2 ((rl+1) % 18446744073709551616) (b'.extract (N*64) b'.size) by
         rw [HRS2.out,hf2,HSD.out f2 (fun h=>by rcases h with h | h | h <;> exact h rfl),List.append_assoc]
         rfl)
        obtain ⟨hi,hhi⟩:∃hi,N*64=hi:=⟨_,rfl⟩
        rw [hhi] at HRS3 g2
        have HF4:=Lib.hid (show (b'.extract hi b'.size).size<f2*64 by rw [ByteArray.size_extract];have:=HF1.out;omega)
        have HF5:=Lib.hid (show (b'.extract hi b'.size).size≤448 by rw [ByteArray.size_extract];have:=HF2.out;omega)
        have HF6:=Lib.hid (show (b'.extract hi b'.size).size<b'.size by rw [ByteArray.size_extract];omega)
        have HF7:=Lib.hid (show (rs ++ [(⟨re,rl,ri⟩:Rc)]).length+f2≤10 by rw [List.length_append];have:=HF3.out;simp only [List.length_cons,List.length_nil];omega)
        have hrl:rs.length≤10:=by have:=HF3.out;omega
        have e1:IntKind.i64.wrap ((N:Int)*64)=(hi:Int):=by rw [IntWalk.i64_in _ (by have:=HF2.out;omega)];omega
        have b0:(0:Int)≤(hi:Int):=by omega
        have b1:(hi:Int)≤(b'.size:Int):=by omega
        have hw:IntKind.u64.wrap ((rl:Int)+1)=(((rl+1) % 18446744073709551616:Nat):Int):=by rw [IntKind.wrap_u64];omega
        clear hf2 hhi g1 g2
        go_upto_region 17 with (fail)
        generalize w2.alloc (.cells #[.int .u64 re, .int .u64 rl, .slice A2 ri.length cap2] 160)=W3 at HR3 HK3 HO3 HQ3 z0 z1 z2 ⊢
        generalize w2.heap.size=X at HQ3 ⊢
        obtain ⟨v0,v1,v2⟩:=HQ3.out.1.three
        have HR4:=Lib.hid (HR3.out.step ((Step.refl o2 (fun _=>False) W3).alloc (.cells #[.int .u64 re, .int .u64 rl, .slice A2 ri.length cap2] 160)) id id id)
        have HK4:=Lib.hid (HK3.out.alloc (.cells #[.int .u64 re, .int .u64 rl, .slice A2 ri.length cap2] 160))
        have HO4:=Lib.hid (HO3.out.alloc (.cells #[.int .u64 re, .int .u64 rl, .slice A2 ri.length cap2] 160))
        clear z0 z1 z2
        go_wp2_with (at_builtin;refine wpList_append_S _ rfl (.tmp 93) (.tmp 95) 97 rfl 160 i0 _ 3 40 Tryz.underlying97 hi0 hz0 hz1 hz2 rfl (by omega) (.slice A rs.length cap) rs.length ((rs.zip vs).flatMap rcells) rfl HR4.out.own (some ⟨W3.heap.size,0,none⟩) 1 1 [.int .u64 re, .int .u64 rl, .slice A2 ri.length cap2] rfl (Reads.newAt W3 160 3 1 _ #[.int .u64 re, .int .u64 rl, .slice A2 ri.length cap2] _ rfl rfl rfl) (by simp [Value.oneCell']) (by unfold maxLen;omega) (by omega) ?_;intro v7 w7 hown7 hst7 hgr7 hat7)
        obtain ⟨A7,cap7,rfl,_,_⟩:=own_form' hown7
        refine ⟨⟨f2,b'.extract hi b'.size,(rl+1) % 18446744073709551616,A7,cap7,rs ++ [⟨re,rl,ri⟩],vs ++ [.slice A2 ri.length cap2],_,rfl,?_,?_,HF4.out,HF5.out,HF7.out,HRS3.out,?_,HK4.out.step hst7 (by unfold only;omega)⟩,HF6.out⟩
        ·rw [List.length_append];rfl
        ·go_num
        ·have h9:=RecsAt.add (r:=⟨re,rl,ri⟩) HR4.out HO4.out hst7 hown7
         rw [List.length_append]
         exact h9
       ·have HE3:=Lib.hid (show RS=rs by rw [HRS2.out,HSC.out _ HF1.out (.inr (.inr c2)),List.append_nil])
        have t1:((rl:Int) != (ls:Int))=true:=bne_iff_ne.2 (by omega)
        have t2:¬(rl:Int)=(ls:Int):=by omega
        clear c2
        go_wp2_with fail
        go_ret2
        rw [HE3.out,HE2.out]
        exact ⟨A,cap,rfl,_,vs,HR3.out⟩
      ·have HE3:=Lib.hid (show RS=rs by rw [HRS2.out,HSC.out _ HF1.out (.inr (.inl c1)),List.append_nil])
       have t1:((re:Int) != (xe:Int))=true:=bne_iff_ne.2 (by omega)
       have t2:¬(re:Int)=(xe:Int):=by omega
       clear c1
       go_wp2_with fail
       go_ret2
       rw [HE3.out,HE2.out]
       exact ⟨A,cap,rfl,_,vs,HR3.out⟩
     ·have HE3:=Lib.hid (show RS=rs by rw [HRS2.out,HSC.out _ HF1.out (.inl c0),List.append_nil])
      have t1:(E != 0)=true:=bne_iff_ne.2 c0
      clear c0
      go_wp2_with fail
      go_ret2
      rw [HE3.out,HE2.out]
      exact ⟨A,cap,rfl,_,vs,HR3.out⟩
   ·have t1:(F != 0)=true:=bne_iff_ne.2 h1
    have HE2:=Lib.hid (show RE=F by rw [HRE.out,hF];simp)
    have HS2:=Lib.hid (show RS = [] by rw [HRS.out,hF];simp [h1])
    rw [hF]
    clear h1 hF
    go_wp2_with fail
    go_ret2
    rw [HE2.out,HS2.out]
    exact ⟨none,0,rfl,_,[],RecsAt.start _ _ HB4.out⟩
def Small (i:Im):Prop:=i.data.size≤108∧i.ver<18446744073709551616∧0≤i.block∧i.block<4294967296
theorem imG_small {t:List UInt8} (h:t.length≤120):Small (imG t):=by
 refine ⟨?_,numV_lt _ 8 (by omega),by simp [imG],?_⟩
 ·show (str (t.drop 12)).size≤108
  rw [str_size,List.length_drop]
  omega
 ·have:(imR t).numV 4<4294967296:=numV_lt _ 4 (by omega)
  show (((imR t).numV 4:Nat):Int)<_
  omega
theorem imsG_small {t:List UInt8} {n:Nat}:∀i∈imsG t n,Small i:=by
 intro i hi
 unfold imsG at hi
 obtain ⟨k,_,rfl⟩:=List.mem_map.1 hi
 refine imG_small ?_
 rw [List.length_drop,List.length_take]
 omega
theorem getR_small {b:ByteArray} (h:getE b=0):(getR b).images.length≤60∧∀i∈(getR b).images,Small i:=by
 have h1:getR b=getX b:=if_pos h
 have h3:(getX b).images=imsG (placesL b (secsOf (firstN b))) (firstN b):=by unfold getX;simp only
 rw [h1,h3]
 have hn:=(get_small h).1
 have h2:getN b=secsOf (firstN b):=if_pos h
 rw [h2] at hn
 have h4:=secs_ne (n:=firstN b) (by omega)
 clear h1 h2 h3 h
 refine ⟨?_,fun i hi=>imsG_small i hi⟩
 rw [imsG_len]
 exact h4.2.1
theorem scanL_small (ep:Nat):∀(f lsn:Nat) (b:ByteArray),(scanL ep f lsn b).length≤f∧∀r∈scanL ep f lsn b,r.images.length≤60∧∀i∈r.images,Small i
 | 0,_,_=>⟨Nat.le_refl _,fun r hr=>by simp [scanL] at hr⟩
 | f+1,lsn,b=>by
   by_cases h:getE b≠0∨(getR b).epoch≠ep∨(getR b).lsn≠lsn
   ·have e:scanL ep (f+1) lsn b = []:=if_pos h
    rw [e]
    exact ⟨Nat.zero_le _,fun r hr=>by simp at hr⟩
   ·rw [scanL_succ ep h]
    obtain ⟨h1,h2⟩:=scanL_small ep f ((lsn+1) % 18446744073709551616) (b.extract (getN b*64) b.size)
    refine ⟨by rw [List.length_cons];omega,fun r hr => ?_⟩
    rcases List.mem_cons.1 hr with rfl | hr
    ·exact getR_small (Classical.byContradiction fun e=>h (.inl e))
    ·exact h2 r hr
theorem scan_small (D:Dk) (node:Int):(D.scan node).length≤10∧∀r∈D.scan node,r.images.length≤60∧∀i∈r.images,Small i:=by
 unfold Dk.scan
 split
 ·exact ⟨Nat.zero_le _,fun r hr=>by simp at hr⟩
 ·exact scanL_small _ _ _ _
theorem best_mem (l:List Im):∀k x,bestOf l k=some x→x∈l:=by
 have key:∀(l:List Im) (f:Int→Option Im) (k:Int) (x:Im),l.foldl bestStep f k=some x→(f k=some x∨x∈l):=by
  intro l
  induction l with
  | nil=>intro f k x h;exact .inl h
  | cons y l ih =>
    intro f k x h
    rw [List.foldl_cons] at h
    rcases ih _ k x h with h | h
    ·have:f k=some x∨x=y:=by
      cases hf:f y.block with
      | none =>
        rw [best_none hf] at h
        unfold upd at h
        split at h
        ·exact .inr (Option.some.inj h).symm
        ·exact .inl h
      | some was =>
        rw [best_some hf] at h
        split at h
        ·unfold upd at h
         split at h
         ·exact .inr (Option.some.inj h).symm
         ·exact .inl h
        ·exact .inl h
     rcases this with h | rfl
     ·exact .inl h
     ·exact .inr (List.mem_cons_self ..)
    ·exact .inr (List.mem_cons_of_mem _ h)
 intro k x h
 rcases key l (fun _=>none) k x h with h | h
 ·simp at h
 ·exact h
theorem small_zero : Small Im.zero:=⟨Nat.zero_le _,by decide,by decide,by decide⟩
theorem plan_small {rs:List Rc} (h:∀r∈rs,r.images.length≤60∧∀i∈r.images,Small i):(planOf rs).length≤rs.length*100∧∀i∈planOf rs,Small i:=by
 refine ⟨?_,fun i hi => ?_⟩
 ·rw [plan_eq,List.length_map]
  unfold keysOf
  rw [List.length_mergeSort]
  have h1:=dups_len ((rs.flatMap (·.images)).map (·.block))
  rw [List.length_map] at h1
  have h2:=flat_im (rs:=rs) (fun r hr=>by have:=(h r hr).1;omega)
  omega
 ·rw [plan_eq] at hi
  obtain ⟨k,_,rfl⟩:=List.mem_map.1 hi
  unfold keyG
  cases hb:bestOf (rs.flatMap (·.images)) k with
  | none=>exact small_zero
  | some x =>
    obtain ⟨r,hr,hx⟩:=List.mem_flatMap.1 (best_mem _ k x hb)
    exact (h r hr).2 x hx
theorem RecsAt.rd {o:Nat→Nat} {w wr:World} {A:Option Addr} {cap:Nat} {rs:List Rc} {vs:List Value} (h:RecsAt o w wr (.slice A rs.length cap) rs vs):RecsRd wr A rs vs :=
 ⟨h.len,Reads.of_own h.own.1,fun k r v hr hv=>by obtain ⟨B,cp,e,ho⟩:=h.ims k r v hr hv;subst e;exact ⟨B,cp,rfl,Reads.of_own ho.1⟩⟩
def Lg.new (node epoch base:Nat):Lg:=⟨node,epoch,base,1,1,0,0,0,[],false⟩
set_option maxRecDepth 100000 in
set_option maxHeartbeats 8000000 in
theorem gopen_any {o:Nat→Nat} {c cd p k:Nat} {w:World} {D:Dk} (hd:DiskAt o cd w p D) (ht:Tame D k) (hk:k≤800000) (hcd:1≤cd) (hc:cd+5<c) (hf:Fut o w) (node epoch base:Nat) (hla:logAt (node:Int)=((base:Int),0)) (hep:epoch<18446744073709551616) (hok:(D.lhead (Lg.new node epoch base) ⟨epoch,1,0⟩).1=0) :
 Calls Tryz.prog 20 #[.pointer (some ⟨p,0,none⟩), .agg #[.int .i64 2, .int .i64 10, .int .i64 8, .int .i64 4, .int .i64 32], .int .i64 (node:Int), .int .u64 (epoch:Int)] w fun e w'=>∃q,e = .returned (.tuple #[.pointer (some ⟨q,0,none⟩), .int .i64 0])∧∃o',DiskAt o' cd w' p (D.lhead (Lg.new node epoch base) ⟨epoch,1,0⟩).2∧LogAt o' c w' q (Lg.new node epoch base) p∧Step o (six cd) w o' w':=by
 have HG:=Lib.hid (Keep.new hf 30 #[.int .i64 2, .int .i64 10, .int .i64 8, .int .i64 4, .int .i64 32])
 have HD:=Lib.hid (hd.alloc (.cells #[.int .i64 2, .int .i64 10, .int .i64 8, .int .i64 4, .int .i64 32] 30))
 have HF:=Lib.hid (hf.alloc (.cells #[.int .i64 2, .int .i64 10, .int .i64 8, .int .i64 4, .int .i64 32] 30))
 have HS:=Lib.hid ((Step.refl o (six cd) w).alloc (.cells #[.int .i64 2, .int .i64 10, .int .i64 8, .int .i64 4, .int .i64 32] 30))
 have HT:=Lib.hid ht
 have HK:=Lib.hid hk
 have HCD:=Lib.hid hcd
 have HC:=Lib.hid hc
 have HLA:=Lib.hid hla
 have HEP:=Lib.hid hep
 have HOK:=Lib.hid hok
 clear hd ht hk hcd hc hf hla hep hok
 go_enter Tryz.func20,Tryz.ntmps20
 go_wp2_with fail
 generalize w.alloc (.cells #[.int .i64 2, .int .i64 10, .int .i64 8, .int .i64 4, .int .i64 32] 30)=W at HG HD HF HS ⊢
 refine (logat_any node W).mono ?_
 rintro r w1 ⟨rfl,hb1⟩
 rw [HLA.out]
 have HG1:=Lib.hid (HG.out.below_ hb1)
 have HD1:=Lib.hid (HD.out.below_ hb1)
 have HF1:=Lib.hid (HF.out.below hb1)
 have HS1:=Lib.hid (HS.out.trans (Step.of_below o (six cd) hb1))
 clear hb1
 go_upto_region 6 with (fail)
 have z5:=HG1.out.drew.1.five
 go_region_held3 (fun w'=>w'.cell? ⟨w.heap.size,0,none⟩=some (.int .i64 2)∧w'.cell? ⟨w.heap.size,1,none⟩=some (.int .i64 10)∧w'.cell? ⟨w.heap.size,2,none⟩=some (.int .i64 8)∧w'.cell? ⟨w.heap.size,3,none⟩=some (.int .i64 4)∧w'.cell? ⟨w.heap.size,4,none⟩=some (.int .i64 32))
  (first | exact z5 | exact hg2.1.five | exact (hg2.alloc _).1.five | go_keep)
  (first | (go_at_call 54;((with_reducible refine (enew_any o (c+1) 100000 (by omega) (by omega) w1.drew).mono ?_);rintro e2 w2 ⟨rfl,hr2,hb2⟩;have hst2:Step o (fun _=>False) w1.drew (band o w1.drew.heap.size w2.heap.size (c+1)) w2:=Step.of_below_band o _ (c+1) hb2;have hg2:=HG1.out.drew.step hst2 id)))
 obtain ⟨o3,hq,hs3⟩:=alloc_as (band o w1.drew.heap.size w2.heap.size (c+1)) w2 (.cells #[.pointer (some ⟨p,0,none⟩), .int .i64 2, .int .i64 10, .int .i64 8, .int .i64 4, .int .i64 32, .int .i64 node, .int .u64 epoch, .int .i64 base, .int .u64 1, .int .u64 1, .int .i64 0, .int .u64 0, .int .u64 0, .pointer (some ⟨w1.heap.size,0,none⟩), .bool false] 128) c
 have hs4:Step o (fun _=>False) w1 o3 (w2.alloc (.cells #[.pointer (some ⟨p,0,none⟩), .int .i64 2, .int .i64 10, .int .i64 8, .int .i64 4, .int .i64 32, .int .i64 node, .int .u64 epoch, .int .i64 base, .int .u64 1, .int .u64 1, .int .i64 0, .int .u64 0, .int .u64 0, .pointer (some ⟨w1.heap.size,0,none⟩), .bool false] 128)):=hst2.of_drew.trans hs3
 have HL:=Lib.hid (show LogAt o3 c (w2.alloc (.cells #[.pointer (some ⟨p,0,none⟩), .int .i64 2, .int .i64 10, .int .i64 8, .int .i64 4, .int .i64 32, .int .i64 node, .int .u64 epoch, .int .i64 base, .int .u64 1, .int .u64 1, .int .i64 0, .int .u64 0, .int .u64 0, .pointer (some ⟨w1.heap.size,0,none⟩), .bool false] 128)) w2.heap.size (Lg.new node epoch base) p from ⟨w1.heap.size,Blk.new _ _ _,hq,hr2.step hs3 id⟩)
 have HD2:=Lib.hid (HD1.out.step hs4 (fun _ _ _=>id))
 have HS2:=Lib.hid (HS1.out.trans (hs4.mono (fun _ h=>h.elim)))
 clear hq hs3 hs4 hst2 hr2 hb2 hg2 z5
 go_upto_region 7 with (fail)
 generalize w2.alloc (.cells #[.pointer (some ⟨p,0,none⟩), .int .i64 2, .int .i64 10, .int .i64 8, .int .i64 4, .int .i64 32, .int .i64 node, .int .u64 epoch, .int .i64 base, .int .u64 1, .int .u64 1, .int .i64 0, .int .u64 0, .int .u64 0, .pointer (some ⟨w1.heap.size,0,none⟩), .bool false] 128)=W3 at HL HD2 HS2 ⊢
 generalize w2.heap.size=q at HL ⊢
 have HH:=Lib.hid (ghead_any HL.out HD2.out HT.out HK.out HCD.out HC.out HEP.out 1 (by omega) 0)
 go_wp2_with fail
 refine HH.out.mono ?_
 rintro r w4 ⟨rfl,o4,hd4,hs5⟩
 have HD4:=Lib.hid hd4
 have HS5:=Lib.hid (HS2.out.trans hs5)
 have HL5:=Lib.hid (HL.out.step hs5 (by have:=HC.out;unfold six;omega) (by have:=HC.out;unfold six;omega))
 rw [show (D.lhead (Lg.new node epoch base) ⟨(Lg.new node epoch base).epoch,1,0⟩).1=0 from HOK.out]
 clear hd4 hs5
 go_wp2_with fail
 go_ret2
 exact ⟨q,rfl,o4,HD4.out,HL5.out,HS5.out⟩
theorem settle_now (D:Dk) (n:Int):(D.settle n).now=D.now:=(settle_same D n).2.2.2.2.2.1
theorem fence_now {D:Dk} {k:Nat} (h:Calm D k) {n:Nat} (hn:n≤16):(D.fence n).2.now=D.now:=by
 rw [(h.fence hn).1]
 exact settle_now D n
theorem admit_now {D:Dk} {k:Nat} (h:Calm D k) {n:Nat} (hn:n≤16) {e:Nat} (he:D.last<e):(D.admit n e).2.now=D.now:=by
 rw [(h.admit hn he).1]
theorem sec_congr {D E:Dk} (h:D.now=E.now) (k:Int):D.sec k=E.sec k:=by unfold Dk.sec;rw [h]
def Blank (D:Dk):Prop:=∀k,D.sec k=str (zer 64)
theorem sect_zer {n i:Nat} (h:(i+1)*64≤n):sect (str (zer n)) i=str (zer 64):=by
 unfold sect
 rw [extract_str]
 congr 1
 unfold zer
 rw [List.take_replicate,List.drop_replicate]
 congr 1
 omega
theorem sec_write1 (D:Dk) (n a:Int) (s:ByteArray) (k:Int):(D.write1 n a s).sec k=if k=a then s else D.sec k:=by
 unfold Dk.sec Dk.write1 upd
 simp only
 split <;> rfl
theorem blank_write {D:Dk} (h:Blank D) (n a:Int) (z:Nat):∀m,m*64≤z→Blank (D.writeN n a (str (zer z)) m)
 | 0,_=>h
 | m+1,hm=>by
   intro k
   show ((D.writeN n a (str (zer z)) m).write1 n (a+m) (sect (str (zer z)) m)).sec k=_
   rw [sec_write1]
   split
   ·exact sect_zer hm
   ·exact blank_write h n a z m (by omega) k
theorem blank_now {D E:Dk} (h:Blank D) (he:E.now=D.now):Blank E:=fun k=>(sec_congr he k).trans (h k)
theorem blank_zeros {D:Dk} (h:Blank D):∀j,Blank (D.zerosN j)
 | 0=>h
 | j+1=>blank_write (blank_zeros h j) _ _ _ _ (Nat.le_refl _)
theorem blank_fresh : Blank (Dk.fresh 37):=fun _=>rfl
theorem lay_sec {D:Dk} (h:Blank D) (k:Int):D.layF.sec k=if k=0 then str superL else str (zer 64):=by
 have e:D.layF.now=((((D.zerosN 3).settle (0:Nat)).write1 (0:Nat) (0+((0:Nat):Int)) (sect (str superL) 0)):Dk).now:=settle_now _ _
 rw [sec_congr e,sec_write1]
 have h0:sect (str superL) 0=str superL:=by
  unfold sect
  rw [extract_str]
  have e2:(superL.take ((0+1)*64)).drop (0*64)=superL:=by rw [Nat.zero_mul,List.drop_zero,List.take_of_length_le (by rw [superL_len];omega)]
  rw [e2]
 rw [h0]
 split
 ·rename_i hk
  rw [if_pos (by omega)]
 ·rename_i hk
  rw [if_neg (by omega)]
  exact blank_now (blank_zeros h 3) (settle_now _ _) k
def readyD : Dk:=((Dk.fresh 37).formatF.admit (1:Nat) 9).2
theorem fresh_last : (Dk.fresh 37).last=0:=rfl
theorem format_facts {D:Dk} (h:Calm D 0) (hl:D.last=0):Calm D.formatF 49∧D.formatF.last=1∧D.formatF.now=((D.fmtN 17).admit (0:Nat) 1).2.layF.now:=by
 obtain ⟨f1,f2,f3⟩:=fmt_calm h 17 (by omega)
 have f2':(D.fmtN 17).last<1:=by rw [f2,hl];omega
 obtain ⟨a1,a2⟩:=f1.admit (n:=0) (by omega) (e:=1) f2'
 have c1:=lay_calm a2
 obtain ⟨b1,b2⟩:=c1.fence (n:=0) (by omega)
 have e:D.formatF=(((D.fmtN 17).admit (0:Nat) 1).2.layF.fence (0:Nat)).2:=by unfold Dk.formatF;rw [hl];rfl
 have hlast:((D.fmtN 17).admit (0:Nat) 1).2.last=1:=by rw [a1]
 generalize ((D.fmtN 17).admit (0:Nat) 1).2=E at a2 c1 b1 b2 e hlast
 have hl2:E.layF.last=1:=by
  unfold Dk.layF
  rw [(settle_same _ _).2.2.2.1,(writeN_same _ _ _ _ _).2.2.2.1,(settle_same _ _).2.2.2.1,(zeros_calm a2 3).2.2,hlast]
 generalize E.layF=G at c1 b1 b2 e hl2 ⊢
 refine ⟨?_,?_,?_⟩
 ·rw [e]
  exact b2.mono (by omega)
 ·rw [e,b1]
  show (G.settle (0:Nat)).last=1
  rw [(settle_same _ _).2.2.2.1,hl2]
 ·rw [e]
  exact fence_now c1 (by omega)
set_option maxRecDepth 100000 in
theorem ready_facts : Calm readyD 49∧readyD.last=9∧readyD.table 1=9∧∀k,readyD.sec k=if k=0 then str superL else str (zer 64):=by
 obtain ⟨f1,f2,f3⟩:=format_facts calm_fresh fresh_last
 obtain ⟨a1,a2⟩:=f1.admit (n:=1) (by omega) (e:=9) (by rw [f2];omega)
 have e1:readyD=((Dk.fresh 37).formatF.admit (1:Nat) 9).2:=rfl
 obtain ⟨g1,g2,g3⟩:=fmt_calm calm_fresh 17 (by omega)
 have hb:Blank ((Dk.fresh 37).fmtN 17):=blank_now blank_fresh g3
 have hlt:((Dk.fresh 37).fmtN 17).last<1:=by rw [g2,fresh_last];omega
 have hb2:=blank_now hb (admit_now g1 (n:=0) (by omega) hlt)
 have hls:(Dk.fresh 37).formatF.last<9:=by rw [f2];omega
 generalize (Dk.fresh 37).formatF=F at a1 a2 e1 f1 f2 f3 hls
 generalize (((Dk.fresh 37).fmtN 17).admit (0:Nat) 1).2=E at f3 hb2
 refine ⟨by rw [e1];exact a2,by rw [e1,a1],by rw [e1,a1];simp,fun k => ?_⟩
 have e:readyD.now=F.now:=by rw [e1];exact admit_now f1 (by omega) hls
 rw [sec_congr e,sec_congr f3]
 exact lay_sec hb2 k
theorem writeN_sec (D:Dk) (n a:Int) (data:ByteArray):∀(m:Nat) (k:Int),(D.writeN n a data m).sec k=if a≤k∧k<a+m then sect data (k - a).toNat else D.sec k
 | 0,k=>by
   rw [if_neg (by omega)]
   rfl
 | m+1,k=>by
   show ((D.writeN n a data m).write1 n (a+m) (sect data m)).sec k=_
   rw [sec_write1]
   by_cases h:k=a+m
   ·rw [if_pos h,if_pos (by omega)]
    have:(k - a).toNat=m:=by omega
    rw [this]
   ·rw [if_neg h,writeN_sec D n a data m k]
    by_cases h2:a≤k∧k<a+m
    ·rw [if_pos h2,if_pos (by omega)]
    ·rw [if_neg h2,if_neg (by omega)]
theorem settle_sec (D:Dk) (n k:Int):(D.settle n).sec k=D.sec k:=sec_congr (settle_now D n) k
theorem readL_two (D:Dk) (a:Int):D.readL a 2=(D.sec a).data.toList++(D.sec (a+1)).data.toList:=by
 rw [readL_succ,readL_one]
 rfl
theorem sect_two {l:List UInt8} (h:l.length=128):(sect (str l) 0).data.toList++(sect (str l) 1).data.toList=l:=by
 unfold sect
 rw [extract_str,extract_str,str_list,str_list]
 have e1:(l.take ((0+1)*64)).drop (0*64)=l.take 64:=by rw [Nat.zero_mul,List.drop_zero]
 have e2:(l.take ((1+1)*64)).drop (1*64)=l.drop 64:=by rw [List.take_of_length_le (by omega)]
 rw [e1,e2]
 exact List.take_append_drop 64 l
theorem load_of {D:Dk} (hc:Live D) {i:Im} (hr:i.right) (hv:i.ver<18446744073709551616) {b:Nat} (hb:b≤9) (hi:i.block=b) (h1:D.sec (17+2*(b:Int))=sect (str (blkL i)) 0) (h2:D.sec (17+2*(b:Int)+1)=sect (str (blkL i)) 1):D.load b=(i,0):=by
 have hba:blockAt (b:Int)=(17+2*(b:Int),0):=if_neg (by omega)
 obtain ⟨r1,r2⟩:=hc.read (at_:=17+2*(b:Int)) (n:=2) (by omega) (by omega) (by omega)
 have e1:D.loadE1 b=0:=by
  unfold Dk.loadE1
  rw [hba]
  exact r1
 unfold Dk.load
 rw [if_neg (by rw [e1];simp),hba]
 show getB b (D.readS (17+2*(b:Int)) 2)=_
 have r2':D.readS (17+2*(b:Int)) 2=str (D.readL (17+2*(b:Int)) 2):=r2
 rw [r2',readL_two,h1,h2,sect_two (blkL_len hr),←hi]
 exact getB_put hr hv
theorem load_blank {D:Dk} (hc:Live D) {b:Nat} (hb:b≤9) (h1:D.sec (17+2*(b:Int))=str (zer 64)) (h2:D.sec (17+2*(b:Int)+1)=str (zer 64)):D.load b=(⟨b,0,str (zer 96)⟩,0):=by
 have hba:blockAt (b:Int)=(17+2*(b:Int),0):=if_neg (by omega)
 obtain ⟨r1,r2⟩:=hc.read (at_:=17+2*(b:Int)) (n:=2) (by omega) (by omega) (by omega)
 have e1:D.loadE1 b=0:=by
  unfold Dk.loadE1
  rw [hba]
  exact r1
 unfold Dk.load
 rw [if_neg (by rw [e1];simp),hba]
 show getB b (D.readS (17+2*(b:Int)) 2)=_
 have r2':D.readS (17+2*(b:Int)) 2=str (D.readL (17+2*(b:Int)) 2):=r2
 rw [r2',readL_two,h1,h2,str_list,zer_app]
 unfold getB
 rw [if_neg (by rw [str_size,zer_len];omega),if_pos rfl]
theorem store_ok {D:Dk} {k:Nat} (hc:Calm D k) {n e:Nat} (hn:n≤16) (he:D.table n=e) (h0:e≠0) {i:Im} (hr:i.right) {b:Nat} (hb:b≤9) (hi:i.block=b):D.store n e i=(0,D.writeN n (17+2*(b:Int)) (str (blkL i)) 2)∧Calm (D.store n e i).2 (k+2):=by
 have hba:blockAt i.block=(17+2*(b:Int),0):=by rw [hi];exact if_neg (by omega)
 have e1:D.store n e i=D.write n e (17+2*(b:Int)) (str (blkL i)):=by
  unfold Dk.store
  rw [hba,if_neg (by simp),if_neg (by simp [hr])]
 have h:=hc.write hn he h0 (at_:=17+2*(b:Int)) (data:=str (blkL i)) (m:=2) (by rw [str_size,blkL_len hr]) (by omega) (by omega) (by omega) (by omega)
 rw [e1]
 exact h
theorem lhead_ok {D:Dk} {k:Nat} (hc:Calm D k) {g:Lg} (hn:g.node≤16) (he:D.table g.node=g.epoch) (h0:g.epoch≠0) (hb:g.base≤17) {h:Hd} (hh:¬h.bad) :
 D.lhead g h=(0,(D.writeN g.node g.base (str (headL h)) 1).settle g.node)∧Calm (D.lhead g h).2 (k+1):=by
 have e1:h.putE=0:=if_neg hh
 have e2:h.putS=str (headL h):=if_neg hh
 have hw:=hc.write hn he h0 (at_:=(g.base:Int)) (data:=str (headL h)) (m:=1) (by rw [str_size,headL_len]) (by omega) (by omega) (by omega) (by omega)
 have ht:(D.writeN g.node g.base (str (headL h)) 1).table g.node=g.epoch:=by rw [(writeN_same _ _ _ _ _).2.2.2.2.2.1];exact he
 have hcw:Calm (D.writeN g.node g.base (str (headL h)) 1) (k+1):=by have:=hw.2;rw [hw.1] at this;exact this
 have hba:=hcw.barrier hn ht h0
 have e:D.lhead g h=(D.writeN g.node g.base (str (headL h)) 1).barrier g.node g.epoch:=by
  unfold Dk.lhead
  rw [e1,e2,if_neg (by simp),hw.1,if_neg (by simp)]
 rw [e]
 exact hba
theorem head_of {D:Dk} (hc:Live D) {h:Hd} (hb:¬h.bad) (he:h.epoch<18446744073709551616) (hl:h.lsn<18446744073709551616) (ha:h.at_<7) (hs:D.sec 1=str (headL h)):D.headE1 1=0∧D.headH 1=h∧D.headI 1=true∧D.headE 1=0:=by
 have hla:logAt 1=(1,0):=rfl
 obtain ⟨r1,r2⟩:=hc.read (at_:=1) (n:=1) (by omega) (by omega) (by omega)
 have e1:D.headE1 1=0:=by
  unfold Dk.headE1
  rw [hla]
  exact r1
 have r2':D.readS 1 1=str (D.readL 1 1):=r2
 have hB:D.headB 1=str (headL h):=by
  unfold Dk.headB
  rw [hla]
  show D.readS 1 1=_
  rw [r2',readL_one,hs,str_list]
 obtain ⟨p1,p2⟩:=hd_put hb he hl
 have e2:D.headH 1=h:=by
  unfold Dk.headH
  rw [hB,if_pos ⟨e1,p1⟩,p2]
 refine ⟨e1,e2,?_,?_⟩
 ·unfold Dk.headI
  rw [hB]
  exact decide_eq_true ⟨e1,p1,by rw [p2];exact ha⟩
 ·unfold Dk.headE
  rw [e1,if_neg (by decide),hB,if_pos p1]
theorem apply_one {D:Dk} {node:Int} {epoch:Nat} {i was:Im} (h:D.load i.block=(was,0)) (l:List Im) (n:Nat):applyGo node epoch (i :: l) n D=if i.ver≤was.ver then applyGo node epoch l n D else if (D.store node epoch i).1≠0 then ⟨0,(D.store node epoch i).1,(D.store node epoch i).2⟩ else applyGo node epoch l (n+1) (D.store node epoch i).2:=by
 rw [applyGo_cons,h]
 simp only [tornE]
 by_cases hv:i.ver≤was.ver
 ·simp [hv]
 ·simp [hv]
theorem store_sec {D:Dk} {n:Int} {b:Nat} {data:ByteArray} {k:Int} (h:k<17+2*(b:Int)∨17+2*(b:Int)+2≤k):(D.writeN n (17+2*(b:Int)) data 2).sec k=D.sec k:=by
 rw [writeN_sec,if_neg (by omega)]
theorem store_load {D:Dk} {k:Nat} (hc:Calm D k) {n e:Nat} (hn:n≤16) (he:D.table n=e) (h0:e≠0) {i:Im} (hr:i.right) (hv:i.ver<18446744073709551616) {b:Nat} (hb:b≤9) (hi:i.block=b):(D.store n e i).2.load b=(i,0):=by
 obtain ⟨s1,s2⟩:=store_ok hc hn he h0 hr hb hi
 refine load_of s2.live hr hv hb hi ?_ ?_
 ·rw [s1,writeN_sec,if_pos (by omega)]
  have:(17+2*(b:Int) - (17+2*(b:Int))).toNat=0:=by omega
  rw [this]
 ·rw [s1,writeN_sec,if_pos (by omega)]
  have:(17+2*(b:Int)+1 - (17+2*(b:Int))).toNat=1:=by omega
  rw [this]
theorem load_eq {D:Dk} (hc:Live D) {b:Nat} (hb:b≤9):D.load b=getB b (str ((D.sec (17+2*(b:Int))).data.toList++(D.sec (17+2*(b:Int)+1)).data.toList)):=by
 have hba:blockAt (b:Int)=(17+2*(b:Int),0):=if_neg (by omega)
 obtain ⟨r1,r2⟩:=hc.read (at_:=17+2*(b:Int)) (n:=2) (by omega) (by omega) (by omega)
 have e1:D.loadE1 b=0:=by
  unfold Dk.loadE1
  rw [hba]
  exact r1
 unfold Dk.load
 rw [if_neg (by rw [e1];simp),hba]
 show getB b (D.readS (17+2*(b:Int)) 2)=_
 have r2':D.readS (17+2*(b:Int)) 2=str (D.readL (17+2*(b:Int)) 2):=r2
 rw [r2',readL_two]
theorem load_congr {D E:Dk} (hc:Live D) (he:Live E) {b:Nat} (hb:b≤9) (h1:D.sec (17+2*(b:Int))=E.sec (17+2*(b:Int))) (h2:D.sec (17+2*(b:Int)+1)=E.sec (17+2*(b:Int)+1)):D.load b=E.load b:=by
 rw [load_eq hc hb,load_eq he hb,h1,h2]
theorem plan_nil : planOf [] = []:=by
 rw [plan_eq]
 simp [keysOf]
end Go.Proofs.YtldoeodkeieejaaGreatDoor
