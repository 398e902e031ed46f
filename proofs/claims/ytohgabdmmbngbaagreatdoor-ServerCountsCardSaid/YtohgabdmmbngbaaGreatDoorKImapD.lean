import Derived.Shelf.SlSortCmp.WholeK
import Derived.Ground.SlsfProg
import Derived.Test.YtohgabdmmbngbaaGreatDoorProg
import Derived.Test.YtohgabdmmbngbaaGreatDoorKSortK
import Derived.Test.YtohgabdmmbngbaaGreatDoorKImapP
import Derived.Shelf.SlicesE.Clone
namespace Go.Proofs
open Go.Shelf
def Tryz.sortPt_ren : Go.Shelf.Ren:=⟨fun | 6=>258 | 15=>255 | 14=>282 | 28=>280 | 29=>281 | 20=>294 | 21=>295 | 22=>296 | 23=>297 | 24=>298 | 25=>299 | 26=>300 | 27=>301 | 46=>313 | 47=>290 | 48=>291 | 49=>314 | 50=>315 | 57=>319 | n=>n,fun | 22=>133 | 24=>136 | 25=>319 | 3=>3 | 39=>266 | 0=>0 | 53=>250 | 55=>34 | 4=>4 | 46=>332 | 45=>331 | 50=>114 | 5=>5 | 9=>9 | 66=>343 | 70=>346 | 76=>364 | 77=>365 | n=>n,fun | n=>n⟩
theorem Tryz.sortPt : Go.Proofs.SlLaysF0.n6 Tryz.prog Tryz.sortPt_ren := {
 mixed:=by kernel_rfl
 f6:=⟨Tryz.f258.name,by decide,Tryz.func258.trans (congrArg some (by kernel_rfl))⟩
 f14:=⟨Tryz.f282.name,by decide,Tryz.func282.trans (congrArg some (by kernel_rfl))⟩
 f15:=Tryz.func255.trans (congrArg some (by kernel_rfl))
 f20:=⟨Tryz.f294.name,by decide,Tryz.func294.trans (congrArg some (by kernel_rfl))⟩
 f21:=⟨Tryz.f295.name,by decide,Tryz.func295.trans (congrArg some (by kernel_rfl))⟩
 f22:=⟨Tryz.f296.name,by decide,Tryz.func296.trans (congrArg some (by kernel_rfl))⟩
 f23:=⟨Tryz.f297.name,by decide,Tryz.func297.trans (congrArg some (by kernel_rfl))⟩
 f24:=⟨Tryz.f298.name,by decide,Tryz.func298.trans (congrArg some (by kernel_rfl))⟩
 f25:=⟨Tryz.f299.name,by decide,Tryz.func299.trans (congrArg some (by kernel_rfl))⟩
 f26:=⟨Tryz.f300.name,by decide,Tryz.func300.trans (congrArg some (by kernel_rfl))⟩
 f27:=⟨Tryz.f301.name,by decide,Tryz.func301.trans (congrArg some (by kernel_rfl))⟩
 f28:=Tryz.func280.trans (congrArg some (by kernel_rfl))
 f29:=Tryz.func281.trans (congrArg some (by kernel_rfl))
 f46:=⟨Tryz.f313.name,by decide,Tryz.func313.trans (congrArg some (by kernel_rfl))⟩
 f47:=Tryz.func290.trans (congrArg some (by kernel_rfl))
 f48:=Tryz.func291.trans (congrArg some (by kernel_rfl))
 f49:=⟨Tryz.f314.name,by decide,Tryz.func314.trans (congrArg some (by kernel_rfl))⟩
 f50:=⟨Tryz.f315.name,by decide,Tryz.func315.trans (congrArg some (by kernel_rfl))⟩
 f57:=⟨Tryz.f319.name,by decide,Tryz.func319.trans (congrArg some (by kernel_rfl))⟩
 t0:=Tryz.underlying0
 a0:=Tryz.isAgg0
 z0:=Tryz.sizeOf0
 v0:=Tryz.zeroValue0
 t3:=Tryz.underlying3
 a3:=Tryz.isAgg3
 z3:=Tryz.sizeOf3
 v3:=Tryz.zeroValue3
 t4:=Tryz.underlying4
 a4:=Tryz.isAgg4
 z4:=Tryz.sizeOf4
 v4:=Tryz.zeroValue4
 t5:=Tryz.underlying5
 a5:=Tryz.isAgg5
 z5:=Tryz.sizeOf5
 v5:=Tryz.zeroValue5
 t9:=Tryz.underlying9
 a9:=Tryz.isAgg9
 z9:=Tryz.sizeOf9
 v9:=Tryz.zeroValue9
 t22:=Tryz.underlying133
 a22:=Tryz.isAgg133
 z22:=Tryz.sizeOf133
 v22:=Tryz.zeroValue133
 t25:=Tryz.underlying319
 a25:=Tryz.isAgg319
 z25:=Tryz.sizeOf319
 v25:=Tryz.zeroValue319
 t39:=Tryz.underlying266
 a39:=Tryz.isAgg266
 z39:=Tryz.sizeOf266
 v39:=Tryz.zeroValue266
 t45:=Tryz.underlying331
 a45:=Tryz.isAgg331
 z45:=Tryz.sizeOf331
 v45:=Tryz.zeroValue331
 t46:=Tryz.underlying332
 a46:=Tryz.isAgg332
 z46:=Tryz.sizeOf332
 v46:=Tryz.zeroValue332
 t50:=Tryz.underlying114
 a50:=Tryz.isAgg114
 z50:=Tryz.sizeOf114
 v50:=Tryz.zeroValue114
 t53:=Tryz.underlying250
 a53:=Tryz.isAgg250
 z53:=Tryz.sizeOf250
 v53:=Tryz.zeroValue250
 t55:=Tryz.underlying34
 a55:=Tryz.isAgg34
 z55:=Tryz.sizeOf34
 v55:=Tryz.zeroValue34
 t66:=Tryz.underlying343
 a66:=Tryz.isAgg343
 z66:=Tryz.sizeOf343
 v66:=Tryz.zeroValue343
 t70:=Tryz.underlying346
 a70:=Tryz.isAgg346
 z70:=Tryz.sizeOf346
 v70:=Tryz.zeroValue346
 t76:=Tryz.underlying364
 a76:=Tryz.isAgg364
 z76:=Tryz.sizeOf364
 v76:=Tryz.zeroValue364
 t77:=Tryz.underlying365
 a77:=Tryz.isAgg365
 z77:=Tryz.sizeOf365
 v77:=Tryz.zeroValue365}
def Tryz.sortSp_ren : Go.Shelf.Ren:=⟨fun | 6=>305 | 15=>255 | 14=>317 | 28=>280 | 29=>281 | 20=>320 | 21=>321 | 22=>322 | 23=>323 | 24=>324 | 25=>325 | 26=>326 | 27=>327 | 46=>329 | 47=>290 | 48=>291 | 49=>330 | 50=>331 | 57=>332 | n=>n,fun | 22=>320 | 24=>45 | 25=>356 | 3=>3 | 39=>266 | 0=>0 | 53=>250 | 55=>34 | 4=>4 | 46=>332 | 45=>331 | 50=>114 | 5=>5 | 9=>9 | 66=>343 | 70=>346 | 76=>364 | 77=>365 | n=>n,fun | n=>n⟩
theorem Tryz.sortSp : Go.Proofs.SlLaysF0.n6 Tryz.prog Tryz.sortSp_ren := {
 mixed:=by kernel_rfl
 f6:=⟨Tryz.f305.name,by decide,Tryz.func305.trans (congrArg some (by kernel_rfl))⟩
 f14:=⟨Tryz.f317.name,by decide,Tryz.func317.trans (congrArg some (by kernel_rfl))⟩
 f15:=Tryz.func255.trans (congrArg some (by kernel_rfl))
 f20:=⟨Tryz.f320.name,by decide,Tryz.func320.trans (congrArg some (by kernel_rfl))⟩
 f21:=⟨Tryz.f321.name,by decide,Tryz.func321.trans (congrArg some (by kernel_rfl))⟩
 f22:=⟨Tryz.f322.name,by decide,Tryz.func322.trans (congrArg some (by kernel_rfl))⟩
 f23:=⟨Tryz.f323.name,by decide,Tryz.func323.trans (congrArg some (by kernel_rfl))⟩
 f24:=⟨Tryz.f324.name,by decide,Tryz.func324.trans (congrArg some (by kernel_rfl))⟩
 f25:=⟨Tryz.f325.name,by decide,Tryz.func325.trans (congrArg some (by kernel_rfl))⟩
 f26:=⟨Tryz.f326.name,by decide,Tryz.func326.trans (congrArg some (by kernel_rfl))⟩
 f27:=⟨Tryz.f327.name,by decide,Tryz.func327.trans (congrArg some (by kernel_rfl))⟩
 f28:=Tryz.func280.trans (congrArg some (by kernel_rfl))
 f29:=Tryz.func281.trans (congrArg some (by kernel_rfl))
 f46:=⟨Tryz.f329.name,by decide,Tryz.func329.trans (congrArg some (by kernel_rfl))⟩
 f47:=Tryz.func290.trans (congrArg some (by kernel_rfl))
 f48:=Tryz.func291.trans (congrArg some (by kernel_rfl))
 f49:=⟨Tryz.f330.name,by decide,Tryz.func330.trans (congrArg some (by kernel_rfl))⟩
 f50:=⟨Tryz.f331.name,by decide,Tryz.func331.trans (congrArg some (by kernel_rfl))⟩
 f57:=⟨Tryz.f332.name,by decide,Tryz.func332.trans (congrArg some (by kernel_rfl))⟩
 t0:=Tryz.underlying0
 a0:=Tryz.isAgg0
 z0:=Tryz.sizeOf0
 v0:=Tryz.zeroValue0
 t3:=Tryz.underlying3
 a3:=Tryz.isAgg3
 z3:=Tryz.sizeOf3
 v3:=Tryz.zeroValue3
 t4:=Tryz.underlying4
 a4:=Tryz.isAgg4
 z4:=Tryz.sizeOf4
 v4:=Tryz.zeroValue4
 t5:=Tryz.underlying5
 a5:=Tryz.isAgg5
 z5:=Tryz.sizeOf5
 v5:=Tryz.zeroValue5
 t9:=Tryz.underlying9
 a9:=Tryz.isAgg9
 z9:=Tryz.sizeOf9
 v9:=Tryz.zeroValue9
 t22:=Tryz.underlying320
 a22:=Tryz.isAgg320
 z22:=Tryz.sizeOf320
 v22:=Tryz.zeroValue320
 t25:=Tryz.underlying356
 a25:=Tryz.isAgg356
 z25:=Tryz.sizeOf356
 v25:=Tryz.zeroValue356
 t39:=Tryz.underlying266
 a39:=Tryz.isAgg266
 z39:=Tryz.sizeOf266
 v39:=Tryz.zeroValue266
 t45:=Tryz.underlying331
 a45:=Tryz.isAgg331
 z45:=Tryz.sizeOf331
 v45:=Tryz.zeroValue331
 t46:=Tryz.underlying332
 a46:=Tryz.isAgg332
 z46:=Tryz.sizeOf332
 v46:=Tryz.zeroValue332
 t50:=Tryz.underlying114
 a50:=Tryz.isAgg114
 z50:=Tryz.sizeOf114
 v50:=Tryz.zeroValue114
 t53:=Tryz.underlying250
 a53:=Tryz.isAgg250
 z53:=Tryz.sizeOf250
 v53:=Tryz.zeroValue250
 t55:=Tryz.underlying34
 a55:=Tryz.isAgg34
 z55:=Tryz.sizeOf34
 v55:=Tryz.zeroValue34
 t66:=Tryz.underlying343
 a66:=Tryz.isAgg343
 z66:=Tryz.sizeOf343
 v66:=Tryz.zeroValue343
 t70:=Tryz.underlying346
 a70:=Tryz.isAgg346
 z70:=Tryz.sizeOf346
 v70:=Tryz.zeroValue346
 t76:=Tryz.underlying364
 a76:=Tryz.isAgg364
 z76:=Tryz.sizeOf364
 v76:=Tryz.zeroValue364
 t77:=Tryz.underlying365
 a77:=Tryz.isAgg365
 z77:=Tryz.sizeOf365
 v77:=Tryz.zeroValue365}
end Go.Proofs
namespace Go.Proofs.YtohgabdmmbngbaaGreatDoor
open Go.RowKit Go.Sort Go.Shelf
instance : Inhabited Sp:=⟨⟨0,0⟩⟩
instance : Inhabited Lk:=⟨⟨0,0,0⟩⟩
def cmpI (a b:Int):Int:=if a<b then -1 else if b<a then 1 else 0
theorem cmpI_lt {a b:Int}:cmpI a b<0↔a<b:=by
 unfold cmpI
 split
 ·simp [*]
 ·split <;> omega
theorem isnan_any (a:Int) (w:World):Calls Tryz.prog 283 #[.int .i64 a] w fun e w'=>e = .returned (.bool false)∧w'=w:=by
 have h:(a != a)=false:=by simp
 go_enter Tryz.func283,Tryz.ntmps283
 go_wp2_with fail
 go_ret
 exact ⟨by first | rfl | simp,rfl⟩
theorem cmpint_any (a b:Int) (w:World):Calls Tryz.prog 260 #[.int .i64 a, .int .i64 b] w fun e w'=>e = .returned (.int .i64 (cmpI a b))∧w'=w:=by
 by_cases h1:a<b
 ·have HC:=Lib.hid (show cmpI a b = -1 from if_pos h1)
  go_enter Tryz.func260,Tryz.ntmps260
  go_wp2_with fail
  refine (isnan_any a w).mono ?_
  rintro e w1 ⟨rfl,rfl⟩
  go_wp2_with fail
  refine (isnan_any b w1).mono ?_
  rintro e w2 ⟨rfl,rfl⟩
  go_wp2_with fail
  go_ret
  exact ⟨by rw [HC.out];first | done | rfl,rfl⟩
 ·by_cases h2:b<a
  ·have HC:=Lib.hid (show cmpI a b=1 from (if_neg h1).trans (if_pos h2))
   go_enter Tryz.func260,Tryz.ntmps260
   go_wp2_with fail
   refine (isnan_any a w).mono ?_
   rintro e w1 ⟨rfl,rfl⟩
   go_wp2_with fail
   refine (isnan_any b w1).mono ?_
   rintro e w2 ⟨rfl,rfl⟩
   go_wp2_with fail
   go_ret
   exact ⟨by rw [HC.out];first | done | rfl,rfl⟩
  ·have HC:=Lib.hid (show cmpI a b=0 from (if_neg h1).trans (if_neg h2))
   go_enter Tryz.func260,Tryz.ntmps260
   go_wp2_with fail
   refine (isnan_any a w).mono ?_
   rintro e w1 ⟨rfl,rfl⟩
   go_wp2_with fail
   refine (isnan_any b w1).mono ?_
   rintro e w2 ⟨rfl,rfl⟩
   go_wp2_with fail
   go_ret
   exact ⟨by rw [HC.out];first | done | rfl,rfl⟩
theorem grow2 (w:World) (x y:Obj):∃q os',(w.alloc x).alloc y=Go.Sort.grow (w.drewN q) os':=by
 rw [Go.Sort.alloc_eq_grow,Go.Sort.alloc_eq_grow,Go.Sort.grow_grow]
 exact ⟨0,_,rfl⟩
def cfPt (x y:Lk):Int:=cmpI x.a y.a
theorem lay1_any (x y:Lk) (w:World):Calls Tryz.prog 259 #[.agg x.cells.toArray, .agg y.cells.toArray] w fun e w'=>e = .returned (.int .i64 (cfPt x y))∧∃q os',w'=Go.Sort.grow (w.drewN q) os':=by
 have k1:=(Blk.new w 136 #[.int .i64 x.a, .int .i64 x.b, .int .i64 x.m]).alloc (.cells #[.int .i64 y.a, .int .i64 y.b, .int .i64 y.m] 136)
 have k2:=Blk.new (w.alloc (.cells #[.int .i64 x.a, .int .i64 x.b, .int .i64 x.m] 136)) 136 #[.int .i64 y.a, .int .i64 y.b, .int .i64 y.m]
 have hz1:(w.alloc (.cells #[.int .i64 x.a, .int .i64 x.b, .int .i64 x.m] 136)).heap.size=w.heap.size+1:=by simp
 rw [hz1] at k2
 have HG:=Lib.hid (grow2 w (.cells #[.int .i64 x.a, .int .i64 x.b, .int .i64 x.m] 136) (.cells #[.int .i64 y.a, .int .i64 y.b, .int .i64 y.m] 136))
 have HC:=Lib.hid (show cfPt x y=cmpI x.a y.a from rfl)
 have H1:=Lib.hid k1
 have H2:=Lib.hid k2
 clear k1 k2 hz1
 show Calls Tryz.prog 259 #[.agg #[.int .i64 x.a, .int .i64 x.b, .int .i64 x.m], .agg #[.int .i64 y.a, .int .i64 y.b, .int .i64 y.m]] w _
 go_enter Tryz.func259,Tryz.ntmps259
 go_upto_region 1 with (fail)
 generalize (w.alloc (.cells #[.int .i64 x.a, .int .i64 x.b, .int .i64 x.m] 136)).alloc (.cells #[.int .i64 y.a, .int .i64 y.b, .int .i64 y.m] 136)=W at HG H1 H2 ⊢
 generalize w.heap.size+1=g2 at H2 ⊢
 generalize w.heap.size=g1 at H1 ⊢
 obtain ⟨x0,x1,x2⟩:=H1.out.three
 obtain ⟨y0,y1,y2⟩:=H2.out.three
 go_wp2_with fail
 refine (cmpint_any x.a y.a W).mono ?_
 rintro e w1 ⟨rfl,rfl⟩
 go_wp2_with fail
 go_ret
 exact ⟨by rw [HC.out];first | done | rfl,HG.out⟩
theorem swo_pt : SWO (ltOf cfPt) where
 irrefl x:=by simp [ltOf,cfPt,cmpI_lt]
 trans x y z h1 h2:=by
  simp [ltOf,cfPt,cmpI_lt] at h1 h2 ⊢
  omega
 ntrans x y z h1 h2:=by
  simp [ltOf,cfPt,cmpI_lt] at h1 h2 ⊢
  omega
section
variable {o:Nat→Nat} {c:Nat} {w:World}
theorem sortparts_any {A:Option Addr} {n cap:Nat} {l:List Lk} (h:OwnS o c w 136 3 (.slice A n cap) n (lkcells l)) (hl:l.length=n) (hn:n≤1000000) (ha:Apart l) :
 Calls Tryz.prog 258 #[.slice A n cap, .func (.func 259) #[] #[]] w fun e w'=>e = .returned (.tuple #[])∧OwnS o c w' 136 3 (.slice A n cap) n (lkcells (sortP l))∧Step o (only c) w o w':=by
 have eg:∀args w,(callFunc 259 args).run Tryz.prog w = .ok (.enter 259 args) w:=enters_of Tryz.func259 (by kernel_rfl) rfl
 refine (sortfunc_any (P:=Tryz.prog) (ρ:=Tryz.sortPt_ren) Tryz.sortPt Tryz.isAgg136 Tryz.sizeOf136 lk_size (fun x=>x.cells_one) cfPt swo_pt 259 eg (fun W x y=>lay1_any x y W) h hl hn).mono ?_
 rintro e w' ⟨rfl,l',hp,hs,ho,hst⟩
 have h1:WfP l':=by
  refine ⟨fun p hm=>ha.ok p (hp.mem_iff.1 hm),?_⟩
  have h1:l'.Pairwise (fun p q=>p.b≤q.a∨q.b≤p.a):=(hp.pairwise_iff (fun {x y} h=>h.symm)).2 ha.apart
  refine List.Pairwise.imp_of_mem ?_ (hs.and h1)
  intro p q hpm hqm hpq
  have a1:0≤p.a∧p.a<p.b:=ha.ok p (hp.mem_iff.1 hpm)
  have a2:0≤q.a∧q.a<q.b:=ha.ok q (hp.mem_iff.1 hqm)
  rcases hpq.2 with h | h
  ·exact h
  ·exact absurd (cmpI_lt.2 (show q.a<p.a by omega)) hpq.1
 have h2:l'=sortP l:=h1.unique ha.sort (hp.trans (sort_perm l).symm)
 rw [h2] at ho
 exact ⟨rfl,ho,hst⟩
end
def PrSp (o:Nat→Nat) (c:Nat) (g:Nat) (lb:Array Value) (l:List Sp) (q:Sp→Bool) (w:World):Prop:=∀(W:World) (s:Sp),s∈l→Step o (only c) w o W→Calls Tryz.prog g (#[.agg #[.int .i64 s.a, .int .i64 s.b]]++lb) W fun e w'=>e = .returned (.bool (q s))∧Below W.heap.size W w'
section
variable {w:World} {o:Nat→Nat} {c:Nat}
theorem spans_size (x:Sp):(Sp.cells x).length=2:=rfl
set_option maxRecDepth 100000 in
set_option maxHeartbeats 2000000 in
theorem idxspans_any (g:Nat) (lb:Array Value) (eg:∀args w,(callFunc g args).run Tryz.prog w = .ok (.enter g args) w) (l:List Sp) (q:Sp→Bool) (A:Option Addr) (cap:Nat) (h:OwnS o c w 45 2 (.slice A l.length cap) l.length (spcells l)) (hl:l.length≤1000000) (hp:PrSp o c g lb l q w) :
 Calls Tryz.prog 316 #[.slice A l.length cap, .func (.func g) #[] lb] w fun e w'=>e = .returned (.int .i64 (idxI q l))∧Below w.heap.size w w':=by
 have HR:=Lib.hid h
 have HP:=Lib.hid hp
 have hlI:(l.length:Int)≤1000000:=by omega
 clear h hp hl
 go_enter Tryz.func316,Tryz.ntmps316
 go_wp2_with fail
 go_loopg [8] l.length (fun n t8 wr=>∃i:Nat,n+i=l.length∧t8 = .int .i64 (i:Nat)∧(∀x∈l.take i,q x=false)∧Hid (Below w.heap.size w wr))
 case atStart=>exact ⟨0,by omega,rfl,by simp,Lib.hid (Below.refl _ _)⟩
 case round =>
  obtain ⟨i,hni,rfl,hno,HB⟩:=hrel
  have HNI:=Lib.hid hni
  have HNO:=Lib.hid hno
  clear hni hno
  by_cases hlt:i<l.length
  ·have hltI:(i:Int)<(l.length:Int):=by omega
   obtain ⟨s,hs⟩:∃s,l[i]? = some s:=⟨_,List.getElem?_eq_getElem hlt⟩
   obtain ⟨gb,cur,rfl,_⟩:=HR.out.blk (by omega)
   have HOWN:=Lib.hid (HR.out.below_ HB.out)
   have hat:∀k u,(Sp.cells s)[k]? = some u→(spcells l)[i*2+k]? = some u:=fun k u hk=>flatS_at spans_size hs hk
   have x0:wr.cell? ⟨gb,i*2,none⟩=some (.int .i64 s.a):=HOWN.out.at_ (hat 0 _ rfl)
   have x1:wr.cell? ⟨gb,i*2+1,none⟩=some (.int .i64 s.b):=HOWN.out.at_ (hat 1 _ rfl)
   have HC:=Lib.hid (HP.out wr s (List.mem_of_getElem? hs) (Step.of_below o _ HB.out))
   have HS:=Lib.hid hs
   clear hat hs
   by_cases hq:q s=true
   ·have HI:=Lib.hid (idxI_at HNO.out HS.out hq)
    go_wp2_with (go_at_fn g;refine HC.out.mono ?_;rintro e w2 ⟨rfl,hb2⟩;have HB2:=Lib.hid (HB.out.trans (hb2.mono HB.out.size));clear hb2)
    go_ret
    exact ⟨by rw [HI.out];first | done | rfl,HB2.out⟩
   ·have hq:q s=false:=Bool.eq_false_iff.2 hq
    have HN2:=Lib.hid (take_no HNO.out HS.out hq)
    go_wp2_with (go_at_fn g;refine HC.out.mono ?_;rintro e w2 ⟨rfl,hb2⟩;have HB2:=Lib.hid (HB.out.trans (hb2.mono HB.out.size));clear hb2)
    go_roundg (l.length - (i+1))
    case measure=>have:=HNI.out;omega
    case rel=>exact ⟨i+1,by omega,by go_num,HN2.out,HB2⟩
  ·have hltI:¬(i:Int)<(l.length:Int):=by omega
   have HI:=Lib.hid (idxI_no (l:=l) (q:=q) (fun x hx=>HNO.out x (by rw [List.take_of_length_le (by omega)];exact hx)))
   go_wp2_with fail
   go_ret
   exact ⟨by rw [HI.out];first | done | rfl,HB.out⟩
set_option maxRecDepth 100000 in
set_option maxHeartbeats 4000000 in
theorem delspans_any (g:Nat) (lb:Array Value) (eg:∀args w,(callFunc g args).run Tryz.prog w = .ok (.enter g args) w) (l:List Sp) (q:Sp→Bool) (A:Option Addr) (cap:Nat) (h:OwnS o c w 45 2 (.slice A l.length cap) l.length (spcells l)) (hl:l.length≤1000000) (hp:PrSp o c g lb l q w) :
 Calls Tryz.prog 302 #[.slice A l.length cap, .func (.func g) #[] lb] w fun e w'=>e = .returned (.slice A (l.filter (fun x => !q x)).length cap)∧OwnS o c w' 45 2 (.slice A (l.filter (fun x => !q x)).length cap) (l.filter (fun x => !q x)).length (spcells (l.filter (fun x => !q x)))∧Step o (only c) w o w':=by
 have HI:=Lib.hid (idxspans_any g lb eg l q A cap h hl hp)
 have HR:=Lib.hid h
 have HP:=Lib.hid hp
 have hlI:(l.length:Int)≤1000000:=by omega
 rcases idx_cases q l with ⟨hi,hn⟩ | ⟨i0,hi,hlt0,hT,hF⟩
 ·have HF:=Lib.hid (filter_all_no hn)
  rw [hi] at HI
  clear h hp hl hi hn
  go_enter Tryz.func302,Tryz.ntmps302
  go_wp2_with fail
  refine HI.out.mono ?_
  rintro e w1 ⟨rfl,hb⟩
  have HB:=Lib.hid hb
  clear hb
  go_wp2_with fail
  go_ret
  exact ⟨by rw [HF.out];rfl,by rw [HF.out];exact HR.out.below_ HB.out,Step.of_below o _ HB.out⟩
 ·rw [hi] at HI
  have e0:((i0:Int) == -1)=false:=by
   simp
  obtain ⟨gb,cur,rfl,_,hgc,hcap,hcm,_⟩:=h.blk (by omega)
  have HGC:=Lib.hid hgc
  have HT:=Lib.hid hT
  have HFF:=Lib.hid hF
  have HLT0:=Lib.hid hlt0
  have hcapI:(l.length:Int)≤(cap:Int):=by omega
  have HCM:=Lib.hid hcm
  have hi0I:(i0:Int)<1000000:=by omega
  clear h hp hl hi hgc hT hF hcm
  go_enter Tryz.func302,Tryz.ntmps302
  go_wp2_with fail
  refine HI.out.mono ?_
  rintro e w1 ⟨rfl,hb⟩
  have HB:=Lib.hid hb
  clear hb
  go_wp2_with fail
  go_loopg [5,6] (l.length - (i0+1)) (fun n t5 t6 wr=>∃(i j:Nat) (M:List Sp),n+j=l.length∧i<j∧t5 = .int .i64 (i:Nat)∧t6 = .int .i64 (j:Nat)∧M.length=l.length∧M.take i=(l.take j).filter (fun x => !q x)∧M.drop j=l.drop j∧OwnS o c wr 45 2 (.slice (some ⟨gb,0,none⟩) l.length cap) l.length (spcells M)∧Step o (only c) w o wr)
  case atStart=>exact ⟨i0,i0+1,l,by have:=HLT0.out;omega,by omega,rfl,by go_num,rfl,HT.out,rfl,HR.out.below_ HB.out,Step.of_below o _ HB.out⟩
  case round =>
   obtain ⟨i,j,M,hnj,hij,rfl,rfl,hML,hMT,hMD,hown,hst⟩:=hrel
   have HNJ:=Lib.hid hnj
   have HMT:=Lib.hid hMT
   have HMD:=Lib.hid hMD
   have HOWN:=Lib.hid hown
   have HST:=Lib.hid hst
   have HML:=Lib.hid hML
   clear hnj hMT hMD hown hst hML
   by_cases hlt:j<l.length
   ·have hltI:(j:Int)<(l.length:Int):=by omega
    have hijI:(i:Int)<(j:Int):=by omega
    obtain ⟨s,hs⟩:∃s,l[j]? = some s:=⟨_,List.getElem?_eq_getElem hlt⟩
    have hsM:M[j]? = some s:=drop_get HMD.out hs
    have hat:∀k u,(Sp.cells s)[k]? = some u→(spcells M)[j*2+k]? = some u:=fun k u hk=>flatS_at spans_size hsM hk
    have x0:wr.cell? ⟨gb,j*2,none⟩=some (.int .i64 s.a):=HOWN.out.at_ (hat 0 _ rfl)
    have x1:wr.cell? ⟨gb,j*2+1,none⟩=some (.int .i64 s.b):=HOWN.out.at_ (hat 1 _ rfl)
    have HS:=Lib.hid hs
    have HBX:=Lib.hid (Blk.new wr 45 #[.int .i64 s.a, .int .i64 s.b])
    have HOW1:=Lib.hid (HOWN.out.alloc (.cells #[.int .i64 s.a, .int .i64 s.b] 45))
    have HST1:=Lib.hid (HST.out.alloc (.cells #[.int .i64 s.a, .int .i64 s.b] 45))
    have HNE:=Lib.hid (show gb≠wr.heap.size from fun e=>by
     have:=HOWN.out.lt gb rfl
     omega)
    have HC:=Lib.hid (HP.out _ s (List.mem_of_getElem? HS.out) HST1.out)
    clear hat hs hsM HOWN HST
    go_upto_region 8 with (fail)
    generalize wr.alloc (.cells #[.int .i64 s.a, .int .i64 s.b] 45)=W1 at HBX HOW1 HST1 HC ⊢
    generalize wr.heap.size=X at HBX HNE ⊢
    clear x0 x1
    have y0:=HBX.out.cell 0
    have y1:=HBX.out.cell 1
    simp only [List.getElem?_toArray,List.getElem?_cons_zero,List.getElem?_cons_succ] at y0 y1
    by_cases hq:q s=true
    ·rw [hq] at HC
     have HFN:=Lib.hid (filter_skip HMT.out HS.out hq)
     have HDN:=Lib.hid (drop_next HMD.out)
     go_wp2_with (go_at_fn g;refine HC.out.mono ?_;rintro e w2 ⟨rfl,hb2⟩;have HB2:=Lib.hid hb2;clear hb2)
     go_roundg (l.length - (j+1))
     case measure=>have:=HNJ.out;omega
     case rel=>exact ⟨i,j+1,M,by omega,by omega,rfl,by go_num,HML.out,HFN.out,HDN.out,HOW1.out.below_ HB2.out,HST1.out.trans (Step.of_below o _ HB2.out)⟩
    ·have hq:q s=false:=Bool.eq_false_iff.2 hq
     rw [hq] at HC
     have HFN:=Lib.hid (filter_take (v:=s) HMT.out HS.out hq hij hlt HML.out)
     have HDN:=Lib.hid (drop_setM (v:=s) (i:=i) HMD.out hij)
     go_upto_region 9 with (go_at_fn g;refine HC.out.mono ?_;rintro e w2 ⟨rfl,hb2⟩;have HB2:=Lib.hid hb2;clear hb2)
     have HOW2:=Lib.hid (HOW1.out.below_ HB2.out)
     obtain ⟨gb',cur2,hg2,hb2,_,hc1,_,hc3,_⟩:=HOW2.out.blk (by omega)
     injection hg2 with hg2
     injection hg2 with hg2
     subst hg2
     have hkn:(i+1)*2≤l.length*2:=Nat.mul_le_mul_right _ (by omega)
     have hkc:l.length*2≤cap*2:=Nat.mul_le_mul_right _ hc1
     obtain ⟨u0,p0⟩:∃u,w2.cell? ⟨gb,i*2,none⟩=some u:=hb2.cell_some (by omega)
     obtain ⟨u1,p1⟩:∃u,w2.cell? ⟨gb,i*2+1,none⟩=some u:=hb2.cell_some (by omega)
     have f0:=hb2.frozen (i*2)
     have f1:=hb2.frozen (i*2+1)
     have HBY:=HBX.out.below_ HB2.out
     have z0:=HBY.cell 0
     have z1:=HBY.cell 1
     simp only [List.getElem?_toArray,List.getElem?_cons_zero,List.getElem?_cons_succ] at z0 z1
     have hset:=HOW2.out.setAt spans_size HML.out (show i<l.length by omega) s
     have HN:=Lib.hid (show OwnS o c ((w2.setCell ⟨gb,i*2,none⟩ (.int .i64 s.a)).setCell ⟨gb,i*2+1,none⟩ (.int .i64 s.b)) 45 2 (.slice (some ⟨gb,0,none⟩) l.length cap) l.length (spcells (M.set i s)) from hset)
     have HST2:=Lib.hid (show Step o (only c) w o ((w2.setCell ⟨gb,i*2,none⟩ (.int .i64 s.a)).setCell ⟨gb,i*2+1,none⟩ (.int .i64 s.b)) from (HST1.out.trans (Step.of_below o _ HB2.out)).trans (setCells_step (i:=i*2) (vs:=Sp.cells s) HGC.out))
     have hne:=HNE.out
     clear hset hb2 HBY hkn hkc hc1 hc3
     go_wp2_with fail
     go_roundg (l.length - (j+1))
     case measure=>have:=HNJ.out;omega
     case rel=>exact ⟨i+1,j+1,M.set i s,by omega,by omega,by go_num,by go_num,by rw [List.length_set];exact HML.out,HFN.out,HDN.out,HN.out,HST2.out⟩
   ·have hltI:¬(j:Int)<(l.length:Int):=by omega
    obtain rfl:j=l.length:=by have:=HNJ.out;omega
    obtain ⟨hk1,hk2⟩:=take_all HMT.out (Nat.le_refl _) (by rw [HML.out];omega)
    have hcapi:¬cap=i:=by omega
    obtain ⟨w3,hclr,hcut,hst3⟩:=run_clear_rows (P:=Tryz.prog) HOWN.out 320 _ Tryz.underlying320 Tryz.zeroValue45 (by rfl) (by simp [Value.cells,Value.oneCell']) hij (by omega) (cap - i)
    have hclr2:=fun ty=>hclr gb ty rfl
    have htk:(spcells M).take (i*2)=spcells (l.filter (fun x => !q x)):=(flatS_take spans_size M i).trans (by rw [hk1];rfl)
    rw [htk] at hcut
    have HCUT:=Lib.hid hcut
    have HK2:=Lib.hid hk2
    have HST3:=Lib.hid (HST.out.trans hst3)
    clear hclr hcut hst3 hk1 hk2 htk
    go_wp2_with fail
    go_ret
    exact ⟨by rw [HK2.out];rfl,by rw [HK2.out];exact HCUT.out,HST3.out⟩
end
end Go.Proofs.YtohgabdmmbngbaaGreatDoor
namespace Go.Proofs.YtohgabdmmbngbaaGreatDoor
open Go.RowKit Go.Sort Go.Shelf
def okB (s:Sp):Bool:=decide (0≤s.a∧s.a<s.b)
theorem okB_iff {s:Sp}:okB s=true↔s.ok:=by
 unfold okB
 exact decide_eq_true_iff
def orI (x y:Int):Int:=if x=0 then y else x
def cfSp (x y:Sp):Int:=orI (cmpI x.a y.a) (cmpI x.b y.b)
theorem cmpI_eq {a b:Int}:cmpI a b=0↔a=b:=by
 unfold cmpI
 split
 ·omega
 ·split <;> omega
theorem cfSp_lt {x y:Sp}:cfSp x y<0↔x.a<y.a∨(x.a=y.a∧x.b<y.b):=by
 unfold cfSp orI
 split
 ·rename_i h
  rw [cmpI_lt]
  have:=cmpI_eq.1 h
  omega
 ·rename_i h
  rw [cmpI_lt]
  have:x.a≠y.a:=fun e=>h (cmpI_eq.2 e)
  omega
theorem swo_sp : SWO (ltOf cfSp) where
 irrefl x:=by simp [ltOf,cfSp_lt]
 trans x y z h1 h2:=by
  simp only [ltOf,decide_eq_true_eq,cfSp_lt] at h1 h2 ⊢
  omega
 ntrans x y z h1 h2:=by
  simp only [ltOf,decide_eq_false_iff_not,cfSp_lt] at h1 h2 ⊢
  omega
theorem grow_more {w W:World} {n:Nat} {x:Obj} (h:∃q os',W=Go.Sort.grow (w.drewN q) os'):∃q os',(W.drewN n).alloc x=Go.Sort.grow (w.drewN q) os':=by
 obtain ⟨q,os',rfl⟩:=h
 refine ⟨q+n,os'++#[x],?_⟩
 rw [Go.Sort.alloc_eq_grow]
 show Go.Sort.grow (Go.Sort.grow ((w.drewN q).drewN n) os') #[x]=_
 rw [Go.Sort.grow_grow]
 simp [World.drewN,Nat.add_assoc]
section
variable {o:Nat→Nat} {c:Nat} {w:World}
set_option maxRecDepth 100000 in
theorem or2_any (x y:Int) (A:Option Addr) (cap:Nat) (h:Reads w 1 A 2 [.int .i64 x, .int .i64 y]) :
 Calls Tryz.prog 307 #[.slice A 2 cap] w fun e w'=>e = .returned (.int .i64 (orI x y))∧w'=w:=by
 obtain ⟨ad,rfl,hc⟩:=h.2 (by omega)
 have x0:w.cell? ad=some (.int .i64 x):=hc 0 _ rfl
 have x1:w.cell? ⟨ad.block,ad.off+1,none⟩=some (.int .i64 y):=hc 1 _ rfl
 have HX0:=Lib.hid x0
 have HX1:=Lib.hid x1
 have HE:=Lib.hid (show ∃r,r=orI x y from ⟨_,rfl⟩)
 obtain ⟨r,hr⟩:=HE.out
 rw [←hr]
 have HR:=Lib.hid hr
 clear h hc x0 x1 HE hr
 go_enter Tryz.func307,Tryz.ntmps307
 go_wp2_with fail
 go_loopg [8] 2 (fun n t8 wr=>∃i:Nat,n+i=2∧t8 = .int .i64 (i:Nat)∧wr=w∧(0<i→x=0)∧(1<i→y=0))
 case atStart=>exact ⟨0,by omega,rfl,rfl,fun h=>absurd h (by omega),fun h=>absurd h (by omega)⟩
 case round =>
  obtain ⟨i,hn,rfl,rfl,h1,h2⟩:=hrel
  have HNI:=Lib.hid hn
  clear hn
  by_cases h0:i=0
  ·subst h0
   have hx:=HX0.out
   clear h1 h2
   by_cases hz:x=0
   ·have HZ:=Lib.hid hz
    have hb:(x != 0)=false:=by simp [hz]
    clear hz
    go_wp2_with fail
    go_roundg 1
    case measure=>have:=HNI.out;omega
    case rel=>exact ⟨1,by omega,by go_num,rfl,fun _=>HZ.out,fun h=>absurd h (by omega)⟩
   ·have HQ:=Lib.hid (HR.out.trans (if_neg hz))
    have hb:(x != 0)=true:=by simp [hz]
    clear hz
    go_wp2_with fail
    go_ret
    exact ⟨by rw [HQ.out];first | done | rfl,rfl⟩
  ·by_cases hi1:i=1
   ·subst hi1
    have hx:=HX1.out
    have HXZ:=Lib.hid (h1 (by omega))
    clear h1 h2
    by_cases hz:y=0
    ·have HZ:=Lib.hid hz
     have hb:(y != 0)=false:=by simp [hz]
     clear hz
     go_wp2_with fail
     go_roundg 0
     case measure=>have:=HNI.out;omega
     case rel=>exact ⟨2,by omega,by go_num,rfl,fun _=>HXZ.out,fun _=>HZ.out⟩
    ·have HQ:=Lib.hid (HR.out.trans (if_pos HXZ.out))
     have hb:(y != 0)=true:=by simp [hz]
     clear hz
     go_wp2_with fail
     go_ret
     exact ⟨by rw [HQ.out];first | done | rfl,rfl⟩
   ·obtain rfl:i=2:=by have:=HNI.out;omega
    have HQ:=Lib.hid (show r=0 by rw [HR.out];exact (if_pos (h1 (by omega))).trans (h2 (by omega)))
    clear h1 h2 h0 hi1
    go_wp2_with fail
    go_ret
    exact ⟨by rw [HQ.out];first | done | rfl,rfl⟩
set_option maxRecDepth 100000 in
set_option maxHeartbeats 2000000 in
theorem norm2_any (x y:Sp):Calls Tryz.prog 306 #[.agg x.cells.toArray, .agg y.cells.toArray] w fun e w'=>e = .returned (.int .i64 (cfSp x y))∧∃q os',w'=Go.Sort.grow (w.drewN q) os':=by
 have k1:=(Blk.new w 45 #[.int .i64 x.a, .int .i64 x.b]).alloc (.cells #[.int .i64 y.a, .int .i64 y.b] 45)
 have k2:=Blk.new (w.alloc (.cells #[.int .i64 x.a, .int .i64 x.b] 45)) 45 #[.int .i64 y.a, .int .i64 y.b]
 have hz1:(w.alloc (.cells #[.int .i64 x.a, .int .i64 x.b] 45)).heap.size=w.heap.size+1:=by simp
 rw [hz1] at k2
 have HG:=Lib.hid (grow2 w (.cells #[.int .i64 x.a, .int .i64 x.b] 45) (.cells #[.int .i64 y.a, .int .i64 y.b] 45))
 have HC:=Lib.hid (show cfSp x y=orI (cmpI x.a y.a) (cmpI x.b y.b) from rfl)
 have H1:=Lib.hid k1
 have H2:=Lib.hid k2
 clear k1 k2 hz1
 show Calls Tryz.prog 306 #[.agg #[.int .i64 x.a, .int .i64 x.b], .agg #[.int .i64 y.a, .int .i64 y.b]] w _
 go_enter Tryz.func306,Tryz.ntmps306
 go_upto_region 1 with (fail)
 generalize (w.alloc (.cells #[.int .i64 x.a, .int .i64 x.b] 45)).alloc (.cells #[.int .i64 y.a, .int .i64 y.b] 45)=W at HG H1 H2 ⊢
 generalize w.heap.size+1=g2 at H2 ⊢
 generalize w.heap.size=g1 at H1 ⊢
 obtain ⟨x0,x1⟩:=H1.out.pair
 obtain ⟨y0,y1⟩:=H2.out.pair
 have HN:=Lib.hid (show ∀n a b,Reads ((W.drewN n).alloc (.cells #[.int .i64 a, .int .i64 b] 3)) 1 (some ⟨W.heap.size,0,none⟩) 2 [.int .i64 a, .int .i64 b] from fun n a b=>Reads.newAt (W.drewN n) 3 1 2 _ #[.int .i64 a, .int .i64 b] _ rfl rfl rfl)
 go_region_law (first | (go_simp;go_at_call 260;refine (cmpint_any _ _ _).mono ?_;rintro e w1 ⟨rfl,rfl⟩) | (go_simp;go_at_call 307;refine (or2_any _ _ _ _ (HN.out _ _ _)).mono ?_;rintro e w1 ⟨rfl,rfl⟩))
 all_goals (go_wp2_with fail;go_ret;exact ⟨by rw [HC.out];first | done | rfl,grow_more HG.out⟩)
theorem sortspans_any {A:Option Addr} {n cap:Nat} {l:List Sp} (h:OwnS o c w 45 2 (.slice A n cap) n (spcells l)) (hl:l.length=n) (hn:n≤1000000) (ha:l.Pairwise (fun x y=>x.a<y.a)) :
 Calls Tryz.prog 305 #[.slice A n cap, .func (.func 306) #[] #[]] w fun e w'=>e = .returned (.tuple #[])∧OwnS o c w' 45 2 (.slice A n cap) n (spcells l)∧Step o (only c) w o w':=by
 have eg:∀args w,(callFunc 306 args).run Tryz.prog w = .ok (.enter 306 args) w:=enters_of Tryz.func306 (by kernel_rfl) rfl
 refine (sortfunc_any (P:=Tryz.prog) (ρ:=Tryz.sortSp_ren) Tryz.sortSp Tryz.isAgg45 Tryz.sizeOf45 spans_size (fun x=>spcells_one [x] |> fun h v hv=>h v (by simpa [spcells] using hv)) cfSp swo_sp 306 eg (fun W x y=>norm2_any x y) h hl hn).mono ?_
 rintro e w' ⟨rfl,l',hp,hs,ho,hst⟩
 have h2:l'=l:=by
  refine List.Perm.eq_of_pairwise (le:=fun p q:Sp=>p.a<q.a) ?_ ?_ ha hp
  ·intro a b _ _ h1 h2
   omega
  ·have h1:l'.Pairwise (fun p q=>p.a<q.a∨q.a<p.a):=(hp.pairwise_iff (fun {x y} h=>h.symm)).2 (ha.imp (fun h => .inl h))
   refine (hs.and h1).imp ?_
   intro p q hpq
   rcases hpq.2 with h | h
   ·exact h
   ·exact absurd (cfSp_lt.2 (.inl h)) hpq.1
 rw [h2] at ho
 exact ⟨rfl,ho,hst⟩
end
end Go.Proofs.YtohgabdmmbngbaaGreatDoor
namespace Go.Proofs
open Go.Shelf
def Tryz.clSp_ren : Go.Shelf.Ren:=⟨fun | 41=>303 | n=>n,fun | 22=>320 | 23=>45 | 4=>4 | n=>n,fun | n=>n⟩
theorem Tryz.clSp : Go.Proofs.SlLaysE0.n41 Tryz.prog Tryz.clSp_ren := {
 mixed:=by kernel_rfl
 f41:=⟨Tryz.f303.name,by decide,Tryz.func303.trans (congrArg some (by kernel_rfl))⟩
 t4:=Tryz.underlying4
 a4:=Tryz.isAgg4
 z4:=Tryz.sizeOf4
 v4:=Tryz.zeroValue4
 t22:=Tryz.underlying320
 a22:=Tryz.isAgg320
 z22:=Tryz.sizeOf320
 v22:=Tryz.zeroValue320}
def Tryz.clPt_ren : Go.Shelf.Ren:=⟨fun | 41=>133 | n=>n,fun | 22=>133 | 23=>136 | 4=>4 | n=>n,fun | n=>n⟩
theorem Tryz.clPt : Go.Proofs.SlLaysE0.n41 Tryz.prog Tryz.clPt_ren := {
 mixed:=by kernel_rfl
 f41:=⟨Tryz.f133.name,by decide,Tryz.func133.trans (congrArg some (by kernel_rfl))⟩
 t4:=Tryz.underlying4
 a4:=Tryz.isAgg4
 z4:=Tryz.sizeOf4
 v4:=Tryz.zeroValue4
 t22:=Tryz.underlying133
 a22:=Tryz.isAgg133
 z22:=Tryz.sizeOf133
 v22:=Tryz.zeroValue133}
def Tryz.clWq_ren : Go.Shelf.Ren:=⟨fun | 41=>210 | n=>n,fun | 22=>68 | 23=>164 | 4=>4 | n=>n,fun | n=>n⟩
theorem Tryz.clWq : Go.Proofs.SlLaysE0.n41 Tryz.prog Tryz.clWq_ren := {
 mixed:=by kernel_rfl
 f41:=⟨Tryz.f210.name,by decide,Tryz.func210.trans (congrArg some (by kernel_rfl))⟩
 t4:=Tryz.underlying4
 a4:=Tryz.isAgg4
 z4:=Tryz.sizeOf4
 v4:=Tryz.zeroValue4
 t22:=Tryz.underlying68
 a22:=Tryz.isAgg68
 z22:=Tryz.sizeOf68
 v22:=Tryz.zeroValue68}
def Tryz.clLk_ren : Go.Shelf.Ren:=⟨fun | 41=>97 | n=>n,fun | 22=>36 | 23=>47 | 4=>4 | n=>n,fun | n=>n⟩
theorem Tryz.clLk : Go.Proofs.SlLaysE0.n41 Tryz.prog Tryz.clLk_ren := {
 mixed:=by kernel_rfl
 f41:=⟨Tryz.f97.name,by decide,Tryz.func97.trans (congrArg some (by kernel_rfl))⟩
 t4:=Tryz.underlying4
 a4:=Tryz.isAgg4
 z4:=Tryz.sizeOf4
 v4:=Tryz.zeroValue4
 t22:=Tryz.underlying36
 a22:=Tryz.isAgg36
 z22:=Tryz.sizeOf36
 v22:=Tryz.zeroValue36}
namespace YtohgabdmmbngbaaGreatDoor
open Go.RowKit
section
variable {P:Program} {ρ:Go.Shelf.Ren} {w:World}
theorem clone_reads (L:Go.Proofs.SlLaysE0.n41 P ρ) {z:Value} {size bytes:Nat} (info:(P.info? (ρ.t 23)).map (fun i=>(i.zero,i.size,i.bytes))=some (some z,size,bytes)) (hzs:z.cells.size=size) (hsz:0<size) (hby:bytes≤1000)
 (z23:∀w,(Go.sizeOf (ρ.t 23)).run P w = .ok size w) {A:Option Addr} {n cap:Nat} {xs:List Value} (h:Reads w size A n xs) (hA:A=none→n=0) (hf:∀ad,A=some ad→ad.spot=none) (hn:n≤1000000) (h1:∀u∈xs,u.oneCell'=true) :
 Calls P (ρ.f 41) #[.slice A n cap] w fun e w'=>∃D cap',e = .returned (.slice D n cap')∧w'.ownsRow w.heap.size (ρ.t 23) size (.slice D n cap') n xs∧Below w.heap.size w w':=by
 obtain ⟨i0,hi,hz0,hz1,hz2⟩:=info_parts info
 cases A with
 | none =>
   obtain rfl:n=0:=hA rfl
   have hx:xs = []:=List.eq_nil_of_length_eq_zero (by simpa using h.1)
   subst hx
   refine (AnyE.slices_Clone_nil L 0 cap w).mono ?_
   rintro e w' ⟨rfl,rfl⟩
   exact ⟨_,_,rfl,World.ownsRow_nil _ _ _ _,Below.refl _ _⟩
 | some ad =>
   obtain ⟨b,off,sp⟩:=ad
   obtain rfl:sp=none:=hf _ rfl
   refine (AnyE.slices_Clone L i0 z size bytes hi hz0 hz1 hz2 hzs hsz z23 b off n cap xs w h.1 (by unfold maxLen;omega) ?_ (fun j u hu => ?_) h1).mono ?_
   ·have:=Nat.mul_le_mul hn hby
    omega
   ·rcases Nat.eq_zero_or_pos n with h0 | h0
    ·subst h0
     have hx:xs = []:=List.eq_nil_of_length_eq_zero (by simpa using h.1)
     subst hx
     simp at hu
    ·obtain ⟨ad',e,hc⟩:=h.2 h0
     injection e with e
     subst e
     have:=hc j u hu
     unfold Addr.add at this
     split at this
     ·rename_i hz
      subst hz
      exact this
     ·exact this
   ·rintro e w' ⟨v',rfl,ho,_,hb⟩
    obtain ⟨D,cap',rfl,_,_⟩:=ownsRow_form ho
    exact ⟨_,_,rfl,ho,hb⟩
theorem clone_own {o:Nat→Nat} {c:Nat} (L:Go.Proofs.SlLaysE0.n41 P ρ) {z:Value} {size bytes:Nat} (info:(P.info? (ρ.t 23)).map (fun i=>(i.zero,i.size,i.bytes))=some (some z,size,bytes)) (hzs:z.cells.size=size) (hsz:0<size) (hby:bytes≤1000)
 (z23:∀w,(Go.sizeOf (ρ.t 23)).run P w = .ok size w) {A:Option Addr} {n cap:Nat} {xs:List Value} (h:OwnS o c w (ρ.t 23) size (.slice A n cap) n xs) (hn:n≤1000000) (h1:∀u∈xs,u.oneCell'=true) :
 Calls P (ρ.f 41) #[.slice A n cap] w fun e w'=>∃D cap',e = .returned (.slice D n cap')∧w'.ownsRow w.heap.size (ρ.t 23) size (.slice D n cap') n xs∧Below w.heap.size w w':=by
 refine clone_reads L info hzs hsz hby z23 (Reads.of_own h.1) ?_ ?_ hn h1
 ·rintro rfl
  rcases h.1.2 with ⟨_,h0⟩ | ⟨g,cap',cur,hv,_⟩
  ·exact h0
  ·cases hv
 ·rintro ad rfl
  rcases h.1.2 with ⟨hv,_⟩ | ⟨g,cap',cur,hv,_⟩
  ·cases hv
  ·injection hv with hv
   injection hv with hv
   rw [hv]
end
end YtohgabdmmbngbaaGreatDoor
end Go.Proofs
namespace Go.Proofs.YtohgabdmmbngbaaGreatDoor
open Go.RowKit
theorem okB_filter (l:List Sp):l.filter (fun x => !(!okB x))=l.filter okB:=by
 congr 1
 funext x
 simp
section
variable {o:Nat→Nat} {c:Nat} {w:World}
theorem norm1_pr (l:List Sp):PrSp o c 304 #[] l (fun s => !okB s) w:=fun W s _ _=>by
 show Calls Tryz.prog 304 #[.agg #[.int .i64 s.a, .int .i64 s.b]] W fun e w'=>e = .returned (.bool (!okB s))∧Below W.heap.size W w'
 have HB:=Lib.hid ((Below.refl W.heap.size W).alloc (Nat.le_refl _) (.cells #[.int .i64 s.a, .int .i64 s.b] 45))
 have HD:=Lib.hid (show okB s=decide (0≤s.a∧s.a<s.b) from rfl)
 obtain ⟨d,hd⟩:∃d,decide (0≤s.a∧s.a<s.b)=d:=⟨_,rfl⟩
 rw [hd] at HD
 rw [HD.out]
 have HD2:=Lib.hid hd
 clear hd
 cases d with
 | true =>
   go_enter Tryz.func304,Tryz.ntmps304
   go_wp2_with fail
   refine (spvalid_any s.a s.b _).mono ?_
   rintro e w1 ⟨rfl,hb1⟩
   rw [HD2.out]
   go_wp2_with fail
   go_ret
   exact ⟨by first | rfl | simp,HB.out.trans (hb1.mono HB.out.size)⟩
 | false =>
   go_enter Tryz.func304,Tryz.ntmps304
   go_wp2_with fail
   refine (spvalid_any s.a s.b _).mono ?_
   rintro e w1 ⟨rfl,hb1⟩
   rw [HD2.out]
   go_wp2_with fail
   go_ret
   exact ⟨by first | rfl | simp,HB.out.trans (hb1.mono HB.out.size)⟩
set_option maxRecDepth 100000 in
set_option maxHeartbeats 4000000 in
theorem spnorm_apart {A:Option Addr} {n cap:Nat} {l:List Sp} (h:OwnS o c w 45 2 (.slice A n cap) n (spcells l)) (hn:l.length=n) (hl:n≤1000000) (hp:(l.filter okB).Pairwise (fun x y=>x.b<y.a)) :
 Calls Tryz.prog 284 #[.slice A n cap] w fun e w'=>∃D cap',e = .returned (.slice D (l.filter okB).length cap')∧w'.ownsRow w.heap.size 45 2 (.slice D (l.filter okB).length cap') (l.filter okB).length (spcells (l.filter okB))∧Below w.heap.size w w':=by
 subst hn
 obtain ⟨i0,hi,hz0,hz1,hz2⟩:=info_parts info_sp
 have eg:∀args w,(callFunc 304 args).run Tryz.prog w = .ok (.enter 304 args) w:=enters_of Tryz.func304 (by kernel_rfl) rfl
 have HV:=Lib.hid h
 have HL:=Lib.hid hl
 have hML:(l.filter okB).length≤1000000:=Nat.le_trans (List.length_filter_le _ _) hl
 have hMok:∀x∈l.filter okB,x.a<x.b:=fun x hx=>(okB_iff.1 (List.mem_filter.1 hx).2).2
 have hF:=okB_filter l
 obtain ⟨M,hM⟩:∃M,l.filter okB=M:=⟨_,rfl⟩
 rw [hM] at hML hp hMok hF ⊢
 have HF:=Lib.hid hF
 have HP:=Lib.hid hp
 have HMOK:=Lib.hid hMok
 have hMI:(M.length:Int)≤1000000:=by omega
 clear h hl hp hM hMok hF
 go_enter Tryz.func284,Tryz.ntmps284
 go_wp2_with fail
 refine (clone_own (P:=Tryz.prog) (ρ:=Tryz.clSp_ren) Tryz.clSp info_sp rfl (by omega) (by omega) Tryz.sizeOf45 HV.out HL.out (spcells_one l)).mono ?_
 rintro e w1 ⟨A1,cap1,rfl,ho1,hb1⟩
 have HO1:=Lib.hid (own_bandR (o:=fun _=>0) (c:=2) ho1)
 have HE1:=Lib.hid (Env.start w |>.step (Step.of_below_band (fun _=>0) (fun _=>False) 2 hb1) (fun h=>h))
 have HU1:=Lib.hid (show Fut (band (fun _=>0) w.heap.size w1.heap.size 2) w1 from Fut.step (fun _ _=>rfl) (Step.of_below_band (fun _=>0) (fun _=>False) 2 hb1))
 generalize band (fun _=>0) w.heap.size w1.heap.size 2=o1 at HO1 HE1 HU1
 clear ho1 hb1
 go_wp2_with fail
 have hd:=delspans_any 304 #[] eg l (fun s => !okB s) A1 cap1 HO1.out HL.out (norm1_pr l)
 rw [HF.out] at hd
 refine hd.mono ?_
 clear hd
 rintro e w2 ⟨rfl,ho2,hs2⟩
 have HO2:=Lib.hid ho2
 have HE2:=Lib.hid (HE1.out.step hs2 (by unfold only;omega))
 have HU2:=Lib.hid (HU1.out.step hs2)
 clear ho2 hs2
 go_wp2_with fail
 refine (sortspans_any HO2.out rfl hML (HP.out.imp_of_mem (fun {x y} hx _ h=>by have:=HMOK.out x hx;omega))).mono ?_
 rintro e w3 ⟨rfl,ho3,hs3⟩
 have HO3:=Lib.hid ho3
 have HE3:=Lib.hid (HE2.out.step hs3 (by unfold only;omega))
 have HU3:=Lib.hid (HU2.out.step hs3)
 clear ho3 hs3
 go_wp2_with fail
 go_loopg [3,14] M.length (fun n t3 t14 wr=>∃(i:Nat) (D:Option Addr) (cap:Nat) (oL:Nat→Nat),n+i=M.length∧t14 = .int .i64 (i:Nat)∧t3 = .slice D i cap∧OwnS oL 1 wr 45 2 (.slice D i cap) i (spcells (M.take i))∧OwnS oL 2 wr 45 2 (.slice A1 M.length cap1) M.length (spcells M)∧Env oL w wr∧Fut oL wr)
 case atStart=>exact ⟨0,none,0,o1,by omega,rfl,rfl,OwnS.nil _ _ _ _ _,HO3.out,HE3.out,HU3.out⟩
 case round =>
  obtain ⟨i,D,cap9,oL,hni,rfl,rfl,ho,hsrc,he,hu⟩:=hrel
  have HNI:=Lib.hid hni
  have HO:=Lib.hid ho
  have HSRC:=Lib.hid hsrc
  have HE:=Lib.hid he
  have HU:=Lib.hid hu
  clear ho hsrc he hu hni
  by_cases hlt:i<M.length
  ·have hltI:(i:Int)<(M.length:Int):=by omega
   obtain ⟨s,hs⟩:∃s,M[i]? = some s:=⟨_,List.getElem?_eq_getElem hlt⟩
   obtain ⟨gb,cur,rfl,_⟩:=HSRC.out.blk (by omega)
   have hat:∀k u,(Sp.cells s)[k]? = some u→(spcells M)[i*2+k]? = some u:=fun k u hk=>flatS_at spans_size hs hk
   have x0:wr.cell? ⟨gb,i*2,none⟩=some (.int .i64 s.a):=HSRC.out.at_ (hat 0 _ rfl)
   have x1:wr.cell? ⟨gb,i*2+1,none⟩=some (.int .i64 s.b):=HSRC.out.at_ (hat 1 _ rfl)
   have HS:=Lib.hid hs
   have HK:=Lib.hid (Blk.new wr 45 #[.int .i64 s.a, .int .i64 s.b])
   have HO1:=Lib.hid (HO.out.alloc (.cells #[.int .i64 s.a, .int .i64 s.b] 45))
   have HSR1:=Lib.hid (HSRC.out.alloc (.cells #[.int .i64 s.a, .int .i64 s.b] 45))
   have HE1:=Lib.hid (HE.out.alloc (.cells #[.int .i64 s.a, .int .i64 s.b] 45))
   have HU1:=Lib.hid (HU.out.alloc (.cells #[.int .i64 s.a, .int .i64 s.b] 45))
   clear hat hs HO HSRC HE HU
   go_upto_region 8 with (fail)
   generalize wr.alloc (.cells #[.int .i64 s.a, .int .i64 s.b] 45)=W1 at HK HO1 HSR1 HE1 HU1 ⊢
   generalize wr.heap.size=X at HK ⊢
   clear x0 x1
   obtain ⟨y0,y1⟩:=HK.out.pair
   have HT1:=Lib.hid (show M.take (i+1)=M.take i ++ [s] by rw [List.take_add_one,HS.out];rfl)
   by_cases h0:i=0
   ·subst h0
    go_quiet (fail)
    clear y0 y1
    have HK2:=Lib.hid (HK.out.drewN nq)
    have HO2:=Lib.hid ((HO1.out.drewN nq).alloc (.cells #[.int .i64 s.a, .int .i64 s.b] 45))
    have HSR2:=Lib.hid (HSR1.out.drewN nq)
    have HE2:=Lib.hid (HE1.out.drewN nq)
    have HU2:=Lib.hid (show Fut oL (W1.drewN nq) from HU1.out.drewN nq)
    clear HK HO1 HSR1 HE1 HU1
    generalize W1.drewN nq=V at HK2 HO2 HSR2 HE2 HU2 ⊢
    obtain ⟨z0,z1⟩:=HK2.out.pair
    go_wp2_with (at_builtin;refine wpList_append_S _ rfl (.tmp 45) (.tmp 47) 320 rfl 45 i0 _ 2 16 Tryz.underlying320 hi hz0 hz1 hz2 rfl (by omega) (.slice D (0) cap9) (0) (spcells (M.take (0))) rfl HO2.out (some ⟨V.heap.size,0,none⟩) 1 1 [.int .i64 s.a, .int .i64 s.b] rfl (Reads.newAt V 45 2 1 _ #[.int .i64 s.a, .int .i64 s.b] _ rfl rfl rfl) (by simp [Value.oneCell']) (by unfold maxLen;omega) (by omega) ?_;intro v7 w7 hown7 hst7 hgr7 hat7;obtain ⟨A7,cap7,rfl,_,_⟩:=own_form' hown7;have HW7:=Lib.hid hown7;have HS7:=Lib.hid (((Step.refl oL (fun _=>False) V).alloc (.cells #[.int .i64 s.a, .int .i64 s.b] 45)).mono (fun _ h=>h.elim:∀y,False→only 1 y) |>.trans hst7);clear hown7 hst7 hgr7 hat7)
    go_roundg (M.length - (0+1))
    case measure=>have:=HNI.out;omega
    case rel=>exact ⟨(0+1),A7,cap7,_,by omega,by go_num,rfl,by rw [HT1.out,spcells_app];exact HW7.out,HSR2.out.step HS7.out (by unfold only;omega),HE2.out.step HS7.out (by unfold only;omega),HU2.out.step HS7.out⟩
   ·obtain ⟨k,rfl⟩:∃k,i=k+1:=⟨i - 1,by omega⟩
    clear h0
    obtain ⟨q,hq⟩:∃q,M[k]? = some q:=⟨_,List.getElem?_eq_getElem (by omega)⟩
    have hqs:¬s.a≤q.b:=by
     obtain ⟨h1,e1⟩:=List.getElem?_eq_some_iff.1 hq
     obtain ⟨h2,e2⟩:=List.getElem?_eq_some_iff.1 HS.out
     have:=List.pairwise_iff_getElem.1 HP.out k (k+1) h1 h2 (by omega)
     rw [e1,e2] at this
     omega
    have hdq:decide (s.a≤q.b)=false:=decide_eq_false hqs
    obtain ⟨gd,cur2,rfl,_⟩:=HO1.out.blk (by omega)
    have hqt:(M.take (k+1))[k]? = some q:=by rw [List.getElem?_take,if_pos (by omega)];exact hq
    have z1:W1.cell? ⟨gd,k*2+1,none⟩=some (.int .i64 q.b):=HO1.out.at_ (flatS_at spans_size hqt (k:=1) rfl)
    clear hq hqt hqs
    go_quiet (fail)
    clear z1
    have HK2:=Lib.hid (HK.out.drewN nq)
    have HO2:=Lib.hid ((HO1.out.drewN nq).alloc (.cells #[.int .i64 s.a, .int .i64 s.b] 45))
    have HSR2:=Lib.hid (HSR1.out.drewN nq)
    have HE2:=Lib.hid (HE1.out.drewN nq)
    have HU2:=Lib.hid (show Fut oL (W1.drewN nq) from HU1.out.drewN nq)
    clear HK HO1 HSR1 HE1 HU1 y0 y1
    generalize W1.drewN nq=V at HK2 HO2 HSR2 HE2 HU2 ⊢
    obtain ⟨z0,z1⟩:=HK2.out.pair
    go_wp2_with (at_builtin;refine wpList_append_S _ rfl (.tmp 45) (.tmp 47) 320 rfl 45 i0 _ 2 16 Tryz.underlying320 hi hz0 hz1 hz2 rfl (by omega) (.slice (some ⟨gd,0,none⟩) (k+1) cap9) (k+1) (spcells (M.take (k+1))) rfl HO2.out (some ⟨V.heap.size,0,none⟩) 1 1 [.int .i64 s.a, .int .i64 s.b] rfl (Reads.newAt V 45 2 1 _ #[.int .i64 s.a, .int .i64 s.b] _ rfl rfl rfl) (by simp [Value.oneCell']) (by unfold maxLen;omega) (by omega) ?_;intro v7 w7 hown7 hst7 hgr7 hat7;obtain ⟨A7,cap7,rfl,_,_⟩:=own_form' hown7;have HW7:=Lib.hid hown7;have HS7:=Lib.hid (((Step.refl oL (fun _=>False) V).alloc (.cells #[.int .i64 s.a, .int .i64 s.b] 45)).mono (fun _ h=>h.elim:∀y,False→only 1 y) |>.trans hst7);clear hown7 hst7 hgr7 hat7)
    go_roundg (M.length - (k+1+1))
    case measure=>have:=HNI.out;omega
    case rel=>exact ⟨(k+1+1),A7,cap7,_,by omega,by go_num,rfl,by rw [HT1.out,spcells_app];exact HW7.out,HSR2.out.step HS7.out (by unfold only;omega),HE2.out.step HS7.out (by unfold only;omega),HU2.out.step HS7.out⟩
  ·obtain rfl:i=M.length:=by have:=HNI.out;omega
   have hltI:¬(M.length:Int)<(M.length:Int):=by omega
   have HT:=Lib.hid (show M.take M.length=M from List.take_length)
   go_wp2_with fail
   go_ret
   exact ⟨D,cap9,rfl,own_new HE.out (by have:=HO.out;rw [HT.out] at this;exact this) (by decide),HE.out.low⟩
end
end Go.Proofs.YtohgabdmmbngbaaGreatDoor
