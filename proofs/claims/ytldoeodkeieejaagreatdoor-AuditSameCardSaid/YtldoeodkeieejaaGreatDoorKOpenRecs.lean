import Derived.Test.YtldoeodkeieejaaGreatDoorKSumA
import Derived.Test.YtldoeodkeieejaaGreatDoorKBlkD
import Derived.Test.YtldoeodkeieejaaGreatDoorKCutA
namespace Go.Proofs.YtldoeodkeieejaaGreatDoor
open Go.RowKit
def chunk (B:List UInt8) (k:Nat):List UInt8:=(B.take ((k+1)*42)).drop (k*42)
theorem chunk_len (B:List UInt8) (k:Nat):(chunk B k).length=min ((k+1)*42) B.length - k*42:=by
 unfold chunk
 rw [List.length_drop,List.length_take]
section
variable {r:Rc} {rest:List UInt8}
theorem recs_at (r:Rc) (n:Nat):∀k,k<n→(((List.range n).flatMap (recS r)).take ((k+1)*64)).drop (k*64)=recS r k:=by
 induction n with
 | zero=>intro k hk;omega
 | succ n ih =>
   intro k hk
   have hl:=recs_len r n
   rw [List.range_succ,List.flatMap_append,List.flatMap_singleton]
   by_cases h:k<n
   ·rw [List.take_append_of_le_length (by omega)]
    exact ih k h
   ·obtain rfl:k=n:=by omega
    rw [List.take_of_length_le (by rw [List.length_append,hl,recS_len];omega),List.drop_append_of_le_length (by omega),List.drop_of_length_le (by omega),List.nil_append]
theorem place_rec (k:Nat) (hk:k<secsOf r.images.length):placeL (str (recL r++rest)) k=recS r k:=by
 unfold placeL
 rw [extract_str,str_list,List.take_append_of_le_length (by rw [recL_len];exact Nat.mul_le_mul_right _ hk)]
 exact recs_at r _ k hk
theorem secs_pos {n:Nat} (h1:1≤n) (h2:n≤60):secsOf n=(108*n+41) / 42:=by
 unfold secsOf
 rw [if_neg (by omega),Int.toNat_natCast]
end
theorem sum60 : readE (zer 64)=6:=by decide +kernel
theorem head_zero : lhE (str (zer 64))=6:=by
 unfold lhE
 rw [if_neg (by rw [str_size,zer_len];simp),str_list,sum60]
 rfl
theorem secs_any (n:Int) (w:World):Calls Tryz.prog 118 #[.int .i64 n] w fun e w'=>e = .returned (.int .i64 (secsOf n:Nat))∧w=w':=by
 by_cases h0:n<1
 ·have e1:secsOf n=0:=if_pos (.inl h0)
  rw [e1]
  clear e1
  go_enter Tryz.func118,Tryz.ntmps118
  go_wp2_with fail
  go_ret
  exact ⟨rfl,rfl⟩
 ·by_cases h1:60<n
  ·have e1:secsOf n=0:=if_pos (.inr h1)
   rw [e1]
   clear e1
   go_enter Tryz.func118,Tryz.ntmps118
   go_wp2_with fail
   go_ret
   exact ⟨rfl,rfl⟩
  ·have e1:secsOf n=(108*n.toNat+41) / 42:=if_neg (by omega)
   have E1:=Lib.hid (show ((secsOf n:Nat):Int)=(108*n+42 - 1) / 42 by rw [e1];omega)
   have b0:1≤n:=by omega
   have b1:n≤60:=by omega
   clear e1 h0 h1
   go_enter Tryz.func118,Tryz.ntmps118
   go_wp2_with fail
   go_ret
   exact ⟨by rw [E1.out];rfl,rfl⟩
def imcells (l:List Im):List Value:=l.flatMap Im.cells
theorem imcells_app (l m:List Im):imcells (l++m)=imcells l++imcells m:=by simp [imcells]
theorem info_im : (Tryz.prog.info? 47).map (fun i=>(i.zero,i.size,i.bytes))=some (some (.agg #[.int .i64 0, .int .u64 0, .string ⟨#[]⟩]),3,32):=by kernel_rfl
theorem Reads.below' {w w':World} {size n:Nat} {A:Option Addr} {xs:List Value} (h:Reads w size A n xs) (hs:0<size) (hb:Below w.heap.size w w'):Reads w' size A n xs:=by
 rcases Nat.eq_zero_or_pos n with h0 | h0
 ·subst h0
  exact ⟨h.1,fun hn=>absurd hn (by omega)⟩
 ·exact h.keep_ (fun ad e=>hb.block _ (h.lt hs ad h0 e))
theorem Reads.alloc' {w:World} {size n:Nat} {A:Option Addr} {xs:List Value} (h:Reads w size A n xs) (hs:0<size) (x:Obj):Reads (w.alloc x) size A n xs:=h.below' hs ((Below.refl _ _).alloc (Nat.le_refl _) x)
theorem Reads.imrow {w:World} {A:Option Addr} {l:List Im} (h:Reads w 3 A l.length (imcells l)) {k:Nat} {y:Im} (hy:l[k]? = some y) :
 ∃ad,A=some ad∧w.cell? (ad.add (k*3))=some (.int .i64 y.block)∧w.cell? ⟨(ad.add (k*3)).block,(ad.add (k*3)).off+1,none⟩=some (.int .u64 y.ver)∧w.cell? ⟨(ad.add (k*3)).block,(ad.add (k*3)).off+2,none⟩=some (.string y.data):=by
 obtain ⟨ad,rfl,hc⟩:=Reads.row (f:=Im.cells) (fun _=>rfl) h hy
 exact ⟨ad,rfl,hc 0 _ rfl,hc 1 _ rfl,hc 2 _ rfl⟩
def okTo (l:List Im) (k:Nat):Prop:=∀j x,j<k→l[j]? = some x→x.right∧∀y,0<j→l[j - 1]? = some y→y.block<x.block
theorem okTo_succ {l:List Im} {k:Nat} {x:Im} (h:okTo l k) (hx:l[k]? = some x) (hr:x.right) (hp:∀y,0<k→l[k - 1]? = some y→y.block<x.block):okTo l (k+1):=by
 intro j z hj hz
 by_cases e:j<k
 ·exact h j z e hz
 ·obtain rfl:j=k:=by omega
  rw [hx] at hz
  injection hz with hz
  subst hz
  exact ⟨hr,hp⟩
theorem okTo_all {l:List Im} (h:okTo l l.length):(∀i∈l,i.right)∧rise l=true:=by
 refine ⟨fun i hi => ?_,?_⟩
 ·obtain ⟨j,hj,rfl⟩:=List.mem_iff_getElem.1 hi
  exact (h j _ hj (List.getElem?_eq_getElem hj)).1
 ·induction l with
  | nil=>rfl
  | cons a l ih =>
    cases l with
    | nil=>rfl
    | cons b l =>
      have h1:a.block<b.block:=(h 1 b (by simp) rfl).2 a (by omega) rfl
      have h2:rise (b :: l)=true:=ih (fun j x hj hx=>by
       have:=h (j+1) x (by simpa using hj) (by simpa using hx)
       refine ⟨this.1,fun y hy0 hy=>this.2 y (by omega) ?_⟩
       obtain ⟨j',rfl⟩:∃j',j=j'+1:=⟨j - 1,by omega⟩
       simpa using hy)
      simp only [rise,Bool.and_eq_true,decide_eq_true_eq]
      exact ⟨h1,h2⟩
theorem rise_get : ∀ {l:List Im},rise l=true→∀ {j:Nat} {x y:Im},l[j+1]? = some x→l[j]? = some y→y.block<x.block
 | [],_,_,_,_,h,_=>by simp at h
 | [_],_,j,_,_,h,_=>by simp at h
 | a :: b :: l,hr,0,x,y,h,h'=>by
   simp only [rise,Bool.and_eq_true,decide_eq_true_eq] at hr
   simp at h h'
   subst h h'
   exact hr.1
 | a :: b :: l,hr,j+1,x,y,h,h'=>rise_get (rise_tail hr) (by simpa using h) (by simpa using h')
theorem wrong_bad {r:Rc} {k:Nat} {x:Im} (h0:¬(r.epoch=0∨r.lsn=0∨r.images = [])) (hx:r.images[k]? = some x) (h:¬x.right∨∃y,0<k∧r.images[k - 1]? = some y∧x.block≤y.block):r.wrongE=1:=by
 unfold Rc.wrongE
 rw [if_neg h0,if_pos]
 rcases h with h | ⟨y,hk,hy,hle⟩
 ·exact .inl ⟨x,List.mem_of_getElem? hx,h⟩
 ·refine .inr ?_
  cases hr:rise r.images with
  | false=>rfl
  | true =>
    obtain ⟨k',rfl⟩:∃k',k=k'+1:=⟨k - 1,by omega⟩
    have:=rise_get hr hx (by simpa using hy)
    omega
theorem wrong_end {r:Rc} (h0:¬(r.epoch=0∨r.lsn=0∨r.images = [])) (h:okTo r.images r.images.length):r.wrongE=if 60<r.images.length then 2 else 0:=by
 obtain ⟨h1,h2⟩:=okTo_all h
 unfold Rc.wrongE
 rw [if_neg h0,if_neg]
 rintro (⟨i,hi,hn⟩ | hf)
 ·exact hn (h1 i hi)
 ·rw [h2] at hf
  cases hf
set_option maxRecDepth 100000 in
set_option maxHeartbeats 4000000 in
theorem cwrong_any (r:Rc) (w:World) (A:Option Addr) (cap:Nat) (h:Reads w 3 A r.images.length (imcells r.images)) (hl:r.images.length≤1000000) (hcap:r.images.length≤cap) (hcm:cap≤maxLen) (hd:∀i∈r.images,i.data.size≤maxLen) :
 Calls Tryz.prog 175 #[.agg #[.int .u64 r.epoch, .int .u64 r.lsn, .slice A r.images.length cap]] w fun e w'=>e = .returned (.int .i64 r.wrongE)∧Below w.heap.size w w':=by
 obtain ⟨ep,ls,l⟩:=r
 simp only at h hl hcap hd ⊢
 have hcm1:=hcm
 unfold maxLen at hcm1
 clear hcm
 have HB:=Lib.hid ((Below.refl w.heap.size w).alloc (Nat.le_refl _) (.cells #[.int .u64 ep, .int .u64 ls, .slice A l.length cap] 160))
 have HBK:=Lib.hid (Blk.new w 160 #[.int .u64 ep, .int .u64 ls, .slice A l.length cap])
 by_cases z0:ep=0
 ·have e1:Rc.wrongE ⟨ep,ls,l⟩=1:=if_pos (.inl z0)
  have zI:((ep:Int) == 0)=true:=by simp [z0]
  rw [e1]
  clear e1 z0
  go_enter Tryz.func175,Tryz.ntmps175
  go_wp2_with fail
  go_ret
  exact ⟨rfl,HB.out⟩
 ·have zI:((ep:Int) == 0)=false:=by simp [z0]
  by_cases z1:ls=0
  ·have e1:Rc.wrongE ⟨ep,ls,l⟩=1:=if_pos (.inr (.inl z1))
   have yI:((ls:Int) == 0)=true:=by simp [z1]
   rw [e1]
   clear e1 z0 z1
   go_enter Tryz.func175,Tryz.ntmps175
   go_wp2_with fail
   go_ret
   exact ⟨rfl,HB.out⟩
  ·have yI:((ls:Int) == 0)=false:=by simp [z1]
   by_cases z2:l = []
   ·have e1:Rc.wrongE ⟨ep,ls,l⟩=1:=if_pos (.inr (.inr z2))
    have xI:((l.length:Int) == 0)=true:=by simp [z2]
    rw [e1]
    clear e1 z0 z1 z2
    go_enter Tryz.func175,Tryz.ntmps175
    go_wp2_with fail
    go_ret
    exact ⟨rfl,HB.out⟩
   ·have xI:((l.length:Int) == 0)=false:=by simp [z2]
    have HNZ:=Lib.hid (show ¬(ep=0∨ls=0∨l = []) from fun h=>by rcases h with h | h | h <;> contradiction)
    have HR:=Lib.hid h
    have HD:=Lib.hid hd
    clear z0 z1 z2 h hd
    go_enter Tryz.func175,Tryz.ntmps175
    go_wp2_with fail
    generalize w.alloc (.cells #[.int .u64 ep, .int .u64 ls, .slice A l.length cap] 160)=W at HB HBK ⊢
    clear xI yI zI
    go_loopw [22] (fun t22 wr=>∃k:Nat,k≤l.length∧t22 = .int .i64 k∧Below w.heap.size w wr∧Blk wr w.heap.size 160 #[.int .u64 ep, .int .u64 ls, .slice A l.length cap]∧Hid (okTo l k)) (fun t22 _=>l.length - (intOf t22).toNat)
    case atStart=>exact ⟨0,by omega,rfl,HB.out,HBK.out,Lib.hid (fun j x hj=>absurd hj (by omega))⟩
    case round =>
     obtain ⟨k,hk,rfl,hb,hbk,HOK⟩:=hrel
     have HBr:=Lib.hid hb
     have HKr:=Lib.hid hbk
     clear hb hbk
     by_cases hlt:k<l.length
     ·have hltI:(k:Int)<(l.length:Int):=by omega
      have hkI:(0:Int)≤(k:Int):=by omega
      obtain ⟨x,hx⟩:∃x,l[k]? = some x:=⟨_,List.getElem?_eq_getElem hlt⟩
      have HXM:=Lib.hid hx
      have HXD:=Lib.hid (HD.out x (List.mem_of_getElem? hx))
      have hrd:=HR.out.below' (by omega) HBr.out
      obtain ⟨ad,rfl,c0,c1,c2⟩:=hrd.imrow hx
      have HRD:=Lib.hid hrd
      have HX:=Lib.hid (Blk.new wr 47 #[.int .i64 x.block, .int .u64 x.ver, .string x.data])
      have HB2:=Lib.hid (HBr.out.alloc HBr.out.size (.cells #[.int .i64 x.block, .int .u64 x.ver, .string x.data] 47))
      have HK2:=Lib.hid (HKr.out.alloc (.cells #[.int .i64 x.block, .int .u64 x.ver, .string x.data] 47))
      have HRD2:=Lib.hid (hrd.alloc' (by omega) (.cells #[.int .i64 x.block, .int .u64 x.ver, .string x.data] 47))
      clear hx hrd
      go_upto_region 6 with (fail)
      clear c0 c1 c2
      generalize wr.alloc (.cells #[.int .i64 x.block, .int .u64 x.ver, .string x.data] 47)=W2 at HX HB2 HK2 HRD2 ⊢
      generalize wr.heap.size=X at HX ⊢
      obtain ⟨x0,x1,x2⟩:=HX.out.drew.three
      by_cases hr:x.right
      ·have HRT:=Lib.hid (decide_eq_true hr)
       have HRR:=Lib.hid hr
       clear hr
       by_cases hk0:k=0
       ·subst hk0
        refine wp_region_held_drew (S:=(fun w'=>w'.cell? ⟨X,0,none⟩=some (.int .i64 x.block)∧w'.cell? ⟨X,1,none⟩=some (.int .u64 x.ver)∧w'.cell? ⟨X,2,none⟩=some (.string x.data))) (by kernel_rfl) ⟨x0,x1,x2⟩ (fun hHeld => ?_)
        refine wpAnyH_take (i:=0) (oi := {dst:=some 27,op:=Go.Op.load 47 (Go.Operand.tmp 4),type:=47,pos := "rec.go:62",after:=#[],guard:=none}) (v := ?_) rfl (by kernel_rfl) (by kernel_rfl) (by kernel_rfl) (fun _ _ _ h=>h) (Or.inl ⟨by rfl,?_⟩) (by assumption) ?_
        rotate_left
        ·(intro w hSw;(try dsimp only at hSw);go_simp;first | done | with_reducible rfl)
        try simp only [Act.put,List.setIfInBounds_toArray,List.set_cons_zero,List.set_cons_succ]
        refine wpAnyH_ready (rs := [1]) (by kernel_rfl) (by simp) ?_
        refine AllReadyH.cons (o := {dst:=some 28,op:=Go.Op.call {callee:=Go.Callee.value (Go.Operand.func 191),args:=#[Go.Operand.tmp 27],argTypes:=#[47]},type:=4,pos := "rec.go:62",after:=#[{on:=0,ground:=Go.Ground.data}],guard:=none}) rfl (fun K hK => ?_) AllReadyH.nil
        go_simp
        refine (right_any x _ HXD.out).mono ?_
        rintro e7 w7 ⟨rfl,hb7⟩
        rw [HRT.out]
        go_wp2_with fail
        refine hK.out _ _ (HX.out.drew.below_ hb7).three (fun hHeld2 => ?_)
        clear hK K hHeld
        have hHeld:=hHeld2
        clear hHeld2
        try simp only [Act.put,List.setIfInBounds_toArray,List.set_cons_zero,List.set_cons_succ]
        refine wpAnyH_take (i:=2) (oi := {dst:=some 29,op:=Go.Op.unOp Go.UnOp.not 4 (Go.Operand.tmp 28),type:=4,pos := "rec.go:62",after:=#[{on:=1,ground:=Go.Ground.data}],guard:=none}) (v := ?_) rfl (by kernel_rfl) (by kernel_rfl) (by kernel_rfl) (fun _ _ _ h=>h) (Or.inl ⟨by rfl,?_⟩) (by assumption) ?_
        rotate_left
        ·(intro w hSw;(try dsimp only at hSw);go_simp;first | done | with_reducible rfl)
        try simp only [Act.put,List.setIfInBounds_toArray,List.set_cons_zero,List.set_cons_succ]
        refine wpAnyH_take (i:=3) (oi := {dst:=some 30,op:=Go.Op.move (Go.Operand.tmp 29),type:=4,pos := "rec.go:62",after:=#[{on:=2,ground:=Go.Ground.data},{on:=1,ground:=Go.Ground.chain}],guard:=none}) (v := ?_) rfl (by kernel_rfl) (by kernel_rfl) (by kernel_rfl) (fun _ _ _ h=>h) (Or.inl ⟨by rfl,?_⟩) (by assumption) ?_
        rotate_left
        ·(intro w hSw;(try dsimp only at hSw);go_simp;first | done | with_reducible rfl)
        try simp only [Act.put,List.setIfInBounds_toArray,List.set_cons_zero,List.set_cons_succ]
        refine wpAnyH_take (i:=4) (oi := {dst:=some 31,op:=Go.Op.move (Go.Operand.tmp 3),type:=3,pos := "rec.go:62",after:=#[{on:=3,ground:=Go.Ground.guard}],guard:=some (3,false)}) (v := ?_) rfl (by kernel_rfl) (by kernel_rfl) (by kernel_rfl) (fun _ _ _ h=>h) (Or.inl ⟨by rfl,?_⟩) (by assumption) ?_
        rotate_left
        ·(intro w hSw;(try dsimp only at hSw);go_simp;first | done | with_reducible rfl)
        try simp only [Act.put,List.setIfInBounds_toArray,List.set_cons_zero,List.set_cons_succ]
        refine wpAnyH_take (i:=5) (oi := {dst:=some 32,op:=Go.Op.binOp Go.BinOp.gtr 3 (Go.Operand.tmp 31) (Go.Operand.const (Go.Value.int Go.IntKind.i64 0)) 3,type:=4,pos := "rec.go:62",after:=#[{on:=4,ground:=Go.Ground.data},{on:=3,ground:=Go.Ground.guard}],guard:=some (3,false)}) (v := ?_) rfl (by kernel_rfl) (by kernel_rfl) (by kernel_rfl) (fun _ _ _ h=>h) (Or.inl ⟨by rfl,?_⟩) (by assumption) ?_
        rotate_left
        ·(intro w hSw;(try dsimp only at hSw);go_simp;first | done | with_reducible rfl)
        try simp only [Act.put,List.setIfInBounds_toArray,List.set_cons_zero,List.set_cons_succ]
        refine wpAnyH_take (i:=6) (oi := {dst:=some 33,op:=Go.Op.move (Go.Operand.tmp 32),type:=4,pos := "rec.go:62",after:=#[{on:=5,ground:=Go.Ground.data},{on:=3,ground:=Go.Ground.chain},{on:=3,ground:=Go.Ground.guard}],guard:=some (3,false)}) (v := ?_) rfl (by kernel_rfl) (by kernel_rfl) (by kernel_rfl) (fun _ _ _ h=>h) (Or.inl ⟨by rfl,?_⟩) (by assumption) ?_
        rotate_left
        ·(intro w hSw;(try dsimp only at hSw);go_simp;first | done | with_reducible rfl)
        try simp only [Act.put,List.setIfInBounds_toArray,List.set_cons_zero,List.set_cons_succ]
        refine wpAnyH_take (i:=7) (oi := {dst:=some 34,op:=Go.Op.fieldAddr 47 (Go.Operand.tmp 4) 0,type:=0,pos := "rec.go:62",after:=#[{on:=6,ground:=Go.Ground.guard}],guard:=some (6,true)}) (v:=undef) rfl (by kernel_rfl) (by kernel_rfl) (by kernel_rfl) (fun _ _ _ h=>h) (Or.inr ⟨by rfl,rfl⟩) (by assumption) ?_
        try simp only [Act.put,List.setIfInBounds_toArray,List.set_cons_zero,List.set_cons_succ]
        refine wpAnyH_take (i:=8) (oi := {dst:=some 35,op:=Go.Op.load 3 (Go.Operand.tmp 34),type:=3,pos := "rec.go:62",after:=#[{on:=7,ground:=Go.Ground.data},{on:=6,ground:=Go.Ground.guard}],guard:=some (6,true)}) (v:=undef) rfl (by kernel_rfl) (by kernel_rfl) (by kernel_rfl) (fun _ _ _ h=>h) (Or.inr ⟨by rfl,rfl⟩) (by assumption) ?_
        try simp only [Act.put,List.setIfInBounds_toArray,List.set_cons_zero,List.set_cons_succ]
        refine wpAnyH_take (i:=9) (oi := {dst:=some 36,op:=Go.Op.fieldAddr 160 (Go.Operand.tmp 1) 2,type:=0,pos := "rec.go:62",after:=#[{on:=6,ground:=Go.Ground.guard}],guard:=some (6,true)}) (v:=undef) rfl (by kernel_rfl) (by kernel_rfl) (by kernel_rfl) (fun _ _ _ h=>h) (Or.inr ⟨by rfl,rfl⟩) (by assumption) ?_
        try simp only [Act.put,List.setIfInBounds_toArray,List.set_cons_zero,List.set_cons_succ]
        refine wpAnyH_take (i:=10) (oi := {dst:=some 37,op:=Go.Op.load 40 (Go.Operand.tmp 36),type:=40,pos := "rec.go:62",after:=#[{on:=9,ground:=Go.Ground.data},{on:=6,ground:=Go.Ground.guard}],guard:=some (6,true)}) (v:=undef) rfl (by kernel_rfl) (by kernel_rfl) (by kernel_rfl) (fun _ _ _ h=>h) (Or.inr ⟨by rfl,rfl⟩) (by assumption) ?_
        try simp only [Act.put,List.setIfInBounds_toArray,List.set_cons_zero,List.set_cons_succ]
        refine wpAnyH_take (i:=11) (oi := {dst:=some 38,op:=Go.Op.move (Go.Operand.tmp 3),type:=3,pos := "rec.go:62",after:=#[{on:=6,ground:=Go.Ground.guard}],guard:=some (6,true)}) (v:=undef) rfl (by kernel_rfl) (by kernel_rfl) (by kernel_rfl) (fun _ _ _ h=>h) (Or.inr ⟨by rfl,rfl⟩) (by assumption) ?_
        try simp only [Act.put,List.setIfInBounds_toArray,List.set_cons_zero,List.set_cons_succ]
        refine wpAnyH_take (i:=12) (oi := {dst:=some 39,op:=Go.Op.binOp Go.BinOp.sub 3 (Go.Operand.tmp 38) (Go.Operand.const (Go.Value.int Go.IntKind.i64 1)) 3,type:=3,pos := "rec.go:62",after:=#[{on:=11,ground:=Go.Ground.data},{on:=6,ground:=Go.Ground.guard}],guard:=some (6,true)}) (v:=undef) rfl (by kernel_rfl) (by kernel_rfl) (by kernel_rfl) (fun _ _ _ h=>h) (Or.inr ⟨by rfl,rfl⟩) (by assumption) ?_
        try simp only [Act.put,List.setIfInBounds_toArray,List.set_cons_zero,List.set_cons_succ]
        refine wpAnyH_take (i:=13) (oi := {dst:=some 40,op:=Go.Op.indexAddr 40 (Go.Operand.tmp 37) (Go.Operand.tmp 39),type:=0,pos := "rec.go:62",after:=#[{on:=10,ground:=Go.Ground.data},{on:=12,ground:=Go.Ground.data},{on:=6,ground:=Go.Ground.guard}],guard:=some (6,true)}) (v:=undef) rfl (by kernel_rfl) (by kernel_rfl) (by kernel_rfl) (fun _ _ _ h=>h) (Or.inr ⟨by rfl,rfl⟩) (by assumption) ?_
        try simp only [Act.put,List.setIfInBounds_toArray,List.set_cons_zero,List.set_cons_succ]
        refine wpAnyH_take (i:=14) (oi := {dst:=some 41,op:=Go.Op.fieldAddr 47 (Go.Operand.tmp 40) 0,type:=0,pos := "rec.go:62",after:=#[{on:=13,ground:=Go.Ground.data},{on:=6,ground:=Go.Ground.guard}],guard:=some (6,true)}) (v:=undef) rfl (by kernel_rfl) (by kernel_rfl) (by kernel_rfl) (fun _ _ _ h=>h) (Or.inr ⟨by rfl,rfl⟩) (by assumption) ?_
        try simp only [Act.put,List.setIfInBounds_toArray,List.set_cons_zero,List.set_cons_succ]
        refine wpAnyH_take (i:=15) (oi := {dst:=some 42,op:=Go.Op.load 3 (Go.Operand.tmp 41),type:=3,pos := "rec.go:62",after:=#[{on:=14,ground:=Go.Ground.data},{on:=6,ground:=Go.Ground.guard}],guard:=some (6,true)}) (v:=undef) rfl (by kernel_rfl) (by kernel_rfl) (by kernel_rfl) (fun _ _ _ h=>h) (Or.inr ⟨by rfl,rfl⟩) (by assumption) ?_
        try simp only [Act.put,List.setIfInBounds_toArray,List.set_cons_zero,List.set_cons_succ]
        refine wpAnyH_take (i:=16) (oi := {dst:=some 43,op:=Go.Op.binOp Go.BinOp.leq 3 (Go.Operand.tmp 35) (Go.Operand.tmp 42) 3,type:=4,pos := "rec.go:62",after:=#[{on:=8,ground:=Go.Ground.data},{on:=15,ground:=Go.Ground.data},{on:=6,ground:=Go.Ground.guard}],guard:=some (6,true)}) (v:=undef) rfl (by kernel_rfl) (by kernel_rfl) (by kernel_rfl) (fun _ _ _ h=>h) (Or.inr ⟨by rfl,rfl⟩) (by assumption) ?_
        try simp only [Act.put,List.setIfInBounds_toArray,List.set_cons_zero,List.set_cons_succ]
        refine wpAnyH_take (i:=17) (oi := {dst:=some 44,op:=Go.Op.pick (Go.Operand.tmp 33) (Go.Operand.tmp 43) (Go.Operand.const (Go.Value.bool false)),type:=4,pos := "rec.go:62",after:=#[{on:=6,ground:=Go.Ground.data},{on:=16,ground:=Go.Ground.data},{on:=3,ground:=Go.Ground.guard}],guard:=some (3,false)}) (v := ?_) rfl (by kernel_rfl) (by kernel_rfl) (by kernel_rfl) (fun _ _ _ h=>h) (Or.inl ⟨by rfl,?_⟩) (by assumption) ?_
        rotate_left
        ·(intro w hSw;(try dsimp only at hSw);go_simp;first | done | with_reducible rfl)
        try simp only [Act.put,List.setIfInBounds_toArray,List.set_cons_zero,List.set_cons_succ]
        refine wpAnyH_take (i:=18) (oi := {dst:=some 45,op:=Go.Op.pick (Go.Operand.tmp 30) (Go.Operand.const (Go.Value.bool true)) (Go.Operand.tmp 44),type:=4,pos := "rec.go:62",after:=#[{on:=3,ground:=Go.Ground.data},{on:=17,ground:=Go.Ground.data}],guard:=none}) (v := ?_) rfl (by kernel_rfl) (by kernel_rfl) (by kernel_rfl) (fun _ _ _ h=>h) (Or.inl ⟨by rfl,?_⟩) (by assumption) ?_
        rotate_left
        ·(intro w hSw;(try dsimp only at hSw);go_simp;first | done | with_reducible rfl)
        try simp only [Act.put,List.setIfInBounds_toArray,List.set_cons_zero,List.set_cons_succ]
        refine wpAnyH_done (by kernel_rfl) ?_ _
        have HB7:=Lib.hid ((below_drew' HB2.out).trans (hb7.mono HB2.out.size))
        have HK7:=Lib.hid (HK2.out.drew.below_ hb7)
        clear hb7 hHeld x0 x1 x2
        go_wp2_with fail
        go_roundw
        case rel=>exact ⟨1,by omega,by go_num,HB7.out,HK7.out,Lib.hid (okTo_succ HOK.out HXM.out HRR.out (fun _ h=>absurd h (by omega)))⟩
        case measure=>simp [intOf];omega
       ·obtain ⟨m,hm⟩:∃m,k=m+1:=⟨k - 1,by omega⟩
        have HMM:=Lib.hid hm
        obtain ⟨y,hy⟩:∃y,l[m]? = some y:=⟨_,List.getElem?_eq_getElem (by omega)⟩
        have HY:=Lib.hid hy
        obtain ⟨ad',e',c0,_,_⟩:=HRD2.out.drew.imrow hy
        injection e' with e'
        subst e'
        have r2:W2.drew.cell? ⟨w.heap.size,2,none⟩=some (.slice (some ad) l.length cap):=HK2.out.cell 2
        have he:IntKind.i64.wrap ((k:Int) - 1)=(m:Int):=by rw [IntWalk.i64_in _ (by omega)];omega
        have hm0:(0:Int)≤(m:Int):=by omega
        have hm1:(m:Int)<(l.length:Int):=by omega
        have hkd:decide (0<k)=true:=decide_eq_true (by omega)
        have HSP:=Lib.hid (show ∀W:World,Below W2.drew.heap.size W2.drew W→W.cell? ⟨w.heap.size,2,none⟩=some (.slice (some ad) l.length cap)∧W.cell? (ad.add (m*3))=some (.int .i64 y.block) from fun W hb=>⟨(HK2.out.drew.below_ hb).cell 2,by
         obtain ⟨ad',e',q0,_,_⟩:=(HRD2.out.drew.below' (by omega) hb).imrow hy
         injection e' with e'
         subst e'
         exact q0⟩)
        clear hy hk0 hm
        go_region_held3 (fun w'=>w'.cell? ⟨X,0,none⟩=some (.int .i64 x.block)∧w'.cell? ⟨X,1,none⟩=some (.int .u64 x.ver)∧w'.cell? ⟨X,2,none⟩=some (.string x.data)∧w'.cell? ⟨w.heap.size,2,none⟩=some (.slice (some ad) l.length cap)∧w'.cell? (ad.add (m*3))=some (.int .i64 y.block))
         (first | exact ⟨x0,x1,x2,r2,c0⟩ | exact ⟨z0,z1,z2,z3.1,z3.2⟩ | go_keep)
         (first | (go_at_call 191;((with_reducible refine (right_any x _ HXD.out).mono ?_);rintro e7 w7 ⟨rfl,hb7⟩;rw [HRT.out];obtain ⟨z0,z1,z2⟩:=(HX.out.drew.below_ hb7).three;have z3:=HSP.out w7 hb7)))
        have HB7:=Lib.hid ((below_drew' HB2.out).trans (hb7.mono HB2.out.size))
        have HK7:=Lib.hid (HK2.out.drew.below_ hb7)
        clear hb7 z0 z1 z2 z3 x0 x1 x2 r2 c0 he
        by_cases hle:x.block≤y.block
        ·have HWE:=Lib.hid (wrong_bad (r:=⟨ep,ls,l⟩) HNZ.out HXM.out (.inr ⟨y,by have:=HMM.out;omega,by have e:=HMM.out;subst e;exact HY.out,hle⟩))
         have hd1:decide (x.block≤y.block)=true:=decide_eq_true hle
         go_wp2_with fail
         go_ret
         exact ⟨by rw [HWE.out];rfl,HB7.out⟩
        ·have hd1:decide (x.block≤y.block)=false:=decide_eq_false hle
         have HO2:=Lib.hid (okTo_succ HOK.out HXM.out HRR.out (fun z _ h=>by
          have e0:=HMM.out
          subst e0
          have e:l[m]? = some z:=h
          rw [HY.out] at e
          injection e with e
          subst e
          omega))
         go_wp2_with fail
         go_roundw
         case rel=>exact ⟨k+1,by omega,by go_num,HB7.out,HK7.out,HO2⟩
         case measure=>simp [intOf];omega
      ·have HRT:=Lib.hid (decide_eq_false hr)
       have HWE:=Lib.hid (wrong_bad (r:=⟨ep,ls,l⟩) HNZ.out HXM.out (.inl hr))
       clear hr
       refine wp_region_held_drew (S:=(fun w'=>w'.cell? ⟨X,0,none⟩=some (.int .i64 x.block)∧w'.cell? ⟨X,1,none⟩=some (.int .u64 x.ver)∧w'.cell? ⟨X,2,none⟩=some (.string x.data))) (by kernel_rfl) ⟨x0,x1,x2⟩ (fun hHeld => ?_)
       refine wpAnyH_take (i:=0) (oi := {dst:=some 27,op:=Go.Op.load 47 (Go.Operand.tmp 4),type:=47,pos := "rec.go:62",after:=#[],guard:=none}) (v := ?_) rfl (by kernel_rfl) (by kernel_rfl) (by kernel_rfl) (fun _ _ _ h=>h) (Or.inl ⟨by rfl,?_⟩) (by assumption) ?_
       rotate_left
       ·(intro w hSw;(try dsimp only at hSw);go_simp;first | done | with_reducible rfl)
       try simp only [Act.put,List.setIfInBounds_toArray,List.set_cons_zero,List.set_cons_succ]
       refine wpAnyH_ready (rs := [1]) (by kernel_rfl) (by simp) ?_
       refine AllReadyH.cons (o := {dst:=some 28,op:=Go.Op.call {callee:=Go.Callee.value (Go.Operand.func 191),args:=#[Go.Operand.tmp 27],argTypes:=#[47]},type:=4,pos := "rec.go:62",after:=#[{on:=0,ground:=Go.Ground.data}],guard:=none}) rfl (fun K hK => ?_) AllReadyH.nil
       go_simp
       refine (right_any x _ HXD.out).mono ?_
       rintro e7 w7 ⟨rfl,hb7⟩
       rw [HRT.out]
       go_wp2_with fail
       refine hK.out _ _ (HX.out.drew.below_ hb7).three (fun hHeld2 => ?_)
       clear hK K hHeld
       have hHeld:=hHeld2
       clear hHeld2
       try simp only [Act.put,List.setIfInBounds_toArray,List.set_cons_zero,List.set_cons_succ]
       refine wpAnyH_take (i:=2) (oi := {dst:=some 29,op:=Go.Op.unOp Go.UnOp.not 4 (Go.Operand.tmp 28),type:=4,pos := "rec.go:62",after:=#[{on:=1,ground:=Go.Ground.data}],guard:=none}) (v := ?_) rfl (by kernel_rfl) (by kernel_rfl) (by kernel_rfl) (fun _ _ _ h=>h) (Or.inl ⟨by rfl,?_⟩) (by assumption) ?_
       rotate_left
       ·(intro w hSw;(try dsimp only at hSw);go_simp;first | done | with_reducible rfl)
       try simp only [Act.put,List.setIfInBounds_toArray,List.set_cons_zero,List.set_cons_succ]
       refine wpAnyH_take (i:=3) (oi := {dst:=some 30,op:=Go.Op.move (Go.Operand.tmp 29),type:=4,pos := "rec.go:62",after:=#[{on:=2,ground:=Go.Ground.data},{on:=1,ground:=Go.Ground.chain}],guard:=none}) (v := ?_) rfl (by kernel_rfl) (by kernel_rfl) (by kernel_rfl) (fun _ _ _ h=>h) (Or.inl ⟨by rfl,?_⟩) (by assumption) ?_
       rotate_left
       ·(intro w hSw;(try dsimp only at hSw);go_simp;first | done | with_reducible rfl)
       try simp only [Act.put,List.setIfInBounds_toArray,List.set_cons_zero,List.set_cons_succ]
       refine wpAnyH_take (i:=4) (oi := {dst:=some 31,op:=Go.Op.move (Go.Operand.tmp 3),type:=3,pos := "rec.go:62",after:=#[{on:=3,ground:=Go.Ground.guard}],guard:=some (3,false)}) (v:=undef) rfl (by kernel_rfl) (by kernel_rfl) (by kernel_rfl) (fun _ _ _ h=>h) (Or.inr ⟨by rfl,rfl⟩) (by assumption) ?_
       try simp only [Act.put,List.setIfInBounds_toArray,List.set_cons_zero,List.set_cons_succ]
       refine wpAnyH_take (i:=5) (oi := {dst:=some 32,op:=Go.Op.binOp Go.BinOp.gtr 3 (Go.Operand.tmp 31) (Go.Operand.const (Go.Value.int Go.IntKind.i64 0)) 3,type:=4,pos := "rec.go:62",after:=#[{on:=4,ground:=Go.Ground.data},{on:=3,ground:=Go.Ground.guard}],guard:=some (3,false)}) (v:=undef) rfl (by kernel_rfl) (by kernel_rfl) (by kernel_rfl) (fun _ _ _ h=>h) (Or.inr ⟨by rfl,rfl⟩) (by assumption) ?_
       try simp only [Act.put,List.setIfInBounds_toArray,List.set_cons_zero,List.set_cons_succ]
       refine wpAnyH_take (i:=6) (oi := {dst:=some 33,op:=Go.Op.move (Go.Operand.tmp 32),type:=4,pos := "rec.go:62",after:=#[{on:=5,ground:=Go.Ground.data},{on:=3,ground:=Go.Ground.chain},{on:=3,ground:=Go.Ground.guard}],guard:=some (3,false)}) (v:=undef) rfl (by kernel_rfl) (by kernel_rfl) (by kernel_rfl) (fun _ _ _ h=>h) (Or.inr ⟨by rfl,rfl⟩) (by assumption) ?_
       try simp only [Act.put,List.setIfInBounds_toArray,List.set_cons_zero,List.set_cons_succ]
       refine wpAnyH_take (i:=7) (oi := {dst:=some 34,op:=Go.Op.fieldAddr 47 (Go.Operand.tmp 4) 0,type:=0,pos := "rec.go:62",after:=#[{on:=6,ground:=Go.Ground.guard}],guard:=some (6,true)}) (v:=undef) rfl (by kernel_rfl) (by kernel_rfl) (by kernel_rfl) (fun _ _ _ h=>h) (Or.inr ⟨by rfl,rfl⟩) (by assumption) ?_
       try simp only [Act.put,List.setIfInBounds_toArray,List.set_cons_zero,List.set_cons_succ]
       refine wpAnyH_take (i:=8) (oi := {dst:=some 35,op:=Go.Op.load 3 (Go.Operand.tmp 34),type:=3,pos := "rec.go:62",after:=#[{on:=7,ground:=Go.Ground.data},{on:=6,ground:=Go.Ground.guard}],guard:=some (6,true)}) (v:=undef) rfl (by kernel_rfl) (by kernel_rfl) (by kernel_rfl) (fun _ _ _ h=>h) (Or.inr ⟨by rfl,rfl⟩) (by assumption) ?_
       try simp only [Act.put,List.setIfInBounds_toArray,List.set_cons_zero,List.set_cons_succ]
       refine wpAnyH_take (i:=9) (oi := {dst:=some 36,op:=Go.Op.fieldAddr 160 (Go.Operand.tmp 1) 2,type:=0,pos := "rec.go:62",after:=#[{on:=6,ground:=Go.Ground.guard}],guard:=some (6,true)}) (v:=undef) rfl (by kernel_rfl) (by kernel_rfl) (by kernel_rfl) (fun _ _ _ h=>h) (Or.inr ⟨by rfl,rfl⟩) (by assumption) ?_
       try simp only [Act.put,List.setIfInBounds_toArray,List.set_cons_zero,List.set_cons_succ]
       refine wpAnyH_take (i:=10) (oi := {dst:=some 37,op:=Go.Op.load 40 (Go.Operand.tmp 36),type:=40,pos := "rec.go:62",after:=#[{on:=9,ground:=Go.Ground.data},{on:=6,ground:=Go.Ground.guard}],guard:=some (6,true)}) (v:=undef) rfl (by kernel_rfl) (by kernel_rfl) (by kernel_rfl) (fun _ _ _ h=>h) (Or.inr ⟨by rfl,rfl⟩) (by assumption) ?_
       try simp only [Act.put,List.setIfInBounds_toArray,List.set_cons_zero,List.set_cons_succ]
       refine wpAnyH_take (i:=11) (oi := {dst:=some 38,op:=Go.Op.move (Go.Operand.tmp 3),type:=3,pos := "rec.go:62",after:=#[{on:=6,ground:=Go.Ground.guard}],guard:=some (6,true)}) (v:=undef) rfl (by kernel_rfl) (by kernel_rfl) (by kernel_rfl) (fun _ _ _ h=>h) (Or.inr ⟨by rfl,rfl⟩) (by assumption) ?_
       try simp only [Act.put,List.setIfInBounds_toArray,List.set_cons_zero,List.set_cons_succ]
       refine wpAnyH_take (i:=12) (oi := {dst:=some 39,op:=Go.Op.binOp Go.BinOp.sub 3 (Go.Operand.tmp 38) (Go.Operand.const (Go.Value.int Go.IntKind.i64 1)) 3,type:=3,pos := "rec.go:62",after:=#[{on:=11,ground:=Go.Ground.data},{on:=6,ground:=Go.Ground.guard}],guard:=some (6,true)}) (v:=undef) rfl (by kernel_rfl) (by kernel_rfl) (by kernel_rfl) (fun _ _ _ h=>h) (Or.inr ⟨by rfl,rfl⟩) (by assumption) ?_
       try simp only [Act.put,List.setIfInBounds_toArray,List.set_cons_zero,List.set_cons_succ]
       refine wpAnyH_take (i:=13) (oi := {dst:=some 40,op:=Go.Op.indexAddr 40 (Go.Operand.tmp 37) (Go.Operand.tmp 39),type:=0,pos := "rec.go:62",after:=#[{on:=10,ground:=Go.Ground.data},{on:=12,ground:=Go.Ground.data},{on:=6,ground:=Go.Ground.guard}],guard:=some (6,true)}) (v:=undef) rfl (by kernel_rfl) (by kernel_rfl) (by kernel_rfl) (fun _ _ _ h=>h) (Or.inr ⟨by rfl,rfl⟩) (by assumption) ?_
       try simp only [Act.put,List.setIfInBounds_toArray,List.set_cons_zero,List.set_cons_succ]
       refine wpAnyH_take (i:=14) (oi := {dst:=some 41,op:=Go.Op.fieldAddr 47 (Go.Operand.tmp 40) 0,type:=0,pos := "rec.go:62",after:=#[{on:=13,ground:=Go.Ground.data},{on:=6,ground:=Go.Ground.guard}],guard:=some (6,true)}) (v:=undef) rfl (by kernel_rfl) (by kernel_rfl) (by kernel_rfl) (fun _ _ _ h=>h) (Or.inr ⟨by rfl,rfl⟩) (by assumption) ?_
       try simp only [Act.put,List.setIfInBounds_toArray,List.set_cons_zero,List.set_cons_succ]
       refine wpAnyH_take (i:=15) (oi := {dst:=some 42,op:=Go.Op.load 3 (Go.Operand.tmp 41),type:=3,pos := "rec.go:62",after:=#[{on:=14,ground:=Go.Ground.data},{on:=6,ground:=Go.Ground.guard}],guard:=some (6,true)}) (v:=undef) rfl (by kernel_rfl) (by kernel_rfl) (by kernel_rfl) (fun _ _ _ h=>h) (Or.inr ⟨by rfl,rfl⟩) (by assumption) ?_
       try simp only [Act.put,List.setIfInBounds_toArray,List.set_cons_zero,List.set_cons_succ]
       refine wpAnyH_take (i:=16) (oi := {dst:=some 43,op:=Go.Op.binOp Go.BinOp.leq 3 (Go.Operand.tmp 35) (Go.Operand.tmp 42) 3,type:=4,pos := "rec.go:62",after:=#[{on:=8,ground:=Go.Ground.data},{on:=15,ground:=Go.Ground.data},{on:=6,ground:=Go.Ground.guard}],guard:=some (6,true)}) (v:=undef) rfl (by kernel_rfl) (by kernel_rfl) (by kernel_rfl) (fun _ _ _ h=>h) (Or.inr ⟨by rfl,rfl⟩) (by assumption) ?_
       try simp only [Act.put,List.setIfInBounds_toArray,List.set_cons_zero,List.set_cons_succ]
       refine wpAnyH_take (i:=17) (oi := {dst:=some 44,op:=Go.Op.pick (Go.Operand.tmp 33) (Go.Operand.tmp 43) (Go.Operand.const (Go.Value.bool false)),type:=4,pos := "rec.go:62",after:=#[{on:=6,ground:=Go.Ground.data},{on:=16,ground:=Go.Ground.data},{on:=3,ground:=Go.Ground.guard}],guard:=some (3,false)}) (v:=undef) rfl (by kernel_rfl) (by kernel_rfl) (by kernel_rfl) (fun _ _ _ h=>h) (Or.inr ⟨by rfl,rfl⟩) (by assumption) ?_
       try simp only [Act.put,List.setIfInBounds_toArray,List.set_cons_zero,List.set_cons_succ]
       refine wpAnyH_take (i:=18) (oi := {dst:=some 45,op:=Go.Op.pick (Go.Operand.tmp 30) (Go.Operand.const (Go.Value.bool true)) (Go.Operand.tmp 44),type:=4,pos := "rec.go:62",after:=#[{on:=3,ground:=Go.Ground.data},{on:=17,ground:=Go.Ground.data}],guard:=none}) (v := ?_) rfl (by kernel_rfl) (by kernel_rfl) (by kernel_rfl) (fun _ _ _ h=>h) (Or.inl ⟨by rfl,?_⟩) (by assumption) ?_
       rotate_left
       ·(intro w hSw;(try dsimp only at hSw);go_simp;first | done | with_reducible rfl)
       try simp only [Act.put,List.setIfInBounds_toArray,List.set_cons_zero,List.set_cons_succ]
       refine wpAnyH_done (by kernel_rfl) ?_ _
       have HB7:=Lib.hid ((below_drew' HB2.out).trans (hb7.mono HB2.out.size))
       clear hb7 hHeld x0 x1 x2
       go_wp2_with fail
       go_ret
       exact ⟨by rw [HWE.out];rfl,HB7.out⟩
     ·have hltI:¬(k:Int)<(l.length:Int):=by omega
      obtain rfl:k=l.length:=by omega
      have y2:wr.cell? ⟨w.heap.size,2,none⟩=some (.slice A l.length cap):=HKr.out.cell 2
      have HWE:=Lib.hid (wrong_end (r:=⟨ep,ls,l⟩) HNZ.out HOK.out)
      by_cases h60:60<l.length
      ·have HW2:=Lib.hid (show Rc.wrongE ⟨ep,ls,l⟩=2 by rw [HWE.out,if_pos h60])
       have h60I:(60:Int)<(l.length:Int):=by omega
       go_wp2_with fail
       go_ret
       exact ⟨by rw [HW2.out];rfl,HBr.out⟩
      ·have HW2:=Lib.hid (show Rc.wrongE ⟨ep,ls,l⟩=0 by rw [HWE.out,if_neg h60])
       have h60I:¬(60:Int)<(l.length:Int):=by omega
       go_wp2_with fail
       go_ret
       exact ⟨by rw [HW2.out];rfl,HBr.out⟩
def fm (f:Int→Option Im):Int→Option Value:=fun k=>(f k).map Im.agg
theorem fm_upd (f:Int→Option Im) (k:Int) (x:Im):fm (upd f k x)=upd (fm f) k x.agg:=by
 funext j
 unfold fm upd
 split <;> rfl
theorem bestOf_add (l:List Im) (x:Im):bestOf (l ++ [x])=bestStep (bestOf l) x:=by
 unfold bestOf
 rw [List.foldl_append]
 rfl
theorem best_none {f:Int→Option Im} {x:Im} (h:f x.block=none):bestStep f x=upd f x.block x:=by
 unfold bestStep
 rw [h]
theorem best_some {f:Int→Option Im} {x was:Im} (h:f x.block=some was):bestStep f x=if was.ver≤x.ver then upd f x.block x else f:=by
 unfold bestStep
 rw [h]
theorem best_keys (l:List Im):∀k,(bestOf l k).isSome=true↔k∈l.map (·.block):=by
 have key:∀(l:List Im) (f:Int→Option Im) (k:Int),(l.foldl bestStep f k).isSome=true↔((f k).isSome=true∨k∈l.map (·.block)):=by
  intro l
  induction l with
  | nil=>intro f k;simp
  | cons x l ih =>
    intro f k
    rw [List.foldl_cons,ih,List.map_cons,List.mem_cons]
    have hup:∀k,(upd f x.block x k).isSome=true↔((f k).isSome=true∨k=x.block):=by
     intro k
     unfold upd
     split
     ·rename_i hk
      simp [hk]
     ·rename_i hk
      simp [hk]
    have:(bestStep f x k).isSome=true↔((f k).isSome=true∨k=x.block):=by
     cases h:f x.block with
     | none=>rw [best_none h];exact hup k
     | some was =>
       by_cases hv:was.ver≤x.ver
       ·rw [best_some h,if_pos hv];exact hup k
       ·rw [best_some h,if_neg hv]
        constructor
        ·exact .inl
        ·rintro (h1 | rfl)
         ·exact h1
         ·rw [h];rfl
    rw [this,or_assoc]
 intro k
 have:=key l (fun _=>none) k
 unfold bestOf
 rw [this]
 simp
theorem take_im {rs:List Rc} {j:Nat} {r:Rc} (h:rs[j]? = some r):(rs.take (j+1)).flatMap (·.images)=(rs.take j).flatMap (·.images)++r.images:=by
 rw [List.take_add_one,h]
 simp
structure RecsRd (w:World) (A:Option Addr) (rs:List Rc) (vs:List Value):Prop where
 len:vs.length=rs.length
 rd:Reads w 3 A rs.length ((rs.zip vs).flatMap (fun x => [.int .u64 x.1.epoch, .int .u64 x.1.lsn,x.2]))
 ims:∀(k:Nat) (r:Rc) (v:Value),rs[k]? = some r→vs[k]? = some v→∃B cp,v = .slice B r.images.length cp∧Reads w 3 B r.images.length (imcells r.images)
theorem RecsRd.below_ {w w':World} {A:Option Addr} {rs:List Rc} {vs:List Value} (h:RecsRd w A rs vs) (hb:Below w.heap.size w w'):RecsRd w' A rs vs :=
 ⟨h.len,h.rd.below' (by omega) hb,fun k r v h1 h2=>by obtain ⟨B,cp,e,hr⟩:=h.ims k r v h1 h2;exact ⟨B,cp,e,hr.below' (by omega) hb⟩⟩
theorem RecsRd.row {w:World} {A:Option Addr} {rs:List Rc} {vs:List Value} (h:RecsRd w A rs vs) {k:Nat} {r:Rc} (hk:rs[k]? = some r) :
 ∃ad B cp,A=some ad∧w.cell? (ad.add (k*3))=some (.int .u64 r.epoch)∧w.cell? ⟨(ad.add (k*3)).block,(ad.add (k*3)).off+1,none⟩=some (.int .u64 r.lsn)∧w.cell? ⟨(ad.add (k*3)).block,(ad.add (k*3)).off+2,none⟩=some (.slice B r.images.length cp)∧Reads w 3 B r.images.length (imcells r.images):=by
 have hlt:k<vs.length:=by rw [h.len];exact (List.getElem?_eq_some_iff.1 hk).1
 obtain ⟨v,hv⟩:∃v,vs[k]? = some v:=⟨_,List.getElem?_eq_getElem hlt⟩
 obtain ⟨B,cp,rfl,hr⟩:=h.ims k r v hk hv
 have hz:(rs.zip vs)[k]? = some (r, .slice B r.images.length cp):=by rw [List.getElem?_zip_eq_some];exact ⟨hk,hv⟩
 have hl:(rs.zip vs).length=rs.length:=by rw [List.length_zip,h.len,Nat.min_self]
 have h2:=h.rd
 rw [←hl] at h2
 obtain ⟨ad,rfl,hc⟩:=Reads.row (f:=fun x:Rc×Value => [.int .u64 x.1.epoch, .int .u64 x.1.lsn,x.2]) (fun _=>rfl) h2 hz
 exact ⟨ad,B,cp,rfl,hc 0 _ rfl,hc 1 _ rfl,hc 2 _ rfl,hr⟩
end Go.Proofs.YtldoeodkeieejaaGreatDoor
namespace Go.Proofs.YtldoeodkeieejaaGreatDoor
open Go.ChangeShapes Go.WideShapes Go.ChangeAt Go.RowKit Go.Joins Go.Deep
def ImIn (i:Im):Prop:=i.ver<18446744073709551616∧i.data.size≤maxLen ∧ -9223372036854775808≤i.block∧i.block≤9223372036854775807
section
variable {H:Type} {enc:TypeId×Value→H} {w:World} {base:Nat} {spare:Nat→Bool} {held:Bool}
theorem open_slice_w {fuel:Nat} {t e:TypeId} {v:Value} {x:DataW H×List MemPlace} (ht:Tryz.prog.underlying t=some (.slice e)) (h:DataW.trod enc Tryz.prog w base spare held fuel t [v]=some x):∃A len cap,v = .slice A len cap:=by
 rcases open_slice ht h with ⟨hc,_⟩ | ⟨a,len,cap,m,n,D,Pl,hc,_⟩
 ·simp only [List.cons.injEq,and_true] at hc
  exact ⟨_,_,_,hc⟩
 ·simp only [List.cons.injEq,and_true] at hc
  exact ⟨_,_,_,hc⟩
theorem open_imgs_in {fuel:Nat} {A:Option Addr} {len cap:Nat} {x:DataW H×List MemPlace} (hf:DataW.trod enc Tryz.prog w base spare held fuel 40 [.slice A len cap]=some x) :
 ∃l:List Im,len=l.length∧Reads w 3 A l.length (l.flatMap Im.cells)∧l.length≤maxLen∧∀i∈l,ImIn i:=by
 obtain ⟨L,h1,h2,h3,h4,h5⟩:=open_rows Tryz.underlying40 leaves_img cells_img (by decide) hf
 obtain ⟨l,e1,e2,e3⟩:=rows_list (f:=Im.cells) (p:=ImIn) L (fun r hr=>by
  obtain ⟨c0,r0,rfl,⟨a0,rfl,w0⟩,k0⟩:=(h3 r hr).cons
  obtain ⟨c1,r1,rfl,⟨a1,rfl,w1⟩,k1⟩:=k0.cons
  obtain ⟨c2,r2,rfl,⟨s2,rfl,w2⟩,k2⟩:=k1.cons
  obtain rfl:=k2.nil
  have b0:=wf_i64_in w0
  have b1:=wf_u64_in w1
  refine ⟨⟨a0,a1.toNat,s2⟩,?_,show a1.toNat<_ by omega,w2,b0.1,b0.2⟩
  show _ = [Value.int .i64 a0, .int .u64 ((a1.toNat:Nat):Int), .string s2]
  rw [show ((a1.toNat:Nat):Int)=a1 by omega])
 have e4:len=l.length:=h1.symm.trans e2
 rw [e1] at h2
 subst e4
 exact ⟨l,rfl,h2,by omega,e3⟩
end
end Go.Proofs.YtldoeodkeieejaaGreatDoor
