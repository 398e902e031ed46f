import Derived.Test.YtldoeodkeieejaaGreatDoorKMadB
import Derived.Test.YtldoeodkeieejaaGreatDoorKLawQ
namespace Go.Proofs.YtldoeodkeieejaaGreatDoor
open Go.RowKit
theorem hid1_cons (x y:RW) (l:List RW):hid1 x (y :: l)=((decide (y.at_=x.at_) && y.lasts && x.lasts) || hid1 x l):=by
 unfold hid1
 rw [List.any_cons]
 cases x.lasts <;> cases y.lasts <;> cases decide (y.at_=x.at_) <;> simp
theorem hid1_nil (x:RW):hid1 x []=false:=by unfold hid1;simp
section
variable {o:Nat→Nat} {c p:Nat} {w:World} {R:RF} {kv:Value}
set_option maxRecDepth 100000 in
set_option maxHeartbeats 8000000 in
theorem rftrim_any (h:RefIn o c w p R kv) (hl:R.ws.length≤100000) :
 Calls Tryz.prog 23 #[.pointer (some ⟨p,0,none⟩)] w fun e w'=>e = .returned (.tuple #[])∧∃o',RefIn o' c w' p R.trim kv∧Step o (cutF c) w o' w':=by
 obtain ⟨i0,hi,hz0,hz1,hz2⟩:=info_parts info_rw
 have H0:=Lib.hid (GrowF.start h)
 have HL:=Lib.hid hl
 have hLI:(R.ws.length:Int)≤100000:=by omega
 clear h hl
 go_enter Tryz.func23,Tryz.ntmps23
 go_wp2_with fail
 go_loopg [2,3,4,5] R.ws.length (fun n t2 t3 _ _ wr=>∃(i:Nat) (A5:Option Addr) (cap5:Nat) (o1:Nat→Nat) (L:List RW),n+i=R.ws.length∧L.length≤i∧t2 = .slice A5 L.length cap5∧t3 = .int .i64 (i:Nat)∧Hid (trimW R.ws=L++trimW (R.ws.drop i))∧GrowF o o1 c w wr p R kv (.slice A5 L.length cap5) L)
 case atStart=>exact ⟨0,none,0,o,[],by omega,Nat.le_refl _,rfl,rfl,Lib.hid rfl,H0.out⟩
 case round =>
  obtain ⟨i,A5,cap5,o1,L,hni,hli,rfl,rfl,HT,hg⟩:=hrel
  have HNI:=Lib.hid hni
  have HLI:=Lib.hid hli
  have HG:=Lib.hid hg
  clear hni hli hg H0
  obtain ⟨A9,cap9,HB9,HC9,HO9,y1,g1,hcap9,hcm9⟩:=HG.out.disk.row
  have hcm9':cap9≤9223372036854775807:=by unfold maxLen at hcm9;omega
  clear hcm9
  by_cases hlt:i<R.ws.length
  ·have hltI:(i:Int)<(R.ws.length:Int):=by omega
   obtain ⟨x,hx⟩:∃x,R.ws[i]? = some x:=⟨_,List.getElem?_eq_getElem hlt⟩
   have HX:=Lib.hid hx
   have HDX:=Lib.hid (show R.ws.drop i=x :: R.ws.drop (i+1) by rw [List.drop_eq_getElem_cons hlt,(List.getElem?_eq_some_iff.1 hx).2])
   have hw1:IntKind.i64.wrap ((i:Int)+1)=((i+1:Nat):Int):=by rw [IntWalk.i64_in _ (by omega)];omega
   have HLN:=Lib.hid (show L.length≤100000 by have:=HLI.out;omega)
   clear hx
   go_upto_block 2 with (fail)
   clear y1 g1
   go_cut [4,5] from 17 to 65 (fun t4 t5 wx=>∃(b:Bool) (o2:Nat→Nat),t4 = .bool b∧hid1 x (R.ws.drop (i+1))=b∧GrowF o o2 c w wx p R kv (.slice A5 L.length cap5) L)
   case first =>
    go_wp2_with fail
    go_loopg [4,5] (R.ws.length - (i+1)) (fun n t4 t5 wx=>∃(k:Nat) (b:Bool) (o2:Nat→Nat),n+k=R.ws.length∧i+1≤k∧t4 = .bool b∧t5 = .int .i64 (k:Nat)∧Hid (hid1 x (R.ws.drop (i+1))=(b || hid1 x (R.ws.drop k)))∧GrowF o o2 c w wx p R kv (.slice A5 L.length cap5) L)
    case atStart=>exact ⟨i+1,false,o1,by omega,Nat.le_refl _,rfl,rfl,Lib.hid (by simp),HG.out⟩
    case round =>
     obtain ⟨k,b,o2,hnk,hik,rfl,rfl,HHB,hg2⟩:=hrel
     have HNK:=Lib.hid hnk
     have HIK:=Lib.hid hik
     have HG2:=Lib.hid hg2
     clear hnk hik hg2
     obtain ⟨A8,cap8,HB8,HC8,HO8,y1,g1,hcap8,hcm8⟩:=HG2.out.disk.row
     have hcm8':cap8≤9223372036854775807:=by unfold maxLen at hcm8;omega
     clear hcm8
     by_cases hkt:k<R.ws.length
     ·have hktI:(k:Int)<(R.ws.length:Int):=by omega
      have hk0:(0:Int)≤(k:Int):=by omega
      obtain ⟨y,hy⟩:∃y,R.ws[k]? = some y:=⟨_,List.getElem?_eq_getElem hkt⟩
      have HDY:=Lib.hid (show R.ws.drop k=y :: R.ws.drop (k+1) by rw [List.drop_eq_getElem_cons hkt,(List.getElem?_eq_some_iff.1 hy).2])
      have HGI:=Lib.hid (fun m:Nat=>HG2.out.idle ((Step.refl o2 _ _).drewN m))
      have hr8:=Reads.of_own HO8.out.1
      obtain ⟨ad,rfl,v0,v1,v2,v3⟩:=hr8.rwrow hy
      obtain ⟨ad',e',u0,u1,u2,u3⟩:=hr8.rwrow HX.out
      injection e' with e'
      subst e'
      clear hy hr8 v0 v2 u0 u2
      obtain ⟨xn,xa,xd,xl⟩:=x
      obtain ⟨yn,ya,yd,yl⟩:=y
      simp only at v1 v3 u1 u3
      cases b with
      | true =>
        clear v1 v3 u1 u3
        go_upto_region 8 with (fail)
        go_quiet (fail)
        go_wp2_with fail
        go_roundg (R.ws.length - (k+1))
        case measure=>have:=HNK.out;omega
        case rel=>exact ⟨k+1,true,o2,by omega,by have:=HIK.out;omega,rfl,by go_num,Lib.hid (by rw [HHB.out,HDY.out,hid1_cons];simp),HGI.out _⟩
      | false =>
        by_cases hat:ya=xa
        ·subst hat
         cases yl with
         | false =>
           go_upto_region 8 with (fail)
           go_quiet (fail)
           go_wp2_with fail
           go_roundg (R.ws.length - (k+1))
           case measure=>have:=HNK.out;omega
           case rel=>exact ⟨k+1,false,o2,by omega,by have:=HIK.out;omega,rfl,by go_num,Lib.hid (by rw [HHB.out,HDY.out,hid1_cons];simp),HGI.out _⟩
         | true =>
           cases xl with
           | false =>
             go_upto_region 8 with (fail)
             go_quiet (fail)
             go_wp2_with fail
             go_roundg (R.ws.length - (k+1))
             case measure=>have:=HNK.out;omega
             case rel=>exact ⟨k+1,false,o2,by omega,by have:=HIK.out;omega,rfl,by go_num,Lib.hid (by rw [HHB.out,HDY.out,hid1_cons];simp),HGI.out _⟩
           | true =>
             go_upto_region 8 with (fail)
             go_quiet (fail)
             go_wp2_with fail
             go_roundg (R.ws.length - (k+1))
             case measure=>have:=HNK.out;omega
             case rel=>exact ⟨k+1,true,o2,by omega,by have:=HIK.out;omega,rfl,by go_num,Lib.hid (by rw [HHB.out,HDY.out,hid1_cons];simp),HGI.out _⟩
        ·have hatb:(ya == xa)=false:=beq_eq_false_iff_ne.2 hat
         have hatd:decide (ya=xa)=false:=decide_eq_false hat
         clear v3 u3
         go_upto_region 8 with (fail)
         go_quiet (fail)
         go_wp2_with fail
         go_roundg (R.ws.length - (k+1))
         case measure=>have:=HNK.out;omega
         case rel=>exact ⟨k+1,false,o2,by omega,by have:=HIK.out;omega,rfl,by go_num,Lib.hid (by rw [HHB.out,HDY.out,hid1_cons];simp [hat]),HGI.out _⟩
     ·have hktI:¬(k:Int)<(R.ws.length:Int):=by omega
      have HE:=Lib.hid (show hid1 x (R.ws.drop (i+1))=b by rw [HHB.out,List.drop_eq_nil_of_le (by omega),hid1_nil,Bool.or_false])
      go_wp2_with fail
      go_meet
      case rel=>exact ⟨b,o2,rfl,HE.out,HG2.out⟩
   case rest =>
    obtain ⟨b,o2,rfl,hb,hg2⟩:=hcut
    have HG2:=Lib.hid hg2
    have HBE:=Lib.hid hb
    clear hb hg2
    cases b with
    | true =>
      have HT2:=Lib.hid (show trimW R.ws=L++trimW (R.ws.drop (i+1)) by rw [HT.out,HDX.out,trimW,if_pos HBE.out])
      go_wp2_with fail
      go_roundg (R.ws.length - (i+1))
      case measure=>have:=HNI.out;omega
      case rel=>exact ⟨i+1,A5,cap5,o2,L,by omega,by have:=HLI.out;omega,rfl,by go_num,HT2,HG2.out⟩
    | false =>
      have HT2:=Lib.hid (show trimW R.ws=(L ++ [x])++trimW (R.ws.drop (i+1)) by rw [HT.out,HDX.out,trimW,if_neg (by rw [HBE.out];decide)];simp)
      obtain ⟨A8,cap8,HB8,HC8,HO8,y1,g1,hcap8,hcm8⟩:=HG2.out.disk.row
      have hcm8':cap8≤9223372036854775807:=by unfold maxLen at hcm8;omega
      obtain ⟨ad,rfl,v0,v1,v2,v3⟩:=(Reads.of_own HO8.out.1).rwrow HX.out
      clear hcm8
      obtain ⟨xn,xa,xd,xl⟩:=x
      simp only at v0 v1 v2 v3
      have HG4:=Lib.hid (HG2.out.alloc (.cells #[.int .i64 xn, .int .i64 xa, .string xd, .bool xl] 142))
      have HLN2:=HLN.out
      go_wp2_with (at_builtin;refine wpList_append_S _ rfl (.tmp 68) (.tmp 76) 109 rfl 142 i0 _ 4 40 Tryz.underlying109 hi hz0 hz1 hz2 rfl (by omega) (.slice A5 L.length cap5) L.length _ rfl HG4.out.own _ 1 1 [.int .i64 xn, .int .i64 xa, .string xd, .bool xl] rfl (Reads.newAt _ 142 4 1 _ _ _ rfl rfl rfl) (by simp [Value.oneCell']) (by unfold maxLen;omega) (by omega) ?_;intro v7 w7 hown hst hg hat;obtain ⟨A7,cap7,rfl,_,_⟩:=(OwnW.of_own hown).form;have HN:=Lib.hid (HG4.out.more (x:=⟨xn,xa,xd,xl⟩) rfl hown hst hat);clear hown hst hg hat)
      go_roundg (R.ws.length - (i+1))
      case measure=>have:=HNI.out;omega
      case rel=>exact ⟨i+1,A7,cap7,_,L ++ [⟨xn,xa,xd,xl⟩],by omega,by have:=HLI.out;simp;omega,by simp,by go_num,HT2,by simpa using HN.out⟩
  ·have hltI:¬(i:Int)<(R.ws.length:Int):=by omega
   obtain rfl:i=R.ws.length:=by have:=HNI.out;omega
   have HTE:=Lib.hid (show trimW R.ws=L by rw [HT.out,List.drop_length];simp [trimW])
   have HF:=Lib.hid (HG.out.done (R2:=R.trim) (HB9.out.set_ 1 (.slice A5 L.length cap5)) HTE.out ((Step.refl o1 (only c) wr).setCell (p:=⟨p,1,none⟩) HC9.out _) (by simp [World.setCell]))
   go_wp2_with fail
   go_end0
   exact ⟨rfl,HF.out⟩
end
def markL (l:List Int):List Int:=l ++ [-77]
theorem markL_len (l:List Int):(markL l).length=l.length+1:=by simp [markL]
theorem intcells_mark (l:List Int):intcells (markL l)=intcells l ++ [.int .i64 (-77)]:=by simp [intcells,markL]
set_option maxRecDepth 100000 in
set_option maxHeartbeats 1000000 in
theorem lentints_any (o:Nat→Nat) (c0:Nat) (w:World) (A:Option Addr) (cap:Nat) (l:List Int) (h:Reads w 1 A l.length (intcells l)) (hl:l.length≤1000000) :
 Calls Tryz.prog 132 #[.slice A l.length cap] w fun e w'=>∃A' cap' o',e = .returned (.slice A' l.length cap')∧l.length<cap'∧OwnS o' c0 w' 3 1 (.slice A' (l.length+1) cap') (l.length+1) (intcells (markL l))∧Step o (fun _=>False) w o' w':=by
 obtain ⟨i0,hi,hz0,hz1,hz2⟩:=info_parts info_int
 have HR:=Lib.hid h
 clear h
 go_enter Tryz.func132,Tryz.ntmps132
 go_wp2_with (first
  | (at_builtin;refine wpList_append_S _ rfl (.const (.slice none 0 0)) (.tmp 3) 41 rfl 3 i0 _ 1 8 Tryz.underlying41 hi hz0 hz1 hz2 rfl (by omega) (.slice none 0 0) 0 [] rfl (OwnS.nil o c0 _ _ _) A l.length cap (intcells l) rfl HR.out (intcells_one l) (by unfold maxLen;omega) (by omega) ?_;intro v' w1 hown hst hg hat;rw [Nat.zero_add,List.nil_append] at hown;obtain ⟨A2,cap2,rfl,_,_⟩:=own_form' hown;have HOW:=Lib.hid hown;have HAT:=Lib.hid hat;have HST:=Lib.hid hst;have HBL:=Lib.hid ((Below.refl w.heap.size w).grown hg (Nat.le_refl _) (by simp [Value.ownBlock]));clear hown hst hg hat)
  | (at_builtin;refine wpList_append_S _ rfl (.tmp 4) (.tmp 5) 41 rfl 3 i0 _ 1 8 Tryz.underlying41 hi hz0 hz1 hz2 rfl (by omega) (.slice A2 l.length cap2) l.length (intcells l) rfl (HOW.out.alloc (.cells #[.int .i64 (-77)] 3)) _ 1 1 [.int .i64 (-77)] rfl (Reads.newAt _ 3 1 1 _ _ _ rfl rfl rfl) (by simp [Value.oneCell']) (by unfold maxLen;omega) (by omega) ?_;intro v'' w2 hown2 hst2 hg2 hat2;obtain ⟨A3,cap3,rfl,hc3,hc4⟩:=own_form' hown2;have HOW2:=Lib.hid hown2;have HST2:=Lib.hid hst2;have HG2:=Lib.hid hg2;clear hown2 hst2 hg2 hat2))
 go_ret
 have hb1:=HBL.out.alloc HBL.out.size (.cells #[.int .i64 (-77)] 3)
 have hs:=(HST.out.alloc (.cells #[.int .i64 (-77)] 3)).trans HST2.out
 have hb2:=hb1.grown HG2.out hb1.size (fun k hk=>by
  rcases HAT.out with h | h
  ·rw [h] at hk
   simp [Value.ownBlock] at hk
  ·rw [h] at hk
   injection hk with hk
   omega)
 refine ⟨A3,cap3,_,rfl,hc3,by rw [intcells_mark];exact HOW2.out,⟨hs.os,hs.tape,hs.output,hs.size,hs.old,hs.fut,fun k hk _=>hb2.block k hk⟩⟩
theorem Reads.lentN {w:World} {A:Option Addr} {l:List Int} (h:Reads w 1 A (l.length+1) (intcells (markL l))):Reads w 1 A l.length (intcells l):=by
 have h2:=h.take (k:=l.length) (by omega)
 rwa [intcells_mark,Nat.mul_one,List.take_append_of_le_length (by simp [intcells]),List.take_of_length_le (by simp [intcells])] at h2
set_option maxRecDepth 100000 in
set_option maxHeartbeats 1000000 in
theorem sameints_yes (w:World) (A B:Option Addr) (ca cb:Nat) (l:List Int) (ha:Reads w 1 A l.length (intcells l)) (hb:Reads w 1 B l.length (intcells l)) (hl:l.length≤1000000000) :
 Calls Tryz.prog 180 #[.slice A l.length ca, .slice B l.length cb] w fun e w'=>e = .returned (.bool true)∧∃n,w'=w.drewN n:=by
 have HA:=Lib.hid ha
 have HB:=Lib.hid hb
 clear ha hb
 go_enter Tryz.func180,Tryz.ntmps180
 go_wp2_with fail
 go_loopw [5] (fun t5 wr=>∃k n:Nat,k≤l.length∧t5 = .int .i64 k∧wr=w.drewN n) (fun t5 _=>l.length - (intOf t5).toNat)
 case atStart=>exact ⟨0,0,by omega,rfl,rfl⟩
 case round =>
  obtain ⟨k,n,hk,rfl,rfl⟩:=hrel
  by_cases hlt:k<l.length
  ·have hltI:(k:Int)<(l.length:Int):=by omega
   obtain ⟨ad,rfl,c0⟩:=HA.out.int hlt
   obtain ⟨bd,rfl,d0⟩:=HB.out.int hlt
   go_upto_region 6 with (fail)
   go_quiet (fail)
   go_wp2_with fail
   exact ⟨⟨k+1,n+nq,by omega,by go_num,rfl⟩,by simp [intOf];omega⟩
  ·have hltI:¬(k:Int)<(l.length:Int):=by omega
   go_wp2_with fail
   go_ret
   exact ⟨rfl,n,rfl⟩
set_option maxRecDepth 100000 in
set_option maxHeartbeats 1000000 in
theorem staysints_any (w:World) (A B:Option Addr) (cap cb:Nat) (l:List Int) (h:Reads w 1 A (l.length+1) (intcells (markL l))) (hb:Reads w 1 B l.length (intcells l)) (hc:l.length<cap) (hl:l.length≤1000000) :
 Calls Tryz.prog 134 #[.slice A l.length cap, .slice B l.length cb] w fun e w'=>e = .returned (.bool true)∧∃n,w'=w.drewN n:=by
 have HA:=Lib.hid h.lentN
 have HB:=Lib.hid hb
 obtain ⟨ad,rfl,c0⟩:=Reads.int (l:=markL l) (by rw [markL_len];exact h) (k:=l.length) (by rw [markL_len];omega)
 have C2:=Lib.hid (show w.cell? (ad.add l.length)=some (.int .i64 (-77)) by rw [c0];simp [markL])
 clear h hb c0
 have hcI:(l.length:Int)+1≤(cap:Int):=by omega
 go_enter Tryz.func134,Tryz.ntmps134
 go_wp2_with fail
 refine (sameints_yes w (some ad) B cap cb l HA.out HB.out (by omega)).mono ?_
 rintro e w1 ⟨rfl,n,rfl⟩
 have c0:=C2.out
 go_wp2_with fail
 go_ret
 exact ⟨rfl,n,rfl⟩
structure View (D:Dk) (k t1 t2 ls:Nat) (h l1 l2 l3:List UInt8) (f:Nat→Im):Prop where
 calm:Calm D k
 t1:D.table 1=t1
 t2:D.table 2=t2
 last:D.last=ls
 head:D.sec 1=str h
 l1:D.readL 2 3=l1
 l2:D.readL 5 3=l2
 l3:D.readL 8 1=l3
 blk:∀b:Nat,b≤9→D.load b=(f b,0)
theorem readL_add (D:Dk) (a:Int) (m:Nat):∀n:Nat,D.readL a (m+n)=D.readL a m++D.readL (a+m) n
 | 0=>by
   show D.readL a m=D.readL a m ++ []
   rw [List.append_nil]
 | n+1=>by
   have e:a+((m+n:Nat):Int)=a+m+n:=by omega
   rw [←Nat.add_assoc,readL_succ,readL_succ,readL_add D a m n,List.append_assoc,e]
theorem readL_congr {D E:Dk} {a:Int} {n:Nat} (h:∀j,a≤j→j<a+n→D.sec j=E.sec j):D.readL a n=E.readL a n:=by
 induction n with
 | zero=>rfl
 | succ n ih =>
   rw [readL_succ,readL_succ,ih (fun j h1 h2=>h j h1 (by omega)),h _ (by omega) (by omega)]
section
variable {D E:Dk} {k m t1 t2 u1 u2 ls lt:Nat} {h l1 l2 l3:List UInt8} {f:Nat→Im}
theorem View.sects (v:View D k t1 t2 ls h l1 l2 l3 f) (hc:Calm E m) (h1:E.table 1=u1) (h2:E.table 2=u2) (h3:E.last=lt) (hs:∀j,E.sec j=D.sec j):View E m u1 u2 lt h l1 l2 l3 f :=
 ⟨hc,h1,h2,h3,(hs 1).trans v.head,(readL_congr (fun j _ _=>hs j)).trans v.l1,(readL_congr (fun j _ _=>hs j)).trans v.l2,(readL_congr (fun j _ _=>hs j)).trans v.l3,fun b hb=>(load_congr hc.live v.calm.live hb (hs _) (hs _)).trans (v.blk b hb)⟩
theorem View.mono (v:View D k t1 t2 ls h l1 l2 l3 f) {j:Nat} (hj:k≤j):View D j t1 t2 ls h l1 l2 l3 f:=⟨v.calm.mono hj,v.t1,v.t2,v.last,v.head,v.l1,v.l2,v.l3,v.blk⟩
theorem View.settle (v:View D k t1 t2 ls h l1 l2 l3 f) (n:Int):View (D.settle n) k t1 t2 ls h l1 l2 l3 f :=
 v.sects (v.calm.settle n) (by rw [(settle_tab D n).1];exact v.t1) (by rw [(settle_tab D n).1];exact v.t2) (by rw [(settle_tab D n).2];exact v.last) (settle_sec D n)
theorem View.barrier (v:View D k t1 t2 ls h l1 l2 l3 f) {n e:Nat} (hn:n≤16) (he:D.table n=e) (h0:e≠0):(D.barrier n e).1=0∧View (D.barrier n e).2 k t1 t2 ls h l1 l2 l3 f:=by
 obtain ⟨b1,_⟩:=v.calm.barrier hn he h0
 rw [b1]
 exact ⟨rfl,v.settle n⟩
theorem View.writes (v:View D k t1 t2 ls h l1 l2 l3 f) {n e:Nat} (hn:n≤16) (he:D.table n=e) (h0:e≠0) {a:Int} {data:ByteArray} {j:Nat} (hd:data.size=j*64) (j1:1≤j) (j2:j≤16) (a1:0≤a) (a2:a+j≤37)
 {h' l1' l2' l3':List UInt8} {f':Nat→Im} (hh:(D.writeN n a data j).sec 1=str h') (r1:(D.writeN n a data j).readL 2 3=l1') (r2:(D.writeN n a data j).readL 5 3=l2') (r3:(D.writeN n a data j).readL 8 1=l3')
 (hf:∀b:Nat,b≤9→Calm (D.writeN n a data j) (k+j)→(D.writeN n a data j).load b=(f' b,0)) :
 D.write n e a data=(0,D.writeN n a data j)∧View (D.writeN n a data j) (k+j) t1 t2 ls h' l1' l2' l3' f':=by
 obtain ⟨w1,w2⟩:=v.calm.write hn he h0 hd j1 j2 a1 a2
 rw [w1] at w2
 have s:=writeN_same D n a data j
 exact ⟨w1,w2,by rw [s.2.2.2.2.2.1];exact v.t1,by rw [s.2.2.2.2.2.1];exact v.t2,by rw [s.2.2.2.1];exact v.last,hh,r1,r2,r3,fun b hb=>hf b hb w2⟩
theorem View.keepL (h:∀j,(2:Int)≤j→j<9→E.sec j=D.sec j):E.readL 2 3=D.readL 2 3∧E.readL 5 3=D.readL 5 3∧E.readL 8 1=D.readL 8 1 :=
 ⟨readL_congr (fun j _ _=>h j (by omega) (by omega)),readL_congr (fun j _ _=>h j (by omega) (by omega)),readL_congr (fun j _ _=>h j (by omega) (by omega))⟩
theorem View.headW (v:View D k t1 t2 ls h l1 l2 l3 f) {n e:Nat} (hn:n≤16) (he:D.table n=e) (h0:e≠0) {h':List UInt8} (hl:h'.length=64):D.write n e 1 (str h')=(0,D.writeN n 1 (str h') 1)∧View (D.writeN n 1 (str h') 1) (k+1) t1 t2 ls h' l1 l2 l3 f:=by
 have hs:∀j:Int,j≠1→(D.writeN n 1 (str h') 1).sec j=D.sec j:=fun j hj=>by rw [writeN_sec,if_neg (by omega)]
 obtain ⟨q1,q2,q3⟩:=View.keepL (D:=D) (E:=D.writeN n 1 (str h') 1) (fun j _ _=>hs j (by omega))
 refine v.writes hn he h0 (by rw [str_size,hl]) (by omega) (by omega) (by omega) (by omega) ?_ (q1.trans v.l1) (q2.trans v.l2) (q3.trans v.l3) (fun b hb hc=>(load_congr hc.live v.calm.live hb (hs _ (by omega)) (hs _ (by omega))).trans (v.blk b hb))
 rw [writeN_sec,if_pos (by omega)]
 show (str h').extract (0*64) ((0+1)*64)=_
 rw [extract_str,List.take_of_length_le (by omega),Nat.zero_mul,List.drop_zero]
def setIm (f:Nat→Im) (b:Nat) (i:Im):Nat→Im:=fun x=>if x=b then i else f x
theorem View.store (v:View D k t1 t2 ls h l1 l2 l3 f) {n e:Nat} (hn:n≤16) (he:D.table n=e) (h0:e≠0) {i:Im} (hr:i.right) (hv:i.ver<18446744073709551616) {b:Nat} (hb:b≤9) (hi:i.block=b):(D.store n e i).1=0∧View (D.store n e i).2 (k+2) t1 t2 ls h l1 l2 l3 (setIm f b i):=by
 obtain ⟨s1,s2⟩:=store_ok v.calm hn he h0 hr hb hi
 have sl:=store_load v.calm hn he h0 hr hv hb hi
 rw [s1] at s2 sl ⊢
 have hs:∀j:Int,j<17+2*(b:Int)∨17+2*(b:Int)+2≤j→(D.writeN n (17+2*(b:Int)) (str (blkL i)) 2).sec j=D.sec j:=fun j hj=>store_sec hj
 refine ⟨rfl,(v.writes hn he h0 (a:=17+2*(b:Int)) (data:=str (blkL i)) (j:=2) (by rw [str_size,blkL_len hr]) (by omega) (by omega) (by omega) (by omega) ((hs _ (by omega)).trans v.head) ((readL_congr (fun j _ _=>hs j (by omega))).trans v.l1) ((readL_congr (fun j _ _=>hs j (by omega))).trans v.l2) ((readL_congr (fun j _ _=>hs j (by omega))).trans v.l3) (fun c hc' hcal => ?_)).2⟩
 unfold setIm
 by_cases hcb:c=b
 ·rw [if_pos hcb,hcb]
  exact sl
 ·rw [if_neg hcb]
  exact (load_congr hcal.live v.calm.live hc' (hs _ (by omega)) (hs _ (by omega))).trans (v.blk c hc')
end
def blank (b:Nat):Im:=⟨b,0,str (zer 96)⟩
theorem readyV : View readyD 49 9 (readyD.table 2) 9 (zer 64) (zer 192) (zer 192) (zer 64) blank:=by
 obtain ⟨c,l,t,s⟩:=ready_facts
 generalize readyD=R at c l t s ⊢
 have hs:∀j:Int,j≠0→R.sec j=str (zer 64):=fun j hj=>by rw [s,if_neg hj]
 have hz:∀(a:Int) (n:Nat),1≤a→R.readL a n=zer (n*64):=by
  intro a n ha
  induction n with
  | zero=>rfl
  | succ n ih =>
    rw [readL_succ,ih,hs _ (by omega),str_list,zer_app]
    congr 1
    omega
 exact ⟨c,t,rfl,l,hs _ (by omega),hz _ _ (by omega),hz _ _ (by omega),hz _ _ (by omega),fun b hb=>load_blank c.live hb (hs _ (by omega)) (hs _ (by omega))⟩
def hd9 : List UInt8:=headL ⟨9,1,0⟩
theorem hd9_ok : ¬(⟨9,1,0⟩:Hd).bad:=by unfold Hd.bad;decide
def rcI (k:Nat) (i:Im):Rc:=⟨9,k,[i]⟩
def enOf (k at_:Nat) (i:Im):En:=⟨k,at_,3,str (recL (rcI k i)),false⟩
def lg0 : Lg:=Lg.new 1 9 1
theorem secs_one : secsOf ((1:Nat):Int)=3:=by rw [secs_pos (by decide) (by decide)]
theorem recL_one (k:Nat) (i:Im):(recL (rcI k i)).length=192:=by
 rw [recL_len]
 show secsOf ((1:Nat):Int)*64=192
 rw [secs_one]
theorem entry_size (k at_:Nat) (i:Im):(enOf k at_ i).bytes.size=192:=by
 show (str _).size=192
 rw [str_size,recL_one]
section
variable {i j x:Im} (hi:i.right) (hj:j.right) (hx:x.right)
include hi in
end
section
variable {D:Dk} {k t1 t2 ls:Nat} {h l1 l2 l3:List UInt8} {f:Nat→Im}
theorem View.openV (v:View D k 9 t2 ls h l1 l2 l3 f):(D.lhead lg0 ⟨9,1,0⟩).1=0∧View (D.lhead lg0 ⟨9,1,0⟩).2 (k+1) 9 t2 ls hd9 l1 l2 l3 f:=by
 have e:=(lhead_ok v.calm (g:=lg0) (by decide) v.t1 (by decide) (by decide) hd9_ok).1
 rw [e]
 refine ⟨rfl,?_⟩
 have:=(v.headW (n:=1) (by omega) v.t1 (by decide) (h':=hd9) (headL_len _)).2
 exact this.settle (1:Nat)
theorem View.scan (v:View D k t1 t2 ls hd9 l1 l2 l3 f):D.scan 1=scanL 9 10 1 (str (l1++l2++l3))∧D.scanE 1=0∧D.headE 1=0∧D.headI 1=true∧(D.headH 1).epoch=9:=by
 obtain ⟨_,h2,h3,h4⟩:=head_of v.calm.live (h:=⟨9,1,0⟩) hd9_ok (by decide) (by decide) (by decide) v.head
 obtain ⟨r1,r2⟩:=v.calm.read (at_:=2) (n:=7) (by omega) (by omega) (by omega)
 have hl:D.readL 2 7=l1++l2++l3:=by
  have a1:=readL_add D 2 3 4
  have a2:=readL_add D 5 3 1
  have b2:D.readL 5 4=l2++l3:=by rw [←v.l2,←v.l3];exact a2
  have b1:D.readL 2 7=l1++D.readL 5 4:=by rw [←v.l1];exact a1
  rw [b1,b2,List.append_assoc]
 have hr:D.readE ((logAt 1).1+1) 7=0:=r1
 refine ⟨?_,?_,h4,h3,by rw [h2]⟩
 ·unfold Dk.scan
  rw [if_neg (by rw [h4,h3,hr];decide),h2]
  have e:D.readS ((logAt 1).1+1) 7=str (l1++l2++l3):=by rw [←hl];exact r2
  rw [e]
  have:rotS (str (l1++l2++l3)) (Int.toNat (⟨9,1,0⟩:Hd).at_*64)=str (l1++l2++l3):=by
   show rotS (str (l1++l2++l3)) 0=_
   unfold rotS
   rw [extract_str,extract_str,str_size,List.drop_zero,List.take_of_length_le (Nat.le_refl _),List.take_zero,List.drop_zero]
   refine ByteArray.ext ?_
   apply Array.toList_inj.1
   simp
   rfl
  rw [this]
 ·unfold Dk.scanE
  rw [if_neg (by rw [h4];decide),if_neg (by rw [h3];decide)]
  exact hr
end
def takeIm (f:Nat→Im) (i:Im):Nat→Im:=if i.ver≤(f i.block.toNat).ver then f else setIm f i.block.toNat i
def appF (f:Nat→Im) (l:List Im):Nat→Im:=l.foldl takeIm f
def appN : (Nat→Im)→List Im→Nat
 | _,[]=>0
 | f,i :: l=>(if i.ver≤(f i.block.toNat).ver then 0 else 1)+appN (takeIm f i) l
section
variable {k t1 e ls:Nat} {h l1 l2 l3:List UInt8}
theorem View.apply (h0:e≠0):∀(l:List Im) (n k:Nat) (D:Dk) (f:Nat→Im),View D k t1 e ls h l1 l2 l3 f→(∀i∈l,i.right∧i.ver<18446744073709551616∧i.block≤9) →
 (applyGo (2:Nat) e l n D).e=0∧(applyGo (2:Nat) e l n D).n=n+appN f l∧View (applyGo (2:Nat) e l n D).D (k+2*l.length) t1 e ls h l1 l2 l3 (appF f l)
 | [],n,k,D,f,v,_=>⟨rfl,rfl,v⟩
 | i :: l,n,k,D,f,v,hl=>by
   obtain ⟨hr,hv,hb⟩:=hl i (List.mem_cons_self ..)
   have hr0:=hr.1
   have hbt:((i.block.toNat:Nat):Int)=i.block:=by omega
   have hb9:i.block.toNat≤9:=by omega
   have hld:=v.blk i.block.toNat hb9
   rw [hbt] at hld
   rw [apply_one hld]
   by_cases hx:i.ver≤(f i.block.toNat).ver
   ·obtain ⟨g1,g2,g3⟩:=View.apply h0 l n k D f v (fun j hj=>hl j (List.mem_cons_of_mem _ hj))
    rw [if_pos hx]
    have e1:takeIm f i=f:=if_pos hx
    refine ⟨g1,?_,?_⟩
    ·rw [g2]
     show n+appN f l=n+((if i.ver≤(f i.block.toNat).ver then 0 else 1)+appN (takeIm f i) l)
     rw [if_pos hx,e1,Nat.zero_add]
    ·show View _ _ _ _ _ _ _ _ _ (l.foldl takeIm (takeIm f i))
     rw [e1]
     exact g3.mono (by rw [List.length_cons];omega)
   ·obtain ⟨s1,s2⟩:=v.store (n:=2) (by omega) v.t2 h0 hr hv hb9 hbt.symm
    rw [if_neg hx,if_neg (by rw [s1];decide)]
    obtain ⟨g1,g2,g3⟩:=View.apply h0 l (n+1) (k+2) _ _ s2 (fun j hj=>hl j (List.mem_cons_of_mem _ hj))
    have e1:takeIm f i=setIm f i.block.toNat i:=if_neg hx
    refine ⟨g1,?_,?_⟩
    ·rw [g2]
     show n+1+appN _ l=n+((if i.ver≤(f i.block.toNat).ver then 0 else 1)+appN (takeIm f i) l)
     rw [if_neg hx,e1]
     omega
    ·show View _ _ _ _ _ _ _ _ _ (l.foldl takeIm (takeIm f i))
     rw [e1]
     exact g3.mono (by rw [List.length_cons];omega)
theorem View.applyAll {D:Dk} {f:Nat→Im} (v:View D k t1 e ls h l1 l2 l3 f) (h0:e≠0) {l:List Im} (hl:∀i∈l,i.right∧i.ver<18446744073709551616∧i.block≤9) :
 (applyR D (2:Nat) e l).e=0∧(applyR D (2:Nat) e l).n=appN f l∧View (applyR D (2:Nat) e l).D (k+2*l.length) t1 e ls h l1 l2 l3 (appF f l):=by
 obtain ⟨g1,g2,g3⟩:=View.apply h0 l 0 k D f v hl
 rw [Nat.zero_add] at g2
 unfold applyR
 generalize applyGo (2:Nat) e l 0 D=A at g1 g2 g3
 obtain ⟨n,er,E⟩:=A
 simp only at g1 g2 g3 ⊢
 subst g1 g2
 rw [if_neg (by decide)]
 by_cases hn:appN f l=0
 ·rw [if_pos hn]
  exact ⟨rfl,rfl,g3⟩
 ·rw [if_neg hn]
  obtain ⟨b1,b2⟩:=g3.barrier (n:=2) (by omega) g3.t2 h0
  rw [if_neg (by rw [b1];decide)]
  exact ⟨rfl,rfl,b2⟩
theorem View.run {D:Dk} {f:Nat→Im} (v:View D k t1 e ls hd9 l1 l2 l3 f) (h0:e≠0) {l:List Im} (hp:planOf (scanL 9 10 1 (str (l1++l2++l3)))=l) (hl:∀i∈l,i.right∧i.ver<18446744073709551616∧i.block≤9) :
 (runR D 1 9 (2:Nat) e).e=0∧(runR D 1 9 (2:Nat) e).n=appN f l∧View (runR D 1 9 (2:Nat) e).D (k+2*l.length+1) t1 e ls (zer 64) l1 l2 l3 (appF f l):=by
 obtain ⟨c1,c2,c3,c4,c5⟩:=v.scan
 obtain ⟨a1,a2,a3⟩:=v.applyAll h0 hl
 unfold runR
 rw [c1,hp,c2,c3,c4,c5,if_neg (by decide),if_neg (by decide),if_neg (by decide)]
 generalize applyR D (2:Nat) e l=A at a1 a2 a3
 obtain ⟨n,er,E⟩:=A
 simp only at a1 a2 a3 ⊢
 subst a1 a2
 rw [if_neg (by decide)]
 obtain ⟨w1,w2⟩:=a3.headW (n:=2) (by omega) a3.t2 h0 (h':=zer 64) (zer_len 64)
 have w1':E.write (2:Nat) e (logAt 1).1 (str (zer 64))=(0,E.writeN (2:Nat) 1 (str (zer 64)) 1):=w1
 rw [w1',if_neg (by simp)]
 obtain ⟨b1,b2⟩:=w2.barrier (n:=2) (by omega) w2.t2 h0
 rw [if_neg (by rw [b1];decide)]
 exact ⟨rfl,rfl,b2⟩
end
def secR (m:Nat) (i:Im) (k:Nat):List UInt8:=recS (rcI m i) k
theorem secR_len (m:Nat) (i:Im) (k:Nat):(secR m i k).length=64:=recS_len _ _
def Fine (i:Im):Prop:=i.right∧i.ver<18446744073709551616
def Sound (ims:List Im) (s:List UInt8):Prop:=s=zer 64∨∃m i k,1≤m∧ims[m - 1]? = some i∧k<3∧s=secR m i k
theorem Sound.len {ims:List Im} {s:List UInt8} (h:Sound ims s):s.length=64:=by
 rcases h with rfl | ⟨m,i,k,_,_,_,rfl⟩
 ·exact zer_len 64
 ·exact secR_len m i k
structure Found (ims:List Im) (H:Nat) (x:List Rc):Prop where
 at_:∀(n:Nat) r,x[n]? = some r→∃i,ims[H+n - 1]? = some i∧r=rcI (H+n) i
end Go.Proofs.YtldoeodkeieejaaGreatDoor
