import Derived.Test.YtohgabdmmbngbaaGreatDoorKSrvEn
set_option linter.unusedVariables false
set_option linter.unusedSimpArgs false
namespace Go.Proofs.YtohgabdmmbngbaaGreatDoor
open Go.RowKit
section
variable {o o2:Nat→Nat} {c d m:Nat} {w:World} {v:Value}
def Agree (o o2:Nat→Nat) (d:Nat):Prop:=∀k,o k=d→o2 k=d
theorem MapR.recolor {f:Int→Option Value} (h:MapR o d w m f) (he:Agree o o2 d):MapR o2 d w m f:=⟨he m h.1,h.2⟩
theorem MapL.recolor {f:List Lk} (h:MapL o d w m f) (he:Agree o o2 d):MapL o2 d w m f:=⟨he m h.1,h.2⟩
theorem OwnW.recolor {e:TypeId} {size n:Nat} {xs:List Value} (h:OwnW o d w e size v n xs) (he:Agree o o2 d):OwnW o2 d w e size v n xs:=by
 refine ⟨h.1,?_⟩
 rcases h.2 with h1 | ⟨g,off,cap,cur,h1,h2,h3,h4⟩
 ·exact .inl h1
 ·exact .inr ⟨g,off,cap,cur,h1,h2,he g h3,h4⟩
theorem TbAt.recolor {t:Nat} {T:Tb} (h:TbAt o d w t T) (he:∀x,tabC d x→Agree o o2 x):TbAt o2 d w t T:=by
 obtain ⟨hp,A,cap,h⟩:=h
 exact ⟨hp,A,cap,h.blk,he d (by unfold tabC;omega) t h.col,h.waits.recolor (he (d+1) (by unfold tabC;omega)),fun i hi=>(h.held i hi).recolor (he (d+2+i) (by unfold tabC;omega))⟩
theorem LeAt.recolor {t:Nat} {L:Le} (h:LeAt o d w t L) (he:∀x,leaC d x→Agree o o2 x):LeAt o2 d w t L:=by
 obtain ⟨m,h⟩:=h
 exact ⟨m,h.blk,he d (.inl rfl) t h.col,h.map.recolor (he (d+1) (.inr rfl))⟩
theorem DiskAt.recolor {p:Nat} {D:Dk} (h:DiskAt o d w p D) (he:∀x,d≤x→x≤d+4→Agree o o2 x):DiskAt o2 d w p D:=by
 obtain ⟨mn,ml,wv,sv,h⟩:=h
 exact ⟨mn,ml,wv,sv,h.blk,he d (by omega) (by omega) p h.col,h.now.recolor (he _ (by omega) (by omega)),h.lasts.recolor (he _ (by omega) (by omega)),h.waits.recolor (he _ (by omega) (by omega)),h.stays.recolor (he _ (by omega) (by omega))⟩
theorem KeptAt.recolor {l:List Rq} (h:KeptAt o d w v l) (he:Agree o o2 d) (h0:Agree o o2 0):KeptAt o2 d w v l:=by
 obtain ⟨rows,h1,h2,h3⟩:=h
 exact ⟨rows,h1,h2.recolor he,fun x hx=>⟨(h3 x hx).1,(h3 x hx).2.recolor h0⟩⟩
theorem OutsAt.recolor {d2:Nat} {l:List (Int×Mg)} (h:OutsAt o d w v l) (he:∀k,o k=d→o2 k=d2) (h0:Agree o o2 0):OutsAt o2 d2 w v l:=by
 obtain ⟨h1,vs,h2,h3,h4⟩:=h
 exact ⟨h1,vs,h2,h3.recolor he,fun x hx=>(h4 x hx).recolor h0⟩
end
section
variable {o o' o2:Nat→Nat} {c:Nat} {C:Nat→Prop} {w w':World} {s:Nat} {S S':Sv} {P:SvP} {v:Value} {l:List (Int×Mg)}
theorem SvIn.recolor (h:SvIn o c w s S P) (h0:S.out = []) (he:∀x,(x=0∨x=c∨(c+2≤x∧x≤c+48))→Agree o o2 x):SvIn o2 c w s S P:=by
 have hz:Agree o o2 0:=he 0 (.inl rfl)
 have hov:P.ov = .slice none 0 0:=h.rest.outs.1 h0
 have hn:=h.rest.nodes
 refine ⟨h.blk,he c (.inr (.inl rfl)) s h.col,?_,h.rest.kept.recolor (he _ (.inr (.inr (by omega)))) hz,h.rest.granted.recolor (he _ (.inr (.inr (by omega)))),h.rest.ids.recolor (he _ (.inr (.inr (by omega)))),fun i h1 h2 => ?_,h.rest.table.recolor (fun x hx=>he x (.inr (.inr (by unfold tabC at hx;omega)))),h.rest.lease.recolor (fun x hx=>he x (.inr (.inr (by unfold leaC at hx;omega)))),h.rest.disk.recolor (fun x h1 h2=>he x (.inr (.inr (by omega)))),h.rest.nodes⟩
 ·rw [h0,hov]
  exact OutsAt.nil _ _ _
 ·obtain ⟨m,e,hm⟩:=h.rest.told i h1 h2
  exact ⟨m,e,hm.recolor (he _ (.inr (.inr (by omega))))⟩
def hide1 (o:Nat→Nat) (c:Nat):Nat→Nat:=fun k=>if o k=c+1 then c+49 else o k
def show1 (o o1:Nat→Nat) (n c:Nat):Nat→Nat:=fun k=>if k<n then o k else if o1 k=c+1 then 0 else o1 k
theorem hide_agree {x:Nat} (hx:x≠c+1):Agree o (hide1 o c) x:=fun k hk=>by
 unfold hide1
 rw [if_neg (by omega),hk]
theorem told_run {F:Nat} {args:Array Value} (h:SvAt o c w s S) (h0:S.out = []) (h1:S'.out = []) (hf:Fut o w) (hc1:1≤c)
 (run:SvAt (hide1 o c) c w s S→Fut (hide1 o c) w→Calls Tryz.prog F args w fun e w'=>∃v,e = .returned v∧∃o',SvAt o' c w' s S'∧OutsAt o' (c+1) w' v l∧Step (hide1 o c) (svC c) w o' w') :
 Calls Tryz.prog F args w fun e w'=>∃v,e = .returned v∧∃o',SvAt o' c w' s S'∧OutsAt o' 0 w' v l∧Step o (svC c) w o' w':=by
 obtain ⟨P,h⟩:=h
 have hf2:Fut (hide1 o c) w:=fun k hk=>by
  have:=hf k hk
  unfold hide1
  rw [if_neg (by omega),this]
 refine (run ⟨P,h.recolor h0 (fun x hx=>hide_agree (by omega))⟩ hf2).mono ?_
 rintro e w' ⟨v,he,o',⟨P',hv⟩,ho,hs⟩
 have key:∀k x,o' k=x→x≠c+1→x≠c+49→show1 o o' w.heap.size c k=x:=fun k x hk h2 h3=>by
  unfold show1
  split
  ·rename_i hlt
   have:=hs.old k hlt
   rw [hk] at this
   unfold hide1 at this
   split at this
   ·exact absurd this h3
   ·exact this.symm
  ·rw [if_neg (by rw [hk];exact h2),hk]
 have hnew:∀k,o' k=c+1→¬k<w.heap.size:=fun k hk hlt=>by
  have:=hs.old k hlt
  rw [hk] at this
  unfold hide1 at this
  split at this
  ·omega
  ·rename_i h2
   exact h2 this.symm
 refine ⟨v,he,show1 o o' w.heap.size c,⟨P',hv.recolor h1 (fun x hx k hk=>key k x hk (by omega) (by omega))⟩,ho.recolor (fun k hk => ?_) (fun k hk=>key k 0 hk (by omega) (by omega)),?_⟩
 ·unfold show1
  rw [if_neg (hnew k hk),if_pos hk]
 ·refine ⟨hs.os,hs.tape,hs.output,hs.size,fun k hk=>if_pos hk,fun k hk => ?_,fun k hk hnc=>hs.block k hk ?_⟩
  ·have h2:=hs.fut k hk
   have h3:=hf k (Nat.le_trans hs.size hk)
   have h4:=hf2 k (Nat.le_trans hs.size hk)
   unfold show1
   rw [if_neg (by have:=hs.size;omega),if_neg (by omega),h2,h4,h3]
  ·unfold hide1
   split
   ·unfold svC
    omega
   ·exact hnc
end
end Go.Proofs.YtohgabdmmbngbaaGreatDoor
