import Derived.Test.YtohgabdmmbngbaaGreatDoorKCutB
import Derived.Test.YtohgabdmmbngbaaGreatDoorKMsgA
import Derived.Test.YtohgabdmmbngbaaGreatDoorKMsgC
import Derived.Test.YtohgabdmmbngbaaGreatDoorKDisk
import Derived.Shelf.SlIterI.Nil
set_option linter.unusedVariables false
set_option linter.unusedSimpArgs false
namespace Go.Proofs.YtohgabdmmbngbaaGreatDoor
open Go.RowKit
theorem goes_same {D:Dk} (h:D.goes.1=false):∃n,D.goes.2 = {D with left:=n}:=by
 unfold Dk.goes at h ⊢
 by_cases ha:D.armed=false
 ·rw [if_pos ha]
  exact ⟨D.left,rfl⟩
 ·rw [if_neg ha] at h ⊢
  by_cases hl:0<D.left
  ·rw [if_pos hl]
   exact ⟨_,rfl⟩
  ·rw [if_neg hl] at h
   cases h
theorem may_ok {D:Dk} {node:Int} (h:D.may node=0):D.on=true∧0≤node∧node≤16:=by
 unfold Dk.may at h
 split at h
 ·omega
 ·split at h
  ·omega
  ·rename_i h1 h2
   exact ⟨by simpa using h1,by omega,by omega⟩
def Dk.barrier (D:Dk) (node:Int) (epoch:Nat):Int×Dk :=
 if D.may node≠0 then (D.may node,D) else if D.admits node.toNat epoch≠0 then (D.admits node.toNat epoch,D) else if D.goes.1=true then (14,D.goes.2) else (0,D.goes.2.settle node)
set_option maxRecDepth 100000 in
set_option maxHeartbeats 1000000 in
theorem dbarrier_calm {o:Nat→Nat} {c p:Nat} {w:World} {D:Dk} (h:DiskAt o c w p D) (node:Int) (epoch:Nat) (hl:D.waits.length≤1000000) :
 Calls Tryz.prog 84 #[.pointer (some ⟨p,0,none⟩), .int .i64 node, .int .u64 epoch] w fun e w'=>e = .returned (.int .i64 (D.barrier node epoch).1)∧∃o',DiskAt o' c w' p (D.barrier node epoch).2∧Step o (six c) w o' w':=by
 have H:=Lib.hid h
 clear h
 go_enter Tryz.func84,Tryz.ntmps84
 go_wp2_with fail
 refine (dmay_any H.out node).mono ?_
 rintro e w1 ⟨rfl,rfl⟩
 obtain ⟨E,hE⟩:∃E,D.may node=E:=⟨_,rfl⟩
 rw [hE]
 by_cases h0:E=0
 ·subst h0
  obtain ⟨hon,hn0,hn1⟩:=may_ok hE
  obtain ⟨k,rfl⟩:∃k:Nat,node=k:=⟨node.toNat,by omega⟩
  have HE:=Lib.hid hE
  clear hE hon
  go_wp2_with fail
  refine (dadmits_any H.out k epoch (by omega)).mono ?_
  rintro e w2 ⟨rfl,rfl⟩
  obtain ⟨F,hF⟩:∃F,D.admits k epoch=F:=⟨_,rfl⟩
  rw [hF]
  by_cases h1:F=0
  ·subst h1
   have HB:=Lib.hid (show D.barrier (k:Int) epoch=if D.goes.1=true then (14,D.goes.2) else (0,D.goes.2.settle k) from by unfold Dk.barrier;rw [if_neg (by simp [HE.out]),if_neg (by simp [hF])])
   clear hF
   go_wp2_with fail
   refine (dgoes_any H.out).mono ?_
   rintro e w3 ⟨rfl,o3,hd3,hs3⟩
   have HGS:=Lib.hid (goes_same (D:=D))
   obtain ⟨⟨G,D3⟩,hG⟩:∃G,D.goes=G:=⟨_,rfl⟩
   rw [hG] at hd3 HB HGS ⊢
   simp only at hd3 HB HGS ⊢
   have HD3:=Lib.hid hd3
   have HS3:=Lib.hid hs3
   clear hd3 hs3 hG
   cases G with
   | true =>
     go_wp2_with fail
     go_ret
     rw [HB.out]
     exact ⟨rfl,o3,HD3.out,HS3.out⟩
   | false =>
     obtain ⟨nl,hnl⟩:=HGS.out rfl
     have HB2:=Lib.hid (HB.out.trans (if_neg (by decide)))
     clear HB HGS
     go_wp2_with fail
     refine (dsettle_any HD3.out (k:Int) (by rw [hnl];exact hl)).mono ?_
     rintro e w4 ⟨rfl,o4,hd,hs⟩
     have HD:=Lib.hid hd
     have HS:=Lib.hid hs
     clear hd hs
     go_wp2_with fail
     go_ret
     rw [HB2.out]
     exact ⟨rfl,o4,HD.out,HS3.out.trans HS.out⟩
  ·have h1B:(F != 0)=true:=by simp [h1]
   have HB:=Lib.hid (show D.barrier (k:Int) epoch=(F,D) from by unfold Dk.barrier;rw [if_neg (by simp [HE.out]),if_pos (by simp only [Int.toNat_natCast,hF];exact h1),Int.toNat_natCast,hF])
   clear hF h1
   go_wp2_with fail
   go_ret
   rw [HB.out]
   exact ⟨rfl,o,H.out,Step.refl _ _ _⟩
 ·have h0B:(E != 0)=true:=by simp [h0]
  have HB:=Lib.hid (show D.barrier node epoch=(E,D) from by unfold Dk.barrier;rw [if_pos (by rw [hE];exact h0),hE])
  clear hE h0
  go_wp2_with fail
  go_ret
  rw [HB.out]
  exact ⟨rfl,o,H.out,Step.refl _ _ _⟩
def Dk.fence (D:Dk) (node:Int):Int×Dk :=
 if D.may node≠0 then (D.may node,D) else if D.goes.1=true then (14,D.goes.2) else (0,{D.goes.2.settle node with table:=fun k=>if k=node.toNat then 0 else D.goes.2.table k})
theorem settle_table (D:Dk) (node:Int):(D.settle node).table=D.table:=by
 have h:∀(l:List Ws) (D:Dk),(l.foldl Dk.keep D).table=D.table:=by
  intro l
  induction l with
  | nil=>intro D;rfl
  | cons x l ih=>intro D;rw [List.foldl_cons,ih];unfold Dk.keep;split <;> rfl
 exact h _ _
theorem settle_same (D:Dk) (node:Int):(D.settle node).on=D.on∧(D.settle node).armed=D.armed∧(D.settle node).sectors=D.sectors∧(D.settle node).last=D.last∧(D.settle node).words=D.words∧(D.settle node).now=D.now∧(D.settle node).seq=D.seq:=by
 have h:∀(l:List Ws) (D:Dk),(l.foldl Dk.keep D).on=D.on∧(l.foldl Dk.keep D).armed=D.armed∧(l.foldl Dk.keep D).sectors=D.sectors∧(l.foldl Dk.keep D).last=D.last∧(l.foldl Dk.keep D).words=D.words∧(l.foldl Dk.keep D).now=D.now∧(l.foldl Dk.keep D).seq=D.seq:=by
  intro l
  induction l with
  | nil=>intro D;exact ⟨rfl,rfl,rfl,rfl,rfl,rfl,rfl⟩
  | cons x l ih =>
    intro D
    have h1:(D.keep x).on=D.on∧(D.keep x).armed=D.armed∧(D.keep x).sectors=D.sectors∧(D.keep x).last=D.last∧(D.keep x).words=D.words∧(D.keep x).now=D.now∧(D.keep x).seq=D.seq:=by
     unfold Dk.keep
     split <;> exact ⟨rfl,rfl,rfl,rfl,rfl,rfl,rfl⟩
    obtain ⟨a1,a2,a3,a4,a5,a6,a7⟩:=ih (D.keep x)
    obtain ⟨b1,b2,b3,b4,b5,b6,b7⟩:=h1
    exact ⟨a1.trans b1,a2.trans b2,a3.trans b3,a4.trans b4,a5.trans b5,a6.trans b6,a7.trans b7⟩
 exact h _ _
theorem cells_table (D:Dk) (mn ml:Nat) (wv sv:Value) (k:Nat) (hk:k≤16) (v:Nat):(D.cells mn ml wv sv).setIfInBounds (6+k) (.int .u64 v)=({D with table:=fun j=>if j=k then v else D.table j}:Dk).cells mn ml wv sv:=by
 rcases k with _ | _ | _ | _ | _ | _ | _ | _ | _ | _ | _ | _ | _ | _ | _ | _ | _ | k <;> first | rfl | omega
theorem cells_word (D:Dk) (mn ml:Nat) (wv sv:Value) (k:Nat) (hk:k≤16) (v:Nat):(D.cells mn ml wv sv).setIfInBounds (23+k) (.int .u64 v)=({D with words:=fun j=>if j=k then v else D.words j}:Dk).cells mn ml wv sv:=by
 rcases k with _ | _ | _ | _ | _ | _ | _ | _ | _ | _ | _ | _ | _ | _ | _ | _ | _ | k <;> first | rfl | omega
set_option maxRecDepth 100000 in
set_option maxHeartbeats 1000000 in
theorem dfence_calm {o:Nat→Nat} {c p:Nat} {w:World} {D:Dk} (h:DiskAt o c w p D) (node:Int) (hl:D.waits.length≤1000000) :
 Calls Tryz.prog 101 #[.pointer (some ⟨p,0,none⟩), .int .i64 node] w fun e w'=>e = .returned (.int .i64 (D.fence node).1)∧∃o',DiskAt o' c w' p (D.fence node).2∧Step o (six c) w o' w':=by
 have H:=Lib.hid h
 clear h
 go_enter Tryz.func101,Tryz.ntmps101
 go_wp2_with fail
 refine (dmay_any H.out node).mono ?_
 rintro e w1 ⟨rfl,rfl⟩
 obtain ⟨E,hE⟩:∃E,D.may node=E:=⟨_,rfl⟩
 rw [hE]
 by_cases h0:E=0
 ·subst h0
  obtain ⟨hon,hn0,hn1⟩:=may_ok hE
  obtain ⟨k,rfl⟩:∃k:Nat,node=k:=⟨node.toNat,by omega⟩
  have HB:=Lib.hid (show D.fence (k:Int)=if D.goes.1=true then (14,D.goes.2) else (0,{D.goes.2.settle k with table:=fun j=>if j=k then 0 else D.goes.2.table j}) from by unfold Dk.fence;rw [if_neg (by simp [hE])];rfl)
  clear hE hon
  go_wp2_with fail
  refine (dgoes_any H.out).mono ?_
  rintro e w3 ⟨rfl,o3,hd3,hs3⟩
  have HGS:=Lib.hid (goes_same (D:=D))
  obtain ⟨⟨G,D3⟩,hG⟩:∃G,D.goes=G:=⟨_,rfl⟩
  rw [hG] at hd3 HB HGS ⊢
  simp only at hd3 HB HGS ⊢
  have HD3:=Lib.hid hd3
  have HS3:=Lib.hid hs3
  clear hd3 hs3 hG
  cases G with
  | true =>
    go_wp2_with fail
    go_ret
    rw [HB.out]
    exact ⟨rfl,o3,HD3.out,HS3.out⟩
  | false =>
    obtain ⟨nl,hnl⟩:=HGS.out rfl
    have HB2:=Lib.hid (HB.out.trans (if_neg (by decide)))
    clear HB HGS
    go_wp2_with fail
    refine (dsettle_any HD3.out (k:Int) (by rw [hnl];exact hl)).mono ?_
    rintro e w4 ⟨rfl,o4,⟨mn,ml,wv,sv,hd⟩,hs⟩
    have ct:=hd.table k (by omega)
    have ft:=hd.blk.frozen (6+k)
    obtain ⟨hd2,hs2⟩:=hd.set_ (6+k) (.int .u64 (0:Nat)) (cells_table _ _ _ _ _ k (by omega) 0) rfl rfl rfl rfl
    have HF:=Lib.hid (show ∃o',DiskAt o' c (w4.setCell ⟨p,6+k,none⟩ (.int .u64 0)) p (D.fence k).2∧Step o (six c) w o' (w4.setCell ⟨p,6+k,none⟩ (.int .u64 0)) from ⟨o4,by rw [HB2.out];rw [settle_table] at hd2;exact ⟨mn,ml,wv,sv,hd2⟩,HS3.out.trans (hs.trans (hs2.mono (only_six c)))⟩)
    have hkI:(k:Int)<17:=by omega
    clear hd hs hd2 hs2
    go_wp2_with fail
    go_ret
    exact ⟨by rw [HB2.out];rfl,HF.out⟩
 ·have h0B:(E != 0)=true:=by simp [h0]
  have HB:=Lib.hid (show D.fence node=(E,D) from by unfold Dk.fence;rw [if_pos (by rw [hE];exact h0),hE])
  clear hE h0
  go_wp2_with fail
  go_ret
  rw [HB.out]
  exact ⟨rfl,o,H.out,Step.refl _ _ _⟩
def Dk.admit (D:Dk) (node:Int) (epoch:Nat):Int×Dk :=
 if D.may node≠0 then (D.may node,D) else if epoch≤D.last then (8,D) else if D.goes.1=true then (14,D.goes.2) else (0,{D.goes.2 with table:=fun k=>if k=node.toNat then epoch else D.goes.2.table k,last:=epoch})
def Dk.put (D:Dk) (node:Int) (word:Nat):Int×Dk :=
 if D.may node≠0 then (D.may node,D) else if D.goes.1=true then (14,D.goes.2) else (0,{D.goes.2 with words:=fun k=>if k=node.toNat then word else D.goes.2.words k})
set_option maxRecDepth 100000 in
set_option maxHeartbeats 1000000 in
theorem dput_calm {o:Nat→Nat} {c p:Nat} {w:World} {D:Dk} (h:DiskAt o c w p D) (node:Int) (word:Nat) :
 Calls Tryz.prog 122 #[.pointer (some ⟨p,0,none⟩), .int .i64 node, .int .u64 word] w fun e w'=>e = .returned (.int .i64 (D.put node word).1)∧∃o',DiskAt o' c w' p (D.put node word).2∧Step o (six c) w o' w':=by
 have H:=Lib.hid h
 clear h
 go_enter Tryz.func122,Tryz.ntmps122
 go_wp2_with fail
 refine (dmay_any H.out node).mono ?_
 rintro e w1 ⟨rfl,rfl⟩
 obtain ⟨E,hE⟩:∃E,D.may node=E:=⟨_,rfl⟩
 rw [hE]
 by_cases h0:E=0
 ·subst h0
  obtain ⟨hon,hn0,hn1⟩:=may_ok hE
  obtain ⟨k,rfl⟩:∃k:Nat,node=k:=⟨node.toNat,by omega⟩
  have HB:=Lib.hid (show D.put (k:Int) word=if D.goes.1=true then (14,D.goes.2) else (0,{D.goes.2 with words:=fun j=>if j=k then word else D.goes.2.words j}) from by unfold Dk.put;rw [if_neg (by simp [hE])];rfl)
  clear hE hon
  go_wp2_with fail
  refine (dgoes_any H.out).mono ?_
  rintro e w3 ⟨rfl,o3,hd3,hs3⟩
  have HGS:=Lib.hid (goes_same (D:=D))
  obtain ⟨⟨G,D3⟩,hG⟩:∃G,D.goes=G:=⟨_,rfl⟩
  rw [hG] at hd3 HB HGS ⊢
  simp only at hd3 HB HGS ⊢
  have HD3:=Lib.hid hd3
  have HS3:=Lib.hid hs3
  clear hd3 hs3 hG
  cases G with
  | true =>
    go_wp2_with fail
    go_ret
    rw [HB.out]
    exact ⟨rfl,o3,HD3.out,HS3.out⟩
  | false =>
    obtain ⟨nl,hnl⟩:=HGS.out rfl
    have HB2:=Lib.hid (HB.out.trans (if_neg (by decide)))
    clear HB HGS
    obtain ⟨mn,ml,wv,sv,hd⟩:=HD3.out
    have ct:=hd.word k (by omega)
    have ft:=hd.blk.frozen (23+k)
    obtain ⟨hd2,hs2⟩:=hd.set_ (23+k) (.int .u64 word) (cells_word _ _ _ _ _ k (by omega) word) rfl rfl rfl rfl
    have HF:=Lib.hid (show ∃o',DiskAt o' c (w3.setCell ⟨p,23+k,none⟩ (.int .u64 word)) p (D.put k word).2∧Step o (six c) w o' (w3.setCell ⟨p,23+k,none⟩ (.int .u64 word)) from ⟨o3,by rw [HB2.out];exact ⟨mn,ml,wv,sv,hd2⟩,HS3.out.trans (hs2.mono (only_six c))⟩)
    have hkI:(k:Int)<17:=by omega
    clear hd hd2 hs2
    go_wp2_with fail
    go_ret
    exact ⟨by rw [HB2.out];rfl,HF.out⟩
 ·have h0B:(E != 0)=true:=by simp [h0]
  have HB:=Lib.hid (show D.put node word=(E,D) from by unfold Dk.put;rw [if_pos (by rw [hE];exact h0),hE])
  clear hE h0
  go_wp2_with fail
  go_ret
  rw [HB.out]
  exact ⟨rfl,o,H.out,Step.refl _ _ _⟩
set_option maxRecDepth 100000 in
set_option maxHeartbeats 1000000 in
theorem dadmit_calm {o:Nat→Nat} {c p:Nat} {w:World} {D:Dk} (h:DiskAt o c w p D) (node:Int) (epoch:Nat) :
 Calls Tryz.prog 51 #[.pointer (some ⟨p,0,none⟩), .int .i64 node, .int .u64 epoch] w fun e w'=>e = .returned (.int .i64 (D.admit node epoch).1)∧∃o',DiskAt o' c w' p (D.admit node epoch).2∧Step o (six c) w o' w':=by
 have H:=Lib.hid h
 clear h
 go_enter Tryz.func51,Tryz.ntmps51
 go_wp2_with fail
 refine (dmay_any H.out node).mono ?_
 rintro e w1 ⟨rfl,rfl⟩
 obtain ⟨E,hE⟩:∃E,D.may node=E:=⟨_,rfl⟩
 rw [hE]
 by_cases h0:E=0
 ·subst h0
  obtain ⟨hon,hn0,hn1⟩:=may_ok hE
  obtain ⟨k,rfl⟩:∃k:Nat,node=k:=⟨node.toNat,by omega⟩
  have HE:=Lib.hid hE
  clear hE hon
  obtain ⟨mn,ml,wv,sv,hd⟩:=H.out
  have c40:w.cell? ⟨p,40,none⟩=some (.int .u64 D.last):=hd.blk.cell 40
  have HD:=Lib.hid hd
  clear hd
  by_cases h1:epoch≤D.last
  ·have h1I:(epoch:Int)≤(D.last:Int):=by omega
   have HB:=Lib.hid (show D.admit (k:Int) epoch=(8,D) from by unfold Dk.admit;rw [if_neg (by simp [HE.out]),if_pos h1])
   go_wp2_with fail
   go_ret
   rw [HB.out]
   exact ⟨rfl,o,H.out,Step.refl _ _ _⟩
  ·have h1I:¬(epoch:Int)≤(D.last:Int):=by omega
   have HB:=Lib.hid (show D.admit (k:Int) epoch=if D.goes.1=true then (14,D.goes.2) else (0,{D.goes.2 with table:=fun j=>if j=k then epoch else D.goes.2.table j,last:=epoch}) from by unfold Dk.admit;rw [if_neg (by simp [HE.out]),if_neg h1];rfl)
   go_wp2_with fail
   refine (dgoes_any H.out).mono ?_
   rintro e w3 ⟨rfl,o3,hd3,hs3⟩
   have HGS:=Lib.hid (goes_same (D:=D))
   obtain ⟨⟨G,D3⟩,hG⟩:∃G,D.goes=G:=⟨_,rfl⟩
   rw [hG] at hd3 HB HGS ⊢
   simp only at hd3 HB HGS ⊢
   have HD3:=Lib.hid hd3
   have HS3:=Lib.hid hs3
   clear hd3 hs3 hG
   cases G with
   | true =>
     go_wp2_with fail
     go_ret
     rw [HB.out]
     exact ⟨rfl,o3,HD3.out,HS3.out⟩
   | false =>
     obtain ⟨nl,hnl⟩:=HGS.out rfl
     have HB2:=Lib.hid (HB.out.trans (if_neg (by decide)))
     clear HB HGS
     have hkI:(k:Int)<17:=by omega
     obtain ⟨mn3,ml3,wv3,sv3,hd3⟩:=HD3.out
     have HD:=Lib.hid hd3
     clear hd3
     obtain ⟨hd2,hs2⟩:=HD.out.set_ (6+k) (.int .u64 epoch) (cells_table _ _ _ _ _ k (by omega) epoch) rfl rfl rfl rfl
     obtain ⟨hd3,hs3⟩:=hd2.set_ (D2 := {D3 with table:=fun j=>if j=k then epoch else D3.table j,last:=epoch}) 40 (.int .u64 epoch) rfl rfl rfl rfl rfl
     have ct:=HD.out.table k (by omega)
     have ft:=HD.out.blk.frozen (6+k)
     have ct2:(w3.setCell ⟨p,6+k,none⟩ (.int .u64 epoch)).cell? ⟨p,40,none⟩=some (.int .u64 D3.last):=hd2.blk.cell 40
     have ft2:=hd2.blk.frozen 40
     have HF:=Lib.hid (show ∃o',DiskAt o' c ((w3.setCell ⟨p,6+k,none⟩ (.int .u64 epoch)).setCell ⟨p,40,none⟩ (.int .u64 epoch)) p (D.admit k epoch).2∧Step o (six c) w o' ((w3.setCell ⟨p,6+k,none⟩ (.int .u64 epoch)).setCell ⟨p,40,none⟩ (.int .u64 epoch)) from ⟨o3,by rw [HB2.out];exact ⟨mn3,ml3,wv3,sv3,hd3⟩,HS3.out.trans ((hs2.trans hs3).mono (only_six c))⟩)
     clear hd2 hs2 hd3 hs3
     go_wp2_with fail
     go_ret
     exact ⟨by rw [HB2.out];rfl,HF.out⟩
 ·have h0B:(E != 0)=true:=by simp [h0]
  have HB:=Lib.hid (show D.admit node epoch=(E,D) from by unfold Dk.admit;rw [if_pos (by rw [hE];exact h0),hE])
  clear hE h0
  go_wp2_with fail
  go_ret
  rw [HB.out]
  exact ⟨rfl,o,H.out,Step.refl _ _ _⟩
def sect (data:ByteArray) (i:Nat):ByteArray:=data.extract (i*64) ((i+1)*64)
def Dk.write1 (D:Dk) (node at_:Int) (s:ByteArray):Dk := {D with seq:=D.seq+1,now:=upd D.now at_ s,waits:=D.waits ++ [⟨node,at_,(D.seq+1:Nat),s⟩]}
def Dk.writeN (D:Dk) (node at_:Int) (data:ByteArray):Nat→Dk
 | 0=>D
 | n+1=>(D.writeN node at_ data n).write1 node (at_+n) (sect data n)
def Dk.write (D:Dk) (node:Int) (epoch:Nat) (at_:Int) (data:ByteArray):Int×Dk :=
 if D.may node≠0 then (D.may node,D) else if data.size / 64<1∨16<data.size / 64∨data.size % 64≠0 then (1,D) else if D.admits node.toNat epoch≠0 then (D.admits node.toNat epoch,D)
 else if D.there at_ (data.size / 64:Nat)=false then (30,D) else if D.goes.1=true then (14,D.goes.2) else (0,D.goes.2.writeN node at_ data (data.size / 64))
theorem writeN_same (D:Dk) (node at_:Int) (data:ByteArray) (n:Nat):(D.writeN node at_ data n).on=D.on∧(D.writeN node at_ data n).armed=D.armed∧(D.writeN node at_ data n).sectors=D.sectors∧(D.writeN node at_ data n).last=D.last∧(D.writeN node at_ data n).words=D.words∧(D.writeN node at_ data n).table=D.table∧(D.writeN node at_ data n).lasts=D.lasts∧(D.writeN node at_ data n).seq=D.seq+n∧(D.writeN node at_ data n).waits.length=D.waits.length+n:=by
 induction n with
 | zero=>exact ⟨rfl,rfl,rfl,rfl,rfl,rfl,rfl,rfl,rfl⟩
 | succ n ih =>
   obtain ⟨a1,a2,a3,a4,a5,a6,a7,a8,a9⟩:=ih
   exact ⟨a1,a2,a3,a4,a5,a6,a7,by show (D.writeN node at_ data n).seq+1=_;omega,by show ((D.writeN node at_ data n).waits ++ [_]).length=_;rw [List.length_append,a9];rfl⟩
theorem tdiv64 {n q:Nat} (h:n / 64=q):(n:Int).tdiv 64=(q:Int):=by
 subst h
 rw [Int.tdiv_eq_ediv_of_nonneg (by omega)]
 omega
theorem tmod64 {n r:Nat} (h:n % 64=r):(n:Int).tmod 64=(r:Int):=by
 subst h
 rw [Int.tmod_eq_emod_of_nonneg (by omega)]
 omega
theorem sect_size {data:ByteArray} {i:Nat} (h:(i+1)*64≤data.size):(sect data i).size=64:=by
 unfold sect
 rw [ByteArray.size_extract]
 omega
theorem cell_below {w w1:World} {a:Addr} {v:Value} (h:w.cell? a=some v) (hb:Below w.heap.size w w1):w1.cell? a=some v:=(hb.cell (World.block_lt_of_cell? w _ h)).trans h
theorem new_row4 (W w5:World) (hb:Below (W.alloc (.cells #[.int .i64 0, .int .i64 0, .int .i64 0, .string ⟨#[]⟩] 262)).drew.heap.size (W.alloc (.cells #[.int .i64 0, .int .i64 0, .int .i64 0, .string ⟨#[]⟩] 262)).drew w5) :
 (w5.cell? ⟨W.heap.size,0,none⟩=some (.int .i64 0)∧w5.cell? ⟨W.heap.size,1,none⟩=some (.int .i64 0)∧w5.cell? ⟨W.heap.size,2,none⟩=some (.int .i64 0)∧w5.cell? ⟨W.heap.size,3,none⟩=some (.string ⟨#[]⟩))∧w5.frozen? ⟨W.heap.size,0,none⟩=false∧w5.frozen? ⟨W.heap.size,1,none⟩=false∧w5.frozen? ⟨W.heap.size,2,none⟩=false∧w5.frozen? ⟨W.heap.size,3,none⟩=false:=by
 have h:=(Blk.new W 262 #[.int .i64 0, .int .i64 0, .int .i64 0, .string ⟨#[]⟩]).drew.below_ hb
 exact ⟨⟨h.cell 0,h.cell 1,h.cell 2,h.cell 3⟩,h.frozen 0,h.frozen 1,h.frozen 2,h.frozen 3⟩
structure WrAt1 (oB:Nat→Nat) (wB:World) (o2:Nat→Nat) (c:Nat) (wx:World) (p:Nat) (D2:Dk) (mn ml:Nat) (wv sv:Value) (X:Nat) (x:Ws):Prop where
 blk:Blk wx X 262 #[.int .i64 x.node, .int .i64 x.at_, .int .i64 x.seq, .string x.data]
 col:o2 X=0
 disk:DiskIn o2 c wx p D2 mn ml wv sv
 step:Step oB (six c) wB o2 wx
theorem no_six {c:Nat} (hc:1≤c):¬six c 0:=by unfold six;omega
theorem wr1_late {oB:Nat→Nat} {wB W1 w5:World} {c p:Nat} {D2:Dk} {mn ml:Nat} {wv sv:Value} (hd:DiskIn oB c W1 p D2 mn ml wv sv) (hs:Step oB (only c) wB oB W1) (hb:Below W1.drew.heap.size W1.drew w5) (x:Ws) :
 ∃o2,WrAt1 oB wB o2 c (w5.alloc (.cells #[.int .i64 x.node, .int .i64 x.at_, .int .i64 x.seq, .string x.data] 262)) p D2 mn ml wv sv w5.heap.size x:=by
 have hb':=below_of_drew hb
 have h5:=hd.step (Step.of_below oB (fun _=>False) hb') (fun _ _ _=>id)
 obtain ⟨o2,h0,hs2⟩:=alloc_as oB w5 (.cells #[.int .i64 x.node, .int .i64 x.at_, .int .i64 x.seq, .string x.data] 262) 0
 exact ⟨o2,⟨Blk.new _ _ _,h0,h5.step hs2 (fun _ _ _=>id),((hs.mono (only_six c)).trans (Step.of_below oB (six c) hb')).trans (hs2.mono (fun _ h=>h.elim))⟩⟩
theorem wr1_early {oB:Nat→Nat} {wB W1 w5:World} {c p:Nat} {D2:Dk} {mn ml:Nat} {wv sv:Value} (hd:DiskIn oB c W1 p D2 mn ml wv sv) (hs:Step oB (only c) wB oB W1)
 (hb:Below (W1.alloc (.cells #[.int .i64 0, .int .i64 0, .int .i64 0, .string ⟨#[]⟩] 262)).drew.heap.size (W1.alloc (.cells #[.int .i64 0, .int .i64 0, .int .i64 0, .string ⟨#[]⟩] 262)).drew w5) (hc:1≤c) (x:Ws) :
 ∃o2,WrAt1 oB wB o2 c ((((w5.setCell ⟨W1.heap.size,0,none⟩ (.int .i64 x.node)).setCell ⟨W1.heap.size,1,none⟩ (.int .i64 x.at_)).setCell ⟨W1.heap.size,2,none⟩ (.int .i64 x.seq)).setCell ⟨W1.heap.size,3,none⟩ (.string x.data)) p D2 mn ml wv sv W1.heap.size x:=by
 have hb':=below_of_drew hb
 obtain ⟨o2,h0,hs2⟩:=alloc_as oB W1 (.cells #[.int .i64 0, .int .i64 0, .int .i64 0, .string ⟨#[]⟩] 262) 0
 have h1:=hd.step hs2 (fun _ _ _=>id)
 have h5:=h1.step (Step.of_below o2 (only 0) hb') (fun y h1 _=>by unfold only;omega)
 have b5:=(Blk.new W1 262 #[.int .i64 0, .int .i64 0, .int .i64 0, .string ⟨#[]⟩]).below_ hb'
 have st:Step o2 (only 0) w5 o2 ((((w5.setCell ⟨W1.heap.size,0,none⟩ (.int .i64 x.node)).setCell ⟨W1.heap.size,1,none⟩ (.int .i64 x.at_)).setCell ⟨W1.heap.size,2,none⟩ (.int .i64 x.seq)).setCell ⟨W1.heap.size,3,none⟩ (.string x.data)) :=
  ((((Step.refl o2 (only 0) w5).setCell (p:=⟨W1.heap.size,0,none⟩) h0 _).setCell (p:=⟨W1.heap.size,1,none⟩) h0 _).setCell (p:=⟨W1.heap.size,2,none⟩) h0 _).setCell (p:=⟨W1.heap.size,3,none⟩) h0 _
 have hB:Step oB (six c) wB o2 w5:=((hs.mono (only_six c)).trans (hs2.mono (fun _ h=>h.elim))).trans (Step.of_below o2 (six c) hb')
 have hlt:wB.heap.size≤W1.heap.size:=hs.size
 refine ⟨o2,⟨(((b5.set_ 0 _).set_ 1 _).set_ 2 _).set_ 3 _,h0,h5.step st (fun y h1 _=>by unfold only;omega),?_⟩⟩
 exact (((hB.setNew (p:=⟨W1.heap.size,0,none⟩) hlt _).setNew (p:=⟨W1.heap.size,1,none⟩) hlt _).setNew (p:=⟨W1.heap.size,2,none⟩) hlt _).setNew (p:=⟨W1.heap.size,3,none⟩) hlt _
theorem DiskIn.waits_put {o o2:Nat→Nat} {c p:Nat} {w w2:World} {D:Dk} {mn ml:Nat} {wv sv V:Value} {x:Ws} (h:DiskIn o c w p D mn ml wv sv) (hw:OwnW o2 (c+3) w2 262 4 V (D.waits.length+1) (D.waits.flatMap Ws.cells++x.cells)) (hs:Step o (only (c+3)) w o2 w2) :
 DiskIn o2 c (w2.setCell ⟨p,5,none⟩ V) p {D with waits:=D.waits ++ [x]} mn ml V sv∧Step o (six c) w o2 (w2.setCell ⟨p,5,none⟩ V):=by
 have hb:=h.blk.step hs (by rw [h.col];unfold only;omega)
 have hp:o2 p=c:=(hs.old p h.blk.lt).trans h.col
 have hs2:Step o2 (only c) w2 o2 (w2.setCell ⟨p,5,none⟩ V):=(Step.refl o2 (only c) w2).setCell (p:=⟨p,5,none⟩) hp V
 refine ⟨⟨hb.set_ 5 V,hp,(h.now.step hs (by unfold only;omega)).step hs2 (by unfold only;omega),(h.lasts.step hs (by unfold only;omega)).step hs2 (by unfold only;omega),?_,(h.stays.step hs (by unfold only;omega)).step hs2 (by unfold only;omega)⟩,?_⟩
 ·have:=hw.step hs2 (by unfold only;omega)
  simpa using this
 ·exact (hs.mono (fun y hy=>by unfold only at hy;unfold six;omega)).trans (hs2.mono (only_six c))
set_option maxRecDepth 100000 in
set_option maxHeartbeats 4000000 in
theorem dwrite_calm {o:Nat→Nat} {c p:Nat} {w:World} {D:Dk} (h:DiskAt o c w p D) (node:Int) (epoch:Nat) (at_:Int) (data:ByteArray) (hl:D.waits.length≤900000) (hsec:D.sectors≤20000) (hseq:D.seq≤1000000000) (hd:data.size≤1000000000) (hc:1≤c) :
 Calls Tryz.prog 136 #[.pointer (some ⟨p,0,none⟩), .int .i64 node, .int .u64 epoch, .int .i64 at_, .string data] w fun e w'=>e = .returned (.int .i64 (D.write node epoch at_ data).1)∧∃o',DiskAt o' c w' p (D.write node epoch at_ data).2∧Step o (six c) w o' w':=by
 have H:=Lib.hid h
 clear h
 go_enter Tryz.func136,Tryz.ntmps136
 go_wp2_with fail
 refine (dmay_any H.out node).mono ?_
 rintro e w1 ⟨rfl,rfl⟩
 obtain ⟨E,hE⟩:∃E,D.may node=E:=⟨_,rfl⟩
 rw [hE]
 by_cases h0:E=0
 ·subst h0
  obtain ⟨hon,hn0,hn1⟩:=may_ok hE
  obtain ⟨k,rfl⟩:∃k:Nat,node=k:=⟨node.toNat,by omega⟩
  have HE:=Lib.hid hE
  clear hE hon
  obtain ⟨q,hq⟩:∃q,data.size / 64=q:=⟨_,rfl⟩
  obtain ⟨r,hr⟩:∃r,data.size % 64=r:=⟨_,rfl⟩
  have hdv:(data.size:Int).tdiv 64=(q:Int):=tdiv64 hq
  have hmd:(data.size:Int).tmod 64=(r:Int):=tmod64 hr
  have hq1:q≤100000000:=by omega
  have hr1:r<64:=by omega
  by_cases hn:q<1∨16<q∨r≠0
  ·have HB:=Lib.hid (show D.write (k:Int) epoch at_ data=(1,D) from by unfold Dk.write;rw [if_neg (by simp [HE.out]),hq,hr,if_pos hn])
   clear hq hr
   by_cases b1:q<1
   ·have b1I:(q:Int)<1:=by omega
    clear hn
    go_wp2_with fail
    go_ret
    rw [HB.out]
    exact ⟨rfl,o,H.out,Step.refl _ _ _⟩
   ·have b1I:¬(q:Int)<1:=by omega
    by_cases b2:16<q
    ·have b2I:(16:Int)<(q:Int):=by omega
     clear hn
     go_wp2_with fail
     go_ret
     rw [HB.out]
     exact ⟨rfl,o,H.out,Step.refl _ _ _⟩
    ·have b2I:¬(16:Int)<(q:Int):=by omega
     have b3:¬r=0:=by omega
     have b3I:((r:Int) != 0)=true:=by simp;omega
     clear hn
     go_wp2_with fail
     go_ret
     rw [HB.out]
     exact ⟨rfl,o,H.out,Step.refl _ _ _⟩
  ·have HN:=Lib.hid hn
   obtain ⟨hn1',hn2,hn3⟩:1≤q∧q≤16∧r=0:=by omega
   have hsz:data.size=q*64:=by omega
   have HQ:=Lib.hid hq
   have HR:=Lib.hid hr
   have HSZ:=Lib.hid hsz
   subst hn3
   clear hn hr hsz hq hd
   go_wp2_with fail
   refine (dadmits_any H.out k epoch (by omega)).mono ?_
   rintro e w2 ⟨rfl,rfl⟩
   obtain ⟨F,hF⟩:∃F,D.admits k epoch=F:=⟨_,rfl⟩
   rw [hF]
   by_cases h1:F=0
   ·subst h1
    have HF:=Lib.hid hF
    clear hF
    go_wp2_with fail
    refine (dthere_any H.out at_ q hsec).mono ?_
    rintro e w3 ⟨rfl,rfl⟩
    cases hth:D.there at_ q with
    | false =>
      have HB:=Lib.hid (show D.write (k:Int) epoch at_ data=(30,D) from by unfold Dk.write;rw [if_neg (by simp [HE.out]),HQ.out,HR.out,if_neg HN.out,if_neg (by simp only [Int.toNat_natCast,HF.out];simp),if_pos hth])
      clear hth
      go_wp2_with fail
      go_ret
      rw [HB.out]
      exact ⟨rfl,o,H.out,Step.refl _ _ _⟩
    | true =>
      have HB:=Lib.hid (show D.write (k:Int) epoch at_ data=if D.goes.1=true then (14,D.goes.2) else (0,D.goes.2.writeN k at_ data q) from by unfold Dk.write;rw [if_neg (by simp [HE.out]),HQ.out,HR.out,if_neg HN.out,if_neg (by simp only [Int.toNat_natCast,HF.out];simp),if_neg (by rw [hth];simp)])
      have hat:0≤at_∧at_≤D.sectors∧(q:Int)≤D.sectors - at_:=of_decide_eq_true hth
      obtain ⟨ha0,ha1,ha2⟩:=hat
      clear hth
      go_wp2_with fail
      refine (dgoes_any H.out).mono ?_
      rintro e w3 ⟨rfl,o3,hd3,hs3⟩
      have HGS:=Lib.hid (goes_same (D:=D))
      obtain ⟨⟨G,D3⟩,hG⟩:∃G,D.goes=G:=⟨_,rfl⟩
      rw [hG] at hd3 HB HGS ⊢
      simp only at hd3 HB HGS ⊢
      have HD3:=Lib.hid hd3
      have HS3:=Lib.hid hs3
      clear hd3 hs3 hG
      cases G with
      | true =>
        go_wp2_with fail
        go_ret
        rw [HB.out]
        exact ⟨rfl,o3,HD3.out,HS3.out⟩
      | false =>
        obtain ⟨nl,hnl⟩:=HGS.out rfl
        have HB2:=Lib.hid (HB.out.trans (if_neg (by decide)))
        have hq3:D3.seq=D.seq:=by rw [hnl]
        have hw3:D3.waits.length=D.waits.length:=by rw [hnl]
        clear HB HGS hnl
        go_wp2_with fail
        go_loopw [52] (fun t52 wr=>∃(i:Nat) (o':Nat→Nat),i≤q∧t52 = .int .i64 i∧DiskAt o' c wr p (D3.writeN k at_ data i)∧Step o (six c) w o' wr) (fun t52 _=>q - (intOf t52).toNat)
        case atStart=>exact ⟨0,o3,by omega,rfl,HD3.out,HS3.out⟩
        case round =>
         obtain ⟨i,o1,hi,rfl,hd,hst⟩:=hrel
         have HD:=Lib.hid hd
         have HST:=Lib.hid hst
         clear hd hst
         by_cases hlt:i<q
         ·have hltI:(i:Int)<(q:Int):=by omega
          obtain ⟨Dj,hDj⟩:∃Dj,D3.writeN k at_ data i=Dj:=⟨_,rfl⟩
          have hsame:=writeN_same D3 k at_ data i
          rw [hDj] at hsame
          obtain ⟨_,_,_,_,_,_,_,e8,e9⟩:=hsame
          have hsq:Dj.seq≤1000000100:=by omega
          have hwl:Dj.waits.length≤900100:=by omega
          obtain ⟨mn,ml,wv,sv,hin⟩:=HD.out
          rw [hDj] at hin
          have c2:wr.cell? ⟨p,2,none⟩=some (.int .i64 Dj.seq):=hin.blk.cell 2
          have f2:=hin.blk.frozen 2
          obtain ⟨hin2,hs2⟩:=hin.set_ (D2 := {Dj with seq:=Dj.seq+1}) 2 (.int .i64 ((Dj.seq:Int)+1)) rfl rfl rfl rfl rfl
          have HIN2:=Lib.hid hin2
          have HS2:=Lib.hid hs2
          have HDJ:=Lib.hid hDj
          have d2:(wr.setCell ⟨p,2,none⟩ (.int .i64 ((Dj.seq:Int)+1))).cell? ⟨p,2,none⟩=some (.int .i64 ((Dj.seq:Int)+1)):=hin2.blk.cell 2
          have ESQ:=Lib.hid e8
          clear hin hin2 hs2 hDj e8 e9
          go_wp2_with fail
          clear c2 f2
          generalize wr.setCell ⟨p,2,none⟩ (.int .i64 ((Dj.seq:Int)+1))=W1 at HIN2 HS2 d2 ⊢
          have e1:IntKind.i64.wrap (at_+(i:Int))=at_+i:=IntWalk.i64_in _ (by omega)
          obtain ⟨lo,hlo⟩:∃lo,i*64=lo:=⟨_,rfl⟩
          obtain ⟨hi',hhi⟩:∃hi',(i+1)*64=hi':=⟨_,rfl⟩
          have e2:IntKind.i64.wrap ((i:Int)*64)=(lo:Int):=by rw [IntWalk.i64_in _ (by omega)];omega
          have e3:IntKind.i64.wrap ((i:Int)+1)=(i:Int)+1:=IntWalk.i64_in _ (by omega)
          have e4:IntKind.i64.wrap (((i:Int)+1)*64)=(hi':Int):=by rw [IntWalk.i64_in _ (by omega)];omega
          have b0:(0:Int)≤(lo:Int):=by omega
          have b1:(lo:Int)≤(hi':Int):=by omega
          have b2:(hi':Int)≤(data.size:Int):=by have:=HSZ.out;omega
          have HLO:=Lib.hid hlo
          have HHI:=Lib.hid hhi
          have HCL:=Lib.hid (show (data.extract lo hi').size≤281474976710656 by rw [ByteArray.size_extract];have:=HSZ.out;omega)
          clear hlo hhi
          go_cut [15] from 62 to 78 (fun t15 wx=>∃(X:Nat) (o2:Nat→Nat),t15 = .pointer (some ⟨X,0,none⟩)∧WrAt1 o1 wr o2 c wx p {Dj with seq:=Dj.seq+1} mn ml wv sv X ⟨k,at_+i,(Dj.seq:Int)+1,data.extract lo hi'⟩)
          case first =>
           have dn:=World.new_ne W1 _ d2
           go_region_held3 (fun w'=>w'.cell? ⟨p,2,none⟩=some (.int .i64 ((Dj.seq:Int)+1)))
            (first | exact d2 | exact d3 | go_keep)
            (first | (go_at_call 191;((with_reducible refine (clone_any (data.extract lo hi') _ HCL.out).mono ?_);rintro e w5 ⟨rfl,hb5⟩;have d3:=cell_below (a:=⟨p,2,none⟩) (v := .int .i64 ((Dj.seq:Int)+1)) (by assumption) hb5;first | (have hx5:=new_row4 W1 w5 hb5;obtain ⟨⟨x0,x1,x2,x3⟩,g0,g1,g2,g3⟩:=hx5) | skip)))
           ·have HW:=Lib.hid (wr1_late HIN2.out HS2.out hb5 ⟨k,at_+i,(Dj.seq:Int)+1,data.extract lo hi'⟩)
            clear hb5 d3
            go_wp2_with fail
            go_meet
            case rel=>exact ⟨_,HW.out.choose,rfl,HW.out.choose_spec⟩
           ·have HW:=Lib.hid (wr1_early HIN2.out HS2.out hb5 hc ⟨k,at_+i,(Dj.seq:Int)+1,data.extract lo hi'⟩)
            clear hb5 d3 x0 x1 x2 x3 g0 g1 g2 g3
            go_wp2_with fail
            go_meet
            case rel=>exact ⟨_,HW.out.choose,rfl,HW.out.choose_spec⟩
          case rest =>
           obtain ⟨X,o2,rfl,hwr⟩:=hcut
           have HWR:=Lib.hid hwr
           obtain ⟨w6,hupd,hd6,hs6,hbk6⟩:=(show DiskIn o2 c wc.drew p {Dj with seq:=Dj.seq+1} mn ml wv sv from hwr.disk.drew).now_put (at_+i) (data.extract lo hi')
           have x6:=hbk6 _ _ _ hwr.blk
           have c3:wc.cell? ⟨p,3,none⟩=some (.map (some mn)):=hwr.disk.blk.cell 3
           have x1:=hwr.blk.cell 1
           have x3:=hwr.blk.cell 3
           simp at x1 x3
           have y0:=x6.cell 0
           have y1:=x6.cell 1
           have y2:=x6.cell 2
           have y3:=x6.cell 3
           simp at y0 y1 y2 y3
           obtain ⟨A5,cap5,e5,hc5,hm5⟩:=hd6.waits.form
           subst e5
           have c5:w6.cell? ⟨p,5,none⟩=some (.slice A5 Dj.waits.length cap5):=hd6.blk.cell 5
           have f5:=hd6.blk.frozen 5
           have z3:w6.cell? ⟨p,3,none⟩=some (.map (some mn)):=hd6.blk.cell 3
           have HD6:=Lib.hid hd6
           have HS6:=Lib.hid hs6
           clear hwr hd6 hs6 hbk6 x6
           go_wp2_with fail
           go_region_held3 (fun w'=>w'.cell? ⟨p,3,none⟩=some (.map (some mn))∧w'.cell? ⟨X,1,none⟩=some (.int .i64 (at_+i))∧w'.cell? ⟨X,3,none⟩=some (.string (data.extract lo hi')))
            (first | exact ⟨c3,x1,x3⟩ | exact ⟨z3,y1,y3⟩ | go_keep)
            (fail)
           clear hupd c3 x1 x3 z3
           obtain ⟨i0,hi0,hz0,hz1,hz2⟩:=info_parts info_ws
           have HDA:=Lib.hid (show DiskIn o2 c (w6.alloc (.cells #[.int .i64 (k:Int), .int .i64 (at_+i), .int .i64 ((Dj.seq:Int)+1), .string (data.extract lo hi')] 262)).drew p {Dj with seq:=Dj.seq+1,now:=upd Dj.now (at_+i) (data.extract lo hi')} mn ml (.slice A5 Dj.waits.length cap5) sv from (HD6.out.step ((Step.refl o2 (fun _=>False) w6).alloc _) (fun _ _ _=>id)).drew)
           have c5b:(w6.alloc (.cells #[.int .i64 (k:Int), .int .i64 (at_+i), .int .i64 ((Dj.seq:Int)+1), .string (data.extract lo hi')] 262)).cell? ⟨p,5,none⟩=some (.slice A5 Dj.waits.length cap5):=HDA.out.blk.cell 5
           go_wp2_with fail
           go_region_law ((refine step_append_W _ rfl (.tmp 91) (.tmp 93) 100 rfl 262 i0 _ 4 40 Tryz.underlying100 hi0 hz0 hz1 hz2 rfl (by omega) (.slice A5 Dj.waits.length cap5) Dj.waits.length (Dj.waits.flatMap Ws.cells) rfl HDA.out.waits _ 1 1 [.int .i64 (k:Int), .int .i64 (at_+i), .int .i64 ((Dj.seq:Int)+1), .string (data.extract lo hi')] rfl (Reads.newAt w6 262 4 1 _ #[.int .i64 (k:Int), .int .i64 (at_+i), .int .i64 ((Dj.seq:Int)+1), .string (data.extract lo hi')] _ rfl rfl rfl).drew (by simp [Value.oneCell']) (by unfold maxLen;omega) (by omega) ?_;intro v7 w7 hown7 hst7;obtain ⟨A7,cap7,rfl,_,_⟩:=hown7.form;have hb7:=HDA.out.blk.step hst7 (by rw [HDA.out.col];unfold only;omega);have z5:=hb7.cell 5;have f57:=hb7.frozen 5;simp [Dk.cells] at z5;have HW7:=Lib.hid hown7;have HT7:=Lib.hid hst7;clear hown7 hst7 hb7))
           all_goals
            obtain ⟨hd8,hs8⟩:=HDA.out.waits_put (x:=⟨k,at_+i,(Dj.seq:Int)+1,data.extract lo hi'⟩) HW7.out HT7.out
            have hst6:Step o2 (six c) wc o2 (w6.alloc (.cells #[.int .i64 (k:Int), .int .i64 (at_+i), .int .i64 ((Dj.seq:Int)+1), .string (data.extract lo hi')] 262)).drew:=((Step.of_drew (HS6.out.mono (fun y hy=>by unfold only at hy;unfold six;omega))).alloc _).drew
            have HF:=Lib.hid (show ∃o',DiskAt o' c (w7.setCell ⟨p,5,none⟩ (.slice A7 (Dj.waits.length+1) cap7)) p (D3.writeN k at_ data (i+1))∧Step o (six c) w o' (w7.setCell ⟨p,5,none⟩ (.slice A7 (Dj.waits.length+1) cap7)) from
             ⟨_,⟨mn,ml,_,sv,by
              have e:D3.writeN k at_ data (i+1) = {Dj with seq:=Dj.seq+1,now:=upd Dj.now (at_+i) (data.extract lo hi'),waits:=Dj.waits ++ [⟨k,at_+i,(Dj.seq:Int)+1,data.extract lo hi'⟩]}:=by
               rw [←HLO.out,←HHI.out]
               simp only [Dk.writeN,HDJ.out]
               rfl
              rw [e]
              exact hd8⟩,(HST.out.trans (HWR.out.step.trans hst6)).trans hs8⟩)
            clear hd8 hs8 hst6 HW7 HT7 z5 f57
            go_wp2_with fail
            go_roundw
            case rel=>exact ⟨i+1,HF.out.choose,by omega,by go_num,HF.out.choose_spec.1,HF.out.choose_spec.2⟩
            case measure=>simp [intOf];omega
         ·have hltI:¬(i:Int)<(q:Int):=by omega
          obtain rfl:i=q:=by omega
          go_wp2_with fail
          go_ret
          rw [HB2.out]
          exact ⟨rfl,o1,HD.out,HST.out⟩
   ·have h1B:(F != 0)=true:=by simp [h1]
    have HB:=Lib.hid (show D.write (k:Int) epoch at_ data=(F,D) from by unfold Dk.write;rw [if_neg (by simp [HE.out]),HQ.out,HR.out,if_neg HN.out,if_pos (by simp only [Int.toNat_natCast,hF];exact h1),Int.toNat_natCast,hF])
    clear hF h1
    go_wp2_with fail
    go_ret
    rw [HB.out]
    exact ⟨rfl,o,H.out,Step.refl _ _ _⟩
 ·have h0B:(E != 0)=true:=by simp [h0]
  have HB:=Lib.hid (show D.write node epoch at_ data=(E,D) from by unfold Dk.write;rw [if_pos (by rw [hE];exact h0),hE])
  clear hE h0
  go_wp2_with fail
  go_ret
  rw [HB.out]
  exact ⟨rfl,o,H.out,Step.refl _ _ _⟩
structure Rc where
 epoch:Nat
 lsn:Nat
 images:List Im
deriving DecidableEq
def Rc.zero : Rc:=⟨0,0,[]⟩
def secsOf (n:Int):Nat:=if n<1∨60<n then 0 else (108*n.toNat+41) / 42
def rise : List Im→Bool
 | []=>true
 | [_]=>true
 | a :: b :: r=>decide (a.block<b.block) && rise (b :: r)
def Rc.wrongE (r:Rc):Int:=if r.epoch=0∨r.lsn=0∨r.images = [] then 1 else if (∃i∈r.images,¬i.right)∨rise r.images=false then 1 else if 60<r.images.length then 2 else 0
def imL (i:Im):List UInt8:=le i.block.toNat 4++(le i.ver 8++i.data.data.toList)
def bodyL (l:List Im):List UInt8:=l.flatMap imL
def labL (r:Rc) (place:Nat):List UInt8:=le r.epoch 8++(le r.lsn 8++(le place 1++le r.images.length 1))
def recT (r:Rc) (place:Nat):List UInt8:=labL r place++((bodyL r.images).take ((place+1)*42)).drop (place*42)
def recS (r:Rc) (place:Nat):List UInt8:=stampL (recT r place) 64
def recL (r:Rc):List UInt8:=(List.range (secsOf r.images.length)).flatMap (recS r)
def Rc.putS (r:Rc):ByteArray:=if r.wrongE=0 then str (recL r) else ⟨#[]⟩
def firstR (b:ByteArray):Rd:=⟨str (readL (b.extract 0 64).data.toList),0⟩
def firstX (b:ByteArray):Rc:=⟨(firstR b).numV 8,((firstR b).numR 8).numV 8,[]⟩
def firstP (b:ByteArray):Nat:=(((firstR b).numR 8).numR 8).numV 1
def firstN (b:ByteArray):Nat:=((((firstR b).numR 8).numR 8).numR 1).numV 1
def firstBad (b:ByteArray):Prop:=(firstX b).epoch=0∨(firstX b).lsn=0∨firstP b≠0∨secsOf (firstN b)=0
instance (b:ByteArray):Decidable (firstBad b):=by unfold firstBad;infer_instance
def firstE (b:ByteArray):Int:=if b.size<64 then 5 else if readE (b.extract 0 64).data.toList≠0 then readE (b.extract 0 64).data.toList else if firstBad b then 4 else 0
def placeL (b:ByteArray) (place:Nat):List UInt8:=(b.extract (place*64) ((place+1)*64)).data.toList
def placesE (b:ByteArray) (x:Rc) (cnt:Nat):Nat→Int
 | 0=>0
 | n+1=>if placesE b x cnt n≠0 then placesE b x cnt n else if readE (placeL b n)≠0 then readE (placeL b n) else if (readL (placeL b n)).take 18=le x.epoch 8++(le x.lsn 8++(le n 1++le cnt 1)) then 0 else 4
def placesL (b:ByteArray) (n:Nat):List UInt8:=(List.range n).flatMap (fun k=>(readL (placeL b k)).drop 18)
def imR (t:List UInt8):Rd:=⟨str t,0⟩
def imG (t:List UInt8):Im:=⟨((imR t).numV 4:Nat),((imR t).numR 4).numV 8,str (t.drop 12)⟩
def imsG (t:List UInt8) (n:Nat):List Im:=(List.range n).map (fun i=>imG ((t.take ((i+1)*108)).drop (i*108)))
def getX (b:ByteArray):Rc := {firstX b with images:=imsG (placesL b (secsOf (firstN b))) (firstN b)}
def getE (b:ByteArray):Int :=
 if firstE b≠0 then firstE b else if b.size<secsOf (firstN b)*64 then 5 else if placesE b (firstX b) (firstN b) (secsOf (firstN b))≠0 then placesE b (firstX b) (firstN b) (secsOf (firstN b))
 else if (getX b).wrongE=0∧(getX b).putS=b.extract 0 (secsOf (firstN b)*64) then 0 else 4
def getR (b:ByteArray):Rc:=if getE b=0 then getX b else Rc.zero
def getN (b:ByteArray):Nat:=if getE b=0 then secsOf (firstN b) else 0
structure Hd where
 epoch:Nat
 lsn:Nat
 at_:Int
deriving DecidableEq
def Hd.zero : Hd:=⟨0,0,0⟩
def Hd.agg (h:Hd):Value := .agg #[.int .u64 h.epoch, .int .u64 h.lsn, .int .i64 h.at_]
def Hd.bad (h:Hd):Prop:=h.epoch=0∨h.lsn=0∨h.at_<0∨256<h.at_
instance (h:Hd):Decidable h.bad:=by unfold Hd.bad;infer_instance
def headT (h:Hd):List UInt8 := [72,69,65,68]++(le h.epoch 8++(le h.lsn 8++le h.at_.toNat 4))
def headL (h:Hd):List UInt8:=stampL (headT h) 64
def Hd.putE (h:Hd):Int:=if h.bad then 1 else 0
def Hd.putS (h:Hd):ByteArray:=if h.bad then ⟨#[]⟩ else str (headL h)
def lhR (b:ByteArray):Rd:=⟨str ((readL b.data.toList).drop 4),0⟩
def lhX (b:ByteArray):Hd:=⟨(lhR b).numV 8,((lhR b).numR 8).numV 8,((((lhR b).numR 8).numR 8).numV 4:Nat)⟩
def lhE (b:ByteArray):Int:=if b.size≠64 then 5 else if readE b.data.toList≠0 then readE b.data.toList else if ¬(lhX b).bad∧(lhX b).putS=b then 0 else 4
def lhG (b:ByteArray):Hd:=if lhE b=0 then lhX b else Hd.zero
theorem headT_len (h:Hd):(headT h).length=24:=by
 unfold headT
 simp [le_len]
theorem num4 {v:Nat} (h:v<4294967296) (m:List UInt8):(⟨str (le v 4++m),0⟩:Rd).numV 4=v∧(⟨str (le v 4++m),0⟩:Rd).numR 4=⟨str m,0⟩:=num_app (n:=4) ⟨by omega,by omega,by simpa using h⟩ m
def logAt (node:Int):Int×Int:=if node<1∨3<node then (0,3) else (1+(node - 1)*12,0)
def blockAt (b:Int):Int×Int:=if b<0∨11<b then (0,30) else (37+2*b,0)
def Dk.wf (D:Dk):Prop:=(∀k s,D.now k=some s→s.size=64)∧(∀k x,D.lasts k=some x→x.data.size=64)∧∀x∈D.waits,x.data.size=64
def Dk.sec (D:Dk) (k:Int):ByteArray:=(D.now k).getD (str (zer 64))
def Dk.readL (D:Dk) (at_:Int) (n:Nat):List UInt8:=(List.range n).flatMap (fun i:Nat=>(D.sec (at_+(i:Int))).data.toList)
def Dk.readE (D:Dk) (at_ n:Int):Int:=if D.on=false then 14 else if n<1∨400<n∨D.there at_ n=false then 30 else 0
def Dk.readS (D:Dk) (at_ n:Int):ByteArray:=if D.readE at_ n=0 then str (D.readL at_ n.toNat) else ⟨#[]⟩
theorem Dk.sec_size {D:Dk} (h:D.wf) (k:Int):(D.sec k).size=64:=by
 unfold Dk.sec
 cases e:D.now k with
 | none=>rw [Option.getD_none,str_size,zer_len]
 | some s=>exact h.1 k s e
theorem Dk.readL_len {D:Dk} (h:D.wf) (at_:Int) (n:Nat):(D.readL at_ n).length=n*64:=by
 induction n with
 | zero=>rfl
 | succ n ih =>
   have:D.readL at_ (n+1)=D.readL at_ n++(D.sec (at_+n)).data.toList:=by simp [Dk.readL,List.range_succ]
   rw [this,List.length_append,ih]
   have h1:(D.sec (at_+n)).data.toList.length=(D.sec (at_+n)).size:=rfl
   rw [h1,Dk.sec_size h]
   omega
def Dk.loadE1 (D:Dk) (b:Int):Int:=if (blockAt b).2≠0 then (blockAt b).2 else D.readE (blockAt b).1 2
def Dk.load (D:Dk) (b:Int):Im×Int:=if D.loadE1 b≠0 then (Im.zero,D.loadE1 b) else getB b (D.readS (blockAt b).1 2)
def Dk.headE1 (D:Dk) (node:Int):Int:=if (logAt node).2≠0 then (logAt node).2 else D.readE (logAt node).1 1
def Dk.headB (D:Dk) (node:Int):ByteArray:=D.readS (logAt node).1 1
def allZero (b:ByteArray):Prop:=∀x∈b.data.toList,x=0
instance (b:ByteArray):Decidable (allZero b):=by unfold allZero;infer_instance
def Dk.headE (D:Dk) (node:Int):Int:=if D.headE1 node≠0 then D.headE1 node else if lhE (D.headB node)=0 then 0 else if allZero (D.headB node) then 0 else 15
def Dk.headH (D:Dk) (node:Int):Hd:=if D.headE1 node=0∧lhE (D.headB node)=0 then lhG (D.headB node) else Hd.zero
def Dk.headI (D:Dk) (node:Int):Bool:=decide (D.headE1 node=0∧lhE (D.headB node)=0∧(lhG (D.headB node)).at_<11)
def scanL (epoch:Nat):Nat→Nat→ByteArray→List Rc
 | 0,_,_ => []
 | f+1,lsn,b=>if getE b≠0∨(getR b).epoch≠epoch∨(getR b).lsn≠lsn then [] else getR b :: scanL epoch f ((lsn+1) % 18446744073709551616) (b.extract (getN b*64) b.size)
def rotS (b:ByteArray) (n:Nat):ByteArray:=b.extract n b.size++b.extract 0 n
def Dk.scanE (D:Dk) (node:Int):Int:=if D.headE node≠0 then D.headE node else if D.headI node=false then 0 else D.readE ((logAt node).1+1) 11
def Dk.scan (D:Dk) (node:Int):List Rc :=
 if D.headE node≠0∨D.headI node=false∨D.readE ((logAt node).1+1) 11≠0 then []
 else scanL (D.headH node).epoch 12 (D.headH node).lsn (rotS (D.readS ((logAt node).1+1) 11) ((D.headH node).at_.toNat*64))
def bestStep (f:Int→Option Im) (i:Im):Int→Option Im:=match f i.block with
 | none=>upd f i.block i
 | some was=>if was.ver≤i.ver then upd f i.block i else f
def bestOf (l:List Im):Int→Option Im:=l.foldl bestStep (fun _=>none)
def keysOf (l:List Im):List Int:=((l.map (fun i:Im=>i.block)).eraseDups).mergeSort (fun x y=>decide (x≤y))
def planOf (l:List Rc):List Im:=(keysOf (l.flatMap (·.images))).map (fun k=>(bestOf (l.flatMap (·.images)) k).getD Im.zero)
def Dk.store (D:Dk) (node:Int) (epoch:Nat) (i:Im):Int×Dk:=if (blockAt i.block).2≠0 then ((blockAt i.block).2,D) else if ¬i.right then (1,D) else D.write node epoch (blockAt i.block).1 (str (blkL i))
end Go.Proofs.YtohgabdmmbngbaaGreatDoor
namespace Go.Proofs.YtohgabdmmbngbaaGreatDoor
open Go.RowKit Go.MapKept Go.Maps
end Go.Proofs.YtohgabdmmbngbaaGreatDoor
