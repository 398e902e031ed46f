import Derived.Test.YtldoeodkeieejaaGreatDoorKWireC
import Derived.Lib.BufferRead
namespace Go.Proofs.YtldoeodkeieejaaGreatDoor
open Go.RowKit
section
variable {o:Nat→Nat} {c:Nat} {w:World} {p:Nat} {W:Wr}
def str (l:List UInt8):ByteArray:=⟨l.toArray⟩
theorem conv_own {e:TypeId} {o:Nat→Nat} {c:Nat} {w:World} {A:Option Addr} {cap:Nat} {l:List UInt8} (src dst:TypeId) (hs:Tryz.prog.underlying src=some (.slice e)) (he:Tryz.prog.underlying e=some (.int .u8)) (hd:Tryz.prog.underlying dst=some .string)
 (h:OwnS o c w e 1 (.slice A l.length cap) l.length (bvs l)):(convert src dst (.slice A l.length cap)).run Tryz.prog w = .ok (.string (str l)) w:=by
 cases A with
 | none =>
   rcases h.1.2 with ⟨_,h0⟩ | ⟨g,cap',cur,hv,_⟩
   ·have hl:l = []:=List.eq_nil_of_length_eq_zero h0
    subst hl
    exact Lib.run_convert_nil_bytes w src dst e cap hs he hd
   ·simp at hv
 | some a =>
   refine run_convert_bytes_back w src dst e a cap l hs he hd (fun j hj => ?_)
   obtain ⟨ad,e1,hc⟩:=(Reads.of_own h.1).2 (by omega)
   obtain rfl:a=ad:=Option.some.inj e1
   refine hc j _ ?_
   simp [bvs,bv,List.getElem?_eq_getElem hj]
set_option maxRecDepth 100000 in
set_option maxHeartbeats 1000000 in
theorem wbytes_any (h:WrAt 242 o c w p W) :
 Calls Tryz.prog 172 #[.pointer (some ⟨p,0,none⟩)] w fun r w'=>r = .returned (.tuple #[.string (if W.e=0 then str W.bs else ⟨#[]⟩), .int .i64 W.e])∧Below w.heap.size w w':=by
 have HW:=Lib.hid h
 obtain ⟨A,cap,c0,c1,f0,f1,hc1,hc2,hpl,HB,HC,HV⟩:=h.open_
 clear h
 by_cases he:W.e=0
 ·rw [if_pos he]
  rw [he] at c1 ⊢
  have hcv:=conv_own 84 9 Tryz.underlying84 Tryz.underlying5 Tryz.underlying9 HV.out
  have HCV:=Lib.hid hcv
  clear he hc2 hcv
  go_enter Tryz.func172,Tryz.ntmps172
  go_upto_region 5 with (fail)
  have hcv:=HCV.out
  go_wp2_with fail
  go_ret2
  exact ⟨rfl,Below.refl _ _⟩
 ·rw [if_neg he]
  have t1:(W.e != 0)=true:=bne_iff_ne.2 he
  clear he
  go_enter Tryz.func172,Tryz.ntmps172
  go_wp2_with fail
  go_quiet (fail)
  go_wp2_with fail
  go_ret2
  exact ⟨rfl,⟨rfl,rfl,rfl,Nat.le_refl _,fun _ _=>rfl⟩⟩
end
end Go.Proofs.YtldoeodkeieejaaGreatDoor
