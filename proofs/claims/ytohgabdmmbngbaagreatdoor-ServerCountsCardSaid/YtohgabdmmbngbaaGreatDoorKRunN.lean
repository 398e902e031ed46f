import Derived.Test.YtohgabdmmbngbaaGreatDoorKWin
import Derived.Test.YtohgabdmmbngbaaGreatDoorKDiskF
import Derived.Test.YtohgabdmmbngbaaGreatDoorKCutB
import Derived.Test.YtohgabdmmbngbaaGreatDoorKRecA
import Derived.Lib.SliceRun
import Derived.Test.YtohgabdmmbngbaaGreatDoorKApplyP
set_option linter.unusedVariables false
set_option linter.unusedSimpArgs false
namespace Go.Proofs.YtohgabdmmbngbaaGreatDoor
open Go.RowKit
section
variable {o:Nat→Nat} {c p:Nat} {w:World} {D:Dk}
theorem depoch_any (h:DiskAt o c w p D) (k:Nat) (hk:k≤16):Calls Tryz.prog 17 #[.pointer (some ⟨p,0,none⟩), .int .i64 (k:Int)] w fun e w'=>e = .returned (.int .u64 (D.table k))∧w=w':=by
 obtain ⟨mn,ml,wv,sv,h1⟩:=h
 have ct:=h1.table k hk
 have hkI:(k:Int)<17:=by omega
 have hkI2:¬16<(k:Int):=by omega
 clear h1
 go_enter Tryz.func17,Tryz.ntmps17
 go_wp2_with fail
 go_ret
 exact ⟨rfl,rfl⟩
theorem dword_any (h:DiskAt o c w p D) (k:Nat) (hk:k≤16):Calls Tryz.prog 19 #[.pointer (some ⟨p,0,none⟩), .int .i64 (k:Int)] w fun e w'=>e = .returned (.int .u64 (D.words k))∧w=w':=by
 obtain ⟨mn,ml,wv,sv,h1⟩:=h
 have ct:=h1.word k hk
 have hkI:(k:Int)<17:=by omega
 have hkI2:¬16<(k:Int):=by omega
 clear h1
 go_enter Tryz.func19,Tryz.ntmps19
 go_wp2_with fail
 go_ret
 exact ⟨rfl,rfl⟩
theorem info_u64 : (Tryz.prog.info? 34).map (fun i=>(i.zero,i.size,i.bytes))=some (some (.int .u64 0),1,8):=by kernel_rfl
end
set_option maxRecDepth 100000 in
set_option maxHeartbeats 8000000 in
theorem erun_none {o:Nat→Nat} {cd p:Nat} {w:World} {D:Dk} (hd:DiskAt o cd w p D) (hsec:D.sectors≤20000) (hwf:D.wf) (hf:Fut o w) (node:Int) (h1:D.headE node=0) (h2:D.headI node=false) (of_:Nat) (by_:Int) (epoch:Nat) :
 Calls Tryz.prog 112 #[.pointer (some ⟨p,0,none⟩), .agg #[.int .i64 3, .int .i64 12, .int .i64 12, .int .i64 6, .int .i64 32], .int .i64 node, .int .u64 (of_:Int), .int .i64 by_, .int .u64 (epoch:Int)] w fun r w'=>r = .returned (.tuple #[.int .i64 0, .int .i64 0])∧Below w.heap.size w w':=by
 have HB:=Lib.hid (show Below w.heap.size w (w.alloc (.cells #[.int .i64 3, .int .i64 12, .int .i64 12, .int .i64 6, .int .i64 32] 27)) from (Below.refl _ _).alloc (Nat.le_refl _) _)
 have HG:=Lib.hid (Keep.new hf 27 #[.int .i64 3, .int .i64 12, .int .i64 12, .int .i64 6, .int .i64 32])
 have HD:=Lib.hid (hd.alloc (.cells #[.int .i64 3, .int .i64 12, .int .i64 12, .int .i64 6, .int .i64 32] 27))
 have H1:=Lib.hid h1
 have H2:=Lib.hid h2
 clear hd hf h1 h2
 go_enter Tryz.func112,Tryz.ntmps112
 go_wp2_with fail
 generalize w.alloc (.cells #[.int .i64 3, .int .i64 12, .int .i64 12, .int .i64 6, .int .i64 32] 27)=W at HB HG HD ⊢
 refine (ehead_any HD.out hsec hwf node).mono ?_
 rintro r w1 ⟨rfl,hb1⟩
 have HB1:=Lib.hid (HB.out.trans (hb1.mono HB.out.size))
 clear hb1
 obtain ⟨X,hX⟩:∃X,D.headH node=X:=⟨_,rfl⟩
 obtain ⟨xe,xl,xa⟩:=X
 rw [hX,H1.out,H2.out]
 unfold Hd.agg
 simp only
 clear hX
 have HB2:=Lib.hid (HB1.out.alloc HB1.out.size (.cells #[.int .u64 xe, .int .u64 xl, .int .i64 xa] 194))
 have HX2:=Lib.hid (Blk.new w1 194 #[.int .u64 xe, .int .u64 xl, .int .i64 xa])
 go_upto_region 2 with (fail)
 generalize w1.alloc (.cells #[.int .u64 xe, .int .u64 xl, .int .i64 xa] 194)=W2 at HB2 HX2 ⊢
 generalize w1.heap.size=gX at HX2 ⊢
 obtain ⟨x0,x1,x2⟩:=HX2.out.three
 go_wp2_with fail
 go_ret2
 exact ⟨rfl,HB2.out⟩
end Go.Proofs.YtohgabdmmbngbaaGreatDoor
