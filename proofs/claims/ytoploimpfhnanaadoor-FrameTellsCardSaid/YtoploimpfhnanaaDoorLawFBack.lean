/- FrameBack: the law's walk: a frame is read as it was put; with one byte changed, or cut, it is none. -/
import Derived.Test.YtoploimpfhnanaaDoorFrameB
import Derived.Laws.StructEq
import Derived.Lib.ConvBytes
namespace Go.Proofs.YtoploimpfhnanaaDoor
open Go.RowKit

theorem equal_frame (f : Fr) (w : World) : (Op.equalIn 10000 58 f.agg f.agg).run Tryd.prog w = .ok true w := by
  have u3 := Tryd.underlying3
  have u9 := Tryd.underlying9
  have u4 := Tryd.underlying4
  have hS : Tryd.prog.underlying 58 = some (.struct (Tryd.prog.fieldsOf 58)) := by kernel_rfl
  have hp : Tryd.prog.stoodInHeld 58 = false := by kernel_rfl
  unfold Fr.agg
  rw [show (10000 : Nat) = 9999 + 1 from rfl, run_equalIn_agg w 9999 58 _ _ hS hp]
  simp only [Program.fieldsOf, Tryd.underlying58]
  go_simp
theorem neq_frame (f : Fr) (w : World) : (binOp .neq 58 (.agg #[.int .i64 f.From, .int .i64 f.To, .int .i64 f.Mine, .int .i64 f.Yours, .int .i64 f.Seq, .int .i64 f.Ack, .string f.Data, .bool f.Has]) (.agg #[.int .i64 f.From, .int .i64 f.To, .int .i64 f.Mine, .int .i64 f.Yours, .int .i64 f.Seq, .int .i64 f.Ack, .string f.Data, .bool f.Has])).run Tryd.prog w = .ok (.bool false) w := by
  rw [run_neq_struct]
  have := equal_frame f w
  unfold Fr.agg at this
  rw [this]
  rfl
theorem eql_frame (f : Fr) (w : World) : (binOp .eql 58 (.agg #[.int .i64 f.From, .int .i64 f.To, .int .i64 f.Mine, .int .i64 f.Yours, .int .i64 f.Seq, .int .i64 f.Ack, .string f.Data, .bool f.Has]) (.agg #[.int .i64 f.From, .int .i64 f.To, .int .i64 f.Mine, .int .i64 f.Yours, .int .i64 f.Seq, .int .i64 f.Ack, .string f.Data, .bool f.Has])).run Tryd.prog w = .ok (.bool true) w := by
  rw [run_eql_struct]
  have := equal_frame f w
  unfold Fr.agg at this
  rw [this]
  rfl
theorem byte_is (by_ : Int) : ∃ y : Nat, y < 256 ∧ IntKind.u8.wrap by_ = y := ⟨(by_ % 256).toNat, by omega, by rw [IntKind.wrap_u8]; omega⟩
theorem xor_u8 (a : UInt8) {y : Nat} (hy : y < 256) : bits BinOp.xor IntKind.u8 (a.toNat : Int) (y : Int) = ((a ^^^ UInt8.ofNat y).toNat : Int) := by
  have ha := a.toNat_lt
  have e4 : (BitVec.ofInt IntKind.u8.bits (a.toNat : Int) ^^^ BitVec.ofInt IntKind.u8.bits (y : Int)).toNat = a.toNat ^^^ y := by
    rw [BitVec.toNat_xor, BitVec.ofInt_natCast, BitVec.ofInt_natCast, BitVec.toNat_ofNat, BitVec.toNat_ofNat]
    have hbits : 2 ^ IntKind.u8.bits = 256 := rfl
    rw [hbits, Nat.mod_eq_of_lt ha, Nat.mod_eq_of_lt hy]
  have hl : a.toNat ^^^ y < 256 := Nat.xor_lt_two_pow (n := 8) ha hy
  have e5 : (a ^^^ UInt8.ofNat y).toNat = a.toNat ^^^ y := by
    rw [UInt8.toNat_xor, UInt8.toNat_ofNat', Nat.mod_eq_of_lt hy]
  unfold bits
  simp only [e4]
  rw [IntKind.wrap_u8, e5]
  omega
theorem xor_u8_ne (a : UInt8) {y : Nat} (hy : y < 256) (h0 : y ≠ 0) : a ^^^ UInt8.ofNat y ≠ a := by
  intro e
  have e2 := congrArg UInt8.toNat e
  rw [UInt8.toNat_xor, UInt8.toNat_ofNat', Nat.mod_eq_of_lt hy] at e2
  have e3 := congrArg (fun z => a.toNat ^^^ z) e2
  simp only [← Nat.xor_assoc, Nat.xor_self, Nat.zero_xor] at e3
  exact h0 e3
theorem bytes_unfrozen (w : World) (e : TypeId) (s : ByteArray) {k : Nat} (hk : k < s.size) : (Lib.bytesWorld w e s).frozen? ⟨w.heap.size, k, none⟩ = false := by
  have h := Lib.bytesWorld_at_new w e s
  have hs : s.size ≤ (Lib.bytesCells w e s).size := by
    have hc := Lib.bytesWorld_cell w e s k hk
    unfold Lib.bytesCells
    simp
  simp [World.frozen?, h]
  omega
theorem set_cells {W : World} {B k : Nat} {S : ByteArray} (b : UInt8) (hk : k < S.size) (h : ∀ j, j < S.size → W.cell? ⟨B, j, none⟩ = some (.int .u8 (S.data.toList.getD j 0).toNat)) :
    ∀ j, (hj : j < (S.data.toList.set k b).length) → (W.setCell ⟨B, k, none⟩ (.int .u8 b.toNat)).cell? ((⟨B, 0, none⟩ : Addr).add j) = some (.int .u8 (((S.data.toList.set k b)[j]).toNat : Int)) := by
  intro j hj
  have hadd : (⟨B, 0, none⟩ : Addr).add j = ⟨B, j, none⟩ := by unfold Addr.add; split <;> simp_all
  have hj2 : j < S.size := by rw [List.length_set] at hj; exact hj
  have hj3 : j < S.data.toList.length := hj2
  rw [hadd]
  by_cases e : j = k
  · subst e
    rw [World.cell?_setCell_same (h := h j hj2), List.getElem_set_self]
  · rw [World.cell?_setCell_other (h := (by intro h2; injection h2 with _ h3 _; exact e h3.symm : (⟨B, k, none⟩ : Addr) ≠ ⟨B, j, none⟩)), h j hj2, List.getElem_set_ne (Ne.symm e), List.getD_eq_getElem?_getD, List.getElem?_eq_getElem hj3]
    rfl
set_option maxRecDepth 100000 in
set_option maxHeartbeats 4000000 in
theorem frameBack_any (f : Fr) (at_ by_ : Int) (w : World) (hi : f.i64s) (hat : i64' at_) : Calls Tryd.prog 7 #[f.agg, .int .i64 at_, .int .i64 by_] w fun e w' => e = .returned (.bool true) ∧ Below w.heap.size w w' := by
  have HI := Lib.hid hi
  obtain ⟨ha1, ha2⟩ := hat
  have hdm := hi.2.2.2.2.2.2
  unfold maxLen at hdm
  have hb0 := (Below.refl w.heap.size w).alloc (Nat.le_refl _) (.cells #[.int .i64 f.From, .int .i64 f.To, .int .i64 f.Mine, .int .i64 f.Yours, .int .i64 f.Seq, .int .i64 f.Ack, .string f.Data, .bool f.Has] 58)
  have HB0 := Lib.hid hb0
  clear hi hb0
  have hagg : f.agg = .agg #[.int .i64 f.From, .int .i64 f.To, .int .i64 f.Mine, .int .i64 f.Yours, .int .i64 f.Seq, .int .i64 f.Ack, .string f.Data, .bool f.Has] := rfl
  have HAG := Lib.hid hagg
  rw [hagg]
  clear hagg
  by_cases h300 : 300 < f.Data.size
  · have h300I : (300 : Int) < (f.Data.size : Int) := by omega
    go_enter Tryd.func7, Tryd.ntmps7
    go_wp2_with fail
    refine (alive_any _).mono ?_
    rintro e w1 ⟨rfl, hb1⟩
    go_wp2_with fail
    go_ret
    exact ⟨rfl, HB0.out.trans (hb1.mono HB0.out.size)⟩
  · have h300I : ¬ (300 : Int) < (f.Data.size : Int) := by omega
    by_cases hw : f.wrongE = 0
    · have p1 : f.putS = str (sealL f.body) := if_pos hw
      obtain ⟨g1, g2⟩ := frame_back hw ⟨HI.out.2.2.1.2, HI.out.2.2.2.1.2, HI.out.2.2.2.2.1.2, HI.out.2.2.2.2.2.1.2⟩
      have P1 := Lib.hid p1
      have P2 := Lib.hid hw
      have G1 := Lib.hid g1
      have G2 := Lib.hid g2
      have hsz : (str (sealL f.body)).size = 43 + f.Data.size := by rw [str_size, seal_len, body_len]; omega
      have HCUT := Lib.hid (frame_cut hw)
      have HSET := Lib.hid (show ∀ k (hk : k < (str (sealL f.body)).data.toList.length) (b : UInt8), b ≠ (str (sealL f.body)).data.toList[k] → gotFE (str ((str (sealL f.body)).data.toList.set k b)) = 6 from fun k hk b hb => by
        have e : (str (sealL f.body)).data.toList = sealL f.body := str_list _
        simp only [e] at hk hb ⊢
        exact frame_set hk hb)
      clear p1 g1 g2 hw
      go_enter Tryd.func7, Tryd.ntmps7
      go_wp2_with fail
      rw [← HAG.out]
      refine (fput_any f _ HI.out).mono ?_
      rintro e w1 ⟨rfl, hb1⟩
      rw [P1.out, P2.out]
      try rw [HAG.out]
      generalize hS : str (sealL f.body) = S at G1 G2 HCUT HSET hsz ⊢
      clear hS
      have HK1 := Lib.hid ((Blk.new w 58 #[.int .i64 f.From, .int .i64 f.To, .int .i64 f.Mine, .int .i64 f.Yours, .int .i64 f.Seq, .int .i64 f.Ack, .string f.Data, .bool f.Has]).below_ hb1)
      have HB1 := Lib.hid (HB0.out.trans (hb1.mono HB0.out.size))
      have HSZ := Lib.hid (show S.size ≤ 1000000000 by omega)
      have HS9 := Lib.hid hsz
      clear hb1
      go_wp2_with fail
      refine (fget_any S w1 HSZ.out).mono ?_
      rintro e w2 ⟨rfl, hb2⟩
      rw [G1.out, G2.out, HAG.out]
      have HB2 := Lib.hid (HB1.out.trans (hb2.mono HB1.out.size))
      have HK2 := Lib.hid (HK1.out.below_ hb2)
      have HN2 := Lib.hid (Blk.new w2 58 #[.int .i64 f.From, .int .i64 f.To, .int .i64 f.Mine, .int .i64 f.Yours, .int .i64 f.Seq, .int .i64 f.Ack, .string f.Data, .bool f.Has])
      clear hb2 HK1
      have hnf := neq_frame f
      have h43 : 43 ≤ S.size := by omega
      have h43I : (43 : Int) ≤ (S.size : Int) := by omega
      have hSm : S.size ≤ 400 := by omega
      clear hsz
      obtain ⟨x0, x1, x2, x3, x4, x5, x6, x7⟩ := (HK2.out.alloc (.cells #[.int .i64 f.From, .int .i64 f.To, .int .i64 f.Mine, .int .i64 f.Yours, .int .i64 f.Seq, .int .i64 f.Ack, .string f.Data, .bool f.Has] 58)).eight
      go_upto_region 9 with (fail)
      have HB3 := Lib.hid (HB2.out.alloc HB2.out.size (.cells #[.int .i64 f.From, .int .i64 f.To, .int .i64 f.Mine, .int .i64 f.Yours, .int .i64 f.Seq, .int .i64 f.Ack, .string f.Data, .bool f.Has] 58))
      generalize w2.alloc (.cells #[.int .i64 f.From, .int .i64 f.To, .int .i64 f.Mine, .int .i64 f.Yours, .int .i64 f.Seq, .int .i64 f.Ack, .string f.Data, .bool f.Has] 58) = W3 at HB3 ⊢
      clear x0 x1 x2 x3 x4 x5 x6 x7 hnf HK2 HN2 HB2
      have hs1 : ((S.size : Int) - 1).toNat = S.size - 1 := by omega
      have HX := Lib.hid (show (S.extract 0 (S.size - 1)).size ≤ 1000000000 by rw [ByteArray.size_extract]; omega)
      go_wp2_with fail
      refine (fget_any (S.extract 0 (S.size - 1)) W3 HX.out).mono ?_
      rintro e w4 ⟨rfl, hb4⟩
      have hne4 : (gotFE (S.extract 0 (S.size - 1)) != 0) = true := bne_iff_ne.2 HCUT.out
      generalize gotFE (S.extract 0 (S.size - 1)) = E4 at hne4 ⊢
      generalize gotF (S.extract 0 (S.size - 1)) = F4
      rw [show F4.agg = .agg #[.int .i64 F4.From, .int .i64 F4.To, .int .i64 F4.Mine, .int .i64 F4.Yours, .int .i64 F4.Seq, .int .i64 F4.Ack, .string F4.Data, .bool F4.Has] from rfl]
      have HB4 := Lib.hid ((HB3.out.trans (hb4.mono HB3.out.size)).alloc (HB3.out.trans (hb4.mono HB3.out.size)).size (.cells #[.int .i64 F4.From, .int .i64 F4.To, .int .i64 F4.Mine, .int .i64 F4.Yours, .int .i64 F4.Seq, .int .i64 F4.Ack, .string F4.Data, .bool F4.Has] 58))
      clear hb4 hs1
      go_upto_region 10 with (fail)
      generalize w4.alloc (.cells #[.int .i64 F4.From, .int .i64 F4.To, .int .i64 F4.Mine, .int .i64 F4.Yours, .int .i64 F4.Seq, .int .i64 F4.Ack, .string F4.Data, .bool F4.Has] 58) = W5 at HB4 ⊢
      have HNE := Lib.hid hne4
      obtain ⟨y, hy, hyw⟩ := byte_is by_
      by_cases c0 : at_ < 0
      · go_wp2_with fail
        refine (alive_any _).mono ?_
        rintro e w6 ⟨rfl, hb6⟩
        go_wp2_with fail
        go_ret
        exact ⟨rfl, HB4.out.trans (hb6.mono HB4.out.size)⟩
      · by_cases c1 : y = 0
        · subst c1
          go_wp2_with fail
          refine (alive_any _).mono ?_
          rintro e w6 ⟨rfl, hb6⟩
          go_wp2_with fail
          go_ret
          exact ⟨rfl, HB4.out.trans (hb6.mono HB4.out.size)⟩
        · have hy0 : ((y : Int) == 0) = false := beq_eq_false_iff_ne.2 (by omega)
          have hcv := fun w => Lib.run_convert_string_bytes (P := Tryd.prog) w 9 68 5 S Tryd.underlying9 Tryd.underlying68 Tryd.underlying5
          have HC1 := Lib.hid c1
          have HY := Lib.hid hy
          clear hne4
          go_upto_region 13 with (fail)
          clear hcv
          obtain ⟨k, hk⟩ : ∃ k : Nat, at_ % (S.size : Int) = k := ⟨(at_ % (S.size : Int)).toNat, by have := Int.emod_nonneg at_ (show (S.size : Int) ≠ 0 by omega); omega⟩
          have hk1 : k < S.size := by have := Int.emod_lt_of_pos at_ (show (0 : Int) < (S.size : Int) by omega); omega
          have hk1I : (k : Int) < (S.size : Int) := by omega
          have hcell := Lib.bytesWorld_cell W5 5 S
          have hck := hcell k hk1
          have hfz := bytes_unfrozen W5 5 S hk1
          have HCL := Lib.hid hcell
          have HBW := Lib.hid (HB4.out.trans ((below_bytes W5 5 S).mono HB4.out.size))
          have hBB : w.heap.size ≤ W5.heap.size := HB4.out.size
          clear hcell
          generalize Lib.bytesWorld W5 5 S = W6 at hck hfz HCL HBW ⊢
          generalize W5.heap.size = B at hck hfz HCL hBB ⊢
          obtain ⟨a, haa⟩ : ∃ a, a = S.data.toList.getD k 0 := ⟨_, rfl⟩
          rw [← haa] at hck
          obtain ⟨z, hz⟩ : ∃ z : UInt8, z = a ^^^ UInt8.ofNat y := ⟨_, rfl⟩
          have hxo := xor_u8 a hy
          rw [← hz] at hxo
          have HZ := Lib.hid hz
          clear hz
          have HA := Lib.hid haa
          have HBB := Lib.hid hBB
          clear haa hBB
          generalize hcapg : grownCap _ _ _ _ = cap
          clear hcapg
          go_upto_region 14 with (fail)
          have hb7 : Below w.heap.size w (W6.setCell ⟨B, k, none⟩ (.int .u8 (z.toNat : Int))) := HBW.out.setCell (p := ⟨B, k, none⟩) HBB.out _
          have hsc := set_cells z hk1 HCL.out
          have h6 : gotFE (str (S.data.toList.set k z)) = 6 := HSET.out k hk1 _ (by
            have e1 : a = S.data.toList[k]'hk1 := by rw [HA.out, List.getD_eq_getElem?_getD, List.getElem?_eq_getElem (show k < S.data.toList.length from hk1)]; rfl
            rw [← e1, HZ.out]
            exact xor_u8_ne a HY.out HC1.out)
          have H6 := Lib.hid h6
          clear h6 hck hfz hxo
          generalize W6.setCell ⟨B, k, none⟩ (.int .u8 (z.toNat : Int)) = W7 at hb7 hsc ⊢
          have HB7 := Lib.hid hb7
          have hlen : (S.data.toList.set k z).length = S.size := by rw [List.length_set]; rfl
          have hcv2 := run_convert_bytes_back W7 68 9 5 ⟨B, 0, none⟩ cap (S.data.toList.set k z) Tryd.underlying68 Tryd.underlying5 Tryd.underlying9 hsc
          rw [hlen] at hcv2
          have HX2 := Lib.hid (show (str (S.data.toList.set k z)).size ≤ 1000000000 by rw [str_size, hlen]; omega)
          have hcv3 : (convert 68 9 (.slice (some ⟨B, 0, none⟩) S.size cap)).run Tryd.prog W7 = .ok (.string (str (S.data.toList.set k z))) W7 := hcv2
          clear hb7 hsc hlen hcv2
          generalize str (S.data.toList.set k z) = S2 at H6 HX2 hcv3
          go_wp2_with fail
          refine (fget_any S2 W7 HX2.out).mono ?_
          rintro e w8 ⟨rfl, hb8⟩
          rw [H6.out]
          generalize gotF S2 = F8
          rw [show F8.agg = .agg #[.int .i64 F8.From, .int .i64 F8.To, .int .i64 F8.Mine, .int .i64 F8.Yours, .int .i64 F8.Seq, .int .i64 F8.Ack, .string F8.Data, .bool F8.Has] from rfl]
          have HB8 := Lib.hid ((HB7.out.trans (hb8.mono HB7.out.size)).alloc (HB7.out.trans (hb8.mono HB7.out.size)).size (.cells #[.int .i64 F8.From, .int .i64 F8.To, .int .i64 F8.Mine, .int .i64 F8.Yours, .int .i64 F8.Seq, .int .i64 F8.Ack, .string F8.Data, .bool F8.Has] 58))
          have hne4 := HNE.out
          clear hb8 hcv3
          go_wp2_with fail
          refine (alive_any _).mono ?_
          rintro e w9 ⟨rfl, hb9⟩
          go_wp2_with fail
          go_ret
          exact ⟨rfl, HB8.out.trans (hb9.mono HB8.out.size)⟩
    · have p1 : f.putS = ⟨#[]⟩ := if_neg hw
      obtain ⟨E, hE⟩ : ∃ E, E = f.wrongE := ⟨_, rfl⟩
      rw [← hE] at hw
      have t1 : (E != 0) = true := bne_iff_ne.2 hw
      have P1 := Lib.hid p1
      have P2 := Lib.hid hE
      clear p1 hE hw
      go_enter Tryd.func7, Tryd.ntmps7
      go_wp2_with fail
      rw [← HAG.out]
      refine (fput_any f _ HI.out).mono ?_
      rintro e w1 ⟨rfl, hb1⟩
      rw [P1.out, ← P2.out]
      have HB1 := Lib.hid (HB0.out.trans (hb1.mono HB0.out.size))
      clear hb1
      go_wp2_with fail
      refine (alive_any _).mono ?_
      rintro e w2 ⟨rfl, hb2⟩
      go_wp2_with fail
      go_ret
      exact ⟨rfl, HB1.out.trans (hb2.mono HB1.out.size)⟩
end Go.Proofs.YtoploimpfhnanaaDoor
