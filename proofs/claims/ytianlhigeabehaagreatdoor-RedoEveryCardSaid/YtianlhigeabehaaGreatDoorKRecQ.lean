/- The layout loaded; blocks loaded and stored. -/
import Derived.Test.YtianlhigeabehaaGreatDoorKSupD
import Derived.Test.YtianlhigeabehaaGreatDoorKERing
namespace Go.Proofs.YtianlhigeabehaaGreatDoor
open Go.RowKit

theorem readL_one (D : Dk) (at_ : Int) : D.readL at_ 1 = (D.sec at_).data.toList := by
  rw [readL_succ]
  show [] ++ (D.sec (at_ + ((0 : Nat) : Int))).data.toList = _
  rw [List.nil_append]
  congr 3
  omega
set_option maxRecDepth 100000 in
set_option maxHeartbeats 2000000 in
theorem uload_any {o : Nat → Nat} {c p k : Nat} {w : World} {D : Dk} (h : DiskAt o c w p D) (hk : Calm D k) (hs : D.sec 0 = str superL) :
    Calls Tryz.prog 24 #[.pointer (some ⟨p, 0, none⟩)] w fun e w' => e = .returned (.tuple #[.agg #[.int .i64 2, .int .i64 10, .int .i64 8, .int .i64 4, .int .i64 32], .int .i64 0]) ∧ Below w.heap.size w w' := by
  have HSEC := Lib.hid hk.sectors
  have HKC := Lib.hid hk
  have HSU := Lib.hid (show str (D.readL 0 1) = str superL by rw [readL_one, hs, str_of])
  have H := Lib.hid (h.alloc (.cells #[.int .i64 0, .int .i64 0, .int .i64 0, .int .i64 0, .int .i64 0] 31))
  have HB := Lib.hid ((Below.refl w.heap.size w).alloc (Nat.le_refl _) (.cells #[.int .i64 0, .int .i64 0, .int .i64 0, .int .i64 0, .int .i64 0] 31))
  have HZ := Lib.hid (Blk.new w 31 #[.int .i64 0, .int .i64 0, .int .i64 0, .int .i64 0, .int .i64 0])
  obtain ⟨g, hg⟩ : ∃ g, g = w.heap.size := ⟨_, rfl⟩
  have HG := Lib.hid (show w.heap.size ≤ g by omega)
  clear h hk hs
  go_enter Tryz.func24, Tryz.ntmps24
  go_wp2_with fail
  rw [← hg] at HZ ⊢
  generalize w.alloc (.cells #[.int .i64 0, .int .i64 0, .int .i64 0, .int .i64 0, .int .i64 0] 31) = W at H HB HZ ⊢
  clear hg
  refine (dread_k (n := 1) H.out HKC.out (by omega) (by omega) (by omega)).mono ?_
  rintro r w1 ⟨rfl, hb1⟩
  rw [HSU.out]
  have H1 := Lib.hid (H.out.below_ hb1)
  have HB1 := Lib.hid (HB.out.trans (hb1.mono HB.out.size))
  have HZ1 := Lib.hid (HZ.out.below_ hb1)
  clear hb1
  go_wp2_with fail
  refine (uget_any w1).mono ?_
  rintro r w2 ⟨rfl, hb2⟩
  have hx := Blk.new w2 29 #[.int .i64 2, .int .i64 10, .int .i64 8, .int .i64 4, .int .i64 32]
  have HX2 := Lib.hid hx
  have HB2a := HB1.out.trans (hb2.mono HB1.out.size)
  have HB2 := Lib.hid (HB2a.alloc HB2a.size (.cells #[.int .i64 2, .int .i64 10, .int .i64 8, .int .i64 4, .int .i64 32] 29))
  have HZ2 := Lib.hid ((HZ1.out.below_ hb2).alloc (.cells #[.int .i64 2, .int .i64 10, .int .i64 8, .int .i64 4, .int .i64 32] 29))
  have H2 := Lib.hid ((H1.out.below_ hb2).alloc (.cells #[.int .i64 2, .int .i64 10, .int .i64 8, .int .i64 4, .int .i64 32] 29))
  clear hb2 hx HB2a
  go_upto_region 5 with (fail)
  generalize w2.alloc (.cells #[.int .i64 2, .int .i64 10, .int .i64 8, .int .i64 4, .int .i64 32] 29) = W2 at HX2 HB2 HZ2 H2 ⊢
  generalize w2.heap.size = gX at HX2 ⊢
  obtain ⟨x0, x1, x2, x3, x4⟩ := HX2.out.five
  go_region_held3 (fun w' => w'.cell? ⟨gX, 0, none⟩ = some (.int .i64 2) ∧ w'.cell? ⟨gX, 1, none⟩ = some (.int .i64 10) ∧ w'.cell? ⟨gX, 2, none⟩ = some (.int .i64 8) ∧ w'.cell? ⟨gX, 3, none⟩ = some (.int .i64 4) ∧ w'.cell? ⟨gX, 4, none⟩ = some (.int .i64 32))
    (first | exact ⟨x0, x1, x2, x3, x4⟩ | exact hk2'.five | go_keep)
    (first | (go_at_call 60; ((with_reducible refine (dsectors_37 H2.out.drew HSEC.out).mono ?_); rintro r w3 ⟨rfl, rfl⟩)) | (go_at_call 61; ((with_reducible refine (usize_any _).mono ?_); rintro r w4 ⟨rfl, hb4⟩; have hk2' := HX2.out.drew.below_ hb4)))
  have HX4 := Lib.hid hk2'
  have HB4 := Lib.hid ((below_drew' HB2.out).trans (hb4.mono HB2.out.size))
  have HZ4 := Lib.hid (HZ2.out.drew.below_ hb4)
  clear hb4 hk2' x0 x1 x2 x3 x4
  obtain ⟨x0, x1, x2, x3, x4⟩ := HX4.out.five
  obtain ⟨y0, y1, y2, y3, y4⟩ := HZ4.out.five
  have f0 := HZ4.out.frozen 0
  have f1 := HZ4.out.frozen 1
  have f2 := HZ4.out.frozen 2
  have f3 := HZ4.out.frozen 3
  have f4 := HZ4.out.frozen 4
  go_wp2_with fail
  have hz7 := HZ4.out.put5 (.int .i64 2) (.int .i64 10) (.int .i64 8) (.int .i64 4) (.int .i64 32)
  have hb7 := below_put5 HB4.out HG.out (.int .i64 2) (.int .i64 10) (.int .i64 8) (.int .i64 4) (.int .i64 32)
  clear x0 x1 x2 x3 x4 y0 y1 y2 y3 y4 f0 f1 f2 f3 f4
  generalize ((((w4.setCell ⟨g, 0, none⟩ (.int .i64 2)).setCell ⟨g, 1, none⟩ (.int .i64 10)).setCell ⟨g, 2, none⟩ (.int .i64 8)).setCell ⟨g, 3, none⟩ (.int .i64 4)).setCell ⟨g, 4, none⟩ (.int .i64 32) = W7 at hz7 hb7 ⊢
  obtain ⟨q0, q1, q2, q3, q4⟩ := hz7.five
  exact bodyPost_ret (v := .tuple #[.agg #[.int .i64 2, .int .i64 10, .int .i64 8, .int .i64 4, .int .i64 32], .int .i64 0]) (by simp [results, Tryz.results24, go_sem, q0, q1, q2, q3, q4]) rfl ⟨rfl, hb7⟩
theorem readS_size {D : Dk} (h : D.wf) (at_ : Int) (n : Nat) : (D.readS at_ n).size ≤ n * 64 := by
  unfold Dk.readS
  split
  · rw [str_size, Int.toNat_natCast, Dk.readL_len h]
    omega
  · exact Nat.zero_le _
set_option maxRecDepth 100000 in
set_option maxHeartbeats 4000000 in
theorem kload_any {o : Nat → Nat} {c p : Nat} {w : World} {D : Dk} (h : DiskAt o c w p D) (hsec : D.sectors ≤ 20000) (hwf : D.wf) (b : Int) :
    Calls Tryz.prog 17 #[.pointer (some ⟨p, 0, none⟩), .agg #[.int .i64 2, .int .i64 10, .int .i64 8, .int .i64 4, .int .i64 32], .int .i64 b] w fun e w' => e = .returned (.tuple #[(D.load b).1.agg, .int .i64 (D.load b).2]) ∧ Below w.heap.size w w' := by
  have hB0 := (Below.refl w.heap.size w).alloc (Nat.le_refl _) (.cells #[.int .i64 2, .int .i64 10, .int .i64 8, .int .i64 4, .int .i64 32] 31)
  have HL := Lib.hid ((Blk.new w 31 #[.int .i64 2, .int .i64 10, .int .i64 8, .int .i64 4, .int .i64 32]).alloc (.cells #[.int .i64 0, .int .u64 0, .string ⟨#[]⟩] 40))
  have HZ := Lib.hid (Blk.new (w.alloc (.cells #[.int .i64 2, .int .i64 10, .int .i64 8, .int .i64 4, .int .i64 32] 31)) 40 #[.int .i64 0, .int .u64 0, .string ⟨#[]⟩])
  have HB := Lib.hid (hB0.alloc hB0.size (.cells #[.int .i64 0, .int .u64 0, .string ⟨#[]⟩] 40))
  have HD := Lib.hid ((h.alloc (.cells #[.int .i64 2, .int .i64 10, .int .i64 8, .int .i64 4, .int .i64 32] 31)).alloc (.cells #[.int .i64 0, .int .u64 0, .string ⟨#[]⟩] 40))
  have HSB := Lib.hid (show (D.readS (blockAt b).1 2).size ≤ 1000000000 by have := readS_size hwf (blockAt b).1 2; exact Nat.le_trans this (by omega))
  have HW := Lib.hid hwf
  have hz1 : (w.alloc (.cells #[.int .i64 2, .int .i64 10, .int .i64 8, .int .i64 4, .int .i64 32] 31)).heap.size = w.heap.size + 1 := by simp
  rw [hz1] at HZ
  obtain ⟨g, hg⟩ : ∃ g, g = w.heap.size + 1 := ⟨_, rfl⟩
  have HG := Lib.hid (show w.heap.size ≤ g by omega)
  have HLD := Lib.hid (show D.load b = if D.loadE1 b ≠ 0 then (Im.zero, D.loadE1 b) else getB b (D.readS (blockAt b).1 2) from rfl)
  have HLE := Lib.hid (show D.loadE1 b = if (blockAt b).2 ≠ 0 then (blockAt b).2 else D.readE (blockAt b).1 2 from rfl)
  clear h hwf hB0 hz1
  have fin : ∀ (W : World) (x : Im) (e : Int), Blk W g 40 #[.int .i64 x.block, .int .u64 x.ver, .string x.data] → Below w.heap.size w W → D.load b = (x, e) →
      Blk W g 40 #[.int .i64 x.block, .int .u64 x.ver, .string x.data] ∧ Below w.heap.size w W ∧ Ending.returned (.tuple #[.agg #[.int .i64 x.block, .int .u64 x.ver, .string x.data], .int .i64 e]) = .returned (.tuple #[(D.load b).1.agg, .int .i64 (D.load b).2]) := fun W x e h1 h2 h3 => ⟨h1, h2, by rw [h3]; rfl⟩
  have FIN := Lib.hid fin
  clear fin
  go_enter Tryz.func17, Tryz.ntmps17
  go_wp2_with fail
  rw [← hg] at HZ ⊢
  generalize (w.alloc (.cells #[.int .i64 2, .int .i64 10, .int .i64 8, .int .i64 4, .int .i64 32] 31)).alloc (.cells #[.int .i64 0, .int .u64 0, .string ⟨#[]⟩] 40) = W at HL HZ HB HD ⊢
  clear hg
  refine (blockat_any b W).mono ?_
  rintro r w1 ⟨rfl, hb1⟩
  have HD1 := Lib.hid (HD.out.below_ hb1)
  have HB1 := Lib.hid (HB.out.trans (hb1.mono HB.out.size))
  have HZ1 := Lib.hid (HZ.out.below_ hb1)
  clear hb1
  obtain ⟨A, hA⟩ : ∃ A, blockAt b = A := ⟨_, rfl⟩
  rw [hA] at HSB HLD HLE ⊢
  obtain ⟨a, E⟩ := A
  simp only at HSB HLD HLE ⊢
  clear hA
  by_cases h0 : E = 0
  · subst h0
    go_wp2_with fail
    refine (dread_any HD1.out a 2 hsec HW.out).mono ?_
    rintro r w2 ⟨rfl, hb2⟩
    have HB2 := Lib.hid (HB1.out.trans (hb2.mono HB1.out.size))
    have HZ2 := Lib.hid (HZ1.out.below_ hb2)
    clear hb2
    obtain ⟨F, hF⟩ : ∃ F, D.readE a 2 = F := ⟨_, rfl⟩
    rw [hF] at HLE ⊢
    generalize D.readS a 2 = S at HSB HLD ⊢
    clear hF
    by_cases h1 : F = 0
    · subst h1
      have HGB := Lib.hid (show D.load b = getB b S by rw [HLD.out, HLE.out]; simp)
      go_wp2_with fail
      refine (kget_any b S w2 HSB.out).mono ?_
      rintro r w3 ⟨rfl, hb3⟩
      have HB3 := Lib.hid (HB2.out.trans (hb3.mono HB2.out.size))
      have HZ3 := Lib.hid (HZ2.out.below_ hb3)
      clear hb3
      rw [← HGB.out]
      obtain ⟨X, hX⟩ : ∃ X, D.load b = X := ⟨_, rfl⟩
      obtain ⟨⟨n1, v1, d1⟩, E1⟩ := X
      have HX := Lib.hid hX
      rw [hX]
      clear hX
      unfold Im.agg
      have y0 := HZ3.out.cell 0
      have y1 := HZ3.out.cell 1
      have y2 := HZ3.out.cell 2
      simp at y0 y1 y2
      have f0 := HZ3.out.frozen 0
      have f1 := HZ3.out.frozen 1
      have f2 := HZ3.out.frozen 2
      go_wp2_with fail
      obtain ⟨hz3, hb3, he⟩ := FIN.out _ ⟨n1, v1, d1⟩ E1 (HZ3.out.put3 (.int .i64 n1) (.int .u64 v1) (.string d1)) (below_put3 HB3.out HG.out _ _ _) HX.out
      rw [← he]
      clear y0 y1 y2 f0 f1 f2
      generalize ((w3.setCell ⟨g, 0, none⟩ (.int .i64 n1)).setCell ⟨g, 1, none⟩ (.int .u64 v1)).setCell ⟨g, 2, none⟩ (.string d1) = WE at hz3 hb3 ⊢
      obtain ⟨q0, q1, q2⟩ := hz3.three
      exact bodyPost_ret (v := .tuple #[.agg #[.int .i64 n1, .int .u64 v1, .string d1], .int .i64 E1]) (by simp [results, Tryz.results17, go_sem, q0, q1, q2]) rfl ⟨rfl, hb3⟩
    · have t1 : (F != 0) = true := bne_iff_ne.2 h1
      have HGB := Lib.hid (show D.load b = (Im.zero, F) by rw [HLD.out, HLE.out]; simp [h1])
      have y0 := HZ2.out.cell 0
      have y1 := HZ2.out.cell 1
      have y2 := HZ2.out.cell 2
      simp at y0 y1 y2
      have f0 := HZ2.out.frozen 0
      have f1 := HZ2.out.frozen 1
      have f2 := HZ2.out.frozen 2
      clear h1
      go_wp2_with fail
      obtain ⟨hz3, hb3, he⟩ := FIN.out _ Im.zero F (HZ2.out.put3 (.int .i64 0) (.int .u64 0) (.string ⟨#[]⟩)) (below_put3 HB2.out HG.out _ _ _) HGB.out
      rw [← he]
      clear y0 y1 y2 f0 f1 f2
      generalize ((w2.setCell ⟨g, 0, none⟩ (.int .i64 0)).setCell ⟨g, 1, none⟩ (.int .u64 0)).setCell ⟨g, 2, none⟩ (.string ⟨#[]⟩) = WE at hz3 hb3 ⊢
      obtain ⟨q0, q1, q2⟩ := hz3.three
      exact bodyPost_ret (v := .tuple #[.agg #[.int .i64 0, .int .u64 0, .string ⟨#[]⟩], .int .i64 F]) (by simp [results, Tryz.results17, go_sem, q0, q1, q2, Im.zero]) rfl ⟨rfl, hb3⟩
  · have t1 : (E != 0) = true := bne_iff_ne.2 h0
    have HGB := Lib.hid (show D.load b = (Im.zero, E) by rw [HLD.out, HLE.out]; simp [h0])
    have y0 := HZ1.out.cell 0
    have y1 := HZ1.out.cell 1
    have y2 := HZ1.out.cell 2
    simp at y0 y1 y2
    have f0 := HZ1.out.frozen 0
    have f1 := HZ1.out.frozen 1
    have f2 := HZ1.out.frozen 2
    clear h0
    go_wp2_with fail
    obtain ⟨hz3, hb3, he⟩ := FIN.out _ Im.zero E (HZ1.out.put3 (.int .i64 0) (.int .u64 0) (.string ⟨#[]⟩)) (below_put3 HB1.out HG.out _ _ _) HGB.out
    rw [← he]
    clear y0 y1 y2 f0 f1 f2
    generalize ((w1.setCell ⟨g, 0, none⟩ (.int .i64 0)).setCell ⟨g, 1, none⟩ (.int .u64 0)).setCell ⟨g, 2, none⟩ (.string ⟨#[]⟩) = WE at hz3 hb3 ⊢
    obtain ⟨q0, q1, q2⟩ := hz3.three
    exact bodyPost_ret (v := .tuple #[.agg #[.int .i64 0, .int .u64 0, .string ⟨#[]⟩], .int .i64 E]) (by simp [results, Tryz.results17, go_sem, q0, q1, q2, Im.zero]) rfl ⟨rfl, hb3⟩
theorem kput_bad (i : Im) (w : World) (h : ¬ i.right) (hd : i.data.size ≤ maxLen) : Calls Tryz.prog 133 #[.agg #[.int .i64 i.block, .int .u64 i.ver, .string i.data]] w fun e w' => e = .returned (.tuple #[.string ⟨#[]⟩, .int .i64 1]) ∧ Below w.heap.size w w' := by
  have HDT := Lib.hid (decide_eq_false h)
  have HML := Lib.hid hd
  have HB0 := Lib.hid ((Below.refl w.heap.size w).alloc (Nat.le_refl _) (.cells #[.int .i64 i.block, .int .u64 i.ver, .string i.data] 40))
  clear h hd
  obtain ⟨n, v, d⟩ := i
  simp only at HDT HML HB0 ⊢
  go_enter Tryz.func133, Tryz.ntmps133
  go_wp2_with fail
  generalize w.alloc (.cells #[.int .i64 n, .int .u64 v, .string d] 40) = W at HB0 ⊢
  refine (right_any ⟨n, v, d⟩ W HML.out).mono ?_
  rintro e w1 ⟨rfl, hb1⟩
  rw [HDT.out]
  have HB1 := Lib.hid (HB0.out.trans (hb1.mono HB0.out.size))
  clear hb1
  go_wp2_with fail
  go_ret2
  exact ⟨rfl, HB1.out⟩
set_option maxRecDepth 100000 in
set_option maxHeartbeats 4000000 in
theorem kstore_any {o : Nat → Nat} {c p : Nat} {w : World} {D : Dk} (h : DiskAt o c w p D) (node : Int) (e : Nat) (i : Im) (hl : D.waits.length ≤ 900000) (hsec : D.sectors ≤ 20000) (hseq : D.seq ≤ 1000000000) (hd : i.data.size ≤ maxLen) (hv : i.ver < 18446744073709551616) (hc : 1 ≤ c) (hf : Fut o w) :
    Calls Tryz.prog 101 #[.pointer (some ⟨p, 0, none⟩), .agg #[.int .i64 2, .int .i64 10, .int .i64 8, .int .i64 4, .int .i64 32], .int .i64 node, .int .u64 (e : Int), .agg #[.int .i64 i.block, .int .u64 i.ver, .string i.data]] w fun r w' => r = .returned (.int .i64 (D.store node e i).1) ∧ ∃ o', DiskAt o' c w' p (D.store node e i).2 ∧ Step o (six c) w o' w' := by
  obtain ⟨n, v, d⟩ := i
  simp only at hd hv ⊢
  have H := Lib.hid ((h.alloc (.cells #[.int .i64 2, .int .i64 10, .int .i64 8, .int .i64 4, .int .i64 32] 31)).alloc (.cells #[.int .i64 n, .int .u64 v, .string d] 40))
  have HS := Lib.hid (((Step.refl o (six c) w).alloc (.cells #[.int .i64 2, .int .i64 10, .int .i64 8, .int .i64 4, .int .i64 32] 31)).alloc (.cells #[.int .i64 n, .int .u64 v, .string d] 40))
  have HK := Lib.hid (Keep.new (hf.alloc (.cells #[.int .i64 2, .int .i64 10, .int .i64 8, .int .i64 4, .int .i64 32] 31)) 40 #[.int .i64 n, .int .u64 v, .string d])
  rw [show (w.alloc (.cells #[.int .i64 2, .int .i64 10, .int .i64 8, .int .i64 4, .int .i64 32] 31)).heap.size = w.heap.size + 1 by simp] at HK
  have HST := Lib.hid (show D.store node e ⟨n, v, d⟩ = if (blockAt n).2 ≠ 0 then ((blockAt n).2, D) else if ¬ Im.right ⟨n, v, d⟩ then (1, D) else D.write node e (blockAt n).1 (str (blkL ⟨n, v, d⟩)) from rfl)
  have HV := Lib.hid hv
  have HML := Lib.hid hd
  have HNB := Lib.hid (show (blockAt n).2 = 0 → 0 ≤ n ∧ n ≤ 9 by unfold blockAt; split <;> intro h0 <;> simp at h0; omega)
  clear h hf hv hd
  go_enter Tryz.func101, Tryz.ntmps101
  go_wp2_with fail
  generalize (w.alloc (.cells #[.int .i64 2, .int .i64 10, .int .i64 8, .int .i64 4, .int .i64 32] 31)).alloc (.cells #[.int .i64 n, .int .u64 v, .string d] 40) = W at H HS HK ⊢
  generalize w.heap.size + 1 = g at HK ⊢
  refine (blockat_any n W).mono ?_
  rintro r w1 ⟨rfl, hb1⟩
  have H1 := Lib.hid (H.out.below_ hb1)
  have HS1 := Lib.hid (HS.out.trans (Step.of_below o (six c) hb1))
  have HK1 := Lib.hid (HK.out.below_ hb1)
  clear hb1
  obtain ⟨A, hA⟩ : ∃ A, blockAt n = A := ⟨_, rfl⟩
  rw [hA] at HST HNB ⊢
  obtain ⟨a, E⟩ := A
  simp only at HST HNB ⊢
  clear hA
  obtain ⟨x0, x1, x2⟩ := HK1.out.1.three
  by_cases h0 : E = 0
  · subst h0
    obtain ⟨m, hm⟩ : ∃ m : Nat, n = m := ⟨n.toNat, by have := HNB.out rfl; omega⟩
    subst hm
    have hm9 : m < 4096 := by have := HNB.out rfl; omega
    have HM := Lib.hid hm9
    clear hm9
    by_cases hr : Im.right ⟨(m : Int), v, d⟩
    · have HGS := Lib.hid (show D.store node e ⟨(m : Int), v, d⟩ = D.write node e a (str (blkL ⟨m, v, d⟩)) by rw [HST.out]; simp [hr])
      have HDS := Lib.hid hr.2.2
      have HSZ := Lib.hid (show (str (blkL ⟨(m : Int), v, d⟩)).size ≤ 1000000000 by rw [str_size, blkL_len hr]; omega)
      clear hr
      go_wp2_with fail
      refine (kput_ok m v d w1 HM.out HV.out HDS.out).mono ?_
      rintro r w2 ⟨rfl, hb2⟩
      have H2 := Lib.hid (H1.out.below_ hb2)
      have HS2 := Lib.hid (HS1.out.trans (Step.of_below o (six c) hb2))
      clear hb2 x0 x1 x2
      go_wp2_with fail
      refine (dwrite_calm H2.out node e a (str (blkL ⟨m, v, d⟩)) hl hsec hseq HSZ.out hc).mono ?_
      rintro r w3 ⟨rfl, o3, hd3, hs3⟩
      rw [← HGS.out] at hd3 ⊢
      have HD3 := Lib.hid hd3
      have HS3 := Lib.hid (HS2.out.trans hs3)
      clear hd3 hs3
      go_wp2_with fail
      go_ret
      exact ⟨rfl, o3, HD3.out, HS3.out⟩
    · have HGS := Lib.hid (show D.store node e ⟨(m : Int), v, d⟩ = (1, D) by rw [HST.out]; simp [hr])
      have HR := Lib.hid hr
      clear hr
      go_wp2_with fail
      refine (kput_bad ⟨m, v, d⟩ w1 HR.out HML.out).mono ?_
      rintro r w2 ⟨rfl, hb2⟩
      have H2 := Lib.hid (H1.out.below_ hb2)
      have HS2 := Lib.hid (HS1.out.trans (Step.of_below o (six c) hb2))
      clear hb2 x0 x1 x2
      go_wp2_with fail
      go_ret
      rw [HGS.out]
      exact ⟨rfl, o, H2.out, HS2.out⟩
  · have t1 : (E != 0) = true := bne_iff_ne.2 h0
    have HGS := Lib.hid (show D.store node e ⟨n, v, d⟩ = (E, D) by rw [HST.out]; simp [h0])
    clear h0
    go_wp2_with fail
    go_ret
    rw [HGS.out]
    exact ⟨rfl, o, H1.out, HS1.out⟩
end Go.Proofs.YtianlhigeabehaaGreatDoor

/- Records of a log, plain: a record is read as it was put; bytes 0 are none. -/
namespace Go.Proofs.YtianlhigeabehaaGreatDoor
open Go.RowKit

theorem zer_zero : zer 0 = [] := rfl
def chunk (B : List UInt8) (k : Nat) : List UInt8 := (B.take ((k + 1) * 42)).drop (k * 42)
theorem chunk_len (B : List UInt8) (k : Nat) : (chunk B k).length = min ((k + 1) * 42) B.length - k * 42 := by
  unfold chunk
  rw [List.length_drop, List.length_take]
theorem chunks (B : List UInt8) (n : Nat) : (List.range n).flatMap (fun k => chunk B k ++ zer (42 - (chunk B k).length)) = B.take (n * 42) ++ zer (n * 42 - B.length) := by
  induction n with
  | zero => simp [zer]
  | succ n ih =>
    rw [List.range_succ, List.flatMap_append, ih, List.flatMap_singleton, chunk_len]
    by_cases h : B.length ≤ n * 42
    · have e1 : chunk B n = [] := List.eq_nil_of_length_eq_zero (by rw [chunk_len]; omega)
      rw [e1, List.nil_append, List.take_of_length_le h, List.take_of_length_le (by omega), List.append_assoc, zer_app]
      congr 2
      omega
    · rw [show n * 42 - B.length = 0 by omega, zer_zero, List.append_nil, ← List.append_assoc]
      have e2 : B.take (n * 42) ++ chunk B n = B.take ((n + 1) * 42) := by
        unfold chunk
        have := List.take_append_drop (n * 42) (B.take ((n + 1) * 42))
        rwa [List.take_take, show min (n * 42) ((n + 1) * 42) = n * 42 by omega] at this
      rw [e2]
      congr 2
      omega
section
variable {r : Rc} {rest : List UInt8}
theorem recT_eq (r : Rc) (k : Nat) : recT r k = labL r k ++ chunk (bodyL r.images) k := rfl
theorem recS_read (r : Rc) (k : Nat) : readE (recS r k) = 0 ∧ readL (recS r k) = labL r k ++ (chunk (bodyL r.images) k ++ zer (42 - (chunk (bodyL r.images) k).length)) := by
  have hr := read_stamp (l := recT r k) (n := 64) (by have := recT_len r k; omega) (by omega)
  refine ⟨hr.1, ?_⟩
  unfold recS
  rw [hr.2]
  unfold padL
  rw [recT_eq, List.append_assoc, List.length_append, labL_len]
  congr 3
  omega
theorem recs_at (r : Rc) (n : Nat) : ∀ k, k < n → (((List.range n).flatMap (recS r)).take ((k + 1) * 64)).drop (k * 64) = recS r k := by
  induction n with
  | zero => intro k hk; omega
  | succ n ih =>
    intro k hk
    have hl := recs_len r n
    rw [List.range_succ, List.flatMap_append, List.flatMap_singleton]
    by_cases h : k < n
    · rw [List.take_append_of_le_length (by omega)]
      exact ih k h
    · obtain rfl : k = n := by omega
      rw [List.take_of_length_le (by rw [List.length_append, hl, recS_len]; omega), List.drop_append_of_le_length (by omega), List.drop_of_length_le (by omega), List.nil_append]
theorem place_rec (k : Nat) (hk : k < secsOf r.images.length) : placeL (str (recL r ++ rest)) k = recS r k := by
  unfold placeL
  rw [extract_str, str_list, List.take_append_of_le_length (by rw [recL_len]; exact Nat.mul_le_mul_right _ hk)]
  exact recs_at r _ k hk
theorem secs_pos {n : Nat} (h1 : 1 ≤ n) (h2 : n ≤ 60) : secsOf n = (108 * n + 41) / 42 := by
  unfold secsOf
  rw [if_neg (by omega), Int.toNat_natCast]
structure Rc.Good (r : Rc) : Prop where
  ok : r.wrongE = 0
  epoch : r.epoch < 18446744073709551616
  lsn : r.lsn < 18446744073709551616
  vers : ∀ i ∈ r.images, i.ver < 18446744073709551616
theorem Rc.Good.cnt (h : r.Good) : 1 ≤ r.images.length ∧ r.images.length ≤ 60 := by
  obtain ⟨_, _, h1, _, _, h2⟩ := wrong_zero h.ok
  exact ⟨List.length_pos_iff.2 h1, h2⟩
theorem first_rec (h : r.Good) : firstX (str (recL r ++ rest)) = ⟨r.epoch, r.lsn, []⟩ ∧ firstP (str (recL r ++ rest)) = 0 ∧ firstN (str (recL r ++ rest)) = r.images.length := by
  obtain ⟨c1, c2⟩ := h.cnt
  have hs := secs_pos c1 c2
  have e0 : ((str (recL r ++ rest)).extract 0 64).data.toList = recS r 0 := by
    have := place_rec (rest := rest) (r := r) 0 (by rw [hs]; omega)
    unfold placeL at this
    simpa using this
  have e1 : firstR (str (recL r ++ rest)) = ⟨str (le r.epoch 8 ++ (le r.lsn 8 ++ (le 0 1 ++ (le r.images.length 1 ++ (chunk (bodyL r.images) 0 ++ zer (42 - (chunk (bodyL r.images) 0).length)))))), 0⟩ := by
    unfold firstR
    rw [e0, (recS_read r 0).2]
    unfold labL
    simp only [List.append_assoc]
  have n1 := num8 (v := r.epoch) (by exact h.epoch) (le r.lsn 8 ++ (le 0 1 ++ (le r.images.length 1 ++ (chunk (bodyL r.images) 0 ++ zer (42 - (chunk (bodyL r.images) 0).length)))))
  have n2 := num8 (v := r.lsn) (by exact h.lsn) (le 0 1 ++ (le r.images.length 1 ++ (chunk (bodyL r.images) 0 ++ zer (42 - (chunk (bodyL r.images) 0).length))))
  have n3 := num1 (v := 0) (by omega) (le r.images.length 1 ++ (chunk (bodyL r.images) 0 ++ zer (42 - (chunk (bodyL r.images) 0).length)))
  have n4 := num1 (v := r.images.length) (by omega) (chunk (bodyL r.images) 0 ++ zer (42 - (chunk (bodyL r.images) 0).length))
  unfold firstX firstP firstN
  rw [e1, n1.1, n1.2, n2.1, n2.2, n3.1, n3.2, n4.1]
  exact ⟨rfl, rfl, rfl⟩
theorem places_ok (n : Nat) (hn : n ≤ secsOf r.images.length) : placesE (str (recL r ++ rest)) ⟨r.epoch, r.lsn, []⟩ r.images.length n = 0 ∧ placesL (str (recL r ++ rest)) n = (List.range n).flatMap (fun k => chunk (bodyL r.images) k ++ zer (42 - (chunk (bodyL r.images) k).length)) := by
  induction n with
  | zero => exact ⟨rfl, rfl⟩
  | succ n ih =>
    obtain ⟨h1, h2⟩ := ih (by omega)
    have hp := place_rec (rest := rest) (r := r) n (by omega)
    have hr := recS_read r n
    constructor
    · unfold placesE
      rw [if_neg (by rw [h1]; simp), if_neg (by rw [hp, hr.1]; simp), hp, hr.2, if_pos]
      rw [List.take_append_of_le_length (by rw [labL_len]; omega), List.take_of_length_le (by rw [labL_len]; omega)]
      rfl
    · unfold placesL at h2 ⊢
      rw [List.range_succ, List.flatMap_append, List.flatMap_append, h2, List.flatMap_singleton, List.flatMap_singleton, hp, hr.2, List.drop_append_of_le_length (by rw [labL_len]; omega), List.drop_of_length_le (by rw [labL_len]; omega), List.nil_append]
theorem imG_L {i : Im} (h : i.right) (hv : i.ver < 18446744073709551616) : imG (imL i) = i := by
  have n1 := num4 (v := i.block.toNat) (by have := h.2.1; have := h.1; omega) (le i.ver 8 ++ i.data.data.toList)
  have n2 := num8 (v := i.ver) (by exact hv) i.data.data.toList
  have e : (imL i).drop 12 = i.data.data.toList := by
    unfold imL
    rw [← List.append_assoc, List.drop_append_of_le_length (by simp [le_len]), List.drop_of_length_le (by simp [le_len]), List.nil_append]
  unfold imG imR
  rw [e]
  unfold imL
  rw [n1.1, n1.2, n2.1, str_of]
  have : ((i.block.toNat : Nat) : Int) = i.block := by have := h.1; omega
  rw [this]
theorem ims_ok (Z : List UInt8) : ∀ l : List Im, (∀ i ∈ l, i.right) → (∀ i ∈ l, i.ver < 18446744073709551616) → imsG (bodyL l ++ Z) l.length = l
  | [], _, _ => rfl
  | x :: l, h1, h2 => by
    have hx := imL_len (h1 x (List.mem_cons_self ..))
    have ih := ims_ok Z l (fun i hi => h1 i (List.mem_cons_of_mem _ hi)) (fun i hi => h2 i (List.mem_cons_of_mem _ hi))
    unfold imsG at ih ⊢
    rw [List.length_cons, List.range_succ_eq_map, List.map_cons, List.map_map]
    have eb : bodyL (x :: l) ++ Z = imL x ++ (bodyL l ++ Z) := by
      unfold bodyL
      rw [List.flatMap_cons, List.append_assoc]
    rw [eb]
    congr 1
    · rw [Nat.zero_add, Nat.one_mul, Nat.zero_mul, List.drop_zero, List.take_append_of_le_length (by omega), List.take_of_length_le (by omega), imG_L (h1 x (List.mem_cons_self ..)) (h2 x (List.mem_cons_self ..))]
    · refine Eq.trans ?_ ih
      refine List.map_congr_left (fun i _ => ?_)
      have e1 : ((imL x ++ (bodyL l ++ Z)).take ((i.succ + 1) * 108)).drop (i.succ * 108) = ((bodyL l ++ Z).take ((i + 1) * 108)).drop (i * 108) := by
        rw [show (i.succ + 1) * 108 = (imL x).length + (i + 1) * 108 by rw [hx]; omega, show i.succ * 108 = (imL x).length + i * 108 by rw [hx]; omega, List.take_length_add_append, List.drop_length_add_append]
      show imG (((imL x ++ (bodyL l ++ Z)).take ((i.succ + 1) * 108)).drop (i.succ * 108)) = _
      rw [e1]
/-- a record is read as it was put -/
theorem rec_get_put (h : r.Good) : getE (str (recL r ++ rest)) = 0 ∧ getR (str (recL r ++ rest)) = r ∧ getN (str (recL r ++ rest)) = secsOf r.images.length := by
  obtain ⟨c1, c2⟩ := h.cnt
  have hs := secs_pos c1 c2
  obtain ⟨f1, f2, f3⟩ := first_rec (rest := rest) h
  obtain ⟨w1, w2, w3, w4, w5, w6⟩ := wrong_zero h.ok
  have hsz : (str (recL r ++ rest)).size = secsOf r.images.length * 64 + rest.length := by rw [str_size, List.length_append, recL_len]
  have e0 : ((str (recL r ++ rest)).extract 0 64).data.toList = recS r 0 := by
    have := place_rec (rest := rest) (r := r) 0 (by rw [hs]; omega)
    unfold placeL at this
    simpa using this
  have hf : firstE (str (recL r ++ rest)) = 0 := by
    unfold firstE
    rw [if_neg (by rw [hsz, hs]; omega), if_neg (by rw [e0, (recS_read r 0).1]; simp), if_neg]
    unfold firstBad
    rw [f1, f2, f3, hs]
    simp only
    omega
  obtain ⟨p1, p2⟩ := places_ok (rest := rest) (r := r) (secsOf r.images.length) (Nat.le_refl _)
  have hx : getX (str (recL r ++ rest)) = r := by
    unfold getX
    rw [f1, f3, p2, chunks, List.take_of_length_le (by rw [bodyL_len w4, hs]; omega), ims_ok _ _ w4 h.vers]
  have he : getE (str (recL r ++ rest)) = 0 := by
    unfold getE
    rw [if_neg (by rw [hf]; simp), f3, if_neg (by rw [hsz]; omega), f1, if_neg (by rw [p1]; simp), hx, if_pos]
    refine ⟨h.ok, ?_⟩
    unfold Rc.putS
    rw [if_pos h.ok, extract_str, List.drop_zero, List.take_append_of_le_length (by rw [recL_len]; omega), List.take_of_length_le (by rw [recL_len]; omega)]
  refine ⟨he, ?_, ?_⟩
  · unfold getR
    rw [if_pos he, hx]
  · unfold getN
    rw [if_pos he, f3]
end
theorem sum60 : readE (zer 64) = 6 := by decide +kernel
/-- bytes 0 are no record -/
theorem get_zero (rest : List UInt8) : getE (str (zer 64 ++ rest)) ≠ 0 := by
  have e0 : ((str (zer 64 ++ rest)).extract 0 64).data.toList = zer 64 := by
    rw [extract_str, str_list, List.drop_zero, List.take_append_of_le_length (by rw [zer_len]; omega), List.take_of_length_le (by rw [zer_len]; omega)]
  have : firstE (str (zer 64 ++ rest)) = 6 := by
    unfold firstE
    rw [if_neg (by rw [str_size, List.length_append, zer_len]; omega), e0, sum60]
    rfl
  unfold getE
  rw [if_pos (by rw [this]; decide), this]
  decide
theorem get_short {b : ByteArray} (h : b.size < 64) : getE b = 5 := by
  have : firstE b = 5 := by
    unfold firstE
    rw [if_pos h]
  unfold getE
  rw [if_pos (by rw [this]; decide), this]
theorem head_zero : lhE (str (zer 64)) = 6 := by
  unfold lhE
  rw [if_neg (by rw [str_size, zer_len]; simp), str_list, sum60]
  rfl
end Go.Proofs.YtianlhigeabehaaGreatDoor
