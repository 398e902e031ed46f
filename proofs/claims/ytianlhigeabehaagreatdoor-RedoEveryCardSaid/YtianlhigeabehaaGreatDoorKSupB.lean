/- The layout of the shape (2, 10, 8, 4, 32): in, Valid, Size, LogAt, BlockAt, the superblock put. -/
import Derived.Test.YtianlhigeabehaaGreatDoorKDiskF
namespace Go.Proofs.YtianlhigeabehaaGreatDoor
open Go.RowKit

theorem sin_any (a b c : Int) (w : World) : Calls Tryz.prog 72 #[.int .i64 a, .int .i64 b, .int .i64 c] w fun e w' => e = .returned (.bool (decide (b ≤ a ∧ a ≤ c))) ∧ w = w' := by
  by_cases h0 : b ≤ a
  · by_cases h1 : a ≤ c
    · rw [decide_eq_true ⟨h0, h1⟩]
      go_enter Tryz.func72, Tryz.ntmps72
      go_wp2_with fail
      go_ret
      exact ⟨rfl, rfl⟩
    · rw [decide_eq_false (fun h => h1 h.2)]
      go_enter Tryz.func72, Tryz.ntmps72
      go_wp2_with fail
      go_ret
      exact ⟨rfl, rfl⟩
  · rw [decide_eq_false (fun h => h0 h.1)]
    go_enter Tryz.func72, Tryz.ntmps72
    go_wp2_with fail
    go_ret
    exact ⟨rfl, rfl⟩
theorem sin_yes (a b c : Int) (w : World) (h : b ≤ a ∧ a ≤ c) : Calls Tryz.prog 72 #[.int .i64 a, .int .i64 b, .int .i64 c] w fun e w' => e = .returned (.bool true) ∧ w = w' := by
  have := sin_any a b c w
  rwa [decide_eq_true h] at this
def shapeA : Value := .agg #[.int .i64 2, .int .i64 10, .int .i64 8, .int .i64 4, .int .i64 32]
theorem uvalid_any (w : World) : Calls Tryz.prog 59 #[.agg #[.int .i64 2, .int .i64 10, .int .i64 8, .int .i64 4, .int .i64 32]] w fun e w' => e = .returned (.bool true) ∧ Below w.heap.size w w' := by
  have HB := Lib.hid ((Below.refl w.heap.size w).alloc (Nat.le_refl _) (.cells #[.int .i64 2, .int .i64 10, .int .i64 8, .int .i64 4, .int .i64 32] 29))
  go_enter Tryz.func59, Tryz.ntmps59
  go_wp2_with (go_at_call 72; refine (sin_yes _ _ _ _ (by decide)).mono ?_; rintro e w' ⟨rfl, rfl⟩)
  go_ret
  exact ⟨rfl, HB.out⟩
theorem usize_any (w : World) : Calls Tryz.prog 61 #[.agg #[.int .i64 2, .int .i64 10, .int .i64 8, .int .i64 4, .int .i64 32]] w fun e w' => e = .returned (.int .i64 37) ∧ Below w.heap.size w w' := by
  have HB := Lib.hid ((Below.refl w.heap.size w).alloc (Nat.le_refl _) (.cells #[.int .i64 2, .int .i64 10, .int .i64 8, .int .i64 4, .int .i64 32] 29))
  have HK := Lib.hid (Blk.new w 29 #[.int .i64 2, .int .i64 10, .int .i64 8, .int .i64 4, .int .i64 32])
  go_enter Tryz.func61, Tryz.ntmps61
  go_wp2_with fail
  generalize w.alloc (.cells #[.int .i64 2, .int .i64 10, .int .i64 8, .int .i64 4, .int .i64 32] 29) = W at HB HK ⊢
  refine (uvalid_any W).mono ?_
  rintro e w1 ⟨rfl, hb1⟩
  have HB1 := Lib.hid (HB.out.trans (hb1.mono HB.out.size))
  have hk1 := HK.out.below_ hb1
  have x0 := hk1.cell 0
  have x1 := hk1.cell 1
  have x2 := hk1.cell 2
  simp at x0 x1 x2
  clear hb1 hk1
  go_wp2_with fail
  go_ret
  exact ⟨rfl, HB1.out⟩
theorem logat_any (node : Int) (w : World) : Calls Tryz.prog 30 #[.agg #[.int .i64 2, .int .i64 10, .int .i64 8, .int .i64 4, .int .i64 32], .int .i64 node] w fun e w' => e = .returned (.tuple #[.int .i64 (logAt node).1, .int .i64 (logAt node).2]) ∧ Below w.heap.size w w' := by
  have HB := Lib.hid ((Below.refl w.heap.size w).alloc (Nat.le_refl _) (.cells #[.int .i64 2, .int .i64 10, .int .i64 8, .int .i64 4, .int .i64 32] 31))
  have HK := Lib.hid (Blk.new w 31 #[.int .i64 2, .int .i64 10, .int .i64 8, .int .i64 4, .int .i64 32])
  go_enter Tryz.func30, Tryz.ntmps30
  go_wp2_with fail
  generalize w.alloc (.cells #[.int .i64 2, .int .i64 10, .int .i64 8, .int .i64 4, .int .i64 32] 31) = W at HB HK ⊢
  refine (uvalid_any W).mono ?_
  rintro e w1 ⟨rfl, hb1⟩
  have HB1 := Lib.hid (HB.out.trans (hb1.mono HB.out.size))
  have hk1 := HK.out.below_ hb1
  have x0 := hk1.cell 0
  have x2 := hk1.cell 2
  simp at x0 x2
  clear hb1 hk1
  go_wp2_with fail
  refine (sin_any node 1 2 w1).mono ?_
  rintro e w2 ⟨rfl, rfl⟩
  by_cases h : node < 1 ∨ 2 < node
  · have e1 : logAt node = (0, 3) := if_pos h
    rw [decide_eq_false (by omega)]
    have E1 := Lib.hid e1
    clear e1 h
    go_wp2_with fail
    go_ret2
    rw [E1.out]
    exact ⟨rfl, HB1.out⟩
  · have e1 : logAt node = (1 + (node - 1) * 8, 0) := if_neg h
    rw [decide_eq_true (by omega)]
    have E1 := Lib.hid e1
    have b0 : 1 ≤ node := by omega
    have b1 : node ≤ 2 := by omega
    clear e1 h
    go_wp2_with fail
    go_ret2
    rw [E1.out]
    exact ⟨rfl, HB1.out⟩
theorem blockat_any (b : Int) (w : World) : Calls Tryz.prog 56 #[.agg #[.int .i64 2, .int .i64 10, .int .i64 8, .int .i64 4, .int .i64 32], .int .i64 b] w fun e w' => e = .returned (.tuple #[.int .i64 (blockAt b).1, .int .i64 (blockAt b).2]) ∧ Below w.heap.size w w' := by
  have HB := Lib.hid ((Below.refl w.heap.size w).alloc (Nat.le_refl _) (.cells #[.int .i64 2, .int .i64 10, .int .i64 8, .int .i64 4, .int .i64 32] 31))
  have HK := Lib.hid (Blk.new w 31 #[.int .i64 2, .int .i64 10, .int .i64 8, .int .i64 4, .int .i64 32])
  go_enter Tryz.func56, Tryz.ntmps56
  go_wp2_with fail
  generalize w.alloc (.cells #[.int .i64 2, .int .i64 10, .int .i64 8, .int .i64 4, .int .i64 32] 31) = W at HB HK ⊢
  refine (uvalid_any W).mono ?_
  rintro e w1 ⟨rfl, hb1⟩
  have HB1 := Lib.hid (HB.out.trans (hb1.mono HB.out.size))
  have hk1 := HK.out.below_ hb1
  have x0 := hk1.cell 0
  have x1 := hk1.cell 1
  have x2 := hk1.cell 2
  simp at x0 x1 x2
  clear hb1 hk1
  go_wp2_with fail
  refine (sin_any b 0 9 w1).mono ?_
  rintro e w2 ⟨rfl, rfl⟩
  by_cases h : b < 0 ∨ 9 < b
  · have e1 : blockAt b = (0, 30) := if_pos h
    rw [decide_eq_false (by omega)]
    have E1 := Lib.hid e1
    clear e1 h
    go_wp2_with fail
    go_ret2
    rw [E1.out]
    exact ⟨rfl, HB1.out⟩
  · have e1 : blockAt b = (17 + 2 * b, 0) := if_neg h
    rw [decide_eq_true (by omega)]
    have E1 := Lib.hid e1
    have b0 : 0 ≤ b := by omega
    have b1 : b ≤ 9 := by omega
    clear e1 h
    go_wp2_with fail
    go_ret2
    rw [E1.out]
    exact ⟨rfl, HB1.out⟩
def shp : Nat → Nat
  | 0 => 2
  | 1 => 10
  | 2 => 8
  | 3 => 4
  | _ => 32
theorem shp_le (k : Nat) : shp k ≤ 32 := by
  unfold shp
  split <;> omega
def preP : Nat → List UInt8
  | 0 => []
  | k + 1 => preP k ++ le (shp k) 4
def superT : List UInt8 := [67, 79, 77, 77, 79, 78, 83, 49] ++ preP 5
def superL : List UInt8 := stampL superT 64
theorem preP_len (k : Nat) : (preP k).length = 4 * k := by
  induction k with
  | zero => rfl
  | succ k ih =>
    show (preP k ++ le (shp k) 4).length = _
    rw [List.length_append, ih, le_len]
    omega
theorem superT_len : superT.length = 28 := by
  unfold superT
  rw [List.length_append, preP_len]
  rfl
theorem superL_len : superL.length = 64 := stamp_len (by rw [superT_len]; omega) (by omega)
theorem shp_cell {w : World} {g : Nat} {t : TypeId} (h : Blk w g t #[.int .i64 2, .int .i64 10, .int .i64 8, .int .i64 4, .int .i64 32]) {k : Nat} (hk : k < 5) : w.cell? ⟨g, k, none⟩ = some (.int .i64 (shp k : Int)) := by
  rw [h.cell]
  have : k = 0 ∨ k = 1 ∨ k = 2 ∨ k = 3 ∨ k = 4 := by omega
  rcases this with rfl | rfl | rfl | rfl | rfl <;> rfl
set_option maxRecDepth 100000 in
set_option maxHeartbeats 2000000 in
theorem uput_any (w : World) : Calls Tryz.prog 108 #[.agg #[.int .i64 2, .int .i64 10, .int .i64 8, .int .i64 4, .int .i64 32]] w fun e w' => e = .returned (.tuple #[.string (str superL), .int .i64 0]) ∧ Below w.heap.size w w' := by
  have HB := Lib.hid ((Below.refl w.heap.size w).alloc (Nat.le_refl _) (.cells #[.int .i64 2, .int .i64 10, .int .i64 8, .int .i64 4, .int .i64 32] 29))
  have HK := Lib.hid (Blk.new w 29 #[.int .i64 2, .int .i64 10, .int .i64 8, .int .i64 4, .int .i64 32])
  go_enter Tryz.func108, Tryz.ntmps108
  go_wp2_with fail
  generalize w.alloc (.cells #[.int .i64 2, .int .i64 10, .int .i64 8, .int .i64 4, .int .i64 32] 29) = W at HB HK ⊢
  refine (uvalid_any W).mono ?_
  rintro e w1 ⟨rfl, hb1⟩
  have hB1 := HB.out.trans (hb1.mono HB.out.size)
  obtain ⟨o2, hw2, hs2⟩ := Wg.start (w0 := w) hB1
  have HW2 := Lib.hid hw2
  have hk1 := (HK.out.below_ hb1).alloc (.cells #[.slice none 0 0, .int .i64 0] 174)
  have x0 := hk1.cell 0
  have x1 := hk1.cell 1
  have x2 := hk1.cell 2
  have x3 := hk1.cell 3
  have x4 := hk1.cell 4
  simp at x0 x1 x2 x3 x4
  clear hb1 hk1 hw2 hs2 hB1
  go_upto_region 4 with (fail)
  generalize w1.alloc (.cells #[.slice none 0 0, .int .i64 0] 174) = W2 at HW2 x0 x1 x2 x3 x4 ⊢
  generalize w1.heap.size = p at HW2 ⊢
  have HL := Lib.hid (Keep.new HW2.out.fut 3 #[.int .i64 2, .int .i64 10, .int .i64 8, .int .i64 4, .int .i64 32])
  have HW3 := Lib.hid (HW2.out.alloc (.cells #[.int .i64 2, .int .i64 10, .int .i64 8, .int .i64 4, .int .i64 32] 3))
  have HN0 := Lib.hid (show ¬ only 1 0 by unfold only; omega)
  go_wp2_with fail
  clear x0 x1 x2 x3 x4
  generalize W2.alloc (.cells #[.int .i64 2, .int .i64 10, .int .i64 8, .int .i64 4, .int .i64 32] 3) = W3 at HL HW3 ⊢
  generalize W2.heap.size = g at HL ⊢
  go_loopw [24] (fun t24 wr => ∃ (k : Nat) (o' : Nat → Nat), k ≤ 5 ∧ t24 = .int .i64 k ∧ Wg o' w wr p (preP k) ∧ Keep o' wr g 3 #[.int .i64 2, .int .i64 10, .int .i64 8, .int .i64 4, .int .i64 32]) (fun t24 _ => 5 - (intOf t24).toNat)
  case atStart => exact ⟨0, o2, by omega, rfl, HW3.out, HL.out⟩
  case round =>
    obtain ⟨k, o3, hk, rfl, hw, hkp⟩ := hrel
    have HW := Lib.hid hw
    have HP := Lib.hid hkp
    clear hw hkp
    by_cases hlt : k < 5
    · have hltI : (k : Int) < 5 := by omega
      have hkI : (0 : Int) ≤ (k : Int) := by omega
      have hc := shp_cell HP.out.1 hlt
      have hle := shp_le k
      have hwu := wrapu_n (v := shp k) (by omega)
      have HNK := Lib.hid (show numOk (shp k) 4 from ⟨by omega, by omega, by simp; omega⟩)
      have H64 := Lib.hid (show shp k < 18446744073709551616 by omega)
      have HLN := Lib.hid (show (preP k).length ≤ 1000000000 by rw [preP_len]; omega)
      have HPS := Lib.hid (show preP (k + 1) = preP k ++ le (shp k) (4 : Int).toNat from rfl)
      clear hle
      go_wp2_with fail
      refine (wnum_ok HW.out (shp k) 4 HNK.out H64.out HLN.out).mono ?_
      rintro e w4 ⟨rfl, o4, hw4, hs4⟩
      rw [← HPS.out] at hw4
      have HW4 := Lib.hid hw4
      have HP4 := Lib.hid (HP.out.step hs4 HN0.out)
      clear hw4 hs4 hc hwu
      go_wp2_with fail
      go_roundw
      case rel => exact ⟨k + 1, o4, by omega, by go_num, HW4.out, HP4.out⟩
      case measure => simp [intOf]; omega
    · have hltI : ¬ (k : Int) < 5 := by omega
      obtain rfl : k = 5 := by omega
      go_wp2_with fail
      refine (wbytes_okb HW.out).mono ?_
      rintro e w4 ⟨rfl, hw4, hb4⟩
      have HW4 := Lib.hid hw4
      clear hw4 hb4
      have hcat : (ByteArray.mk #[67, 79, 77, 77, 79, 78, 83, 49]).size + (str (preP 5)).size ≤ 9223372036854775807 := by rw [str_size, preP_len]; decide
      have HC := Lib.hid (show ByteArray.mk #[67, 79, 77, 77, 79, 78, 83, 49] ++ str (preP 5) = str superT from str_append [67, 79, 77, 77, 79, 78, 83, 49] (preP 5))
      have HZ := Lib.hid (show (str superT).size ≤ 60 by rw [str_size, superT_len]; omega)
      have HF := Lib.hid (show str (stampL (str superT).data.toList 64) = str superL by rw [str_list]; rfl)
      go_wp2_with fail
      rw [HC.out]
      refine (stamp_any (str superT) HZ.out w4).mono ?_
      rintro e w5 ⟨rfl, hb5⟩
      rw [HF.out]
      have HB5 := Lib.hid (HW4.out.env.low.trans (hb5.mono HW4.out.env.low.size))
      clear hb5
      go_wp2_with fail
      go_ret2
      exact ⟨rfl, HB5.out⟩
end Go.Proofs.YtianlhigeabehaaGreatDoor

/- A disk of 37 sectors: its calls where all is well; bytes 0 and the superblock laid; Format. -/
namespace Go.Proofs.YtianlhigeabehaaGreatDoor
open Go.RowKit

section
variable {o : Nat → Nat} {c p k : Nat} {w : World} {D : Dk}
theorem dwrite_k (h : DiskAt o c w p D) (hk : Calm D k) (hk2 : k ≤ 800000) {n e m : Nat} {at_ : Int} {data : ByteArray} (hn : n ≤ 16) (he : D.table n = e) (h0 : e ≠ 0) (hd : data.size = m * 64) (h1 : 1 ≤ m) (h2 : m ≤ 16) (h3 : 0 ≤ at_) (h4 : at_ + m ≤ 37) (hc : 1 ≤ c) :
    Calls Tryz.prog 54 #[.pointer (some ⟨p, 0, none⟩), .int .i64 (n : Int), .int .u64 (e : Int), .int .i64 at_, .string data] w fun r w' => r = .returned (.int .i64 0) ∧ ∃ o', DiskAt o' c w' p (D.writeN n at_ data m) ∧ Step o (six c) w o' w' := by
  have e1 := (hk.write hn he h0 hd h1 h2 h3 h4).1
  refine (dwrite_calm h n e at_ data (by have := hk.waits; omega) (by rw [hk.sectors]; omega) (by have := hk.seq; omega) (by omega) hc).mono ?_
  rintro r w' ⟨rfl, hw⟩
  rw [e1] at hw
  exact ⟨by rw [e1], hw⟩
theorem dbarrier_k (h : DiskAt o c w p D) (hk : Calm D k) (hk2 : k ≤ 800000) {n e : Nat} (hn : n ≤ 16) (he : D.table n = e) (h0 : e ≠ 0) :
    Calls Tryz.prog 41 #[.pointer (some ⟨p, 0, none⟩), .int .i64 (n : Int), .int .u64 (e : Int)] w fun r w' => r = .returned (.int .i64 0) ∧ ∃ o', DiskAt o' c w' p (D.settle n) ∧ Step o (six c) w o' w' := by
  have e1 := (hk.barrier hn he h0).1
  refine (dbarrier_calm h n e (by have := hk.waits; omega)).mono ?_
  rintro r w' ⟨rfl, hw⟩
  rw [e1] at hw
  exact ⟨by rw [e1], hw⟩
theorem dfence_k (h : DiskAt o c w p D) (hk : Calm D k) (hk2 : k ≤ 800000) {n : Nat} (hn : n ≤ 16) :
    Calls Tryz.prog 10 #[.pointer (some ⟨p, 0, none⟩), .int .i64 (n : Int)] w fun r w' => r = .returned (.int .i64 0) ∧ ∃ o', DiskAt o' c w' p (D.fence n).2 ∧ Step o (six c) w o' w' := by
  have e1 := (hk.fence hn).1
  refine (dfence_calm h n (by have := hk.waits; omega)).mono ?_
  rintro r w' ⟨rfl, hw⟩
  exact ⟨by rw [e1], hw⟩
theorem dput_k (h : DiskAt o c w p D) (hk : Calm D k) {n : Nat} (hn : n ≤ 16) (v : Nat) :
    Calls Tryz.prog 62 #[.pointer (some ⟨p, 0, none⟩), .int .i64 (n : Int), .int .u64 (v : Int)] w fun r w' => r = .returned (.int .i64 0) ∧ ∃ o', DiskAt o' c w' p (D.put n v).2 ∧ Step o (six c) w o' w' := by
  have e1 := (hk.put hn v).1
  refine (dput_calm h n v).mono ?_
  rintro r w' ⟨rfl, hw⟩
  exact ⟨by rw [e1], hw⟩
theorem dadmit_k (h : DiskAt o c w p D) (hk : Calm D k) {n e : Nat} (hn : n ≤ 16) (he : D.last < e) :
    Calls Tryz.prog 11 #[.pointer (some ⟨p, 0, none⟩), .int .i64 (n : Int), .int .u64 (e : Int)] w fun r w' => r = .returned (.int .i64 0) ∧ ∃ o', DiskAt o' c w' p (D.admit n e).2 ∧ Step o (six c) w o' w' := by
  have e1 := (hk.admit hn he).1
  refine (dadmit_calm h n e).mono ?_
  rintro r w' ⟨rfl, hw⟩
  exact ⟨by rw [e1], hw⟩
theorem dread_k (h : DiskAt o c w p D) (hk : Calm D k) {at_ : Int} {n : Nat} (h1 : 1 ≤ n) (h2 : 0 ≤ at_) (h3 : at_ + n ≤ 37) :
    Calls Tryz.prog 47 #[.pointer (some ⟨p, 0, none⟩), .int .i64 at_, .int .i64 (n : Int)] w fun r w' => r = .returned (.tuple #[.string (str (D.readL at_ n)), .int .i64 0]) ∧ Below w.heap.size w w' := by
  obtain ⟨e1, e2⟩ := hk.read h1 h2 h3
  refine (dread_any h at_ n (by rw [hk.sectors]; omega) hk.wf).mono ?_
  rintro r w' ⟨rfl, hw⟩
  exact ⟨by rw [e1, e2], hw⟩
end
def zlen (j : Nat) : Nat := min 16 (37 - 16 * j)
/-- bytes 0 are written, 16 sectors at a time -/
def Dk.zerosN (D : Dk) : Nat → Dk
  | 0 => D
  | j + 1 => (D.zerosN j).writeN (0 : Nat) ((16 * j : Nat) : Int) (str (zer (zlen j * 64))) (zlen j)
theorem zeros_calm {D : Dk} {k : Nat} (h : Calm D k) : ∀ j, Calm (D.zerosN j) (k + 16 * j) ∧ (D.zerosN j).table = D.table ∧ (D.zerosN j).last = D.last
  | 0 => ⟨h, rfl, rfl⟩
  | j + 1 => by
    obtain ⟨h1, h2, h3⟩ := zeros_calm h j
    have hl : zlen j ≤ 16 := by unfold zlen; omega
    obtain ⟨_, _, _, b4, _, b6, _⟩ := writeN_same (D.zerosN j) (0 : Nat) ((16 * j : Nat) : Int) (str (zer (zlen j * 64))) (zlen j)
    exact ⟨(h1.writeN (0 : Nat) ((16 * j : Nat) : Int) (str (zer (zlen j * 64))) (zlen j) (by rw [str_size, zer_len]; omega)).mono (by omega), b6.trans h2, b4.trans h3⟩
set_option maxRecDepth 100000 in
set_option maxHeartbeats 2000000 in
theorem uzeros_any {o : Nat → Nat} {c p k : Nat} {w : World} {D : Dk} (h : DiskAt o c w p D) (hk : Calm D k) (hk2 : k ≤ 1000) {e : Nat} (he : D.table 0 = e) (h0 : e ≠ 0) (hc : 1 ≤ c) :
    Calls Tryz.prog 109 #[.pointer (some ⟨p, 0, none⟩), .int .u64 (e : Int), .int .i64 37] w fun r w' => r = .returned (.int .i64 0) ∧ ∃ o', DiskAt o' c w' p ((D.zerosN 3).settle (0 : Nat)) ∧ Step o (six c) w o' w' := by
  have H := Lib.hid h
  have HK := Lib.hid hk
  have HE := Lib.hid he
  clear h hk he
  go_enter Tryz.func109, Tryz.ntmps109
  go_wp2_with fail
  go_loopw [7] (fun t7 wr => ∃ (j : Nat) (o' : Nat → Nat), j ≤ 3 ∧ t7 = .int .i64 ((16 * j : Nat) : Int) ∧ DiskAt o' c wr p (D.zerosN j) ∧ Step o (six c) w o' wr) (fun t7 _ => 60 - (intOf t7).toNat)
  case atStart => exact ⟨0, o, by omega, rfl, H.out, Step.refl _ _ _⟩
  case round =>
    obtain ⟨j, o1, hj, rfl, hd, hs⟩ := hrel
    have HD := Lib.hid hd
    have HS := Lib.hid hs
    obtain ⟨zc, zt, _⟩ := zeros_calm HK.out j
    have HZ := Lib.hid zc
    have HT := Lib.hid (show (D.zerosN j).table 0 = e by rw [zt]; exact HE.out)
    clear hd hs zc zt
    by_cases hlt : j < 3
    · obtain ⟨q, hq⟩ : ∃ q, zlen j = q := ⟨_, rfl⟩
      have hmin : ∀ (w : World) (ts : Array TypeId) (t : TypeId), (Builtin.min_ ts t #[.int .i64 16, .int .i64 (37 - ((16 * j : Nat) : Int))]).run Tryz.prog w = .ok (.int .i64 (q : Int)) w := by
        intro w ts t
        have : j = 0 ∨ j = 1 ∨ j = 2 := by omega
        rcases this with rfl | rfl | rfl <;> (rw [← hq]; simp [Builtin.min_, Builtin.min2, zlen])
      have hq1 : 1 ≤ q ∧ q ≤ 16 ∧ 16 * j + q ≤ 37 := by rw [← hq]; unfold zlen; omega
      obtain ⟨hq2, hq3, hq4⟩ := hq1
      have hI : ((16 * j : Nat) : Int) < 37 := by omega
      have hI0 : (0 : Int) ≤ ((16 * j : Nat) : Int) := by omega
      have HQ := Lib.hid hq
      have HQI := Lib.hid (show (0 : Int) ≤ (q : Int) * 64 ∧ (q : Int) * 64 ≤ 1000000 ∧ ((q : Int) * 64).toNat = q * 64 by omega)
      have HN := Lib.hid (show D.zerosN (j + 1) = (D.zerosN j).writeN (0 : Nat) ((16 * j : Nat) : Int) (str (zer (q * 64))) q by rw [← hq]; rfl)
      have HSZ := Lib.hid (show (str (zer (q * 64))).size = q * 64 by rw [str_size, zer_len])
      have HAT := Lib.hid (show ((16 * j : Nat) : Int) + (q : Int) ≤ 37 by omega)
      have HK3 := Lib.hid (show k + 16 * j ≤ 800000 by omega)
      have HST := Lib.hid (show ((16 * j : Nat) : Int) + 16 = ((16 * (j + 1) : Nat) : Int) by omega)
      have HM := Lib.hid (show 60 - (((16 * (j + 1) : Nat) : Int)).toNat < 60 - (((16 * j : Nat) : Int)).toNat by omega)
      have hjb : j < 3 := hlt
      have HJ := Lib.hid (show j + 1 ≤ 3 by omega)
      clear hq hlt hjb hj hq4
      generalize ((16 * j : Nat) : Int) = at_ at *
      have hsum : at_ ≤ 37 := by omega
      go_wp2_with fail
      clear hmin
      refine (rep0_any ((q : Int) * 64) HQI.out.1 HQI.out.2.1 wr).mono ?_
      rintro e2 w2 ⟨rfl, hb2⟩
      rw [HQI.out.2.2]
      have HD2 := Lib.hid (HD.out.below_ hb2)
      have HS2 := Lib.hid (HS.out.trans (Step.of_below o1 (six c) hb2))
      clear hb2
      go_wp2_with fail
      refine (dwrite_k (n := 0) HD2.out HZ.out HK3.out (by omega) HT.out h0 HSZ.out hq2 hq3 hI0 HAT.out hc).mono ?_
      rintro e3 w3 ⟨rfl, o3, hd3, hs3⟩
      rw [← HN.out] at hd3
      have HD3 := Lib.hid hd3
      have HS3 := Lib.hid (HS2.out.trans hs3)
      clear hd3 hs3
      go_wp2_with fail
      go_roundw
      case rel => exact ⟨j + 1, o3, HJ.out, by rw [← HST.out], HD3.out, HS3.out⟩
      case measure => simp [intOf]; omega
    · obtain rfl : j = 3 := by omega
      have HK3 := Lib.hid (show k + 16 * 3 ≤ 800000 by omega)
      go_wp2_with fail
      refine (dbarrier_k (n := 0) HD.out HZ.out HK3.out (by omega) HT.out h0).mono ?_
      rintro e3 w3 ⟨rfl, o3, hd3, hs3⟩
      have HD3 := Lib.hid hd3
      have HS3 := Lib.hid (HS.out.trans hs3)
      clear hd3 hs3
      go_wp2_with fail
      go_ret
      exact ⟨rfl, o3, HD3.out, HS3.out⟩
end Go.Proofs.YtianlhigeabehaaGreatDoor
