/- The superblock laid; Format; the superblock read; Load. -/
import Derived.Test.YtianlhigeabehaaGreatDoorKSupB
namespace Go.Proofs.YtianlhigeabehaaGreatDoor
open Go.RowKit

def Dk.layF (D : Dk) : Dk := (((D.zerosN 3).settle (0 : Nat)).writeN (0 : Nat) 0 (str superL) 1).settle (0 : Nat)
theorem lay_calm {D : Dk} {k : Nat} (h : Calm D k) : Calm D.layF (k + 49) := by
  have h1 := (zeros_calm h 3).1.settle (0 : Nat)
  exact ((h1.writeN (0 : Nat) 0 (str superL) 1 (by rw [str_size, superL_len]; omega)).mono (by omega)).settle _
theorem settle_tab (D : Dk) (n : Int) : (D.settle n).table = D.table ∧ (D.settle n).last = D.last := ⟨settle_table D n, (settle_same D n).2.2.2.1⟩
theorem Blk.five {w : World} {g : Nat} {t : TypeId} {c0 c1 c2 c3 c4 : Value} (h : Blk w g t #[c0, c1, c2, c3, c4]) : w.cell? ⟨g, 0, none⟩ = some c0 ∧ w.cell? ⟨g, 1, none⟩ = some c1 ∧ w.cell? ⟨g, 2, none⟩ = some c2 ∧ w.cell? ⟨g, 3, none⟩ = some c3 ∧ w.cell? ⟨g, 4, none⟩ = some c4 :=
  ⟨h.cell 0, h.cell 1, h.cell 2, h.cell 3, h.cell 4⟩
set_option maxRecDepth 100000 in
set_option maxHeartbeats 2000000 in
theorem ulay_any {o : Nat → Nat} {c p k : Nat} {w : World} {D : Dk} (h : DiskAt o c w p D) (hk : Calm D k) (hk2 : k ≤ 1000) {e : Nat} (he : D.table 0 = e) (h0 : e ≠ 0) (hc : 1 ≤ c) (hf : Fut o w) :
    Calls Tryz.prog 64 #[.pointer (some ⟨p, 0, none⟩), .int .u64 (e : Int), .agg #[.int .i64 2, .int .i64 10, .int .i64 8, .int .i64 4, .int .i64 32]] w fun r w' => r = .returned (.int .i64 0) ∧ ∃ o', DiskAt o' c w' p D.layF ∧ Step o (six c) w o' w' := by
  have HE := Lib.hid he
  have HKC := Lib.hid hk
  have H := Lib.hid (h.alloc (.cells #[.int .i64 2, .int .i64 10, .int .i64 8, .int .i64 4, .int .i64 32] 29))
  have HS := Lib.hid ((Step.refl o (six c) w).alloc (.cells #[.int .i64 2, .int .i64 10, .int .i64 8, .int .i64 4, .int .i64 32] 29))
  have HK := Lib.hid (Keep.new hf 29 #[.int .i64 2, .int .i64 10, .int .i64 8, .int .i64 4, .int .i64 32])
  have HZC := Lib.hid ((zeros_calm hk 3).1.settle (0 : Nat))
  have HZT := Lib.hid (show ((D.zerosN 3).settle (0 : Nat)).table 0 = e by rw [(settle_tab _ _).1, (zeros_calm hk 3).2.1]; exact he)
  have HSU := Lib.hid (show (str superL).size = 1 * 64 by rw [str_size, superL_len])
  have HN6 := Lib.hid (no_six hc)
  clear h hk he hf
  go_enter Tryz.func64, Tryz.ntmps64
  go_wp2_with fail
  generalize w.alloc (.cells #[.int .i64 2, .int .i64 10, .int .i64 8, .int .i64 4, .int .i64 32] 29) = W at H HS HK ⊢
  generalize w.heap.size = g at HK ⊢
  refine (uput_any W).mono ?_
  rintro r w1 ⟨rfl, hb1⟩
  have H1 := Lib.hid (H.out.below_ hb1)
  have HS1 := Lib.hid (HS.out.trans (Step.of_below o (six c) hb1))
  have HK1 := Lib.hid (HK.out.below_ hb1)
  obtain ⟨x0, x1, x2, x3, x4⟩ := HK1.out.1.five
  clear hb1
  go_wp2_with fail
  refine (usize_any w1).mono ?_
  rintro r w2 ⟨rfl, hb2⟩
  have H2 := Lib.hid (H1.out.below_ hb2)
  have HS2 := Lib.hid (HS1.out.trans (Step.of_below o (six c) hb2))
  clear hb2 x0 x1 x2 x3 x4
  go_wp2_with fail
  refine (uzeros_any H2.out HKC.out hk2 HE.out h0 hc).mono ?_
  rintro r w3 ⟨rfl, o3, hd3, hs3⟩
  have H3 := Lib.hid hd3
  have HS3 := Lib.hid (HS2.out.trans hs3)
  clear hd3 hs3
  go_wp2_with fail
  refine (dwrite_k (n := 0) (m := 1) H3.out HZC.out (by omega) (by omega) HZT.out h0 HSU.out (by omega) (by omega) (by omega) (by omega) hc).mono ?_
  rintro r w4 ⟨rfl, o4, hd4, hs4⟩
  have H4 := Lib.hid hd4
  have HS4 := Lib.hid (HS3.out.trans hs4)
  have HC4 := Lib.hid (HZC.out.writeN (0 : Nat) 0 (str superL) 1 (by rw [HSU.out]; omega))
  have HT4 := Lib.hid (show ((((D.zerosN 3).settle (0 : Nat)).writeN (0 : Nat) 0 (str superL) 1)).table 0 = e by rw [(writeN_same _ _ _ _ _).2.2.2.2.2.1]; exact HZT.out)
  clear hd4 hs4
  go_wp2_with fail
  refine (dbarrier_k (n := 0) H4.out HC4.out (by omega) (by omega) HT4.out h0).mono ?_
  rintro r w5 ⟨rfl, o5, hd5, hs5⟩
  have H5 := Lib.hid (show DiskAt o5 c w5 p D.layF from hd5)
  have HS5 := Lib.hid (HS4.out.trans hs5)
  clear hd5 hs5
  go_wp2_with fail
  go_ret
  exact ⟨rfl, o5, H5.out, HS5.out⟩
def Dk.fmtN (D : Dk) : Nat → Dk
  | 0 => D
  | j + 1 => (((D.fmtN j).fence j).2.put j 0).2
theorem fmt_calm {D : Dk} {k : Nat} (h : Calm D k) : ∀ j, j ≤ 17 → Calm (D.fmtN j) k ∧ (D.fmtN j).last = D.last ∧ (D.fmtN j).now = D.now
  | 0, _ => ⟨h, rfl, rfl⟩
  | j + 1, hj => by
    obtain ⟨h1, h2, h4⟩ := fmt_calm h j (by omega)
    obtain ⟨e1, c1⟩ := h1.fence (n := j) (by omega)
    obtain ⟨e2, c2⟩ := c1.put (n := j) (by omega) 0
    refine ⟨c2, ?_, ?_⟩
    · show ((((D.fmtN j).fence j).2.put j 0).2).last = D.last
      rw [e2, e1, ← h2]
      exact (settle_tab _ _).2
    · show ((((D.fmtN j).fence j).2.put j 0).2).now = D.now
      rw [e2, e1, ← h4]
      exact (settle_same _ _).2.2.2.2.2.1
theorem dsectors_37 {o : Nat → Nat} {c p : Nat} {w : World} {D : Dk} (h : DiskAt o c w p D) (hs : D.sectors = 37) : Calls Tryz.prog 60 #[.pointer (some ⟨p, 0, none⟩)] w fun e w' => e = .returned (.int .i64 37) ∧ w = w' := by
  have := dsectors_any h
  rwa [hs] at this
def Dk.formatF (D : Dk) : Dk := (((D.fmtN 17).admit 0 (D.last + 1)).2.layF.fence 0).2
set_option maxRecDepth 100000 in
set_option maxHeartbeats 2000000 in
theorem uformat_any {o : Nat → Nat} {c p k : Nat} {w : World} {D : Dk} (h : DiskAt o c w p D) (hk : Calm D k) (hk2 : k ≤ 1000) (hl : D.last ≤ 1000) (hc : 1 ≤ c) (hf : Fut o w) :
    Calls Tryz.prog 23 #[.pointer (some ⟨p, 0, none⟩), .agg #[.int .i64 2, .int .i64 10, .int .i64 8, .int .i64 4, .int .i64 32]] w fun r w' => r = .returned (.int .i64 0) ∧ ∃ o', DiskAt o' c w' p D.formatF ∧ Step o (six c) w o' w' := by
  have HKC := Lib.hid hk
  have H := Lib.hid (h.alloc (.cells #[.int .i64 2, .int .i64 10, .int .i64 8, .int .i64 4, .int .i64 32] 29))
  have HS := Lib.hid ((Step.refl o (six c) w).alloc (.cells #[.int .i64 2, .int .i64 10, .int .i64 8, .int .i64 4, .int .i64 32] 29))
  have HK := Lib.hid (Keep.new hf 29 #[.int .i64 2, .int .i64 10, .int .i64 8, .int .i64 4, .int .i64 32])
  have HF := Lib.hid (hf.alloc (.cells #[.int .i64 2, .int .i64 10, .int .i64 8, .int .i64 4, .int .i64 32] 29))
  have HN6 := Lib.hid (no_six hc)
  have HSEC := Lib.hid hk.sectors
  clear h hk hf
  go_enter Tryz.func23, Tryz.ntmps23
  go_wp2_with fail
  generalize w.alloc (.cells #[.int .i64 2, .int .i64 10, .int .i64 8, .int .i64 4, .int .i64 32] 29) = W at H HS HK HF ⊢
  generalize w.heap.size = g at HK ⊢
  refine (uvalid_any W).mono ?_
  rintro r w1 ⟨rfl, hb1⟩
  have H1 := Lib.hid (H.out.below_ hb1)
  have HS1 := Lib.hid (HS.out.trans (Step.of_below o (six c) hb1))
  have HK1 := Lib.hid (HK.out.below_ hb1)
  have HF1 := Lib.hid (HF.out.below hb1)
  obtain ⟨x0, x1, x2, x3, x4⟩ := HK1.out.1.five
  clear hb1
  go_upto_region 3 with (fail)
  go_region_held3 (fun w' => w'.cell? ⟨g, 0, none⟩ = some (.int .i64 2) ∧ w'.cell? ⟨g, 1, none⟩ = some (.int .i64 10) ∧ w'.cell? ⟨g, 2, none⟩ = some (.int .i64 8) ∧ w'.cell? ⟨g, 3, none⟩ = some (.int .i64 4) ∧ w'.cell? ⟨g, 4, none⟩ = some (.int .i64 32))
    (first | exact ⟨x0, x1, x2, x3, x4⟩ | exact hk2'.1.five | go_keep)
    (first | (go_at_call 60; ((with_reducible refine (dsectors_37 H1.out.drew HSEC.out).mono ?_); rintro r w2 ⟨rfl, rfl⟩)) | (go_at_call 61; ((with_reducible refine (usize_any _).mono ?_); rintro r w3 ⟨rfl, hb3⟩; have hk2' := HK1.out.drew.below_ hb3)))
  have H3 := Lib.hid (H1.out.drew.below_ hb3)
  have HS3 := Lib.hid (HS1.out.drew.trans (Step.of_below o (six c) hb3))
  have HK3 := Lib.hid hk2'
  have HF3 := Lib.hid (HF1.out.drew.below hb3)
  clear hb3 hk2' x0 x1 x2 x3 x4
  go_wp2_with fail
  go_loopw [5] (fun t5 wr => ∃ (j : Nat) (o' : Nat → Nat), j ≤ 17 ∧ t5 = .int .i64 j ∧ DiskAt o' c wr p (D.fmtN j) ∧ Step o (six c) w o' wr ∧ Keep o' wr g 29 #[.int .i64 2, .int .i64 10, .int .i64 8, .int .i64 4, .int .i64 32] ∧ Fut o' wr) (fun t5 _ => 17 - (intOf t5).toNat)
  case atStart => exact ⟨0, o, by omega, rfl, H3.out, HS3.out, HK3.out, HF3.out⟩
  case round =>
    obtain ⟨j, o1, hj, rfl, hd, hs, hkk, hff⟩ := hrel
    have HD := Lib.hid hd
    have HSS := Lib.hid hs
    have HKK := Lib.hid hkk
    have HFF := Lib.hid hff
    have HC := Lib.hid (fmt_calm HKC.out j hj).1
    clear hd hs hkk hff
    by_cases hlt : j < 17
    · have hltI : (j : Int) ≤ 16 := by omega
      have HC1 := Lib.hid (HC.out.fence (n := j) (by omega)).2
      go_wp2_with fail
      refine (dfence_k HD.out HC.out (by omega) (n := j) (by omega)).mono ?_
      rintro r w4 ⟨rfl, o4, hd4, hs4⟩
      have HD4 := Lib.hid hd4
      have HS4 := Lib.hid (HSS.out.trans hs4)
      have HK4 := Lib.hid (HKK.out.step hs4 HN6.out)
      have HF4 := Lib.hid (HFF.out.step hs4)
      clear hd4 hs4
      go_wp2_with fail
      refine (dput_k HD4.out HC1.out (n := j) (by omega) 0).mono ?_
      rintro r w5 ⟨rfl, o5, hd5, hs5⟩
      have HD5 := Lib.hid hd5
      have HS5 := Lib.hid (HS4.out.trans hs5)
      have HK5 := Lib.hid (HK4.out.step hs5 HN6.out)
      have HF5 := Lib.hid (HF4.out.step hs5)
      clear hd5 hs5
      go_wp2_with fail
      go_roundw
      case rel => exact ⟨j + 1, o5, by omega, by go_num, HD5.out, HS5.out, HK5.out, HF5.out⟩
      case measure => simp [intOf]; omega
    · have hltI : ¬ (j : Int) ≤ 16 := by omega
      obtain rfl : j = 17 := by omega
      obtain ⟨fc, fl, _⟩ := fmt_calm HKC.out 17 (by omega)
      obtain ⟨L, hL⟩ : ∃ L, D.last = L := ⟨_, rfl⟩
      have HL := Lib.hid hL
      have HFL := Lib.hid (show (D.fmtN 17).last = L by rw [fl, hL])
      have hl2 : L ≤ 1000 := by rw [← hL]; exact hl
      have hwr : IntKind.u64.wrap ((L : Int) + 1) = ((L + 1 : Nat) : Int) := by rw [IntKind.wrap_u64]; omega
      obtain ⟨ae, ac⟩ := fc.admit (n := 0) (by omega) (e := L + 1) (by rw [HFL.out]; omega)
      have HAC := Lib.hid ac
      have HAT := Lib.hid (show ((D.fmtN 17).admit (0 : Nat) (L + 1)).2.table 0 = L + 1 by rw [ae]; rfl)
      have HLC := Lib.hid (lay_calm ac)
      have HFE := Lib.hid (show D.formatF = (((D.fmtN 17).admit (0 : Nat) (L + 1)).2.layF.fence (0 : Nat)).2 by unfold Dk.formatF; rw [hL]; rfl)
      clear fc fl hL hl ae ac
      go_wp2_with fail
      refine (dlast_any HD.out).mono ?_
      rintro r w4 ⟨rfl, rfl⟩
      rw [HFL.out]
      obtain ⟨x0, x1, x2, x3, x4⟩ := HKK.out.1.five
      clear x0 x1 x2 x3 x4
      go_wp2_with fail
      refine (dadmit_k (n := 0) (e := L + 1) HD.out HC.out (by omega) (by rw [HFL.out]; omega)).mono ?_
      rintro r w5 ⟨rfl, o5, hd5, hs5⟩
      have HD5 := Lib.hid hd5
      have HS5 := Lib.hid (HSS.out.trans hs5)
      have HK5 := Lib.hid (HKK.out.step hs5 HN6.out)
      have HF5 := Lib.hid (HFF.out.step hs5)
      obtain ⟨x0, x1, x2, x3, x4⟩ := HK5.out.1.five
      clear hd5 hs5
      go_wp2_with fail
      refine (ulay_any HD5.out HAC.out hk2 HAT.out (by omega) hc HF5.out).mono ?_
      rintro r w6 ⟨rfl, o6, hd6, hs6⟩
      have HD6 := Lib.hid hd6
      have HS6 := Lib.hid (HS5.out.trans hs6)
      clear hd6 hs6 x0 x1 x2 x3 x4
      go_wp2_with fail
      refine (dfence_k (n := 0) HD6.out HLC.out (by omega) (by omega)).mono ?_
      rintro r w7 ⟨rfl, o7, hd7, hs7⟩
      rw [← HFE.out] at hd7
      have HD7 := Lib.hid hd7
      have HS7 := Lib.hid (HS6.out.trans hs7)
      clear hd7 hs7
      go_wp2_with fail
      go_ret
      exact ⟨rfl, o7, HD7.out, HS7.out⟩
end Go.Proofs.YtianlhigeabehaaGreatDoor

/- The superblock read; Load. -/
namespace Go.Proofs.YtianlhigeabehaaGreatDoor
open Go.RowKit

/-- what stands behind 5 - j of the numbers -/
def sufP : Nat → List UInt8
  | 0 => zer 32
  | j + 1 => le (shp (4 - j)) 4 ++ sufP j
theorem super_read : readE (str superL).data.toList = 0 ∧ readL (str superL).data.toList = superT ++ zer 32 := by
  have hr := read_stamp (l := superT) (n := 64) (by rw [superT_len]; omega) (by omega)
  rw [str_list]
  refine ⟨hr.1, hr.2.trans ?_⟩
  unfold padL
  rw [superT_len]
theorem super_rest : (superT ++ zer 32).drop 8 = sufP 5 := by
  show ([67, 79, 77, 77, 79, 78, 83, 49] ++ preP 5 ++ zer 32).drop 8 = sufP 5
  simp [preP, sufP]
theorem super_num (k : Nat) (hk : k < 5) : (⟨str (sufP (5 - k)), 0⟩ : Rd).numV 4 = shp k ∧ (⟨str (sufP (5 - k)), 0⟩ : Rd).numR 4 = ⟨str (sufP (5 - (k + 1))), 0⟩ := by
  have e : sufP (5 - k) = le (shp k) 4 ++ sufP (5 - (k + 1)) := by
    have : k = 0 ∨ k = 1 ∨ k = 2 ∨ k = 3 ∨ k = 4 := by omega
    rcases this with rfl | rfl | rfl | rfl | rfl <;> rfl
  rw [e]
  exact num4 (by have := shp_le k; omega) _
def arrA (k : Nat) : Array Value := #[.int .i64 (if 0 < k then 2 else 0), .int .i64 (if 1 < k then 10 else 0), .int .i64 (if 2 < k then 8 else 0), .int .i64 (if 3 < k then 4 else 0), .int .i64 (if 4 < k then 32 else 0)]
theorem arrA_set {k : Nat} (hk : k < 5) : (arrA k).setIfInBounds k (.int .i64 (shp k : Int)) = arrA (k + 1) := by
  have : k = 0 ∨ k = 1 ∨ k = 2 ∨ k = 3 ∨ k = 4 := by omega
  rcases this with rfl | rfl | rfl | rfl | rfl <;> rfl
theorem arrA_get {k : Nat} (hk : k < 5) : (arrA k)[k]? = some (.int .i64 0) := by
  have : k = 0 ∨ k = 1 ∨ k = 2 ∨ k = 3 ∨ k = 4 := by omega
  rcases this with rfl | rfl | rfl | rfl | rfl <;> rfl
theorem Blk.put5 {w : World} {g : Nat} {t : TypeId} {a b c d e : Value} (h : Blk w g t #[a, b, c, d, e]) (x y z u v : Value) : Blk (((((w.setCell ⟨g, 0, none⟩ x).setCell ⟨g, 1, none⟩ y).setCell ⟨g, 2, none⟩ z).setCell ⟨g, 3, none⟩ u).setCell ⟨g, 4, none⟩ v) g t #[x, y, z, u, v] := ((((h.set_ 0 x).set_ 1 y).set_ 2 z).set_ 3 u).set_ 4 v
theorem below_put5 {B g : Nat} {w0 w : World} (h : Below B w0 w) (hg : B ≤ g) (x y z u v : Value) : Below B w0 (((((w.setCell ⟨g, 0, none⟩ x).setCell ⟨g, 1, none⟩ y).setCell ⟨g, 2, none⟩ z).setCell ⟨g, 3, none⟩ u).setCell ⟨g, 4, none⟩ v) :=
  ((((h.setCell (p := ⟨g, 0, none⟩) hg x).setCell (p := ⟨g, 1, none⟩) hg y).setCell (p := ⟨g, 2, none⟩) hg z).setCell (p := ⟨g, 3, none⟩) hg u).setCell (p := ⟨g, 4, none⟩) hg v
set_option maxRecDepth 100000 in
set_option maxHeartbeats 4000000 in
theorem uget_any (w : World) : Calls Tryz.prog 65 #[.string (str superL)] w fun e w' => e = .returned (.tuple #[.agg #[.int .i64 2, .int .i64 10, .int .i64 8, .int .i64 4, .int .i64 32], .int .i64 0]) ∧ Below w.heap.size w w' := by
  obtain ⟨b, hb⟩ : ∃ b, b = str superL := ⟨_, rfl⟩
  have HB := Lib.hid hb
  have hsz : ((b.size : Int) != 64) = false := by rw [hb, str_size, superL_len]; rfl
  have HS := Lib.hid (show b.size ≤ 1000000000 by rw [hb, str_size, superL_len]; omega)
  obtain ⟨r1, r2⟩ := super_read
  rw [← hb] at r1 r2 ⊢
  have HR1 := Lib.hid r1
  have HR2 := Lib.hid r2
  have HE0 := Lib.hid ((Env.start w).alloc (.cells #[.int .i64 0, .int .i64 0, .int .i64 0, .int .i64 0, .int .i64 0] 29))
  have HZ0 := Lib.hid (Keep.new (fut0 w) 29 #[.int .i64 0, .int .i64 0, .int .i64 0, .int .i64 0, .int .i64 0])
  have HN0 := Lib.hid (show ¬ only 1 0 by unfold only; omega)
  obtain ⟨g, hg⟩ : ∃ g, g = w.heap.size := ⟨_, rfl⟩
  have HG := Lib.hid (show w.heap.size ≤ g by omega)
  clear hb r1 r2
  go_enter Tryz.func65, Tryz.ntmps65
  go_wp2_with fail
  rw [← hg] at HZ0 ⊢
  generalize w.alloc (.cells #[.int .i64 0, .int .i64 0, .int .i64 0, .int .i64 0, .int .i64 0] 29) = W at HE0 HZ0 ⊢
  clear hg
  refine (sread_any b HS.out W).mono ?_
  rintro e w1 ⟨rfl, hb1⟩
  rw [HR1.out, HR2.out]
  have HE1 := Lib.hid (HE0.out.below_ hb1)
  have HZ1 := Lib.hid (HZ0.out.below_ hb1)
  clear hb1
  have hs8 : (8 : Int) ≤ ((str (superT ++ zer 32)).size : Int) := by rw [str_size, List.length_append, superT_len, zer_len]; omega
  have HRS := Lib.hid (show (str (superT ++ zer 32)).extract 8 (str (superT ++ zer 32)).size = str (sufP 5) by rw [rest_str, super_rest])
  generalize str (superT ++ zer 32) = S at hs8 HRS ⊢
  go_wp2_with fail
  rw [HRS.out]
  refine (newreader_any (fun _ => 0) 1 (str (sufP 5)) w1 (by rw [str_size]; decide +kernel)).mono ?_
  rintro e w2 ⟨p, o2, rfl, hrd, hb2, hst2⟩
  have HS2 := Lib.hid (show Gs 197 o2 w w2 p ⟨str (sufP 5), 0⟩ from ⟨hrd, HE1.out.step (hst2 (fun _ => False)) (by simp), (show Fut (fun _ => 0) w1 from fun _ _ => rfl).step (hst2 (fun _ => False))⟩)
  have HZ2 := Lib.hid (HZ1.out.step (hst2 (fun _ => False)) (by simp))
  have HA2 := Lib.hid (Keep.new HS2.out.fut 166 #[.int .i64 0, .int .i64 0, .int .i64 0, .int .i64 0, .int .i64 0])
  have HS3 := Lib.hid (HS2.out.alloc (.cells #[.int .i64 0, .int .i64 0, .int .i64 0, .int .i64 0, .int .i64 0] 166))
  have HZ3 := Lib.hid (HZ2.out.alloc (.cells #[.int .i64 0, .int .i64 0, .int .i64 0, .int .i64 0, .int .i64 0] 166))
  have HGA := Lib.hid (show g ≠ w2.heap.size from Nat.ne_of_lt HZ2.out.1.lt)
  have HWA := Lib.hid HS2.out.env.low.size
  clear hrd hb2 hst2
  go_wp2_with fail
  generalize w2.alloc (.cells #[.int .i64 0, .int .i64 0, .int .i64 0, .int .i64 0, .int .i64 0] 166) = W3 at HA2 HS3 HZ3 ⊢
  generalize w2.heap.size = gA at HA2 HGA HWA ⊢
  go_loopw [28] (fun t28 wr => ∃ (k : Nat) (o' : Nat → Nat), k ≤ 5 ∧ t28 = .int .i64 k ∧ Gs 197 o' w wr p ⟨str (sufP (5 - k)), 0⟩ ∧ Keep o' wr g 29 #[.int .i64 0, .int .i64 0, .int .i64 0, .int .i64 0, .int .i64 0] ∧ Keep o' wr gA 166 (arrA k)) (fun t28 _ => 5 - (intOf t28).toNat)
  case atStart => exact ⟨0, o2, by omega, rfl, HS3.out, HZ3.out, HA2.out⟩
  case round =>
    obtain ⟨k, o3, hk, rfl, hgs, hz, ha⟩ := hrel
    have HGS := Lib.hid hgs
    have HZ := Lib.hid hz
    have HA := Lib.hid ha
    clear hgs hz ha
    by_cases hlt : k < 5
    · have hltI : (k : Int) < 5 := by omega
      have hkI : (0 : Int) ≤ (k : Int) := by omega
      obtain ⟨n1, n2⟩ := super_num k hlt
      have HN1 := Lib.hid n1
      have HN2 := Lib.hid n2
      have hle := shp_le k
      have hw := wrap_small (v := shp k) (by omega)
      have HAS := Lib.hid (arrA_set hlt)
      have HAG := Lib.hid (arrA_get hlt)
      clear n1 n2 hle
      go_wp2_with fail
      refine (rnum_g HGS.out 4).mono ?_
      rintro e w4 ⟨rfl, o4, hg4, hs4⟩
      rw [HN1.out]
      rw [HN2.out] at hg4
      have hz4 := HZ.out.step hs4 HN0.out
      have ha4 := HA.out.step hs4 HN0.out
      have c4 := (ha4.1.cell k).trans HAG.out
      have f4 := ha4.1.frozen k
      have ha5 := ha4.set_ k (.int .i64 (shp k : Int))
      rw [HAS.out] at ha5
      have HA5 := Lib.hid ha5
      have HZ5 := Lib.hid (hz4.far HGA.out k (.int .i64 (shp k : Int)))
      have HG5 := Lib.hid (hg4.setCell ha4.2 HWA.out k (.int .i64 (shp k : Int)))
      clear hg4 hs4 hz4 ha4 ha5
      go_wp2_with fail
      go_roundw
      case rel => exact ⟨k + 1, o4, by omega, by go_num, HG5.out, HZ5.out, HA5.out⟩
      case measure => simp [intOf]; omega
    · have hltI : ¬ (k : Int) < 5 := by omega
      obtain rfl : k = 5 := by omega
      obtain ⟨x0, x1, x2, x3, x4⟩ := (show Keep o3 wr gA 166 #[.int .i64 2, .int .i64 10, .int .i64 8, .int .i64 4, .int .i64 32] from HA.out).1.five
      have HGL := Lib.hid (HGS.out.env.low)
      have HX5 := Lib.hid (Blk.new wr 29 #[.int .i64 2, .int .i64 10, .int .i64 8, .int .i64 4, .int .i64 32])
      have HB5 := Lib.hid (HGL.out.alloc HGL.out.size (.cells #[.int .i64 2, .int .i64 10, .int .i64 8, .int .i64 4, .int .i64 32] 29))
      have HZ5 := Lib.hid (HZ.out.1.alloc (.cells #[.int .i64 2, .int .i64 10, .int .i64 8, .int .i64 4, .int .i64 32] 29))
      go_wp2_with fail
      clear x0 x1 x2 x3 x4
      generalize wr.alloc (.cells #[.int .i64 2, .int .i64 10, .int .i64 8, .int .i64 4, .int .i64 32] 29) = W5 at HX5 HB5 HZ5 ⊢
      generalize wr.heap.size = gX at HX5 ⊢
      refine (uput_any W5).mono ?_
      rintro e w6 ⟨rfl, hb6⟩
      rw [← HB.out]
      have HB6 := Lib.hid (HB5.out.trans (hb6.mono HB5.out.size))
      have HZ6 := Lib.hid (HZ5.out.below_ hb6)
      obtain ⟨x0, x1, x2, x3, x4⟩ := (HX5.out.below_ hb6).five
      obtain ⟨y0, y1, y2, y3, y4⟩ := HZ6.out.five
      have f0 := HZ6.out.frozen 0
      have f1 := HZ6.out.frozen 1
      have f2 := HZ6.out.frozen 2
      have f3 := HZ6.out.frozen 3
      have f4 := HZ6.out.frozen 4
      have t1 : (b.toList == b.toList) = true := beq_self_eq_true _
      clear hb6
      go_wp2_with fail
      have hz7 := HZ6.out.put5 (.int .i64 2) (.int .i64 10) (.int .i64 8) (.int .i64 4) (.int .i64 32)
      have hb7 := below_put5 HB6.out HG.out (.int .i64 2) (.int .i64 10) (.int .i64 8) (.int .i64 4) (.int .i64 32)
      clear x0 x1 x2 x3 x4 y0 y1 y2 y3 y4 f0 f1 f2 f3 f4 t1
      generalize ((((w6.setCell ⟨g, 0, none⟩ (.int .i64 2)).setCell ⟨g, 1, none⟩ (.int .i64 10)).setCell ⟨g, 2, none⟩ (.int .i64 8)).setCell ⟨g, 3, none⟩ (.int .i64 4)).setCell ⟨g, 4, none⟩ (.int .i64 32) = W7 at hz7 hb7 ⊢
      obtain ⟨q0, q1, q2, q3, q4⟩ := hz7.five
      exact bodyPost_ret (v := .tuple #[.agg #[.int .i64 2, .int .i64 10, .int .i64 8, .int .i64 4, .int .i64 32], .int .i64 0]) (by simp [results, Tryz.results65, go_sem, q0, q1, q2, q3, q4]) rfl ⟨rfl, hb7⟩
end Go.Proofs.YtianlhigeabehaaGreatDoor
