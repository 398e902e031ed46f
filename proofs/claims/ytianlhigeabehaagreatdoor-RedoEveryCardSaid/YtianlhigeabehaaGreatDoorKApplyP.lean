/- The document's writer behind a constant's row: the first number. -/
import Derived.Test.YtianlhigeabehaaGreatDoorKRefE
import Derived.ArgAppend
import Derived.Lib.SlBytesConst
import Derived.Test.YtianlhigeabehaaGreatDoorKLogB
namespace Go.Proofs.YtianlhigeabehaaGreatDoor
open Go.RowKit

def bs8 : List UInt8 := [67, 79, 77, 77, 79, 78, 83, 49]
theorem xfail_blk {p : Nat} {V : Value} {w : World} (hb : Blk w p 120 #[V, .int .i64 0]) : Calls Tryz.prog 112 #[.pointer (some ⟨p, 0, none⟩), .int .i64 0] w fun r w' => r = .returned (.bool false) ∧ w' = w.setCell ⟨p, 1, none⟩ (.int .i64 0) := by
  have x1 : w.cell? ⟨p, 1, none⟩ = some (.int .i64 0) := hb.cell 1
  have f1 := hb.frozen 1
  clear hb
  go_enter Tryz.func112, Tryz.ntmps112
  go_wp2
  go_ret
  exact ⟨rfl, rfl⟩
set_option maxRecDepth 100000 in
set_option maxHeartbeats 2000000 in
theorem xnum_first {o : Nat → Nat} {c p g : Nat} {w : World} (hb : Blk w p 120 #[.slice (some ⟨g, 0, none⟩) 8 8, .int .i64 0]) (hc : o p = c) (hgl : g < w.heap.size) (hog : o g ≠ c) (hrd : ∀ j u, (bvs bs8)[j]? = some u → w.cell? ((⟨g, 0, none⟩ : Addr).add j) = some u) (v : Nat) (hv : v < 4294967296) :
    Calls Tryz.prog 66 #[.pointer (some ⟨p, 0, none⟩), .int .u64 v, .int .i64 4] w fun r w' => r = .returned (.tuple #[]) ∧ ∃ o', WrAt 120 o' c w' p ⟨bs8 ++ le v 4, 0⟩ ∧ Step o (only c) w o' w' := by
  obtain ⟨i0, hi0, hz0, hz1, hz2⟩ := info_parts info_u8
  have HB0 := Lib.hid hb
  have HC := Lib.hid hc
  have HGL := Lib.hid hgl
  have HOG := Lib.hid hog
  have HRD := Lib.hid hrd
  have HV0 := Lib.hid hv
  have HB1 := Lib.hid (hb.set_ 1 (.int .i64 0))
  have HS1 := Lib.hid ((Step.refl o (only c) w).setCell (p := ⟨p, 1, none⟩) hc (.int .i64 0))
  have HPL := Lib.hid hb.lt
  clear hb hc hgl hog hrd hv
  go_enter Tryz.func66, Tryz.ntmps66
  go_wp2_with fail
  refine (xfail_blk HB0.out).mono ?_
  rintro e w1 ⟨rfl, rfl⟩
  generalize w.setCell ⟨p, 1, none⟩ (.int .i64 0) = W1 at HB1 HS1 ⊢
  go_wp2_with fail
  go_loopw [1, 6, 7] (fun t1 t6 t7 wr => ∃ (k : Nat) (o' : Nat → Nat), k ≤ 4 ∧ t7 = .int .i64 k ∧ t1 = .int .u64 ((v / 256 ^ k : Nat) : Int) ∧ OwnS o' (c + 1) wr 5 1 t6 k (bvs (le v k)) ∧ (∀ g, t6.ownBlock = some g → w.heap.size ≤ g) ∧ Blk wr p 120 #[.slice (some ⟨g, 0, none⟩) 8 8, .int .i64 0] ∧ Step o (only c) w o' wr) (fun _ _ t7 _ => 4 - (intOf t7).toNat)
  case atStart => exact ⟨0, o, Nat.zero_le _, rfl, by simp, OwnS.nil _ _ _ _ _, by simp [Value.ownBlock], HB1.out, HS1.out⟩
  case round =>
    obtain ⟨k, o1, hk, rfl, rfl, hown6, hblk6, hw, hst⟩ := hrel
    obtain ⟨A6, cap6, rfl, hle6, hcap6⟩ := own_form' hown6
    unfold maxLen at hcap6
    have hu : v / 256 ^ k < 18446744073709551616 := Nat.lt_of_le_of_lt (Nat.div_le_self _ _) (by have := HV0.out; omega)
    have HNX := Lib.hid (show v / 256 ^ (k + 1) = v / 256 ^ k / 256 by rw [Nat.pow_succ, Nat.div_div_eq_div_mul])
    have HSN := Lib.hid (show le v (k + 1) = le v k ++ [UInt8.ofNat (v / 256 ^ k)] from rfl)
    have HZ4 := Lib.hid (show k = 4 → v / 256 ^ k = 0 from fun e => by rw [e]; exact Nat.div_eq_of_lt HV0.out)
    generalize v / 256 ^ k = u at hu HNX HSN HZ4
    have HO6 := Lib.hid hown6
    have HB6 := Lib.hid hblk6
    have HWK := Lib.hid hw
    have HST := Lib.hid hst
    clear hown6 hblk6 hw hst
    by_cases hlt : k < 4
    · have hltI : (k : Int) < 4 := by omega
      have HU := Lib.hid hu
      clear hu
      go_wp2_with (at_builtin; refine wpList_append_S _ rfl (.tmp 23) (.tmp 27) 112 rfl 5 i0 _ 1 1 Tryz.underlying112 hi0 hz0 hz1 hz2 rfl (by omega) (.slice A6 k cap6) k (bvs (le v k)) rfl (HO6.out.alloc _) (some ⟨wr.heap.size, 0, none⟩) 1 1 [.int .u8 ((u : Int) % 256)] rfl (Reads.newAt wr 5 1 1 [.int .u8 ((u : Int) % 256)] #[.int .u8 ((u : Int) % 256)] wr.heap.size rfl rfl rfl) (by simp [Value.oneCell']) (by unfold maxLen; omega) (by omega) ?_; intro v2 w2 hown hst hg hat; have HO2 := Lib.hid hown; have HS2 := Lib.hid hst; have HG2 := Lib.hid hg; have HA2 := Lib.hid hat; clear hown hst hg hat)
      go_roundw
      case rel =>
        have hbv : bvs (le v k) ++ [.int .u8 ((u : Int) % 256)] = bvs (le v (k + 1)) := by
          rw [HSN.out, bvs_app]
          simp [bvs, bv]
        have hst0 := HST.out.size
        refine ⟨k + 1, _, by omega, by go_num, by rw [HNX.out, IntKind.wrap_u64]; have h9 := HU.out; congr 1; omega, by rw [← hbv]; exact HO2.out, ?_, (HWK.out.alloc _).step HS2.out (by rw [HST.out.old p HPL.out, HC.out]; unfold only; omega), (HST.out.alloc _).grownNew (c + 1) HG2.out HB6.out⟩
        intro g hg
        rcases HA2.out with h2 | h2
        · exact HB6.out g (h2 ▸ hg)
        · rw [h2] at hg
          injection hg with hg
          simp at hg
          omega
      case measure => simp [intOf]; omega
    · have hltI : ¬ (k : Int) < 4 := by omega
      obtain rfl : k = 4 := by omega
      obtain rfl : u = 0 := HZ4.out rfl
      have hbg : wr.heap[g]? = w.heap[g]? := HST.out.block g HGL.out HOG.out
      have HCL := Lib.hid (show ∀ b, some (⟨g, 0, none⟩ : Addr) = some b → ∀ j u, (bvs bs8)[j]? = some u → wr.cell? (b.add j) = some u from fun b e j u hj => by
        injection e with e
        subst e
        have h1 : wr.cell? ((⟨g, 0, none⟩ : Addr).add j) = w.cell? ((⟨g, 0, none⟩ : Addr).add j) := World.cell?_of_block (by rw [block_of_add]; exact hbg)
        exact h1.trans (HRD.out j u hj))
      obtain ⟨ax, rfl, hrx⟩ := (Reads.of_own HO6.out.1).2 (by omega)
      have HRX := Lib.hid hrx
      have y0 : wr.cell? ⟨p, 0, none⟩ = some (.slice (some ⟨g, 0, none⟩) 8 8) := HWK.out.cell 0
      have y1 : wr.cell? ⟨p, 1, none⟩ = some (.int .i64 0) := HWK.out.cell 1
      have f0 := HWK.out.frozen 0
      clear hbg hrx
      go_wp2_with (at_builtin; refine wpList_append_grows _ rfl (.tmp 39) (.tmp 40) 112 rfl 5 i0 _ 1 1 Tryz.underlying112 hi0 hz0 hz1 hz2 rfl (by omega) (some ⟨g, 0, none⟩) 8 8 (bvs bs8) rfl (fun e => by cases e) rfl HCL.out ax 4 cap6 (bvs (le v 4)) rfl (by rw [bvs_len, le_len]) HRX.out (bvs_one _) (by omega) (by unfold maxLen; omega) (by omega) ?_; intro v2 w2 hrow hg; obtain ⟨A2, cap2, rfl, _, _⟩ := own_form' (own_band (o := o1) (c := c) hrow); have hb2 : Blk w2 p 120 #[.slice (some ⟨g, 0, none⟩) 8 8, .int .i64 0] := (hg.block p HWK.out.lt (by simp)).trans HWK.out; have z0 := hb2.cell 0; have z1 := hb2.frozen 0; simp at z0; have HRW := Lib.hid hrow; have HG2 := Lib.hid hg; have HB2 := Lib.hid hb2; clear hrow hg hb2)
      first | go_end0 | refine bodyPost_ret (v := .tuple #[]) (by simp [results, Tryz.results66, go_sem]) rfl ?_
      have hs2 : Step o (only c) w (band o1 wr.heap.size w2.heap.size c) w2 := HST.out.grown HG2.out (fun k e => by cases e)
      have hcol : band o1 wr.heap.size w2.heap.size c p = c := (hs2.old p HPL.out).trans HC.out
      have hll : (bs8 ++ le v 4).length = 8 + 4 := by rw [List.length_append, le_len]; rfl
      have ho2 := own_band (o := o1) (c := c) HRW.out
      have h4 := WrAt.setB (W := ⟨bs8, 0⟩) (l := bs8 ++ le v 4) HB2.out hcol (by decide) (by rw [hll, bvs_app]; exact ho2)
      refine ⟨rfl, _, ?_, hs2.setCell (p := ⟨p, 0, none⟩) hcol _⟩
      rw [hll] at h4
      exact h4
end Go.Proofs.YtianlhigeabehaaGreatDoor

/- The document's PutShape at the one shape (printed by gen/mkreff.py). -/
namespace Go.Proofs.YtianlhigeabehaaGreatDoor
open Go.RowKit

theorem marked_cell {W : World} {g : Nat} {C : Array Value} {t : TypeId} {fr : Nat × Nat} (h : W.heap[g]? = some (.cells C t fr)) {xs : List Value} (hx : C.toList = xs) : ∀ j u, xs[j]? = some u → W.cell? ((⟨g, 0, none⟩ : Addr).add j) = some u := by
  intro j u hj
  have e : (⟨g, 0, none⟩ : Addr).add j = ⟨g, j, none⟩ := by unfold Addr.add; split <;> simp_all
  rw [e, ← hj, ← hx, Array.getElem?_toList]
  unfold World.cell?
  simp [h]
theorem put_start {w w1 : World} {g : Nat} (hb : Below w.heap.size w w1) (hk : Blk w1 g 29 #[.int .i64 2, .int .i64 10, .int .i64 8, .int .i64 4, .int .i64 32]) : ∃ o, Blk ((w1.alloc (.cells #[.int .u8 67, .int .u8 79, .int .u8 77, .int .u8 77, .int .u8 79, .int .u8 78, .int .u8 83, .int .u8 49] 5 (8, 9))).alloc (.cells #[.slice (some ⟨w1.heap.size, 0, none⟩) 8 8, .int .i64 0] 120)) (w1.heap.size + 1) 120 #[.slice (some ⟨w1.heap.size, 0, none⟩) 8 8, .int .i64 0] ∧ o (w1.heap.size + 1) = 1 ∧ w1.heap.size < ((w1.alloc (.cells #[.int .u8 67, .int .u8 79, .int .u8 77, .int .u8 77, .int .u8 79, .int .u8 78, .int .u8 83, .int .u8 49] 5 (8, 9))).alloc (.cells #[.slice (some ⟨w1.heap.size, 0, none⟩) 8 8, .int .i64 0] 120)).heap.size ∧ o w1.heap.size ≠ 1 ∧ (∀ j u, (bvs bs8)[j]? = some u → ((w1.alloc (.cells #[.int .u8 67, .int .u8 79, .int .u8 77, .int .u8 77, .int .u8 79, .int .u8 78, .int .u8 83, .int .u8 49] 5 (8, 9))).alloc (.cells #[.slice (some ⟨w1.heap.size, 0, none⟩) 8 8, .int .i64 0] 120)).cell? ((⟨w1.heap.size, 0, none⟩ : Addr).add j) = some u) ∧ Env o w ((w1.alloc (.cells #[.int .u8 67, .int .u8 79, .int .u8 77, .int .u8 77, .int .u8 79, .int .u8 78, .int .u8 83, .int .u8 49] 5 (8, 9))).alloc (.cells #[.slice (some ⟨w1.heap.size, 0, none⟩) 8 8, .int .i64 0] 120)) ∧ Fut o ((w1.alloc (.cells #[.int .u8 67, .int .u8 79, .int .u8 77, .int .u8 77, .int .u8 79, .int .u8 78, .int .u8 83, .int .u8 49] 5 (8, 9))).alloc (.cells #[.slice (some ⟨w1.heap.size, 0, none⟩) 8 8, .int .i64 0] 120)) ∧ Keep o ((w1.alloc (.cells #[.int .u8 67, .int .u8 79, .int .u8 77, .int .u8 77, .int .u8 79, .int .u8 78, .int .u8 83, .int .u8 49] 5 (8, 9))).alloc (.cells #[.slice (some ⟨w1.heap.size, 0, none⟩) 8 8, .int .i64 0] 120)) g 29 #[.int .i64 2, .int .i64 10, .int .i64 8, .int .i64 4, .int .i64 32] := by
  have z1 : (w1.alloc (.cells #[.int .u8 67, .int .u8 79, .int .u8 77, .int .u8 77, .int .u8 79, .int .u8 78, .int .u8 83, .int .u8 49] 5 (8, 9))).heap.size = w1.heap.size + 1 := by simp
  obtain ⟨o2, h2, s2⟩ := alloc_as (fun _ => 0) w1 (.cells #[.int .u8 67, .int .u8 79, .int .u8 77, .int .u8 77, .int .u8 79, .int .u8 78, .int .u8 83, .int .u8 49] 5 (8, 9)) 0
  obtain ⟨o3, h3, s3⟩ := alloc_as o2 (w1.alloc (.cells #[.int .u8 67, .int .u8 79, .int .u8 77, .int .u8 77, .int .u8 79, .int .u8 78, .int .u8 83, .int .u8 49] 5 (8, 9))) (.cells #[.slice (some ⟨w1.heap.size, 0, none⟩) 8 8, .int .i64 0] 120) 1
  have s := s2.trans s3
  have b2 := Blk.new (w1.alloc (.cells #[.int .u8 67, .int .u8 79, .int .u8 77, .int .u8 77, .int .u8 79, .int .u8 78, .int .u8 83, .int .u8 49] 5 (8, 9))) 120 #[.slice (some ⟨w1.heap.size, 0, none⟩) 8 8, .int .i64 0]
  rw [z1] at h3 b2
  have c1 : o3 w1.heap.size = 0 := (s3.old _ (by rw [z1]; omega)).trans h2
  have hg : ((w1.alloc (.cells #[.int .u8 67, .int .u8 79, .int .u8 77, .int .u8 77, .int .u8 79, .int .u8 78, .int .u8 83, .int .u8 49] 5 (8, 9))).alloc (.cells #[.slice (some ⟨w1.heap.size, 0, none⟩) 8 8, .int .i64 0] 120)).heap[w1.heap.size]? = some (.cells #[.int .u8 67, .int .u8 79, .int .u8 77, .int .u8 77, .int .u8 79, .int .u8 78, .int .u8 83, .int .u8 49] 5 (8, 9)) := (Below.heap_alloc _ _ _ (by rw [z1]; omega)).trans (heap_alloc_new w1 _)
  exact ⟨o3, b2, h3, by simp; omega, by rw [c1]; decide, marked_cell hg rfl, ((Env.start w).below_ hb).step s id, (show Fut (fun _ => 0) w1 from fun _ _ => rfl).step s, hk.step s id, s.old g hk.lt⟩
theorem bs_add (k : Nat) : (bs8 ++ preP k) ++ le (shp k) (Int.toNat 4) = bs8 ++ preP (k + 1) := by
  rw [List.append_assoc]
  rfl
theorem bs_len (k : Nat) (h : k ≤ 5) : (bs8 ++ preP k).length ≤ 1000000000 := by
  rw [List.length_append, preP_len]
  show 8 + 4 * k ≤ _
  omega
theorem shp_ok (k : Nat) : numOk (shp k) 4 := by
  have := shp_le k
  unfold numOk
  refine ⟨by omega, by omega, ?_⟩
  show shp k < 4294967296
  omega
set_option maxRecDepth 100000 in
set_option maxHeartbeats 4000000 in
theorem refputshape_any (w : World) : Calls Tryz.prog 25 #[.agg #[.int .i64 2, .int .i64 10, .int .i64 8, .int .i64 4, .int .i64 32]] w fun e w' => e = .returned (.tuple #[.string (str superL), .int .i64 0]) ∧ Below w.heap.size w w' := by
  have HB := Lib.hid ((Below.refl w.heap.size w).alloc (Nat.le_refl _) (.cells #[.int .i64 2, .int .i64 10, .int .i64 8, .int .i64 4, .int .i64 32] 29))
  have HK := Lib.hid (Blk.new w 29 #[.int .i64 2, .int .i64 10, .int .i64 8, .int .i64 4, .int .i64 32])
  go_enter Tryz.func25, Tryz.ntmps25
  obtain ⟨x0, x1, x2, x3, x4⟩ := HK.out.five
  go_wp2_with fail
  refine (refvalid_any _).mono ?_
  rintro e w1 ⟨rfl, hb1⟩
  obtain ⟨o0, hwb, hwc, hgl, hog, hrd, henv, hfut, hk⟩ := put_start (HB.out.trans (hb1.mono HB.out.size)) (HK.out.below_ hb1)
  have HF1 := Lib.hid (xnum_first hwb hwc hgl hog hrd (shp 0) (by have := shp_le 0; omega))
  have HEN := Lib.hid henv
  have HFU := Lib.hid hfut
  have HK0 := Lib.hid hk
  clear hk hb1 x0 x1 x2 x3 x4 hwb hwc hgl hog hrd henv hfut
  have kc := Lib.run_convert_bytes_const (P := Tryz.prog) w1 112 5 #[.int .u8 67, .int .u8 79, .int .u8 77, .int .u8 77, .int .u8 79, .int .u8 78, .int .u8 83, .int .u8 49] 8 8 Tryz.underlying112 Tryz.underlying5
  go_upto_region 4 with (fail)
  clear kc
  generalize ((w1.alloc (.cells #[.int .u8 67, .int .u8 79, .int .u8 77, .int .u8 77, .int .u8 79, .int .u8 78, .int .u8 83, .int .u8 49] 5 (8, 9))).alloc (.cells #[.slice (some ⟨w1.heap.size, 0, none⟩) 8 8, .int .i64 0] 120)) = W0 at HF1 HEN HFU HK0 ⊢
  generalize w1.heap.size + 1 = p at HF1 ⊢
  obtain ⟨x0, x1, x2, x3, x4⟩ := HK0.out.1.five
  go_wp2_with fail
  refine HF1.out.mono ?_
  rintro e w2 ⟨rfl, o1, hx, hs⟩
  have HX1 := Lib.hid (show Xg o1 w w2 p (bs8 ++ preP 1) from ⟨hx, HEN.out.step hs no10, HFU.out.step hs⟩)
  have HK1 := Lib.hid (HK0.out.step hs no10)
  clear hx hs x0 x1 x2 x3 x4
  obtain ⟨x0, x1, x2, x3, x4⟩ := HK1.out.1.five
  go_wp2_with fail
  refine (xnum_ok HX1.out (shp 1) 4 (shp_ok 1) (by have := shp_le 1; omega) (bs_len 1 (by omega))).mono ?_
  rintro e w3 ⟨rfl, o2, hx, hs⟩
  rw [bs_add 1] at hx
  have HX2 := Lib.hid hx
  have HK2 := Lib.hid (HK1.out.step hs no10)
  clear hx hs x0 x1 x2 x3 x4
  obtain ⟨x0, x1, x2, x3, x4⟩ := HK2.out.1.five
  go_wp2_with fail
  refine (xnum_ok HX2.out (shp 2) 4 (shp_ok 2) (by have := shp_le 2; omega) (bs_len 2 (by omega))).mono ?_
  rintro e w4 ⟨rfl, o3, hx, hs⟩
  rw [bs_add 2] at hx
  have HX3 := Lib.hid hx
  have HK3 := Lib.hid (HK2.out.step hs no10)
  clear hx hs x0 x1 x2 x3 x4
  obtain ⟨x0, x1, x2, x3, x4⟩ := HK3.out.1.five
  go_wp2_with fail
  refine (xnum_ok HX3.out (shp 3) 4 (shp_ok 3) (by have := shp_le 3; omega) (bs_len 3 (by omega))).mono ?_
  rintro e w5 ⟨rfl, o4, hx, hs⟩
  rw [bs_add 3] at hx
  have HX4 := Lib.hid hx
  have HK4 := Lib.hid (HK3.out.step hs no10)
  clear hx hs x0 x1 x2 x3 x4
  obtain ⟨x0, x1, x2, x3, x4⟩ := HK4.out.1.five
  go_wp2_with fail
  refine (xnum_ok HX4.out (shp 4) 4 (shp_ok 4) (by have := shp_le 4; omega) (bs_len 4 (by omega))).mono ?_
  rintro e w6 ⟨rfl, o5, hx, hs⟩
  rw [bs_add 4] at hx
  have HX5 := Lib.hid hx
  have HK5 := Lib.hid (HK4.out.step hs no10)
  clear hx hs x0 x1 x2 x3 x4
  obtain ⟨A, cap, c0, hcv⟩ := HX5.out.conv
  have HSB := Lib.hid (show str (bs8 ++ preP 5) = str superT from rfl)
  rw [HSB.out] at hcv
  have HZ := Lib.hid (show (str superT).size ≤ 60 by rw [str_size, superT_len]; omega)
  have HF := Lib.hid (show str (stampL (str superT).data.toList 64) = str superL by rw [str_list]; rfl)
  generalize (bs8 ++ preP 5).length = L at c0 hcv
  generalize str superT = Q at hcv HZ HF
  go_wp2_with fail
  refine (xstamp_any Q HZ.out w6).mono ?_
  rintro e w7 ⟨rfl, hb7⟩
  rw [HF.out]
  have HB7 := Lib.hid (HX5.out.env.low.trans (hb7.mono HX5.out.env.low.size))
  clear hb7
  go_wp2_with fail
  go_ret2
  exact ⟨rfl, HB7.out⟩
end Go.Proofs.YtianlhigeabehaaGreatDoor

/- Apply and Run, plain. -/
namespace Go.Proofs.YtianlhigeabehaaGreatDoor
open Go.RowKit

structure ApR where
  n : Nat
  e : Int
  D : Dk
def tornE (e : Int) : Bool := decide (e = 6 ∨ e = 4)
def applyGo (node : Int) (epoch : Nat) : List Im → Nat → Dk → ApR
  | [], n, D => ⟨n, 0, D⟩
  | i :: l, n, D => if (D.load i.block).2 ≠ 0 ∧ tornE (D.load i.block).2 = false then ⟨0, (D.load i.block).2, D⟩
    else if tornE (D.load i.block).2 = false ∧ i.ver ≤ (D.load i.block).1.ver then applyGo node epoch l n D
    else if (D.store node epoch i).1 ≠ 0 then ⟨0, (D.store node epoch i).1, (D.store node epoch i).2⟩
    else applyGo node epoch l (n + 1) (D.store node epoch i).2
def applyR (D : Dk) (node : Int) (epoch : Nat) (l : List Im) : ApR :=
  if (applyGo node epoch l 0 D).e ≠ 0 then applyGo node epoch l 0 D else if (applyGo node epoch l 0 D).n = 0 then applyGo node epoch l 0 D
  else if ((applyGo node epoch l 0 D).D.barrier node epoch).1 ≠ 0 then ⟨0, ((applyGo node epoch l 0 D).D.barrier node epoch).1, ((applyGo node epoch l 0 D).D.barrier node epoch).2⟩
  else ⟨(applyGo node epoch l 0 D).n, 0, ((applyGo node epoch l 0 D).D.barrier node epoch).2⟩
/-- a log of an epoch is done again, by another node -/
def runR (D : Dk) (node : Int) (of_ : Nat) (by_ : Int) (epoch : Nat) : ApR :=
  if D.headE node ≠ 0 then ⟨0, D.headE node, D⟩ else if D.headI node = false ∨ (D.headH node).epoch ≠ of_ then ⟨0, 0, D⟩
  else if D.scanE node ≠ 0 then ⟨0, D.scanE node, D⟩
  else if (applyR D by_ epoch (planOf (D.scan node))).e ≠ 0 then ⟨0, (applyR D by_ epoch (planOf (D.scan node))).e, (applyR D by_ epoch (planOf (D.scan node))).D⟩
  else if ((applyR D by_ epoch (planOf (D.scan node))).D.write by_ epoch (logAt node).1 (str (zer 64))).1 ≠ 0 then ⟨0, ((applyR D by_ epoch (planOf (D.scan node))).D.write by_ epoch (logAt node).1 (str (zer 64))).1, ((applyR D by_ epoch (planOf (D.scan node))).D.write by_ epoch (logAt node).1 (str (zer 64))).2⟩
  else if (((applyR D by_ epoch (planOf (D.scan node))).D.write by_ epoch (logAt node).1 (str (zer 64))).2.barrier by_ epoch).1 ≠ 0 then ⟨0, (((applyR D by_ epoch (planOf (D.scan node))).D.write by_ epoch (logAt node).1 (str (zer 64))).2.barrier by_ epoch).1, (((applyR D by_ epoch (planOf (D.scan node))).D.write by_ epoch (logAt node).1 (str (zer 64))).2.barrier by_ epoch).2⟩
  else ⟨(applyR D by_ epoch (planOf (D.scan node))).n, 0, (((applyR D by_ epoch (planOf (D.scan node))).D.write by_ epoch (logAt node).1 (str (zer 64))).2.barrier by_ epoch).2⟩
theorem Tame.store {D : Dk} {k : Nat} (h : Tame D k) (n : Int) (e : Nat) (i : Im) : Tame (D.store n e i).2 (k + 2) := by
  unfold Dk.store
  split
  · exact h.mono (by omega)
  · split
    · exact h.mono (by omega)
    · rename_i hr
      have hr : i.right := Classical.byContradiction hr
      exact (h.write _ _ _ _).mono (by rw [str_size, blkL_len hr]; omega)
theorem applyGo_cons (node : Int) (epoch : Nat) (i : Im) (l : List Im) (n : Nat) (D : Dk) : applyGo node epoch (i :: l) n D = if (D.load i.block).2 ≠ 0 ∧ tornE (D.load i.block).2 = false then ⟨0, (D.load i.block).2, D⟩
    else if tornE (D.load i.block).2 = false ∧ i.ver ≤ (D.load i.block).1.ver then applyGo node epoch l n D
    else if (D.store node epoch i).1 ≠ 0 then ⟨0, (D.store node epoch i).1, (D.store node epoch i).2⟩
    else applyGo node epoch l (n + 1) (D.store node epoch i).2 := rfl
end Go.Proofs.YtianlhigeabehaaGreatDoor
