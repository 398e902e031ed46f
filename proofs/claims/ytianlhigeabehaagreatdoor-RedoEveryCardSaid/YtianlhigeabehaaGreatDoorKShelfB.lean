/- Blocks: Put, one sector read, Get. -/
import Derived.Test.YtianlhigeabehaaGreatDoorKBlkB
import Derived.Test.YtianlhigeabehaaGreatDoorKShelf
namespace Go.Proofs.YtianlhigeabehaaGreatDoor
open Go.RowKit

def preB (i : Im) : Nat → List UInt8
  | 0 => []
  | k + 1 => preB i k ++ secL i k
theorem preB_two (i : Im) : preB i 2 = blkL i := by simp [preB, blkL]
theorem preB_len {i : Im} (h : i.right) : ∀ k, k ≤ 2 → (preB i k).length = k * 64
  | 0, _ => rfl
  | k + 1, hk => by
    have ih := preB_len h k (by omega)
    show (preB i k ++ secL i k).length = _
    rw [List.length_append, ih, secL_len h (by omega)]
    omega
set_option maxRecDepth 100000 in
set_option maxHeartbeats 2000000 in
theorem kput_ok (n v : Nat) (d : ByteArray) (w : World) (hn : n < 4096) (hv : v < 18446744073709551616) (hd : d.size = 96) :
    Calls Tryz.prog 133 #[.agg #[.int .i64 (n : Int), .int .u64 (v : Int), .string d]] w fun e w' => e = .returned (.tuple #[.string (str (blkL ⟨n, v, d⟩)), .int .i64 0]) ∧ Below w.heap.size w w' := by
  have hr : Im.right ⟨n, v, d⟩ := ⟨by simp, by simp; omega, hd⟩
  have HR := Lib.hid hr
  have HDT := Lib.hid (decide_eq_true hr)
  have HML := Lib.hid (show d.size ≤ maxLen by unfold maxLen; omega)
  have HN := Lib.hid hn
  have HV := Lib.hid hv
  have HD := Lib.hid hd
  have hb0 := (Below.refl w.heap.size w).alloc (Nat.le_refl _) (.cells #[.int .i64 (n : Int), .int .u64 (v : Int), .string d] 40)
  have HB0 := Lib.hid hb0
  have HK0 := Lib.hid (Blk.new w 40 #[.int .i64 (n : Int), .int .u64 (v : Int), .string d])
  clear hr hn hv hd hb0
  go_enter Tryz.func133, Tryz.ntmps133
  go_wp2_with fail
  generalize w.alloc (.cells #[.int .i64 (n : Int), .int .u64 (v : Int), .string d] 40) = W at HB0 HK0 ⊢
  refine (right_any ⟨n, v, d⟩ W HML.out).mono ?_
  rintro e w1 ⟨rfl, hb1⟩
  rw [HDT.out]
  have HB1 := Lib.hid (HB0.out.trans (hb1.mono HB0.out.size))
  have HK1 := Lib.hid (HK0.out.below_ hb1)
  clear hb1
  go_wp2_with fail
  go_loopw [4, 11] (fun t4 t11 wr => ∃ k : Nat, k ≤ 2 ∧ t11 = .int .i64 k ∧ t4 = .string (str (preB ⟨n, v, d⟩ k)) ∧ Below w.heap.size w wr ∧ Blk wr w.heap.size 40 #[.int .i64 (n : Int), .int .u64 (v : Int), .string d]) (fun _ t11 _ => 2 - (intOf t11).toNat)
  case atStart => exact ⟨0, by omega, rfl, rfl, HB1.out, HK1.out⟩
  case round =>
    obtain ⟨k, hk, rfl, rfl, hb, hblk⟩ := hrel
    have HB := Lib.hid hb
    have HK := Lib.hid hblk
    clear hb hblk
    by_cases hlt : k < 2
    · have hltI : (k : Int) < 2 := by omega
      obtain ⟨x0, x1, x2⟩ := HK.out.three
      have hk1 : k ≤ 1 := by omega
      have HC := Lib.hid (show str (preB ⟨n, v, d⟩ k) ++ str (secL ⟨n, v, d⟩ k) = str (preB ⟨n, v, d⟩ (k + 1)) from str_append _ _)
      have hl := preB_len HR.out k hk
      have hcat : (str (preB ⟨n, v, d⟩ k)).size + (str (secL ⟨n, v, d⟩ k)).size ≤ 9223372036854775807 := by rw [str_size, str_size, hl, secL_len HR.out hk1]; omega
      clear hl
      go_wp2_with fail
      refine (sector_any n v d k _ HN.out HV.out HD.out hk1).mono ?_
      rintro e w2 ⟨rfl, hb2⟩
      have HB2 := Lib.hid (HB.out.trans (hb2.mono HB.out.size))
      have HK2 := Lib.hid (HK.out.below_ hb2)
      clear hb2
      go_wp2_with fail
      go_roundw
      case rel => exact ⟨k + 1, by omega, by go_num, by rw [← HC.out], HB2.out, HK2.out⟩
      case measure => simp [intOf]; omega
    · have hltI : ¬ (k : Int) < 2 := by omega
      obtain rfl : k = 2 := by omega
      have HE := Lib.hid (preB_two ⟨n, v, d⟩)
      go_wp2_with fail
      go_ret2
      exact ⟨by rw [← HE.out]; rfl, HB.out⟩
theorem Blk.put3 {w : World} {g : Nat} {t : TypeId} {a b c : Value} (h : Blk w g t #[a, b, c]) (x y z : Value) : Blk (((w.setCell ⟨g, 0, none⟩ x).setCell ⟨g, 1, none⟩ y).setCell ⟨g, 2, none⟩ z) g t #[x, y, z] := ((h.set_ 0 x).set_ 1 y).set_ 2 z
theorem below_put3 {B g : Nat} {w0 w : World} (h : Below B w0 w) (hg : B ≤ g) (x y z : Value) : Below B w0 (((w.setCell ⟨g, 0, none⟩ x).setCell ⟨g, 1, none⟩ y).setCell ⟨g, 2, none⟩ z) :=
  ((h.setCell (p := ⟨g, 0, none⟩) hg x).setCell (p := ⟨g, 1, none⟩) hg y).setCell (p := ⟨g, 2, none⟩) hg z
theorem wrap_small {v : Nat} (h : v < 4294967296) : IntKind.i64.wrap (v : Int) = (v : Int) := IntWalk.i64_in _ (by omega)
theorem rest_str (l : List UInt8) (k : Nat) : (str l).extract k (str l).size = str (l.drop k) := by rw [extract_str, str_size, List.take_length]
set_option maxRecDepth 100000 in
set_option maxHeartbeats 2000000 in
theorem kread_any (b : ByteArray) (k : Nat) (w : World) (hb : b.size = 128) (hk : k ≤ 1) :
    Calls Tryz.prog 107 #[.string b, .int .i64 (k : Int)] w fun e w' => e = .returned (.tuple #[(secG b k).1.agg, .int .i64 (secG b k).2]) ∧ Below w.heap.size w w' := by
  obtain ⟨lo, hlo⟩ : ∃ lo, k * 64 = lo := ⟨_, rfl⟩
  obtain ⟨hi, hhi⟩ : ∃ hi, (k + 1) * 64 = hi := ⟨_, rfl⟩
  have e1 : (k : Int) * 64 = (lo : Int) := by omega
  have e2 : ((k : Int) + 1) * 64 = (hi : Int) := by omega
  have b0 : (0 : Int) ≤ (lo : Int) := by omega
  have b1 : (lo : Int) ≤ (hi : Int) := by omega
  have b2 : (hi : Int) ≤ (b.size : Int) := by omega
  have kI0 : (0 : Int) ≤ (k : Int) := by omega
  have kI1 : (k : Int) ≤ 1 := by omega
  have hxs : (b.extract lo hi).size = 64 := by rw [ByteArray.size_extract]; omega
  have HXS := Lib.hid (show (b.extract lo hi).size ≤ 1000000000 by omega)
  have hG : secG b k = if readE (b.extract lo hi).data.toList = 0 then (secI (readL (b.extract lo hi).data.toList), 0) else (Im.zero, readE (b.extract lo hi).data.toList) := by unfold secG; rw [hlo, hhi]
  have HG := Lib.hid hG
  have HL := Lib.hid (show (b.extract lo hi).data.toList.length = 64 from hxs)
  have HB0 := Lib.hid ((Below.refl w.heap.size w).alloc (Nat.le_refl _) (.cells #[.int .i64 0, .int .u64 0, .string ⟨#[]⟩] 40))
  have HZ0 := Lib.hid (Blk.new w 40 #[.int .i64 0, .int .u64 0, .string ⟨#[]⟩])
  have HW0 := Lib.hid (Nat.le_refl w.heap.size)
  clear hlo hhi hxs hG hb hk
  go_enter Tryz.func107, Tryz.ntmps107
  go_wp2_with fail
  generalize w.alloc (.cells #[.int .i64 0, .int .u64 0, .string ⟨#[]⟩] 40) = W at HB0 HZ0 ⊢
  obtain ⟨q, hq⟩ : ∃ q, q = w.heap.size := ⟨_, rfl⟩
  have HQ := Lib.hid (show w.heap.size ≤ q by omega)
  rw [← hq] at HZ0 ⊢
  clear hq
  refine (sread_any (b.extract lo hi) HXS.out W).mono ?_
  rintro e w1 ⟨rfl, hb1⟩
  have hlt0 := HB0.out.size
  have HB1 := Lib.hid (show Below w.heap.size w w1 from HB0.out.trans (hb1.mono hlt0))
  have HZ1 := Lib.hid (HZ0.out.below_ hb1)
  clear hb1 hlt0
  by_cases he : readE (b.extract lo hi).data.toList = 0
  · have HR := Lib.hid (show secG b k = (secI (readL (b.extract lo hi).data.toList), 0) by rw [HG.out, if_pos he])
    rw [he]
    have ht := readL_len he
    rw [HL.out] at ht
    have HE := Lib.hid he
    clear he
    generalize readL (b.extract lo hi).data.toList = t at HR ht ⊢
    have hsz : (str t).size = 60 := by rw [str_size, ht]
    have HT := Lib.hid ht
    have s1 : (48 : Int) ≤ ((str t).size : Int) := by rw [hsz]; omega
    have hfst : (str t).extract 0 48 = str (t.take 48) := by rw [extract_str, List.drop_zero]
    have HRS := Lib.hid (rest_str t 48)
    have HFS := Lib.hid hfst
    have HN := Lib.hid (show (str (t.drop 48)).size ≤ 1000000000 by rw [str_size, List.length_drop, ht]; omega)
    clear hsz ht hfst
    go_upto_region 4 with (fail)
    go_wp2_with fail
    rw [HRS.out]
    refine (newreader_any (fun _ => 0) 1 (str (t.drop 48)) w1 HN.out).mono ?_
    rintro e w2 ⟨p, o2, rfl, hrd, hb2, hst2⟩
    have henv := ((Env.start w).below_ HB1.out).step (hst2 (fun _ => False)) (by simp)
    have HS2 := Lib.hid (show Gs 197 o2 w w2 p ⟨str (t.drop 48), 0⟩ from ⟨hrd, henv, (show Fut (fun _ => 0) w1 from fun _ _ => rfl).step (hst2 (fun _ => False))⟩)
    have HK2 := Lib.hid (Keep.step (o := fun _ => 0) (show Keep (fun _ => 0) w1 q 40 _ from ⟨HZ1.out, rfl⟩) (hst2 (fun _ => False)) (by simp))
    clear hrd hb2 hst2 henv
    obtain ⟨a, ha⟩ : ∃ a, a = (⟨str (t.drop 48), 0⟩ : Rd).numV 4 := ⟨_, rfl⟩
    obtain ⟨v, hv⟩ : ∃ v, v = ((⟨str (t.drop 48), 0⟩ : Rd).numR 4).numV 8 := ⟨_, rfl⟩
    have hal : a < 4294967296 := by rw [ha]; exact numV_lt _ 4 (by omega)
    have hwa := wrap_small hal
    have HA := Lib.hid ha
    have HV := Lib.hid hv
    clear ha hv hal
    have HN0 := Lib.hid (show ¬ only 1 0 by unfold only; omega)
    go_wp2_with fail
    go_region_held3 (fun _ => True) (first | exact trivial)
      (first | (go_at_call 111; ((with_reducible refine (rnum_g HS2.out.drew 4).mono ?_); rintro e3 w3 ⟨rfl, o3, hg3, hs3⟩; have hk3 := HK2.out.drew.step hs3 HN0.out; rw [← HA.out])) | (go_at_call 111; ((with_reducible refine (rnum_g hg3 8).mono ?_); rintro e4 w4 ⟨rfl, o4, hg4, hs4⟩; have hk4 := hk3.step hs4 HN0.out; have y0 := hk4.1.cell 0; have y1 := hk4.1.cell 1; have y2 := hk4.1.cell 2; have f0 := hk4.1.frozen 0; have f1 := hk4.1.frozen 1; have f2 := hk4.1.frozen 2; rw [← HV.out])))
    have HI := Lib.hid (show (secI t).agg = .agg #[.int .i64 (a : Int), .int .u64 (v : Int), .string ((str t).extract 0 48)] by unfold secI Im.agg; rw [HA.out, HV.out, HFS.out])
    have hz := hk4.1.put3 (.int .i64 (a : Int)) (.int .u64 (v : Int)) (.string ((str t).extract 0 48))
    have hbz := below_put3 hg4.env.low HQ.out (.int .i64 (a : Int)) (.int .u64 (v : Int)) (.string ((str t).extract 0 48))
    clear hg3 hs3 hk3 hg4 hs4 hk4 y0 y1 y2 f0 f1 f2 hwa
    generalize ((w4.setCell ⟨q, 0, none⟩ (.int .i64 (a : Int))).setCell ⟨q, 1, none⟩ (.int .u64 (v : Int))).setCell ⟨q, 2, none⟩ (.string ((str t).extract 0 48)) = W5 at hz hbz ⊢
    generalize (str t).extract 0 48 = F at HI hz ⊢
    have HZ := Lib.hid hz
    have HBZ := Lib.hid hbz
    clear hz hbz
    go_wp2_with fail
    obtain ⟨q0, q1, q2⟩ := HZ.out.three
    rw [HR.out]
    refine bodyPost_ret (v := .tuple #[.agg #[.int .i64 (a : Int), .int .u64 (v : Int), .string F], .int .i64 0]) (by simp [results, Tryz.results107, go_sem, q0, q1, q2]) rfl ⟨by rw [← HI.out], HBZ.out⟩
  · have HR := Lib.hid (show secG b k = (Im.zero, readE (b.extract lo hi).data.toList) by rw [HG.out, if_neg he])
    have t1 : (readE (b.extract lo hi).data.toList != 0) = true := bne_iff_ne.2 he
    have h2 : str (readL (b.extract lo hi).data.toList) = ⟨#[]⟩ := by unfold readL; rw [if_neg he]; rfl
    rw [h2]
    clear he h2
    generalize readE (b.extract lo hi).data.toList = E at HR t1 ⊢
    have y0 := HZ1.out.cell 0
    have y1 := HZ1.out.cell 1
    have y2 := HZ1.out.cell 2
    have f0 := HZ1.out.frozen 0
    have f1 := HZ1.out.frozen 1
    have f2 := HZ1.out.frozen 2
    simp at y0 y1 y2
    go_wp2_with fail
    have hz := HZ1.out.put3 (.int .i64 0) (.int .u64 0) (.string ⟨#[]⟩)
    have hbz := below_put3 HB1.out HQ.out (.int .i64 0) (.int .u64 0) (.string ⟨#[]⟩)
    generalize ((w1.setCell ⟨q, 0, none⟩ (.int .i64 0)).setCell ⟨q, 1, none⟩ (.int .u64 0)).setCell ⟨q, 2, none⟩ (.string ⟨#[]⟩) = W3 at hz hbz ⊢
    obtain ⟨q0, q1, q2⟩ := hz.three
    rw [HR.out]
    refine bodyPost_ret (v := .tuple #[.agg #[.int .i64 0, .int .u64 0, .string ⟨#[]⟩], .int .i64 E]) (by simp [results, Tryz.results107, go_sem, q0, q1, q2]) rfl ⟨rfl, hbz⟩
theorem secG_size (b : ByteArray) (k : Nat) (hb : b.size = 128) : (secG b k).1.data.size ≤ 128 := by
  unfold secG
  split
  · show (str ((readL (b.extract (k * 64) ((k + 1) * 64)).data.toList).take 48)).size ≤ 128
    rw [str_size, List.length_take]
    omega
  · exact Nat.zero_le _
set_option maxRecDepth 100000 in
set_option maxHeartbeats 4000000 in
theorem kget_any (block : Int) (b : ByteArray) (w : World) (hb : b.size ≤ 1000000000) :
    Calls Tryz.prog 57 #[.int .i64 block, .string b] w fun e w' => e = .returned (.tuple #[(getB block b).1.agg, .int .i64 (getB block b).2]) ∧ Below w.heap.size w w' := by
  have HB0 := Lib.hid ((Below.refl w.heap.size w).alloc (Nat.le_refl _) (.cells #[.int .i64 0, .int .u64 0, .string ⟨#[]⟩] 40))
  have HZ0 := Lib.hid (Blk.new w 40 #[.int .i64 0, .int .u64 0, .string ⟨#[]⟩])
  have fin : ∀ (W : World) (x : Im) (e : Int), Blk W w.heap.size 40 #[.int .i64 x.block, .int .u64 x.ver, .string x.data] → Below w.heap.size w W → getB block b = (x, e) →
      Blk W w.heap.size 40 #[.int .i64 x.block, .int .u64 x.ver, .string x.data] ∧ Below w.heap.size w W ∧ Ending.returned (.tuple #[.agg #[.int .i64 x.block, .int .u64 x.ver, .string x.data], .int .i64 e]) = .returned (.tuple #[(getB block b).1.agg, .int .i64 (getB block b).2]) := fun W x e h1 h2 h3 => ⟨h1, h2, by rw [h3]; rfl⟩
  have FIN := Lib.hid fin
  clear fin
  by_cases hs : b.size = 128
  · have hsI : ((b.size : Int) != 128) = false := by simp; omega
    by_cases hz : b = str (zer 128)
    · have HG := Lib.hid (show getB block b = (⟨block, 0, str (zer 96)⟩, 0) by unfold getB; rw [if_neg (by omega), if_pos hz])
      have HZ := Lib.hid hz
      clear hz hs
      go_enter Tryz.func57, Tryz.ntmps57
      go_wp2_with fail
      generalize w.alloc (.cells #[.int .i64 0, .int .u64 0, .string ⟨#[]⟩] 40) = W at HB0 HZ0 ⊢
      refine (zero_any 128 (by omega) (by omega) W).mono ?_
      rintro e w1 ⟨rfl, hb1⟩
      have HB1 := Lib.hid (HB0.out.trans (hb1.mono HB0.out.size))
      have HZ1 := Lib.hid (HZ0.out.below_ hb1)
      clear hb1
      rw [show ((128 : Int)).toNat = 128 from rfl, ← HZ.out]
      have t1 : (b.toList == b.toList) = true := beq_self_eq_true _
      go_wp2_with fail
      refine (zero_any 96 (by omega) (by omega) w1).mono ?_
      rintro e w2 ⟨rfl, hb2⟩
      have HB2 := Lib.hid (HB1.out.trans (hb2.mono HB1.out.size))
      have HZ2 := Lib.hid (HZ1.out.below_ hb2)
      clear hb2
      rw [show ((96 : Int)).toNat = 96 from rfl]
      have y0 := HZ2.out.cell 0
      have y1 := HZ2.out.cell 1
      have y2 := HZ2.out.cell 2
      have f0 := HZ2.out.frozen 0
      have f1 := HZ2.out.frozen 1
      have f2 := HZ2.out.frozen 2
      simp at y0 y1 y2
      go_wp2_with fail
      obtain ⟨hz3, hb3, he⟩ := FIN.out _ ⟨block, 0, str (zer 96)⟩ 0 (HZ2.out.put3 (.int .i64 block) (.int .u64 0) (.string (str (zer 96)))) (below_put3 HB2.out (Nat.le_refl _) _ _ _) HG.out
      rw [← he]
      clear y0 y1 y2 f0 f1 f2
      generalize ((w2.setCell ⟨w.heap.size, 0, none⟩ (.int .i64 block)).setCell ⟨w.heap.size, 1, none⟩ (.int .u64 0)).setCell ⟨w.heap.size, 2, none⟩ (.string (str (zer 96))) = W3 at hz3 hb3 ⊢
      obtain ⟨q0, q1, q2⟩ := hz3.three
      exact bodyPost_ret (v := .tuple #[.agg #[.int .i64 block, .int .u64 0, .string (str (zer 96))], .int .i64 0]) (by simp [results, Tryz.results57, go_sem, q0, q1, q2, Im.zero]) rfl ⟨rfl, hb3⟩
    · have t1 := str_neq hz
      have T1 := Lib.hid t1
      have HS := Lib.hid hs
      obtain ⟨G0, hG0⟩ : ∃ G, secG b 0 = G := ⟨_, rfl⟩
      obtain ⟨G1, hG1⟩ : ∃ G, secG b 1 = G := ⟨_, rfl⟩
      have HG : Hid (getB block b = if G0.2 ≠ 0 then (Im.zero, G0.2) else if G1.2 ≠ 0 then (Im.zero, G1.2) else if G0.1.block ≠ block ∨ G1.1.block ≠ block ∨ 4096 ≤ block then (Im.zero, 4) else if G0.1.ver ≠ G1.1.ver then (Im.zero, 6) else (⟨block, G0.1.ver, G0.1.data ++ G1.1.data⟩, 0)) := Lib.hid (by unfold getB; rw [if_neg (by omega), if_neg hz, hG0, hG1])
      have HG0 := Lib.hid hG0
      have HG1 := Lib.hid hG1
      clear hz hs t1 hG0 hG1
      go_enter Tryz.func57, Tryz.ntmps57
      go_wp2_with fail
      generalize w.alloc (.cells #[.int .i64 0, .int .u64 0, .string ⟨#[]⟩] 40) = W at HB0 HZ0 ⊢
      refine (zero_any 128 (by omega) (by omega) W).mono ?_
      rintro e w1 ⟨rfl, hb1⟩
      have HB1 := Lib.hid (HB0.out.trans (hb1.mono HB0.out.size))
      have HZ1 := Lib.hid (HZ0.out.below_ hb1)
      clear hb1
      rw [show ((128 : Int)).toNat = 128 from rfl]
      have t1 := T1.out
      generalize str (zer 128) = Z at t1 ⊢
      go_wp2_with fail
      clear t1
      refine (kread_any b 0 w1 HS.out (by omega)).mono ?_
      rintro e w2 ⟨rfl, hb2⟩
      rw [HG0.out]
      obtain ⟨⟨n0, v0, d0⟩, E0⟩ := G0
      obtain ⟨⟨n1, v1, d1⟩, E1⟩ := G1
      simp only at HG
      unfold Im.agg
      have HB2 := Lib.hid ((HB1.out.trans (hb2.mono HB1.out.size)).alloc (Nat.le_trans HB1.out.size hb2.size) (.cells #[.int .i64 n0, .int .u64 v0, .string d0] 40))
      have HZ2 := Lib.hid ((HZ1.out.below_ hb2).alloc (.cells #[.int .i64 n0, .int .u64 v0, .string d0] 40))
      have HX2 := Lib.hid (Blk.new w2 40 #[.int .i64 n0, .int .u64 v0, .string d0])
      clear hb2
      by_cases h0 : E0 = 0
      · subst h0
        go_wp2_with fail
        generalize w2.alloc (.cells #[.int .i64 n0, .int .u64 v0, .string d0] 40) = W2 at HB2 HZ2 HX2 ⊢
        generalize w2.heap.size = X at HX2 ⊢
        refine (kread_any b 1 W2 HS.out (by omega)).mono ?_
        rintro e w3 ⟨rfl, hb3⟩
        rw [HG1.out]
        unfold Im.agg
        have HB3 := Lib.hid ((HB2.out.trans (hb3.mono HB2.out.size)).alloc (Nat.le_trans HB2.out.size hb3.size) (.cells #[.int .i64 n1, .int .u64 v1, .string d1] 40))
        have HZ3 := Lib.hid ((HZ2.out.below_ hb3).alloc (.cells #[.int .i64 n1, .int .u64 v1, .string d1] 40))
        have HX3 := Lib.hid ((HX2.out.below_ hb3).alloc (.cells #[.int .i64 n1, .int .u64 v1, .string d1] 40))
        have HY3 := Lib.hid (Blk.new w3 40 #[.int .i64 n1, .int .u64 v1, .string d1])
        clear hb3
        have y0 := HZ3.out.cell 0
        have y1 := HZ3.out.cell 1
        have y2 := HZ3.out.cell 2
        have f0 := HZ3.out.frozen 0
        have f1 := HZ3.out.frozen 1
        have f2 := HZ3.out.frozen 2
        by_cases h1 : E1 = 0
        · subst h1
          have x0 := HX3.out.cell 0
          have x1 := HX3.out.cell 1
          have x2 := HX3.out.cell 2
          simp at x0 x1 x2 y0 y1 y2
          by_cases c0 : n0 = block
          · by_cases c1 : n1 = block
            · by_cases c2 : 4096 ≤ block
              · have t0 : (n0 != block) = false := by simp [c0]
                have t1 : (n1 != block) = false := by simp [c1]
                have HE := Lib.hid (show getB block b = (Im.zero, 4) by rw [HG.out, if_neg (by simp), if_neg (by simp), if_pos (.inr (.inr c2))])
                clear c0 c1
                go_wp2_with fail
                obtain ⟨hz3, hb3, he⟩ := FIN.out _ Im.zero 4 (HZ3.out.put3 (.int .i64 0) (.int .u64 0) (.string ⟨#[]⟩)) (below_put3 HB3.out (Nat.le_refl _) _ _ _) HE.out
                rw [← he]
                clear y0 y1 y2 f0 f1 f2
                generalize (((w3.alloc (.cells #[.int .i64 n1, .int .u64 v1, .string d1] 40)).setCell ⟨w.heap.size, 0, none⟩ (.int .i64 0)).setCell ⟨w.heap.size, 1, none⟩ (.int .u64 0)).setCell ⟨w.heap.size, 2, none⟩ (.string ⟨#[]⟩) = WE at hz3 hb3 ⊢
                obtain ⟨q0, q1, q2⟩ := hz3.three
                exact bodyPost_ret (v := .tuple #[.agg #[.int .i64 0, .int .u64 0, .string ⟨#[]⟩], .int .i64 4]) (by simp [results, Tryz.results57, go_sem, q0, q1, q2, Im.zero]) rfl ⟨rfl, hb3⟩
              · have hno : ¬ (n0 ≠ block ∨ n1 ≠ block ∨ 4096 ≤ block) := fun h => by omega
                by_cases c3 : v0 = v1
                · have t3 : ((v0 : Int) != (v1 : Int)) = false := by simp [c3]
                  have HE := Lib.hid (show getB block b = (⟨block, v0, d0 ++ d1⟩, 0) by rw [HG.out, if_neg (by simp), if_neg (by simp), if_neg hno, if_neg (by simp [c3])])
                  have t0 : (n0 != block) = false := by simp [c0]
                  have t1 : (n1 != block) = false := by simp [c1]
                  have hcat : d0.size + d1.size ≤ 9223372036854775807 := by
                    have k0 : d0 = (secG b 0).1.data := by rw [HG0.out]
                    have k1 : d1 = (secG b 1).1.data := by rw [HG1.out]
                    have s0 := secG_size b 0 HS.out
                    have s1 := secG_size b 1 HS.out
                    rw [k0, k1]
                    omega
                  clear c0 c1 c3 hno
                  go_wp2_with fail
                  obtain ⟨hz3, hb3, he⟩ := FIN.out _ ⟨block, v0, d0 ++ d1⟩ 0 (HZ3.out.put3 (.int .i64 block) (.int .u64 v0) (.string (d0 ++ d1))) (below_put3 HB3.out (Nat.le_refl _) _ _ _) HE.out
                  rw [← he]
                  clear y0 y1 y2 f0 f1 f2 x0 x1 x2
                  generalize (((w3.alloc (.cells #[.int .i64 n1, .int .u64 v1, .string d1] 40)).setCell ⟨w.heap.size, 0, none⟩ (.int .i64 block)).setCell ⟨w.heap.size, 1, none⟩ (.int .u64 v0)).setCell ⟨w.heap.size, 2, none⟩ (.string (d0 ++ d1)) = WE at hz3 hb3 ⊢
                  obtain ⟨q0, q1, q2⟩ := hz3.three
                  exact bodyPost_ret (v := .tuple #[.agg #[.int .i64 block, .int .u64 v0, .string (d0 ++ d1)], .int .i64 0]) (by simp [results, Tryz.results57, go_sem, q0, q1, q2, Im.zero]) rfl ⟨rfl, hb3⟩
                · have t3 : ((v0 : Int) != (v1 : Int)) = true := by simp; omega
                  have HE := Lib.hid (show getB block b = (Im.zero, 6) by rw [HG.out, if_neg (by simp), if_neg (by simp), if_neg hno, if_pos c3])
                  have t0 : (n0 != block) = false := by simp [c0]
                  have t1 : (n1 != block) = false := by simp [c1]
                  clear c0 c1 c3 hno
                  go_wp2_with fail
                  obtain ⟨hz3, hb3, he⟩ := FIN.out _ Im.zero 6 (HZ3.out.put3 (.int .i64 0) (.int .u64 0) (.string ⟨#[]⟩)) (below_put3 HB3.out (Nat.le_refl _) _ _ _) HE.out
                  rw [← he]
                  clear y0 y1 y2 f0 f1 f2
                  generalize (((w3.alloc (.cells #[.int .i64 n1, .int .u64 v1, .string d1] 40)).setCell ⟨w.heap.size, 0, none⟩ (.int .i64 0)).setCell ⟨w.heap.size, 1, none⟩ (.int .u64 0)).setCell ⟨w.heap.size, 2, none⟩ (.string ⟨#[]⟩) = WE at hz3 hb3 ⊢
                  obtain ⟨q0, q1, q2⟩ := hz3.three
                  exact bodyPost_ret (v := .tuple #[.agg #[.int .i64 0, .int .u64 0, .string ⟨#[]⟩], .int .i64 6]) (by simp [results, Tryz.results57, go_sem, q0, q1, q2, Im.zero]) rfl ⟨rfl, hb3⟩
            · have t0 : (n0 != block) = false := by simp [c0]
              have t1 : (n1 != block) = true := by simp [c1]
              have HE := Lib.hid (show getB block b = (Im.zero, 4) by rw [HG.out, if_neg (by simp), if_neg (by simp), if_pos (.inr (.inl c1))])
              clear c0 c1
              go_wp2_with fail
              obtain ⟨hz3, hb3, he⟩ := FIN.out _ Im.zero 4 (HZ3.out.put3 (.int .i64 0) (.int .u64 0) (.string ⟨#[]⟩)) (below_put3 HB3.out (Nat.le_refl _) _ _ _) HE.out
              rw [← he]
              clear y0 y1 y2 f0 f1 f2
              generalize (((w3.alloc (.cells #[.int .i64 n1, .int .u64 v1, .string d1] 40)).setCell ⟨w.heap.size, 0, none⟩ (.int .i64 0)).setCell ⟨w.heap.size, 1, none⟩ (.int .u64 0)).setCell ⟨w.heap.size, 2, none⟩ (.string ⟨#[]⟩) = WE at hz3 hb3 ⊢
              obtain ⟨q0, q1, q2⟩ := hz3.three
              exact bodyPost_ret (v := .tuple #[.agg #[.int .i64 0, .int .u64 0, .string ⟨#[]⟩], .int .i64 4]) (by simp [results, Tryz.results57, go_sem, q0, q1, q2, Im.zero]) rfl ⟨rfl, hb3⟩
          · have t0 : (n0 != block) = true := by simp [c0]
            have HE := Lib.hid (show getB block b = (Im.zero, 4) by rw [HG.out, if_neg (by simp), if_neg (by simp), if_pos (.inl c0)])
            clear c0
            go_wp2_with fail
            obtain ⟨hz3, hb3, he⟩ := FIN.out _ Im.zero 4 (HZ3.out.put3 (.int .i64 0) (.int .u64 0) (.string ⟨#[]⟩)) (below_put3 HB3.out (Nat.le_refl _) _ _ _) HE.out
            rw [← he]
            clear y0 y1 y2 f0 f1 f2
            generalize (((w3.alloc (.cells #[.int .i64 n1, .int .u64 v1, .string d1] 40)).setCell ⟨w.heap.size, 0, none⟩ (.int .i64 0)).setCell ⟨w.heap.size, 1, none⟩ (.int .u64 0)).setCell ⟨w.heap.size, 2, none⟩ (.string ⟨#[]⟩) = WE at hz3 hb3 ⊢
            obtain ⟨q0, q1, q2⟩ := hz3.three
            exact bodyPost_ret (v := .tuple #[.agg #[.int .i64 0, .int .u64 0, .string ⟨#[]⟩], .int .i64 4]) (by simp [results, Tryz.results57, go_sem, q0, q1, q2, Im.zero]) rfl ⟨rfl, hb3⟩
        · have t1 : (E1 != 0) = true := bne_iff_ne.2 h1
          have HE := Lib.hid (show getB block b = (Im.zero, E1) by rw [HG.out, if_neg (by simp), if_pos h1])
          simp at y0 y1 y2
          clear h1
          go_wp2_with fail
          obtain ⟨hz3, hb3, he⟩ := FIN.out _ Im.zero E1 (HZ3.out.put3 (.int .i64 0) (.int .u64 0) (.string ⟨#[]⟩)) (below_put3 HB3.out (Nat.le_refl _) _ _ _) HE.out
          rw [← he]
          clear y0 y1 y2 f0 f1 f2
          generalize (((w3.alloc (.cells #[.int .i64 n1, .int .u64 v1, .string d1] 40)).setCell ⟨w.heap.size, 0, none⟩ (.int .i64 0)).setCell ⟨w.heap.size, 1, none⟩ (.int .u64 0)).setCell ⟨w.heap.size, 2, none⟩ (.string ⟨#[]⟩) = WE at hz3 hb3 ⊢
          obtain ⟨q0, q1, q2⟩ := hz3.three
          exact bodyPost_ret (v := .tuple #[.agg #[.int .i64 0, .int .u64 0, .string ⟨#[]⟩], .int .i64 E1]) (by simp [results, Tryz.results57, go_sem, q0, q1, q2, Im.zero]) rfl ⟨rfl, hb3⟩
      · have t0 : (E0 != 0) = true := bne_iff_ne.2 h0
        have HE := Lib.hid (show getB block b = (Im.zero, E0) by rw [HG.out, if_pos h0])
        have y0 := HZ2.out.cell 0
        have y1 := HZ2.out.cell 1
        have y2 := HZ2.out.cell 2
        have f0 := HZ2.out.frozen 0
        have f1 := HZ2.out.frozen 1
        have f2 := HZ2.out.frozen 2
        simp at y0 y1 y2
        clear h0
        go_wp2_with fail
        obtain ⟨hz3, hb3, he⟩ := FIN.out _ Im.zero E0 (HZ2.out.put3 (.int .i64 0) (.int .u64 0) (.string ⟨#[]⟩)) (below_put3 HB2.out (Nat.le_refl _) _ _ _) HE.out
        rw [← he]
        clear y0 y1 y2 f0 f1 f2
        generalize (((w2.alloc (.cells #[.int .i64 n0, .int .u64 v0, .string d0] 40)).setCell ⟨w.heap.size, 0, none⟩ (.int .i64 0)).setCell ⟨w.heap.size, 1, none⟩ (.int .u64 0)).setCell ⟨w.heap.size, 2, none⟩ (.string ⟨#[]⟩) = WE at hz3 hb3 ⊢
        obtain ⟨q0, q1, q2⟩ := hz3.three
        exact bodyPost_ret (v := .tuple #[.agg #[.int .i64 0, .int .u64 0, .string ⟨#[]⟩], .int .i64 E0]) (by simp [results, Tryz.results57, go_sem, q0, q1, q2, Im.zero]) rfl ⟨rfl, hb3⟩
  · have hsI : ((b.size : Int) != 128) = true := by simp; omega
    have HG := Lib.hid (show getB block b = (Im.zero, 5) by unfold getB; rw [if_pos hs])
    clear hs
    go_enter Tryz.func57, Tryz.ntmps57
    go_wp2_with fail
    obtain ⟨hz, hb, he⟩ := FIN.out _ Im.zero 5 HZ0.out HB0.out HG.out
    rw [← he]
    exact bodyPost_ret (v := .tuple #[.agg #[.int .i64 0, .int .u64 0, .string ⟨#[]⟩], .int .i64 5]) (by simp [results, Tryz.results57, go_sem]) rfl ⟨rfl, hb⟩
end Go.Proofs.YtianlhigeabehaaGreatDoor

/- (*strings.Builder).WriteString at this program, laid by hand out of the shelf (the command leaves it out here). -/
namespace Go.Proofs
open Go.Shelf
def Tryz.lays166_ren : Go.Shelf.Ren := ⟨fun | 166 => 92 | 240 => 129 | 276 => 146 | n => n, fun | 70 => 144 | 9 => 9 | 0 => 0 | 72 => 146 | 37 => 112 | 3 => 3 | 5 => 5 | 4 => 4 | 20 => 20 | 75 => 149 | 80 => 152 | 164 => 204 | n => n, fun | n => n⟩
theorem Tryz.lays166 : Go.Proofs.Lays.n166 Tryz.prog Tryz.lays166_ren := {
  mixed := by kernel_rfl
  f166 := Tryz.func92.trans (congrArg some (by kernel_rfl))
  f240 := Tryz.func129.trans (congrArg some (by kernel_rfl))
  f276 := Tryz.func146.trans (congrArg some (by kernel_rfl))
  t0 := Tryz.underlying0
  a0 := Tryz.isAgg0
  z0 := Tryz.sizeOf0
  v0 := Tryz.zeroValue0
  t3 := Tryz.underlying3
  a3 := Tryz.isAgg3
  z3 := Tryz.sizeOf3
  v3 := Tryz.zeroValue3
  t4 := Tryz.underlying4
  a4 := Tryz.isAgg4
  z4 := Tryz.sizeOf4
  v4 := Tryz.zeroValue4
  t9 := Tryz.underlying9
  a9 := Tryz.isAgg9
  z9 := Tryz.sizeOf9
  v9 := Tryz.zeroValue9
  t20 := Tryz.underlying20
  a20 := Tryz.isAgg20
  z20 := Tryz.sizeOf20
  v20 := Tryz.zeroValue20
  t37 := Tryz.underlying112
  a37 := Tryz.isAgg112
  z37 := Tryz.sizeOf112
  v37 := Tryz.zeroValue112
  t70 := Tryz.underlying144
  a70 := Tryz.isAgg144
  z70 := Tryz.sizeOf144
  v70 := Tryz.zeroValue144
  t72 := Tryz.underlying146
  a72 := Tryz.isAgg146
  z72 := Tryz.sizeOf146
  v72 := Tryz.zeroValue146
  t75 := Tryz.underlying149
  a75 := Tryz.isAgg149
  z75 := Tryz.sizeOf149
  v75 := Tryz.zeroValue149
  t164 := Tryz.underlying204
  a164 := Tryz.isAgg204
  z164 := Tryz.sizeOf204
  v164 := Tryz.zeroValue204 }
theorem Tryz.Builder_Extra_166 : Builder.Extra Tryz.prog Tryz.lays166_ren := {
  sizeBuilder := by kernel_rfl
  liesBuilder := by kernel_rfl
  t5 := Tryz.underlying5
  a5 := Tryz.isAgg5
  z5 := Tryz.sizeOf5
  v5 := Tryz.zeroValue5
  infoByte := by kernel_rfl
  cellsByte := by kernel_rfl
  sizeByte := by kernel_rfl
  neB5 := by decide }
end Go.Proofs
