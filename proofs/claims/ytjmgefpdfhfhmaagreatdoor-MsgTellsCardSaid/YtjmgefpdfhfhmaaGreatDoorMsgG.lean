/- Messages, the document's: GetMsg reads one. -/
import Derived.Test.YtjmgefpdfhfhmaaGreatDoorMsgF
namespace Go.Proofs.YtjmgefpdfhfhmaaGreatDoor
open Go.RowKit

theorem numR_stuck {R : Rd} (h : R.e ≠ 0) {n : Int} (h1 : 1 ≤ n) (h8 : n ≤ 8) : R.numR n = R := by
  unfold Rd.numR Rd.takeR
  rw [if_pos ⟨h1, h8⟩, if_pos h]
theorem lkR_stuck {R : Rd} (h : R.e ≠ 0) : lkR R = R := by
  unfold lkR
  rw [numR_stuck h (by decide) (by decide), numR_stuck h (by decide) (by decide), numR_stuck h (by decide) (by decide)]
theorem lksR_stuck {R : Rd} {k : Nat} (h : (lksR R k).e ≠ 0) (j : Nat) : lksR R (k + j) = lksR R k := by
  induction j with
  | zero => rfl
  | succ j ih => rw [← Nat.add_assoc, lksR, ih, lkR_stuck h]
theorem endV_stuck {R : Rd} (h : R.e ≠ 0) : R.endV ≠ 0 := by
  unfold Rd.endV
  rw [if_pos h]
  exact h
theorem own_blk_col {o : Nat → Nat} {w : World} {e : TypeId} {size n g : Nat} {v : Value} {xs : List Value} (h : OwnS o 2 w e size v n xs) (hg : o g = 0) : v.ownBlock ≠ some g := fun he => by
  have h2 := h.2 g he
  omega
set_option maxRecDepth 100000 in
set_option maxHeartbeats 4000000 in
theorem xgetm_any (b : ByteArray) (w : World) (hb : b.size ≤ 1000000000) :
    Calls Tryz.prog 10 #[.string b] w fun e w' => ∃ A cap oi, e = .returned (.tuple #[(gotM b).agg A cap, .int .i64 (gotE b)]) ∧ OwnS oi 2 w' 68 3 (.slice A (gotM b).locks.length cap) (gotM b).locks.length (lkcells (gotM b).locks) ∧ Env oi w w' ∧ Fut oi w' := by
  have HB := Lib.hid hb
  clear hb
  have hb0 := (Below.refl w.heap.size w).alloc (Nat.le_refl _) (.cells #[.int .i64 0, .int .i64 0, .int .i64 0, .int .i64 0, .int .i64 0, .int .u64 0, .int .i64 0, .slice none 0 0] 50)
  have hz0 := Keep.new (o := fun _ => 0) (w := w) (fun _ _ => rfl) 50 #[.int .i64 0, .int .i64 0, .int .i64 0, .int .i64 0, .int .i64 0, .int .u64 0, .int .i64 0, .slice none 0 0]
  have HB0 := Lib.hid hb0
  clear hb0
  go_enter Tryz.func10, Tryz.ntmps10
  go_upto_region 1 with (fail)
  obtain ⟨o1, hg2, hs1⟩ := Gs.startX (w0 := w) HB0.out b HB.out
  have hz2 := hz0.step (hs1 (fun _ => False)) (by simp)
  clear hs1 hz0 HB0
  generalize w.alloc (.cells #[.int .i64 0, .int .i64 0, .int .i64 0, .int .i64 0, .int .i64 0, .int .u64 0, .int .i64 0, .slice none 0 0] 50) = W1 at hg2 hz2 ⊢
  generalize hgr : w.heap.size = gR at hz2 ⊢
  have HGQ := Lib.hid hgr
  clear hgr
  have HG2 := Lib.hid hg2
  have HZ2 := Lib.hid hz2
  clear hg2 hz2
  go_upto_region 2 with (fail)
  generalize W1.alloc (.cells #[.string b, .int .i64 0] 89) = W2 at HG2 HZ2 ⊢
  generalize W1.heap.size = p at HG2 ⊢
  have hg3 := HG2.out.alloc (.cells #[.int .i64 0, .int .i64 0, .int .i64 0, .int .i64 0, .int .i64 0, .int .u64 0, .int .i64 0, .slice none 0 0] 50)
  have hz3 := HZ2.out.alloc (.cells #[.int .i64 0, .int .i64 0, .int .i64 0, .int .i64 0, .int .i64 0, .int .u64 0, .int .i64 0, .slice none 0 0] 50)
  have hm3 := Keep.new HG2.out.fut 50 #[.int .i64 0, .int .i64 0, .int .i64 0, .int .i64 0, .int .i64 0, .int .u64 0, .int .i64 0, .slice none 0 0]
  have HLE := Lib.hid (HG2.out.env.low.size)
  have HRM := Lib.hid (HZ2.out.1.lt)
  go_upto_region 3 with (fail)
  generalize W2.alloc (.cells #[.int .i64 0, .int .i64 0, .int .i64 0, .int .i64 0, .int .i64 0, .int .u64 0, .int .i64 0, .slice none 0 0] 50) = W3 at hg3 hz3 hm3 ⊢
  generalize W2.heap.size = gM at hm3 HLE HRM ⊢
  have HGa := Lib.hid hg3
  have HZa := Lib.hid hz3
  have HMa := Lib.hid hm3
  clear hg3 hz3 hm3 HG2 HZ2
  obtain ⟨kd, hv⟩ : ∃ v, v = (⟨b, 0⟩ : Rd).numV 1 := ⟨_, rfl⟩
  have hb1 := numV_lt (⟨b, 0⟩ : Rd) 1 (by omega)
  rw [← hv] at hb1
  have hlkd : kd < 256 := by simpa using hb1
  clear hb1
  have HV_kd := Lib.hid hv
  clear hv
  go_wp2_with fail
  refine (ynum_g HGa.out 1).mono ?_
  rintro e wb ⟨rfl, hg, hs⟩
  rw [← HV_kd.out]
  have HGb0 := Lib.hid (show Gs 89 o1 w wb p (rK b 0) from hg)
  have HZb0 := Lib.hid (HZa.out.step hs no10)
  have HMb0 := Lib.hid (HMa.out.step hs no10)
  clear hg hs HGa HZa HMa
  have hxc := HMb0.out.1.cell 0
  have hxf := HMb0.out.1.frozen 0
  simp at hxc
  go_upto_region 4 with (fail)
  have hg := HGb0.out.setCell HMb0.out.2 HLE.out 0 (.int .i64 (kd : Int))
  have hz := HZb0.out.far (Nat.ne_of_lt HRM.out) 0 (.int .i64 (kd : Int))
  have hm : Keep o1 (wb.setCell ⟨gM, 0, none⟩ (.int .i64 (kd : Int))) gM 50 #[.int .i64 (kd : Int), .int .i64 0, .int .i64 0, .int .i64 0, .int .i64 0, .int .u64 0, .int .i64 0, .slice none 0 0] := HMb0.out.set_ 0 (.int .i64 (kd : Int))
  generalize wb.setCell ⟨gM, 0, none⟩ (.int .i64 (kd : Int)) = Wb at hg hz hm ⊢
  have HGb := Lib.hid hg
  have HZb := Lib.hid hz
  have HMb := Lib.hid hm
  clear hg hz hm HGb0 HZb0 HMb0 hxc hxf
  obtain ⟨v1, hv⟩ : ∃ v, v = (rK b 0).numV 4 := ⟨_, rfl⟩
  have hb1 := numV_lt (rK b 0) 4 (by omega)
  rw [← hv] at hb1
  have hlv1 : v1 < 4294967296 := by simpa using hb1
  clear hb1
  have HV_v1 := Lib.hid hv
  clear hv
  go_wp2_with fail
  refine (ynum_g HGb.out 4).mono ?_
  rintro e wc ⟨rfl, hg, hs⟩
  rw [← HV_v1.out]
  have HGc0 := Lib.hid (show Gs 89 o1 w wc p (rK b 1) from hg)
  have HZc0 := Lib.hid (HZb.out.step hs no10)
  have HMc0 := Lib.hid (HMb.out.step hs no10)
  clear hg hs HGb HZb HMb
  have hxc := HMc0.out.1.cell 1
  have hxf := HMc0.out.1.frozen 1
  simp at hxc
  go_upto_region 5 with (fail)
  have hg := HGc0.out.setCell HMc0.out.2 HLE.out 1 (.int .i64 (v1 : Int))
  have hz := HZc0.out.far (Nat.ne_of_lt HRM.out) 1 (.int .i64 (v1 : Int))
  have hm : Keep o1 (wc.setCell ⟨gM, 1, none⟩ (.int .i64 (v1 : Int))) gM 50 #[.int .i64 (kd : Int), .int .i64 (v1 : Int), .int .i64 0, .int .i64 0, .int .i64 0, .int .u64 0, .int .i64 0, .slice none 0 0] := HMc0.out.set_ 1 (.int .i64 (v1 : Int))
  generalize wc.setCell ⟨gM, 1, none⟩ (.int .i64 (v1 : Int)) = Wc at hg hz hm ⊢
  have HGc := Lib.hid hg
  have HZc := Lib.hid hz
  have HMc := Lib.hid hm
  clear hg hz hm HGc0 HZc0 HMc0 hxc hxf
  obtain ⟨v2, hv⟩ : ∃ v, v = (rK b 1).numV 4 := ⟨_, rfl⟩
  have hb1 := numV_lt (rK b 1) 4 (by omega)
  rw [← hv] at hb1
  have hlv2 : v2 < 4294967296 := by simpa using hb1
  clear hb1
  have HV_v2 := Lib.hid hv
  clear hv
  go_wp2_with fail
  refine (ynum_g HGc.out 4).mono ?_
  rintro e wd ⟨rfl, hg, hs⟩
  rw [← HV_v2.out]
  have HGd0 := Lib.hid (show Gs 89 o1 w wd p (rK b 2) from hg)
  have HZd0 := Lib.hid (HZc.out.step hs no10)
  have HMd0 := Lib.hid (HMc.out.step hs no10)
  clear hg hs HGc HZc HMc
  have hxc := HMd0.out.1.cell 2
  have hxf := HMd0.out.1.frozen 2
  simp at hxc
  go_upto_region 6 with (fail)
  have hg := HGd0.out.setCell HMd0.out.2 HLE.out 2 (.int .i64 (v2 : Int))
  have hz := HZd0.out.far (Nat.ne_of_lt HRM.out) 2 (.int .i64 (v2 : Int))
  have hm : Keep o1 (wd.setCell ⟨gM, 2, none⟩ (.int .i64 (v2 : Int))) gM 50 #[.int .i64 (kd : Int), .int .i64 (v1 : Int), .int .i64 (v2 : Int), .int .i64 0, .int .i64 0, .int .u64 0, .int .i64 0, .slice none 0 0] := HMd0.out.set_ 2 (.int .i64 (v2 : Int))
  generalize wd.setCell ⟨gM, 2, none⟩ (.int .i64 (v2 : Int)) = Wd at hg hz hm ⊢
  have HGd := Lib.hid hg
  have HZd := Lib.hid hz
  have HMd := Lib.hid hm
  clear hg hz hm HGd0 HZd0 HMd0 hxc hxf
  obtain ⟨v3, hv⟩ : ∃ v, v = (rK b 2).numV 4 := ⟨_, rfl⟩
  have hb1 := numV_lt (rK b 2) 4 (by omega)
  rw [← hv] at hb1
  have hlv3 : v3 < 4294967296 := by simpa using hb1
  clear hb1
  have HV_v3 := Lib.hid hv
  clear hv
  go_wp2_with fail
  refine (ynum_g HGd.out 4).mono ?_
  rintro e we ⟨rfl, hg, hs⟩
  rw [← HV_v3.out]
  have HGe0 := Lib.hid (show Gs 89 o1 w we p (rK b 3) from hg)
  have HZe0 := Lib.hid (HZd.out.step hs no10)
  have HMe0 := Lib.hid (HMd.out.step hs no10)
  clear hg hs HGd HZd HMd
  have hxc := HMe0.out.1.cell 3
  have hxf := HMe0.out.1.frozen 3
  simp at hxc
  go_upto_region 7 with (fail)
  have hg := HGe0.out.setCell HMe0.out.2 HLE.out 3 (.int .i64 (v3 : Int))
  have hz := HZe0.out.far (Nat.ne_of_lt HRM.out) 3 (.int .i64 (v3 : Int))
  have hm : Keep o1 (we.setCell ⟨gM, 3, none⟩ (.int .i64 (v3 : Int))) gM 50 #[.int .i64 (kd : Int), .int .i64 (v1 : Int), .int .i64 (v2 : Int), .int .i64 (v3 : Int), .int .i64 0, .int .u64 0, .int .i64 0, .slice none 0 0] := HMe0.out.set_ 3 (.int .i64 (v3 : Int))
  generalize we.setCell ⟨gM, 3, none⟩ (.int .i64 (v3 : Int)) = We at hg hz hm ⊢
  have HGe := Lib.hid hg
  have HZe := Lib.hid hz
  have HMe := Lib.hid hm
  clear hg hz hm HGe0 HZe0 HMe0 hxc hxf
  obtain ⟨v4, hv⟩ : ∃ v, v = (rK b 3).numV 4 := ⟨_, rfl⟩
  have hb1 := numV_lt (rK b 3) 4 (by omega)
  rw [← hv] at hb1
  have hlv4 : v4 < 4294967296 := by simpa using hb1
  clear hb1
  have HV_v4 := Lib.hid hv
  clear hv
  go_wp2_with fail
  refine (ynum_g HGe.out 4).mono ?_
  rintro e wf ⟨rfl, hg, hs⟩
  rw [← HV_v4.out]
  have HGf0 := Lib.hid (show Gs 89 o1 w wf p (rK b 4) from hg)
  have HZf0 := Lib.hid (HZe.out.step hs no10)
  have HMf0 := Lib.hid (HMe.out.step hs no10)
  clear hg hs HGe HZe HMe
  have hxc := HMf0.out.1.cell 4
  have hxf := HMf0.out.1.frozen 4
  simp at hxc
  go_upto_region 8 with (fail)
  have hg := HGf0.out.setCell HMf0.out.2 HLE.out 4 (.int .i64 (v4 : Int))
  have hz := HZf0.out.far (Nat.ne_of_lt HRM.out) 4 (.int .i64 (v4 : Int))
  have hm : Keep o1 (wf.setCell ⟨gM, 4, none⟩ (.int .i64 (v4 : Int))) gM 50 #[.int .i64 (kd : Int), .int .i64 (v1 : Int), .int .i64 (v2 : Int), .int .i64 (v3 : Int), .int .i64 (v4 : Int), .int .u64 0, .int .i64 0, .slice none 0 0] := HMf0.out.set_ 4 (.int .i64 (v4 : Int))
  generalize wf.setCell ⟨gM, 4, none⟩ (.int .i64 (v4 : Int)) = Wf at hg hz hm ⊢
  have HGf := Lib.hid hg
  have HZf := Lib.hid hz
  have HMf := Lib.hid hm
  clear hg hz hm HGf0 HZf0 HMf0 hxc hxf
  obtain ⟨v6, hv⟩ : ∃ v, v = (rK b 4).numV 4 := ⟨_, rfl⟩
  have hb1 := numV_lt (rK b 4) 4 (by omega)
  rw [← hv] at hb1
  have hlv6 : v6 < 4294967296 := by simpa using hb1
  clear hb1
  have HV_v6 := Lib.hid hv
  clear hv
  go_wp2_with fail
  refine (ynum_g HGf.out 4).mono ?_
  rintro e wg ⟨rfl, hg, hs⟩
  rw [← HV_v6.out]
  have HGg0 := Lib.hid (show Gs 89 o1 w wg p (rK b 5) from hg)
  have HZg0 := Lib.hid (HZf.out.step hs no10)
  have HMg0 := Lib.hid (HMf.out.step hs no10)
  clear hg hs HGf HZf HMf
  have hxc := HMg0.out.1.cell 6
  have hxf := HMg0.out.1.frozen 6
  simp at hxc
  go_upto_region 9 with (fail)
  have hg := HGg0.out.setCell HMg0.out.2 HLE.out 6 (.int .i64 (v6 : Int))
  have hz := HZg0.out.far (Nat.ne_of_lt HRM.out) 6 (.int .i64 (v6 : Int))
  have hm : Keep o1 (wg.setCell ⟨gM, 6, none⟩ (.int .i64 (v6 : Int))) gM 50 #[.int .i64 (kd : Int), .int .i64 (v1 : Int), .int .i64 (v2 : Int), .int .i64 (v3 : Int), .int .i64 (v4 : Int), .int .u64 0, .int .i64 (v6 : Int), .slice none 0 0] := HMg0.out.set_ 6 (.int .i64 (v6 : Int))
  generalize wg.setCell ⟨gM, 6, none⟩ (.int .i64 (v6 : Int)) = Wg at hg hz hm ⊢
  have HGg := Lib.hid hg
  have HZg := Lib.hid hz
  have HMg := Lib.hid hm
  clear hg hz hm HGg0 HZg0 HMg0 hxc hxf
  obtain ⟨v8, hv⟩ : ∃ v, v = (rK b 5).numV 8 := ⟨_, rfl⟩
  have HV_v8 := Lib.hid hv
  clear hv
  go_wp2_with fail
  refine (ynum_g HGg.out 8).mono ?_
  rintro e wh ⟨rfl, hg, hs⟩
  rw [← HV_v8.out]
  have HGh0 := Lib.hid (show Gs 89 o1 w wh p (hdR b) from hg)
  have HZh0 := Lib.hid (HZg.out.step hs no10)
  have HMh0 := Lib.hid (HMg.out.step hs no10)
  clear hg hs HGg HZg HMg
  have hxc := HMh0.out.1.cell 5
  have hxf := HMh0.out.1.frozen 5
  simp at hxc
  go_upto_region 10 with (fail)
  have hg := HGh0.out.setCell HMh0.out.2 HLE.out 5 (.int .u64 (v8 : Int))
  have hz := HZh0.out.far (Nat.ne_of_lt HRM.out) 5 (.int .u64 (v8 : Int))
  have hm : Keep o1 (wh.setCell ⟨gM, 5, none⟩ (.int .u64 (v8 : Int))) gM 50 #[.int .i64 (kd : Int), .int .i64 (v1 : Int), .int .i64 (v2 : Int), .int .i64 (v3 : Int), .int .i64 (v4 : Int), .int .u64 (v8 : Int), .int .i64 (v6 : Int), .slice none 0 0] := HMh0.out.set_ 5 (.int .u64 (v8 : Int))
  generalize wh.setCell ⟨gM, 5, none⟩ (.int .u64 (v8 : Int)) = Wh at hg hz hm ⊢
  have HGh := Lib.hid hg
  have HZh := Lib.hid hz
  have HMh := Lib.hid hm
  clear hg hz hm HGh0 HZh0 HMh0 hxc hxf
  have hm4 := HMh.out
  obtain ⟨n1, h1⟩ : ∃ n : Int, n = (v1 : Int) := ⟨_, rfl⟩
  obtain ⟨n2, h2⟩ : ∃ n : Int, n = (v2 : Int) := ⟨_, rfl⟩
  obtain ⟨n3, h3⟩ : ∃ n : Int, n = (v3 : Int) := ⟨_, rfl⟩
  obtain ⟨n4, h4⟩ : ∃ n : Int, n = (v4 : Int) := ⟨_, rfl⟩
  rw [← h1, ← h2, ← h3, ← h4] at hm4
  have HN := Lib.hid (show n1 = (rK b 0).numV 4 ∧ n2 = (rK b 1).numV 4 ∧ n3 = (rK b 2).numV 4 ∧ n4 = (rK b 3).numV 4 from ⟨by rw [h1, HV_v1.out], by rw [h2, HV_v2.out], by rw [h3, HV_v3.out], by rw [h4, HV_v4.out]⟩)
  have HM9 := Lib.hid hm4
  have HG9 := HGh
  have HZ9 := HZh
  have HKD := HV_kd
  have HV6 := HV_v6
  have HV8 := HV_v8
  clear hm4 h1 h2 h3 h4 HMh HGh HZh HV_kd HV_v1 HV_v2 HV_v3 HV_v4 HV_v6 HV_v8
  obtain ⟨nn, hnn, hn6⟩ : ∃ nn : Nat, (hdR b).countV 200 = nn ∧ nn < 65536 := ⟨((hdR b).countV 200).toNat, by have := countV_bd (hdR b) 200; omega, by have := countV_bd (hdR b) 200; omega⟩
  have HNN := Lib.hid hnn
  clear hnn
  obtain ⟨Rc, hrc⟩ : ∃ Rc, Rc = (hdR b).countR 200 := ⟨_, rfl⟩
  have HRC := Lib.hid hrc
  clear hrc
  go_wp2_with fail
  refine (ycount_g HG9.out 200).mono ?_
  rintro e w10 ⟨rfl, hg10, hs10⟩
  rw [HNN.out]
  rw [← HRC.out] at hg10
  have HS10 := Lib.hid (show ∃ o A cap, Gs 89 o w w10 p (lksR Rc 0) ∧ Keep o w10 gR 50 #[.int .i64 0, .int .i64 0, .int .i64 0, .int .i64 0, .int .i64 0, .int .u64 0, .int .i64 0, .slice none 0 0] ∧ Keep o w10 gM 50 #[.int .i64 (kd : Int), .int .i64 n1, .int .i64 n2, .int .i64 n3, .int .i64 n4, .int .u64 (v8 : Int), .int .i64 (v6 : Int), .slice A 0 cap] ∧ OwnS o 2 w10 68 3 (.slice A 0 cap) 0 (lkcells (lksV Rc 0)) from
    ⟨o1, none, 0, hg10, HZ9.out.step hs10 no10, HM9.out.step hs10 no10, OwnS.nil _ _ _ _ _⟩)
  clear hg10 hs10 HG9 HZ9 HM9
  obtain ⟨i0, hi, hz0, hz1, hz2⟩ := info_parts info_lock
  go_wp2_with fail
  go_loopw [7] (fun t7 wr => ∃ (k : Nat) (o : Nat → Nat) (A : Option Addr) (cap : Nat), k ≤ nn ∧ t7 = .int .i64 k ∧ Gs 89 o w wr p (lksR Rc k) ∧ Keep o wr gR 50 #[.int .i64 0, .int .i64 0, .int .i64 0, .int .i64 0, .int .i64 0, .int .u64 0, .int .i64 0, .slice none 0 0] ∧ Keep o wr gM 50 #[.int .i64 (kd : Int), .int .i64 n1, .int .i64 n2, .int .i64 n3, .int .i64 n4, .int .u64 (v8 : Int), .int .i64 (v6 : Int), .slice A k cap] ∧ OwnS o 2 wr 68 3 (.slice A k cap) k (lkcells (lksV Rc k))) (fun t7 _ => nn - (intOf t7).toNat)
  case atStart =>
    obtain ⟨o11, A, cap, h1, h2, h3, h4⟩ := HS10.out
    exact ⟨0, o11, A, cap, by omega, rfl, h1, h2, h3, h4⟩
  case round =>
    clear HS10
    obtain ⟨k, o11, A, cap, hk, rfl, hg, hz, hm, how⟩ := hrel
    have HG := Lib.hid hg
    have HZ := Lib.hid hz
    have HM := Lib.hid hm
    have HO := Lib.hid how
    clear hg hz hm how
    by_cases hlt2 : k < nn
    · have hltI2 : (k : Int) < (nn : Int) := by omega
      obtain ⟨R, hR⟩ : ∃ R, R = lksR Rc k := ⟨_, rfl⟩
      rw [← hR] at HG
      obtain ⟨ev, hev⟩ : ∃ v, v = R.e := ⟨_, rfl⟩
      have x1 := HG.out.rd.1.cell 1
      simp only [← hev] at x1
      simp at x1
      by_cases hee : ev = 0
      · subst hee
        have HRR := Lib.hid hR
        clear hR hev
        obtain ⟨va, hva⟩ : ∃ v, v = R.numV 4 := ⟨_, rfl⟩
        obtain ⟨vb, hvb⟩ : ∃ v, v = (R.numR 4).numV 4 := ⟨_, rfl⟩
        obtain ⟨vm, hvm⟩ : ∃ v, v = ((R.numR 4).numR 4).numV 1 := ⟨_, rfl⟩
        have ba := numV_lt R 4 (by omega)
        have bb := numV_lt (R.numR 4) 4 (by omega)
        have bm := numV_lt ((R.numR 4).numR 4) 1 (by omega)
        rw [← hva] at ba
        rw [← hvb] at bb
        rw [← hvm] at bm
        have ba2 : va < 4294967296 := by simpa using ba
        have bb2 : vb < 4294967296 := by simpa using bb
        have bm2 : vm < 256 := by simpa using bm
        have HVA := Lib.hid hva
        have HVB := Lib.hid hvb
        have HVM := Lib.hid hvm
        clear hva hvb hvm ba bb bm
        go_upto_region 15 with (fail)
        have hg := HG.out.alloc (.cells #[.int .i64 0, .int .i64 0, .int .i64 0] 68)
        have hz := HZ.out.alloc (.cells #[.int .i64 0, .int .i64 0, .int .i64 0] 68)
        have hm := HM.out.alloc (.cells #[.int .i64 0, .int .i64 0, .int .i64 0] 68)
        have ho := HO.out.alloc (.cells #[.int .i64 0, .int .i64 0, .int .i64 0] 68)
        have hl := Keep.new HG.out.fut 68 #[.int .i64 0, .int .i64 0, .int .i64 0]
        have HGL := Lib.hid (show gM ≠ wr.heap.size from Nat.ne_of_lt HM.out.1.lt)
        have HGK := Lib.hid (show gR ≠ wr.heap.size from Nat.ne_of_lt HZ.out.1.lt)
        have HGJ := Lib.hid HG.out.env.low.size
        clear x1
        generalize wr.alloc (.cells #[.int .i64 0, .int .i64 0, .int .i64 0] 68) = Wl at hg hz hm ho hl ⊢
        generalize wr.heap.size = gL at hl HGL HGK HGJ ⊢
        have HGl := Lib.hid hg
        have HZl := Lib.hid hz
        have HMl := Lib.hid hm
        have HOl := Lib.hid ho
        have HLl := Lib.hid hl
        clear hg hz hm ho hl HG HZ HM HO
        go_wp2_with fail
        refine (ynum_g HGl.out 4).mono ?_
        rintro e wm ⟨rfl, hg, hs⟩
        rw [← HVA.out]
        have HGm0 := Lib.hid hg
        have HZm0 := Lib.hid (HZl.out.step hs no10)
        have HMm0 := Lib.hid (HMl.out.step hs no10)
        have HOm0 := Lib.hid (HOl.out.step hs (by unfold only; omega))
        have HLm0 := Lib.hid (HLl.out.step hs no10)
        clear hg hs HGl HZl HMl HOl HLl
        have hxc := HLm0.out.1.cell 0
        have hxf := HLm0.out.1.frozen 0
        simp at hxc
        go_upto_region 16 with (fail)
        have hg := HGm0.out.setCell HLm0.out.2 HGJ.out 0 (.int .i64 (va : Int))
        have hz := HZm0.out.far HGK.out 0 (.int .i64 (va : Int))
        have hm := HMm0.out.far HGL.out 0 (.int .i64 (va : Int))
        have ho := HOm0.out.setCell (p := ⟨gL, 0, none⟩) (own_blk_col HOm0.out HLm0.out.2) (.int .i64 (va : Int))
        have hl : Keep o11 (wm.setCell ⟨gL, 0, none⟩ (.int .i64 (va : Int))) gL 68 #[.int .i64 (va : Int), .int .i64 0, .int .i64 0] := HLm0.out.set_ 0 (.int .i64 (va : Int))
        generalize wm.setCell ⟨gL, 0, none⟩ (.int .i64 (va : Int)) = Wm at hg hz hm ho hl ⊢
        have HGm := Lib.hid hg
        have HZm := Lib.hid hz
        have HMm := Lib.hid hm
        have HOm := Lib.hid ho
        have HLm := Lib.hid hl
        clear hg hz hm ho hl HGm0 HZm0 HMm0 HOm0 HLm0 hxc hxf
        go_wp2_with fail
        refine (ynum_g HGm.out 4).mono ?_
        rintro e wn ⟨rfl, hg, hs⟩
        rw [← HVB.out]
        have HGn0 := Lib.hid hg
        have HZn0 := Lib.hid (HZm.out.step hs no10)
        have HMn0 := Lib.hid (HMm.out.step hs no10)
        have HOn0 := Lib.hid (HOm.out.step hs (by unfold only; omega))
        have HLn0 := Lib.hid (HLm.out.step hs no10)
        clear hg hs HGm HZm HMm HOm HLm
        have hxc := HLn0.out.1.cell 1
        have hxf := HLn0.out.1.frozen 1
        simp at hxc
        go_upto_region 17 with (fail)
        have hg := HGn0.out.setCell HLn0.out.2 HGJ.out 1 (.int .i64 (vb : Int))
        have hz := HZn0.out.far HGK.out 1 (.int .i64 (vb : Int))
        have hm := HMn0.out.far HGL.out 1 (.int .i64 (vb : Int))
        have ho := HOn0.out.setCell (p := ⟨gL, 1, none⟩) (own_blk_col HOn0.out HLn0.out.2) (.int .i64 (vb : Int))
        have hl : Keep o11 (wn.setCell ⟨gL, 1, none⟩ (.int .i64 (vb : Int))) gL 68 #[.int .i64 (va : Int), .int .i64 (vb : Int), .int .i64 0] := HLn0.out.set_ 1 (.int .i64 (vb : Int))
        generalize wn.setCell ⟨gL, 1, none⟩ (.int .i64 (vb : Int)) = Wn at hg hz hm ho hl ⊢
        have HGn := Lib.hid hg
        have HZn := Lib.hid hz
        have HMn := Lib.hid hm
        have HOn := Lib.hid ho
        have HLn := Lib.hid hl
        clear hg hz hm ho hl HGn0 HZn0 HMn0 HOn0 HLn0 hxc hxf
        go_wp2_with fail
        refine (ynum_g HGn.out 1).mono ?_
        rintro e wo ⟨rfl, hg, hs⟩
        rw [← HVM.out]
        have HGo0 := Lib.hid hg
        have HZo0 := Lib.hid (HZn.out.step hs no10)
        have HMo0 := Lib.hid (HMn.out.step hs no10)
        have HOo0 := Lib.hid (HOn.out.step hs (by unfold only; omega))
        have HLo0 := Lib.hid (HLn.out.step hs no10)
        clear hg hs HGn HZn HMn HOn HLn
        have hxc := HLo0.out.1.cell 2
        have hxf := HLo0.out.1.frozen 2
        simp at hxc
        go_upto_region 18 with (fail)
        have hg := HGo0.out.setCell HLo0.out.2 HGJ.out 2 (.int .i64 (vm : Int))
        have hz := HZo0.out.far HGK.out 2 (.int .i64 (vm : Int))
        have hm := HMo0.out.far HGL.out 2 (.int .i64 (vm : Int))
        have ho := HOo0.out.setCell (p := ⟨gL, 2, none⟩) (own_blk_col HOo0.out HLo0.out.2) (.int .i64 (vm : Int))
        have hl : Keep o11 (wo.setCell ⟨gL, 2, none⟩ (.int .i64 (vm : Int))) gL 68 #[.int .i64 (va : Int), .int .i64 (vb : Int), .int .i64 (vm : Int)] := HLo0.out.set_ 2 (.int .i64 (vm : Int))
        generalize wo.setCell ⟨gL, 2, none⟩ (.int .i64 (vm : Int)) = Wo at hg hz hm ho hl ⊢
        have HGo := Lib.hid hg
        have HZo := Lib.hid hz
        have HMo := Lib.hid hm
        have HOo := Lib.hid ho
        have HLo := Lib.hid hl
        clear hg hz hm ho hl HGo0 HZo0 HMo0 HOo0 HLo0 hxc hxf
        obtain ⟨x0, x1, x2⟩ := HLo.out.1.three
        have x7 := HMo.out.1.cell 7
        simp at x7
        have HG14 := HGo
        have HZ14 := HZo
        have HM14 := HMo
        have HO14 := HOo
        clear HGo HZo HMo HOo
        go_wp2_with (at_builtin; refine wpList_append_S _ rfl (.tmp 70) (.tmp 72) 24 rfl 68 i0 _ 3 24 Tryz.underlying24 hi hz0 hz1 hz2 rfl (by omega) (.slice A k cap) k (lkcells (lksV Rc k)) rfl (HO14.out.alloc (.cells #[.int .i64 (va : Int), .int .i64 (vb : Int), .int .i64 (vm : Int)] 68)) _ 1 1 [.int .i64 (va : Int), .int .i64 (vb : Int), .int .i64 (vm : Int)] rfl (Reads.newAt _ 68 3 1 _ _ _ rfl rfl rfl) (by simp [Value.oneCell']) (by unfold maxLen; omega) (by omega) ?_; intro v' w15 hown hst hg hat; obtain ⟨A2, cap2, rfl, _, _⟩ := own_form' hown; have hm15 := (HM14.out.alloc (.cells #[.int .i64 (va : Int), .int .i64 (vb : Int), .int .i64 (vm : Int)] 68)).step hst (by unfold only; omega); have y7 := hm15.1.cell 7; have f7 := hm15.1.frozen 7; simp at y7; have HM15 := Lib.hid hm15; have HG15 := Lib.hid ((HG14.out.alloc (.cells #[.int .i64 (va : Int), .int .i64 (vb : Int), .int .i64 (vm : Int)] 68)).own hst); have HZ15 := Lib.hid ((HZ14.out.alloc (.cells #[.int .i64 (va : Int), .int .i64 (vb : Int), .int .i64 (vm : Int)] 68)).step hst (by unfold only; omega)); have HO15 := Lib.hid hown; clear hown hst hg hat hm15)
        go_roundw
        case rel =>
          have hls : lksV Rc (k + 1) = lksV Rc k ++ [⟨va, vb, vm⟩] := by
            rw [lksV, ← HRR.out, lkV, ← HVA.out, ← HVB.out, ← HVM.out]
          refine ⟨k + 1, _, A2, cap2, by omega, by go_num, ?_, HZ15.out.far (Nat.ne_of_lt HRM.out) _ _, HM15.out.set_ 7 _, ?_⟩
          · have h9 := HG15.out.setCell HM15.out.2 HLE.out 7 (.slice A2 (k + 1) cap2)
            rw [lksR, ← HRR.out]
            exact h9
          · have h9 := HO15.out.setCell (p := ⟨gM, 7, none⟩) (own_blk_ne HO15.out HM15.out.1 (by decide)) (.slice A2 (k + 1) cap2)
            rw [hls]
            simpa [lkcells, Lk.cells] using h9
        case measure => simp [intOf]; omega
      · have HEV := Lib.hid hev
        have HRR := Lib.hid hR
        have hne : R.e ≠ 0 := by rw [← hev]; exact hee
        have hst : lksR Rc nn = R := by
          have h9 := lksR_stuck (R := Rc) (k := k) (by rw [← hR]; exact hne) (nn - k)
          rw [show k + (nn - k) = nn by omega] at h9
          rw [h9, hR]
        have hge : endE b = R.endV := by
          unfold endE
          rw [HRC.out.symm, HNN.out, show ((nn : Int)).toNat = nn by omega, hst]
        have he : endE b ≠ 0 := by rw [hge]; exact endV_stuck hne
        have HGE := Lib.hid hge
        have t0 : (ev == 0) = false := beq_eq_false_iff_ne.2 hee
        have e1 : gotM b = Mg.zero := if_neg (fun h => he h.1)
        have e2 : gotE b = endE b := if_pos he
        have t1 : (endE b != 0) = true := bne_iff_ne.2 he
        have E1 := Lib.hid e1
        have E2 := Lib.hid e2
        clear hge hst hne hev hR he e1 e2 hee
        go_wp2_with fail
        refine (yend_any HG.out.rd).mono ?_
        rintro e w11 ⟨rfl, hb11⟩
        have HG11 := Lib.hid (HG.out.below_ hb11)
        have HZ11 := Lib.hid (HZ.out.below_ hb11)
        rw [← HGE.out]
        clear hb11 HG HZ HM HO x1
        have zb := HZ11.out.1
        obtain ⟨z0, z1, z2, z3, z4, z5, z6, z7⟩ := zb.eight
        have y0 := zb.frozen 0
        have y1 := zb.frozen 1
        have y2 := zb.frozen 2
        have y3 := zb.frozen 3
        have y4 := zb.frozen 4
        have y5 := zb.frozen 5
        have y6 := zb.frozen 6
        have y7 := zb.frozen 7
        clear zb
        go_wp2_with fail
        have hg12 := HG11.out.set8 HZ11.out.2 (by have := HGQ.out; omega) (.int .i64 0) (.int .i64 0) (.int .i64 0) (.int .i64 0) (.int .i64 0) (.int .u64 0) (.int .i64 0) (.slice none 0 0)
        have hz12 := HZ11.out.set8 (.int .i64 0) (.int .i64 0) (.int .i64 0) (.int .i64 0) (.int .i64 0) (.int .u64 0) (.int .i64 0) (.slice none 0 0)
        generalize ((((((((w11.setCell ⟨gR, 0, none⟩ (.int .i64 0)).setCell ⟨gR, 1, none⟩ (.int .i64 0)).setCell ⟨gR, 2, none⟩ (.int .i64 0)).setCell ⟨gR, 3, none⟩ (.int .i64 0)).setCell ⟨gR, 4, none⟩ (.int .i64 0)).setCell ⟨gR, 5, none⟩ (.int .u64 0)).setCell ⟨gR, 6, none⟩ (.int .i64 0)).setCell ⟨gR, 7, none⟩ (.slice none 0 0)) = W12 at hg12 hz12 ⊢
        obtain ⟨q0, q1, q2, q3, q4, q5, q6, q7⟩ := hz12.1.eight
        refine bodyPost_ret (v := .tuple #[.agg #[.int .i64 0, .int .i64 0, .int .i64 0, .int .i64 0, .int .i64 0, .int .u64 0, .int .i64 0, .slice none 0 0], .int .i64 (endE b)]) (by simp [results, Tryz.results10, go_sem, q0, q1, q2, q3, q4, q5, q6, q7]) rfl ⟨none, 0, _, by rw [E1.out, E2.out]; rfl, by rw [E1.out]; exact OwnS.nil _ _ _ _ _, hg12.env, hg12.fut⟩
    · have hltI2 : ¬ (k : Int) < (nn : Int) := by omega
      obtain rfl : k = nn := by omega
      have hgm : getM b = ⟨kd, n1, n2, n3, n4, v8, v6, lksV Rc k⟩ := by
        obtain ⟨q1, q2, q3, q4⟩ := HN.out
        rw [getM_rK, ← q1, ← q2, ← q3, ← q4, ← HV6.out, ← HV8.out, ← HKD.out, HRC.out, HNN.out]
        rfl
      have hge : endE b = (lksR Rc k).endV := by
        unfold endE
        rw [HRC.out, HNN.out]
        rfl
      have HGM := Lib.hid hgm
      have HGE := Lib.hid hge
      have hll := lksV_len Rc k
      have HLL := Lib.hid hll
      clear hgm hge hll
      go_wp2_with fail
      refine (yend_any HG.out.rd).mono ?_
      rintro e w11 ⟨rfl, hb11⟩
      have HG11 := Lib.hid (HG.out.below_ hb11)
      have HZ11 := Lib.hid (HZ.out.below_ hb11)
      have HM11 := Lib.hid (HM.out.below_ hb11)
      have HO11 := Lib.hid (HO.out.below_ hb11)
      rw [← HGE.out]
      clear hb11 HG HZ HM HO
      have zb := HZ11.out.1
      obtain ⟨z0, z1, z2, z3, z4, z5, z6, z7⟩ := zb.eight
      have y0 := zb.frozen 0
      have y1 := zb.frozen 1
      have y2 := zb.frozen 2
      have y3 := zb.frozen 3
      have y4 := zb.frozen 4
      have y5 := zb.frozen 5
      have y6 := zb.frozen 6
      have y7 := zb.frozen 7
      clear zb
      by_cases he : endE b = 0
      · have t1 : (endE b != 0) = false := by rw [he]; rfl
        have HE := Lib.hid he
        have hrd : Reads w11 3 A (lksV Rc k).length (lkcells (lksV Rc k)) := by
          rw [HLL.out]
          exact Reads.of_own HO11.out.1
        have HRD := Lib.hid hrd
        have hag : Mg.agg ⟨kd, n1, n2, n3, n4, v8, v6, lksV Rc k⟩ A cap = .agg #[.int .i64 (kd : Int), .int .i64 n1, .int .i64 n2, .int .i64 n3, .int .i64 n4, .int .u64 (v8 : Int), .int .i64 (v6 : Int), .slice A k cap] := by
          unfold Mg.agg
          simp only [HLL.out]
        have HAG := Lib.hid hag
        obtain ⟨x0, x1, x2, x3, x4, x5, x6, x7⟩ := HM11.out.1.eight
        have hv8 : v8 < 18446744073709551616 := by rw [HV8.out]; exact numV_lt (rK b 5) 8 (by omega)
        have HV8L := Lib.hid hv8
        have H64 := Lib.hid (show (lksV Rc k).length ≤ maxLen by rw [HLL.out]; unfold maxLen; omega)
        clear he hrd hag hv8
        go_wp2_with fail
        rw [← HAG.out]
        refine (xputm_any ⟨kd, n1, n2, n3, n4, v8, v6, lksV Rc k⟩ w11 A cap HRD.out H64.out HV8L.out).mono ?_
        rintro e w12 ⟨rfl, hb12⟩
        try rw [HAG.out]
        rw [← HGM.out]
        have HG12 := Lib.hid (HG11.out.below_ hb12)
        have HZ12 := Lib.hid (HZ11.out.below_ hb12)
        have HM12 := Lib.hid (HM11.out.below_ hb12)
        have HO12 := Lib.hid (HO11.out.below_ hb12)
        clear hb12 x0 x1 x2 x3 x4 x5 x6 x7 z0 z1 z2 z3 z4 z5 z6 z7 y0 y1 y2 y3 y4 y5 y6 y7
        have zb := HZ12.out.1
        obtain ⟨z0, z1, z2, z3, z4, z5, z6, z7⟩ := zb.eight
        have y0 := zb.frozen 0
        have y1 := zb.frozen 1
        have y2 := zb.frozen 2
        have y3 := zb.frozen 3
        have y4 := zb.frozen 4
        have y5 := zb.frozen 5
        have y6 := zb.frozen 6
        have y7 := zb.frozen 7
        obtain ⟨x0, x1, x2, x3, x4, x5, x6, x7⟩ := HM12.out.1.eight
        have hne : gM ≠ gR := (Nat.ne_of_lt HRM.out).symm
        clear zb
        by_cases hok : (getM b).ok
        · have p1 : (getM b).putS = str (getM b).enc := if_pos hok
          have p2 : (getM b).putE = 0 := if_pos hok
          rw [p1, p2]
          clear p1 p2
          by_cases hbe : str (getM b).enc = b
          · rw [hbe]
            have e1 : gotM b = getM b := if_pos ⟨HE.out, hok, hbe⟩
            have e2 : gotE b = 0 := by unfold gotE; rw [if_neg (by rw [HE.out]; simp), if_pos (show goodM b from ⟨hok, hbe⟩)]
            have E1 := Lib.hid e1
            have E2 := Lib.hid e2
            have t2 : (b.toList == b.toList) = true := beq_self_eq_true _
            clear hbe e1 e2 hok
            go_wp2_with fail
            have hg13 := HG12.out.set8 HZ12.out.2 (by have := HGQ.out; omega) (.int .i64 (kd : Int)) (.int .i64 n1) (.int .i64 n2) (.int .i64 n3) (.int .i64 n4) (.int .u64 (v8 : Int)) (.int .i64 (v6 : Int)) (.slice A k cap)
            have hz13 := HZ12.out.set8 (.int .i64 (kd : Int)) (.int .i64 n1) (.int .i64 n2) (.int .i64 n3) (.int .i64 n4) (.int .u64 (v8 : Int)) (.int .i64 (v6 : Int)) (.slice A k cap)
            have ho13 := HO12.out.set8 (own_blk_ne HO12.out HZ12.out.1 (by decide)) (.int .i64 (kd : Int)) (.int .i64 n1) (.int .i64 n2) (.int .i64 n3) (.int .i64 n4) (.int .u64 (v8 : Int)) (.int .i64 (v6 : Int)) (.slice A k cap)
            generalize ((((((((w12.setCell ⟨gR, 0, none⟩ (.int .i64 (kd : Int))).setCell ⟨gR, 1, none⟩ (.int .i64 n1)).setCell ⟨gR, 2, none⟩ (.int .i64 n2)).setCell ⟨gR, 3, none⟩ (.int .i64 n3)).setCell ⟨gR, 4, none⟩ (.int .i64 n4)).setCell ⟨gR, 5, none⟩ (.int .u64 (v8 : Int))).setCell ⟨gR, 6, none⟩ (.int .i64 (v6 : Int))).setCell ⟨gR, 7, none⟩ (.slice A k cap)) = W13 at hg13 hz13 ho13 ⊢
            obtain ⟨q0, q1, q2, q3, q4, q5, q6, q7⟩ := hz13.1.eight
            refine bodyPost_ret (v := .tuple #[.agg #[.int .i64 (kd : Int), .int .i64 n1, .int .i64 n2, .int .i64 n3, .int .i64 n4, .int .u64 (v8 : Int), .int .i64 (v6 : Int), .slice A k cap], .int .i64 0]) (by simp [results, Tryz.results10, go_sem, q0, q1, q2, q3, q4, q5, q6, q7]) rfl ⟨A, cap, _, ?_, ?_, hg13.env, hg13.fut⟩
            · rw [E1.out, E2.out, HGM.out, HAG.out]
            · rw [E1.out, HGM.out]
              simp only [HLL.out]
              exact ho13
          · have e1 : gotM b = Mg.zero := if_neg (fun h => hbe h.2.2)
            have e2 : gotE b = 4 := by unfold gotE; rw [if_neg (by rw [HE.out]; simp), if_neg (show ¬ goodM b from fun h => hbe h.2)]
            have E1 := Lib.hid e1
            have E2 := Lib.hid e2
            obtain ⟨S, hS⟩ : ∃ S, S = str (getM b).enc := ⟨_, rfl⟩
            rw [← hS] at hbe ⊢
            have t2 := str_neq hbe
            clear hbe e1 e2 hok hS
            go_wp2_with fail
            have hg13 := HG12.out.set8 HZ12.out.2 (by have := HGQ.out; omega) (.int .i64 0) (.int .i64 0) (.int .i64 0) (.int .i64 0) (.int .i64 0) (.int .u64 0) (.int .i64 0) (.slice none 0 0)
            have hz13 := HZ12.out.set8 (.int .i64 0) (.int .i64 0) (.int .i64 0) (.int .i64 0) (.int .i64 0) (.int .u64 0) (.int .i64 0) (.slice none 0 0)
            generalize ((((((((w12.setCell ⟨gR, 0, none⟩ (.int .i64 0)).setCell ⟨gR, 1, none⟩ (.int .i64 0)).setCell ⟨gR, 2, none⟩ (.int .i64 0)).setCell ⟨gR, 3, none⟩ (.int .i64 0)).setCell ⟨gR, 4, none⟩ (.int .i64 0)).setCell ⟨gR, 5, none⟩ (.int .u64 0)).setCell ⟨gR, 6, none⟩ (.int .i64 0)).setCell ⟨gR, 7, none⟩ (.slice none 0 0)) = W13 at hg13 hz13 ⊢
            obtain ⟨q0, q1, q2, q3, q4, q5, q6, q7⟩ := hz13.1.eight
            refine bodyPost_ret (v := .tuple #[.agg #[.int .i64 0, .int .i64 0, .int .i64 0, .int .i64 0, .int .i64 0, .int .u64 0, .int .i64 0, .slice none 0 0], .int .i64 4]) (by simp [results, Tryz.results10, go_sem, q0, q1, q2, q3, q4, q5, q6, q7]) rfl ⟨none, 0, _, by rw [E1.out, E2.out]; rfl, by rw [E1.out]; exact OwnS.nil _ _ _ _ _, hg13.env, hg13.fut⟩
        · have p1 : (getM b).putS = ⟨#[]⟩ := if_neg hok
          have p2 : (getM b).putE = 1 := if_neg hok
          rw [p1, p2]
          have e1 : gotM b = Mg.zero := if_neg (fun h => hok h.2.1)
          have e2 : gotE b = 4 := by unfold gotE; rw [if_neg (by rw [HE.out]; simp), if_neg (show ¬ goodM b from fun h => hok h.1)]
          have E1 := Lib.hid e1
          have E2 := Lib.hid e2
          clear p1 p2 e1 e2 hok
          go_wp2_with fail
          have hg13 := HG12.out.set8 HZ12.out.2 (by have := HGQ.out; omega) (.int .i64 0) (.int .i64 0) (.int .i64 0) (.int .i64 0) (.int .i64 0) (.int .u64 0) (.int .i64 0) (.slice none 0 0)
          have hz13 := HZ12.out.set8 (.int .i64 0) (.int .i64 0) (.int .i64 0) (.int .i64 0) (.int .i64 0) (.int .u64 0) (.int .i64 0) (.slice none 0 0)
          generalize ((((((((w12.setCell ⟨gR, 0, none⟩ (.int .i64 0)).setCell ⟨gR, 1, none⟩ (.int .i64 0)).setCell ⟨gR, 2, none⟩ (.int .i64 0)).setCell ⟨gR, 3, none⟩ (.int .i64 0)).setCell ⟨gR, 4, none⟩ (.int .i64 0)).setCell ⟨gR, 5, none⟩ (.int .u64 0)).setCell ⟨gR, 6, none⟩ (.int .i64 0)).setCell ⟨gR, 7, none⟩ (.slice none 0 0)) = W13 at hg13 hz13 ⊢
          obtain ⟨q0, q1, q2, q3, q4, q5, q6, q7⟩ := hz13.1.eight
          refine bodyPost_ret (v := .tuple #[.agg #[.int .i64 0, .int .i64 0, .int .i64 0, .int .i64 0, .int .i64 0, .int .u64 0, .int .i64 0, .slice none 0 0], .int .i64 4]) (by simp [results, Tryz.results10, go_sem, q0, q1, q2, q3, q4, q5, q6, q7]) rfl ⟨none, 0, _, by rw [E1.out, E2.out]; rfl, by rw [E1.out]; exact OwnS.nil _ _ _ _ _, hg13.env, hg13.fut⟩
      · have t1 : (endE b != 0) = true := bne_iff_ne.2 he
        have e1 : gotM b = Mg.zero := if_neg (fun h => he h.1)
        have e2 : gotE b = endE b := if_pos he
        have E1 := Lib.hid e1
        have E2 := Lib.hid e2
        clear he e1 e2
        go_wp2_with fail
        have hg12 := HG11.out.set8 HZ11.out.2 (by have := HGQ.out; omega) (.int .i64 0) (.int .i64 0) (.int .i64 0) (.int .i64 0) (.int .i64 0) (.int .u64 0) (.int .i64 0) (.slice none 0 0)
        have hz12 := HZ11.out.set8 (.int .i64 0) (.int .i64 0) (.int .i64 0) (.int .i64 0) (.int .i64 0) (.int .u64 0) (.int .i64 0) (.slice none 0 0)
        generalize ((((((((w11.setCell ⟨gR, 0, none⟩ (.int .i64 0)).setCell ⟨gR, 1, none⟩ (.int .i64 0)).setCell ⟨gR, 2, none⟩ (.int .i64 0)).setCell ⟨gR, 3, none⟩ (.int .i64 0)).setCell ⟨gR, 4, none⟩ (.int .i64 0)).setCell ⟨gR, 5, none⟩ (.int .u64 0)).setCell ⟨gR, 6, none⟩ (.int .i64 0)).setCell ⟨gR, 7, none⟩ (.slice none 0 0)) = W12 at hg12 hz12 ⊢
        obtain ⟨q0, q1, q2, q3, q4, q5, q6, q7⟩ := hz12.1.eight
        refine bodyPost_ret (v := .tuple #[.agg #[.int .i64 0, .int .i64 0, .int .i64 0, .int .i64 0, .int .i64 0, .int .u64 0, .int .i64 0, .slice none 0 0], .int .i64 (endE b)]) (by simp [results, Tryz.results10, go_sem, q0, q1, q2, q3, q4, q5, q6, q7]) rfl ⟨none, 0, _, by rw [E1.out, E2.out]; rfl, by rw [E1.out]; exact OwnS.nil _ _ _ _ _, hg12.env, hg12.fut⟩
end Go.Proofs.YtjmgefpdfhfhmaaGreatDoor
