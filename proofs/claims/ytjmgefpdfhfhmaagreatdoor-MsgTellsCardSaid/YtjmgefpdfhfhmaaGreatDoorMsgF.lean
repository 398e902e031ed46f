/- Messages, the document's: PutMsg lays one. -/
import Derived.Test.YtjmgefpdfhfhmaaGreatDoorMsgE
namespace Go.Proofs.YtjmgefpdfhfhmaaGreatDoor
open Go.RowKit

set_option maxRecDepth 100000 in
set_option maxHeartbeats 4000000 in
theorem xputm_ok (m : Mg) (w : World) (A : Option Addr) (cap : Nat) (h : Reads w 3 A m.locks.length (lkcells m.locks)) (he : m.epoch < 18446744073709551616) (hok : m.ok) :
    Calls Tryz.prog 7 #[m.agg A cap] w fun e w' => e = .returned (.tuple #[.string (str m.enc), .int .i64 0]) ∧ Below w.heap.size w w' := by
  have HR := Lib.hid h
  have HE := Lib.hid he
  have HOK := Lib.hid hok
  have hL200 := hok.1.2.2
  obtain ⟨kd, hkd⟩ : ∃ kd : Nat, m.kind = kd := ⟨m.kind.toNat, by have := hok.1.1; omega⟩
  have hkd2 : kd ≤ 15 := by have := hok.1.2.1; omega
  obtain ⟨id, hid, id2, id3⟩ := sm_toNat hok.2.1.1
  obtain ⟨nd, hnd, nd2, nd3⟩ := sm_toNat hok.2.1.2.1
  obtain ⟨ge, hge, ge2, ge3⟩ := sm_toNat hok.2.1.2.2.1
  obtain ⟨st, hst, st2, st3⟩ := sm_toNat hok.2.1.2.2.2.1
  obtain ⟨er, her, er2, er3⟩ := sm_toNat hok.2.1.2.2.2.2
  have kd3 : m.kind.toNat = kd := by omega
  clear h he hok
  have hagg : m.agg A cap = .agg #[.int .i64 (kd : Int), .int .i64 (id : Int), .int .i64 (nd : Int), .int .i64 (ge : Int), .int .i64 (st : Int), .int .u64 m.epoch, .int .i64 (er : Int), .slice A m.locks.length cap] := by unfold Mg.agg; rw [hkd, hid, hnd, hge, hst, her]
  have HAG := Lib.hid hagg
  have HHD := Lib.hid (show [] ++ le kd (1 : Int).toNat ++ le id (4 : Int).toNat ++ le nd (4 : Int).toNat ++ le ge (4 : Int).toNat ++ le st (4 : Int).toNat ++ le er (4 : Int).toNat ++ le m.epoch (8 : Int).toNat ++ le m.locks.length (2 : Int).toNat = m.head ++ (le m.locks.length 2 ++ (m.locks.take 0).flatMap Lk.enc) by
    rw [← kd3, ← id3, ← nd3, ← ge3, ← st3, ← er3]
    simp [Mg.head])
  rw [hagg]
  clear hagg hkd hid hnd hge hst her id3 nd3 ge3 st3 er3 kd3
  have HN0 := Lib.hid (show numOk kd 1 from ⟨by omega, by omega, by simp; omega⟩)
  have HS0 := Lib.hid (show kd < 18446744073709551616 from by omega)
  have wf0 := wrapu_nat (v := kd) (by omega)
  have HN1 := Lib.hid (show numOk id 4 from ⟨by omega, by omega, by simp; omega⟩)
  have HS1 := Lib.hid (show id < 18446744073709551616 from by omega)
  have wf1 := wrapu_nat (v := id) (by omega)
  have HN2 := Lib.hid (show numOk nd 4 from ⟨by omega, by omega, by simp; omega⟩)
  have HS2 := Lib.hid (show nd < 18446744073709551616 from by omega)
  have wf2 := wrapu_nat (v := nd) (by omega)
  have HN3 := Lib.hid (show numOk ge 4 from ⟨by omega, by omega, by simp; omega⟩)
  have HS3 := Lib.hid (show ge < 18446744073709551616 from by omega)
  have wf3 := wrapu_nat (v := ge) (by omega)
  have HN4 := Lib.hid (show numOk st 4 from ⟨by omega, by omega, by simp; omega⟩)
  have HS4 := Lib.hid (show st < 18446744073709551616 from by omega)
  have wf4 := wrapu_nat (v := st) (by omega)
  have HN5 := Lib.hid (show numOk er 4 from ⟨by omega, by omega, by simp; omega⟩)
  have HS5 := Lib.hid (show er < 18446744073709551616 from by omega)
  have wf5 := wrapu_nat (v := er) (by omega)
  have HN6 := Lib.hid (show numOk m.epoch 8 from ⟨by omega, by omega, by simp; exact HE.out⟩)
  have HS6 := Lib.hid (show m.epoch < 18446744073709551616 from HE.out)
  have HN7 := Lib.hid (show numOk m.locks.length 2 from ⟨by omega, by omega, by simp; omega⟩)
  have HS7 := Lib.hid (show m.locks.length < 18446744073709551616 from by omega)
  have wf7 := wrapu_nat (v := m.locks.length) (by omega)
  have HBL := Lib.hid (show ∀ l : List UInt8, l.length ≤ 100 → l.length ≤ 1000000000 from fun l h => by omega)
  clear hkd2 id2 nd2 ge2 st2 er2
  go_enter Tryz.func7, Tryz.ntmps7
  go_wp2_with fail
  have hb0 := (Below.refl w.heap.size w).alloc (Nat.le_refl _) (.cells #[.int .i64 (kd : Int), .int .i64 (id : Int), .int .i64 (nd : Int), .int .i64 (ge : Int), .int .i64 (st : Int), .int .u64 m.epoch, .int .i64 (er : Int), .slice A m.locks.length cap] 50)
  rw [← HAG.out]
  refine (xvalid_any m _ A cap (HR.out.below (by decide) hb0) (by unfold maxLen; omega)).mono ?_
  rintro e w1 ⟨rfl, hb1⟩
  rw [decide_eq_true HOK.out]
  try rw [HAG.out]
  have hx := (Blk.new w 50 #[.int .i64 (kd : Int), .int .i64 (id : Int), .int .i64 (nd : Int), .int .i64 (ge : Int), .int .i64 (st : Int), .int .u64 m.epoch, .int .i64 (er : Int), .slice A m.locks.length cap]).below_ hb1
  obtain ⟨o2, hw2, hs2⟩ := Xg.start (w0 := w) (hb0.trans (hb1.mono hb0.size))
  have hk2 : Keep o2 _ _ _ _ := Keep.step (o := fun _ => 0) ⟨hx, rfl⟩ (hs2 (fun _ => False)) (by simp)
  have HW2 := Lib.hid hw2
  have HK2 := Lib.hid hk2
  clear hb0 hb1 hx hw2 hs2 hk2
  go_upto_region 4 with (fail)
  generalize w1.alloc (.cells #[.slice none 0 0, .int .i64 0] 78) = W at HW2 HK2 ⊢
  generalize w1.heap.size = p at HW2 ⊢
  generalize w.heap.size = g at HK2 ⊢
  obtain ⟨x0, x1, x2, x3, x4, x5, x6, x7⟩ := HK2.out.1.eight
  go_wp2_with fail
  refine (xnum_ok HW2.out kd 1 HN0.out HS0.out (HBL.out (([] : List UInt8)) (by simp))).mono ?_
  rintro e3 w3 ⟨rfl, o3, hw3, hs3⟩
  have hk3 := HK2.out.step hs3 no10
  clear x0 x1 x2 x3 x4 x5 x6 x7
  obtain ⟨x0, x1, x2, x3, x4, x5, x6, x7⟩ := hk3.1.eight
  have HW3 := Lib.hid hw3
  have HK3 := Lib.hid hk3
  clear hw3 hs3 hk3 HW2 HK2
  go_wp2_with fail
  refine (xnum_ok HW3.out id 4 HN1.out HS1.out (HBL.out ([] ++ le kd (1 : Int).toNat) (by simp [le_len]))).mono ?_
  rintro e4 w4 ⟨rfl, o4, hw4, hs4⟩
  have hk4 := HK3.out.step hs4 no10
  clear x0 x1 x2 x3 x4 x5 x6 x7
  obtain ⟨x0, x1, x2, x3, x4, x5, x6, x7⟩ := hk4.1.eight
  have HW4 := Lib.hid hw4
  have HK4 := Lib.hid hk4
  clear hw4 hs4 hk4 HW3 HK3
  go_wp2_with fail
  refine (xnum_ok HW4.out nd 4 HN2.out HS2.out (HBL.out ([] ++ le kd (1 : Int).toNat ++ le id (4 : Int).toNat) (by simp [le_len]))).mono ?_
  rintro e5 w5 ⟨rfl, o5, hw5, hs5⟩
  have hk5 := HK4.out.step hs5 no10
  clear x0 x1 x2 x3 x4 x5 x6 x7
  obtain ⟨x0, x1, x2, x3, x4, x5, x6, x7⟩ := hk5.1.eight
  have HW5 := Lib.hid hw5
  have HK5 := Lib.hid hk5
  clear hw5 hs5 hk5 HW4 HK4
  go_wp2_with fail
  refine (xnum_ok HW5.out ge 4 HN3.out HS3.out (HBL.out ([] ++ le kd (1 : Int).toNat ++ le id (4 : Int).toNat ++ le nd (4 : Int).toNat) (by simp [le_len]))).mono ?_
  rintro e6 w6 ⟨rfl, o6, hw6, hs6⟩
  have hk6 := HK5.out.step hs6 no10
  clear x0 x1 x2 x3 x4 x5 x6 x7
  obtain ⟨x0, x1, x2, x3, x4, x5, x6, x7⟩ := hk6.1.eight
  have HW6 := Lib.hid hw6
  have HK6 := Lib.hid hk6
  clear hw6 hs6 hk6 HW5 HK5
  go_wp2_with fail
  refine (xnum_ok HW6.out st 4 HN4.out HS4.out (HBL.out ([] ++ le kd (1 : Int).toNat ++ le id (4 : Int).toNat ++ le nd (4 : Int).toNat ++ le ge (4 : Int).toNat) (by simp [le_len]))).mono ?_
  rintro e7 w7 ⟨rfl, o7, hw7, hs7⟩
  have hk7 := HK6.out.step hs7 no10
  clear x0 x1 x2 x3 x4 x5 x6 x7
  obtain ⟨x0, x1, x2, x3, x4, x5, x6, x7⟩ := hk7.1.eight
  have HW7 := Lib.hid hw7
  have HK7 := Lib.hid hk7
  clear hw7 hs7 hk7 HW6 HK6
  go_wp2_with fail
  refine (xnum_ok HW7.out er 4 HN5.out HS5.out (HBL.out ([] ++ le kd (1 : Int).toNat ++ le id (4 : Int).toNat ++ le nd (4 : Int).toNat ++ le ge (4 : Int).toNat ++ le st (4 : Int).toNat) (by simp [le_len]))).mono ?_
  rintro e8 w8 ⟨rfl, o8, hw8, hs8⟩
  have hk8 := HK7.out.step hs8 no10
  clear x0 x1 x2 x3 x4 x5 x6 x7
  obtain ⟨x0, x1, x2, x3, x4, x5, x6, x7⟩ := hk8.1.eight
  have HW8 := Lib.hid hw8
  have HK8 := Lib.hid hk8
  clear hw8 hs8 hk8 HW7 HK7
  go_wp2_with fail
  refine (xnum_ok HW8.out m.epoch 8 HN6.out HS6.out (HBL.out ([] ++ le kd (1 : Int).toNat ++ le id (4 : Int).toNat ++ le nd (4 : Int).toNat ++ le ge (4 : Int).toNat ++ le st (4 : Int).toNat ++ le er (4 : Int).toNat) (by simp [le_len]))).mono ?_
  rintro e9 w9 ⟨rfl, o9, hw9, hs9⟩
  have hk9 := HK8.out.step hs9 no10
  clear x0 x1 x2 x3 x4 x5 x6 x7
  obtain ⟨x0, x1, x2, x3, x4, x5, x6, x7⟩ := hk9.1.eight
  have HW9 := Lib.hid hw9
  have HK9 := Lib.hid hk9
  clear hw9 hs9 hk9 HW8 HK8
  go_wp2_with fail
  refine (xnum_ok HW9.out m.locks.length 2 HN7.out HS7.out (HBL.out ([] ++ le kd (1 : Int).toNat ++ le id (4 : Int).toNat ++ le nd (4 : Int).toNat ++ le ge (4 : Int).toNat ++ le st (4 : Int).toNat ++ le er (4 : Int).toNat ++ le m.epoch (8 : Int).toNat) (by simp [le_len]))).mono ?_
  rintro e10 w10 ⟨rfl, o10, hw10, hs10⟩
  have hk10 := HK9.out.step hs10 no10
  clear x0 x1 x2 x3 x4 x5 x6 x7
  obtain ⟨x0, x1, x2, x3, x4, x5, x6, x7⟩ := hk10.1.eight
  have HW10 := Lib.hid hw10
  have HK10 := Lib.hid hk10
  clear hw10 hs10 hk10 HW9 HK9
  clear x0 x1 x2 x3 x4 x5 x6
  go_wp2_with fail
  clear x7
  have HST := Lib.hid (show ∃ o, Xg o w w10 p (m.head ++ (le m.locks.length 2 ++ (m.locks.take 0).flatMap Lk.enc)) ∧ Keep o w10 g 50 #[.int .i64 (kd : Int), .int .i64 (id : Int), .int .i64 (nd : Int), .int .i64 (ge : Int), .int .i64 (st : Int), .int .u64 m.epoch, .int .i64 (er : Int), .slice A m.locks.length cap] from ⟨o10, HHD.out ▸ HW10.out, HK10.out⟩)
  clear HW10 HK10 HHD HAG wf0 wf1 wf2 wf3 wf4 wf5 wf7 HN0 HN1 HN2 HN3 HN4 HN5 HN6 HN7 HS0 HS1 HS2 HS3 HS4 HS5 HS6 HS7
  go_loopw [5] (fun t5 wr => ∃ (k : Nat) (o : Nat → Nat), k ≤ m.locks.length ∧ t5 = .int .i64 k ∧ Xg o w wr p (m.head ++ (le m.locks.length 2 ++ (m.locks.take k).flatMap Lk.enc)) ∧ Keep o wr g 50 #[.int .i64 (kd : Int), .int .i64 (id : Int), .int .i64 (nd : Int), .int .i64 (ge : Int), .int .i64 (st : Int), .int .u64 m.epoch, .int .i64 (er : Int), .slice A m.locks.length cap]) (fun t5 _ => m.locks.length - (intOf t5).toNat)
  case atStart =>
    obtain ⟨o4, h1, h2⟩ := HST.out
    exact ⟨0, o4, by omega, rfl, h1, h2⟩
  case round =>
    clear HST
    obtain ⟨k, o9, hk9, rfl, hwg, hkm⟩ := hrel
    have HWG := Lib.hid hwg
    have HKM := Lib.hid hkm
    clear hwg hkm
    obtain ⟨x0, x1, x2, x3, x4, x5, x6, x7⟩ := HKM.out.1.eight
    clear x0 x1 x2 x3 x4 x5 x6
    by_cases hlt2 : k < m.locks.length
    · have hltI2 : (k : Int) < (m.locks.length : Int) := by omega
      obtain ⟨y, hy⟩ : ∃ y, m.locks[k]? = some y := ⟨_, List.getElem?_eq_getElem hlt2⟩
      obtain ⟨ad, rfl, c0, c1, c2⟩ := (HR.out.below (by decide) HWG.out.env.low).lock hy
      have hyo : y.ok := HOK.out.2.2 y (List.mem_of_getElem? hy)
      have HTK := Lib.hid (show m.head ++ (le m.locks.length 2 ++ (m.locks.take k).flatMap Lk.enc) ++ le y.a.toNat 4 ++ le y.b.toNat 4 ++ le y.m.toNat 1 = m.head ++ (le m.locks.length 2 ++ (m.locks.take (k + 1)).flatMap Lk.enc) by
        rw [List.take_add_one, hy]
        simp [Lk.enc])
      have hlen : (m.head ++ (le m.locks.length 2 ++ (m.locks.take k).flatMap Lk.enc)).length ≤ 2000 := by
        simp only [List.length_append, head_len, le_len, lksenc_len, List.length_take]
        omega
      have HY := Lib.hid hy
      generalize m.head ++ (le m.locks.length 2 ++ (m.locks.take k).flatMap Lk.enc) = bs at HWG HTK hlen
      obtain ⟨ya, yb, ym⟩ := y
      obtain ⟨q0, q1, q2, q3, q4⟩ := hyo
      simp only at c0 c1 c2 q0 q1 q2 q3 q4 HTK
      obtain ⟨na, rfl⟩ : ∃ n : Nat, ya = n := ⟨ya.toNat, by omega⟩
      obtain ⟨nb, rfl⟩ : ∃ n : Nat, yb = n := ⟨yb.toNat, by omega⟩
      obtain ⟨nm, rfl⟩ : ∃ n : Nat, ym = n := ⟨ym.toNat, by omega⟩
      clear hy
      have HNA := Lib.hid (show numOk na 4 from ⟨by omega, by omega, by simp; omega⟩)
      have HNB := Lib.hid (show numOk nb 4 from ⟨by omega, by omega, by simp; omega⟩)
      have HNM := Lib.hid (show numOk nm 1 from ⟨by omega, by omega, by simp; omega⟩)
      have HA64 := Lib.hid (show na < 18446744073709551616 by omega)
      have HB64 := Lib.hid (show nb < 18446744073709551616 by omega)
      have HM64 := Lib.hid (show nm < 18446744073709551616 by omega)
      have HL1 := Lib.hid (show bs.length ≤ 1000000000 by omega)
      have HL2 := Lib.hid (show (bs ++ le na (4 : Int).toNat).length ≤ 1000000000 by rw [List.length_append, le_len]; simp; omega)
      have HL3 := Lib.hid (show (bs ++ le na (4 : Int).toNat ++ le nb (4 : Int).toNat).length ≤ 1000000000 by rw [List.length_append, List.length_append, le_len, le_len]; simp; omega)
      have wa := wrapu_nat (v := na) (by omega)
      have wb := wrapu_nat (v := nb) (by omega)
      have wm := wrapu_nat (v := nm) (by omega)
      clear hlen q0 q1 q2 q3 q4
      go_wp2_with fail
      refine (xnum_ok HWG.out na 4 HNA.out HA64.out HL1.out).mono ?_
      rintro e w11 ⟨rfl, o11, hw11, hs11⟩
      have hk11 := HKM.out.step hs11 no10
      clear c0 c1 c2 x7
      obtain ⟨x0, x1, x2, x3, x4, x5, x6, x7⟩ := hk11.1.eight
      obtain ⟨ad2, hA2, c0, c1, c2⟩ := (HR.out.below (by decide) hw11.env.low).lock HY.out
      cases hA2
      simp only at c0 c1 c2
      have HW11 := Lib.hid hw11
      have HK11 := Lib.hid hk11
      clear hw11 hs11 hk11 x0 x1 x2 x3 x4 x5 x6 wa
      go_wp2_with fail
      refine (xnum_ok HW11.out nb 4 HNB.out HB64.out HL2.out).mono ?_
      rintro e w12 ⟨rfl, o12, hw12, hs12⟩
      have hk12 := HK11.out.step hs12 no10
      clear c0 c1 c2 x7
      obtain ⟨x0, x1, x2, x3, x4, x5, x6, x7⟩ := hk12.1.eight
      obtain ⟨ad2, hA2, c0, c1, c2⟩ := (HR.out.below (by decide) hw12.env.low).lock HY.out
      cases hA2
      simp only at c0 c1 c2
      have HW12 := Lib.hid hw12
      have HK12 := Lib.hid hk12
      clear hw12 hs12 hk12 x0 x1 x2 x3 x4 x5 x6 wb
      go_wp2_with fail
      refine (xnum_ok HW12.out nm 1 HNM.out HM64.out HL3.out).mono ?_
      rintro e w13 ⟨rfl, o13, hw13, hs13⟩
      have HW13 := Lib.hid hw13
      have HK13 := Lib.hid (HK12.out.step hs13 no10)
      clear hw13 hs13 c0 c1 c2 x7 wm
      go_wp2_with fail
      go_roundw
      case rel => exact ⟨k + 1, o13, by omega, by go_num, by rw [← HTK.out]; exact HW13.out, HK13.out⟩
      case measure => simp [intOf]; omega
    · have hltI2 : ¬ (k : Int) < (m.locks.length : Int) := by omega
      obtain rfl : k = m.locks.length := by omega
      rw [List.take_length] at HWG
      obtain ⟨B, bcap, y0, y1⟩ := HWG.out.conv
      have hpl : p < wr.heap.size := HWG.out.wr.lt
      have hEN : m.head ++ (le m.locks.length 2 ++ m.locks.flatMap Lk.enc) = m.enc := rfl
      rw [hEN] at y0 y1
      have HEV := Lib.hid HWG.out.env.low
      generalize m.enc.length = L at y0 y1
      generalize hS : str m.enc = S at y1
      have HS9 := Lib.hid hS
      clear hS
      go_wp2_with fail
      go_ret2
      exact ⟨by rw [HS9.out]; rfl, HEV.out⟩
set_option maxRecDepth 100000 in
set_option maxHeartbeats 1000000 in
theorem xputm_any (m : Mg) (w : World) (A : Option Addr) (cap : Nat) (h : Reads w 3 A m.locks.length (lkcells m.locks)) (hl : m.locks.length ≤ maxLen) (he : m.epoch < 18446744073709551616) :
    Calls Tryz.prog 7 #[m.agg A cap] w fun e w' => e = .returned (.tuple #[.string m.putS, .int .i64 m.putE]) ∧ Below w.heap.size w w' := by
  by_cases hok : m.ok
  · rw [show m.putS = str m.enc from if_pos hok, show m.putE = 0 from if_pos hok]
    exact xputm_ok m w A cap h he hok
  · rw [show m.putS = ⟨#[]⟩ from if_neg hok, show m.putE = 1 from if_neg hok]
    have HOK := Lib.hid hok
    have HR := Lib.hid h
    have HL := Lib.hid hl
    clear hok h hl he
    have hagg : m.agg A cap = .agg #[.int .i64 m.kind, .int .i64 m.id, .int .i64 m.node, .int .i64 m.gen, .int .i64 m.stamp, .int .u64 m.epoch, .int .i64 m.err, .slice A m.locks.length cap] := rfl
    have HAG := Lib.hid hagg
    rw [hagg]
    clear hagg
    go_enter Tryz.func7, Tryz.ntmps7
    go_wp2_with fail
    have hb0 := (Below.refl w.heap.size w).alloc (Nat.le_refl _) (.cells #[.int .i64 m.kind, .int .i64 m.id, .int .i64 m.node, .int .i64 m.gen, .int .i64 m.stamp, .int .u64 m.epoch, .int .i64 m.err, .slice A m.locks.length cap] 50)
    rw [← HAG.out]
    refine (xvalid_any m _ A cap (HR.out.below (by decide) hb0) HL.out).mono ?_
    rintro e w1 ⟨rfl, hb1⟩
    rw [decide_eq_false HOK.out]
    have HB := Lib.hid (hb0.trans (hb1.mono hb0.size))
    clear hb0 hb1
    go_wp2_with fail
    go_ret2
    exact ⟨rfl, HB.out⟩
end Go.Proofs.YtjmgefpdfhfhmaaGreatDoor
