/- Messages: Put lays one. -/
import Derived.Test.YtjmgefpdfhfhmaaGreatDoorMsgA
namespace Go.Proofs.YtjmgefpdfhfhmaaGreatDoor
open Go.RowKit

/-- a block of the call's own, of colour 0, known whole -/
def Keep (o : Nat → Nat) (w : World) (g : Nat) (t : TypeId) (cs : Array Value) : Prop := Blk w g t cs ∧ o g = 0
section
variable {o o' : Nat → Nat} {C : Nat → Prop} {w w' : World} {g : Nat} {t : TypeId} {cs : Array Value}
theorem Keep.step (h : Keep o w g t cs) (hs : Step o C w o' w') (h0 : ¬ C 0) : Keep o' w' g t cs := ⟨h.1.step hs (by rw [h.2]; exact h0), (hs.old g h.1.lt).trans h.2⟩
theorem Keep.below_ (h : Keep o w g t cs) (hb : Below w.heap.size w w') : Keep o w' g t cs := ⟨h.1.below_ hb, h.2⟩
theorem Keep.alloc (h : Keep o w g t cs) (x : Obj) : Keep o (w.alloc x) g t cs := ⟨h.1.alloc x, h.2⟩
theorem Keep.drewN (h : Keep o w g t cs) (n : Nat) : Keep o (w.drewN n) g t cs := h
theorem Keep.drew (h : Keep o w g t cs) : Keep o w.drew g t cs := h
theorem Keep.new (hf : Fut o w) (t : TypeId) (cs : Array Value) : Keep o (w.alloc (.cells cs t)) w.heap.size t cs := ⟨Blk.new _ _ _, hf.at_⟩
end
theorem Blk.eight {w : World} {g : Nat} {t : TypeId} {c0 c1 c2 c3 c4 c5 c6 c7 : Value} (h : Blk w g t #[c0, c1, c2, c3, c4, c5, c6, c7]) : w.cell? ⟨g, 0, none⟩ = some c0 ∧ w.cell? ⟨g, 1, none⟩ = some c1 ∧ w.cell? ⟨g, 2, none⟩ = some c2 ∧ w.cell? ⟨g, 3, none⟩ = some c3 ∧ w.cell? ⟨g, 4, none⟩ = some c4 ∧ w.cell? ⟨g, 5, none⟩ = some c5 ∧ w.cell? ⟨g, 6, none⟩ = some c6 ∧ w.cell? ⟨g, 7, none⟩ = some c7 :=
  ⟨h.cell 0, h.cell 1, h.cell 2, h.cell 3, h.cell 4, h.cell 5, h.cell 6, h.cell 7⟩
theorem Blk.three {w : World} {g : Nat} {t : TypeId} {c0 c1 c2 : Value} (h : Blk w g t #[c0, c1, c2]) : w.cell? ⟨g, 0, none⟩ = some c0 ∧ w.cell? ⟨g, 1, none⟩ = some c1 ∧ w.cell? ⟨g, 2, none⟩ = some c2 := ⟨h.cell 0, h.cell 1, h.cell 2⟩
/-- a writer under way: its bytes; all is well; what lay before stays -/
structure Wg (o : Nat → Nat) (w0 w : World) (p : Nat) (bs : List UInt8) : Prop where
  wr : WrAt 71 o 1 w p ⟨bs, 0⟩
  env : Env o w0 w
  fut : Fut o w
section
variable {o o' : Nat → Nat} {w0 w w' : World} {p : Nat} {bs bs' : List UInt8}
theorem Wg.next (h : Wg o w0 w p bs) (hw : WrAt 71 o' 1 w' p ⟨bs', 0⟩) (hs : Step o (only 1) w o' w') : Wg o' w0 w' p bs' := ⟨hw, h.env.step hs (by unfold only; omega), h.fut.step hs⟩
theorem Wg.below_ (h : Wg o w0 w p bs) (hb : Below w.heap.size w w') : Wg o w0 w' p bs := ⟨h.wr.below_ hb, h.env.below_ hb, h.fut.below hb⟩
theorem Wg.alloc (h : Wg o w0 w p bs) (x : Obj) : Wg o w0 (w.alloc x) p bs := ⟨h.wr.alloc x, h.env.alloc x, h.fut.alloc x⟩
theorem Wg.drewN (h : Wg o w0 w p bs) (n : Nat) : Wg o w0 (w.drewN n) p bs := ⟨h.wr.drewN n, h.env.drewN n, h.fut.drewN n⟩
theorem Wg.drew (h : Wg o w0 w p bs) : Wg o w0 w.drew p bs := h.drewN 1
theorem Wg.start {w0 w1 : World} (hb : Below w0.heap.size w0 w1) : ∃ o, Wg o w0 (w1.alloc (.cells #[.slice none 0 0, .int .i64 0] 71)) w1.heap.size [] ∧ ∀ C, Step (fun _ => 0) C w1 o (w1.alloc (.cells #[.slice none 0 0, .int .i64 0] 71)) := by
  obtain ⟨o1, h1, hs⟩ := wr_new 71 (fun _ => 0) 1 w1
  exact ⟨o1, ⟨h1, ((Env.start w0).below_ hb).step (hs (fun _ => False)) (by simp), (show Fut (fun _ => 0) w1 from fun _ _ => rfl).step (hs (fun _ => False))⟩, hs⟩
theorem wnum_ok (h : Wg o w0 w p bs) (v : Nat) (n : Int) (hok : numOk v n) (hv : v < 18446744073709551616) (hb : bs.length ≤ 1000000000) :
    Calls Tryz.prog 20 #[.pointer (some ⟨p, 0, none⟩), .int .u64 v, .int .i64 n] w fun r w' => r = .returned (.pointer (some ⟨p, 0, none⟩)) ∧ ∃ o', Wg o' w0 w' p (bs ++ le v n.toNat) ∧ Step o (only 1) w o' w' := by
  refine (wnum_any h.wr v n hv hb).mono ?_
  rintro e w1 ⟨rfl, o1, hw, hs⟩
  rw [Wr.num_ok rfl hok] at hw
  exact ⟨rfl, o1, h.next hw hs, hs⟩
theorem wbytes_ok (h : Wg o w0 w p bs) : Calls Tryz.prog 21 #[.pointer (some ⟨p, 0, none⟩)] w fun r w' => r = .returned (.tuple #[.string (str bs), .int .i64 0]) ∧ Wg o w0 w' p bs := by
  refine (wbytes_any h.wr).mono ?_
  rintro e w1 ⟨rfl, hb⟩
  exact ⟨rfl, h.below_ hb⟩
end
def Mg.pre (m : Mg) (k : Nat) : List UInt8 := le m.kind.toNat 1 ++ (List.range k).flatMap (fun j => le (m.five j).toNat 4)
theorem Mg.pre_succ (m : Mg) (k : Nat) : m.pre (k + 1) = m.pre k ++ le (m.five k).toNat 4 := by simp [Mg.pre, List.range_succ]
theorem Mg.pre_five (m : Mg) : m.pre 5 ++ le m.epoch 8 = m.head := by simp [Mg.pre, Mg.head, List.range_succ, Mg.five]
theorem Mg.pre_len (m : Mg) {k : Nat} (hk : k ≤ 5) : (m.pre k).length ≤ 30 := by
  have : ∀ k, (m.pre k).length = 1 + 4 * k := by
    intro k
    induction k with
    | zero => simp [Mg.pre, le_len]
    | succ k ih => rw [Mg.pre_succ, List.length_append, ih, le_len]; omega
  rw [this]
  omega
theorem sm_toNat {n : Int} (h : sm n) : ∃ v : Nat, n = v ∧ v ≤ 2147483647 ∧ n.toNat = v := by
  obtain ⟨h1, h2⟩ := h
  exact ⟨n.toNat, by omega, by omega, rfl⟩
theorem wrapu_nat {v : Nat} (h : v < 4294967296) : IntKind.u64.wrap (v : Int) = (v : Int) := by rw [IntKind.wrap_u64]; omega
theorem five_get (m : Mg) {k : Nat} (hk : k < 5) : (#[.int .i64 m.id, .int .i64 m.node, .int .i64 m.gen, .int .i64 m.stamp, .int .i64 m.err] : Array Value)[k]? = some (.int .i64 (m.five k)) := by
  have : k = 0 ∨ k = 1 ∨ k = 2 ∨ k = 3 ∨ k = 4 := by omega
  rcases this with rfl | rfl | rfl | rfl | rfl <;> rfl
set_option maxRecDepth 100000 in
set_option maxHeartbeats 4000000 in
theorem put_any (m : Mg) (w : World) (A : Option Addr) (cap : Nat) (h : Reads w 3 A m.locks.length (lkcells m.locks)) (hl : m.locks.length ≤ maxLen) (he : m.epoch < 18446744073709551616) :
    Calls Tryz.prog 6 #[m.agg A cap] w fun e w' => e = .returned (.tuple #[.string m.putS, .int .i64 m.putE]) ∧ Below w.heap.size w w' := by
  unfold maxLen at hl
  have HR := Lib.hid h
  have HE := Lib.hid he
  have HL := Lib.hid hl
  clear h he hl
  have hagg : m.agg A cap = .agg #[.int .i64 m.kind, .int .i64 m.id, .int .i64 m.node, .int .i64 m.gen, .int .i64 m.stamp, .int .u64 m.epoch, .int .i64 m.err, .slice A m.locks.length cap] := rfl
  rw [hagg]
  clear hagg
  by_cases hok : m.ok
  · have e1 : m.putS = str m.enc := if_pos hok
    have e2 : m.putE = 0 := if_pos hok
    rw [e1, e2]
    clear e1 e2
    have HOK := Lib.hid hok
    have hL200 := hok.1.2.2
    clear hok
    go_enter Tryz.func6, Tryz.ntmps6
    go_wp2_with fail
    have hb0 := (Below.refl w.heap.size w).alloc (Nat.le_refl _) (.cells #[.int .i64 m.kind, .int .i64 m.id, .int .i64 m.node, .int .i64 m.gen, .int .i64 m.stamp, .int .u64 m.epoch, .int .i64 m.err, .slice A m.locks.length cap] 26)
    refine (valid_any m _ A cap (HR.out.below (by decide) hb0) (by unfold maxLen; have := HL.out; omega)).mono ?_
    rintro e w1 ⟨rfl, hb1⟩
    rw [decide_eq_true HOK.out]
    have hx := (Blk.new w 26 #[.int .i64 m.kind, .int .i64 m.id, .int .i64 m.node, .int .i64 m.gen, .int .i64 m.stamp, .int .u64 m.epoch, .int .i64 m.err, .slice A m.locks.length cap]).below_ hb1
    obtain ⟨o2, hw2, hs2⟩ := Wg.start (w0 := w) (hb0.trans (hb1.mono hb0.size))
    have hk2 : Keep o2 _ _ _ _ := Keep.step (o := fun _ => 0) ⟨hx, rfl⟩ (hs2 (fun _ => False)) (by simp)
    have HW2 := Lib.hid hw2
    have HK2 := Lib.hid hk2
    obtain ⟨kd, hkd⟩ : ∃ kd : Nat, m.kind = kd := ⟨m.kind.toNat, by have := HOK.out.1.1; omega⟩
    have hkd2 : kd ≤ 15 := by have := HOK.out.1.2.1; omega
    have hkd1 : 1 ≤ kd := by have := HOK.out.1.1; omega
    clear hb0 hb1 hx hw2 hs2 hk2
    go_upto_region 4 with (fail)
    generalize w1.alloc (.cells #[.slice none 0 0, .int .i64 0] 71) = W at HW2 HK2 ⊢
    generalize w1.heap.size = p at HW2 ⊢
    generalize w.heap.size = g at HK2 ⊢
    rw [hkd] at HK2
    obtain ⟨x0, x1, x2, x3, x4, x5, x6, x7⟩ := HK2.out.1.eight
    have HKD := Lib.hid (show m.kind.toNat = kd by omega)
    clear hkd
    go_wp2_with fail
    refine (wnum_ok HW2.out kd 1 ⟨by omega, by omega, by simp; omega⟩ (by omega) (by simp)).mono ?_
    rintro e w3 ⟨rfl, o3, hw3, hs3⟩
    have hk3 := HK2.out.step hs3 (by unfold only; omega)
    clear x0 x1 x2 x3 x4 x5 x6 x7
    obtain ⟨x0, x1, x2, x3, x4, x5, x6, x7⟩ := hk3.1.eight
    have HW3 := Lib.hid hw3
    have HK3 := Lib.hid hk3
    clear hw3 hs3 hk3
    go_wp2_with fail
    have e3 : m.pre 0 = [] ++ le kd (1 : Int).toNat := by simp [Mg.pre, HKD.out]
    have hw4 := HW3.out.alloc (.cells #[.int .i64 m.id, .int .i64 m.node, .int .i64 m.gen, .int .i64 m.stamp, .int .i64 m.err] 3)
    rw [← e3] at hw4
    have hk4 := HK3.out.alloc (.cells #[.int .i64 m.id, .int .i64 m.node, .int .i64 m.gen, .int .i64 m.stamp, .int .i64 m.err] 3)
    have hf4 := Keep.new HW3.out.fut 3 #[.int .i64 m.id, .int .i64 m.node, .int .i64 m.gen, .int .i64 m.stamp, .int .i64 m.err]
    clear e3 x0 x1 x2 x3 x4 x5 x6 x7
    generalize w3.alloc (.cells #[.int .i64 m.id, .int .i64 m.node, .int .i64 m.gen, .int .i64 m.stamp, .int .i64 m.err] 3) = W4 at hw4 hk4 hf4 ⊢
    generalize w3.heap.size = B at hf4 ⊢
    have HS4 := Lib.hid (show ∃ o, Wg o w W4 p (m.pre 0) ∧ Keep o W4 g 26 #[.int .i64 (kd : Int), .int .i64 m.id, .int .i64 m.node, .int .i64 m.gen, .int .i64 m.stamp, .int .u64 m.epoch, .int .i64 m.err, .slice A m.locks.length cap] ∧ Keep o W4 B 3 #[.int .i64 m.id, .int .i64 m.node, .int .i64 m.gen, .int .i64 m.stamp, .int .i64 m.err] from ⟨_, hw4, hk4, hf4⟩)
    clear hw4 hk4 hf4
    go_loopw [28] (fun t28 wr => ∃ (k : Nat) (o : Nat → Nat), k ≤ 5 ∧ t28 = .int .i64 k ∧ Wg o w wr p (m.pre k) ∧ Keep o wr g 26 #[.int .i64 (kd : Int), .int .i64 m.id, .int .i64 m.node, .int .i64 m.gen, .int .i64 m.stamp, .int .u64 m.epoch, .int .i64 m.err, .slice A m.locks.length cap] ∧ Keep o wr B 3 #[.int .i64 m.id, .int .i64 m.node, .int .i64 m.gen, .int .i64 m.stamp, .int .i64 m.err]) (fun t28 _ => 5 - (intOf t28).toNat)
    case atStart =>
      obtain ⟨o4, h1, h2, h3⟩ := HS4.out
      exact ⟨0, o4, by omega, rfl, h1, h2, h3⟩
    case round =>
      clear HS4
      obtain ⟨k, o5, hk, rfl, hwg, hkm, hkf⟩ := hrel
      have HWG := Lib.hid hwg
      have HKM := Lib.hid hkm
      have HKF := Lib.hid hkf
      clear hwg hkm hkf
      by_cases hlt : k < 5
      · have hltI : (k : Int) < 5 := by omega
        obtain ⟨v, hv, hvl, hvn⟩ := sm_toNat (Mg.five_ok HOK.out k)
        have hc : wr.cell? ⟨B, k, none⟩ = some (.int .i64 (v : Int)) := by rw [HKF.out.1.cell k, five_get m hlt, hv]
        have HVN := Lib.hid hvn
        clear hv hvn
        go_wp2_with fail
        refine (wnum_ok HWG.out v 4 ⟨by omega, by omega, by simp; omega⟩ (by omega) (by have := Mg.pre_len m hk; omega)).mono ?_
        rintro e w6 ⟨rfl, o6, hw6, hs6⟩
        have HW6 := Lib.hid hw6
        have HK6 := Lib.hid (HKM.out.step hs6 (by unfold only; omega))
        have HF6 := Lib.hid (HKF.out.step hs6 (by unfold only; omega))
        clear hw6 hs6 hc
        go_wp2_with fail
        go_roundw
        case rel => exact ⟨k + 1, o6, by omega, by go_num, by rw [Mg.pre_succ, HVN.out]; exact HW6.out, HK6.out, HF6.out⟩
        case measure => simp [intOf]; omega
      · have hltI : ¬ (k : Int) < 5 := by omega
        obtain rfl : k = 5 := by omega
        obtain ⟨x0, x1, x2, x3, x4, x5, x6, x7⟩ := HKM.out.1.eight
        clear HKF x0 x1 x2 x3 x4 x6
        have HPL := Lib.hid (Mg.pre_len m (k := 5) (by omega))
        have hLI : (m.locks.length : Int) ≤ 200 := by omega
        have h64 := HE.out
        have HNE := Lib.hid (show numOk m.epoch 8 from ⟨by omega, by omega, by simpa using HE.out⟩)
        have HNL := Lib.hid (show numOk m.locks.length 2 from ⟨by omega, by omega, by simp; omega⟩)
        have HLB := Lib.hid (show m.locks.length < 18446744073709551616 by omega)
        have HB1 := Lib.hid (show (m.pre 5).length ≤ 1000000000 by have := HPL.out; omega)
        have HB2 := Lib.hid (show (m.pre 5 ++ le m.epoch (8 : Int).toNat).length ≤ 1000000000 by have := HPL.out; rw [List.length_append, le_len]; simp; omega)
        have HN0 := Lib.hid (show ¬ only 1 0 by unfold only; omega)
        have hwl := wrapu_nat (v := m.locks.length) (by omega)
        clear h64
        go_upto_region 10 with (fail)
        go_region_held3 (fun w' => w'.cell? ⟨g, 5, none⟩ = some (.int .u64 m.epoch) ∧ w'.cell? ⟨g, 7, none⟩ = some (.slice A m.locks.length cap))
          (first | exact ⟨x5, x7⟩ | exact ⟨hk8.1.cell 5, hk8.1.cell 7⟩ | exact ⟨hk7.1.cell 5, hk7.1.cell 7⟩ | go_keep)
          (first | (go_at_call 20; ((with_reducible refine (wnum_ok HWG.out.drew m.epoch 8 HNE.out HE.out HB1.out).mono ?_); rintro e w7 ⟨rfl, o7, hw7, hs7⟩; have hk7 := HKM.out.drew.step hs7 HN0.out)) | (go_at_call 20; ((with_reducible refine (wnum_ok hw7 m.locks.length 2 HNL.out HLB.out HB2.out).mono ?_); rintro e w8 ⟨rfl, o8, hw8, hs8⟩; have hk8 := hk7.step hs8 HN0.out)))
        have HW8 := Lib.hid hw8
        clear hw7 hs7 hk7 hw8 hs8 hwl
        obtain ⟨x0, x1, x2, x3, x4, x5y, x6, x7y⟩ := hk8.1.eight
        clear hk8 x0 x1 x2 x3 x4 x5y x6 x5 x7
        go_wp2_with fail
        clear x7y
        have e10 : (m.pre 5 ++ le m.epoch (8 : Int).toNat) ++ le m.locks.length (2 : Int).toNat = m.head ++ (le m.locks.length 2 ++ (m.locks.take 0).flatMap Lk.enc) := by
          rw [show (8 : Int).toNat = 8 from rfl, show (2 : Int).toNat = 2 from rfl, Mg.pre_five]
          simp
        have HWS := Lib.hid (show ∃ o, Wg o w w8 p (m.head ++ (le m.locks.length 2 ++ (m.locks.take 0).flatMap Lk.enc)) from ⟨o8, e10 ▸ HW8.out⟩)
        clear HW8 HWG HKM e10 HNE HNL HLB HB1 HB2 HPL
        go_loopw [47] (fun t47 wr => ∃ (k : Nat) (o : Nat → Nat), k ≤ m.locks.length ∧ t47 = .int .i64 k ∧ Wg o w wr p (m.head ++ (le m.locks.length 2 ++ (m.locks.take k).flatMap Lk.enc))) (fun t47 _ => m.locks.length - (intOf t47).toNat)
        case atStart =>
          obtain ⟨o9, h9⟩ := HWS.out
          exact ⟨0, o9, by omega, rfl, h9⟩
        case round =>
          clear HWS
          obtain ⟨k, o9, hk9, rfl, hwg⟩ := hrel
          have HWG := Lib.hid hwg
          clear hwg
          by_cases hlt2 : k < m.locks.length
          · have hltI2 : (k : Int) < (m.locks.length : Int) := by omega
            obtain ⟨y, hy⟩ : ∃ y, m.locks[k]? = some y := ⟨_, List.getElem?_eq_getElem hlt2⟩
            obtain ⟨ad, rfl, c0, c1, c2⟩ := (HR.out.below (by decide) HWG.out.env.low).lock hy
            have hyo : y.ok := HOK.out.2.2 y (List.mem_of_getElem? hy)
            have HTK := Lib.hid (show m.head ++ (le m.locks.length 2 ++ (m.locks.take k).flatMap Lk.enc) ++ le y.a.toNat 4 ++ le y.b.toNat 4 ++ le y.m.toNat 1 = m.head ++ (le m.locks.length 2 ++ (m.locks.take (k + 1)).flatMap Lk.enc) by
              rw [List.take_add_one, hy]
              simp [Lk.enc])
            have hlen : (m.head ++ (le m.locks.length 2 ++ (m.locks.take k).flatMap Lk.enc)).length ≤ 2000 := by
              simp only [List.length_append, head_len, le_len, lksenc_len, List.length_take]
              omega
            have HLEN := Lib.hid hlen
            generalize m.head ++ (le m.locks.length 2 ++ (m.locks.take k).flatMap Lk.enc) = bs at HWG HTK HLEN hlen
            obtain ⟨ya, yb, ym⟩ := y
            obtain ⟨q0, q1, q2, q3, q4⟩ := hyo
            simp only at c0 c1 c2 q0 q1 q2 q3 q4 HTK
            obtain ⟨na, rfl⟩ : ∃ n : Nat, ya = n := ⟨ya.toNat, by omega⟩
            obtain ⟨nb, rfl⟩ : ∃ n : Nat, yb = n := ⟨yb.toNat, by omega⟩
            obtain ⟨nm, rfl⟩ : ∃ n : Nat, ym = n := ⟨ym.toNat, by omega⟩
            clear hy
            go_upto_region 14 with (fail)
            have hw10 := HWG.out.alloc (.cells #[.int .i64 (na : Int), .int .i64 (nb : Int), .int .i64 (nm : Int)] 68)
            have hk10 := Keep.new HWG.out.fut 68 #[.int .i64 (na : Int), .int .i64 (nb : Int), .int .i64 (nm : Int)]
            clear c0 c1 c2
            generalize wr.alloc (.cells #[.int .i64 (na : Int), .int .i64 (nb : Int), .int .i64 (nm : Int)] 68) = W10 at hw10 hk10 ⊢
            generalize wr.heap.size = BL at hk10 ⊢
            obtain ⟨x0, x1, x2⟩ := hk10.1.three
            have HW10 := Lib.hid hw10
            have HK10 := Lib.hid hk10
            have HNA := Lib.hid (show numOk na 4 from ⟨by omega, by omega, by simp; omega⟩)
            have HNB := Lib.hid (show numOk nb 4 from ⟨by omega, by omega, by simp; omega⟩)
            have HNM := Lib.hid (show numOk nm 1 from ⟨by omega, by omega, by simp; omega⟩)
            have HA64 := Lib.hid (show na < 18446744073709551616 by omega)
            have HB64 := Lib.hid (show nb < 18446744073709551616 by omega)
            have HM64 := Lib.hid (show nm < 18446744073709551616 by omega)
            have HL1 := Lib.hid (show bs.length ≤ 1000000000 by omega)
            have HL2 := Lib.hid (show (bs ++ le na (4 : Int).toNat).length ≤ 1000000000 by rw [List.length_append, le_len]; simp; omega)
            have HL3 := Lib.hid (show (bs ++ le na (4 : Int).toNat ++ le nb (4 : Int).toNat).length ≤ 1000000000 by rw [List.length_append, List.length_append, le_len, le_len]; simp; omega)
            have wa := wrapu_nat (v := na) (by omega)
            have wb := wrapu_nat (v := nb) (by omega)
            have wm := wrapu_nat (v := nm) (by omega)
            clear hw10 hk10 hlen q0 q1 q2 q3 q4
            go_region_held3 (fun w' => w'.cell? ⟨BL, 0, none⟩ = some (.int .i64 (na : Int)) ∧ w'.cell? ⟨BL, 1, none⟩ = some (.int .i64 (nb : Int)) ∧ w'.cell? ⟨BL, 2, none⟩ = some (.int .i64 (nm : Int)))
              (first | exact ⟨x0, x1, x2⟩ | exact hk13.1.three | exact hk12.1.three | exact hk11.1.three | go_keep)
              (first | (go_at_call 20; ((with_reducible refine (wnum_ok HW10.out.drew na 4 HNA.out HA64.out HL1.out).mono ?_); rintro e w11 ⟨rfl, o11, hw11, hs11⟩; have hk11 := HK10.out.drew.step hs11 HN0.out)) | (go_at_call 20; ((with_reducible refine (wnum_ok hw11 nb 4 HNB.out HB64.out HL2.out).mono ?_); rintro e w12 ⟨rfl, o12, hw12, hs12⟩; have hk12 := hk11.step hs12 HN0.out)) | (go_at_call 20; ((with_reducible refine (wnum_ok hw12 nm 1 HNM.out HM64.out HL3.out).mono ?_); rintro e w13 ⟨rfl, o13, hw13, hs13⟩; have hk13 := hk12.step hs13 HN0.out)))
            have HW13 := Lib.hid hw13
            clear hw11 hs11 hk11 hw12 hs12 hk12 hw13 hs13 hk13 x0 x1 x2 wa wb wm
            go_wp2_with fail
            go_roundw
            case rel => exact ⟨k + 1, o13, by omega, by go_num, by rw [← HTK.out]; exact HW13.out⟩
            case measure => simp [intOf]; omega
          · have hltI2 : ¬ (k : Int) < (m.locks.length : Int) := by omega
            obtain rfl : k = m.locks.length := by omega
            rw [List.take_length] at HWG
            go_wp2_with fail
            refine (wbytes_ok HWG.out).mono ?_
            rintro e w20 ⟨rfl, hw20⟩
            have HW20 := Lib.hid hw20
            clear hw20
            have hEN : m.head ++ (le m.locks.length 2 ++ m.locks.flatMap Lk.enc) = m.enc := rfl
            rw [hEN]
            go_wp2_with fail
            go_ret2
            exact ⟨rfl, HW20.out.env.low⟩
  · have e1 : m.putS = ⟨#[]⟩ := if_neg hok
    have e2 : m.putE = 1 := if_neg hok
    rw [e1, e2]
    clear e1 e2
    have HOK := Lib.hid hok
    clear hok
    go_enter Tryz.func6, Tryz.ntmps6
    go_wp2_with fail
    have hb0 := (Below.refl w.heap.size w).alloc (Nat.le_refl _) (.cells #[.int .i64 m.kind, .int .i64 m.id, .int .i64 m.node, .int .i64 m.gen, .int .i64 m.stamp, .int .u64 m.epoch, .int .i64 m.err, .slice A m.locks.length cap] 26)
    refine (valid_any m _ A cap (HR.out.below (by decide) hb0) (by unfold maxLen; have := HL.out; omega)).mono ?_
    rintro e w1 ⟨rfl, hb1⟩
    rw [decide_eq_false HOK.out]
    have HB := Lib.hid (hb0.trans (hb1.mono hb0.size))
    clear hb0 hb1
    go_wp2_with fail
    go_ret2
    exact ⟨rfl, HB.out⟩
end Go.Proofs.YtjmgefpdfhfhmaaGreatDoor
