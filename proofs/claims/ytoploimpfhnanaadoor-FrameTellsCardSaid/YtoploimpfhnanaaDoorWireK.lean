/- Digits: a number in decimal digits. -/
import Derived.Test.YtoploimpfhnanaaDoorWireI
import Derived.Outline
namespace Go.Proofs.YtoploimpfhnanaaDoor
open Go.RowKit

/-- the digits of n ahead of acc, f of them at most -/
def digs : Nat → Nat → List UInt8 → List UInt8
  | 0, _, acc => acc
  | f + 1, n, acc => if n / 10 = 0 then UInt8.ofNat (48 + n % 10) :: acc else digs f (n / 10) (UInt8.ofNat (48 + n % 10) :: acc)
def digits (v : Int) : List UInt8 := if v < 0 then 45 :: digs 20 v.natAbs [] else digs 20 v.natAbs []

/-- behind k rounds: what is left is u, the digits so far stand at the array's end -/
structure DgRel (w0 : World) (N k u : Nat) (acc : List UInt8) (cs : Array Value) (wr : World) : Prop where
  len : acc.length = k
  dig : digs (20 - k) u acc = digs 20 N []
  bnd : u < 10 ^ (20 - k)
  blk : Blk wr w0.heap.size 111 cs
  size : cs.size = 21
  tail : cs.toList.drop (21 - k) = bvs acc
  low : Below w0.heap.size w0 wr
theorem drop_set {l : List Value} {j : Nat} (h : j < l.length) (u : Value) : (l.set j u).drop j = u :: l.drop (j + 1) := by
  rw [List.drop_eq_getElem_cons (by rw [List.length_set]; exact h)]
  congr 1
  · simp
  · rw [List.drop_set_of_lt (by omega)]
theorem DgRel.next {w0 : World} {N k u : Nat} {acc : List UInt8} {cs : Array Value} {wr : World} (h : DgRel w0 N k u acc cs wr) (hk : k ≤ 19) :
    (wr.setCell ⟨w0.heap.size, 20 - k, none⟩ (.int .u8 (48 + (u : Int) % 10))).heap[w0.heap.size]? = some (.cells (cs.setIfInBounds (20 - k) (.int .u8 (48 + (u : Int) % 10))) 111 (0, 0)) ∧
      (cs.setIfInBounds (20 - k) (.int .u8 (48 + (u : Int) % 10))).size = 21 ∧ (cs.setIfInBounds (20 - k) (.int .u8 (48 + (u : Int) % 10))).toList.drop (20 - k) = bvs (UInt8.ofNat (48 + u % 10) :: acc) ∧ Below w0.heap.size w0 (wr.setCell ⟨w0.heap.size, 20 - k, none⟩ (.int .u8 (48 + (u : Int) % 10))) := by
  refine ⟨h.blk.set_ _ _, by simp [h.size], ?_, h.low.setCell (Nat.le_refl _) _⟩
  rw [Array.toList_setIfInBounds, drop_set (by rw [Array.length_toList, h.size]; omega), show 20 - k + 1 = 21 - k by omega, h.tail]
  simp [bvs, bv]
  omega

theorem arr21 : Tryd.prog.arrayLen 111 = 21 := by kernel_rfl
theorem arr21e : Tryd.prog.elem 111 = 5 := by kernel_rfl
theorem slice_arr (g j : Nat) (hj : j < 21) (W : World) : (Instr.sliceAt 111 (.pointer (some ⟨g, 0, none⟩)) (some (.int .i64 j)) none none).run Tryd.prog W = .ok (.slice (some ⟨g, j, none⟩) (21 - j) (21 - j)) W := by
  rw [run_sliceAt_array_l W 111 _ (by rw [arr21, arr21e]; exact Tryd.underlying111) .i64 j (by omega) (by rw [arr21]; omega), arr21, arr21e]
  obtain ⟨i0, hi0, hz0, hz1, hz2⟩ := info_parts info_u8
  have hne : ¬ 21 = j := by omega
  simp [sizeOf, typeInfo, hi0, hz1, slicedAt, Result.andThen, hne]
  unfold Addr.add
  split <;> simp_all

theorem conv_at {w : World} {g j n cap : Nat} {t : TypeId} {cs : Array Value} {l : List UInt8} (hb : Blk w g t cs) (hd : cs.toList.drop j = bvs l) (hn : l.length = n) :
    (convert 68 9 (.slice (some ⟨g, j, none⟩) n cap)).run Tryd.prog w = .ok (.string (str l)) w := by
  subst hn
  refine run_convert_bytes_back w 68 9 5 _ cap l Tryd.underlying68 Tryd.underlying5 Tryd.underlying9 (fun i hi => ?_)
  have e : (⟨g, j, none⟩ : Addr).add i = ⟨g, j + i, none⟩ := by unfold Addr.add; split <;> simp_all
  rw [e, hb.cell, ← Array.getElem?_toList, ← List.getElem?_drop, hd]
  simp [bvs, bv, List.getElem?_eq_getElem hi]

set_option maxRecDepth 100000 in
set_option maxHeartbeats 1000000 in
theorem digits_any (v : Int) (hv : i64' v) (w : World) : Calls Tryd.prog 45 #[.int .i64 v] w fun e w' => e = .returned (.string (str (digits v))) ∧ Below w.heap.size w w' := by
  obtain ⟨hv1, hv2⟩ := hv
  by_cases hn : v < 0
  · have e0 : IntKind.u64.wrap (-IntKind.u64.wrap v) = ((v.natAbs : Nat) : Int) := by
      rw [IntKind.wrap_u64, IntKind.wrap_u64]
      omega
    have eD : digits v = 45 :: digs 20 v.natAbs [] := if_pos hn
    have hN : v.natAbs < 10 ^ 20 := by omega
    rw [eD]
    generalize v.natAbs = N at e0 hN
    have hwN : IntKind.u64.wrap (-IntKind.u64.wrap v) = (N : Int) := e0
    have HN := Lib.hid hN
    clear eD hN hv1 hv2 e0
    go_enter Tryd.func45, Tryd.ntmps45
    go_wp2_with fail
    go_loopg [3, 5] 20 (fun n t3 t5 wr => ∃ (k u m : Nat) (acc : List UInt8) (cs : Array Value), n + k = 20 ∧ m + k = 21 ∧ k ≤ 19 ∧ t3 = .int .u64 u ∧ t5 = .int .i64 m ∧ DgRel w N k u acc cs wr)
    case atStart => exact ⟨0, N, 21, [], _, rfl, rfl, by omega, rfl, rfl, ⟨rfl, rfl, HN.out, Blk.new w _ _, rfl, rfl, (Below.refl _ _).alloc (Nat.le_refl _) _⟩⟩
    case round =>
      obtain ⟨k, u, m, acc, cs, hnk, hmk, hk, rfl, rfl, hD⟩ := hrel
      have h1 := hD.next hk
      have c1 : ∃ x, wr.cell? ⟨w.heap.size, 20 - k, none⟩ = some x := hD.blk.cell_some (by rw [hD.size]; omega)
      obtain ⟨x, c1⟩ := c1
      have f1 := hD.blk.frozen (20 - k)
      have hwm : IntKind.i64.wrap ((m : Int) - 1) = ((20 - k : Nat) : Int) := by rw [IntWalk.i64_in _ (by omega)]; omega
      have hjk : 20 - k + k = 20 := by omega
      have HD := Lib.hid hD
      have HH := Lib.hid h1
      clear hD h1
      generalize 20 - k = j at c1 f1 HH hwm hjk
      have hjI : (j : Int) < 21 := by omega
      have hj0 : (0 : Int) ≤ (j : Int) := by omega
      have hu20 : u < 10 ^ 20 := Nat.lt_of_lt_of_le HD.out.bnd (Nat.pow_le_pow_right (by omega) (by omega))
      obtain ⟨q, hq⟩ : ∃ q, q = u / 10 := ⟨_, rfl⟩
      have hwq : IntKind.u64.wrap ((u : Int) / 10) = (q : Int) := by rw [IntKind.wrap_u64]; omega
      have HQ := Lib.hid hq
      clear hq hu20
      by_cases hz : q = 0
      · have hzI : ((q : Int) == 0) = true := by rw [beq_iff_eq]; omega
        have HZ := Lib.hid hz
        clear hz
        have hj1 : 1 ≤ j := by omega
        obtain ⟨i, rfl⟩ : ∃ i, j = i + 1 := ⟨j - 1, by omega⟩
        have hji : (((i + 1 : Nat) : Int) - 1) = (i : Int) := by omega
        have hiI : (i : Int) < 21 := by omega
        have hi0 : (0 : Int) ≤ (i : Int) := by omega
        have hb1 : Blk (wr.setCell ⟨w.heap.size, i + 1, none⟩ (.int .u8 (48 + (u : Int) % 10))) w.heap.size 111 _ := HH.out.1
        have hb2 := hb1.set_ i (.int .u8 45)
        obtain ⟨y, c2⟩ := hb1.cell_some (i := i) (by rw [HH.out.2.1]; omega)
        have f2 := hb1.frozen i
        have hc9 : (convert 68 9 (.slice (some ⟨w.heap.size, i, none⟩) (21 - i) (21 - i))).run Tryd.prog ((wr.setCell ⟨w.heap.size, i + 1, none⟩ (.int .u8 (48 + (u : Int) % 10))).setCell ⟨w.heap.size, i, none⟩ (.int .u8 45)) = .ok (.string (str (45 :: digs 20 N []))) ((wr.setCell ⟨w.heap.size, i + 1, none⟩ (.int .u8 (48 + (u : Int) % 10))).setCell ⟨w.heap.size, i, none⟩ (.int .u8 45)) := by
          obtain ⟨b1, b2, b3, b4⟩ := HH.out
          have hd := HD.out.dig
          have hq := HQ.out
          have hzz := HZ.out
          rw [show 20 - k = (20 - (k + 1)) + 1 by omega, digs, if_pos (by omega)] at hd
          rw [← hd]
          refine conv_at hb2 ?_ (by simp [HD.out.len]; omega)
          rw [Array.toList_setIfInBounds, drop_set (by rw [Array.length_toList, b2]; omega), b3]
          rfl
        have hsl := slice_arr w.heap.size i (by omega)
        clear hb1 hb2
        go_wp2_with fail
        go_ret
        exact ⟨rfl, HH.out.2.2.2.setCell (Nat.le_refl _) _⟩
      · have hzI : ((q : Int) == 0) = false := by rw [beq_eq_false_iff_ne]; omega
        have HZ := Lib.hid hz
        clear hz
        go_wp2_with fail
        go_roundg (20 - (k + 1))
        case measure => omega
        case rel =>
          obtain ⟨b1, b2, b3, b4⟩ := HH.out
          have hb := HD.out.bnd
          have hq := HQ.out
          have hzz := HZ.out
          have hk18 : k + 1 ≤ 19 := by
            rcases Nat.lt_or_ge k 19 with h | h
            · omega
            · have e : 20 - k = 1 := by omega
              rw [e] at hb
              omega
          refine ⟨k + 1, q, j, _, _, by omega, by omega, hk18, rfl, rfl, ⟨?_, ?_, ?_, b1, b2, by rw [show 21 - (k + 1) = j by omega]; exact b3, b4⟩⟩
          · simp [HD.out.len]
          · have hd := HD.out.dig
            rw [show 20 - k = (20 - (k + 1)) + 1 by omega, digs, if_neg (by omega)] at hd
            rw [hq]
            exact hd
          · rw [show 20 - k = (20 - (k + 1)) + 1 by omega, Nat.pow_succ] at hb
            omega
  · have eD : digits v = digs 20 v.natAbs [] := if_neg hn
    have hN : v.natAbs < 10 ^ 20 := by omega
    rw [eD]
    obtain ⟨N, rfl⟩ : ∃ N : Nat, v = N := ⟨v.toNat, by omega⟩
    rw [Int.natAbs_natCast] at hN ⊢
    have hwN : IntKind.u64.wrap (N : Int) = (N : Int) := by rw [IntKind.wrap_u64]; omega
    have HN := Lib.hid hN
    clear eD hN hv1 hv2 hn
    have hn : ¬ (N : Int) < 0 := by omega
    go_enter Tryd.func45, Tryd.ntmps45
    go_wp2_with fail
    go_loopg [3, 5] 20 (fun n t3 t5 wr => ∃ (k u m : Nat) (acc : List UInt8) (cs : Array Value), n + k = 20 ∧ m + k = 21 ∧ k ≤ 19 ∧ t3 = .int .u64 u ∧ t5 = .int .i64 m ∧ DgRel w N k u acc cs wr)
    case atStart => exact ⟨0, N, 21, [], _, rfl, rfl, by omega, rfl, rfl, ⟨rfl, rfl, HN.out, Blk.new w _ _, rfl, rfl, (Below.refl _ _).alloc (Nat.le_refl _) _⟩⟩
    case round =>
      obtain ⟨k, u, m, acc, cs, hnk, hmk, hk, rfl, rfl, hD⟩ := hrel
      have h1 := hD.next hk
      have c1 : ∃ x, wr.cell? ⟨w.heap.size, 20 - k, none⟩ = some x := hD.blk.cell_some (by rw [hD.size]; omega)
      obtain ⟨x, c1⟩ := c1
      have f1 := hD.blk.frozen (20 - k)
      have hwm : IntKind.i64.wrap ((m : Int) - 1) = ((20 - k : Nat) : Int) := by rw [IntWalk.i64_in _ (by omega)]; omega
      have hjk : 20 - k + k = 20 := by omega
      have HD := Lib.hid hD
      have HH := Lib.hid h1
      clear hD h1
      generalize 20 - k = j at c1 f1 HH hwm hjk
      have hjI : (j : Int) < 21 := by omega
      have hj0 : (0 : Int) ≤ (j : Int) := by omega
      have hu20 : u < 10 ^ 20 := Nat.lt_of_lt_of_le HD.out.bnd (Nat.pow_le_pow_right (by omega) (by omega))
      obtain ⟨q, hq⟩ : ∃ q, q = u / 10 := ⟨_, rfl⟩
      have hwq : IntKind.u64.wrap ((u : Int) / 10) = (q : Int) := by rw [IntKind.wrap_u64]; omega
      have HQ := Lib.hid hq
      clear hq hu20
      by_cases hz : q = 0
      · have hzI : ((q : Int) == 0) = true := by rw [beq_iff_eq]; omega
        have HZ := Lib.hid hz
        clear hz
        go_upto_region 13 with (fail)
        have hc9 : (convert 68 9 (.slice (some ⟨w.heap.size, j, none⟩) (21 - j) (21 - j))).run Tryd.prog (wr.setCell ⟨w.heap.size, j, none⟩ (.int .u8 (48 + (u : Int) % 10))) = .ok (.string (str (digs 20 N []))) (wr.setCell ⟨w.heap.size, j, none⟩ (.int .u8 (48 + (u : Int) % 10))) := by
          obtain ⟨b1, b2, b3, b4⟩ := HH.out
          have hd := HD.out.dig
          have hq := HQ.out
          have hzz := HZ.out
          rw [show 20 - k = (20 - (k + 1)) + 1 by omega, digs, if_pos (by omega)] at hd
          rw [← hd]
          exact conv_at b1 b3 (by simp [HD.out.len]; omega)
        have hsl := slice_arr w.heap.size j (by omega)
        go_wp2_with fail
        go_ret
        exact ⟨rfl, HH.out.2.2.2⟩
      · have hzI : ((q : Int) == 0) = false := by rw [beq_eq_false_iff_ne]; omega
        have HZ := Lib.hid hz
        clear hz
        go_wp2_with fail
        go_roundg (20 - (k + 1))
        case measure => omega
        case rel =>
          obtain ⟨b1, b2, b3, b4⟩ := HH.out
          have hb := HD.out.bnd
          have hq := HQ.out
          have hzz := HZ.out
          have hk18 : k + 1 ≤ 19 := by
            rcases Nat.lt_or_ge k 19 with h | h
            · omega
            · have e : 20 - k = 1 := by omega
              rw [e] at hb
              omega
          refine ⟨k + 1, q, j, _, _, by omega, by omega, hk18, rfl, rfl, ⟨?_, ?_, ?_, b1, b2, by rw [show 21 - (k + 1) = j by omega]; exact b3, b4⟩⟩
          · simp [HD.out.len]
          · have hd := HD.out.dig
            rw [show 20 - k = (20 - (k + 1)) + 1 by omega, digs, if_neg (by omega)] at hd
            rw [hq]
            exact hd
          · rw [show 20 - k = (20 - (k + 1)) + 1 by omega, Nat.pow_succ] at hb
            omega
end Go.Proofs.YtoploimpfhnanaaDoor
