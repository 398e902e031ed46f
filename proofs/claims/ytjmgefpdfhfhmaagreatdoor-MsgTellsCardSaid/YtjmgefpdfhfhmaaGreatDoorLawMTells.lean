/- MsgTells: the law's walk: every message as bytes, and every bytes as a message; what is handed in stays; lists kept, marked, grown (printed by gen/mkmt.py). -/
import Derived.Test.YtjmgefpdfhfhmaaGreatDoorBookG
namespace Go.Proofs.YtjmgefpdfhfhmaaGreatDoor
open Go.RowKit

theorem put_lit (m : Mg) (w : World) (A : Option Addr) (cap : Nat) (h : Reads w 3 A m.locks.length (lkcells m.locks)) (hl : m.locks.length ≤ maxLen) (he : m.epoch < 18446744073709551616) :
    Calls Tryz.prog 6 #[.agg #[.int .i64 m.kind, .int .i64 m.id, .int .i64 m.node, .int .i64 m.gen, .int .i64 m.stamp, .int .u64 m.epoch, .int .i64 m.err, .slice A m.locks.length cap]] w fun e w' => e = .returned (.tuple #[.string m.putS, .int .i64 m.putE]) ∧ Below w.heap.size w w' := put_any m w A cap h hl he
theorem xputm_lit (m : Mg) (w : World) (A : Option Addr) (cap : Nat) (h : Reads w 3 A m.locks.length (lkcells m.locks)) (hl : m.locks.length ≤ maxLen) (he : m.epoch < 18446744073709551616) :
    Calls Tryz.prog 7 #[.agg #[.int .i64 m.kind, .int .i64 m.id, .int .i64 m.node, .int .i64 m.gen, .int .i64 m.stamp, .int .u64 m.epoch, .int .i64 m.err, .slice A m.locks.length cap]] w fun e w' => e = .returned (.tuple #[.string m.putS, .int .i64 m.putE]) ∧ Below w.heap.size w w' := xputm_any m w A cap h hl he
theorem plain_lit2 (m : Mg) (w : World) (A : Option Addr) (ca : Nat) :
    Calls Tryz.prog 8 #[.agg #[.int .i64 m.kind, .int .i64 m.id, .int .i64 m.node, .int .i64 m.gen, .int .i64 m.stamp, .int .u64 m.epoch, .int .i64 m.err, .slice A m.locks.length ca]] w fun e w' => e = .returned (.agg #[.int .i64 m.kind, .int .i64 m.id, .int .i64 m.node, .int .i64 m.gen, .int .i64 m.stamp, .int .u64 m.epoch, .int .i64 m.err, .slice A m.locks.length ca]) ∧ Below w.heap.size w w' := plain_any m w A ca
theorem valid_lit (m : Mg) (w : World) (A : Option Addr) (cap : Nat) (h : Reads w 3 A m.locks.length (lkcells m.locks)) (hl : m.locks.length ≤ maxLen) :
    Calls Tryz.prog 14 #[.agg #[.int .i64 m.kind, .int .i64 m.id, .int .i64 m.node, .int .i64 m.gen, .int .i64 m.stamp, .int .u64 m.epoch, .int .i64 m.err, .slice A m.locks.length cap]] w fun e w' => e = .returned (.bool (decide m.ok)) ∧ Below w.heap.size w w' := valid_any m w A cap h hl
theorem xvalid_lit (m : Mg) (w : World) (A : Option Addr) (cap : Nat) (h : Reads w 3 A m.locks.length (lkcells m.locks)) (hl : m.locks.length ≤ maxLen) :
    Calls Tryz.prog 15 #[.agg #[.int .i64 m.kind, .int .i64 m.id, .int .i64 m.node, .int .i64 m.gen, .int .i64 m.stamp, .int .u64 m.epoch, .int .i64 m.err, .slice A m.locks.length cap]] w fun e w' => e = .returned (.bool (decide m.ok)) ∧ Below w.heap.size w w' := xvalid_any m w A cap h hl
theorem same_lit2 (m : Mg) (w : World) (A B : Option Addr) (ca cb : Nat) (ha : Reads w 3 A m.locks.length (lkcells m.locks)) (hb : Reads w 3 B m.locks.length (lkcells m.locks)) (hl : m.locks.length ≤ 1000000000) :
    Calls Tryz.prog 13 #[.agg #[.int .i64 m.kind, .int .i64 m.id, .int .i64 m.node, .int .i64 m.gen, .int .i64 m.stamp, .int .u64 m.epoch, .int .i64 m.err, .slice A m.locks.length ca], .agg #[.int .i64 m.kind, .int .i64 m.id, .int .i64 m.node, .int .i64 m.gen, .int .i64 m.stamp, .int .u64 m.epoch, .int .i64 m.err, .slice B m.locks.length cb]] w fun e w' => e = .returned (.bool true) ∧ Below w.heap.size w w' := same_yes m w A B ca cb ha hb hl
theorem get_lit (b : ByteArray) (M : Mg) (hM : gotM b = M) (w : World) (hb : b.size ≤ 1000000000) :
    Calls Tryz.prog 9 #[.string b] w fun e w' => ∃ A cap oi, e = .returned (.tuple #[.agg #[.int .i64 M.kind, .int .i64 M.id, .int .i64 M.node, .int .i64 M.gen, .int .i64 M.stamp, .int .u64 M.epoch, .int .i64 M.err, .slice A M.locks.length cap], .int .i64 (gotE b)]) ∧ OwnS oi 2 w' 68 3 (.slice A M.locks.length cap) M.locks.length (lkcells M.locks) ∧ Env oi w w' := by
  subst hM
  refine (get_any b w hb).mono ?_
  rintro e w' ⟨A, cap, oi, h1, h2, h3, _⟩
  exact ⟨A, cap, oi, h1, h2, h3⟩
theorem xgetm_lit (b : ByteArray) (M : Mg) (hM : gotM b = M) (w : World) (hb : b.size ≤ 1000000000) :
    Calls Tryz.prog 10 #[.string b] w fun e w' => ∃ A cap oi, e = .returned (.tuple #[.agg #[.int .i64 M.kind, .int .i64 M.id, .int .i64 M.node, .int .i64 M.gen, .int .i64 M.stamp, .int .u64 M.epoch, .int .i64 M.err, .slice A M.locks.length cap], .int .i64 (gotE b)]) ∧ OwnS oi 2 w' 68 3 (.slice A M.locks.length cap) M.locks.length (lkcells M.locks) ∧ Env oi w w' := by
  subst hM
  refine (xgetm_any b w hb).mono ?_
  rintro e w' ⟨A, cap, oi, h1, h2, h3, _⟩
  exact ⟨A, cap, oi, h1, h2, h3⟩
theorem BookEx.step {o o' : Nat → Nat} {w w' : World} {p : Nat} {K : List MK} (h : BookEx o w p K) (hs : Step o (fun _ => False) w o' w') : BookEx o' w' p K := by
  obtain ⟨cs, v8, v9, v26, v27, s8, s9, s26, s27, h1⟩ := h
  exact ⟨cs, v8, v9, v26, v27, s8, s9, s26, s27, ((BookG.of h1).step hs).to rfl⟩
theorem lent_reads {o : Nat → Nat} {c0 : Nat} {w : World} {A : Option Addr} {cap : Nat} {l : List Lk} (h : OwnW o c0 w 68 3 (.slice A (l.length + 1) cap) (l.length + 1) (lkcells (l ++ [⟨0, 0, -77⟩]))) : Reads w 3 A (l.length + 1) (lkcells (l ++ [⟨0, 0, -77⟩])) ∧ Reads w 3 A l.length (lkcells l) := by
  have h1 := OwnW.reads h
  refine ⟨h1, ?_⟩
  have h2 := h1.take (k := l.length) (by omega)
  have e : (lkcells (l ++ [⟨0, 0, -77⟩])).take (l.length * 3) = lkcells l := by
    have e1 : (lkcells l).length = l.length * 3 := by
      clear h h1 h2
      induction l with
      | nil => rfl
      | cons a l ih => simp [lkcells, Lk.cells] at ih ⊢; omega
    rw [show lkcells (l ++ [⟨0, 0, -77⟩]) = lkcells l ++ [.int .i64 0, .int .i64 0, .int .i64 (-77)] by simp [lkcells, Lk.cells], List.take_append_of_le_length (by omega), List.take_of_length_le (by omega)]
  rwa [e] at h2
theorem stays_below {B : Nat} {w w1 w2 : World} (h : Below B w w1) (h2 : ∃ n, w2 = w1.drewN n) : Below B w w2 := by
  obtain ⟨n, rfl⟩ := h2
  exact below_drewN h n
theorem not_big0 : ¬ bigC 0 := by unfold bigC; omega
theorem false_big : ∀ c : Nat, False → bigC c := fun _ h => h.elim
set_option maxRecDepth 100000 in
set_option maxHeartbeats 16000000 in
theorem msgTells_any (m : Mg) (b : ByteArray) (k : Int) (w : World) (A : Option Addr) (ca : Nat) (ha : Reads w 3 A m.locks.length (lkcells m.locks)) (hl : m.locks.length ≤ maxLen) (he : m.epoch < 18446744073709551616) :
    Calls Tryz.prog 3 #[m.agg A ca, .string b, .int .i64 k] w fun e w' => e = .returned (.bool true) ∧ Below w.heap.size w w' := by
  have HA := Lib.hid ha
  have HL := Lib.hid hl
  have HE := Lib.hid he
  unfold maxLen at hl
  clear ha he
  have hb0 := (Below.refl w.heap.size w).alloc (Nat.le_refl _) (.cells #[.int .i64 m.kind, .int .i64 m.id, .int .i64 m.node, .int .i64 m.gen, .int .i64 m.stamp, .int .u64 m.epoch, .int .i64 m.err, .slice A m.locks.length ca] 26)
  have HB0 := Lib.hid hb0
  clear hb0
  have hagg : m.agg A ca = .agg #[.int .i64 m.kind, .int .i64 m.id, .int .i64 m.node, .int .i64 m.gen, .int .i64 m.stamp, .int .u64 m.epoch, .int .i64 m.err, .slice A m.locks.length ca] := rfl
  rw [hagg]
  clear hagg
  by_cases h230 : 230 < m.locks.length
  · have h230I : (230 : Int) < (m.locks.length : Int) := by omega
    go_enter Tryz.func3, Tryz.ntmps3
    go_wp2_with fail
    refine (alive20_any _).mono ?_
    rintro e w1 ⟨rfl, hb1⟩
    go_wp2_with fail
    go_ret
    exact ⟨rfl, HB0.out.trans (hb1.mono HB0.out.size)⟩
  · have h230I : ¬ (230 : Int) < (m.locks.length : Int) := by omega
    by_cases h3000 : 3000 < b.size
    · have h3000I : (3000 : Int) < (b.size : Int) := by omega
      go_enter Tryz.func3, Tryz.ntmps3
      go_wp2_with fail
      refine (alive20_any _).mono ?_
      rintro e w1 ⟨rfl, hb1⟩
      go_wp2_with fail
      go_ret
      exact ⟨rfl, HB0.out.trans (hb1.mono HB0.out.size)⟩
    · have h3000I : ¬ (3000 : Int) < (b.size : Int) := by omega
      have HBS := Lib.hid (show b.size ≤ 1000000000 by omega)
      obtain ⟨M, hM⟩ : ∃ M, gotM b = M := ⟨_, rfl⟩
      have hM2 := gotM_small b
      rw [hM] at hM2
      have HM := Lib.hid hM
      obtain ⟨PS, hPS⟩ : ∃ PS, m.putS = PS := ⟨_, rfl⟩
      obtain ⟨PE, hPE⟩ : ∃ PE, m.putE = PE := ⟨_, rfl⟩
      obtain ⟨GE, hGE⟩ : ∃ GE, gotE b = GE := ⟨_, rfl⟩
      have HPS := Lib.hid hPS
      have HPE := Lib.hid hPE
      have HGE := Lib.hid hGE
      clear hPS hPE hGE
      have HM2 := Lib.hid hM2
      clear hM hM2
      have hm230 : m.locks.length ≤ 230 := by omega
      have HM230 := Lib.hid hm230
      clear hm230 h230
      go_enter Tryz.func3, Tryz.ntmps3
      go_wp2_with fail
      have hW0 := HB0.out.alloc HB0.out.size (.cells #[.slice none 0 0, .slice none 0 0, .slice none 0 0, .slice none 0 0, .slice none 0 0, .slice none 0 0, .slice none 0 0, .slice none 0 0, .slice none 0 0, .slice none 0 0, .slice none 0 0, .slice none 0 0, .slice none 0 0, .slice none 0 0, .slice none 0 0, .slice none 0 0, .slice none 0 0, .slice none 0 0, .slice none 0 0, .slice none 0 0, .slice none 0 0, .slice none 0 0, .slice none 0 0, .slice none 0 0, .slice none 0 0, .slice none 0 0, .slice none 0 0, .slice none 0 0, .slice none 0 0, .slice none 0 0] 45)
      have hk0 : BookAt (fun k => if k = w.heap.size + 1 then 20 else 0) ((w.alloc (.cells #[.int .i64 m.kind, .int .i64 m.id, .int .i64 m.node, .int .i64 m.gen, .int .i64 m.stamp, .int .u64 m.epoch, .int .i64 m.err, .slice A m.locks.length ca] 26)).alloc (.cells #[.slice none 0 0, .slice none 0 0, .slice none 0 0, .slice none 0 0, .slice none 0 0, .slice none 0 0, .slice none 0 0, .slice none 0 0, .slice none 0 0, .slice none 0 0, .slice none 0 0, .slice none 0 0, .slice none 0 0, .slice none 0 0, .slice none 0 0, .slice none 0 0, .slice none 0 0, .slice none 0 0, .slice none 0 0, .slice none 0 0, .slice none 0 0, .slice none 0 0, .slice none 0 0, .slice none 0 0, .slice none 0 0, .slice none 0 0, .slice none 0 0, .slice none 0 0, .slice none 0 0, .slice none 0 0] 45)) (w.heap.size + 1) #[.slice none 0 0, .slice none 0 0, .slice none 0 0, .slice none 0 0, .slice none 0 0, .slice none 0 0, .slice none 0 0, .slice none 0 0, .slice none 0 0, .slice none 0 0, .slice none 0 0, .slice none 0 0, .slice none 0 0, .slice none 0 0, .slice none 0 0, .slice none 0 0, .slice none 0 0, .slice none 0 0, .slice none 0 0, .slice none 0 0, .slice none 0 0, .slice none 0 0, .slice none 0 0, .slice none 0 0, .slice none 0 0, .slice none 0 0, .slice none 0 0, .slice none 0 0, .slice none 0 0, .slice none 0 0] := by
        have h1 := Blk.new (w.alloc (.cells #[.int .i64 m.kind, .int .i64 m.id, .int .i64 m.node, .int .i64 m.gen, .int .i64 m.stamp, .int .u64 m.epoch, .int .i64 m.err, .slice A m.locks.length ca] 26)) 45 #[.slice none 0 0, .slice none 0 0, .slice none 0 0, .slice none 0 0, .slice none 0 0, .slice none 0 0, .slice none 0 0, .slice none 0 0, .slice none 0 0, .slice none 0 0, .slice none 0 0, .slice none 0 0, .slice none 0 0, .slice none 0 0, .slice none 0 0, .slice none 0 0, .slice none 0 0, .slice none 0 0, .slice none 0 0, .slice none 0 0, .slice none 0 0, .slice none 0 0, .slice none 0 0, .slice none 0 0, .slice none 0 0, .slice none 0 0, .slice none 0 0, .slice none 0 0, .slice none 0 0, .slice none 0 0]
        rw [show (w.alloc (.cells #[.int .i64 m.kind, .int .i64 m.id, .int .i64 m.node, .int .i64 m.gen, .int .i64 m.stamp, .int .u64 m.epoch, .int .i64 m.err, .slice A m.locks.length ca] 26)).heap.size = w.heap.size + 1 by simp] at h1
        exact ⟨h1, by simp⟩
      have hm0 : Keep (fun k => if k = w.heap.size + 1 then 20 else 0) ((w.alloc (.cells #[.int .i64 m.kind, .int .i64 m.id, .int .i64 m.node, .int .i64 m.gen, .int .i64 m.stamp, .int .u64 m.epoch, .int .i64 m.err, .slice A m.locks.length ca] 26)).alloc (.cells #[.slice none 0 0, .slice none 0 0, .slice none 0 0, .slice none 0 0, .slice none 0 0, .slice none 0 0, .slice none 0 0, .slice none 0 0, .slice none 0 0, .slice none 0 0, .slice none 0 0, .slice none 0 0, .slice none 0 0, .slice none 0 0, .slice none 0 0, .slice none 0 0, .slice none 0 0, .slice none 0 0, .slice none 0 0, .slice none 0 0, .slice none 0 0, .slice none 0 0, .slice none 0 0, .slice none 0 0, .slice none 0 0, .slice none 0 0, .slice none 0 0, .slice none 0 0, .slice none 0 0, .slice none 0 0] 45)) w.heap.size 26 #[.int .i64 m.kind, .int .i64 m.id, .int .i64 m.node, .int .i64 m.gen, .int .i64 m.stamp, .int .u64 m.epoch, .int .i64 m.err, .slice A m.locks.length ca] := ⟨(Blk.new w 26 _).alloc _, by simp⟩
      have hf0 : Fut (fun k => if k = w.heap.size + 1 then 20 else 0) ((w.alloc (.cells #[.int .i64 m.kind, .int .i64 m.id, .int .i64 m.node, .int .i64 m.gen, .int .i64 m.stamp, .int .u64 m.epoch, .int .i64 m.err, .slice A m.locks.length ca] 26)).alloc (.cells #[.slice none 0 0, .slice none 0 0, .slice none 0 0, .slice none 0 0, .slice none 0 0, .slice none 0 0, .slice none 0 0, .slice none 0 0, .slice none 0 0, .slice none 0 0, .slice none 0 0, .slice none 0 0, .slice none 0 0, .slice none 0 0, .slice none 0 0, .slice none 0 0, .slice none 0 0, .slice none 0 0, .slice none 0 0, .slice none 0 0, .slice none 0 0, .slice none 0 0, .slice none 0 0, .slice none 0 0, .slice none 0 0, .slice none 0 0, .slice none 0 0, .slice none 0 0, .slice none 0 0, .slice none 0 0] 45)) := fun k hk => if_neg (by simp at hk; omega)
      have hz0 : ∀ k, k < w.heap.size → ¬ bigC ((fun k => if k = w.heap.size + 1 then 20 else 0) k) := fun k hk => by simp only; rw [if_neg (by omega)]; exact not_big0
      generalize (w.alloc (.cells #[.int .i64 m.kind, .int .i64 m.id, .int .i64 m.node, .int .i64 m.gen, .int .i64 m.stamp, .int .u64 m.epoch, .int .i64 m.err, .slice A m.locks.length ca] 26)).alloc (.cells #[.slice none 0 0, .slice none 0 0, .slice none 0 0, .slice none 0 0, .slice none 0 0, .slice none 0 0, .slice none 0 0, .slice none 0 0, .slice none 0 0, .slice none 0 0, .slice none 0 0, .slice none 0 0, .slice none 0 0, .slice none 0 0, .slice none 0 0, .slice none 0 0, .slice none 0 0, .slice none 0 0, .slice none 0 0, .slice none 0 0, .slice none 0 0, .slice none 0 0, .slice none 0 0, .slice none 0 0, .slice none 0 0, .slice none 0 0, .slice none 0 0, .slice none 0 0, .slice none 0 0, .slice none 0 0] 45) = W0 at hW0 hk0 hm0 hf0 ⊢
      generalize (fun k => if k = w.heap.size + 1 then 20 else 0) = o0 at hk0 hm0 hf0 hz0
      have HW0 := Lib.hid hW0
      have HK0 := Lib.hid (BookG.empty o0 W0 (w.heap.size + 1) hk0)
      have HM0 := Lib.hid hm0
      have HF0 := Lib.hid hf0
      have HZ0 := Lib.hid hz0
      clear hW0 hk0 hm0 hf0 hz0 HB0
      generalize w.heap.size + 1 = p at HK0 ⊢
      go_loopw [8] (fun t8 wr => ∃ (i : Nat) (K : List MK) (o' : Nat → Nat), i ≤ 2 ∧ t8 = .int .i64 i ∧ K.length = i ∧ BookEx o' wr p K ∧ Step o0 bigC W0 o' wr) (fun t8 _ => 2 - (intOf t8).toNat)
      case atStart => exact ⟨0, [], o0, by omega, rfl, rfl, ⟨_, _, _, _, _, _, _, _, _, HK0.out.to rfl⟩, Step.refl _ _ _⟩
      case round =>
        obtain ⟨i, K, o1, hi, rfl, hKi, hBK, hst⟩ := hrel
        have HKI := Lib.hid hKi
        have HBK := Lib.hid hBK
        have HST := Lib.hid hst
        have HBW := Lib.hid (show Below w.heap.size w wr from HW0.out.trans (hst.below HZ0.out HW0.out.size))
        clear hKi hBK hst
        by_cases hlt : i < 2
        · have hltI : (i : Int) < 2 := by omega
          have HMr := Lib.hid (HM0.out.step HST.out not_big0)
          have HFr := Lib.hid (HF0.out.step HST.out)
          obtain ⟨x0, x1, x2, x3, x4, x5, x6, x7⟩ := HMr.out.1.eight
          have xa7 := ((HMr.out.alloc (.cells #[.int .i64 m.kind, .int .i64 m.id, .int .i64 m.node, .int .i64 m.gen, .int .i64 m.stamp, .int .u64 m.epoch, .int .i64 m.err, .slice A m.locks.length ca] 26)).1.cell 7)
          change _ = some (Value.slice A m.locks.length ca) at xa7
          go_wp2_with fail
          refine (lentlocks_any (fun _ => 0) 2 _ A ca m.locks (HA.out.below (by decide) (HBW.out.alloc HBW.out.size (.cells #[.int .i64 m.kind, .int .i64 m.id, .int .i64 m.node, .int .i64 m.gen, .int .i64 m.stamp, .int .u64 m.epoch, .int .i64 m.err, .slice A m.locks.length ca] 26))) (by have := HM230.out; omega)).mono ?_
          rintro e w1 ⟨A1, c1, oi, rfl, hc1, hol, hbl, hold⟩
          obtain ⟨o2, ho2, hs2⟩ := recolor hol hbl hold o1 10
          have hX : Keep o2 w1 wr.heap.size 26 #[.int .i64 m.kind, .int .i64 m.id, .int .i64 m.node, .int .i64 m.gen, .int .i64 m.stamp, .int .u64 m.epoch, .int .i64 m.err, .slice A m.locks.length ca] := (Keep.new HFr.out 26 _).step hs2 id
          have hX2 : Keep o2 (w1.setCell ⟨wr.heap.size, 7, none⟩ (.slice A1 m.locks.length c1)) wr.heap.size 26 #[.int .i64 m.kind, .int .i64 m.id, .int .i64 m.node, .int .i64 m.gen, .int .i64 m.stamp, .int .u64 m.epoch, .int .i64 m.err, .slice A1 m.locks.length c1] := hX.set_ 7 _
          have hst1 : Step o1 (fun _ => False) wr o2 (w1.setCell ⟨wr.heap.size, 7, none⟩ (.slice A1 m.locks.length c1)) := (((Step.refl o1 (fun _ => False) wr).alloc (.cells #[.int .i64 m.kind, .int .i64 m.id, .int .i64 m.node, .int .i64 m.gen, .int .i64 m.stamp, .int .u64 m.epoch, .int .i64 m.err, .slice A m.locks.length ca] 26)).trans hs2).setNew (Nat.le_refl _) _
          have hlt1 := OwnW.of_own (ho2.setCell (p := ⟨wr.heap.size, 7, none⟩) (own_blk_ne ho2 hX.1 (by decide)) (.slice A1 m.locks.length c1))
          have hrt1 := Reads.lent (ho2.setCell (p := ⟨wr.heap.size, 7, none⟩) (own_blk_ne ho2 hX.1 (by decide)) (.slice A1 m.locks.length c1))
          have fx := hX.1.cell 7
          change _ = some (Value.slice A m.locks.length ca) at fx
          have ff := hX.1.frozen 7
          have HC1 := Lib.hid hc1
          have HX2 := Lib.hid hX2
          have HS1 := Lib.hid hst1
          have HLT := Lib.hid hlt1
          have HRT := Lib.hid hrt1
          obtain ⟨y0, y1, y2, y3, y4, y5, y6, y7⟩ := hX2.1.eight
          clear x0 x1 x2 x3 x4 x5 x6 x7 xa7 hol hbl hold ho2 hs2 hX hX2 hst1 hlt1 hrt1 hc1
          generalize wr.heap.size = X at HX2 HS1 HLT HRT fx ff y0 y1 y2 y3 y4 y5 y6 y7 ⊢
          go_wp2_with fail
          clear fx ff y0 y1 y2 y3 y4 y5 y6 y7
          generalize w1.setCell ⟨X, 7, none⟩ (.slice A1 m.locks.length c1) = W1 at HX2 HS1 HLT HRT ⊢
          refine (put_lit m W1 A1 c1 HRT.out.2 HL.out HE.out).mono ?_
          rintro e w2 ⟨rfl, hb2⟩
          have HX3 := Lib.hid (HX2.out.below_ hb2)
          have HS2 := Lib.hid (HS1.out.trans (Step.of_below o2 (fun _ => False) hb2))
          have HM2b := Lib.hid (HMr.out.step HS2.out id)
          have HLT2 := Lib.hid (HLT.out.below_ hb2)
          obtain ⟨x0, x1, x2, x3, x4, x5, x6, x7⟩ := HM2b.out.1.eight
          rw [HPS.out, HPE.out]
          clear hb2
          go_wp2_with fail
          clear x0 x1 x2 x3 x4 x5 x6 x7
          refine (plain_lit2 m w2 A ca).mono ?_
          rintro e w3 ⟨rfl, hb3⟩
          have HX4 := Lib.hid (HX3.out.below_ hb3)
          have HS3 := Lib.hid (HS2.out.trans (Step.of_below o2 (fun _ => False) hb3))
          have HLT3 := Lib.hid (HLT2.out.below_ hb3)
          have HST3 := Lib.hid (HST.out.trans (HS3.out.mono false_big))
          have HBW3 := Lib.hid (show Below w.heap.size w w3 from HW0.out.trans (HST3.out.below HZ0.out HW0.out.size))
          clear hb3
          go_wp2_with fail
          refine (xputm_lit m w3 A ca (HA.out.below (by decide) HBW3.out) HL.out HE.out).mono ?_
          rintro e w4 ⟨rfl, hb4⟩
          have HX5 := Lib.hid (HX4.out.below_ hb4)
          have HS4 := Lib.hid (HS3.out.trans (Step.of_below o2 (fun _ => False) hb4))
          have HLT4 := Lib.hid (HLT3.out.below_ hb4)
          rw [HPS.out, HPE.out]
          clear hb4 HST3 HBW3 HX2 HX3 HX4 HS1 HS2 HS3 HLT HLT2 HLT3 HRT HM2b
          go_wp2_with fail
          refine (get_lit b M HM.out w4 HBS.out).mono ?_
          rintro e w5 ⟨A2, c2, oi2, rfl, ho5, he5⟩
          obtain ⟨o5, hr5, hs5⟩ := recolor ho5 he5.low he5.old o2 (1000 + i)
          have HS5 := Lib.hid (HS4.out.trans hs5)
          have HX6 := Lib.hid ((HX5.out.step hs5 id).alloc (.cells #[.int .i64 M.kind, .int .i64 M.id, .int .i64 M.node, .int .i64 M.gen, .int .i64 M.stamp, .int .u64 M.epoch, .int .i64 M.err, .slice A2 M.locks.length c2] 26))
          have HLT5 := Lib.hid ((HLT4.out.step hs5 id).alloc (.cells #[.int .i64 M.kind, .int .i64 M.id, .int .i64 M.node, .int .i64 M.gen, .int .i64 M.stamp, .int .u64 M.epoch, .int .i64 M.err, .slice A2 M.locks.length c2] 26))
          have HYR5 := Lib.hid ((OwnW.of_own hr5).alloc (.cells #[.int .i64 M.kind, .int .i64 M.id, .int .i64 M.node, .int .i64 M.gen, .int .i64 M.stamp, .int .u64 M.epoch, .int .i64 M.err, .slice A2 M.locks.length c2] 26))
          have HY5 := Lib.hid (Keep.new (HFr.out.step HS5.out) 26 #[.int .i64 M.kind, .int .i64 M.id, .int .i64 M.node, .int .i64 M.gen, .int .i64 M.stamp, .int .u64 M.epoch, .int .i64 M.err, .slice A2 M.locks.length c2])
          have HS6 := Lib.hid (HS5.out.alloc (.cells #[.int .i64 M.kind, .int .i64 M.id, .int .i64 M.node, .int .i64 M.gen, .int .i64 M.stamp, .int .u64 M.epoch, .int .i64 M.err, .slice A2 M.locks.length c2] 26))
          rw [HGE.out]
          clear ho5 he5 hr5 hs5 HS4 HX5 HLT4 HS5
          go_wp2_with fail
          generalize w5.alloc (.cells #[.int .i64 M.kind, .int .i64 M.id, .int .i64 M.node, .int .i64 M.gen, .int .i64 M.stamp, .int .u64 M.epoch, .int .i64 M.err, .slice A2 M.locks.length c2] 26) = W5 at HX6 HLT5 HYR5 HY5 HS6 ⊢
          generalize w5.heap.size = Y at HY5 ⊢
          refine (xgetm_lit b M HM.out W5 HBS.out).mono ?_
          rintro e w6 ⟨A3, c3, oi3, rfl, ho6, he6⟩
          obtain ⟨o6, hr6, hs6⟩ := recolor ho6 he6.low he6.old o5 11
          have HS7 := Lib.hid ((HS6.out.trans hs6).alloc (.cells #[.int .i64 M.kind, .int .i64 M.id, .int .i64 M.node, .int .i64 M.gen, .int .i64 M.stamp, .int .u64 M.epoch, .int .i64 M.err, .slice A3 M.locks.length c3] 50))
          have HX7 := Lib.hid ((HX6.out.step hs6 id).alloc (.cells #[.int .i64 M.kind, .int .i64 M.id, .int .i64 M.node, .int .i64 M.gen, .int .i64 M.stamp, .int .u64 M.epoch, .int .i64 M.err, .slice A3 M.locks.length c3] 50))
          have HLT7 := Lib.hid ((HLT5.out.step hs6 id).alloc (.cells #[.int .i64 M.kind, .int .i64 M.id, .int .i64 M.node, .int .i64 M.gen, .int .i64 M.stamp, .int .u64 M.epoch, .int .i64 M.err, .slice A3 M.locks.length c3] 50))
          have HYR7 := Lib.hid ((HYR5.out.step hs6 id).alloc (.cells #[.int .i64 M.kind, .int .i64 M.id, .int .i64 M.node, .int .i64 M.gen, .int .i64 M.stamp, .int .u64 M.epoch, .int .i64 M.err, .slice A3 M.locks.length c3] 50))
          have HY7 := Lib.hid ((HY5.out.step hs6 id).alloc (.cells #[.int .i64 M.kind, .int .i64 M.id, .int .i64 M.node, .int .i64 M.gen, .int .i64 M.stamp, .int .u64 M.epoch, .int .i64 M.err, .slice A3 M.locks.length c3] 50))
          have HZR7 := Lib.hid ((OwnW.of_own hr6).alloc (.cells #[.int .i64 M.kind, .int .i64 M.id, .int .i64 M.node, .int .i64 M.gen, .int .i64 M.stamp, .int .u64 M.epoch, .int .i64 M.err, .slice A3 M.locks.length c3] 50))
          have HZ7 := Lib.hid (Keep.new (HFr.out.step (HS6.out.trans hs6)) 50 #[.int .i64 M.kind, .int .i64 M.id, .int .i64 M.node, .int .i64 M.gen, .int .i64 M.stamp, .int .u64 M.epoch, .int .i64 M.err, .slice A3 M.locks.length c3])
          have z7 := HY7.out.1.cell 7
          change _ = some (Value.slice A2 M.locks.length c2) at z7
          rw [HGE.out]
          clear ho6 he6 hr6 hs6 HS6 HX6 HLT5 HYR5 HY5
          go_wp2_with fail
          clear z7
          generalize w6.alloc (.cells #[.int .i64 M.kind, .int .i64 M.id, .int .i64 M.node, .int .i64 M.gen, .int .i64 M.stamp, .int .u64 M.epoch, .int .i64 M.err, .slice A3 M.locks.length c3] 50) = W7 at HX7 HLT7 HYR7 HY7 HZR7 HZ7 HS7 ⊢
          generalize w6.heap.size = Z at HZ7 ⊢
          obtain ⟨cs, v8, v9, v26, v27, s8, s9, s26, s27, hbs⟩ := HBK.out.step HS7.out
          have hbg := BookG.of hbs
          obtain ⟨LL, hLL⟩ : ∃ LL, K.map (fun y => y.m.locks) = LL := ⟨_, rfl⟩
          have hlen : LL.length = i := by rw [← hLL, List.length_map]; exact HKI.out
          rw [hLL] at hbg
          have HBG := Lib.hid hbg
          have HLL := Lib.hid hLL
          have HLEN := Lib.hid hlen
          clear hbs hbg hLL
          refine (blocks_any o6 W7 p cs v8 v9 LL s8 s9 M.locks A2 c2 HBG.out.book ((HBG.out.book.1.cell 8).trans HBG.out.c8) ((HBG.out.book.1.cell 9).trans HBG.out.c9) HBG.out.k8 HBG.out.k9 (by rw [hlen]; exact HYR7.out) (by have := HM2.out; omega) (by omega)).mono ?_
          rintro e w8 ⟨rfl, o8, u, u', v2, v2', hb8, hk8, hk9, hs8⟩
          have hki := HKI.out
          have HG8 := Lib.hid (HBG.out.locks (by omega) (by omega) hb8 hk8 hk9 hs8)
          have HX8 := Lib.hid (HX7.out.step hs8 (by omega))
          have HY8 := Lib.hid (HY7.out.step hs8 (by omega))
          have HZ8 := Lib.hid (HZ7.out.step hs8 (by omega))
          have HLT8 := Lib.hid (HLT7.out.step hs8 (by omega))
          have HYR8 := Lib.hid (HYR7.out.step hs8 (by omega))
          have HZR8 := Lib.hid (HZR7.out.step hs8 (by omega))
          have HS8 := Lib.hid ((HS7.out.mono (D := bigC) false_big).trans (hs8.mono (fun c hc => by unfold bigC; omega)))
          obtain ⟨z0, z1, z2, z3, z4, z5, z6, z7⟩ := HY8.out.1.eight
          clear hb8 hk8 hk9 hs8 hki hlen HBG HS7 HX7 HLT7 HYR7 HY7 HZR7 HZ7
          go_wp2_with fail
          clear z0 z1 z2 z3 z4 z5 z6 z7
          obtain ⟨o9, hc9, hs9⟩ := alloc_as o8 w8 (.cells #[.int .i64 M.kind, .int .i64 M.id, .int .i64 M.node, .int .i64 M.gen, .int .i64 M.stamp, .int .u64 M.epoch, .int .i64 M.err, .slice A2 M.locks.length c2] 26) (3000 + i)
          have hrow := OwnW.of_own (OwnS.of_blk (o := o9) (n := 1) (cap := 1) (size := 8) (xs := M.cells A2 c2) (Blk.new w8 26 #[.int .i64 M.kind, .int .i64 M.id, .int .i64 M.node, .int .i64 M.gen, .int .i64 M.stamp, .int .u64 M.epoch, .int .i64 M.err, .slice A2 M.locks.length c2]) hc9 (Nat.le_refl _) (by unfold maxLen; omega) rfl rfl)
          have hG9 := HG8.out.step hs9
          have hki := HKI.out
          have hlen := HLEN.out
          refine (bmsgs_any o9 _ p _ v26 v27 K s26 s27 M A2 c2 (some ⟨w8.heap.size, 0, none⟩) 1 hG9.book ((hG9.book.1.cell 26).trans hG9.c26) ((hG9.book.1.cell 27).trans hG9.c27) hG9.k26 hG9.k27 (by rw [hki]; exact hrow) (1000 + i) (HYR8.out.step hs9 id) (by omega) (by have := HM2.out; omega) (by omega)).mono ?_
          rintro e w10 ⟨rfl, o10, B', cb', u2, u2', v3, v3', hb10, hk26, hk27, hlb, hs10⟩
          have HG10 := Lib.hid (hG9.msgs (y := ⟨M, A2, c2, B', cb'⟩) (by omega) hb10 hk26 hk27 hlb (by rw [hki]; exact HYR8.out.step hs9 id) (by have := HM2.out; show M.locks.length ≤ 900; omega) hs10)
          have HX10 := Lib.hid ((HX8.out.step hs9 id).step hs10 (by omega))
          have HY10 := Lib.hid ((HY8.out.step hs9 id).step hs10 (by omega))
          have HZ10 := Lib.hid ((HZ8.out.step hs9 id).step hs10 (by omega))
          have HLT10 := Lib.hid ((HLT8.out.step hs9 id).step hs10 (by omega))
          have HYR10 := Lib.hid (OwnW.reads ((HYR8.out.step hs9 id).step hs10 (by omega)))
          have HZR10 := Lib.hid (OwnW.reads ((HZR8.out.step hs9 id).step hs10 (by omega)))
          have HS10 := Lib.hid ((HS8.out.trans (hs9.mono false_big)).trans (hs10.mono (fun c hc => by unfold bigC; omega)))
          have HM10 := Lib.hid (HMr.out.step HS10.out not_big0)
          have HST10 := Lib.hid (HST.out.trans HS10.out)
          have HBW10 := Lib.hid (show Below w.heap.size w w10 from HW0.out.trans (HST10.out.below HZ0.out HW0.out.size))
          have HA10 := Lib.hid (HA.out.below (by decide) HBW10.out)
          have HLR10 := Lib.hid (lent_reads HLT10.out)
          have HEX10 := Lib.hid (show BookEx o10 w10 p (K ++ [⟨M, A2, c2, B', cb'⟩]) from ⟨_, _, _, _, _, _, _, _, _, HG10.out.to (by rw [List.map_append, HLL.out]; rfl)⟩)
          clear hb10 hk26 hk27 hlb hs10 hki hlen hG9 hrow hc9 hs9 HG8 HX8 HY8 HZ8 HLT8 HYR8 HZR8 HS8 HG10 HS10 HLT10
          have HL9 := Lib.hid (show M.locks.length ≤ 1000000000 by have := HM2.out; omega)
          have HL1k := Lib.hid (show m.locks.length ≤ 1000 by have := HM230.out; omega)
          have H3P := Lib.hid (show 0 < 3 by decide)
          go_wp2_with fail
          go_region_held3 (fun w' => (w'.cell? ⟨Y, 0, none⟩ = some (.int .i64 M.kind) ∧ w'.cell? ⟨Y, 1, none⟩ = some (.int .i64 M.id) ∧ w'.cell? ⟨Y, 2, none⟩ = some (.int .i64 M.node) ∧ w'.cell? ⟨Y, 3, none⟩ = some (.int .i64 M.gen) ∧ w'.cell? ⟨Y, 4, none⟩ = some (.int .i64 M.stamp) ∧ w'.cell? ⟨Y, 5, none⟩ = some (.int .u64 M.epoch) ∧ w'.cell? ⟨Y, 6, none⟩ = some (.int .i64 M.err) ∧ w'.cell? ⟨Y, 7, none⟩ = some (.slice A2 M.locks.length c2)) ∧ (w'.cell? ⟨Z, 0, none⟩ = some (.int .i64 M.kind) ∧ w'.cell? ⟨Z, 1, none⟩ = some (.int .i64 M.id) ∧ w'.cell? ⟨Z, 2, none⟩ = some (.int .i64 M.node) ∧ w'.cell? ⟨Z, 3, none⟩ = some (.int .i64 M.gen) ∧ w'.cell? ⟨Z, 4, none⟩ = some (.int .i64 M.stamp) ∧ w'.cell? ⟨Z, 5, none⟩ = some (.int .u64 M.epoch) ∧ w'.cell? ⟨Z, 6, none⟩ = some (.int .i64 M.err) ∧ w'.cell? ⟨Z, 7, none⟩ = some (.slice A3 M.locks.length c3)) ∧ (w'.cell? ⟨X, 0, none⟩ = some (.int .i64 m.kind) ∧ w'.cell? ⟨X, 1, none⟩ = some (.int .i64 m.id) ∧ w'.cell? ⟨X, 2, none⟩ = some (.int .i64 m.node) ∧ w'.cell? ⟨X, 3, none⟩ = some (.int .i64 m.gen) ∧ w'.cell? ⟨X, 4, none⟩ = some (.int .i64 m.stamp) ∧ w'.cell? ⟨X, 5, none⟩ = some (.int .u64 m.epoch) ∧ w'.cell? ⟨X, 6, none⟩ = some (.int .i64 m.err) ∧ w'.cell? ⟨X, 7, none⟩ = some (.slice A1 m.locks.length c1)) ∧ w'.cell? ⟨w.heap.size, 0, none⟩ = some (.int .i64 m.kind) ∧ w'.cell? ⟨w.heap.size, 1, none⟩ = some (.int .i64 m.id) ∧ w'.cell? ⟨w.heap.size, 2, none⟩ = some (.int .i64 m.node) ∧ w'.cell? ⟨w.heap.size, 3, none⟩ = some (.int .i64 m.gen) ∧ w'.cell? ⟨w.heap.size, 4, none⟩ = some (.int .i64 m.stamp) ∧ w'.cell? ⟨w.heap.size, 5, none⟩ = some (.int .u64 m.epoch) ∧ w'.cell? ⟨w.heap.size, 6, none⟩ = some (.int .i64 m.err) ∧ w'.cell? ⟨w.heap.size, 7, none⟩ = some (.slice A m.locks.length ca))
            (first | exact ⟨HY10.out.1.drew.eight, HZ10.out.1.drew.eight, HX10.out.1.drew.eight, HM10.out.1.drew.eight⟩ | exact ⟨(HY10.out.1.drew.below_ hbE).eight, (HZ10.out.1.drew.below_ hbE).eight, (HX10.out.1.drew.below_ hbE).eight, (HM10.out.1.drew.below_ hbE).eight⟩ | exact ⟨(HY10.out.1.drew.below_ hbD).eight, (HZ10.out.1.drew.below_ hbD).eight, (HX10.out.1.drew.below_ hbD).eight, (HM10.out.1.drew.below_ hbD).eight⟩ | exact ⟨(HY10.out.1.drew.below_ hbC).eight, (HZ10.out.1.drew.below_ hbC).eight, (HX10.out.1.drew.below_ hbC).eight, (HM10.out.1.drew.below_ hbC).eight⟩ | exact ⟨(HY10.out.1.drew.below_ hbB).eight, (HZ10.out.1.drew.below_ hbB).eight, (HX10.out.1.drew.below_ hbB).eight, (HM10.out.1.drew.below_ hbB).eight⟩ | exact ⟨(HY10.out.1.drew.below_ hbA).eight, (HZ10.out.1.drew.below_ hbA).eight, (HX10.out.1.drew.below_ hbA).eight, (HM10.out.1.drew.below_ hbA).eight⟩)
            (first
              | (go_at_call 13; ((with_reducible refine (same_lit2 M _ A2 A3 c2 c3 HYR10.out.drew HZR10.out.drew HL9.out).mono ?_); rintro e w11 ⟨rfl, hbA⟩))
              | (go_at_call 14; ((with_reducible refine (valid_lit m _ A1 c1 (HLR10.out.2.drew.below H3P.out hbA) HL.out).mono ?_); rintro e w12 ⟨rfl, hb12⟩; have hbB := hbA.trans (hb12.mono hbA.size)))
              | (go_at_call 8; ((with_reducible refine (plain_lit2 m _ A ca).mono ?_); rintro e w13 ⟨rfl, hb13⟩; have hbC := hbB.trans (hb13.mono hbB.size)))
              | (go_at_call 15; ((with_reducible refine (xvalid_lit m _ A ca (HA10.out.drew.below H3P.out hbC) HL.out).mono ?_); rintro e w14 ⟨rfl, hb14⟩; have hbD := hbC.trans (hb14.mono hbC.size)))
              | (go_at_call 16; ((with_reducible refine (stayslocks_any _ A1 A c1 ca m.locks (HLR10.out.1.drew.below H3P.out hbD) (HLR10.out.2.drew.below H3P.out hbD) (HA10.out.drew.below H3P.out hbD) HC1.out HL1k.out).mono ?_); rintro e w15 ⟨rfl, hw15⟩; have hbE := stays_below hbD hw15)))
          have HBE := Lib.hid (below_of_drew hbE)
          clear hbA hb12 hbB hb13 hbC hb14 hbD hw15 hbE
          go_wp2_with fail
          go_roundw
          case rel => exact ⟨i + 1, K ++ [⟨M, A2, c2, B', cb'⟩], o10, by omega, by go_num, by rw [List.length_append, HKI.out]; rfl, HEX10.out.step (Step.of_below o10 (fun _ => False) HBE.out), HST10.out.trans (Step.of_below o10 bigC HBE.out)⟩
          case measure => simp [intOf]; omega
        · have hltI : ¬ (i : Int) < 2 := by omega
          go_wp2_with fail
          refine (alive20_any _).mono ?_
          rintro e w1 ⟨rfl, hb1⟩
          have HEX1 := Lib.hid (HBK.out.step (Step.of_below o1 (fun _ => False) hb1))
          have HST1 := Lib.hid (HST.out.trans (Step.of_below o1 bigC hb1))
          clear hb1
          go_wp2_with fail
          refine (up_any k _).mono ?_
          rintro e w2 ⟨rfl, rfl⟩
          go_wp2_with fail
          refine (xup_any k _).mono ?_
          rintro e w3 ⟨rfl, rfl⟩
          obtain ⟨cs, v8, v9, v26, v27, s8, s9, s26, s27, hbs⟩ := HEX1.out
          have hki := HKI.out
          have HBS2 := Lib.hid hbs
          clear hbs
          generalize upB k = UB
          have hub : (UB == UB) = true := by simp
          go_wp2_with fail
          refine (apart_any o1 _ p cs K v8 v9 v26 v27 s8 s9 s26 s27 HBS2.out (by omega)).mono ?_
          rintro e w4 ⟨rfl, o4, hs4⟩
          have HF := Lib.hid (HST1.out.trans hs4)
          clear hs4
          go_wp2_with fail
          go_ret
          exact ⟨rfl, HW0.out.trans (HF.out.below HZ0.out HW0.out.size)⟩
end Go.Proofs.YtjmgefpdfhfhmaaGreatDoor
