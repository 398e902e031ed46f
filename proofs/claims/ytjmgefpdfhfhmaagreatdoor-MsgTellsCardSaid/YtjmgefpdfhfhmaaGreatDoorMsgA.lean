/- Messages: when one can be (span.Valid, mode.Valid, msg.Valid). -/
import Derived.Test.YtjmgefpdfhfhmaaGreatDoorMsgP
import Derived.Test.YtjmgefpdfhfhmaaGreatDoorRows0
namespace Go.Proofs.YtjmgefpdfhfhmaaGreatDoor
open Go.RowKit

def Lk.cells (l : Lk) : List Value := [.int .i64 l.a, .int .i64 l.b, .int .i64 l.m]
def lkcells (l : List Lk) : List Value := l.flatMap Lk.cells
theorem Lk.cells_len (l : Lk) : l.cells.length = 3 := rfl
theorem Lk.cells_one (l : Lk) : ∀ u ∈ l.cells, u.oneCell' = true := by simp [Lk.cells, Value.oneCell']
def Mg.agg (m : Mg) (A : Option Addr) (cap : Nat) : Value := .agg #[.int .i64 m.kind, .int .i64 m.id, .int .i64 m.node, .int .i64 m.gen, .int .i64 m.stamp, .int .u64 m.epoch, .int .i64 m.err, .slice A m.locks.length cap]
def Mg.row (m : Mg) (A : Option Addr) (cap : Nat) : Array Value := #[.int .i64 m.kind, .int .i64 m.id, .int .i64 m.node, .int .i64 m.gen, .int .i64 m.stamp, .int .u64 m.epoch, .int .i64 m.err, .slice A m.locks.length cap]
theorem Reads.lock {w : World} {A : Option Addr} {l : List Lk} (h : Reads w 3 A l.length (lkcells l)) {k : Nat} {y : Lk} (hy : l[k]? = some y) :
    ∃ ad, A = some ad ∧ w.cell? (ad.add (k * 3)) = some (.int .i64 y.a) ∧ w.cell? ⟨(ad.add (k * 3)).block, (ad.add (k * 3)).off + 1, none⟩ = some (.int .i64 y.b) ∧ w.cell? ⟨(ad.add (k * 3)).block, (ad.add (k * 3)).off + 2, none⟩ = some (.int .i64 y.m) := by
  obtain ⟨ad, rfl, hc⟩ := Reads.row Lk.cells_len h hy
  exact ⟨ad, rfl, hc 0 _ rfl, hc 1 _ rfl, hc 2 _ rfl⟩

theorem spvalid_any (a b : Int) (w : World) : Calls Tryz.prog 33 #[.agg #[.int .i64 a, .int .i64 b]] w fun e w' => e = .returned (.bool (decide (0 ≤ a ∧ a < b))) ∧ Below w.heap.size w w' := by
  by_cases h0 : 0 ≤ a
  · by_cases h1 : a < b
    · rw [decide_eq_true ⟨h0, h1⟩]
      go_enter Tryz.func33, Tryz.ntmps33
      go_wp2
      go_ret
      exact ⟨rfl, (Below.refl _ _).alloc (Nat.le_refl _) _⟩
    · rw [decide_eq_false (fun h => h1 h.2)]
      go_enter Tryz.func33, Tryz.ntmps33
      go_wp2
      go_ret
      exact ⟨rfl, (Below.refl _ _).alloc (Nat.le_refl _) _⟩
  · rw [decide_eq_false (fun h => h0 h.1)]
    go_enter Tryz.func33, Tryz.ntmps33
    go_wp2
    go_ret
    exact ⟨rfl, (Below.refl _ _).alloc (Nat.le_refl _) _⟩
theorem mdvalid_any (a : Int) (w : World) : Calls Tryz.prog 34 #[.int .i64 a] w fun e w' => e = .returned (.bool (decide (0 ≤ a ∧ a ≤ 2))) ∧ w = w' := by
  by_cases h0 : 0 ≤ a
  · by_cases h1 : a ≤ 2
    · rw [decide_eq_true ⟨h0, h1⟩]
      go_enter Tryz.func34, Tryz.ntmps34
      go_wp2
      go_ret
      exact ⟨rfl, rfl⟩
    · rw [decide_eq_false (fun h => h1 h.2)]
      go_enter Tryz.func34, Tryz.ntmps34
      go_wp2
      go_ret
      exact ⟨rfl, rfl⟩
  · rw [decide_eq_false (fun h => h0 h.1)]
    go_enter Tryz.func34, Tryz.ntmps34
    go_wp2
    go_ret
    exact ⟨rfl, rfl⟩
/-- the five numbers that are small -/
def Mg.five (m : Mg) : Nat → Int
  | 0 => m.id
  | 1 => m.node
  | 2 => m.gen
  | 3 => m.stamp
  | _ => m.err
theorem Mg.five_ok {m : Mg} (h : m.ok) (k : Nat) : sm (m.five k) := by
  obtain ⟨_, ⟨h1, h2, h3, h4, h5⟩, _⟩ := h
  match k with
  | 0 => exact h1
  | 1 => exact h2
  | 2 => exact h3
  | 3 => exact h4
  | k + 4 => exact h5
theorem five_cell {m : Mg} (w : World) (t : TypeId) {k : Nat} (hk : k < 5) : (w.alloc (.cells #[.int .i64 m.id, .int .i64 m.node, .int .i64 m.gen, .int .i64 m.stamp, .int .i64 m.err] t)).cell? ⟨w.heap.size, k, none⟩ = some (.int .i64 (m.five k)) := by
  rw [(Blk.new w t _).cell k]
  have : k = 0 ∨ k = 1 ∨ k = 2 ∨ k = 3 ∨ k = 4 := by omega
  rcases this with rfl | rfl | rfl | rfl | rfl <;> rfl
set_option maxRecDepth 100000 in
set_option maxHeartbeats 2000000 in
theorem valid_any (m : Mg) (w : World) (A : Option Addr) (cap : Nat) (h : Reads w 3 A m.locks.length (lkcells m.locks)) (hl : m.locks.length ≤ maxLen) :
    Calls Tryz.prog 14 #[m.agg A cap] w fun e w' => e = .returned (.bool (decide m.ok)) ∧ Below w.heap.size w w' := by
  unfold maxLen at hl
  have HR := Lib.hid h
  clear h
  by_cases b0 : 1 ≤ m.kind ∧ m.kind ≤ 15 ∧ m.locks.length ≤ 200
  · obtain ⟨b1, b2, b3⟩ := b0
    have b3I : (m.locks.length : Int) ≤ 200 := by omega
    have HB := Lib.hid (show 1 ≤ m.kind ∧ m.kind ≤ 15 ∧ m.locks.length ≤ 200 from ⟨b1, b2, b3⟩)
    unfold Mg.agg
    go_enter Tryz.func14, Tryz.ntmps14
    go_wp2_with fail
    have hb := ((Below.refl w.heap.size w).alloc (Nat.le_refl _) (.cells #[.int .i64 m.kind, .int .i64 m.id, .int .i64 m.node, .int .i64 m.gen, .int .i64 m.stamp, .int .u64 m.epoch, .int .i64 m.err, .slice A m.locks.length cap] 26)).alloc (by simp) (.cells #[.int .i64 m.id, .int .i64 m.node, .int .i64 m.gen, .int .i64 m.stamp, .int .i64 m.err] 3)
    have hx : ((w.alloc (.cells #[.int .i64 m.kind, .int .i64 m.id, .int .i64 m.node, .int .i64 m.gen, .int .i64 m.stamp, .int .u64 m.epoch, .int .i64 m.err, .slice A m.locks.length cap] 26)).alloc (.cells #[.int .i64 m.id, .int .i64 m.node, .int .i64 m.gen, .int .i64 m.stamp, .int .i64 m.err] 3)).cell? ⟨w.heap.size, 7, none⟩ = some (.slice A m.locks.length cap) :=
      ((Blk.new w 26 #[.int .i64 m.kind, .int .i64 m.id, .int .i64 m.node, .int .i64 m.gen, .int .i64 m.stamp, .int .u64 m.epoch, .int .i64 m.err, .slice A m.locks.length cap]).alloc (.cells #[.int .i64 m.id, .int .i64 m.node, .int .i64 m.gen, .int .i64 m.stamp, .int .i64 m.err] 3)).cell 7
    have h5 : ∀ k, k < 5 → ((w.alloc (.cells #[.int .i64 m.kind, .int .i64 m.id, .int .i64 m.node, .int .i64 m.gen, .int .i64 m.stamp, .int .u64 m.epoch, .int .i64 m.err, .slice A m.locks.length cap] 26)).alloc (.cells #[.int .i64 m.id, .int .i64 m.node, .int .i64 m.gen, .int .i64 m.stamp, .int .i64 m.err] 3)).cell? ⟨w.heap.size + 1, k, none⟩ = some (.int .i64 (m.five k)) := fun k hk => by
      have := five_cell (m := m) (w.alloc (.cells #[.int .i64 m.kind, .int .i64 m.id, .int .i64 m.node, .int .i64 m.gen, .int .i64 m.stamp, .int .u64 m.epoch, .int .i64 m.err, .slice A m.locks.length cap] 26)) 3 hk
      simpa using this
    generalize (w.alloc (.cells #[.int .i64 m.kind, .int .i64 m.id, .int .i64 m.node, .int .i64 m.gen, .int .i64 m.stamp, .int .u64 m.epoch, .int .i64 m.err, .slice A m.locks.length cap] 26)).alloc (.cells #[.int .i64 m.id, .int .i64 m.node, .int .i64 m.gen, .int .i64 m.stamp, .int .i64 m.err] 3) = V at hb hx h5 ⊢
    have HV := Lib.hid hb
    have H5 := Lib.hid h5
    clear hb h5
    go_loop [33] (fun t33 => ∃ k : Nat, k ≤ 5 ∧ t33 = .int .i64 k ∧ ∀ j, j < k → sm (m.five j)) (fun t33 => 5 - (intOf t33).toNat)
    case atStart => exact ⟨0, by omega, rfl, fun j hj => absurd hj (by omega)⟩
    case round =>
      obtain ⟨k, hk, rfl, hsm⟩ := hrel
      have HSM := Lib.hid hsm
      clear hsm
      by_cases hlt : k < 5
      · have hltI : (k : Int) < 5 := by omega
        have hc := H5.out k hlt
        obtain ⟨n, hn⟩ : ∃ n, n = m.five k := ⟨_, rfl⟩
        rw [← hn] at hc
        have HN := Lib.hid hn
        clear hn
        by_cases n0 : 0 ≤ n
        · by_cases n1 : n ≤ 2147483647
          · go_wp2_with fail
            go_round
            case rel =>
              refine ⟨k + 1, by omega, by go_num, fun j hj => ?_⟩
              by_cases e : j = k
              · subst e
                rw [← HN.out]
                exact ⟨n0, n1⟩
              · exact HSM.out j (by omega)
            case measure => simp [intOf]; omega
          · go_wp2_with fail
            go_ret
            refine ⟨?_, HV.out⟩
            rw [decide_eq_false (fun h : m.ok => by have := (Mg.five_ok h k).2; rw [← HN.out] at this; omega)]
            rfl
        · go_wp2_with fail
          go_ret
          refine ⟨?_, HV.out⟩
          rw [decide_eq_false (fun h : m.ok => by have := (Mg.five_ok h k).1; rw [← HN.out] at this; omega)]
          rfl
      · have hltI : ¬ (k : Int) < 5 := by omega
        have HSM5 := Lib.hid (show sm m.id ∧ sm m.node ∧ sm m.gen ∧ sm m.stamp ∧ sm m.err from ⟨HSM.out 0 (by omega), HSM.out 1 (by omega), HSM.out 2 (by omega), HSM.out 3 (by omega), HSM.out 4 (by omega)⟩)
        clear HSM H5
        have HRV := Lib.hid (HR.out.below (by decide) HV.out)
        go_wp2_with fail
        go_loopw [47] (fun t47 wr => ∃ k : Nat, k ≤ m.locks.length ∧ t47 = .int .i64 k ∧ Below w.heap.size w wr ∧ ∀ j y, j < k → m.locks[j]? = some y → y.ok) (fun t47 _ => m.locks.length - (intOf t47).toNat)
        case atStart => exact ⟨0, by omega, rfl, HV.out, fun j y hj => absurd hj (by omega)⟩
        case round =>
          clear hx HRV
          obtain ⟨k, hk, rfl, hbr, hok⟩ := hrel
          have HBR := Lib.hid hbr
          have HOK := Lib.hid hok
          clear hbr hok
          by_cases hlt2 : k < m.locks.length
          · have hltI2 : (k : Int) < (m.locks.length : Int) := by omega
            obtain ⟨y, hy⟩ : ∃ y, m.locks[k]? = some y := ⟨_, List.getElem?_eq_getElem hlt2⟩
            obtain ⟨ad, rfl, c0, c1, c2⟩ := (HR.out.below (by decide) HBR.out).lock hy
            have HY := Lib.hid hy
            clear hy
            obtain ⟨ya, yb, ym⟩ := y
            simp only at c0 c1 c2
            go_upto_region 12 with (fail)
            have hbx := HBR.out.alloc HBR.out.size (.cells #[.int .i64 ya, .int .i64 yb, .int .i64 ym] 68)
            have hblk := Blk.new wr 68 #[.int .i64 ya, .int .i64 yb, .int .i64 ym]
            clear c0 c1 c2
            generalize wr.alloc (.cells #[.int .i64 ya, .int .i64 yb, .int .i64 ym] 68) = W at hbx hblk ⊢
            generalize wr.heap.size = B at hblk ⊢
            have d0 := hblk.cell 0
            have d1 := hblk.cell 1
            have d2 := hblk.cell 2
            simp at d0 d1 d2
            have HBX := Lib.hid hbx
            have HBLK := Lib.hid hblk
            clear hbx hblk
            go_wp2_with fail
            refine (spvalid_any ya yb _).mono ?_
            rintro e w1 ⟨rfl, hb1⟩
            have e1 := (HBLK.out.below_ hb1).cell 1
            have e2 := (HBLK.out.below_ hb1).cell 2
            simp at e1 e2
            have HB1 := Lib.hid (HBX.out.trans (hb1.mono HBX.out.size))
            clear hb1 d0 d1 d2
            by_cases p1 : 0 ≤ ya ∧ ya < yb
            · rw [decide_eq_true p1]
              by_cases p2 : yb ≤ 4096
              · by_cases p3 : 0 ≤ ym ∧ ym ≤ 2
                · have HP := Lib.hid (show Lk.ok ⟨ya, yb, ym⟩ from ⟨p1.1, p1.2, p2, p3.1, p3.2⟩)
                  have P3 := Lib.hid p3
                  clear p1 p3
                  go_wp2_with fail
                  refine (mdvalid_any ym _).mono ?_
                  rintro e w2 ⟨rfl, rfl⟩
                  rw [decide_eq_true P3.out]
                  go_wp2_with fail
                  go_roundw
                  case rel =>
                    refine ⟨k + 1, by omega, by go_num, HB1.out, fun j z hj hz => ?_⟩
                    by_cases e : j = k
                    · subst e
                      rw [HY.out] at hz
                      injection hz with hz
                      subst hz
                      exact HP.out
                    · exact HOK.out j z (by omega) hz
                  case measure => simp [intOf]; omega
                · have HNO := Lib.hid (show ¬ Lk.ok ⟨ya, yb, ym⟩ from fun h => p3 ⟨h.2.2.2.1, h.2.2.2.2⟩)
                  have P3 := Lib.hid p3
                  clear p1 p3
                  go_wp2_with fail
                  refine (mdvalid_any ym _).mono ?_
                  rintro e w2 ⟨rfl, rfl⟩
                  rw [decide_eq_false P3.out]
                  go_wp2_with fail
                  go_ret
                  refine ⟨?_, HB1.out⟩
                  rw [decide_eq_false (fun h : m.ok => HNO.out (h.2.2 _ (List.mem_of_getElem? HY.out)))]
                  rfl
              · have HNO := Lib.hid (show ¬ Lk.ok ⟨ya, yb, ym⟩ from fun h => p2 h.2.2.1)
                clear p1
                go_wp2_with fail
                go_ret
                refine ⟨?_, HB1.out⟩
                rw [decide_eq_false (fun h : m.ok => HNO.out (h.2.2 _ (List.mem_of_getElem? HY.out)))]
                rfl
            · have HNO := Lib.hid (show ¬ Lk.ok ⟨ya, yb, ym⟩ from fun h => p1 ⟨h.1, h.2.1⟩)
              rw [decide_eq_false p1]
              clear p1
              go_wp2_with fail
              go_ret
              refine ⟨?_, HB1.out⟩
              rw [decide_eq_false (fun h : m.ok => HNO.out (h.2.2 _ (List.mem_of_getElem? HY.out)))]
              rfl
          · have hltI2 : ¬ (k : Int) < (m.locks.length : Int) := by omega
            go_wp2_with fail
            go_ret
            refine ⟨?_, HBR.out⟩
            rw [decide_eq_true (show m.ok from ⟨HB.out, HSM5.out, fun y hy => by
              obtain ⟨j, hj, rfl⟩ := List.mem_iff_getElem.1 hy
              exact HOK.out j _ (by omega) (List.getElem?_eq_getElem hj)⟩)]
            rfl
  · rw [decide_eq_false (fun h : m.ok => b0 h.1)]
    unfold Mg.agg
    by_cases b1 : 1 ≤ m.kind
    · by_cases b2 : m.kind ≤ 15
      · have b3 : ¬ (m.locks.length : Int) ≤ 200 := fun h => b0 ⟨b1, b2, by omega⟩
        clear b0
        go_enter Tryz.func14, Tryz.ntmps14
        go_wp2_with fail
        go_ret
        exact ⟨rfl, (Below.refl _ _).alloc (Nat.le_refl _) _⟩
      · clear b0
        go_enter Tryz.func14, Tryz.ntmps14
        go_wp2_with fail
        go_ret
        exact ⟨rfl, (Below.refl _ _).alloc (Nat.le_refl _) _⟩
    · clear b0
      go_enter Tryz.func14, Tryz.ntmps14
      go_wp2_with fail
      go_ret
      exact ⟨rfl, (Below.refl _ _).alloc (Nat.le_refl _) _⟩
end Go.Proofs.YtjmgefpdfhfhmaaGreatDoor
