/- Messages, the document's: when one can be; PutMsg lays one; the kinds that go up. -/
import Derived.Test.YtjmgefpdfhfhmaaGreatDoorMsgD
import Derived.Test.YtjmgefpdfhfhmaaGreatDoorMsgX
namespace Go.Proofs.YtjmgefpdfhfhmaaGreatDoor
open Go.RowKit

theorem xsmall_any (n : Int) (w : World) : Calls Tryz.prog 35 #[.int .i64 n] w fun e w' => e = .returned (.bool (decide (sm n))) ∧ w = w' := by
  by_cases h0 : 0 ≤ n
  · by_cases h1 : n ≤ 2147483647
    · rw [decide_eq_true (show sm n from ⟨h0, h1⟩)]
      go_enter Tryz.func35, Tryz.ntmps35
      go_wp2
      go_ret
      exact ⟨rfl, rfl⟩
    · rw [decide_eq_false (fun h : sm n => h1 h.2)]
      go_enter Tryz.func35, Tryz.ntmps35
      go_wp2
      go_ret
      exact ⟨rfl, rfl⟩
  · rw [decide_eq_false (fun h : sm n => h0 h.1)]
    go_enter Tryz.func35, Tryz.ntmps35
    go_wp2
    go_ret
    exact ⟨rfl, rfl⟩
theorem xspvalid_any (a b : Int) (w : World) : Calls Tryz.prog 36 #[.agg #[.int .i64 a, .int .i64 b]] w fun e w' => e = .returned (.bool (decide (0 ≤ a ∧ a < b))) ∧ Below w.heap.size w w' := by
  by_cases h0 : 0 ≤ a
  · by_cases h1 : a < b
    · rw [decide_eq_true ⟨h0, h1⟩]
      go_enter Tryz.func36, Tryz.ntmps36
      go_wp2
      go_ret
      exact ⟨rfl, (Below.refl _ _).alloc (Nat.le_refl _) _⟩
    · rw [decide_eq_false (fun h => h1 h.2)]
      go_enter Tryz.func36, Tryz.ntmps36
      go_wp2
      go_ret
      exact ⟨rfl, (Below.refl _ _).alloc (Nat.le_refl _) _⟩
  · rw [decide_eq_false (fun h => h0 h.1)]
    go_enter Tryz.func36, Tryz.ntmps36
    go_wp2
    go_ret
    exact ⟨rfl, (Below.refl _ _).alloc (Nat.le_refl _) _⟩
theorem xmode_any (a : Int) (w : World) : Calls Tryz.prog 37 #[.int .i64 a] w fun e w' => e = .returned (.bool (decide (0 ≤ a ∧ a ≤ 2))) ∧ w = w' := by
  by_cases h0 : 0 ≤ a
  · by_cases h1 : a ≤ 2
    · rw [decide_eq_true ⟨h0, h1⟩]
      go_enter Tryz.func37, Tryz.ntmps37
      go_wp2
      go_ret
      exact ⟨rfl, rfl⟩
    · rw [decide_eq_false (fun h => h1 h.2)]
      go_enter Tryz.func37, Tryz.ntmps37
      go_wp2
      go_ret
      exact ⟨rfl, rfl⟩
  · rw [decide_eq_false (fun h => h0 h.1)]
    go_enter Tryz.func37, Tryz.ntmps37
    go_wp2
    go_ret
    exact ⟨rfl, rfl⟩
theorem xup_any (k : Int) (w : World) : Calls Tryz.prog 18 #[.int .i64 k] w fun e w' => e = .returned (.bool (upB k)) ∧ w = w' := by
  by_cases h : k = 1 ∨ k = 3 ∨ k = 5 ∨ k = 9 ∨ k = 11 ∨ k = 13 ∨ k = 14 ∨ k = 15
  · rcases h with rfl | rfl | rfl | rfl | rfl | rfl | rfl | rfl
    all_goals
      go_enter Tryz.func18, Tryz.ntmps18
      go_wp2
      go_ret
      exact ⟨rfl, rfl⟩
  · have e : upB k = false := decide_eq_false h
    rw [e]
    have h1 : (k == 1) = false := beq_eq_false_iff_ne.2 (by omega)
    have h2 : (k == 3) = false := beq_eq_false_iff_ne.2 (by omega)
    have h3 : (k == 5) = false := beq_eq_false_iff_ne.2 (by omega)
    have h4 : (k == 9) = false := beq_eq_false_iff_ne.2 (by omega)
    have h5 : (k == 11) = false := beq_eq_false_iff_ne.2 (by omega)
    have h6 : (k == 13) = false := beq_eq_false_iff_ne.2 (by omega)
    have h7 : (k == 14) = false := beq_eq_false_iff_ne.2 (by omega)
    have h8 : (k == 15) = false := beq_eq_false_iff_ne.2 (by omega)
    clear h e
    go_enter Tryz.func18, Tryz.ntmps18
    go_wp2
    go_ret
    exact ⟨rfl, rfl⟩
set_option maxRecDepth 100000 in
set_option maxHeartbeats 4000000 in
theorem xvalid_any (m : Mg) (w : World) (A : Option Addr) (cap : Nat) (h : Reads w 3 A m.locks.length (lkcells m.locks)) (hl : m.locks.length ≤ maxLen) :
    Calls Tryz.prog 15 #[m.agg A cap] w fun e w' => e = .returned (.bool (decide m.ok)) ∧ Below w.heap.size w w' := by
  unfold maxLen at hl
  have HR := Lib.hid h
  clear h
  unfold Mg.agg
  by_cases b1 : 1 ≤ m.kind
  · by_cases b2 : m.kind ≤ 15
    · by_cases s0 : sm m.id
      · have S0 := Lib.hid s0
        clear s0
        by_cases s1 : sm m.node
        · have S1 := Lib.hid s1
          clear s1
          by_cases s2 : sm m.gen
          · have S2 := Lib.hid s2
            clear s2
            by_cases s3 : sm m.stamp
            · have S3 := Lib.hid s3
              clear s3
              by_cases s4 : sm m.err
              · have S4 := Lib.hid s4
                clear s4
                by_cases b3 : (m.locks.length : Int) ≤ 200
                · have HB := Lib.hid (show 1 ≤ m.kind ∧ m.kind ≤ 15 ∧ m.locks.length ≤ 200 from ⟨b1, b2, by omega⟩)
                  have HSM5 := Lib.hid (show sm m.id ∧ sm m.node ∧ sm m.gen ∧ sm m.stamp ∧ sm m.err from ⟨S0.out, S1.out, S2.out, S3.out, S4.out⟩)
                  go_enter Tryz.func15, Tryz.ntmps15
                  go_wp2_with fail
                  refine (xsmall_any _ _).mono ?_
                  rintro e w1 ⟨rfl, rfl⟩
                  rw [decide_eq_true S0.out]
                  go_wp2_with fail
                  refine (xsmall_any _ _).mono ?_
                  rintro e w1 ⟨rfl, rfl⟩
                  rw [decide_eq_true S1.out]
                  go_wp2_with fail
                  refine (xsmall_any _ _).mono ?_
                  rintro e w1 ⟨rfl, rfl⟩
                  rw [decide_eq_true S2.out]
                  go_wp2_with fail
                  refine (xsmall_any _ _).mono ?_
                  rintro e w1 ⟨rfl, rfl⟩
                  rw [decide_eq_true S3.out]
                  go_wp2_with fail
                  refine (xsmall_any _ _).mono ?_
                  rintro e w1 ⟨rfl, rfl⟩
                  rw [decide_eq_true S4.out]
                  go_wp2_with fail
                  have hb := (Below.refl w.heap.size w).alloc (Nat.le_refl _) (.cells #[.int .i64 m.kind, .int .i64 m.id, .int .i64 m.node, .int .i64 m.gen, .int .i64 m.stamp, .int .u64 m.epoch, .int .i64 m.err, .slice A m.locks.length cap] 50)
                  have hx := (Blk.new w 50 #[.int .i64 m.kind, .int .i64 m.id, .int .i64 m.node, .int .i64 m.gen, .int .i64 m.stamp, .int .u64 m.epoch, .int .i64 m.err, .slice A m.locks.length cap])
                  generalize hg : w.heap.size = g at hx hb ⊢
                  have HG := Lib.hid hg
                  clear hg
                  generalize w.alloc (.cells #[.int .i64 m.kind, .int .i64 m.id, .int .i64 m.node, .int .i64 m.gen, .int .i64 m.stamp, .int .u64 m.epoch, .int .i64 m.err, .slice A m.locks.length cap] 50) = V at hb hx ⊢
                  have HV := Lib.hid hb
                  have HX := Lib.hid hx
                  clear hb hx
                  have HRV := Lib.hid (HR.out.below (by decide) (by rw [HG.out]; exact HV.out))
                  go_loopw [3] (fun t3 wr => ∃ k : Nat, k ≤ m.locks.length ∧ t3 = .int .i64 k ∧ Below V.heap.size V wr ∧ ∀ j y, j < k → m.locks[j]? = some y → y.ok) (fun t3 _ => m.locks.length - (intOf t3).toNat)
                  case atStart => exact ⟨0, by omega, rfl, Below.refl _ _, fun j y hj => absurd hj (by omega)⟩
                  case round =>
                    obtain ⟨k, hk, rfl, hbr, hok⟩ := hrel
                    have HBR := Lib.hid hbr
                    have HOK := Lib.hid hok
                    have x7 := (HX.out.below_ hbr).cell 7
                    simp at x7
                    have HBW := Lib.hid (show Below g w wr from HV.out.trans (hbr.mono (by have h1 := HV.out.size; have h2 := HG.out; omega)))
                    clear hbr hok
                    by_cases hlt2 : k < m.locks.length
                    · have hltI2 : (k : Int) < (m.locks.length : Int) := by omega
                      obtain ⟨y, hy⟩ : ∃ y, m.locks[k]? = some y := ⟨_, List.getElem?_eq_getElem hlt2⟩
                      obtain ⟨ad, rfl, c0, c1, c2⟩ := (HRV.out.below (by decide) HBR.out).lock hy
                      have HY := Lib.hid hy
                      clear hy
                      obtain ⟨ya, yb, ym⟩ := y
                      simp only at c0 c1 c2
                      go_upto_region 7 with (fail)
                      have hbx := HBR.out.alloc HBR.out.size (.cells #[.int .i64 ya, .int .i64 yb, .int .i64 ym] 68)
                      have hblk := Blk.new wr 68 #[.int .i64 ya, .int .i64 yb, .int .i64 ym]
                      clear c0 c1 c2 x7
                      generalize wr.alloc (.cells #[.int .i64 ya, .int .i64 yb, .int .i64 ym] 68) = W at hbx hblk ⊢
                      generalize wr.heap.size = B at hblk ⊢
                      obtain ⟨d0, d1, d2⟩ := hblk.three
                      have HBX := Lib.hid hbx
                      have HBLK := Lib.hid hblk
                      clear hbx hblk
                      go_wp2_with fail
                      refine (xspvalid_any ya yb _).mono ?_
                      rintro e w1 ⟨rfl, hb1⟩
                      obtain ⟨e0, e1, e2⟩ := (HBLK.out.below_ hb1).three
                      have HB1 := Lib.hid (HBX.out.trans (hb1.mono HBX.out.size))
                      clear hb1 d0 d1 d2
                      by_cases p1 : 0 ≤ ya ∧ ya < yb
                      · rw [decide_eq_true p1]
                        by_cases p2 : yb ≤ 4096
                        · by_cases p3 : 0 ≤ ym ∧ ym ≤ 2
                          · have HP := Lib.hid (show Lk.ok ⟨ya, yb, ym⟩ from ⟨p1.1, p1.2, p2, p3.1, p3.2⟩)
                            have P3 := Lib.hid p3
                            clear p1 p3
                            go_wp2_with fail
                            refine (xmode_any ym _).mono ?_
                            rintro e w2 ⟨rfl, rfl⟩
                            rw [decide_eq_true P3.out]
                            go_wp2_with fail
                            go_roundw
                            case rel =>
                              refine ⟨k + 1, by omega, by go_num, HB1.out, fun j z hj hz => ?_⟩
                              by_cases e : j = k
                              · subst e
                                rw [HY.out] at hz
                                injection hz with hz
                                subst hz
                                exact HP.out
                              · exact HOK.out j z (by omega) hz
                            case measure => simp [intOf]; omega
                          · have HNO := Lib.hid (show ¬ Lk.ok ⟨ya, yb, ym⟩ from fun h => p3 ⟨h.2.2.2.1, h.2.2.2.2⟩)
                            have P3 := Lib.hid p3
                            clear p1 p3
                            go_wp2_with fail
                            refine (xmode_any ym _).mono ?_
                            rintro e w2 ⟨rfl, rfl⟩
                            rw [decide_eq_false P3.out]
                            go_wp2_with fail
                            go_ret
                            refine ⟨?_, by rw [HG.out]; exact HV.out.trans (HB1.out.mono (by have h1 := HV.out.size; have h2 := HG.out; omega))⟩
                            rw [decide_eq_false (fun h : m.ok => HNO.out (h.2.2 _ (List.mem_of_getElem? HY.out)))]
                            rfl
                        · have HNO := Lib.hid (show ¬ Lk.ok ⟨ya, yb, ym⟩ from fun h => p2 h.2.2.1)
                          clear p1
                          go_wp2_with fail
                          go_ret
                          refine ⟨?_, by rw [HG.out]; exact HV.out.trans (HB1.out.mono (by have h1 := HV.out.size; have h2 := HG.out; omega))⟩
                          rw [decide_eq_false (fun h : m.ok => HNO.out (h.2.2 _ (List.mem_of_getElem? HY.out)))]
                          rfl
                      · have HNO := Lib.hid (show ¬ Lk.ok ⟨ya, yb, ym⟩ from fun h => p1 ⟨h.1, h.2.1⟩)
                        rw [decide_eq_false p1]
                        clear p1
                        go_wp2_with fail
                        go_ret
                        refine ⟨?_, by rw [HG.out]; exact HV.out.trans (HB1.out.mono (by have h1 := HV.out.size; have h2 := HG.out; omega))⟩
                        rw [decide_eq_false (fun h : m.ok => HNO.out (h.2.2 _ (List.mem_of_getElem? HY.out)))]
                        rfl
                    · have hltI2 : ¬ (k : Int) < (m.locks.length : Int) := by omega
                      go_wp2_with fail
                      go_ret
                      refine ⟨?_, by rw [HG.out]; exact HBW.out⟩
                      rw [decide_eq_true (show m.ok from ⟨HB.out, HSM5.out, fun y hy => by
                        obtain ⟨j, hj, rfl⟩ := List.mem_iff_getElem.1 hy
                        exact HOK.out j _ (by omega) (List.getElem?_eq_getElem hj)⟩)]
                      rfl
                · rw [decide_eq_false (fun h : m.ok => b3 (by have := h.1.2.2; omega))]
                  go_enter Tryz.func15, Tryz.ntmps15
                  go_wp2_with fail
                  refine (xsmall_any _ _).mono ?_
                  rintro e w1 ⟨rfl, rfl⟩
                  rw [decide_eq_true S0.out]
                  go_wp2_with fail
                  refine (xsmall_any _ _).mono ?_
                  rintro e w1 ⟨rfl, rfl⟩
                  rw [decide_eq_true S1.out]
                  go_wp2_with fail
                  refine (xsmall_any _ _).mono ?_
                  rintro e w1 ⟨rfl, rfl⟩
                  rw [decide_eq_true S2.out]
                  go_wp2_with fail
                  refine (xsmall_any _ _).mono ?_
                  rintro e w1 ⟨rfl, rfl⟩
                  rw [decide_eq_true S3.out]
                  go_wp2_with fail
                  refine (xsmall_any _ _).mono ?_
                  rintro e w1 ⟨rfl, rfl⟩
                  rw [decide_eq_true S4.out]
                  go_wp2_with fail
                  go_ret
                  exact ⟨rfl, (Below.refl _ _).alloc (Nat.le_refl _) _⟩
              · have S4 := Lib.hid s4
                clear s4
                rw [decide_eq_false (fun h : m.ok => S4.out h.2.1.2.2.2.2)]
                go_enter Tryz.func15, Tryz.ntmps15
                go_wp2_with fail
                refine (xsmall_any _ _).mono ?_
                rintro e w1 ⟨rfl, rfl⟩
                rw [decide_eq_true S0.out]
                go_wp2_with fail
                refine (xsmall_any _ _).mono ?_
                rintro e w1 ⟨rfl, rfl⟩
                rw [decide_eq_true S1.out]
                go_wp2_with fail
                refine (xsmall_any _ _).mono ?_
                rintro e w1 ⟨rfl, rfl⟩
                rw [decide_eq_true S2.out]
                go_wp2_with fail
                refine (xsmall_any _ _).mono ?_
                rintro e w1 ⟨rfl, rfl⟩
                rw [decide_eq_true S3.out]
                go_wp2_with fail
                refine (xsmall_any _ _).mono ?_
                rintro e w1 ⟨rfl, rfl⟩
                rw [decide_eq_false S4.out]
                go_wp2_with fail
                go_ret
                exact ⟨rfl, (Below.refl _ _).alloc (Nat.le_refl _) _⟩
            · have S3 := Lib.hid s3
              clear s3
              rw [decide_eq_false (fun h : m.ok => S3.out h.2.1.2.2.2.1)]
              go_enter Tryz.func15, Tryz.ntmps15
              go_wp2_with fail
              refine (xsmall_any _ _).mono ?_
              rintro e w1 ⟨rfl, rfl⟩
              rw [decide_eq_true S0.out]
              go_wp2_with fail
              refine (xsmall_any _ _).mono ?_
              rintro e w1 ⟨rfl, rfl⟩
              rw [decide_eq_true S1.out]
              go_wp2_with fail
              refine (xsmall_any _ _).mono ?_
              rintro e w1 ⟨rfl, rfl⟩
              rw [decide_eq_true S2.out]
              go_wp2_with fail
              refine (xsmall_any _ _).mono ?_
              rintro e w1 ⟨rfl, rfl⟩
              rw [decide_eq_false S3.out]
              go_wp2_with fail
              go_ret
              exact ⟨rfl, (Below.refl _ _).alloc (Nat.le_refl _) _⟩
          · have S2 := Lib.hid s2
            clear s2
            rw [decide_eq_false (fun h : m.ok => S2.out h.2.1.2.2.1)]
            go_enter Tryz.func15, Tryz.ntmps15
            go_wp2_with fail
            refine (xsmall_any _ _).mono ?_
            rintro e w1 ⟨rfl, rfl⟩
            rw [decide_eq_true S0.out]
            go_wp2_with fail
            refine (xsmall_any _ _).mono ?_
            rintro e w1 ⟨rfl, rfl⟩
            rw [decide_eq_true S1.out]
            go_wp2_with fail
            refine (xsmall_any _ _).mono ?_
            rintro e w1 ⟨rfl, rfl⟩
            rw [decide_eq_false S2.out]
            go_wp2_with fail
            go_ret
            exact ⟨rfl, (Below.refl _ _).alloc (Nat.le_refl _) _⟩
        · have S1 := Lib.hid s1
          clear s1
          rw [decide_eq_false (fun h : m.ok => S1.out h.2.1.2.1)]
          go_enter Tryz.func15, Tryz.ntmps15
          go_wp2_with fail
          refine (xsmall_any _ _).mono ?_
          rintro e w1 ⟨rfl, rfl⟩
          rw [decide_eq_true S0.out]
          go_wp2_with fail
          refine (xsmall_any _ _).mono ?_
          rintro e w1 ⟨rfl, rfl⟩
          rw [decide_eq_false S1.out]
          go_wp2_with fail
          go_ret
          exact ⟨rfl, (Below.refl _ _).alloc (Nat.le_refl _) _⟩
      · have S0 := Lib.hid s0
        clear s0
        rw [decide_eq_false (fun h : m.ok => S0.out h.2.1.1)]
        go_enter Tryz.func15, Tryz.ntmps15
        go_wp2_with fail
        refine (xsmall_any _ _).mono ?_
        rintro e w1 ⟨rfl, rfl⟩
        rw [decide_eq_false S0.out]
        go_wp2_with fail
        go_ret
        exact ⟨rfl, (Below.refl _ _).alloc (Nat.le_refl _) _⟩
    · rw [decide_eq_false (fun h : m.ok => b2 h.1.2.1)]
      go_enter Tryz.func15, Tryz.ntmps15
      go_wp2_with fail
      go_ret
      exact ⟨rfl, (Below.refl _ _).alloc (Nat.le_refl _) _⟩
  · rw [decide_eq_false (fun h : m.ok => b1 h.1.1)]
    go_enter Tryz.func15, Tryz.ntmps15
    go_wp2_with fail
    go_ret
    exact ⟨rfl, (Below.refl _ _).alloc (Nat.le_refl _) _⟩
end Go.Proofs.YtjmgefpdfhfhmaaGreatDoor
