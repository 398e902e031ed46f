/- SessNone: of a nil and of a zero session: the law's walk: it returns true, and of what was there nothing has turned. -/
import Derived.Test.YtoegkgebmldhaaaSessI
namespace Go.Proofs.Ytoegkgebmldhaaa
open Go.RowKit
set_option maxRecDepth 100000 in
set_option maxHeartbeats 4000000 in
theorem sessNone_any (w : World) (a b c d e g : Int) (s : ByteArray) (h : Bool) (hs : s.size ≤ maxLen) :
    Calls Try.prog 6 #[.agg #[.int .i64 a, .int .i64 b, .int .i64 c, .int .i64 d, .int .i64 e, .int .i64 g, .string s, .bool h]] w fun x w' => x = .returned (.bool true) ∧ Below w.heap.size w w' := by
  unfold maxLen at hs
  by_cases h3 : 300 < s.size
  · have h3I : (300 : Int) < (s.size : Int) := by omega
    go_enter Try.func6, Try.ntmps6
    go_wp2_with (go_at_call 7; refine (alive_any _).mono ?_; rintro x w' ⟨rfl, hb⟩)
    go_ret
    exact ⟨rfl, ((Below.refl _ _).alloc (Nat.le_refl _) _).trans (hb.mono (by simp))⟩
  · have h3I : (s.size : Int) ≤ 300 := by omega
    go_enter Try.func6, Try.ntmps6
    go_wp2_with fail
    refine (take_nil _ _ _ _ _ _ _ _ _).mono ?_
    rintro x w1 ⟨rfl, hb1⟩
    have HB1 := Lib.hid hb1
    clear hb1
    go_wp2_with fail
    refine (alive_any _).mono ?_
    rintro x w2 ⟨rfl, hb2⟩
    have hb1 := HB1.out
    have hw1 : w.heap.size + 1 + 1 ≤ w1.heap.size := by have := hb1.size; simp at this; omega
    have z1 := hb1.cell (p := ⟨w.heap.size + 1, 4, none⟩) (by simp)
    have z2 := (hb2.cell (p := ⟨w.heap.size + 1, 4, none⟩) (show w.heap.size + 1 < w1.heap.size by omega)).trans z1
    simp at z2
    have HB2 := Lib.hid hb2
    clear hb1 hb2 z1
    go_wp2_with fail
    refine (send_nil _ _).mono ?_
    rintro x w' ⟨rfl, rfl⟩
    go_wp2_with fail
    refine (send_zero _ _ z2 _).mono ?_
    rintro x w' ⟨rfl, rfl⟩
    go_wp2_with fail
    refine (tick_nil _).mono ?_
    rintro x w' ⟨rfl, rfl⟩
    go_wp2_with fail
    refine (out_nil _).mono ?_
    rintro x w' ⟨rfl, rfl⟩
    go_wp2_with fail
    refine (waiting_nil _).mono ?_
    rintro x w' ⟨rfl, rfl⟩
    go_wp2_with fail
    refine (peer_nil _).mono ?_
    rintro x w' ⟨rfl, rfl⟩
    go_wp2_with fail
    refine (life_nil _).mono ?_
    rintro x w' ⟨rfl, rfl⟩
    go_wp2_with fail
    refine (out_zero _ _ z2).mono ?_
    rintro x w' ⟨rfl, rfl⟩
    go_wp2_with fail
    refine (waiting_zero _ _ z2).mono ?_
    rintro x w' ⟨rfl, rfl⟩
    go_wp2_with fail
    go_ret
    refine ⟨rfl, ?_⟩
    have e1 := ((Below.refl w.heap.size w).alloc (Nat.le_refl _) (.cells #[.int .i64 a, .int .i64 b, .int .i64 c, .int .i64 d, .int .i64 e, .int .i64 g, .string s, .bool h] 34)).alloc (by simp) (.cells #[.int .i64 0, .int .i64 0, .int .i64 0, .int .i64 0, .pointer none, .int .i64 0, .int .i64 0, .map none, .bool false] 46)
    exact (e1.trans (HB1.out.mono (by simp; omega))).trans (HB2.out.mono (by omega))
end Go.Proofs.Ytoegkgebmldhaaa
