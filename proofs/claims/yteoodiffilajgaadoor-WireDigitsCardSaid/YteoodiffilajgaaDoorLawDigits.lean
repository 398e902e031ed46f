/- WireDigits: the law's walk. -/
import Derived.Test.YteoodiffilajgaaDoorXNumber
namespace Go.Proofs.YteoodiffilajgaaDoor
open Go.RowKit

set_option maxRecDepth 100000 in
set_option maxHeartbeats 4000000 in
theorem wireDigits_any (v : Int) (s : ByteArray) (w : World) (hv : i64' v) (hs : s.size ≤ maxLen) : Calls Tryd.prog 5 #[.int .i64 v, .string s] w fun e w' => e = .returned (.bool true) ∧ Below w.heap.size w w' := by
  unfold maxLen at hs
  have HV := Lib.hid hv
  clear hv
  by_cases h0 : 300 < s.size
  · have h0I : (300 : Int) < (s.size : Int) := by omega
    go_enter Tryd.func5, Tryd.ntmps5
    go_wp2_with fail
    refine (alive1_any _).mono ?_
    rintro e w1 ⟨rfl, hb⟩
    go_wp2_with fail
    go_ret
    exact ⟨rfl, hb⟩
  · have h0I : ¬ (300 : Int) < (s.size : Int) := by omega
    go_enter Tryd.func5, Tryd.ntmps5
    go_wp2_with fail
    refine (number_any s _ (by omega)).mono ?_
    rintro e w1 ⟨rfl, rfl⟩
    generalize hn : numOf (ngD s) (ngB s) = q
    have HN := Lib.hid hn
    clear hn
    go_wp2_with fail
    refine (xnumber_any s _ (by omega)).mono ?_
    rintro e w1 ⟨rfl, rfl⟩
    rw [HN.out]
    obtain ⟨q1, q2⟩ := q
    go_wp2_with fail
    refine (alive1_any _).mono ?_
    rintro e w3 ⟨rfl, hb3⟩
    have HB3 := Lib.hid hb3
    clear hb3
    go_wp2_with fail
    refine (digits_any v HV.out _).mono ?_
    rintro e w4 ⟨rfl, hb4⟩
    have HB4 := Lib.hid (HB3.out.trans (hb4.mono HB3.out.size))
    clear hb4
    generalize hD : str (digits v) = D
    have HD := Lib.hid hD
    clear hD
    go_wp2_with fail
    refine (xdigits_any v HV.out _).mono ?_
    rintro e w5 ⟨rfl, hb5⟩
    rw [HD.out]
    have HB5 := Lib.hid (HB4.out.trans (hb5.mono HB4.out.size))
    clear hb5
    go_wp2_with fail
    go_ret
    exact ⟨rfl, HB5.out⟩
end Go.Proofs.YteoodiffilajgaaDoor
