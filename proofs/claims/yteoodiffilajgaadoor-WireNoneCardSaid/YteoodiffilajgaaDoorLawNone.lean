/- WireNone: nil receivers, and the law's walk. -/
import Derived.Test.YteoodiffilajgaaDoorWireP
namespace Go.Proofs.YteoodiffilajgaaDoor
open Go.RowKit

theorem wbytes_nil (w : World) : Calls Tryd.prog 13 #[.pointer none] w fun r w' => r = .returned (.tuple #[.string ⟨#[]⟩, .int .i64 1]) ∧ Below w.heap.size w w' := by
  go_enter Tryd.func13, Tryd.ntmps13
  go_wp2_with fail
  go_ret2
  exact ⟨rfl, Below.refl _ _⟩
theorem wnum_nil (v n : Int) (w : World) : Calls Tryd.prog 12 #[.pointer none, .int .u64 v, .int .i64 n] w fun r w' => r = .returned (.pointer none) ∧ w = w' := by
  go_enter Tryd.func12, Tryd.ntmps12
  go_wp2_with fail
  go_ret
  exact ⟨rfl, rfl⟩
theorem wtext_nil (s : ByteArray) (n : Int) (w : World) : Calls Tryd.prog 21 #[.pointer none, .string s, .int .i64 n] w fun r w' => r = .returned (.pointer none) ∧ w = w' := by
  go_enter Tryd.func21, Tryd.ntmps21
  go_wp2_with fail
  go_ret
  exact ⟨rfl, rfl⟩
theorem wpad_nil (n : Int) (w : World) : Calls Tryd.prog 25 #[.pointer none, .int .i64 n] w fun r w' => r = .returned (.pointer none) ∧ w = w' := by
  go_enter Tryd.func25, Tryd.ntmps25
  go_wp2_with fail
  go_ret
  exact ⟨rfl, rfl⟩
theorem rtake_nil (n : Int) (w : World) : Calls Tryd.prog 52 #[.pointer none, .int .i64 n] w fun r w' => r = .returned (.string ⟨#[]⟩) ∧ w = w' := by
  go_enter Tryd.func52, Tryd.ntmps52
  go_wp2_with fail
  refine (rerr_nil _).mono ?_
  rintro e w1 ⟨rfl, rfl⟩
  go_wp2_with fail
  go_ret
  exact ⟨rfl, rfl⟩
set_option maxRecDepth 100000 in
set_option maxHeartbeats 1000000 in
theorem rnum_nil (n : Int) (w : World) : Calls Tryd.prog 32 #[.pointer none, .int .i64 n] w fun r w' => r = .returned (.int .u64 0) ∧ Below w.heap.size w w' := by
  by_cases hn : 1 ≤ n ∧ n ≤ 8
  · have HOK := Lib.hid (show (if numOk 0 n then (0 : Int) else 1) = 0 from if_pos ⟨hn.1, hn.2, Nat.pow_pos (by decide)⟩)
    clear hn
    go_enter Tryd.func32, Tryd.ntmps32
    go_wp2_with fail
    refine (wrongNum_any 0 n (by omega) _).mono ?_
    rintro e w1 ⟨rfl, rfl⟩
    rw [HOK.out]
    go_wp2_with fail
    refine (rtake_nil n _).mono ?_
    rintro e w2 ⟨rfl, rfl⟩
    have hcv := fun w => Lib.run_convert_string_bytes (P := Tryd.prog) w 9 24 5 ⟨#[]⟩ Tryd.underlying9 Tryd.underlying24 Tryd.underlying5
    go_wp2_with fail
    have hbw := below_bytes w 5 ⟨#[]⟩
    go_loop [6, 21] (fun t6 t21 => t21 = .int .i64 0 ∧ t6 = .int .u64 0) (fun _ _ => 0)
    case atStart => exact ⟨rfl, rfl⟩
    case round =>
      obtain ⟨rfl, rfl⟩ := hrel
      go_wp2_with fail
      go_ret
      exact ⟨rfl, hbw⟩
  · have HOK := Lib.hid (show (if numOk 0 n then (0 : Int) else 1) = 1 from if_neg (fun h => hn ⟨h.1, h.2.1⟩))
    clear hn
    go_enter Tryd.func32, Tryd.ntmps32
    go_wp2_with fail
    refine (wrongNum_any 0 n (by omega) _).mono ?_
    rintro e w1 ⟨rfl, rfl⟩
    rw [HOK.out]
    go_wp2_with fail
    refine (rfail_nil 1 _).mono ?_
    rintro e w2 ⟨rfl, rfl⟩
    go_wp2_with fail
    go_ret
    exact ⟨rfl, Below.refl _ _⟩
theorem rint_nil (w : World) : Calls Tryd.prog 34 #[.pointer none] w fun r w' => r = .returned (.int .i64 0) ∧ Below w.heap.size w w' := by
  go_enter Tryd.func34, Tryd.ntmps34
  go_wp2_with fail
  refine (rnum_nil 8 _).mono ?_
  rintro e w1 ⟨rfl, hb⟩
  go_wp2_with fail
  go_ret
  exact ⟨rfl, hb⟩
theorem rcount_nil (most : Int) (w : World) : Calls Tryd.prog 15 #[.pointer none, .int .i64 most] w fun r w' => r = .returned (.int .i64 0) ∧ Below w.heap.size w w' := by
  go_enter Tryd.func15, Tryd.ntmps15
  go_wp2_with fail
  refine (rnum_nil 2 _).mono ?_
  rintro e w1 ⟨rfl, hb⟩
  go_wp2_with fail
  refine (rerr_nil _).mono ?_
  rintro e w2 ⟨rfl, rfl⟩
  go_wp2_with fail
  go_ret
  exact ⟨rfl, hb⟩
theorem rflag_nil (w : World) : Calls Tryd.prog 37 #[.pointer none] w fun r w' => r = .returned (.bool false) ∧ Below w.heap.size w w' := by
  go_enter Tryd.func37, Tryd.ntmps37
  go_wp2_with fail
  refine (rnum_nil 1 _).mono ?_
  rintro e w1 ⟨rfl, hb⟩
  go_wp2_with fail
  go_ret
  exact ⟨rfl, hb⟩
theorem rtext_nil (room : Int) (w : World) : Calls Tryd.prog 35 #[.pointer none, .int .i64 room] w fun r w' => r = .returned (.string ⟨#[]⟩) ∧ Below w.heap.size w w' := by
  by_cases hr : room < 0 ∨ 60000 < room
  · have HRR := Lib.hid (show (if room < 0 ∨ 60000 < room then (1 : Int) else 0) = 1 from if_pos hr)
    clear hr
    go_enter Tryd.func35, Tryd.ntmps35
    go_wp2_with fail
    refine (wrongRoom_any room _).mono ?_
    rintro e w1 ⟨rfl, rfl⟩
    rw [HRR.out]
    go_wp2_with fail
    refine (rfail_nil 1 _).mono ?_
    rintro e w2 ⟨rfl, rfl⟩
    go_wp2_with fail
    go_ret
    exact ⟨rfl, Below.refl _ _⟩
  · have HRR := Lib.hid (show (if room < 0 ∨ 60000 < room then (1 : Int) else 0) = 0 from if_neg hr)
    clear hr
    go_enter Tryd.func35, Tryd.ntmps35
    go_wp2_with fail
    refine (wrongRoom_any room _).mono ?_
    rintro e w1 ⟨rfl, rfl⟩
    rw [HRR.out]
    go_wp2_with fail
    refine (rcount_nil room _).mono ?_
    rintro e w2 ⟨rfl, hb⟩
    go_wp2_with fail
    refine (rtake_nil 0 _).mono ?_
    rintro e w3 ⟨rfl, rfl⟩
    go_wp2_with fail
    refine (clone_any ⟨#[]⟩ _ (by decide)).mono ?_
    rintro e w4 ⟨rfl, hb4⟩
    go_wp2_with fail
    go_ret
    exact ⟨rfl, hb.trans (hb4.mono hb.size)⟩
theorem rend_nil (w : World) : Calls Tryd.prog 17 #[.pointer none] w fun r w' => r = .returned (.int .i64 1) ∧ w = w' := by
  go_enter Tryd.func17, Tryd.ntmps17
  go_wp2_with fail
  refine (rerr_nil _).mono ?_
  rintro e w2 ⟨rfl, rfl⟩
  go_wp2_with fail
  go_ret
  exact ⟨rfl, rfl⟩
theorem rskip_nil (n : Int) (w : World) : Calls Tryd.prog 39 #[.pointer none, .int .i64 n] w fun r w' => r = .returned (.tuple #[]) ∧ Below w.heap.size w w' := by
  by_cases h0 : n < 0
  · go_enter Tryd.func39, Tryd.ntmps39
    go_wp2_with fail
    refine (rfail_nil 1 _).mono ?_
    rintro e w2 ⟨rfl, rfl⟩
    go_wp2_with fail
    first | go_end0 | refine bodyPost_ret (v := .tuple #[]) (by simp [results, Tryd.results39, go_sem]) rfl ?_
    exact ⟨rfl, Below.refl _ _⟩
  · go_enter Tryd.func39, Tryd.ntmps39
    go_wp2_with fail
    refine (rtake_nil n _).mono ?_
    rintro e w3 ⟨rfl, rfl⟩
    go_wp2_with fail
    refine (Tryd.strings_Trim_one ⟨#[]⟩ 0 (by decide) _ (by decide)).mono ?_
    rintro e w2 ⟨rfl, hw2⟩
    have hbw : Below w.heap.size w w2 := by
      rcases hw2 with rfl | rfl
      · exact Below.refl _ _
      · exact ⟨rfl, rfl, rfl, Nat.le_refl _, fun _ _ => rfl⟩
    clear hw2
    rw [show (Lib.trimB (⟨#[]⟩ : ByteArray).data.toList 0) = [] from rfl]
    go_wp2_with fail
    first | go_end0 | refine bodyPost_ret (v := .tuple #[]) (by simp [results, Tryd.results39, go_sem]) rfl ?_
    exact ⟨rfl, hbw⟩

set_option maxRecDepth 100000 in
set_option maxHeartbeats 4000000 in
theorem wireNone_any (n : Int) (s : ByteArray) (w : World) (hn : i64' n) (hs : s.size ≤ maxLen) : Calls Tryd.prog 10 #[.int .i64 n, .string s] w fun e w' => e = .returned (.bool true) ∧ Below w.heap.size w w' := by
  obtain ⟨hn1, hn2⟩ := hn
  unfold maxLen at hs
  by_cases h0 : 300 < s.size
  · have h0I : (300 : Int) < (s.size : Int) := by omega
    go_enter Tryd.func10, Tryd.ntmps10
    go_wp2_with fail
    refine (alive1_any _).mono ?_
    rintro e w1 ⟨rfl, hb⟩
    go_wp2_with fail
    go_ret
    exact ⟨rfl, hb⟩
  · have h0I : ¬ (300 : Int) < (s.size : Int) := by omega
    go_enter Tryd.func10, Tryd.ntmps10
    go_wp2_with fail
    refine (wbytes_nil _).mono ?_
    rintro e w1 ⟨rfl, hb1⟩
    go_wp2_with fail
    refine (rskip_nil n _).mono ?_
    rintro e w2 ⟨rfl, hb2⟩
    have HB2 := Lib.hid (hb1.trans (hb2.mono hb1.size))
    clear hb1 hb2
    go_wp2_with fail
    refine (alive1_any _).mono ?_
    rintro e w3 ⟨rfl, hb3⟩
    have HB3 := Lib.hid (HB2.out.trans (hb3.mono HB2.out.size))
    clear hb3
    go_wp2_with fail
    refine (wnum_nil 1 1 _).mono ?_
    rintro e w4 ⟨rfl, rfl⟩
    go_wp2_with fail
    refine (wtext_nil s 9 _).mono ?_
    rintro e w4 ⟨rfl, rfl⟩
    go_wp2_with fail
    refine (wpad_nil n _).mono ?_
    rintro e w4 ⟨rfl, rfl⟩
    go_wp2_with fail
    refine (rnum_nil n _).mono ?_
    rintro e w5 ⟨rfl, hb5⟩
    have HB5 := Lib.hid (HB3.out.trans (hb5.mono HB3.out.size))
    clear hb5
    go_wp2_with fail
    refine (rint_nil _).mono ?_
    rintro e w6 ⟨rfl, hb6⟩
    have HB6 := Lib.hid (HB5.out.trans (hb6.mono HB5.out.size))
    clear hb6
    go_wp2_with fail
    refine (rcount_nil n _).mono ?_
    rintro e w7 ⟨rfl, hb7⟩
    have HB7 := Lib.hid (HB6.out.trans (hb7.mono HB6.out.size))
    clear hb7
    go_wp2_with fail
    refine (rtext_nil n _).mono ?_
    rintro e w8 ⟨rfl, hb8⟩
    have HB8 := Lib.hid (HB7.out.trans (hb8.mono HB7.out.size))
    clear hb8
    go_wp2_with fail
    refine (rflag_nil _).mono ?_
    rintro e w9 ⟨rfl, hb9⟩
    have HB9 := Lib.hid (HB8.out.trans (hb9.mono HB8.out.size))
    clear hb9
    go_wp2_with fail
    refine (rerr_nil _).mono ?_
    rintro e w10 ⟨rfl, rfl⟩
    go_wp2_with fail
    refine (rend_nil _).mono ?_
    rintro e w10 ⟨rfl, rfl⟩
    go_wp2_with fail
    go_ret
    exact ⟨rfl, HB9.out⟩
end Go.Proofs.YteoodiffilajgaaDoor
