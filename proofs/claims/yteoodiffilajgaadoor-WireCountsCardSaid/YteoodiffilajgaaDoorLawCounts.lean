/- WireCounts: the law's walk. -/
import Derived.Test.YteoodiffilajgaaDoorWireP
namespace Go.Proofs.YteoodiffilajgaaDoor
open Go.RowKit

set_option maxRecDepth 100000 in
set_option maxHeartbeats 4000000 in
theorem wireCounts_any (n most : Int) (w : World) (hn : i64' n) : Calls Tryd.prog 3 #[.int .i64 n, .int .i64 most] w fun e w' => e = .returned (.bool true) ∧ Below w.heap.size w w' := by
  obtain ⟨hn1, hn2⟩ := hn
  by_cases h0 : n < 0
  · go_enter Tryd.func3, Tryd.ntmps3
    go_wp2_with fail
    refine (alive1_any _).mono ?_
    rintro e w1 ⟨rfl, hb⟩
    go_wp2_with fail
    go_ret
    exact ⟨rfl, hb⟩
  · by_cases h1 : 65535 < n
    · go_enter Tryd.func3, Tryd.ntmps3
      go_wp2_with fail
      refine (alive1_any _).mono ?_
      rintro e w1 ⟨rfl, hb⟩
      go_wp2_with fail
      go_ret
      exact ⟨rfl, hb⟩
    · obtain ⟨m, rfl⟩ : ∃ m : Nat, n = m := ⟨n.toNat, by omega⟩
      have hm6 : m < 65536 := by omega
      have hu : IntKind.u64.wrap (m : Int) = (m : Int) := by rw [IntKind.wrap_u64]; omega
      have E1 := Lib.hid (show Wr.num ⟨[], 0⟩ m 2 = ⟨le m 2, 0⟩ from Wr.num_ok rfl ⟨by omega, by omega, by show m < 256 ^ 2; omega⟩)
      have E2 := Lib.hid (count_app (v := m) hm6 [] most)
      simp only [List.append_nil] at E2
      obtain ⟨o0, hw0, hs0⟩ := wr_new 27 (fun _ => 0) 1 w
      have HW0 := Lib.hid hw0
      have HE0 := Lib.hid ((Env.start w).step (hs0 (fun _ => False)) (by simp))
      clear hw0 hs0 hn1 hn2
      go_enter Tryd.func3, Tryd.ntmps3
      go_wp2_with fail
      refine (wnum_any HW0.out m 2 (by omega) (by simp)).mono ?_
      rintro e w1 ⟨rfl, o1, hw1, hs1⟩
      rw [E1.out] at hw1
      have HW1 := Lib.hid hw1
      have HE1 := Lib.hid (HE0.out.step hs1 (by unfold only; omega))
      clear hw1 hs1
      go_wp2_with fail
      refine (wbytes_any HW1.out).mono ?_
      rintro e w2 ⟨rfl, hb2⟩
      rw [if_pos rfl]
      have HE2 := Lib.hid (HE1.out.below_ hb2)
      clear hb2
      go_wp2_with fail
      refine (newreader_any o1 2 (str (le m 2)) _ (by rw [str_size, le_len]; omega)).mono ?_
      rintro e w3 ⟨p3, o3, rfl, hr3, hb3, hs3⟩
      have HR3 := Lib.hid hr3
      have HE3 := Lib.hid (HE2.out.step (hs3 (fun _ => False)) (by simp))
      clear hr3 hb3 hs3
      go_wp2_with fail
      refine (rcount_any HR3.out most).mono ?_
      rintro e w4 ⟨rfl, o4, hr4, hs4⟩
      have HE4 := Lib.hid (HE3.out.step hs4 (by unfold only; omega))
      obtain ⟨e3, e4⟩ := E2.out
      rw [e3]
      rw [e4] at hr4
      clear e3 e4 hs4
      by_cases hm : most < (m : Int)
      · rw [if_pos hm]
        rw [if_pos hm] at hr4
        have HR4 := Lib.hid hr4
        clear hr4
        go_wp2_with fail
        refine (alive1_any _).mono ?_
        rintro e w5 ⟨rfl, hb5⟩
        have HE5 := Lib.hid (HE4.out.below_ hb5)
        have HR5 := Lib.hid (HR4.out.below_ hb5)
        clear hb5
        go_wp2_with fail
        refine (rerr_any HR5.out).mono ?_
        rintro e w6 ⟨rfl, rfl⟩
        go_wp2_with fail
        go_ret
        exact ⟨rfl, HE5.out.low⟩
      · rw [if_neg hm]
        rw [if_neg hm] at hr4
        have HR4 := Lib.hid hr4
        clear hr4
        go_wp2_with fail
        refine (alive1_any _).mono ?_
        rintro e w5 ⟨rfl, hb5⟩
        have HE5 := Lib.hid (HE4.out.below_ hb5)
        have HR5 := Lib.hid (HR4.out.below_ hb5)
        clear hb5
        go_wp2_with fail
        refine (rend_any HR5.out).mono ?_
        rintro e w6 ⟨rfl, hb6⟩
        rw [end_nil]
        go_wp2_with fail
        go_ret
        exact ⟨rfl, (HE5.out.below_ hb6).low⟩
end Go.Proofs.YteoodiffilajgaaDoor
