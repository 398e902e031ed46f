/- The document's writer of bytes: fail, Flag, Bytes (the same plain functions). -/
import Derived.Test.YteoodiffilajgaaDoorWireD
namespace Go.Proofs.YteoodiffilajgaaDoor
open Go.RowKit
section
variable {o : Nat → Nat} {c : Nat} {w : World} {p : Nat} {W : Wr}
set_option maxHeartbeats 400000 in
theorem xfail_old (h : WrAt 41 o c w p W) (he : W.e ≠ 0) (e : Int) :
    Calls Tryd.prog 48 #[.pointer (some ⟨p, 0, none⟩), .int .i64 e] w fun r w' => r = .returned (.bool true) ∧ w = w' := by
  obtain ⟨A, cap, h0, h1, f0, f1, hc1, hc2, hlt, HB, HC, HV⟩ := h.open_
  have t1 : (W.e == 0) = false := beq_eq_false_iff_ne.2 he
  have t2 : (W.e != 0) = true := bne_iff_ne.2 he
  clear h
  go_enter Tryd.func48, Tryd.ntmps48
  go_wp2
  go_ret
  exact ⟨rfl, rfl⟩
set_option maxHeartbeats 400000 in
theorem xfail_new (h : WrAt 41 o c w p W) (he : W.e = 0) (e : Int) (hne : e ≠ 0) :
    Calls Tryd.prog 48 #[.pointer (some ⟨p, 0, none⟩), .int .i64 e] w fun r w' => r = .returned (.bool true) ∧ WrAt 41 o c w' p { W with e := e } ∧ Step o (only c) w o w' := by
  have HW := Lib.hid h
  obtain ⟨A, cap, h0, h1, f0, f1, hc1, hc2, hlt, HB, HC, HV⟩ := h.open_
  rw [he] at h1
  have t2 : (e != 0) = true := bne_iff_ne.2 hne
  clear h he
  go_enter Tryd.func48, Tryd.ntmps48
  go_wp2
  go_ret
  exact ⟨rfl, HW.out.setE (by decide) e, (Step.refl o (only c) w).setCell (p := ⟨p, 1, none⟩) HC.out _⟩
set_option maxHeartbeats 400000 in
theorem xfail_ok (h : WrAt 41 o c w p W) (he : W.e = 0) :
    Calls Tryd.prog 48 #[.pointer (some ⟨p, 0, none⟩), .int .i64 0] w fun r w' => r = .returned (.bool false) ∧ WrAt 41 o c w' p W ∧ Step o (only c) w o w' := by
  have HW := Lib.hid h
  obtain ⟨A, cap, h0, h1, f0, f1, hc1, hc2, hlt, HB, HC, HV⟩ := h.open_
  rw [he] at h1
  have HE := Lib.hid he
  clear h he
  go_enter Tryd.func48, Tryd.ntmps48
  go_wp2
  go_ret
  have h9 := HW.out.setE (by decide) 0
  have e9 : ({ W with e := 0 } : Wr) = W := by
    have := HE.out
    cases W
    simp at this
    subst this
    rfl
  rw [e9] at h9
  exact ⟨rfl, h9, (Step.refl o (only c) w).setCell (p := ⟨p, 1, none⟩) HC.out _⟩
set_option maxRecDepth 100000 in
set_option maxHeartbeats 1000000 in
theorem xbytes_any (h : WrAt 41 o c w p W) :
    Calls Tryd.prog 27 #[.pointer (some ⟨p, 0, none⟩)] w fun r w' => r = .returned (.tuple #[.string (if W.e = 0 then str W.bs else ⟨#[]⟩), .int .i64 W.e]) ∧ Below w.heap.size w w' := by
  have HW := Lib.hid h
  obtain ⟨A, cap, c0, c1, f0, f1, hc1, hc2, hpl, HB, HC, HV⟩ := h.open_
  clear h
  by_cases he : W.e = 0
  · rw [if_pos he]
    rw [he] at c1 ⊢
    have hcv := conv_own 24 9 Tryd.underlying24 Tryd.underlying5 Tryd.underlying9 HV.out
    clear he hc2
    go_enter Tryd.func27, Tryd.ntmps27
    go_wp2_with fail
    go_ret2
    exact ⟨rfl, Below.refl _ _⟩
  · rw [if_neg he]
    have t1 : (W.e != 0) = true := bne_iff_ne.2 he
    clear he
    go_enter Tryd.func27, Tryd.ntmps27
    go_wp2_with fail
    go_quiet (fail)
    go_wp2_with fail
    go_ret2
    exact ⟨rfl, ⟨rfl, rfl, rfl, Nat.le_refl _, fun _ _ => rfl⟩⟩
set_option maxRecDepth 100000 in
set_option maxHeartbeats 1000000 in
theorem xpad_any (h : WrAt 41 o c w p W) (n : Int) (hb : W.bs.length ≤ 1000000000) :
    Calls Tryd.prog 26 #[.pointer (some ⟨p, 0, none⟩), .int .i64 n] w fun r w' => r = .returned (.tuple #[]) ∧ ∃ o', WrAt 41 o' c w' p (W.pad n) ∧ Step o (only c) w o' w' := by
  have HW := Lib.hid h
  clear h
  by_cases he : W.e = 0
  · have HE := Lib.hid he
    by_cases h6 : 60000 < n
    · have e1 : W.pad n = { W with e := 1 } := by unfold Wr.pad; rw [if_neg (by simpa using he), if_pos h6]
      have E1 := Lib.hid e1
      clear e1 he
      go_enter Tryd.func26, Tryd.ntmps26
      go_wp2_with fail
      refine (xfail_ok HW.out HE.out).mono ?_
      rintro e w1 ⟨rfl, hw1, hs1⟩
      have HW1 := Lib.hid hw1
      have HS1 := Lib.hid hs1
      clear hw1 hs1
      go_wp2_with fail
      refine (xfail_new HW1.out HE.out 1 (by decide)).mono ?_
      rintro e w2 ⟨rfl, hw2, hs2⟩
      have HW2 := Lib.hid hw2
      have HS2 := Lib.hid hs2
      clear hw2 hs2
      go_wp2_with fail
      first | go_end0 | refine bodyPost_ret (v := .tuple #[]) (by simp [results, Tryd.results26, go_sem]) rfl ?_
      exact ⟨rfl, o, by rw [E1.out]; exact HW2.out, HS1.out.trans HS2.out⟩
    · by_cases hl : n < W.bs.length
      · have e1 : W.pad n = { W with e := 2 } := by unfold Wr.pad; rw [if_neg (by simpa using he), if_neg h6, if_pos hl]
        have E1 := Lib.hid e1
        clear e1 he
        go_enter Tryd.func26, Tryd.ntmps26
        go_wp2_with fail
        refine (xfail_ok HW.out HE.out).mono ?_
        rintro e w1 ⟨rfl, hw1, hs1⟩
        have HW1 := Lib.hid hw1
        have HS1 := Lib.hid hs1
        obtain ⟨A, cap, c0, c1, f0, f1, hc1, hc2, hpl, HB, HC, HV⟩ := hw1.open_
        clear hw1 hs1
        go_wp2_with fail
        refine (xfail_new HW1.out HE.out 2 (by decide)).mono ?_
        rintro e w2 ⟨rfl, hw2, hs2⟩
        have HW2 := Lib.hid hw2
        have HS2 := Lib.hid hs2
        clear hw2 hs2
        go_wp2_with fail
        first | go_end0 | refine bodyPost_ret (v := .tuple #[]) (by simp [results, Tryd.results26, go_sem]) rfl ?_
        exact ⟨rfl, o, by rw [E1.out]; exact HW2.out, HS1.out.trans HS2.out⟩
      · obtain ⟨k, rfl⟩ : ∃ k : Nat, n = (W.bs.length : Int) + (k : Int) := ⟨n.toNat - W.bs.length, by omega⟩
        have e1 : W.pad ((W.bs.length : Int) + (k : Int)) = { W with bs := W.bs ++ List.replicate k 0 } := by
          unfold Wr.pad
          rw [if_neg (by simpa using he), if_neg h6, if_neg hl, show ((W.bs.length : Int) + (k : Int)).toNat - W.bs.length = k by omega]
        have E1 := Lib.hid e1
        have hk : k ≤ 60000 := by omega
        clear e1 he
        obtain ⟨i0, hi0, hz0, hz1, hz2⟩ := info_parts info_u8
        go_enter Tryd.func26, Tryd.ntmps26
        go_wp2_with fail
        refine (xfail_ok HW.out HE.out).mono ?_
        rintro e w1 ⟨rfl, hw1, hs1⟩
        have HS1 := Lib.hid hs1
        obtain ⟨A, cap, c0, c1, f0, f1, hc1, hc2, hpl, HB, HC, HV⟩ := hw1.open_
        have hne := own_blk_ne HV.out HB.out (by decide)
        have HNE := Lib.hid hne
        clear hw1 hne hs1
        go_wp2_with fail
        have hwr : IntKind.i64.wrap ((W.bs.length : Int) + (k : Int) - (W.bs.length : Int)) = (k : Int) := by rw [IntKind.wrap_i64]; omega
        have hwr2 : IntKind.i64.wrap (k : Int) = (k : Int) := by rw [IntKind.wrap_i64]; omega
        go_region_law (refine step_append_zeros_S _ rfl (.tmp 23) (.tmp 30) 24 3 rfl 5 i0 .i64 Tryd.underlying24 Tryd.underlying3 hi0 hz0 hz1 hz2 (.slice A W.bs.length cap) W.bs.length (bvs W.bs) rfl HV.out.drew k rfl (by omega) ?_; intro v3 w3 hown hst hg; have hb3 : Blk w3 p 41 _ := (hg.block p hpl (fun e => HNE.out e.symm)).trans HB.out; have k0 := hb3.cell 0; have k1 := hb3.frozen 0; simp at k0 k1; obtain ⟨A3, cap3, rfl, _, _⟩ := own_form' hown; have HO3 := Lib.hid hown; have HS3 := Lib.hid hst; have HB3 := Lib.hid hb3; clear hown hst hg hb3)
        all_goals
          go_wp2_with fail
          go_end0
          have hsl : (W.bs ++ List.replicate k (0 : UInt8)).length = W.bs.length + k := by rw [List.length_append, List.length_replicate]
          have hcol := (HS3.out.old p hpl).trans HC.out
          have h4 := WrAt.setB (W := W) (l := W.bs ++ List.replicate k 0) HB3.out hcol (by decide) (by rw [hsl, bvs_app]; exact HO3.out)
          refine ⟨rfl, _, ?_, (HS1.out.drew.trans HS3.out).setCell (p := ⟨p, 0, none⟩) hcol _⟩
          rw [E1.out]
          rw [hsl] at h4
          exact h4
  · have e1 : W.pad n = W := by unfold Wr.pad; rw [if_pos he]
    have E1 := Lib.hid e1
    have HE := Lib.hid he
    clear e1 he
    go_enter Tryd.func26, Tryd.ntmps26
    go_wp2_with fail
    refine (xfail_old HW.out HE.out _).mono ?_
    rintro e w1 ⟨rfl, rfl⟩
    go_wp2_with fail
    first | go_end0 | refine bodyPost_ret (v := .tuple #[]) (by simp [results, Tryd.results26, go_sem]) rfl ?_
    exact ⟨rfl, o, by rw [E1.out]; exact HW.out, Step.refl _ _ _⟩
end
end Go.Proofs.YteoodiffilajgaaDoor
