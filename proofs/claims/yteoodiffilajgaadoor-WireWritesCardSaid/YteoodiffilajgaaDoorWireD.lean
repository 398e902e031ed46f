/- A writer of bytes: Pad, Bytes; of nil ones. -/
import Derived.Test.YteoodiffilajgaaDoorWireC
import Derived.Lib.BufferRead
namespace Go.Proofs.YteoodiffilajgaaDoor
open Go.RowKit
def i64' (k : Int) : Prop := -9223372036854775808 ≤ k ∧ k ≤ 9223372036854775807
section
variable {o : Nat → Nat} {c : Nat} {w : World} {p : Nat} {W : Wr}
set_option maxRecDepth 100000 in
set_option maxHeartbeats 1000000 in
theorem wpad_any (h : WrAt 27 o c w p W) (n : Int) (hn : i64' n) (hb : W.bs.length ≤ 1000000000) :
    Calls Tryd.prog 25 #[.pointer (some ⟨p, 0, none⟩), .int .i64 n] w fun r w' => r = .returned (.pointer (some ⟨p, 0, none⟩)) ∧ ∃ o', WrAt 27 o' c w' p (W.pad n) ∧ Step o (only c) w o' w' := by
  have HW := Lib.hid h
  obtain ⟨A, cap, c0, c1, f0, f1, hc1, hc2, hpl, HB, HC, HV⟩ := h.open_
  clear h
  obtain ⟨hn1, hn2⟩ := hn
  by_cases he : W.e = 0
  · by_cases h6 : 60000 < n
    · have e1 : W.pad n = { W with e := 1 } := by unfold Wr.pad; rw [if_neg (by simpa using he), if_pos h6]
      have E1 := Lib.hid e1
      have HE := Lib.hid he
      clear e1 he hn1 hn2
      go_enter Tryd.func25, Tryd.ntmps25
      go_wp2_with fail
      refine (fails_new HW.out HE.out 1 (by decide)).mono ?_
      rintro e w1 ⟨rfl, hw1, hs1⟩
      go_wp2_with fail
      go_ret
      exact ⟨rfl, o, by rw [E1.out]; exact hw1, hs1⟩
    · by_cases hl : n < W.bs.length
      · have e1 : W.pad n = { W with e := 2 } := by unfold Wr.pad; rw [if_neg (by simpa using he), if_neg h6, if_pos hl]
        have E1 := Lib.hid e1
        have HE := Lib.hid he
        clear e1 he hn1 hn2
        go_enter Tryd.func25, Tryd.ntmps25
        go_wp2_with fail
        refine (fails_new HW.out HE.out 2 (by decide)).mono ?_
        rintro e w1 ⟨rfl, hw1, hs1⟩
        go_wp2_with fail
        go_ret
        exact ⟨rfl, o, by rw [E1.out]; exact hw1, hs1⟩
      · obtain ⟨k, rfl⟩ : ∃ k : Nat, n = (W.bs.length : Int) + (k : Int) := ⟨n.toNat - W.bs.length, by omega⟩
        have e1 : W.pad ((W.bs.length : Int) + (k : Int)) = { W with bs := W.bs ++ List.replicate k 0 } := by
          unfold Wr.pad
          rw [if_neg (by simpa using he), if_neg h6, if_neg hl, show ((W.bs.length : Int) + (k : Int)).toNat - W.bs.length = k by omega]
        have E1 := Lib.hid e1
        have HE := Lib.hid he
        have hk : k ≤ 60000 := by omega
        clear e1 he hn1 hn2
        obtain ⟨i0, hi0, hz0, hz1, hz2⟩ := info_parts info_u8
        go_enter Tryd.func25, Tryd.ntmps25
        go_wp2_with fail
        refine (fails_ok HW.out HE.out).mono ?_
        rintro e w1 ⟨rfl, hw1, hs1⟩
        have HS1 := Lib.hid hs1
        clear hs1 c0 c1 f0 f1 hc1 hc2 hpl HB HC HV
        obtain ⟨A, cap, c0, c1, f0, f1, hc1, hc2, hpl, HB, HC, HV⟩ := hw1.open_
        have hne := own_blk_ne HV.out HB.out (by decide)
        have HNE := Lib.hid hne
        clear hw1 hne
        go_wp2_with fail
        have hwr : IntKind.i64.wrap ((W.bs.length : Int) + (k : Int) - (W.bs.length : Int)) = (k : Int) := by rw [IntKind.wrap_i64]; omega
        have hwr2 : IntKind.i64.wrap (k : Int) = (k : Int) := by rw [IntKind.wrap_i64]; omega
        go_region_law (refine step_append_zeros_S _ rfl (.tmp 27) (.tmp 34) 24 3 rfl 5 i0 .i64 Tryd.underlying24 Tryd.underlying3 hi0 hz0 hz1 hz2 (.slice A W.bs.length cap) W.bs.length (bvs W.bs) rfl HV.out.drew k rfl (by omega) ?_; intro v3 w3 hown hst hg; have hb3 : Blk w3 p 27 _ := (hg.block p hpl (fun e => HNE.out e.symm)).trans HB.out; have k0 := hb3.cell 0; have k1 := hb3.frozen 0; simp at k0 k1; obtain ⟨A3, cap3, rfl, _, _⟩ := own_form' hown; have HO3 := Lib.hid hown; have HS3 := Lib.hid hst; have HB3 := Lib.hid hb3; clear hown hst hg hb3)
        all_goals
          go_wp2_with fail
          go_ret
          have hsl : (W.bs ++ List.replicate k (0 : UInt8)).length = W.bs.length + k := by rw [List.length_append, List.length_replicate]
          have hcol := (HS3.out.old p hpl).trans HC.out
          have h4 := WrAt.setB (W := W) (l := W.bs ++ List.replicate k 0) HB3.out hcol (by decide) (by rw [hsl, bvs_app]; exact HO3.out)
          refine ⟨rfl, _, ?_, (HS1.out.drew.trans HS3.out).setCell (p := ⟨p, 0, none⟩) hcol _⟩
          rw [E1.out]
          rw [hsl] at h4
          exact h4
  · have e1 : W.pad n = W := by unfold Wr.pad; rw [if_pos he]
    have E1 := Lib.hid e1
    have HE := Lib.hid he
    clear e1 he hn1 hn2
    by_cases h6 : 60000 < n
    · go_enter Tryd.func25, Tryd.ntmps25
      go_wp2_with fail
      refine (fails_old HW.out HE.out _).mono ?_
      rintro e w1 ⟨rfl, rfl⟩
      go_wp2_with fail
      go_ret
      exact ⟨rfl, o, by rw [E1.out]; exact HW.out, Step.refl _ _ _⟩
    · by_cases hl : n < W.bs.length
      · go_enter Tryd.func25, Tryd.ntmps25
        go_wp2_with fail
        refine (fails_old HW.out HE.out _).mono ?_
        rintro e w1 ⟨rfl, rfl⟩
        go_wp2_with fail
        go_ret
        exact ⟨rfl, o, by rw [E1.out]; exact HW.out, Step.refl _ _ _⟩
      · go_enter Tryd.func25, Tryd.ntmps25
        go_wp2_with fail
        refine (fails_old HW.out HE.out _).mono ?_
        rintro e w1 ⟨rfl, rfl⟩
        go_wp2_with fail
        go_ret
        exact ⟨rfl, o, by rw [E1.out]; exact HW.out, Step.refl _ _ _⟩
def str (l : List UInt8) : ByteArray := ⟨l.toArray⟩
theorem conv_own {e : TypeId} {o : Nat → Nat} {c : Nat} {w : World} {A : Option Addr} {cap : Nat} {l : List UInt8} (src dst : TypeId) (hs : Tryd.prog.underlying src = some (.slice e)) (he : Tryd.prog.underlying e = some (.int .u8)) (hd : Tryd.prog.underlying dst = some .string)
    (h : OwnS o c w e 1 (.slice A l.length cap) l.length (bvs l)) : (convert src dst (.slice A l.length cap)).run Tryd.prog w = .ok (.string (str l)) w := by
  cases A with
  | none =>
    rcases h.1.2 with ⟨_, h0⟩ | ⟨g, cap', cur, hv, _⟩
    · have hl : l = [] := List.eq_nil_of_length_eq_zero h0
      subst hl
      exact Lib.run_convert_nil_bytes w src dst e cap hs he hd
    · simp at hv
  | some a =>
    refine run_convert_bytes_back w src dst e a cap l hs he hd (fun j hj => ?_)
    obtain ⟨ad, e1, hc⟩ := (Reads.of_own h.1).2 (by omega)
    obtain rfl : a = ad := Option.some.inj e1
    refine hc j _ ?_
    simp [bvs, bv, List.getElem?_eq_getElem hj]
set_option maxRecDepth 100000 in
set_option maxHeartbeats 1000000 in
theorem wbytes_any (h : WrAt 27 o c w p W) :
    Calls Tryd.prog 13 #[.pointer (some ⟨p, 0, none⟩)] w fun r w' => r = .returned (.tuple #[.string (if W.e = 0 then str W.bs else ⟨#[]⟩), .int .i64 W.e]) ∧ Below w.heap.size w w' := by
  have HW := Lib.hid h
  obtain ⟨A, cap, c0, c1, f0, f1, hc1, hc2, hpl, HB, HC, HV⟩ := h.open_
  clear h
  by_cases he : W.e = 0
  · rw [if_pos he]
    rw [he] at c1 ⊢
    have hcv := conv_own 24 9 Tryd.underlying24 Tryd.underlying5 Tryd.underlying9 HV.out
    have HCV := Lib.hid hcv
    clear he hc2 hcv
    go_enter Tryd.func13, Tryd.ntmps13
    go_upto_region 5 with (fail)
    have hcv := HCV.out
    go_wp2_with fail
    go_ret2
    exact ⟨rfl, Below.refl _ _⟩
  · rw [if_neg he]
    have t1 : (W.e != 0) = true := bne_iff_ne.2 he
    clear he
    go_enter Tryd.func13, Tryd.ntmps13
    go_wp2_with fail
    go_quiet (fail)
    go_wp2_with fail
    go_ret2
    exact ⟨rfl, ⟨rfl, rfl, rfl, Nat.le_refl _, fun _ _ => rfl⟩⟩
end
end Go.Proofs.YteoodiffilajgaaDoor
