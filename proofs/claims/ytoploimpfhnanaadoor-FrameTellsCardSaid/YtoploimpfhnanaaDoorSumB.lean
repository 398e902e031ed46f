/- Texts sealed with their sums: four, Seal, Open; the document's. -/
import Derived.Test.YtoploimpfhnanaaDoorSumA
import Derived.Test.YtoploimpfhnanaaDoorMsgB
namespace Go.Proofs.YtoploimpfhnanaaDoor
open Go.RowKit

theorem four_any (v : Nat) (hv : v < 4294967296) (w : World) : Calls Tryd.prog 85 #[.int .u32 v] w fun e w' => e = .returned (.string (str (four v))) ∧ Below w.heap.size w w' := by
  obtain ⟨o1, h1, _⟩ := Wg.start (w0 := w) (Below.refl w.heap.size w)
  have H1 := Lib.hid h1
  have HN := Lib.hid (show numOk v 4 from ⟨by omega, by omega, by simpa using hv⟩)
  have H64 := Lib.hid (show v < 18446744073709551616 by omega)
  clear h1
  go_enter Tryd.func85, Tryd.ntmps85
  go_wp2_with fail
  refine (wnum_ok H1.out v 4 HN.out H64.out (by simp)).mono ?_
  rintro e w2 ⟨rfl, o2, h2, s2⟩
  have H2 := Lib.hid h2
  clear h2 s2
  go_wp2_with fail
  refine (wbytes_ok H2.out).mono ?_
  rintro e w3 ⟨rfl, h3⟩
  have H3 := Lib.hid h3
  clear h3
  rw [show ([] : List UInt8) ++ le v (4 : Int).toNat = four v from rfl]
  go_wp2_with fail
  go_ret
  exact ⟨rfl, H3.out.env.low⟩
theorem of_val (s : ByteArray) (v : Nat) (hv : sumOf s.data.toList = v) (w : World) (g : Nat) (hc : w.cell? ⟨g, 0, none⟩ = some (.string s)) (hs : s.size ≤ maxLen) :
    Calls Tryd.prog 86 #[.slice (some ⟨g, 0, none⟩) 1 1] w fun e w' => e = .returned (.int .u32 (v : Int)) ∧ w = w' := hv ▸ of_any s w g hc hs
theorem below_drew' {B : Nat} {w w1 : World} (h : Below B w w1) : Below B w w1.drew := ⟨h.os, h.tape, h.output, h.size, h.block⟩
theorem str_append (l m : List UInt8) : str l ++ str m = str (l ++ m) := by
  refine str_ext ?_
  rw [ByteArray.data_append]
  simp [str]
theorem seal_any (s : ByteArray) (hs : s.size ≤ 1000000000) (w : World) : Calls Tryd.prog 59 #[.string s] w fun e w' => e = .returned (.string (str (sealL s.data.toList))) ∧ Below w.heap.size w w' := by
  have HSL := Lib.hid (sumOf_lt s.data.toList)
  have h4 : (str (four (sumOf s.data.toList))).size = 4 := by rw [str_size]; simp [four, le_len]
  have HE := Lib.hid (show str (four (sumOf s.data.toList)) ++ s = str (sealL s.data.toList) by
    have := str_append (four (sumOf s.data.toList)) s.data.toList
    rwa [str_of] at this)
  go_enter Tryd.func59, Tryd.ntmps59
  go_wp2_with fail
  refine (of_any s _ w.heap.size ((Blk.new w 9 #[.string s]).cell 0) (by unfold maxLen; omega)).mono ?_
  rintro e w2 ⟨rfl, rfl⟩
  go_wp2_with fail
  refine (four_any (sumOf s.data.toList) HSL.out _).mono ?_
  rintro e w3 ⟨rfl, hb3⟩
  have HB3 := Lib.hid (((Below.refl w.heap.size w).alloc (Nat.le_refl _) (.cells #[.string s] 9)).trans (hb3.mono (by simp)))
  clear hb3
  go_wp2_with fail
  go_ret
  exact ⟨by rw [← HE.out]; rfl, HB3.out⟩
theorem seal_rest (b : ByteArray) : (b.extract 4 b.size).data.toList = b.data.toList.drop 4 := by
  rw [extract_list, show b.data.toList.take b.size = b.data.toList from List.take_of_length_le (Nat.le_refl b.data.toList.length)]
theorem seal_first (b : ByteArray) : b.extract 0 4 = str (b.data.toList.take 4) := by
  refine str_ext ?_
  rw [extract_list, str_list, List.drop_zero]
theorem str_inj {l m : List UInt8} (h : str l = str m) : l = m := by
  have := congrArg (fun b : ByteArray => b.data.toList) h
  simpa [str_list] using this
def openS (b : ByteArray) : ByteArray := if openE b.data.toList = 0 then b.extract 4 b.size else ⟨#[]⟩
set_option maxRecDepth 100000 in
set_option maxHeartbeats 1000000 in
theorem open_any (b : ByteArray) (hs : b.size ≤ 1000000000) (w : World) : Calls Tryd.prog 64 #[.string b] w fun e w' => e = .returned (.tuple #[.string (openS b), .int .i64 (openE b.data.toList)]) ∧ Below w.heap.size w w' := by
  have hlen : b.data.toList.length = b.size := rfl
  by_cases h4 : b.size < 4
  · have e1 : openE b.data.toList = 5 := if_pos (by omega)
    have e2 : openS b = ⟨#[]⟩ := if_neg (by rw [e1]; decide)
    rw [e1, e2]
    have h4I : (b.size : Int) < 4 := by omega
    clear e1 e2 hlen h4
    go_enter Tryd.func64, Tryd.ntmps64
    go_wp2_with fail
    go_ret2
    exact ⟨rfl, Below.refl _ _⟩
  · have h4I : ¬ (b.size : Int) < 4 := by omega
    have hr : (b.extract 4 b.size).size ≤ maxLen := by rw [ByteArray.size_extract]; unfold maxLen; omega
    have HR := Lib.hid hr
    have hsl := sumOf_lt (b.extract 4 b.size).data.toList
    obtain ⟨v, hv⟩ : ∃ v, sumOf (b.extract 4 b.size).data.toList = v := ⟨_, rfl⟩
    rw [hv] at hsl
    have HSL := Lib.hid hsl
    have HV := Lib.hid hv
    have h4c : 4 ≤ b.size := by omega
    have h4d : (4 : Int) ≤ (b.size : Int) := by omega
    rw [seal_rest] at hv
    clear hr hsl hlen
    by_cases hq : four (sumOf (b.data.toList.drop 4)) = b.data.toList.take 4
    · have e1 : openE b.data.toList = 0 := by unfold openE; rw [if_neg (show ¬ b.data.toList.length < 4 from h4), if_pos hq]
      have e2 : openS b = b.extract 4 b.size := if_pos e1
      rw [e1, e2]
      have HQ := Lib.hid (show str (four v) = b.extract 0 4 by rw [← hv, hq, seal_first])
      clear e1 e2 hq h4 hv
      go_enter Tryd.func64, Tryd.ntmps64
      go_upto_region 3 with (fail)
      have HC := Lib.hid (show (w.alloc (.cells #[.string (b.extract 4 b.size)] 9)).drew.cell? ⟨w.heap.size, 0, none⟩ = some (.string (b.extract 4 b.size)) from (Blk.new w 9 #[.string (b.extract 4 b.size)]).cell 0)
      go_region_held3 (fun _ => True) (first | exact trivial)
        (first | (go_at_call 86; ((with_reducible refine (of_val (b.extract 4 b.size) v HV.out _ _ HC.out HR.out).mono ?_); rintro e w1 ⟨rfl, rfl⟩)) | (go_at_call 85; ((with_reducible refine (four_any v HSL.out _).mono ?_); rintro e w2 ⟨rfl, hb2⟩)))
      have HB2 := Lib.hid ((below_drew' ((Below.refl w.heap.size w).alloc (Nat.le_refl _) (.cells #[.string (b.extract 4 b.size)] 9))).trans (hb2.mono (by show w.heap.size ≤ (w.alloc (.cells #[.string (b.extract 4 b.size)] 9)).heap.size; simp)))
      have HX := Lib.hid (show (b.extract 4 b.size).size ≤ 281474976710656 by rw [ByteArray.size_extract]; omega)
      rw [HQ.out]
      clear hb2
      rw [beq_self_eq_true (b.extract 0 4).toList]
      go_wp2_with fail
      refine (clone_any (b.extract 4 b.size) _ HX.out).mono ?_
      rintro e w3 ⟨rfl, hb3⟩
      go_wp2_with fail
      go_ret2
      exact ⟨rfl, HB2.out.trans (hb3.mono HB2.out.size)⟩
    · have e1 : openE b.data.toList = 6 := by unfold openE; rw [if_neg (show ¬ b.data.toList.length < 4 from h4), if_neg hq]
      have e2 : openS b = ⟨#[]⟩ := if_neg (by rw [e1]; decide)
      rw [e1, e2]
      have HQ := str_neq (show b.extract 0 4 ≠ str (four v) from fun e => hq (by
        rw [seal_first, ← hv] at e
        exact (str_inj e).symm))
      have HQ2 := Lib.hid HQ
      clear e1 e2 hq h4 HQ hv
      go_enter Tryd.func64, Tryd.ntmps64
      go_upto_region 3 with (fail)
      have HC := Lib.hid (show (w.alloc (.cells #[.string (b.extract 4 b.size)] 9)).drew.cell? ⟨w.heap.size, 0, none⟩ = some (.string (b.extract 4 b.size)) from (Blk.new w 9 #[.string (b.extract 4 b.size)]).cell 0)
      go_region_held3 (fun _ => True) (first | exact trivial)
        (first | (go_at_call 86; ((with_reducible refine (of_val (b.extract 4 b.size) v HV.out _ _ HC.out HR.out).mono ?_); rintro e w1 ⟨rfl, rfl⟩)) | (go_at_call 85; ((with_reducible refine (four_any v HSL.out _).mono ?_); rintro e w2 ⟨rfl, hb2⟩)))
      have HB2 := Lib.hid ((below_drew' ((Below.refl w.heap.size w).alloc (Nat.le_refl _) (.cells #[.string (b.extract 4 b.size)] 9))).trans (hb2.mono (by show w.heap.size ≤ (w.alloc (.cells #[.string (b.extract 4 b.size)] 9)).heap.size; simp)))
      have HX := Lib.hid (show (b.extract 4 b.size).size ≤ 281474976710656 by rw [ByteArray.size_extract]; omega)
      have HQ := HQ2.out
      clear hb2
      generalize str (four v) = S at HQ ⊢
      generalize b.extract 0 4 = T at HQ ⊢
      rw [HQ]
      clear HQ
      go_wp2_with fail
      go_ret2
      exact ⟨rfl, HB2.out⟩
end Go.Proofs.YtoploimpfhnanaaDoor
