/- The ring's Drop, Pop, Clear and New. -/
import Derived.Test.YtoploimpfhnanaaDoorRingB
namespace Go.Proofs.YtoploimpfhnanaaDoor
open Go.RowKit
set_option maxHeartbeats 400000 in
theorem drop_zero {o : Nat → Nat} {c : Nat} {w : World} {r : Nat} {most : Int} {l : List Wt} (h : RingAt o c w r most l) :
    Calls Tryd.prog 97 #[.pointer (some ⟨r, 0, none⟩), .int .i64 0] w fun e w' => e = .returned (.int .i64 0) ∧ w = w' := by
  have HR := Lib.hid h
  clear h
  go_enter Tryd.func97, Tryd.ntmps97
  go_wp2_with (go_at_call 95; refine (len_any HR.out).mono ?_; rintro e w' ⟨rfl, rfl⟩)
  all_goals go_ret
  all_goals exact ⟨by simp <;> omega, rfl⟩
theorem wcells_drop : ∀ (l : List Wt) (k : Nat), wcells (l.drop k) = (wcells l).drop (k * 4)
  | l, 0 => by simp
  | [], k + 1 => by simp [wcells]
  | y :: l, k + 1 => by
    rw [show (k + 1) * 4 = k * 4 + 1 + 1 + 1 + 1 from by omega]
    simp only [List.drop_succ_cons, wcells_cons]
    exact wcells_drop l k
set_option maxRecDepth 100000 in
set_option maxHeartbeats 400000 in
theorem drop_some {o : Nat → Nat} {c : Nat} {w : World} {r : Nat} {most : Int} {l : List Wt} (h : RingAt o c w r most l) (hm : l.length ≤ 100000) (k : Nat) (hk : 0 < k) (hk2 : k ≤ l.length) :
    Calls Tryd.prog 97 #[.pointer (some ⟨r, 0, none⟩), .int .i64 k] w fun e w' => e = .returned (.int .i64 k) ∧ ∃ o', RingAt o' c w' r most (l.drop k) ∧ Step o (only c) w o' w' := by
  have HR := Lib.hid h
  obtain ⟨A0, cap0, h0, h1, hfz, hc1, hc2, HB, HV, HO, HNE⟩ := h.open_
  clear h
  obtain ⟨i0, hi, hz0, hz1, hz2⟩ := info_parts info_w
  have hrl := HB.out.lt
  have hkI : (0 : Int) < (k : Int) := by omega
  have hkI2 : (k : Int) ≤ (l.length : Int) := by omega
  have hcapI : (k : Int) ≤ (cap0 : Int) := by omega
  have hmax : (cap0 : Int) ≤ 9223372036854775807 := by omega
  go_enter Tryd.func97, Tryd.ntmps97
  go_wp2_with (first | (go_at_call 95; refine (len_any HR.out).mono ?_; rintro e w' ⟨rfl, rfl⟩) | (at_builtin; refine wpList_append_S _ rfl (.const (.slice none 0 0)) (.tmp 18) 127 rfl 122 i0 _ 4 40 Tryd.underlying127 hi hz0 hz1 hz2 rfl (by omega) (.slice none 0 0) 0 [] rfl (OwnS.nil o c _ _ _) _ (l.length - k) (cap0 - k) ((wcells l).drop (k * 4)) rfl (Reads.cut (Reads.of_own HV.out.1) hk2 hc1) (fun u hu => wcells_one l u (List.mem_of_mem_drop hu)) (by unfold maxLen; omega) (by omega) ?_; intro v' w1 hown hk' hg hat; have hbl : Below w.heap.size w w1 := ⟨hg.os, hg.tape, hg.output, hg.size, fun k hk => hg.block k hk (by simp [Value.ownBlock])⟩; simp only [Nat.zero_add, List.nil_append] at hown; obtain ⟨A1, cap1, rfl, _, _⟩ := own_form hown; have HOWN := Lib.hid hown; have HBL := Lib.hid hbl; have HB1 := Lib.hid (HB.out.below_ hbl); have k0 := HB1.out.cell 0; have k1 := HB1.out.frozen 0; simp at k0 k1; clear hown hk' hg hat hbl))
  all_goals
    go_ret
    have hor : (band o w.heap.size w1.heap.size c) r = c := (band_lt HB.out.lt).trans HO.out
    refine ⟨rfl, _, ⟨_, HB1.out.set_ 0 _, hor, ?_⟩, (Step.of_below_band o (only c) c HBL.out).setCell (p := ⟨r, 0, none⟩) hor _⟩
    rw [wcells_drop, List.length_drop]
    exact HOWN.out.setCell (p := ⟨r, 0, none⟩) (own_blk_ne HOWN.out HB1.out (by decide)) _
theorem drop_one {o : Nat → Nat} {c : Nat} {w : World} {r : Nat} {most : Int} {x : Wt} {l : List Wt} (h : RingAt o c w r most (x :: l)) (hm : (x :: l).length ≤ 100000) :
    Calls Tryd.prog 97 #[.pointer (some ⟨r, 0, none⟩), .int .i64 1] w fun e w' => e = .returned (.int .i64 1) ∧ ∃ o', RingAt o' c w' r most l ∧ Step o (only c) w o' w' :=
  drop_some h hm 1 (by omega) (by simp)
set_option maxHeartbeats 400000 in
theorem pop_some {o : Nat → Nat} {c : Nat} {w : World} {r : Nat} {most : Int} {x : Wt} {l : List Wt} (h : RingAt o c w r most (x :: l)) (hm : (x :: l).length ≤ 100000) (hf : Fut o w) (hc0 : c ≠ 0) :
    Calls Tryd.prog 84 #[.pointer (some ⟨r, 0, none⟩)] w fun e w' => e = .returned (.tuple #[x.agg, .bool true]) ∧ ∃ o', RingAt o' c w' r most l ∧ Step o (only c) w o' w' := by
  have HR := Lib.hid h
  clear h
  go_enter Tryd.func84, Tryd.ntmps84
  go_wp2_with (first | (go_at_call 83; refine (peek_some (HR.out.alloc _)).mono ?_; rintro e w1 ⟨rfl, hb1⟩; unfold Wt.agg; have hs1 : w.heap.size < w1.heap.size := by (have := hb1.size; simp at this; omega)) | (go_at_call 97; refine (drop_one (((HR.out.alloc _).below_ hb1).alloc _) hm).mono ?_; rintro e w2 ⟨rfl, o2, hr2, hst⟩; have b1 := (Blk.new w1 122 #[.int .i64 x.seq, .string x.data, .bool x.sent, .int .i64 x.age]).step hst (by rw [hf _ (by omega)]; exact fun e => hc0 e.symm); have b0 := (((Blk.new w 122 #[.int .i64 0, .string ⟨#[]⟩, .bool false, .int .i64 0]).below_ hb1).alloc _).step hst (by rw [hf _ (by omega)]; exact fun e => hc0 e.symm); have q0 := b1.cell 0; have q1 := b1.cell 1; have q2 := b1.cell 2; have q3 := b1.cell 3; have p0 := b0.cell 0; have p1 := b0.cell 1; have p2 := b0.cell 2; have p3 := b0.cell 3; have f0 := b0.frozen 0; have f1 := b0.frozen 1; have f2 := b0.frozen 2; have f3 := b0.frozen 3; simp at q0 q1 q2 q3 p0 p1 p2 p3; have HST := Lib.hid hst; clear b1 b0 hst))
  refine bodyPost_ret (v := .tuple #[x.agg, .bool true]) (by simp [results, Tryd.results84, go_sem, Wt.agg, p0, p1, p2, p3]) rfl ⟨rfl, o2, ?_, ?_⟩
  · have ho : o2 w.heap.size = 0 := by rw [HST.out.old _ (by simp; omega)]; exact hf.at_
    exact hr2.step (((((Step.refl o2 (only 0) w2).setCell (p := ⟨w.heap.size, 0, none⟩) ho _).setCell (p := ⟨w.heap.size, 1, none⟩) ho _).setCell (p := ⟨w.heap.size, 2, none⟩) ho _).setCell (p := ⟨w.heap.size, 3, none⟩) ho _) hc0
  · have s1 : Step o (only c) w o w1 := ((Step.refl o (only c) w).alloc _).trans (Step.of_below o (only c) hb1)
    exact (((((s1.alloc _).trans HST.out).setNew (p := ⟨w.heap.size, 0, none⟩) (Nat.le_refl _) _).setNew (p := ⟨w.heap.size, 1, none⟩) (Nat.le_refl _) _).setNew (p := ⟨w.heap.size, 2, none⟩) (Nat.le_refl _) _).setNew (p := ⟨w.heap.size, 3, none⟩) (Nat.le_refl _) _
set_option maxHeartbeats 400000 in
theorem clear_any {o : Nat → Nat} {c : Nat} {w : World} {r : Nat} {most : Int} {l : List Wt} (h : RingAt o c w r most l) (hm : l.length ≤ 100000) :
    Calls Tryd.prog 96 #[.pointer (some ⟨r, 0, none⟩)] w fun e w' => e = .returned (.int .i64 l.length) ∧ ∃ o', RingAt o' c w' r most [] ∧ Step o (only c) w o' w' := by
  have HR := Lib.hid h
  clear h
  by_cases h0 : l = []
  · subst h0
    go_enter Tryd.func96, Tryd.ntmps96
    go_wp2_with (first | (go_at_call 95; refine (len_any HR.out).mono ?_; rintro e w' ⟨rfl, rfl⟩) | (go_at_call 97; refine (drop_zero HR.out).mono ?_; rintro e w' ⟨rfl, rfl⟩))
    go_ret
    exact ⟨rfl, _, HR.out, Step.refl _ _ _⟩
  · have hpos : 0 < l.length := List.length_pos_iff.2 h0
    clear h0
    go_enter Tryd.func96, Tryd.ntmps96
    go_wp2_with (first | (go_at_call 95; refine (len_any HR.out).mono ?_; rintro e w' ⟨rfl, rfl⟩) | (go_at_call 97; refine (drop_some HR.out hm l.length hpos (Nat.le_refl _)).mono ?_; rintro e w' ⟨rfl, o1, hr1, hs1⟩))
    go_ret
    exact ⟨rfl, o1, by simpa using hr1, hs1⟩
set_option maxHeartbeats 400000 in
theorem rnew_any (o : Nat → Nat) (c : Nat) (n : Int) (h0 : 0 ≤ n) (h1 : n ≤ 100000) (w : World) :
    Calls Tryd.prog 75 #[.int .i64 n] w fun e w' => e = .returned (.pointer (some ⟨w.heap.size, 0, none⟩)) ∧ RingAt (band o w.heap.size w'.heap.size c) c w' w.heap.size n [] ∧ Below w.heap.size w w' := by
  go_enter Tryd.func75, Tryd.ntmps75
  go_wp2_with (go_at_call 94; refine (room_any _ _).mono ?_; rintro e w' ⟨rfl, rfl⟩)
  go_ret
  have e1 : min (max n 0) 100000 = n := by omega
  refine ⟨rfl, ⟨_, ?_, band_in (Nat.le_refl _) (by simp), OwnS.nil _ _ _ _ _⟩, (Below.refl _ _).alloc (Nat.le_refl _) _⟩
  rw [e1]
  exact Blk.new _ _ _
end Go.Proofs.YtoploimpfhnanaaDoor
