/- MsgTells' book, first part: LentLocks, StaysLocks, copyLocks. -/
import Derived.Test.YtjmgefpdfhfhmaaGreatDoorMsgG
namespace Go.Proofs.YtjmgefpdfhfhmaaGreatDoor
open Go.RowKit

theorem lk_one (l : List Lk) : ∀ u ∈ lkcells l, u.oneCell' = true := by
  intro u hu
  simp only [lkcells, List.mem_flatMap, Lk.cells, List.mem_cons, List.not_mem_nil, or_false] at hu
  obtain ⟨x, _, rfl | rfl | rfl⟩ := hu <;> rfl
set_option maxRecDepth 100000 in
theorem copylocks_any (o : Nat → Nat) (c0 : Nat) (w : World) (A : Option Addr) (cap : Nat) (l : List Lk) (h : Reads w 3 A l.length (lkcells l)) (hl : l.length ≤ 1000) :
    Calls Tryz.prog 30 #[.slice A l.length cap] w fun e w' => ∃ A' cap', e = .returned (.slice A' l.length cap') ∧ OwnS (band o w.heap.size w'.heap.size c0) c0 w' 68 3 (.slice A' l.length cap') l.length (lkcells l) ∧ Below w.heap.size w w' := by
  obtain ⟨i0, hi, hz0, hz1, hz2⟩ := info_parts info_lock
  have HR := Lib.hid h
  clear h
  go_enter Tryz.func30, Tryz.ntmps30
  go_wp2_with (at_builtin; refine wpList_append_S _ rfl (.const (.slice none 0 0)) (.tmp 3) 24 rfl 68 i0 _ 3 24 Tryz.underlying24 hi hz0 hz1 hz2 rfl (by omega) (.slice none 0 0) 0 [] rfl (OwnS.nil o c0 _ _ _) A l.length cap (lkcells l) rfl HR.out (lk_one l) (by unfold maxLen; omega) (by omega) ?_; intro v' w1 hown hst hg hat; rw [Nat.zero_add, List.nil_append] at hown; obtain ⟨A2, cap2, rfl, _, _⟩ := own_form' hown; have HOW := Lib.hid hown; have HBL := Lib.hid ((Below.refl w.heap.size w).grown hg (Nat.le_refl _) (by simp [Value.ownBlock])); clear hown hst hg hat)
  go_ret
  exact ⟨A2, cap2, rfl, HOW.out, HBL.out⟩
set_option maxRecDepth 100000 in
set_option maxHeartbeats 1000000 in
theorem lentlocks_any (o : Nat → Nat) (c0 : Nat) (w : World) (A : Option Addr) (cap : Nat) (l : List Lk) (h : Reads w 3 A l.length (lkcells l)) (hl : l.length ≤ 1000) :
    Calls Tryz.prog 5 #[.slice A l.length cap] w fun e w' => ∃ A' cap' o', e = .returned (.slice A' l.length cap') ∧ l.length < cap' ∧ OwnS o' c0 w' 68 3 (.slice A' (l.length + 1) cap') (l.length + 1) (lkcells (l ++ [⟨0, 0, -77⟩])) ∧ Below w.heap.size w w' ∧ (∀ g, g < w.heap.size → o' g = o g) := by
  obtain ⟨i0, hi, hz0, hz1, hz2⟩ := info_parts info_lock
  have HR := Lib.hid h
  clear h
  go_enter Tryz.func5, Tryz.ntmps5
  go_wp2_with (first
    | (at_builtin; refine wpList_append_S _ rfl (.const (.slice none 0 0)) (.tmp 3) 24 rfl 68 i0 _ 3 24 Tryz.underlying24 hi hz0 hz1 hz2 rfl (by omega) (.slice none 0 0) 0 [] rfl (OwnS.nil o c0 _ _ _) A l.length cap (lkcells l) rfl HR.out (lk_one l) (by unfold maxLen; omega) (by omega) ?_; intro v' w1 hown hst hg hat; rw [Nat.zero_add, List.nil_append] at hown; obtain ⟨A2, cap2, rfl, _, _⟩ := own_form' hown; have HOW := Lib.hid hown; have HAT := Lib.hid hat; have HBL := Lib.hid ((Below.refl w.heap.size w).grown hg (Nat.le_refl _) (by simp [Value.ownBlock])); clear hown hst hg hat)
    | (at_builtin; refine wpList_append_S _ rfl (.tmp 4) (.tmp 6) 24 rfl 68 i0 _ 3 24 Tryz.underlying24 hi hz0 hz1 hz2 rfl (by omega) (.slice A2 l.length cap2) l.length (lkcells l) rfl (HOW.out.alloc (.cells #[.int .i64 0, .int .i64 0, .int .i64 (-77)] 68)) _ 1 1 [.int .i64 0, .int .i64 0, .int .i64 (-77)] rfl (Reads.newAt _ 68 3 1 _ _ _ rfl rfl rfl) (by simp [Value.oneCell']) (by unfold maxLen; omega) (by omega) ?_; intro v'' w2 hown2 hst2 hg2 hat2; obtain ⟨A3, cap3, rfl, hc3, hc4⟩ := own_form' hown2; have HOW2 := Lib.hid hown2; have HST2 := Lib.hid hst2; have HG2 := Lib.hid hg2; clear hown2 hst2 hg2 hat2))
  go_ret
  have hb1 := HBL.out.alloc HBL.out.size (.cells #[.int .i64 0, .int .i64 0, .int .i64 (-77)] 68)
  have how := HOW2.out
  rw [← show lkcells (l ++ [⟨0, 0, -77⟩]) = lkcells l ++ [.int .i64 0, .int .i64 0, .int .i64 (-77)] by simp [lkcells, Lk.cells]] at how
  refine ⟨A3, cap3, _, rfl, hc3, how, hb1.grown HG2.out hb1.size ?_, ?_⟩
  · intro k hk
    rcases HAT.out with h | h
    · rw [h] at hk
      simp [Value.ownBlock] at hk
    · rw [h] at hk
      injection hk with hk
      omega
  · intro g hg
    have h1 := HBL.out.size
    rw [band_lt (Nat.lt_of_lt_of_le hg (Nat.le_trans h1 (by simp))), band_lt hg]
theorem Reads.lent {o : Nat → Nat} {c0 : Nat} {w : World} {A : Option Addr} {cap : Nat} {l : List Lk} (h : OwnS o c0 w 68 3 (.slice A (l.length + 1) cap) (l.length + 1) (lkcells (l ++ [⟨0, 0, -77⟩]))) : Reads w 3 A (l.length + 1) (lkcells (l ++ [⟨0, 0, -77⟩])) ∧ Reads w 3 A l.length (lkcells l) := by
  have h1 := Reads.of_own h.1
  refine ⟨h1, ?_⟩
  have h2 := h1.take (k := l.length) (by omega)
  have e : (lkcells (l ++ [⟨0, 0, -77⟩])).take (l.length * 3) = lkcells l := by
    have e1 : (lkcells l).length = l.length * 3 := by
      clear h h1 h2
      induction l with
      | nil => rfl
      | cons a l ih => simp [lkcells, Lk.cells] at ih ⊢; omega
    rw [show lkcells (l ++ [⟨0, 0, -77⟩]) = lkcells l ++ [.int .i64 0, .int .i64 0, .int .i64 (-77)] by simp [lkcells, Lk.cells], List.take_append_of_le_length (by omega), List.take_of_length_le (by omega)]
  rwa [e] at h2
set_option maxRecDepth 100000 in
set_option maxHeartbeats 1000000 in
theorem stayslocks_any (w : World) (A B : Option Addr) (cap cb : Nat) (l : List Lk) (h : Reads w 3 A (l.length + 1) (lkcells (l ++ [⟨0, 0, -77⟩]))) (h2 : Reads w 3 A l.length (lkcells l)) (hb : Reads w 3 B l.length (lkcells l)) (hc : l.length < cap) (hl : l.length ≤ 1000) :
    Calls Tryz.prog 16 #[.slice A l.length cap, .slice B l.length cb] w fun e w' => e = .returned (.bool true) ∧ ∃ n, w' = w.drewN n := by
  have HA := Lib.hid h2
  have HB := Lib.hid hb
  have hlen : (l ++ [(⟨0, 0, -77⟩ : Lk)]).length = l.length + 1 := by simp
  obtain ⟨ad, rfl, c0, c1, c2⟩ := Reads.lock (l := l ++ [⟨0, 0, -77⟩]) (by rw [hlen]; exact h) (k := l.length) (y := ⟨0, 0, -77⟩) (by simp)
  have C2 := Lib.hid c2
  clear h h2 hb hlen c0 c1 c2
  have hcI : (l.length : Int) + 1 ≤ (cap : Int) := by omega
  go_enter Tryz.func16, Tryz.ntmps16
  go_wp2_with fail
  refine (samelocks_yes w (some ad) B cap cb l HA.out HB.out (by omega)).mono ?_
  rintro e w1 ⟨rfl, n, rfl⟩
  have c2 := C2.out
  go_wp2_with fail
  go_ret
  exact ⟨rfl, n, rfl⟩
end Go.Proofs.YtjmgefpdfhfhmaaGreatDoor
