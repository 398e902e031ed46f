/- The ring's List and Peek. -/
import Derived.Test.YtoploimpfhnanaaDoorRingA
namespace Go.Proofs.YtoploimpfhnanaaDoor
open Go.RowKit
def Wt.zero : Wt := ⟨0, ⟨#[]⟩, false, 0⟩
set_option maxHeartbeats 400000 in
theorem list_any {o : Nat → Nat} {c : Nat} {w : World} {r : Nat} {most : Int} {l : List Wt} (d : Nat) (h : RingAt o c w r most l) (hm : l.length ≤ 100000) :
    Calls Tryd.prog 79 #[.pointer (some ⟨r, 0, none⟩)] w fun e w' => ∃ A cap, e = .returned (.slice A l.length cap) ∧ OwnS (band o w.heap.size w'.heap.size d) d w' 122 4 (.slice A l.length cap) l.length (wcells l) ∧ Below w.heap.size w w' := by
  obtain ⟨A0, cap0, h0, h1, hfz, hc1, hc2, HB, HV, HO, HNE⟩ := h.open_
  clear h
  obtain ⟨i0, hi, hz0, hz1, hz2⟩ := info_parts info_w
  go_enter Tryd.func79, Tryd.ntmps79
  go_wp2_with (at_builtin; refine wpList_append_S _ rfl (.const (.slice none 0 0)) (.tmp 8) 127 rfl 122 i0 _ 4 40 Tryd.underlying127 hi hz0 hz1 hz2 rfl (by omega) (.slice none 0 0) 0 [] rfl (OwnS.nil o d _ _ _) A0 l.length cap0 (wcells l) rfl (Reads.of_own HV.out.1) (wcells_one l) (by unfold maxLen; omega) (by omega) ?_; intro v' w1 hown hk hg hat; have hbl : Below w.heap.size w w1 := ⟨hg.os, hg.tape, hg.output, hg.size, fun k hk => hg.block k hk (by simp [Value.ownBlock])⟩; simp only [Nat.zero_add, List.nil_append] at hown; obtain ⟨A1, cap1, rfl, _, _⟩ := own_form hown; have HOWN := Lib.hid hown; clear hown hk hg hat)
  go_ret
  exact ⟨A1, cap1, rfl, HOWN.out, hbl⟩

set_option maxHeartbeats 400000 in
theorem peek_none {o : Nat → Nat} {c : Nat} {w : World} {r : Nat} {most : Int} (h : RingAt o c w r most []) :
    Calls Tryd.prog 83 #[.pointer (some ⟨r, 0, none⟩), .int .i64 0] w fun e w' => e = .returned (.tuple #[Wt.zero.agg, .bool false]) ∧ Below w.heap.size w w' := by
  have HR := Lib.hid h
  clear h
  go_enter Tryd.func83, Tryd.ntmps83
  go_wp2_with (go_at_call 95; refine (len_any (HR.out.alloc _)).mono ?_; rintro e w' ⟨rfl, rfl⟩)
  refine bodyPost_ret (v := .tuple #[Wt.zero.agg, .bool false]) (by simp [results, Tryd.results83, go_sem, Wt.zero, Wt.agg]) rfl ⟨rfl, ?_⟩
  exact ((Below.refl _ _).alloc (Nat.le_refl _) _).alloc (by simp) _
set_option maxHeartbeats 400000 in
theorem peek_some {o : Nat → Nat} {c : Nat} {w : World} {r : Nat} {most : Int} {x : Wt} {l : List Wt} (h : RingAt o c w r most (x :: l)) :
    Calls Tryd.prog 83 #[.pointer (some ⟨r, 0, none⟩), .int .i64 0] w fun e w' => e = .returned (.tuple #[x.agg, .bool true]) ∧ Below w.heap.size w w' := by
  have HR := Lib.hid h
  obtain ⟨A0, cap0, h0, h1, hfz, hc1, hc2, HB, HV, HO, HNE⟩ := h.open_
  clear h
  have hlen : 0 < (x :: l).length := by simp
  have hrl := HB.out.lt
  obtain ⟨g, rfl, hgl, hgc⟩ := HV.out.addr hlen
  have HGC := Lib.hid hgc
  clear hgc
  have q0 := HV.out.at_ (j := 0) (u := .int .i64 x.seq) rfl
  have q1 := HV.out.at_ (j := 1) (u := .string x.data) rfl
  have q2 := HV.out.at_ (j := 2) (u := .bool x.sent) rfl
  have q3 := HV.out.at_ (j := 3) (u := .int .i64 x.age) rfl
  go_enter Tryd.func83, Tryd.ntmps83
  go_wp2_with (go_at_call 95; refine (len_any (HR.out.alloc _)).mono ?_; rintro e w' ⟨rfl, rfl⟩)
  refine bodyPost_ret (v := .tuple #[x.agg, .bool true]) (by simp [results, Tryd.results83, go_sem, Wt.agg]) rfl ⟨rfl, ?_⟩
  exact (Below.refl _ _).alloc (Nat.le_refl _) _
end Go.Proofs.YtoploimpfhnanaaDoor
