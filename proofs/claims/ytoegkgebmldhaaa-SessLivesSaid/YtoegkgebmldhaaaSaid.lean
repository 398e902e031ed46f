/- A list of lists of texts in memory, each of a colour of its own. -/
import Derived.Test.YtoegkgebmldhaaaSessI
namespace Go.Proofs.Ytoegkgebmldhaaa
open Go.RowKit

theorem OwnS.set1 {o : Nat → Nat} {c : Nat} {w : World} {e : TypeId} {n : Nat} {A : Option Addr} {cap : Nat} {xs : List Value} (h : OwnS o c w e 1 (.slice A n cap) n xs) {j : Nat} (hj : j < n) (u : Value) {g : Nat} (hg : A = some ⟨g, 0, none⟩) : OwnS o c (w.setCell ⟨g, j, none⟩ u) e 1 (.slice A n cap) n (xs.set j u) := by
  subst hg
  obtain ⟨g', cur, hA, hb, hc, h1, h2, h3, h4⟩ := h.blk (by omega)
  injection hA with hA
  injection hA with hA
  subst hA
  refine OwnS.of_blk (hb.set_ j u) hc h1 h2 (by simpa using h3) ?_
  rw [← h4]
  apply List.ext_getElem?
  intro i
  rw [List.getElem?_take, List.getElem?_set, List.length_take, List.getElem?_take]
  simp only [Array.getElem?_toList, Array.getElem?_setIfInBounds, Array.length_toList]
  by_cases h5 : j = i
  · subst h5
    rw [if_pos rfl, if_pos rfl, if_pos (by omega), if_pos (by omega), if_pos (by omega)]
  · rw [if_neg h5, if_neg h5]

/-- the outer slice's cells are vs; the i-th inner one's texts are the i-th of S; colours 21 and 30 + i -/
structure Said (o : Nat → Nat) (w : World) (v : Value) (S : List (List ByteArray)) (vs : List Value) : Prop where
  len : vs.length = S.length
  outer : OwnS o 21 w 27 1 v S.length vs
  inner : ∀ (i : Nat) u D, vs[i]? = some u → S[i]? = some D → OwnS o (30 + i) w 9 1 u D.length (D.map Value.string)
section
variable {o o' : Nat → Nat} {w w' : World} {v : Value} {S : List (List ByteArray)} {vs : List Value}
theorem Said.step {C : Nat → Prop} (h : Said o w v S vs) (hs : Step o C w o' w') (h1 : ¬ C 21) (h2 : ∀ i, ¬ C (30 + i)) : Said o' w' v S vs :=
  ⟨h.len, h.outer.step hs h1, fun i u D hu hD => (h.inner i u D hu hD).step hs (h2 i)⟩
theorem Said.below_ (h : Said o w v S vs) (hb : Below w.heap.size w w') : Said o w' v S vs := ⟨h.len, h.outer.below_ hb, fun i u D hu hD => (h.inner i u D hu hD).below_ hb⟩
theorem Said.drewN (h : Said o w v S vs) (n : Nat) : Said o (w.drewN n) v S vs := ⟨h.len, h.outer, h.inner⟩
theorem Said.nil2 (w : World) (o : Nat → Nat) (hc : o w.heap.size = 21) (h : o' = o) : Said o' (w.alloc (.cells #[.slice none 0 0, .slice none 0 0] 27)) (.slice (some ⟨w.heap.size, 0, none⟩) 2 2) [[], []] [.slice none 0 0, .slice none 0 0] := by
  subst h
  refine ⟨rfl, OwnS.of_blk (Blk.new w _ _) hc (Nat.le_refl _) (by decide) rfl rfl, fun i u D hu hD => ?_⟩
  have : u = .slice none 0 0 ∧ D = [] := by
    match i with
    | 0 => simp at hu hD; exact ⟨hu.symm, hD⟩
    | 1 => simp at hu hD; exact ⟨hu.symm, hD⟩
    | i + 2 => simp at hu
  obtain ⟨rfl, rfl⟩ := this
  exact OwnS.nil _ _ _ _ _
/-- a new life's list -/
theorem Said.more {v' : Value} (h : Said o w v S vs) (ho : OwnS o' 21 w' 27 1 v' (S.length + 1) (vs ++ [.slice none 0 0])) (hs : Step o (only 21) w o' w') : Said o' w' v' (S ++ [[]]) (vs ++ [.slice none 0 0]) := by
  refine ⟨by simp [h.len], by simpa using ho, fun i u D hu hD => ?_⟩
  have hl := h.len
  by_cases hi : i < S.length
  · rw [List.getElem?_append_left (by omega)] at hu
    rw [List.getElem?_append_left hi] at hD
    exact (h.inner i u D hu hD).step hs (by unfold only; omega)
  · rw [List.getElem?_append_right (by omega)] at hu
    rw [List.getElem?_append_right (by omega)] at hD
    have h1 := (List.getElem?_eq_some_iff.1 hu).1
    simp at h1
    rw [show i - vs.length = 0 by omega] at hu
    rw [show i - S.length = 0 by omega] at hD
    simp at hu hD
    subst hu hD
    exact OwnS.nil _ _ _ _ _
/-- one list grows: its new slice is laid into the outer one's cell -/
theorem Said.grow {A : Option Addr} {n cap g i : Nat} {u' : Value} {D' : List ByteArray} {w5 : World} (h : Said o w (.slice A n cap) S vs) (hA : A = some ⟨g, 0, none⟩) (hi : i < S.length)
    (ho : OwnS o' (30 + i) w5 9 1 u' D'.length (D'.map Value.string)) (hs : Step o (only (30 + i)) w o' w5) (hu' : u'.ownBlock ≠ some g) :
    Said o' (w5.setCell ⟨g, i, none⟩ u') (.slice A n cap) (S.set i D') (vs.set i u') := by
  have hl := h.len
  have hn : n = S.length := by
    obtain ⟨A1, cap1, e, _, _⟩ := own_form h.outer
    injection e
  subst hn
  have h21 : OwnS o' 21 w5 27 1 (.slice A S.length cap) S.length vs := h.outer.step hs (by unfold only; omega)
  obtain ⟨cur, hgb⟩ : ∃ cur, Blk w5 g 27 cur := by
    obtain ⟨g', cur, hA', hb, _⟩ := h21.blk (by omega)
    rw [hA] at hA'
    injection hA' with e
    injection e with e
    subst e
    exact ⟨cur, hb⟩
  refine ⟨by simp [hl], by rw [List.length_set]; exact h21.set1 hi u' hA, fun k u D hu hD => ?_⟩
  by_cases hk : i = k
  · subst hk
    rw [List.getElem?_set_self (by omega)] at hu
    rw [List.getElem?_set_self (by omega)] at hD
    injection hu with hu
    injection hD with hD
    subst hu hD
    exact ho.setCell hu' _
  · rw [List.getElem?_set_ne hk] at hu hD
    refine ((h.inner k u D hu hD).step hs (by unfold only; omega)).setCell ?_ _
    exact own_blk_ne ((h.inner k u D hu hD).step hs (by unfold only; omega)) hgb (by decide)
theorem Said.at_ (h : Said o w v S vs) {i : Nat} (hi : i < S.length) : ∃ g cap A c u D, v = .slice (some ⟨g, 0, none⟩) S.length cap ∧ S.length ≤ cap ∧ g < w.heap.size ∧ o g = 21 ∧ vs[i]? = some u ∧ S[i]? = some D ∧ u = .slice A D.length c ∧ D.length ≤ c ∧ w.cell? ⟨g, i, none⟩ = some (.slice A D.length c) := by
  obtain ⟨A0, cap, rfl, hc, _⟩ := own_form h.outer
  obtain ⟨g, rfl, hg, hog⟩ := h.outer.addr (by omega)
  have hl := h.len
  have hu : vs[i]? = some vs[i] := List.getElem?_eq_getElem (by omega)
  have hD : S[i]? = some S[i] := List.getElem?_eq_getElem hi
  obtain ⟨A, c, e, h1, _⟩ := own_form (h.inner i _ _ hu hD)
  exact ⟨g, cap, A, c, vs[i], S[i], rfl, hc, hg, hog, hu, hD, e, h1, by rw [← e]; exact h.outer.at_ hu⟩
end
end Go.Proofs.Ytoegkgebmldhaaa
