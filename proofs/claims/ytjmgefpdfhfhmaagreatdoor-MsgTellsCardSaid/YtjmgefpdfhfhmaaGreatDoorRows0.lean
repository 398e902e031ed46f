/- A slice of structs of a fixed number of cells, as a list: where each element's cells lie; two strings that differ. -/
import Derived.Test.YtjmgefpdfhfhmaaGreatDoorBase
namespace Go.Proofs.YtjmgefpdfhfhmaaGreatDoor
open Go.RowKit

theorem flat_len {α : Type} {f : α → List Value} {s : Nat} (hs : ∀ x, (f x).length = s) (l : List α) : (l.flatMap f).length = l.length * s := by
  induction l with
  | nil => simp
  | cons x r ih => rw [List.flatMap_cons, List.length_append, ih, hs, List.length_cons, Nat.add_mul]; omega
theorem flat_at {α : Type} {f : α → List Value} {s : Nat} (hs : ∀ x, (f x).length = s) {l : List α} {k : Nat} {y : α} (h : l[k]? = some y) {j : Nat} (hj : j < s) : (l.flatMap f)[k * s + j]? = (f y)[j]? := by
  induction l generalizing k with
  | nil => simp at h
  | cons x r ih =>
    rw [List.flatMap_cons]
    cases k with
    | zero =>
      simp at h
      subst h
      rw [List.getElem?_append_left (by rw [hs]; omega)]
      simp
    | succ k =>
      have h' : r[k]? = some y := by simpa using h
      have e : (k + 1) * s + j - s = k * s + j := by rw [Nat.add_mul]; omega
      rw [List.getElem?_append_right (by rw [hs, Nat.add_mul]; omega), hs, e]
      exact ih h'
theorem flat_one {α : Type} {f : α → List Value} (hf : ∀ x, ∀ u ∈ f x, u.oneCell' = true) (l : List α) : ∀ u ∈ l.flatMap f, u.oneCell' = true := by
  intro u hu
  obtain ⟨x, _, hx⟩ := List.mem_flatMap.1 hu
  exact hf x u hx
/-- an element's cells -/
theorem Reads.row {α : Type} {f : α → List Value} {s : Nat} (hs : ∀ x, (f x).length = s) {w : World} {A : Option Addr} {l : List α} (h : Reads w s A l.length (l.flatMap f)) {k : Nat} {y : α} (hy : l[k]? = some y) :
    ∃ ad, A = some ad ∧ ∀ j u, (f y)[j]? = some u → w.cell? ((ad.add (k * s)).add j) = some u := by
  have hk : k < l.length := (List.getElem?_eq_some_iff.1 hy).1
  obtain ⟨ad, rfl, hc⟩ := h.2 (by omega)
  refine ⟨ad, rfl, fun j u hu => ?_⟩
  rw [add_of_add]
  have hj : j < s := by have := (List.getElem?_eq_some_iff.1 hu).1; rwa [hs] at this
  exact hc _ u ((flat_at hs hy hj).trans hu)
theorem Reads.below {w w' : World} {A : Option Addr} {s n : Nat} {xs : List Value} (h : Reads w s A n xs) (hs : 0 < s) (hb : Below w.heap.size w w') : Reads w' s A n xs := by
  rcases Nat.eq_zero_or_pos n with h0 | h0
  · exact ⟨h.1, fun h1 => absurd h1 (by omega)⟩
  · exact h.keep_ (fun ad had => hb.block _ (h.lt hs ad h0 had))
theorem Reads.step {o o' : Nat → Nat} {C : Nat → Prop} {w w' : World} {A : Option Addr} {s n : Nat} {xs : List Value} (h : Reads w s A n xs) (hs : 0 < s) (hb : Step o C w o' w') (hc : ∀ ad, A = some ad → ¬ C (o ad.block)) : Reads w' s A n xs := by
  rcases Nat.eq_zero_or_pos n with h0 | h0
  · exact ⟨h.1, fun h1 => absurd h1 (by omega)⟩
  · exact h.keep_ (fun ad had => hb.block _ (h.lt hs ad h0 had) (hc ad had))
theorem toList_loop (b : ByteArray) (i : Nat) (r : List UInt8) : ByteArray.toList.loop b i r = r.reverse ++ b.data.toList.drop i := by
  unfold ByteArray.toList.loop
  split
  · rename_i h
    rw [toList_loop b (i + 1)]
    have h' : i < b.data.toList.length := h
    rw [List.drop_eq_getElem_cons h', List.reverse_cons, List.append_assoc]
    congr 2
    rw [List.singleton_append]
    congr 1
    show b.data[i]! = _
    rw [getElem!_pos b.data i h]
    rfl
  · rename_i h
    rw [List.drop_of_length_le (Nat.le_of_not_lt h), List.append_nil]
termination_by b.size - i
theorem toList_data (b : ByteArray) : b.toList = b.data.toList := by
  unfold ByteArray.toList
  rw [toList_loop]
  simp
theorem str_neq {a b : ByteArray} (h : a ≠ b) : (a.toList == b.toList) = false := by
  refine beq_eq_false_iff_ne.2 (fun e => h ?_)
  rw [toList_data, toList_data] at e
  cases a; cases b
  congr 1
  exact Array.toList_inj.1 e
end Go.Proofs.YtjmgefpdfhfhmaaGreatDoor
