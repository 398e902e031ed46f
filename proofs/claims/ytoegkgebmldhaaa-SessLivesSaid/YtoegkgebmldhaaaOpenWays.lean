/- A slice of structs (an int, an int, a string) that came in: it reads as a list. -/
import Derived.Test.YtoegkgebmldhaaaFrame
import Derived.Deep.Slices
import Derived.Deep.Fields
import Derived.ChangeSame
namespace Go.Proofs.Ytoegkgebmldhaaa
open Go.ChangeShapes Go.WideShapes Go.ChangeAt Go.RowKit Go.Joins Go.Deep

/-- something that happens to two ends -/
structure Wy where
  kind : Int
  k : Int
  data : ByteArray
def Wy.cells (y : Wy) : List Value := [.int .i64 y.kind, .int .i64 y.k, .string y.data]
def ycells (l : List Wy) : List Value := l.flatMap Wy.cells
theorem ycells_len (l : List Wy) : (ycells l).length = l.length * 3 := by
  unfold ycells
  induction l with
  | nil => rfl
  | cons x r ih => simp only [List.flatMap_cons, List.length_append, ih, List.length_cons]; simp [Wy.cells]; omega
theorem ycells_inv {l : List Wy} {j : Nat} {u : Value} (h : (ycells l)[j]? = some u) : ∃ y, l[j / 3]? = some y ∧ y.cells[j % 3]? = some u := by
  induction l generalizing j with
  | nil => simp [ycells] at h
  | cons g F ih =>
    have hc : g.cells.length = 3 := rfl
    by_cases hj : j < 3
    · have h' : (g.cells ++ ycells F)[j]? = some u := h
      rw [List.getElem?_append_left (by omega)] at h'
      refine ⟨g, ?_, ?_⟩
      · rw [show j / 3 = 0 by omega]; rfl
      · rw [show j % 3 = j by omega]; exact h'
    · have h' : (g.cells ++ ycells F)[j]? = some u := h
      rw [List.getElem?_append_right (by omega), hc] at h'
      obtain ⟨y, h1, h2⟩ := ih h'
      refine ⟨y, ?_, ?_⟩
      · rw [show j / 3 = (j - 3) / 3 + 1 by omega]; simpa using h1
      · rw [show j % 3 = (j - 3) % 3 by omega]; exact h2
theorem wf_i64_inv {k : Int} (h : (Lit.int .i64 k).wf = true) : -9223372036854775808 ≤ k ∧ k ≤ 9223372036854775807 := by
  simp [Lit.wf, IntKind.min, IntKind.max, IntKind.signed, IntKind.bits] at h
  omega
section
variable {H : Type} {enc : TypeId × Value → H} {P : Program} {w : World} {base : Nat} {spare : Nat → Bool} {held : Bool}
theorem open_three {t : TypeId} {f0 f1 f2 : Field} {fuel : Nat} {cs : List Value} {x : DataW H × List MemPlace} (hs : P.underlying t = some (.struct #[f0, f1, f2])) (hone : oneCellFields P #[f0, f1, f2] = true) (hC : P.cellsOf t = 3)
    (h0 : P.underlying f0.type = some (.int .i64)) (h1 : P.underlying f1.type = some (.int .i64)) (h2 : P.underlying f2.type = some .string)
    (h : DataW.trod enc P w base spare held fuel t cs = some x) : ∃ y : Wy, cs = y.cells ∧ y.data.size ≤ maxLen ∧ (-9223372036854775808 ≤ y.kind ∧ y.kind ≤ 9223372036854775807) ∧ (-9223372036854775808 ≤ y.k ∧ y.k ≤ 9223372036854775807) := by
  obtain ⟨xs, n, _, hx, hl, hlen, hg⟩ := DataW.trod_struct hs h
  rw [hC] at hl
  match cs, hl with
  | [c0, c1, c2], _ =>
    obtain ⟨o0, k0⟩ := hone_of hone 0 f0 rfl
    obtain ⟨o1, k1⟩ := hone_of hone 1 f1 rfl
    obtain ⟨o2, k2⟩ := hone_of hone 2 f2 rfl
    match xs, hlen with
    | [y0, y1, y2], _ =>
      have e0 : DataW.trod enc P w base spare held n f0.type [c0] = some y0 := by simpa [o0, k0] using hg 0 f0 rfl
      have e1 : DataW.trod enc P w base spare held n f1.type [c1] = some y1 := by simpa [o1, k1] using hg 1 f1 rfl
      have e2 : DataW.trod enc P w base spare held n f2.type [c2] = some y2 := by simpa [o2, k2] using hg 2 f2 rfl
      obtain ⟨a0, z0, _, r0⟩ := DataW.trod_int h0 e0
      obtain rfl : c0 = .int .i64 a0 := by simpa using z0
      obtain ⟨a1, z1, _, r1⟩ := DataW.trod_int h1 e1
      obtain rfl : c1 = .int .i64 a1 := by simpa using z1
      obtain ⟨s2, z2, _, hs2⟩ := DataW.trod_string h2 e2
      obtain rfl : c2 = .string s2 := by simpa using z2
      exact ⟨⟨a0, a1, s2⟩, rfl, hs2, wf_i64_inv r0, wf_i64_inv r1⟩
/-- the list, and where it lies -/
theorem open_ways {t e : TypeId} {f0 f1 f2 : Field} {fuel : Nat} {A : Option Addr} {len cap : Nat} {x : DataW H × List MemPlace} (ht : P.underlying t = some (.slice e)) (hs : P.underlying e = some (.struct #[f0, f1, f2])) (hone : oneCellFields P #[f0, f1, f2] = true) (hC : P.cellsOf e = 3)
    (h0 : P.underlying f0.type = some (.int .i64)) (h1 : P.underlying f1.type = some (.int .i64)) (h2 : P.underlying f2.type = some .string)
    (h : DataW.trod enc P w base spare held fuel t [.slice A len cap] = some x) : ∃ l : List Wy, l.length = len ∧ Reads w 3 A l.length (ycells l) ∧ (∀ y ∈ l, y.data.size ≤ maxLen ∧ (-9223372036854775808 ≤ y.kind ∧ y.kind ≤ 9223372036854775807) ∧ (-9223372036854775808 ≤ y.k ∧ y.k ≤ 9223372036854775807)) ∧ l.length ≤ maxLen := by
  rcases open_slice ht h with ⟨hc, _⟩ | ⟨a, len', cap', m, n, D, Pl, hc, _, hlc, hcm, hm, _, hi⟩
  · simp only [List.cons.injEq, Value.slice.injEq, and_true] at hc
    obtain ⟨rfl, rfl, rfl⟩ := hc
    exact ⟨[], rfl, Reads.none_ _ _ _, by simp, Nat.zero_le _⟩
  · simp only [List.cons.injEq, Value.slice.injEq, and_true] at hc
    obtain ⟨rfl, rfl, rfl⟩ := hc
    have hml : len ≤ m := by rw [hm]; split <;> omega
    have hall : ∀ i, ∃ y : Wy, i < len → (y.data.size ≤ maxLen ∧ (-9223372036854775808 ≤ y.kind ∧ y.kind ≤ 9223372036854775807) ∧ (-9223372036854775808 ≤ y.k ∧ y.k ≤ 9223372036854775807)) ∧ ∀ j u, y.cells[j]? = some u → w.cell? (a.add (i * 3 + j)) = some u := by
      intro i
      by_cases hil : i < len
      · obtain ⟨cs', hcs, htr⟩ := hi i (by omega)
        obtain ⟨y, rfl, hy⟩ := open_three hs hone hC h0 h1 h2 htr
        obtain ⟨_, hl3, hat⟩ := World.cells?_some hcs
        refine ⟨y, fun _ => ⟨hy, fun j u hu => ?_⟩⟩
        have hj : j < 3 := (List.getElem?_eq_some_iff.1 hu).1
        have := hat j (by rw [hC]; exact hj)
        rw [hC] at this
        rw [← add_of_add, this]
        exact hu
      · exact ⟨⟨0, 0, ⟨#[]⟩⟩, fun h => absurd h hil⟩
    let f : Nat → Wy := fun i => Classical.choose (hall i)
    have hf : ∀ i, i < len → ((f i).data.size ≤ maxLen ∧ (-9223372036854775808 ≤ (f i).kind ∧ (f i).kind ≤ 9223372036854775807) ∧ (-9223372036854775808 ≤ (f i).k ∧ (f i).k ≤ 9223372036854775807)) ∧ ∀ j u, (f i).cells[j]? = some u → w.cell? (a.add (i * 3 + j)) = some u := fun i => Classical.choose_spec (hall i)
    have hlen : ((List.range len).map f).length = len := by simp
    refine ⟨(List.range len).map f, hlen, ⟨by rw [ycells_len], fun _ => ⟨a, rfl, fun j u hu => ?_⟩⟩, fun y hy => ?_, by rw [hlen]; omega⟩
    · obtain ⟨y, h5, h6⟩ := ycells_inv hu
      rw [List.getElem?_map] at h5
      have hlt : j / 3 < len := by
        rcases Nat.lt_or_ge (j / 3) len with h7 | h7
        · exact h7
        · rw [List.getElem?_eq_none (by simpa using h7)] at h5; simp at h5
      rw [List.getElem?_range hlt] at h5
      simp only [Option.map_some, Option.some.injEq] at h5
      subst h5
      have := (hf (j / 3) hlt).2 _ _ h6
      rwa [show j / 3 * 3 + j % 3 = j by omega] at this
    · obtain ⟨i, hi2, rfl⟩ := List.mem_map.1 hy
      exact (hf i (by simpa using hi2)).1
end
end Go.Proofs.Ytoegkgebmldhaaa
