/- A slice of structs (an int, an int, a uint64, a string) that came in: it reads as a list. -/
import Derived.Test.YtoploimpfhnanaaDoorCardBase
import Derived.Deep.Slices
import Derived.Deep.Fields
import Derived.ChangeSame
namespace Go.Proofs.YtoploimpfhnanaaDoor
open Go.ChangeShapes Go.WideShapes Go.ChangeAt Go.RowKit Go.Joins Go.Deep

/-- something that is put, or read -/
structure Opr where
  kind : Int
  n : Int
  v : Int
  s : ByteArray
def Opr.cells (y : Opr) : List Value := [.int .i64 y.kind, .int .i64 y.n, .int .u64 y.v, .string y.s]
/-- what every one that comes in keeps -/
def Opr.ok (y : Opr) : Prop := y.s.size ≤ maxLen ∧ (-9223372036854775808 ≤ y.kind ∧ y.kind ≤ 9223372036854775807) ∧ (-9223372036854775808 ≤ y.n ∧ y.n ≤ 9223372036854775807) ∧ (0 ≤ y.v ∧ y.v ≤ 18446744073709551615)
def ocells (l : List Opr) : List Value := l.flatMap Opr.cells
theorem ocells_len (l : List Opr) : (ocells l).length = l.length * 4 := by
  unfold ocells
  induction l with
  | nil => rfl
  | cons x r ih => simp only [List.flatMap_cons, List.length_append, ih, List.length_cons]; simp [Opr.cells]; omega
theorem ocells_inv {l : List Opr} {j : Nat} {u : Value} (h : (ocells l)[j]? = some u) : ∃ y, l[j / 4]? = some y ∧ y.cells[j % 4]? = some u := by
  induction l generalizing j with
  | nil => simp [ocells] at h
  | cons g F ih =>
    have hc : g.cells.length = 4 := rfl
    by_cases hj : j < 4
    · have h' : (g.cells ++ ocells F)[j]? = some u := h
      rw [List.getElem?_append_left (by omega)] at h'
      refine ⟨g, ?_, ?_⟩
      · rw [show j / 4 = 0 by omega]; rfl
      · rw [show j % 4 = j by omega]; exact h'
    · have h' : (g.cells ++ ocells F)[j]? = some u := h
      rw [List.getElem?_append_right (by omega), hc] at h'
      obtain ⟨y, h1, h2⟩ := ih h'
      refine ⟨y, ?_, ?_⟩
      · rw [show j / 4 = (j - 4) / 4 + 1 by omega]; simpa using h1
      · rw [show j % 4 = (j - 4) % 4 by omega]; exact h2
section
variable {H : Type} {enc : TypeId × Value → H} {P : Program} {w : World} {base : Nat} {spare : Nat → Bool} {held : Bool}
theorem open_four {t : TypeId} {f0 f1 f2 f3 : Field} {fuel : Nat} {cs : List Value} {x : DataW H × List MemPlace} (hs : P.underlying t = some (.struct #[f0, f1, f2, f3])) (hone : oneCellFields P #[f0, f1, f2, f3] = true) (hC : P.cellsOf t = 4)
    (h0 : P.underlying f0.type = some (.int .i64)) (h1 : P.underlying f1.type = some (.int .i64)) (h2 : P.underlying f2.type = some (.int .u64)) (h3 : P.underlying f3.type = some .string)
    (h : DataW.trod enc P w base spare held fuel t cs = some x) : ∃ y : Opr, cs = y.cells ∧ y.ok := by
  obtain ⟨xs, n, _, hx, hl, hlen, hg⟩ := DataW.trod_struct hs h
  rw [hC] at hl
  match cs, hl with
  | [c0, c1, c2, c3], _ =>
    obtain ⟨o0, k0⟩ := hone_of hone 0 f0 rfl
    obtain ⟨o1, k1⟩ := hone_of hone 1 f1 rfl
    obtain ⟨o2, k2⟩ := hone_of hone 2 f2 rfl
    obtain ⟨o3, k3⟩ := hone_of hone 3 f3 rfl
    match xs, hlen with
    | [y0, y1, y2, y3], _ =>
      have e0 : DataW.trod enc P w base spare held n f0.type [c0] = some y0 := by simpa [o0, k0] using hg 0 f0 rfl
      have e1 : DataW.trod enc P w base spare held n f1.type [c1] = some y1 := by simpa [o1, k1] using hg 1 f1 rfl
      have e2 : DataW.trod enc P w base spare held n f2.type [c2] = some y2 := by simpa [o2, k2] using hg 2 f2 rfl
      have e3 : DataW.trod enc P w base spare held n f3.type [c3] = some y3 := by simpa [o3, k3] using hg 3 f3 rfl
      obtain ⟨a0, z0, _, r0⟩ := DataW.trod_int h0 e0
      obtain rfl : c0 = .int .i64 a0 := by simpa using z0
      obtain ⟨a1, z1, _, r1⟩ := DataW.trod_int h1 e1
      obtain rfl : c1 = .int .i64 a1 := by simpa using z1
      obtain ⟨a2, z2, _, r2⟩ := DataW.trod_int h2 e2
      obtain rfl : c2 = .int .u64 a2 := by simpa using z2
      obtain ⟨s3, z3, _, hs3⟩ := DataW.trod_string h3 e3
      obtain rfl : c3 = .string s3 := by simpa using z3
      exact ⟨⟨a0, a1, a2, s3⟩, rfl, hs3, wf_i64_in r0, wf_i64_in r1, wf_u64_in r2⟩
/-- the list, and where it lies -/
theorem open_ops {t e : TypeId} {f0 f1 f2 f3 : Field} {fuel : Nat} {A : Option Addr} {len cap : Nat} {x : DataW H × List MemPlace} (ht : P.underlying t = some (.slice e)) (hs : P.underlying e = some (.struct #[f0, f1, f2, f3])) (hone : oneCellFields P #[f0, f1, f2, f3] = true) (hC : P.cellsOf e = 4)
    (h0 : P.underlying f0.type = some (.int .i64)) (h1 : P.underlying f1.type = some (.int .i64)) (h2 : P.underlying f2.type = some (.int .u64)) (h3 : P.underlying f3.type = some .string)
    (h : DataW.trod enc P w base spare held fuel t [.slice A len cap] = some x) : ∃ l : List Opr, l.length = len ∧ Reads w 4 A l.length (ocells l) ∧ (∀ y ∈ l, y.ok) ∧ l.length ≤ maxLen := by
  rcases open_slice ht h with ⟨hc, _⟩ | ⟨a, len', cap', m, n, D, Pl, hc, _, hlc, hcm, hm, _, hi⟩
  · simp only [List.cons.injEq, Value.slice.injEq, and_true] at hc
    obtain ⟨rfl, rfl, rfl⟩ := hc
    exact ⟨[], rfl, Reads.none_ _ _ _, by simp, Nat.zero_le _⟩
  · simp only [List.cons.injEq, Value.slice.injEq, and_true] at hc
    obtain ⟨rfl, rfl, rfl⟩ := hc
    have hml : len ≤ m := by rw [hm]; split <;> omega
    have hall : ∀ i, ∃ y : Opr, i < len → y.ok ∧ ∀ j u, y.cells[j]? = some u → w.cell? (a.add (i * 4 + j)) = some u := by
      intro i
      by_cases hil : i < len
      · obtain ⟨cs', hcs, htr⟩ := hi i (by omega)
        obtain ⟨y, rfl, hy⟩ := open_four hs hone hC h0 h1 h2 h3 htr
        obtain ⟨_, hl4, hat⟩ := World.cells?_some hcs
        refine ⟨y, fun _ => ⟨hy, fun j u hu => ?_⟩⟩
        have hj : j < 4 := (List.getElem?_eq_some_iff.1 hu).1
        have := hat j (by rw [hC]; exact hj)
        rw [hC] at this
        rw [← add_of_add, this]
        exact hu
      · exact ⟨⟨0, 0, 0, ⟨#[]⟩⟩, fun h => absurd h hil⟩
    let f : Nat → Opr := fun i => Classical.choose (hall i)
    have hf : ∀ i, i < len → (f i).ok ∧ ∀ j u, (f i).cells[j]? = some u → w.cell? (a.add (i * 4 + j)) = some u := fun i => Classical.choose_spec (hall i)
    have hlen : ((List.range len).map f).length = len := by simp
    refine ⟨(List.range len).map f, hlen, ⟨by rw [ocells_len], fun _ => ⟨a, rfl, fun j u hu => ?_⟩⟩, fun y hy => ?_, by rw [hlen]; omega⟩
    · obtain ⟨y, h5, h6⟩ := ocells_inv hu
      rw [List.getElem?_map] at h5
      have hlt : j / 4 < len := by
        rcases Nat.lt_or_ge (j / 4) len with h7 | h7
        · exact h7
        · rw [List.getElem?_eq_none (by simpa using h7)] at h5; simp at h5
      rw [List.getElem?_range hlt] at h5
      simp only [Option.map_some, Option.some.injEq] at h5
      subst h5
      have := (hf (j / 4) hlt).2 _ _ h6
      rwa [show j / 4 * 4 + j % 4 = j by omega] at this
    · obtain ⟨i, hi2, rfl⟩ := List.mem_map.1 hy
      exact (hf i (by simpa using hi2)).1
end
theorem cells_op : Tryd.prog.cellsOf 49 = 4 := by kernel_rfl
end Go.Proofs.YtoploimpfhnanaaDoor
