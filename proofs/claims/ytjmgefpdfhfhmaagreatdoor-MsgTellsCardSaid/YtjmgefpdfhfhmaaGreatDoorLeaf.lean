/- What comes in, opened by the shape of its type: the cells of a value whose type is made of ints, strings, bools and slices; a slice of such ones reads as a list. -/
import Derived.Test.YtjmgefpdfhfhmaaGreatDoorFrame
import Derived.ChangeArms
import Derived.Deep.Slices
namespace Go.Proofs.YtjmgefpdfhfhmaaGreatDoor
open Go.ChangeShapes Go.WideShapes Go.ChangeAt Go.RowKit Go.Joins Go.Deep

/-- what one cell may be -/
inductive Leaf where
  | int (k : IntKind)
  | str
  | bool
  | slice (t : TypeId)
def leavesF (P : Program) (L : TypeId → Option (List Leaf)) : List Field → List Leaf → Option (List Leaf)
  | [], acc => some acc
  | f :: fs, acc => if f.offset = acc.length then (match L f.type with
    | some l => if l.length = P.cellsOf f.type then leavesF P L fs (acc ++ l) else none
    | none => none) else none
/-- the cells of a type, as far as it is made of such -/
def leaves (P : Program) : Nat → TypeId → Option (List Leaf)
  | 0, _ => none
  | n + 1, t => match P.underlying t with
    | some (.int k) => some [.int k]
    | some .string => some [.str]
    | some .bool => some [.bool]
    | some (.slice _) => some [.slice t]
    | some (.struct fs) => match leavesF P (leaves P n) fs.toList [] with
      | some l => if l.length = P.cellsOf t then some l else none
      | none => none
    | _ => none
section
variable {H : Type} (enc : TypeId × Value → H) (P : Program) (w : World) (base : Nat) (spare : Nat → Bool) (held : Bool)
def LeafOk : Leaf → Value → Prop
  | .int k, v => ∃ a, v = .int k a ∧ (Lit.int k a).wf = true
  | .str, v => ∃ s : ByteArray, v = .string s ∧ s.size ≤ maxLen
  | .bool, v => ∃ b, v = .bool b
  | .slice t, v => ∃ fuel x, DataW.trod enc P w base spare held fuel t [v] = some x
def LeavesOk (ls : List Leaf) (cs : List Value) : Prop := ls.length = cs.length ∧ ∀ (i : Nat) l c, ls[i]? = some l → cs[i]? = some c → LeafOk enc P w base spare held l c
end
section
variable {H : Type} {enc : TypeId × Value → H} {P : Program} {w : World} {base : Nat} {spare : Nat → Bool} {held : Bool}
theorem LeavesOk.cons {l : Leaf} {ls : List Leaf} {cs : List Value} (h : LeavesOk enc P w base spare held (l :: ls) cs) : ∃ c cs', cs = c :: cs' ∧ LeafOk enc P w base spare held l c ∧ LeavesOk enc P w base spare held ls cs' := by
  obtain ⟨h1, h2⟩ := h
  cases cs with
  | nil => simp at h1
  | cons c cs => exact ⟨c, cs, rfl, h2 0 l c rfl rfl, by simpa using h1, fun i l' c' h3 h4 => h2 (i + 1) l' c' (by simpa using h3) (by simpa using h4)⟩
theorem LeavesOk.nil {cs : List Value} (h : LeavesOk enc P w base spare held [] cs) : cs = [] := List.eq_nil_of_length_eq_zero h.1.symm
theorem leavesF_ok {n : Nat} {L : TypeId → Option (List Leaf)} {cs : List Value} (hL : ∀ t ds x ls, DataW.trod enc P w base spare held n t ds = some x → L t = some ls → LeavesOk enc P w base spare held ls ds) :
    ∀ (fs : List Field) (acc ls : List Leaf), (∀ f ∈ fs, ∃ y, DataW.trod enc P w base spare held n f.type ((cs.drop f.offset).take (P.cellsOf f.type)) = some y) →
      (∀ (i : Nat) l c, acc[i]? = some l → cs[i]? = some c → LeafOk enc P w base spare held l c) → leavesF P L fs acc = some ls → ∀ (i : Nat) l c, ls[i]? = some l → cs[i]? = some c → LeafOk enc P w base spare held l c
  | [], acc, ls, _, ha, h => by
    simp only [leavesF, Option.some.injEq] at h
    subst h
    exact ha
  | f :: fs, acc, ls, hf, ha, h => by
    simp only [leavesF] at h
    split at h
    · rename_i hoff
      split at h
      · rename_i l hl
        split at h
        · rename_i hk
          refine leavesF_ok hL fs (acc ++ l) ls (fun g hg => hf g (List.mem_cons_of_mem _ hg)) ?_ h
          intro i lf c h1 h2
          by_cases hi : i < acc.length
          · rw [List.getElem?_append_left hi] at h1
            exact ha i lf c h1 h2
          · rw [List.getElem?_append_right (by omega)] at h1
            obtain ⟨y, hy⟩ := hf f (List.mem_cons_self ..)
            have hlt := (List.getElem?_eq_some_iff.1 h1).1
            refine (hL _ _ _ _ hy hl).2 (i - acc.length) lf c h1 ?_
            rw [List.getElem?_take, if_pos (by omega), List.getElem?_drop, ← h2]
            congr 1
            omega
        · cases h
      · cases h
    · cases h
theorem leaves_ok : ∀ (n : Nat) (t : TypeId) (fuel : Nat) (cs : List Value) (x : DataW H × List MemPlace) (ls : List Leaf), DataW.trod enc P w base spare held fuel t cs = some x → leaves P n t = some ls → LeavesOk enc P w base spare held ls cs
  | 0, _, _, _, _, _, _, h => by cases h
  | n + 1, t, fuel, cs, x, ls, hx, h => by
    have one : ∀ {l : Leaf} {c : Value}, LeafOk enc P w base spare held l c → LeavesOk enc P w base spare held [l] [c] := by
      intro l c hc
      refine ⟨rfl, fun i l' c' h1 h2 => ?_⟩
      cases i with
      | zero => simp at h1 h2; subst h1 h2; exact hc
      | succ i => simp at h1
    simp only [leaves] at h
    split at h
    · rename_i k hu
      injection h with h
      subst h
      obtain ⟨a, rfl, _, hw⟩ := DataW.trod_int hu hx
      exact one ⟨a, rfl, hw⟩
    · rename_i hu
      injection h with h
      subst h
      obtain ⟨s, rfl, _, hw⟩ := DataW.trod_string hu hx
      exact one ⟨s, rfl, hw⟩
    · rename_i hu
      injection h with h
      subst h
      obtain ⟨b, rfl, _⟩ := DataW.trod_bool hu hx
      exact one ⟨b, rfl⟩
    · rename_i e hu
      injection h with h
      subst h
      rcases open_slice hu hx with ⟨rfl, _⟩ | ⟨a, len, cap, m, k, D, Pl, rfl, _⟩
      · exact one ⟨fuel, x, hx⟩
      · exact one ⟨fuel, x, hx⟩
    · rename_i fs hu
      obtain ⟨xs, k, rfl, _, hlen, hxl, hg⟩ := DataW.trod_struct hu hx
      split at h
      · rename_i l hl
        split at h
        · rename_i hc
          injection h with h
          subst h
          refine ⟨by rw [hc, hlen], leavesF_ok (n := k) (fun t ds y ls' h1 h2 => leaves_ok n t k ds y ls' h1 h2) fs.toList [] l (fun f hf => ?_) (fun i l c h1 => by simp at h1) hl⟩
          obtain ⟨i, hi, rfl⟩ := List.mem_iff_getElem.1 hf
          have hi2 : i < xs.length := by rw [hxl]; simpa using hi
          exact ⟨xs[i], (hg i _ (by simp at hi; simp [hi])).trans (List.getElem?_eq_getElem hi2)⟩
        · cases h
      · cases h
    · cases h
theorem rows_get {s : Nat} {L : List (List Value)} (hs : ∀ r ∈ L, r.length = s) {j : Nat} {u : Value} (hs0 : 0 < s) (h : L.flatten[j]? = some u) : ∃ r, L[j / s]? = some r ∧ r[j % s]? = some u := by
  induction L generalizing j with
  | nil => simp at h
  | cons r L ih =>
    have hr : r.length = s := hs r (List.mem_cons_self ..)
    rw [List.flatten_cons] at h
    by_cases hj : j < s
    · rw [List.getElem?_append_left (by omega)] at h
      exact ⟨r, by rw [Nat.div_eq_of_lt hj]; rfl, by rw [Nat.mod_eq_of_lt hj]; exact h⟩
    · rw [List.getElem?_append_right (by omega), hr] at h
      obtain ⟨r', h1, h2⟩ := ih (fun x hx => hs x (List.mem_cons_of_mem _ hx)) h
      have e1 : j / s = (j - s) / s + 1 := by
        rw [← Nat.add_div_right _ hs0]
        congr 1
        omega
      have e2 : j % s = (j - s) % s := by
        rw [← Nat.add_mod_right (j - s) s]
        congr 1
        omega
      exact ⟨r', by rw [e1]; simpa using h1, by rw [e2]; exact h2⟩
theorem flatten_len {s : Nat} {L : List (List Value)} (hs : ∀ r ∈ L, r.length = s) : L.flatten.length = L.length * s := by
  induction L with
  | nil => simp
  | cons r L ih => rw [List.flatten_cons, List.length_append, ih (fun x hx => hs x (List.mem_cons_of_mem _ hx)), hs r (List.mem_cons_self ..), List.length_cons, Nat.add_mul]; omega
/-- a slice that came in, as rows -/
theorem open_rows {t e : TypeId} {n fuel : Nat} {ls : List Leaf} {A : Option Addr} {len cap : Nat} {x : DataW H × List MemPlace} (ht : P.underlying t = some (.slice e)) (hl : leaves P n e = some ls) (hc : P.cellsOf e = ls.length) (h0 : 0 < ls.length)
    (h : DataW.trod enc P w base spare held fuel t [.slice A len cap] = some x) :
    ∃ L : List (List Value), L.length = len ∧ Reads w ls.length A len L.flatten ∧ (∀ r ∈ L, LeavesOk enc P w base spare held ls r) ∧ len ≤ cap ∧ cap ≤ maxLen := by
  rcases open_slice ht h with ⟨hc, _⟩ | ⟨a, len', cap', m, k, D, Pl, hcs, _, hlc, hcm, hm, _, hi⟩
  · simp only [List.cons.injEq, Value.slice.injEq, and_true] at hc
    obtain ⟨rfl, rfl, rfl⟩ := hc
    exact ⟨[], rfl, Reads.none_ _ _ _, by simp, Nat.le_refl _, Nat.zero_le _⟩
  · simp only [List.cons.injEq, Value.slice.injEq, and_true] at hcs
    obtain ⟨rfl, rfl, rfl⟩ := hcs
    have hml : len ≤ m := by rw [hm]; split <;> omega
    have hall : ∀ i, ∃ r : List Value, i < len → LeavesOk enc P w base spare held ls r ∧ ∀ j u, r[j]? = some u → w.cell? (a.add (i * ls.length + j)) = some u := by
      intro i
      by_cases hil : i < len
      · obtain ⟨cs', hcs, htr⟩ := hi i (by omega)
        have hok := leaves_ok n e k cs' _ ls htr hl
        obtain ⟨_, hl4, hat⟩ := World.cells?_some hcs
        refine ⟨cs', fun _ => ⟨hok, fun j u hu => ?_⟩⟩
        have hj : j < cs'.length := (List.getElem?_eq_some_iff.1 hu).1
        have := hat j (by rw [hc, hok.1]; exact hj)
        rw [hc] at this
        rw [← add_of_add, this]
        exact hu
      · exact ⟨[], fun h => absurd h hil⟩
    let f : Nat → List Value := fun i => Classical.choose (hall i)
    have hf : ∀ i, i < len → LeavesOk enc P w base spare held ls (f i) ∧ ∀ j u, (f i)[j]? = some u → w.cell? (a.add (i * ls.length + j)) = some u := fun i => Classical.choose_spec (hall i)
    have hrl : ∀ r ∈ (List.range len).map f, LeavesOk enc P w base spare held ls r := by
      intro r hr
      obtain ⟨i, hi2, rfl⟩ := List.mem_map.1 hr
      exact (hf i (by simpa using hi2)).1
    have hrs : ∀ r ∈ (List.range len).map f, r.length = ls.length := fun r hr => (hrl r hr).1.symm
    refine ⟨(List.range len).map f, by simp, ⟨by rw [flatten_len hrs]; simp, fun _ => ⟨a, rfl, fun j u hu => ?_⟩⟩, hrl, hlc, hcm⟩
    obtain ⟨r, h5, h6⟩ := rows_get hrs h0 hu
    rw [List.getElem?_map] at h5
    have hlt : j / ls.length < len := by
      rcases Nat.lt_or_ge (j / ls.length) len with h7 | h7
      · exact h7
      · rw [List.getElem?_eq_none (by simpa using h7)] at h5; simp at h5
    rw [List.getElem?_range hlt] at h5
    simp only [Option.map_some, Option.some.injEq] at h5
    subst h5
    have := (hf (j / ls.length) hlt).2 _ _ h6
    rwa [Nat.div_add_mod'] at this
/-- rows as the cells of a list of one's own -/
theorem rows_list {α : Type} {f : α → List Value} {p : α → Prop} : ∀ (L : List (List Value)), (∀ r ∈ L, ∃ y, r = f y ∧ p y) → ∃ l : List α, L.flatten = l.flatMap f ∧ L.length = l.length ∧ ∀ y ∈ l, p y
  | [], _ => ⟨[], rfl, rfl, by simp⟩
  | r :: L, h => by
    obtain ⟨y, rfl, hy⟩ := h r (List.mem_cons_self ..)
    obtain ⟨l, h1, h2, h3⟩ := rows_list L (fun x hx => h x (List.mem_cons_of_mem _ hx))
    exact ⟨y :: l, by rw [List.flatten_cons, h1, List.flatMap_cons], by simp [h2], by
      intro z hz
      rcases List.mem_cons.1 hz with rfl | hz
      · exact hy
      · exact h3 z hz⟩
end
end Go.Proofs.YtjmgefpdfhfhmaaGreatDoor
