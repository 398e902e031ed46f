/- What comes in, opened by the shape of its type: the cells of a value whose type is made of ints, strings, bools and slices; a slice of such ones reads as a list. -/
import Derived.Test.YtianlhigeabehaaGreatDoorKFrame
import Derived.ChangeArms
import Derived.Deep.Slices
import Derived.Test.YtianlhigeabehaaGreatDoorKBase
import Derived.ArgAppend
namespace Go.Proofs.YtianlhigeabehaaGreatDoor
open Go.ChangeShapes Go.WideShapes Go.ChangeAt Go.RowKit Go.Joins Go.Deep

/-- what one cell may be -/
inductive Leaf where
  | int (k : IntKind)
  | str
  | bool
  | slice (t : TypeId)
def leavesF (P : Program) (L : TypeId → Option (List Leaf)) : List Field → List Leaf → Option (List Leaf)
  | [], acc => some acc
  | f :: fs, acc => if f.offset = acc.length then (match L f.type with
    | some l => if l.length = P.cellsOf f.type then leavesF P L fs (acc ++ l) else none
    | none => none) else none
/-- the cells of a type, as far as it is made of such -/
def leaves (P : Program) : Nat → TypeId → Option (List Leaf)
  | 0, _ => none
  | n + 1, t => match P.underlying t with
    | some (.int k) => some [.int k]
    | some .string => some [.str]
    | some .bool => some [.bool]
    | some (.slice _) => some [.slice t]
    | some (.struct fs) => match leavesF P (leaves P n) fs.toList [] with
      | some l => if l.length = P.cellsOf t then some l else none
      | none => none
    | _ => none
section
variable {H : Type} (enc : TypeId × Value → H) (P : Program) (w : World) (base : Nat) (spare : Nat → Bool) (held : Bool)
def LeafOk : Leaf → Value → Prop
  | .int k, v => ∃ a, v = .int k a ∧ (Lit.int k a).wf = true
  | .str, v => ∃ s : ByteArray, v = .string s ∧ s.size ≤ maxLen
  | .bool, v => ∃ b, v = .bool b
  | .slice t, v => ∃ fuel x, DataW.trod enc P w base spare held fuel t [v] = some x
def LeavesOk (ls : List Leaf) (cs : List Value) : Prop := ls.length = cs.length ∧ ∀ (i : Nat) l c, ls[i]? = some l → cs[i]? = some c → LeafOk enc P w base spare held l c
end
section
variable {H : Type} {enc : TypeId × Value → H} {P : Program} {w : World} {base : Nat} {spare : Nat → Bool} {held : Bool}
theorem LeavesOk.cons {l : Leaf} {ls : List Leaf} {cs : List Value} (h : LeavesOk enc P w base spare held (l :: ls) cs) : ∃ c cs', cs = c :: cs' ∧ LeafOk enc P w base spare held l c ∧ LeavesOk enc P w base spare held ls cs' := by
  obtain ⟨h1, h2⟩ := h
  cases cs with
  | nil => simp at h1
  | cons c cs => exact ⟨c, cs, rfl, h2 0 l c rfl rfl, by simpa using h1, fun i l' c' h3 h4 => h2 (i + 1) l' c' (by simpa using h3) (by simpa using h4)⟩
theorem LeavesOk.nil {cs : List Value} (h : LeavesOk enc P w base spare held [] cs) : cs = [] := List.eq_nil_of_length_eq_zero h.1.symm
theorem leavesF_ok {n : Nat} {L : TypeId → Option (List Leaf)} {cs : List Value} (hL : ∀ t ds x ls, DataW.trod enc P w base spare held n t ds = some x → L t = some ls → LeavesOk enc P w base spare held ls ds) :
    ∀ (fs : List Field) (acc ls : List Leaf), (∀ f ∈ fs, ∃ y, DataW.trod enc P w base spare held n f.type ((cs.drop f.offset).take (P.cellsOf f.type)) = some y) →
      (∀ (i : Nat) l c, acc[i]? = some l → cs[i]? = some c → LeafOk enc P w base spare held l c) → leavesF P L fs acc = some ls → ∀ (i : Nat) l c, ls[i]? = some l → cs[i]? = some c → LeafOk enc P w base spare held l c
  | [], acc, ls, _, ha, h => by
    simp only [leavesF, Option.some.injEq] at h
    subst h
    exact ha
  | f :: fs, acc, ls, hf, ha, h => by
    simp only [leavesF] at h
    split at h
    · rename_i hoff
      split at h
      · rename_i l hl
        split at h
        · rename_i hk
          refine leavesF_ok hL fs (acc ++ l) ls (fun g hg => hf g (List.mem_cons_of_mem _ hg)) ?_ h
          intro i lf c h1 h2
          by_cases hi : i < acc.length
          · rw [List.getElem?_append_left hi] at h1
            exact ha i lf c h1 h2
          · rw [List.getElem?_append_right (by omega)] at h1
            obtain ⟨y, hy⟩ := hf f (List.mem_cons_self ..)
            have hlt := (List.getElem?_eq_some_iff.1 h1).1
            refine (hL _ _ _ _ hy hl).2 (i - acc.length) lf c h1 ?_
            rw [List.getElem?_take, if_pos (by omega), List.getElem?_drop, ← h2]
            congr 1
            omega
        · cases h
      · cases h
    · cases h
theorem leaves_ok : ∀ (n : Nat) (t : TypeId) (fuel : Nat) (cs : List Value) (x : DataW H × List MemPlace) (ls : List Leaf), DataW.trod enc P w base spare held fuel t cs = some x → leaves P n t = some ls → LeavesOk enc P w base spare held ls cs
  | 0, _, _, _, _, _, _, h => by cases h
  | n + 1, t, fuel, cs, x, ls, hx, h => by
    have one : ∀ {l : Leaf} {c : Value}, LeafOk enc P w base spare held l c → LeavesOk enc P w base spare held [l] [c] := by
      intro l c hc
      refine ⟨rfl, fun i l' c' h1 h2 => ?_⟩
      cases i with
      | zero => simp at h1 h2; subst h1 h2; exact hc
      | succ i => simp at h1
    simp only [leaves] at h
    split at h
    · rename_i k hu
      injection h with h
      subst h
      obtain ⟨a, rfl, _, hw⟩ := DataW.trod_int hu hx
      exact one ⟨a, rfl, hw⟩
    · rename_i hu
      injection h with h
      subst h
      obtain ⟨s, rfl, _, hw⟩ := DataW.trod_string hu hx
      exact one ⟨s, rfl, hw⟩
    · rename_i hu
      injection h with h
      subst h
      obtain ⟨b, rfl, _⟩ := DataW.trod_bool hu hx
      exact one ⟨b, rfl⟩
    · rename_i e hu
      injection h with h
      subst h
      rcases open_slice hu hx with ⟨rfl, _⟩ | ⟨a, len, cap, m, k, D, Pl, rfl, _⟩
      · exact one ⟨fuel, x, hx⟩
      · exact one ⟨fuel, x, hx⟩
    · rename_i fs hu
      obtain ⟨xs, k, rfl, _, hlen, hxl, hg⟩ := DataW.trod_struct hu hx
      split at h
      · rename_i l hl
        split at h
        · rename_i hc
          injection h with h
          subst h
          refine ⟨by rw [hc, hlen], leavesF_ok (n := k) (fun t ds y ls' h1 h2 => leaves_ok n t k ds y ls' h1 h2) fs.toList [] l (fun f hf => ?_) (fun i l c h1 => by simp at h1) hl⟩
          obtain ⟨i, hi, rfl⟩ := List.mem_iff_getElem.1 hf
          have hi2 : i < xs.length := by rw [hxl]; simpa using hi
          exact ⟨xs[i], (hg i _ (by simp at hi; simp [hi])).trans (List.getElem?_eq_getElem hi2)⟩
        · cases h
      · cases h
    · cases h
theorem rows_get {s : Nat} {L : List (List Value)} (hs : ∀ r ∈ L, r.length = s) {j : Nat} {u : Value} (hs0 : 0 < s) (h : L.flatten[j]? = some u) : ∃ r, L[j / s]? = some r ∧ r[j % s]? = some u := by
  induction L generalizing j with
  | nil => simp at h
  | cons r L ih =>
    have hr : r.length = s := hs r (List.mem_cons_self ..)
    rw [List.flatten_cons] at h
    by_cases hj : j < s
    · rw [List.getElem?_append_left (by omega)] at h
      exact ⟨r, by rw [Nat.div_eq_of_lt hj]; rfl, by rw [Nat.mod_eq_of_lt hj]; exact h⟩
    · rw [List.getElem?_append_right (by omega), hr] at h
      obtain ⟨r', h1, h2⟩ := ih (fun x hx => hs x (List.mem_cons_of_mem _ hx)) h
      have e1 : j / s = (j - s) / s + 1 := by
        rw [← Nat.add_div_right _ hs0]
        congr 1
        omega
      have e2 : j % s = (j - s) % s := by
        rw [← Nat.add_mod_right (j - s) s]
        congr 1
        omega
      exact ⟨r', by rw [e1]; simpa using h1, by rw [e2]; exact h2⟩
theorem flatten_len {s : Nat} {L : List (List Value)} (hs : ∀ r ∈ L, r.length = s) : L.flatten.length = L.length * s := by
  induction L with
  | nil => simp
  | cons r L ih => rw [List.flatten_cons, List.length_append, ih (fun x hx => hs x (List.mem_cons_of_mem _ hx)), hs r (List.mem_cons_self ..), List.length_cons, Nat.add_mul]; omega
/-- a slice that came in, as rows -/
theorem open_rows {t e : TypeId} {n fuel : Nat} {ls : List Leaf} {A : Option Addr} {len cap : Nat} {x : DataW H × List MemPlace} (ht : P.underlying t = some (.slice e)) (hl : leaves P n e = some ls) (hc : P.cellsOf e = ls.length) (h0 : 0 < ls.length)
    (h : DataW.trod enc P w base spare held fuel t [.slice A len cap] = some x) :
    ∃ L : List (List Value), L.length = len ∧ Reads w ls.length A len L.flatten ∧ (∀ r ∈ L, LeavesOk enc P w base spare held ls r) ∧ len ≤ cap ∧ cap ≤ maxLen := by
  rcases open_slice ht h with ⟨hc, _⟩ | ⟨a, len', cap', m, k, D, Pl, hcs, _, hlc, hcm, hm, _, hi⟩
  · simp only [List.cons.injEq, Value.slice.injEq, and_true] at hc
    obtain ⟨rfl, rfl, rfl⟩ := hc
    exact ⟨[], rfl, Reads.none_ _ _ _, by simp, Nat.le_refl _, Nat.zero_le _⟩
  · simp only [List.cons.injEq, Value.slice.injEq, and_true] at hcs
    obtain ⟨rfl, rfl, rfl⟩ := hcs
    have hml : len ≤ m := by rw [hm]; split <;> omega
    have hall : ∀ i, ∃ r : List Value, i < len → LeavesOk enc P w base spare held ls r ∧ ∀ j u, r[j]? = some u → w.cell? (a.add (i * ls.length + j)) = some u := by
      intro i
      by_cases hil : i < len
      · obtain ⟨cs', hcs, htr⟩ := hi i (by omega)
        have hok := leaves_ok n e k cs' _ ls htr hl
        obtain ⟨_, hl4, hat⟩ := World.cells?_some hcs
        refine ⟨cs', fun _ => ⟨hok, fun j u hu => ?_⟩⟩
        have hj : j < cs'.length := (List.getElem?_eq_some_iff.1 hu).1
        have := hat j (by rw [hc, hok.1]; exact hj)
        rw [hc] at this
        rw [← add_of_add, this]
        exact hu
      · exact ⟨[], fun h => absurd h hil⟩
    let f : Nat → List Value := fun i => Classical.choose (hall i)
    have hf : ∀ i, i < len → LeavesOk enc P w base spare held ls (f i) ∧ ∀ j u, (f i)[j]? = some u → w.cell? (a.add (i * ls.length + j)) = some u := fun i => Classical.choose_spec (hall i)
    have hrl : ∀ r ∈ (List.range len).map f, LeavesOk enc P w base spare held ls r := by
      intro r hr
      obtain ⟨i, hi2, rfl⟩ := List.mem_map.1 hr
      exact (hf i (by simpa using hi2)).1
    have hrs : ∀ r ∈ (List.range len).map f, r.length = ls.length := fun r hr => (hrl r hr).1.symm
    refine ⟨(List.range len).map f, by simp, ⟨by rw [flatten_len hrs]; simp, fun _ => ⟨a, rfl, fun j u hu => ?_⟩⟩, hrl, hlc, hcm⟩
    obtain ⟨r, h5, h6⟩ := rows_get hrs h0 hu
    rw [List.getElem?_map] at h5
    have hlt : j / ls.length < len := by
      rcases Nat.lt_or_ge (j / ls.length) len with h7 | h7
      · exact h7
      · rw [List.getElem?_eq_none (by simpa using h7)] at h5; simp at h5
    rw [List.getElem?_range hlt] at h5
    simp only [Option.map_some, Option.some.injEq] at h5
    subst h5
    have := (hf (j / ls.length) hlt).2 _ _ h6
    rwa [Nat.div_add_mod'] at this
/-- rows as the cells of a list of one's own -/
theorem rows_list {α : Type} {f : α → List Value} {p : α → Prop} : ∀ (L : List (List Value)), (∀ r ∈ L, ∃ y, r = f y ∧ p y) → ∃ l : List α, L.flatten = l.flatMap f ∧ L.length = l.length ∧ ∀ y ∈ l, p y
  | [], _ => ⟨[], rfl, rfl, by simp⟩
  | r :: L, h => by
    obtain ⟨y, rfl, hy⟩ := h r (List.mem_cons_self ..)
    obtain ⟨l, h1, h2, h3⟩ := rows_list L (fun x hx => h x (List.mem_cons_of_mem _ hx))
    exact ⟨y :: l, by rw [List.flatten_cons, h1, List.flatMap_cons], by simp [h2], by
      intro z hz
      rcases List.mem_cons.1 hz with rfl | hz
      · exact hy
      · exact h3 z hz⟩
end
end Go.Proofs.YtianlhigeabehaaGreatDoor

/- A slice of the call's own that need not begin where its block does ('l = l[1:]'): what reads, what an append makes of it. -/
namespace Go.Proofs.YtianlhigeabehaaGreatDoor
open Go.RowKit

theorem Blk.cells_ {t : TypeId} {g : Nat} : ∀ (vs : List Value) (o : Nat) (w : World) (cs : Array Value), Blk w g t cs → ∃ cs', Blk (w.setCells g o vs) g t cs' ∧ cs'.size = cs.size ∧
    ∀ i : Nat, cs'[i]? = if o ≤ i ∧ i < o + vs.length ∧ i < cs.size then vs[i - o]? else cs[i]?
  | [], o, w, cs, h => ⟨cs, h, rfl, fun i => by rw [if_neg (by simp; omega)]⟩
  | v :: r, o, w, cs, h => by
    obtain ⟨cs', h1, h2, h3⟩ := Blk.cells_ r (o + 1) _ _ (h.set_ o v)
    refine ⟨cs', h1, by simpa using h2, fun i => ?_⟩
    rw [h3 i]
    simp only [Array.size_setIfInBounds, List.length_cons]
    by_cases h4 : o + 1 ≤ i ∧ i < o + 1 + r.length ∧ i < cs.size
    · rw [if_pos h4, if_pos (by omega), show i - o = (i - (o + 1)) + 1 by omega]
      simp
    · rw [if_neg h4]
      by_cases h5 : o ≤ i ∧ i < o + (r.length + 1) ∧ i < cs.size
      · have h6 : i = o := by omega
        subst h6
        rw [if_pos h5]
        simp [h5.2.2]
      · rw [if_neg h5]
        rw [Array.getElem?_setIfInBounds]
        by_cases h6 : o = i
        · subst h6
          have h7 : ¬ o < cs.size := by omega
          simp [h7]
        · rw [if_neg h6]
theorem setCells_far {g k : Nat} (hne : k ≠ g) : ∀ (vs : List Value) (o : Nat) (w : World), (w.setCells g o vs).heap[k]? = w.heap[k]?
  | [], _, _ => rfl
  | _ :: r, o, _ => (setCells_far hne r (o + 1) _).trans (Below.heap_setCell _ _ _ _ hne)
theorem setCells_same (g : Nat) : ∀ (vs : List Value) (o : Nat) (w : World), (w.setCells g o vs).os = w.os ∧ (w.setCells g o vs).tape = w.tape ∧ (w.setCells g o vs).output = w.output ∧ (w.setCells g o vs).heap.size = w.heap.size
  | [], _, _ => ⟨rfl, rfl, rfl, rfl⟩
  | v :: r, o, w => by
    obtain ⟨a, b, c, d⟩ := setCells_same g r (o + 1) (w.setCell ⟨g, o, none⟩ v)
    exact ⟨a, b, c, by rw [World.setCells, d]; simp [World.setCell]⟩

/-- as OwnS, but the slice may begin within its block -/
def OwnW (o : Nat → Nat) (c : Nat) (w : World) (e : TypeId) (size : Nat) (v : Value) (n : Nat) (xs : List Value) : Prop :=
  xs.length = n * size ∧ ((v = .slice none 0 0 ∧ n = 0) ∨ ∃ g off cap cur, v = .slice (some ⟨g, off, none⟩) n cap ∧ Blk w g e cur ∧ o g = c ∧ n ≤ cap ∧ cap ≤ maxLen ∧ off + cap * size ≤ cur.size ∧ (cur.toList.drop off).take (n * size) = xs)

section
variable {o : Nat → Nat} {c : Nat} {w w' : World} {e : TypeId} {size n : Nat} {v : Value} {xs : List Value}
theorem OwnW.nil (o : Nat → Nat) (c : Nat) (w : World) (e : TypeId) (size : Nat) : OwnW o c w e size (.slice none 0 0) 0 [] := ⟨by simp, .inl ⟨rfl, rfl⟩⟩
theorem OwnW.of_own (h : OwnS o c w e size v n xs) : OwnW o c w e size v n xs := by
  refine ⟨h.1.1, ?_⟩
  rcases h.1.2 with ⟨a, b⟩ | ⟨g, cap, cur, rfl, _, hg, h1, h2, h3, h4⟩
  · exact .inl ⟨a, b⟩
  · exact .inr ⟨g, 0, cap, cur, rfl, hg, h.2 g rfl, h1, h2, by omega, by simpa using h4⟩
theorem OwnW.heap (h : OwnW o c w e size v n xs) (hb : ∀ g, v.ownBlock = some g → w'.heap[g]? = w.heap[g]?) {o' : Nat → Nat} (ho : ∀ g, v.ownBlock = some g → o' g = o g) : OwnW o' c w' e size v n xs := by
  refine ⟨h.1, ?_⟩
  rcases h.2 with hn | ⟨g, off, cap, cur, rfl, hg, hc, rest⟩
  · exact .inl hn
  · exact .inr ⟨g, off, cap, cur, rfl, (hb g rfl).trans hg, (ho g rfl).trans hc, rest⟩
theorem OwnW.lt (h : OwnW o c w e size v n xs) : ∀ g, v.ownBlock = some g → g < w.heap.size ∧ o g = c := by
  intro g hg
  rcases h.2 with ⟨rfl, _⟩ | ⟨g', off, cap, cur, rfl, hb, hc, _⟩
  · simp [Value.ownBlock] at hg
  · simp only [Value.ownBlock, Option.some.injEq] at hg
    subst hg
    exact ⟨hb.lt, hc⟩
theorem OwnW.step {o' : Nat → Nat} {D : Nat → Prop} (h : OwnW o c w e size v n xs) (hk : Step o D w o' w') (hne : ¬ D c) : OwnW o' c w' e size v n xs :=
  h.heap (fun g hg => hk.block g (h.lt g hg).1 (by rw [(h.lt g hg).2]; exact hne)) (fun g hg => hk.old g (h.lt g hg).1)
theorem OwnW.below_ (h : OwnW o c w e size v n xs) (hb : Below w.heap.size w w') : OwnW o c w' e size v n xs := h.heap (fun g hg => hb.block g (h.lt g hg).1) (fun _ _ => rfl)
theorem OwnW.alloc (h : OwnW o c w e size v n xs) (x : Obj) : OwnW o c (w.alloc x) e size v n xs := h.below_ ((Below.refl _ _).alloc (Nat.le_refl _) x)
theorem OwnW.drewN (h : OwnW o c w e size v n xs) (k : Nat) : OwnW o c (w.drewN k) e size v n xs := h
theorem OwnW.drew (h : OwnW o c w e size v n xs) : OwnW o c w.drew e size v n xs := h
theorem OwnW.setCell (h : OwnW o c w e size v n xs) {p : Addr} (hp : v.ownBlock ≠ some p.block) (u : Value) : OwnW o c (w.setCell p u) e size v n xs :=
  h.heap (fun g hg => Below.heap_setCell _ _ _ _ (by rintro rfl; exact hp hg)) (fun _ _ => rfl)
theorem OwnW.form (h : OwnW o c w e size v n xs) : ∃ A cap, v = .slice A n cap ∧ n ≤ cap ∧ cap ≤ maxLen := by
  rcases h.2 with ⟨rfl, rfl⟩ | ⟨g, off, cap, cur, rfl, _, _, h1, h2, _⟩
  · exact ⟨none, 0, rfl, Nat.le_refl _, Nat.zero_le _⟩
  · exact ⟨_, _, rfl, h1, h2⟩
theorem drop_take_get {l xs : List Value} {off k : Nat} (h : (l.drop off).take k = xs) {j : Nat} {u : Value} (hj : xs[j]? = some u) : l[off + j]? = some u := by
  rw [← h, List.getElem?_take] at hj
  split at hj
  · rwa [List.getElem?_drop] at hj
  · cases hj
theorem OwnW.reads {A : Option Addr} {cap : Nat} (h : OwnW o c w e size (.slice A n cap) n xs) : Reads w size A n xs := by
  refine ⟨h.1, fun hn => ?_⟩
  rcases h.2 with ⟨hv, h0⟩ | ⟨g, off, cap', cur, hv, hb, _, _, _, _, h4⟩
  · omega
  · simp only [Value.slice.injEq] at hv
    obtain ⟨rfl, _, _⟩ := hv
    refine ⟨_, rfl, fun j u hu => ?_⟩
    rw [Addr.add_lit, hb.cell]
    have := drop_take_get h4 hu
    simpa using this
/-- an element's cells, where there is one -/
theorem OwnW.open_ {A : Option Addr} {cap : Nat} (h : OwnW o c w e size (.slice A n cap) n xs) (hn : 0 < n) :
    ∃ g off, A = some ⟨g, off, none⟩ ∧ g < w.heap.size ∧ o g = c ∧ n ≤ cap ∧ ∀ j u, xs[j]? = some u → w.cell? ⟨g, off + j, none⟩ = some u := by
  rcases h.2 with ⟨hv, h0⟩ | ⟨g, off, cap', cur, hv, hb, hc, h1, _, _, h4⟩
  · omega
  · simp only [Value.slice.injEq] at hv
    obtain ⟨rfl, _, rfl⟩ := hv
    refine ⟨g, off, rfl, hb.lt, hc, h1, fun j u hu => ?_⟩
    rw [hb.cell]
    have := drop_take_get h4 hu
    simpa using this
/-- 'l[1:]' -/
theorem OwnW.tail {g off cap : Nat} (h : OwnW o c w e size (.slice (some ⟨g, off, none⟩) n cap) n xs) (hn : 0 < n) :
    OwnW o c w e size (.slice (some (if cap = 1 then ⟨g, off, none⟩ else ⟨g, off + size, none⟩)) (n - 1) (cap - 1)) (n - 1) (xs.drop size) := by
  rcases h.2 with ⟨hv, h0⟩ | ⟨g', off', cap', cur, hv, hb, hc, h1, h2, h3, h4⟩
  · omega
  · simp only [Value.slice.injEq, Option.some.injEq, Addr.mk.injEq] at hv
    obtain ⟨⟨rfl, rfl, _⟩, _, rfl⟩ := hv
    have hlen : (xs.drop size).length = (n - 1) * size := by rw [List.length_drop, h.1, Nat.sub_mul, Nat.one_mul]
    refine ⟨hlen, .inr ?_⟩
    by_cases hc1 : cap = 1
    · rw [if_pos hc1]
      subst hc1
      have hn1 : n = 1 := by omega
      subst hn1
      refine ⟨g, off, 0, cur, rfl, hb, hc, by omega, by unfold maxLen; omega, by omega, ?_⟩
      have : xs.drop size = [] := List.eq_nil_of_length_eq_zero (by simpa using hlen)
      simp [this]
    · rw [if_neg hc1]
      refine ⟨g, off + size, cap - 1, cur, rfl, hb, hc, by omega, by omega, ?_, ?_⟩
      · have : cap * size = (cap - 1) * size + size := by rw [← Nat.succ_mul]; congr 1; omega
        omega
      · rw [← h4, List.drop_take, List.drop_drop]
        congr 1
        rw [Nat.sub_mul, Nat.one_mul]
theorem ownW_blk_ne (h : OwnW o c w e size v n xs) {g : Nat} {t : TypeId} {cs : Array Value} (hg : Blk w g t cs) (hne : e ≠ t) : v.ownBlock ≠ some g := by
  rcases h.2 with ⟨rfl, _⟩ | ⟨g', off, cap, cur, rfl, hh, _⟩
  · simp [Value.ownBlock]
  · intro he
    have : g' = g := by simpa [Value.ownBlock] using he
    subst this
    exact hh.ne_ hg hne rfl
end

section
variable {P : Program} (w : World)
theorem run_append_W {o : Nat → Nat} {c0 : Nat} (t ty e : TypeId) (i : TypeInfo) (z : Value) (size bytes : Nat) (ht : P.underlying t = some (.slice e)) (hi : P.info? e = some i) (hz : i.zero = some z)
    (hsize : i.size = size) (hby : i.bytes = bytes) (hzs : z.cells.size = size) (hsz : 0 < size)
    (v : Value) (n : Nat) (xs : List Value) (hown : OwnW o c0 w e size v n xs)
    (A : Option Addr) (m c : Nat) (news : List Value) (hr : Reads w size A m news) (h1 : ∀ u ∈ news, u.oneCell' = true)
    (h63 : n + m ≤ maxLen) (hbytes : (n + m) * bytes ≤ 140737488355328) :
    ∃ v' w', (Builtin.append_ #[t, t] ty #[v, .slice A m c]).run P w = .ok v' w' ∧ OwnW (band o w.heap.size w'.heap.size c0) c0 w' e size v' (n + m) (xs ++ news) ∧ Step o (only c0) w (band o w.heap.size w'.heap.size c0) w' := by
  have fin : ∀ v' w', w'.ownsRow w.heap.size e size v' (n + m) (xs ++ news) → w.grownBy w' none →
      OwnW (band o w.heap.size w'.heap.size c0) c0 w' e size v' (n + m) (xs ++ news) ∧ Step o (only c0) w (band o w.heap.size w'.heap.size c0) w' := by
    intro v' w' h2 h3
    refine ⟨OwnW.of_own ⟨⟨h2.1, h2.2.imp id (fun ⟨g, cap, cur, a1, a2, a3⟩ => ⟨g, cap, cur, a1, Nat.zero_le _, a3⟩)⟩, fun g hg => ?_⟩, (Step.refl o (only c0) w).grown h3 (by simp)⟩
    have := h2.lt g hg
    exact band_in this.1 this.2
  have same : OwnW (band o w.heap.size w.heap.size c0) c0 w e size v n xs ∧ Step o (only c0) w (band o w.heap.size w.heap.size c0) w :=
    ⟨hown.heap (fun _ _ => rfl) (fun g hg => band_lt (hown.lt g hg).1), ⟨rfl, rfl, rfl, Nat.le_refl _, fun _ hk => band_lt hk, fun _ hk => band_ge hk, fun _ _ _ => rfl⟩⟩
  by_cases hm : m = 0
  · subst hm
    have hn : news = [] := List.eq_nil_of_length_eq_zero (by simpa using hr.1)
    subst hn
    refine ⟨v, w, ?_, by simpa using same.1, same.2⟩
    rcases hown.2 with ⟨rfl, rfl⟩ | ⟨g, off, cap, cur, rfl, _, _, hnc, _⟩
    · cases A <;> simp [Builtin.append_, run_underlying ht, sizeOf, typeInfo, hi, Builtin.lenOf, Builtin.firstCells, loadCells, loadCellsFrom]
    · cases A <;> simp [Builtin.append_, run_underlying ht, sizeOf, typeInfo, hi, Builtin.lenOf, Builtin.firstCells, hnc, storeCells, loadCells, loadCellsFrom]
  · obtain ⟨ad, rfl, hcells⟩ := hr.2 (by omega)
    rcases hown.2 with ⟨rfl, rfl⟩ | ⟨g, off, cap, cur, rfl, hb, hgc, hnc, hcm, hcs, htake⟩
    · have hx : xs = [] := List.eq_nil_of_length_eq_zero (by simpa using hown.1)
      subst hx
      obtain ⟨v', w', hrun, h2, h3, _⟩ := run_append_own (P := P) w w.heap.size t ty e i z size bytes ht hi hz hsize hby hzs hsz (.slice none 0 0) 0 [] (World.ownsRow_nil w _ e size) ad m c news hr.1 hcells h1 h63 hbytes (Nat.le_refl _)
      obtain ⟨f1, f2⟩ := fin v' w' h2 (by simpa [Value.ownBlock] using h3)
      exact ⟨v', w', hrun, f1, f2⟩
    · by_cases hroom : n + m ≤ cap
      · subst hsize
        have hfit : off + n * i.size + news.length ≤ cur.size := by
          have : (n + m) * i.size ≤ cap * i.size := Nat.mul_le_mul_right _ hroom
          rw [Nat.add_mul] at this
          rw [hr.1]
          omega
        have hrun := run_append_room_cells (P := P) w t ty e i ht hi g off n cap ad m c news hr.1 hcells h1 hroom
          (fun j hj => by obtain ⟨u, hu⟩ := hb.cell_some (i := off + n * i.size + j) (by omega); rw [hu]; rfl) (fun j hj => hb.frozen _)
        obtain ⟨cs', b1, b2, b3⟩ := Blk.cells_ news (off + n * i.size) w cur hb
        obtain ⟨s1, s2, s3, s4⟩ := setCells_same g news (off + n * i.size) w
        refine ⟨_, _, hrun, ⟨by rw [List.length_append, hown.1, hr.1, Nat.add_mul], .inr ⟨g, off, cap, cs', rfl, b1, by rw [band_lt hb.lt]; exact hgc, hroom, hcm, by omega, ?_⟩⟩, ⟨s1, s2, s3, by omega, fun _ hk => band_lt hk, fun _ hk => band_ge hk, fun k hk hne => setCells_far (fun e => hne (by rw [e]; exact hgc)) _ _ _⟩⟩
        apply List.ext_getElem?
        intro j
        rw [List.getElem?_take, List.getElem?_drop]
        simp only [Array.getElem?_toList, b3]
        have hxl := hown.1
        have hnl := hr.1
        by_cases hj : j < (n + m) * i.size
        · rw [if_pos hj]
          rw [Nat.add_mul] at hj
          by_cases hj2 : j < n * i.size
          · rw [if_neg (by omega), List.getElem?_append_left (by omega)]
            obtain ⟨u, hu⟩ : ∃ u, xs[j]? = some u := ⟨_, List.getElem?_eq_getElem (by omega)⟩
            rw [hu]
            have := drop_take_get htake hu
            simpa using this
          · rw [if_pos (by omega), List.getElem?_append_right (by omega)]
            congr 1
            omega
        · rw [if_neg hj, List.getElem?_eq_none]
          rw [Nat.add_mul] at hj
          rw [List.length_append]
          omega
      · obtain ⟨v', w', hrun, h2, h3⟩ := run_append_arg_grows (P := P) w t ty e i z size bytes ht hi hz hsize hby hzs hsz ⟨g, off, none⟩ n cap xs hown.1 (fun j u hj => by
          rw [Addr.add_lit, hb.cell]
          have := drop_take_get htake hj
          simpa using this) ad m c news hr.1 hcells (by omega) h63 hbytes
        obtain ⟨f1, f2⟩ := fin v' w' h2 h3
        exact ⟨v', w', hrun, f1, f2⟩

theorem wp_append_W {op : Oper} {a : Act} {K : Act → World → Prop} {Q : Exit → Act → World → Prop} {o : Nat → Nat} {c0 : Nat} (s x : Operand) (t : TypeId)
    (ho : op.op = .call { callee := .builtin .append, args := #[s, x], argTypes := #[t, t] })
    (e : TypeId) (i : TypeInfo) (z : Value) (size bytes : Nat) (ht : P.underlying t = some (.slice e)) (hi : P.info? e = some i) (hz : i.zero = some z)
    (hsize : i.size = size) (hby : i.bytes = bytes) (hzs : z.cells.size = size) (hsz : 0 < size)
    (v : Value) (n : Nat) (xs : List Value) (hs : a.eval s = v) (hown : OwnW o c0 w e size v n xs)
    (A : Option Addr) (m c : Nat) (news : List Value) (hx : a.eval x = .slice A m c) (hr : Reads w size A m news) (h1 : ∀ u ∈ news, u.oneCell' = true)
    (h63 : n + m ≤ maxLen) (hbytes : (n + m) * bytes ≤ 140737488355328)
    (h : ∀ v' w', OwnW (band o w.heap.size w'.heap.size c0) c0 w' e size v' (n + m) (xs ++ news) → Step o (only c0) w (band o w.heap.size w'.heap.size c0) w' → K (a.put op.dst v') w') : op.wp P a w K Q := by
  obtain ⟨v', w', hrun, h2, h3⟩ := run_append_W (P := P) w t op.type e i z size bytes ht hi hz hsize hby hzs hsz v n xs hown A m c news hr h1 h63 hbytes
  unfold Oper.wp execOp
  simp only [ho, resolve, invoke, builtin, Sem.run_bind, Sem.run_pure, Result.andThen_ok, List.map_toArray, List.map_cons, List.map_nil, hs, hx, hrun]
  exact h v' w' h2 h3

theorem wpList_append_W {ops : Array Oper} {rest : List Oper} {op : Oper} {a : Act} {Q : Exit → Act → World → Prop} (hgd : op.guard = none) {o : Nat → Nat} {c0 : Nat} (s x : Operand) (t : TypeId)
    (ho : op.op = .call { callee := .builtin .append, args := #[s, x], argTypes := #[t, t] })
    (e : TypeId) (i : TypeInfo) (z : Value) (size bytes : Nat) (ht : P.underlying t = some (.slice e)) (hi : P.info? e = some i) (hz : i.zero = some z)
    (hsize : i.size = size) (hby : i.bytes = bytes) (hzs : z.cells.size = size) (hsz : 0 < size)
    (v : Value) (n : Nat) (xs : List Value) (hs : a.eval s = v) (hown : OwnW o c0 w e size v n xs)
    (A : Option Addr) (m c : Nat) (news : List Value) (hx : a.eval x = .slice A m c) (hr : Reads w size A m news) (h1 : ∀ u ∈ news, u.oneCell' = true)
    (h63 : n + m ≤ maxLen) (hbytes : (n + m) * bytes ≤ 140737488355328)
    (h : ∀ v' w', OwnW (band o w.heap.size w'.heap.size c0) c0 w' e size v' (n + m) (xs ++ news) → Step o (only c0) w (band o w.heap.size w'.heap.size c0) w' → wpList P ops Q rest (a.put op.dst v') w') : wpList P ops Q (op :: rest) a w :=
  wpList_plain hgd fun _ hK => wp_append_W w s x t ho e i z size bytes ht hi hz hsize hby hzs hsz v n xs hs hown A m c news hx hr h1 h63 hbytes fun v' w' h2 h3 => hK _ _ (h v' w' h2 h3)

theorem step_append_W {ops : Array Oper} {op : Oper} {a : Act} {K : Act → World → Prop} {Q : Exit → Act → World → Prop} {E : Prop} (hgd : op.guard = none) {o : Nat → Nat} {c0 : Nat} (s x : Operand) (t : TypeId)
    (ho : op.op = .call { callee := .builtin .append, args := #[s, x], argTypes := #[t, t] })
    (e : TypeId) (i : TypeInfo) (z : Value) (size bytes : Nat) (ht : P.underlying t = some (.slice e)) (hi : P.info? e = some i) (hz : i.zero = some z)
    (hsize : i.size = size) (hby : i.bytes = bytes) (hzs : z.cells.size = size) (hsz : 0 < size)
    (v : Value) (n : Nat) (xs : List Value) (hs : a.eval s = v) (hown : OwnW o c0 w e size v n xs)
    (A : Option Addr) (m c : Nat) (news : List Value) (hx : a.eval x = .slice A m c) (hr : Reads w size A m news) (h1 : ∀ u ∈ news, u.oneCell' = true)
    (h63 : n + m ≤ maxLen) (hbytes : (n + m) * bytes ≤ 140737488355328)
    (h : ∀ v' w', OwnW (band o w.heap.size w'.heap.size c0) c0 w' e size v' (n + m) (xs ++ news) → Step o (only c0) w (band o w.heap.size w'.heap.size c0) w' → K (a.put op.dst v') w') :
    if Region.wanted op (yielded ops a.tmps) = true then Oper.wp P op a w K Q else E := by
  have hw : Region.wanted op (yielded ops a.tmps) = true := by simp [Region.wanted, hgd]
  rw [if_pos hw]
  exact wp_append_W w s x t ho e i z size bytes ht hi hz hsize hby hzs hsz v n xs hs hown A m c news hx hr h1 h63 hbytes h
end
end Go.Proofs.YtianlhigeabehaaGreatDoor
