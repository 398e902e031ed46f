/- What comes in, opened by the shape of its type: the cells of a value whose type is made of ints, strings, bools and slices; a slice of such ones reads as a list. -/
import Derived.Test.YtllbionkmgpcaaaGreatDoorKFrame
import Derived.ChangeArms
import Derived.Deep.Slices
import Derived.Test.YtllbionkmgpcaaaGreatDoorKCardBase
import Derived.Test.YtllbionkmgpcaaaGreatDoorKBase
import Derived.MapKept
namespace Go.Proofs.YtllbionkmgpcaaaGreatDoor
open Go.ChangeShapes Go.WideShapes Go.ChangeAt Go.RowKit Go.Joins Go.Deep

/-- what one cell may be -/
inductive Leaf where
  | int (k : IntKind)
  | str
  | bool
  | slice (t : TypeId)
def leavesF (P : Program) (L : TypeId → Option (List Leaf)) : List Field → List Leaf → Option (List Leaf)
  | [], acc => some acc
  | f :: fs, acc => if f.offset = acc.length then (match L f.type with
    | some l => if l.length = P.cellsOf f.type then leavesF P L fs (acc ++ l) else none
    | none => none) else none
/-- the cells of a type, as far as it is made of such -/
def leaves (P : Program) : Nat → TypeId → Option (List Leaf)
  | 0, _ => none
  | n + 1, t => match P.underlying t with
    | some (.int k) => some [.int k]
    | some .string => some [.str]
    | some .bool => some [.bool]
    | some (.slice _) => some [.slice t]
    | some (.struct fs) => match leavesF P (leaves P n) fs.toList [] with
      | some l => if l.length = P.cellsOf t then some l else none
      | none => none
    | _ => none
section
variable {H : Type} (enc : TypeId × Value → H) (P : Program) (w : World) (base : Nat) (spare : Nat → Bool) (held : Bool)
def LeafOk : Leaf → Value → Prop
  | .int k, v => ∃ a, v = .int k a ∧ (Lit.int k a).wf = true
  | .str, v => ∃ s : ByteArray, v = .string s ∧ s.size ≤ maxLen
  | .bool, v => ∃ b, v = .bool b
  | .slice t, v => ∃ fuel x, DataW.trod enc P w base spare held fuel t [v] = some x
def LeavesOk (ls : List Leaf) (cs : List Value) : Prop := ls.length = cs.length ∧ ∀ (i : Nat) l c, ls[i]? = some l → cs[i]? = some c → LeafOk enc P w base spare held l c
end
section
variable {H : Type} {enc : TypeId × Value → H} {P : Program} {w : World} {base : Nat} {spare : Nat → Bool} {held : Bool}
theorem LeavesOk.cons {l : Leaf} {ls : List Leaf} {cs : List Value} (h : LeavesOk enc P w base spare held (l :: ls) cs) : ∃ c cs', cs = c :: cs' ∧ LeafOk enc P w base spare held l c ∧ LeavesOk enc P w base spare held ls cs' := by
  obtain ⟨h1, h2⟩ := h
  cases cs with
  | nil => simp at h1
  | cons c cs => exact ⟨c, cs, rfl, h2 0 l c rfl rfl, by simpa using h1, fun i l' c' h3 h4 => h2 (i + 1) l' c' (by simpa using h3) (by simpa using h4)⟩
theorem LeavesOk.nil {cs : List Value} (h : LeavesOk enc P w base spare held [] cs) : cs = [] := List.eq_nil_of_length_eq_zero h.1.symm
theorem leavesF_ok {n : Nat} {L : TypeId → Option (List Leaf)} {cs : List Value} (hL : ∀ t ds x ls, DataW.trod enc P w base spare held n t ds = some x → L t = some ls → LeavesOk enc P w base spare held ls ds) :
    ∀ (fs : List Field) (acc ls : List Leaf), (∀ f ∈ fs, ∃ y, DataW.trod enc P w base spare held n f.type ((cs.drop f.offset).take (P.cellsOf f.type)) = some y) →
      (∀ (i : Nat) l c, acc[i]? = some l → cs[i]? = some c → LeafOk enc P w base spare held l c) → leavesF P L fs acc = some ls → ∀ (i : Nat) l c, ls[i]? = some l → cs[i]? = some c → LeafOk enc P w base spare held l c
  | [], acc, ls, _, ha, h => by
    simp only [leavesF, Option.some.injEq] at h
    subst h
    exact ha
  | f :: fs, acc, ls, hf, ha, h => by
    simp only [leavesF] at h
    split at h
    · rename_i hoff
      split at h
      · rename_i l hl
        split at h
        · rename_i hk
          refine leavesF_ok hL fs (acc ++ l) ls (fun g hg => hf g (List.mem_cons_of_mem _ hg)) ?_ h
          intro i lf c h1 h2
          by_cases hi : i < acc.length
          · rw [List.getElem?_append_left hi] at h1
            exact ha i lf c h1 h2
          · rw [List.getElem?_append_right (by omega)] at h1
            obtain ⟨y, hy⟩ := hf f (List.mem_cons_self ..)
            have hlt := (List.getElem?_eq_some_iff.1 h1).1
            refine (hL _ _ _ _ hy hl).2 (i - acc.length) lf c h1 ?_
            rw [List.getElem?_take, if_pos (by omega), List.getElem?_drop, ← h2]
            congr 1
            omega
        · cases h
      · cases h
    · cases h
theorem leaves_ok : ∀ (n : Nat) (t : TypeId) (fuel : Nat) (cs : List Value) (x : DataW H × List MemPlace) (ls : List Leaf), DataW.trod enc P w base spare held fuel t cs = some x → leaves P n t = some ls → LeavesOk enc P w base spare held ls cs
  | 0, _, _, _, _, _, _, h => by cases h
  | n + 1, t, fuel, cs, x, ls, hx, h => by
    have one : ∀ {l : Leaf} {c : Value}, LeafOk enc P w base spare held l c → LeavesOk enc P w base spare held [l] [c] := by
      intro l c hc
      refine ⟨rfl, fun i l' c' h1 h2 => ?_⟩
      cases i with
      | zero => simp at h1 h2; subst h1 h2; exact hc
      | succ i => simp at h1
    simp only [leaves] at h
    split at h
    · rename_i k hu
      injection h with h
      subst h
      obtain ⟨a, rfl, _, hw⟩ := DataW.trod_int hu hx
      exact one ⟨a, rfl, hw⟩
    · rename_i hu
      injection h with h
      subst h
      obtain ⟨s, rfl, _, hw⟩ := DataW.trod_string hu hx
      exact one ⟨s, rfl, hw⟩
    · rename_i hu
      injection h with h
      subst h
      obtain ⟨b, rfl, _⟩ := DataW.trod_bool hu hx
      exact one ⟨b, rfl⟩
    · rename_i e hu
      injection h with h
      subst h
      rcases open_slice hu hx with ⟨rfl, _⟩ | ⟨a, len, cap, m, k, D, Pl, rfl, _⟩
      · exact one ⟨fuel, x, hx⟩
      · exact one ⟨fuel, x, hx⟩
    · rename_i fs hu
      obtain ⟨xs, k, rfl, _, hlen, hxl, hg⟩ := DataW.trod_struct hu hx
      split at h
      · rename_i l hl
        split at h
        · rename_i hc
          injection h with h
          subst h
          refine ⟨by rw [hc, hlen], leavesF_ok (n := k) (fun t ds y ls' h1 h2 => leaves_ok n t k ds y ls' h1 h2) fs.toList [] l (fun f hf => ?_) (fun i l c h1 => by simp at h1) hl⟩
          obtain ⟨i, hi, rfl⟩ := List.mem_iff_getElem.1 hf
          have hi2 : i < xs.length := by rw [hxl]; simpa using hi
          exact ⟨xs[i], (hg i _ (by simp at hi; simp [hi])).trans (List.getElem?_eq_getElem hi2)⟩
        · cases h
      · cases h
    · cases h
theorem rows_get {s : Nat} {L : List (List Value)} (hs : ∀ r ∈ L, r.length = s) {j : Nat} {u : Value} (hs0 : 0 < s) (h : L.flatten[j]? = some u) : ∃ r, L[j / s]? = some r ∧ r[j % s]? = some u := by
  induction L generalizing j with
  | nil => simp at h
  | cons r L ih =>
    have hr : r.length = s := hs r (List.mem_cons_self ..)
    rw [List.flatten_cons] at h
    by_cases hj : j < s
    · rw [List.getElem?_append_left (by omega)] at h
      exact ⟨r, by rw [Nat.div_eq_of_lt hj]; rfl, by rw [Nat.mod_eq_of_lt hj]; exact h⟩
    · rw [List.getElem?_append_right (by omega), hr] at h
      obtain ⟨r', h1, h2⟩ := ih (fun x hx => hs x (List.mem_cons_of_mem _ hx)) h
      have e1 : j / s = (j - s) / s + 1 := by
        rw [← Nat.add_div_right _ hs0]
        congr 1
        omega
      have e2 : j % s = (j - s) % s := by
        rw [← Nat.add_mod_right (j - s) s]
        congr 1
        omega
      exact ⟨r', by rw [e1]; simpa using h1, by rw [e2]; exact h2⟩
theorem flatten_len {s : Nat} {L : List (List Value)} (hs : ∀ r ∈ L, r.length = s) : L.flatten.length = L.length * s := by
  induction L with
  | nil => simp
  | cons r L ih => rw [List.flatten_cons, List.length_append, ih (fun x hx => hs x (List.mem_cons_of_mem _ hx)), hs r (List.mem_cons_self ..), List.length_cons, Nat.add_mul]; omega
/-- a slice that came in, as rows -/
theorem open_rows {t e : TypeId} {n fuel : Nat} {ls : List Leaf} {A : Option Addr} {len cap : Nat} {x : DataW H × List MemPlace} (ht : P.underlying t = some (.slice e)) (hl : leaves P n e = some ls) (hc : P.cellsOf e = ls.length) (h0 : 0 < ls.length)
    (h : DataW.trod enc P w base spare held fuel t [.slice A len cap] = some x) :
    ∃ L : List (List Value), L.length = len ∧ Reads w ls.length A len L.flatten ∧ (∀ r ∈ L, LeavesOk enc P w base spare held ls r) ∧ len ≤ cap ∧ cap ≤ maxLen := by
  rcases open_slice ht h with ⟨hc, _⟩ | ⟨a, len', cap', m, k, D, Pl, hcs, _, hlc, hcm, hm, _, hi⟩
  · simp only [List.cons.injEq, Value.slice.injEq, and_true] at hc
    obtain ⟨rfl, rfl, rfl⟩ := hc
    exact ⟨[], rfl, Reads.none_ _ _ _, by simp, Nat.le_refl _, Nat.zero_le _⟩
  · simp only [List.cons.injEq, Value.slice.injEq, and_true] at hcs
    obtain ⟨rfl, rfl, rfl⟩ := hcs
    have hml : len ≤ m := by rw [hm]; split <;> omega
    have hall : ∀ i, ∃ r : List Value, i < len → LeavesOk enc P w base spare held ls r ∧ ∀ j u, r[j]? = some u → w.cell? (a.add (i * ls.length + j)) = some u := by
      intro i
      by_cases hil : i < len
      · obtain ⟨cs', hcs, htr⟩ := hi i (by omega)
        have hok := leaves_ok n e k cs' _ ls htr hl
        obtain ⟨_, hl4, hat⟩ := World.cells?_some hcs
        refine ⟨cs', fun _ => ⟨hok, fun j u hu => ?_⟩⟩
        have hj : j < cs'.length := (List.getElem?_eq_some_iff.1 hu).1
        have := hat j (by rw [hc, hok.1]; exact hj)
        rw [hc] at this
        rw [← add_of_add, this]
        exact hu
      · exact ⟨[], fun h => absurd h hil⟩
    let f : Nat → List Value := fun i => Classical.choose (hall i)
    have hf : ∀ i, i < len → LeavesOk enc P w base spare held ls (f i) ∧ ∀ j u, (f i)[j]? = some u → w.cell? (a.add (i * ls.length + j)) = some u := fun i => Classical.choose_spec (hall i)
    have hrl : ∀ r ∈ (List.range len).map f, LeavesOk enc P w base spare held ls r := by
      intro r hr
      obtain ⟨i, hi2, rfl⟩ := List.mem_map.1 hr
      exact (hf i (by simpa using hi2)).1
    have hrs : ∀ r ∈ (List.range len).map f, r.length = ls.length := fun r hr => (hrl r hr).1.symm
    refine ⟨(List.range len).map f, by simp, ⟨by rw [flatten_len hrs]; simp, fun _ => ⟨a, rfl, fun j u hu => ?_⟩⟩, hrl, hlc, hcm⟩
    obtain ⟨r, h5, h6⟩ := rows_get hrs h0 hu
    rw [List.getElem?_map] at h5
    have hlt : j / ls.length < len := by
      rcases Nat.lt_or_ge (j / ls.length) len with h7 | h7
      · exact h7
      · rw [List.getElem?_eq_none (by simpa using h7)] at h5; simp at h5
    rw [List.getElem?_range hlt] at h5
    simp only [Option.map_some, Option.some.injEq] at h5
    subst h5
    have := (hf (j / ls.length) hlt).2 _ _ h6
    rwa [Nat.div_add_mod'] at this
/-- rows as the cells of a list of one's own -/
theorem rows_list {α : Type} {f : α → List Value} {p : α → Prop} : ∀ (L : List (List Value)), (∀ r ∈ L, ∃ y, r = f y ∧ p y) → ∃ l : List α, L.flatten = l.flatMap f ∧ L.length = l.length ∧ ∀ y ∈ l, p y
  | [], _ => ⟨[], rfl, rfl, by simp⟩
  | r :: L, h => by
    obtain ⟨y, rfl, hy⟩ := h r (List.mem_cons_self ..)
    obtain ⟨l, h1, h2, h3⟩ := rows_list L (fun x hx => h x (List.mem_cons_of_mem _ hx))
    exact ⟨y :: l, by rw [List.flatten_cons, h1, List.flatMap_cons], by simp [h2], by
      intro z hz
      rcases List.mem_cons.1 hz with rfl | hz
      · exact hy
      · exact h3 z hz⟩
end
end Go.Proofs.YtllbionkmgpcaaaGreatDoor

/- A slice of uint64 that came in, opened. -/
namespace Go.Proofs.YtllbionkmgpcaaaGreatDoor
open Go.ChangeShapes Go.WideShapes Go.ChangeAt Go.RowKit Go.Joins Go.Deep

theorem leaves_u64 : leaves Tryz.prog 6 36 = some [.int .u64] := by kernel_rfl
theorem cells_u64 : Tryz.prog.cellsOf 36 = 1 := by kernel_rfl
def numcells (l : List Nat) : List Value := l.flatMap (fun v : Nat => [.int .u64 v])
section
variable {H : Type} {enc : TypeId × Value → H} {w : World} {base : Nat} {spare : Nat → Bool} {held : Bool}
set_option maxRecDepth 100000 in
theorem open_nums {r : Reach} {b0 : Nat} {v : Value} {d : DataW H} {p : List MemPlace} (hv : Value.okWide Tryz.prog w r b0 22 v) (h : DataW.Trod enc Tryz.prog w base spare held 22 v d p) :
    ∃ (l : List Nat) (A : Option Addr) (cap : Nat), v = .slice A l.length cap ∧ Reads w 1 A l.length (numcells l) ∧ l.length ≤ maxLen ∧ ∀ v ∈ l, v < 18446744073709551616 := by
  obtain ⟨fuel, hf⟩ := h
  obtain ⟨A, len, cap, rfl⟩ := okWide_slice Tryz.underlying22 hv
  obtain ⟨L, h1, h2, h3, h4, h5⟩ := open_rows Tryz.underlying22 leaves_u64 cells_u64 (by decide) hf
  obtain ⟨l, e1, e2, e3⟩ := rows_list (f := fun v : Nat => [Value.int .u64 v]) (p := fun v => v < 18446744073709551616) L (fun r hr => by
    obtain ⟨c0, r0, rfl, ⟨a, rfl, wa⟩, k0⟩ := (h3 r hr).cons
    obtain rfl := k0.nil
    have := wf_u64_in wa
    refine ⟨a.toNat, ?_, by omega⟩
    rw [show ((a.toNat : Nat) : Int) = a by omega])
  have e4 : len = l.length := h1.symm.trans e2
  rw [e1] at h2
  subst e4
  exact ⟨l, A, cap, rfl, h2, by unfold maxLen at *; omega, e3⟩
end
end Go.Proofs.YtllbionkmgpcaaaGreatDoor

/- A map with int keys in memory, as a function: look-up, update, a new one; values of whatever form. -/
namespace Go.Proofs.YtllbionkmgpcaaaGreatDoor
open Go.RowKit Go.MapKept

/-- the entries read as the function f -/
def EsR (es : Array MapEntry) (f : Int → Option Value) : Prop := ∀ k v, f k = some v ↔ ∃ e ∈ es.toList, e.key = .int .i64 k ∧ e.val = v
/-- the map of block m, of colour c, reads as the function f -/
def MapR (o : Nat → Nat) (c : Nat) (w : World) (m : Nat) (f : Int → Option Value) : Prop :=
  o m = c ∧ ∃ es clock, w.heap[m]? = some (.map es clock) ∧ Stamped es clock ∧ (∀ x ∈ es.toList, IsKey (.int .i64) x.key) ∧ EsR es f
def upd {α : Type} (f : Int → Option α) (k : Int) (v : α) : Int → Option α := fun j => if j = k then some v else f j
theorem upd_same {α : Type} (f : Int → Option α) (k : Int) (v : α) : upd f k v k = some v := if_pos rfl
theorem upd_other {α : Type} (f : Int → Option α) {k j : Int} (v : α) (h : j ≠ k) : upd f k v j = f j := if_neg h

theorem nodup_at {l : List Value} (h : l.Nodup) {i j : Nat} {v : Value} (hi : l[i]? = some v) (hj : l[j]? = some v) : i = j := by
  obtain ⟨h1, h2⟩ := List.getElem?_eq_some_iff.1 hi
  obtain ⟨h3, h4⟩ := List.getElem?_eq_some_iff.1 hj
  rcases Nat.lt_trichotomy i j with hlt | he | hlt
  · exact absurd (h2.trans h4.symm) (List.pairwise_iff_getElem.1 h i j h1 h3 hlt)
  · exact he
  · exact absurd (h4.trans h2.symm) (List.pairwise_iff_getElem.1 h j i h3 h1 hlt)
section
variable {o o' : Nat → Nat} {c : Nat} {D : Nat → Prop} {w w' : World} {m : Nat} {f g : Int → Option Value}
theorem MapR.lt (h : MapR o c w m f) : m < w.heap.size := by
  obtain ⟨_, es, clock, h1, _⟩ := h
  exact (Array.getElem?_eq_some_iff.1 h1).1
theorem MapR.heap (h : MapR o c w m f) (hb : w'.heap[m]? = w.heap[m]?) (ho : o' m = o m) : MapR o' c w' m f := by
  obtain ⟨hc, es, clock, h1, h2⟩ := h
  exact ⟨ho.trans hc, es, clock, hb.trans h1, h2⟩
theorem MapR.step (h : MapR o c w m f) (hk : Step o D w o' w') (hne : ¬ D c) : MapR o' c w' m f :=
  h.heap (hk.block m h.lt (by rw [h.1]; exact hne)) (hk.old m h.lt)
theorem MapR.below_ (h : MapR o c w m f) (hb : Below w.heap.size w w') : MapR o c w' m f := h.heap (hb.block m h.lt) rfl
theorem MapR.alloc (h : MapR o c w m f) (x : Obj) : MapR o c (w.alloc x) m f := h.below_ ((Below.refl _ _).alloc (Nat.le_refl _) x)
theorem MapR.drew (h : MapR o c w m f) : MapR o c w.drew m f := h
theorem MapR.drewN (h : MapR o c w m f) (n : Nat) : MapR o c (w.drewN n) m f := h
theorem MapR.new (o : Nat → Nat) (w : World) : MapR o (o w.heap.size) (w.alloc (.map #[] 0)) w.heap.size (fun _ => none) := by
  refine ⟨rfl, #[], 0, heap_alloc_new w _, stamped_empty 0, by simp, fun k v => ?_⟩
  simp
theorem MapR.newAs (o : Nat → Nat) (w : World) (c : Nat) (h : o w.heap.size = c) : MapR o c (w.alloc (.map #[] 0)) w.heap.size (fun _ => none) := by
  subst h
  exact MapR.new o w
section
variable {P : Program} {t kt e : TypeId}
/-- 'm[k]' -/
theorem MapR.look (h : MapR o c w m f) (ht : P.underlying t = some (.map kt e)) (hk : P.underlying kt = some (.int .i64)) {z : Value} (hz : (zeroValue e).run P w = .ok z w) (k : Int) (ok : Bool) :
    (Instr.lookup t (.map (some m)) (.int .i64 k) ok).run P w = .ok (if ok then .tuple #[(f k).getD z, .bool (f k).isSome] else (f k).getD z) w := by
  obtain ⟨_, es, clock, h1, hst, hks, hf⟩ := h
  have hkk : IsKey (.int .i64) (.int .i64 k) := rfl
  rcases findNow_spec hkk es.toList 0 hks with ⟨h3, h4⟩ | ⟨j, x, h3, h4, h5⟩
  · have hn : f k = none := by
      cases hfk : f k with
      | none => rfl
      | some v =>
        obtain ⟨x, hx, e1, _⟩ := (hf k v).1 hfk
        exact absurd e1 (h4 x hx)
    simp [Instr.lookup, run_underlying ht, Go.MapKept.run_getObj_map h1, run_checkKey hk hkk, run_findKey hk h3, Result.andThen, hz, hn]
  · have hs : f k = some x.val := (hf k x.val).2 ⟨x, List.mem_of_getElem? h4, h5, rfl⟩
    simp [Instr.lookup, run_underlying ht, Go.MapKept.run_getObj_map h1, run_checkKey hk hkk, run_findKey hk h3, Result.andThen, hs]
theorem setHeap_step (hc : o m = c) (x : Obj) : Step o (only c) w o { w with heap := w.heap.setIfInBounds m x } :=
  ⟨rfl, rfl, rfl, by simp, fun _ _ => rfl, fun _ _ => rfl, fun k _ hne => by
    have : m ≠ k := by
      rintro rfl
      exact hne hc
    simp [this]⟩
theorem setHeap_blk {es : Array MapEntry} {clock : Nat} (h1 : w.heap[m]? = some (.map es clock)) (x : Obj) : ∀ g t cs, Blk w g t cs → Blk { w with heap := w.heap.setIfInBounds m x } g t cs := by
  intro g t cs h
  unfold Blk at h ⊢
  have : m ≠ g := by
    rintro rfl
    rw [h1] at h
    cases h
  simpa [Array.getElem?_setIfInBounds, this] using h
/-- 'm[k] = v' -/
theorem MapR.put (h : MapR o c w m f) (ht : P.underlying t = some (.map kt e)) (hk : P.underlying kt = some (.int .i64)) (k : Int) (v : Value) :
    ∃ w', (Instr.mapUpdate t (.map (some m)) (.int .i64 k) v).run P w = .ok () w' ∧ MapR o c w' m (upd f k v) ∧ Step o (only c) w o w' ∧ ∀ g t cs, Blk w g t cs → Blk w' g t cs := by
  obtain ⟨hc, es, clock, h1, hst, hks, hf⟩ := h
  have hkk : IsKey (.int .i64) (.int .i64 k) := rfl
  rcases findNow_spec hkk es.toList 0 hks with ⟨h3, h4⟩ | ⟨j, x, h3, h4, h5⟩
  · refine ⟨_, by simp [Instr.mapUpdate, run_underlying ht, Go.MapKept.run_getObj_map h1, run_checkKey hk hkk, run_findKey hk h3, run_setObj_map _ h1, Result.andThen]; rfl, ⟨hc, _, _, (heap_set h1).1, stamped_push hst h4, ?_, fun j u => ?_⟩, setHeap_step hc _, setHeap_blk h1 _⟩
    · intro y hy
      simp only [Array.toList_push, List.mem_append, List.mem_singleton] at hy
      rcases hy with hy | rfl
      · exact hks y hy
      · exact hkk
    · simp only [Array.toList_push, List.mem_append, List.mem_singleton]
      by_cases hj : j = k
      · subst hj
        rw [upd_same]
        constructor
        · intro hh
          injection hh with hh
          exact ⟨_, .inr rfl, rfl, hh⟩
        · rintro ⟨y, hy | rfl, e1, e2⟩
          · exact absurd e1 (h4 y hy)
          · rw [← e2]
      · rw [upd_other f v hj, hf j u]
        constructor
        · rintro ⟨y, hy, e1, e2⟩
          exact ⟨y, .inl hy, e1, e2⟩
        · rintro ⟨y, hy | rfl, e1, e2⟩
          · exact ⟨y, hy, e1, e2⟩
          · injection e1 with _ e1
            exact absurd e1.symm hj
  · have hj : es[j]? = some x := by simpa using h4
    have hkey : ∀ e', es[j]? = some e' → ({ e' with key := .int .i64 k, val := v } : MapEntry).key = e'.key := fun e' he' => by rw [hj] at he'; cases he'; exact h5.symm
    refine ⟨{ w with heap := w.heap.setIfInBounds m (.map (es.modify j fun e' => { e' with key := .int .i64 k, val := v }) clock) }, by simp [Instr.mapUpdate, run_underlying ht, Go.MapKept.run_getObj_map h1, run_checkKey hk hkk, run_findKey hk h3, hj, h5, run_keyThatStays hkk, run_setObj_map _ h1, Result.andThen], ⟨hc, _, _, (heap_set h1).1, stamped_modify hst _ _ (fun _ _ => rfl) (fun e' _ he' => hkey e' he'), isKey_modify hks _ _ hkey, fun i u => ?_⟩, setHeap_step hc _, setHeap_blk h1 _⟩
    have hmem : ∀ y, y ∈ (es.modify j (fun e' => { e' with key := .int .i64 k, val := v })).toList ↔ (y = { x with key := .int .i64 k, val := v } ∨ ∃ i', i' ≠ j ∧ es[i']? = some y) := by
      intro y
      rw [Array.mem_toList_iff, Array.mem_iff_getElem?]
      constructor
      · rintro ⟨i', hi'⟩
        rw [Array.getElem?_modify] at hi'
        by_cases hij : j = i'
        · subst hij
          simp [hj] at hi'
          exact .inl hi'.symm
        · rw [if_neg hij] at hi'
          exact .inr ⟨i', fun e => hij e.symm, hi'⟩
      · rintro (rfl | ⟨i', hne, hi'⟩)
        · exact ⟨j, by simp [Array.getElem?_modify, hj]⟩
        · exact ⟨i', by rw [Array.getElem?_modify, if_neg (fun e => hne e.symm)]; exact hi'⟩
    have huni : ∀ i' y, i' ≠ j → es[i']? = some y → y.key ≠ .int .i64 k := by
      intro i' y hne hi' hky
      refine hne (nodup_at (v := .int .i64 k) hst.2.2 (i := i') (j := j) ?_ ?_)
      · rw [List.getElem?_map, Array.getElem?_toList, hi', Option.map_some, hky]
      · rw [List.getElem?_map, Array.getElem?_toList, hj, Option.map_some, h5]
    by_cases hik : i = k
    · subst hik
      rw [upd_same]
      constructor
      · intro hh
        injection hh with hh
        exact ⟨_, (hmem _).2 (.inl rfl), rfl, hh⟩
      · rintro ⟨y, hy, e1, e2⟩
        rcases (hmem y).1 hy with rfl | ⟨i', hne, hi'⟩
        · rw [← e2]
        · exact absurd e1 (huni i' y hne hi')
    · rw [upd_other f v hik, hf i u]
      constructor
      · rintro ⟨y, hy, e1, e2⟩
        refine ⟨y, (hmem y).2 (.inr ?_), e1, e2⟩
        rw [Array.mem_toList_iff, Array.mem_iff_getElem?] at hy
        obtain ⟨i', hi'⟩ := hy
        refine ⟨i', ?_, hi'⟩
        rintro rfl
        rw [hj] at hi'
        injection hi' with hi'
        subst hi'
        rw [h5] at e1
        injection e1 with _ e1
        exact hik e1.symm
      · rintro ⟨y, hy, e1, e2⟩
        rcases (hmem y).1 hy with rfl | ⟨i', hne, hi'⟩
        · injection e1 with _ e1
          exact absurd e1.symm hik
        · exact ⟨y, by rw [Array.mem_toList_iff, Array.mem_iff_getElem?]; exact ⟨i', hi'⟩, e1, e2⟩
end
end
end Go.Proofs.YtllbionkmgpcaaaGreatDoor
