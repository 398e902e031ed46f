/- A session in memory, as a plain structure; its map of what was heard ahead, as a list; the session's small methods. -/
import Derived.Test.YtoploimpfhnanaaDoorRingC
import Derived.Test.YtoploimpfhnanaaDoorShelf
import Derived.Maps.OwnOps
import Derived.Maps.OwnSet
import Derived.Maps.Views
import Derived.Maps.StringElems
namespace Go.Proofs.YtoploimpfhnanaaDoor
open Go.RowKit

/-- what stands under a number -/
def getA : List (Int × ByteArray) → Int → Option ByteArray
  | [], _ => none
  | x :: r, k => if x.1 = k then some x.2 else getA r k
def delA (l : List (Int × ByteArray)) (k : Int) : List (Int × ByteArray) := l.filter (fun x => x.1 ≠ k)

def i64 (k : Int) : Prop := -9223372036854775808 ≤ k ∧ k ≤ 9223372036854775807
theorem i64_wf {k : Int} (h : i64 k) : (Lit.int .i64 k).wf = true := by
  unfold i64 at h
  simp [Lit.wf, IntKind.min, IntKind.max, IntKind.signed, IntKind.bits]
  omega

/-- the map at block m reads as the list al (its numbers apart) -/
def MapAt (o : Nat → Nat) (c : Nat) (w : World) (m : Nat) (al : List (Int × ByteArray)) : Prop :=
  o m = c ∧ al.Pairwise (fun a b => a.1 ≠ b.1) ∧ ∃ D : DataW Unit, w.ownsMap Tryd.prog 3 (plainElem Tryd.prog 9) m al.length D ∧ Maps.size D = al.length ∧
    ∀ k, i64 k → Maps.has D (.int .i64 k) = (getA al k).isSome ∧ ∀ s, getA al k = some s → ∀ z, D.atKey (.int .i64 k) z = .lit (.string s.data.toList)

theorem getA_none {l : List (Int × ByteArray)} {k : Int} (h : getA l k = none) : ∀ x ∈ l, x.1 ≠ k := by
  induction l with
  | nil => simp
  | cons y r ih =>
    intro x hx
    by_cases hy : y.1 = k
    · simp [getA, hy] at h
    · simp only [getA, hy, if_false] at h
      rcases List.mem_cons.1 hx with rfl | hx
      · exact hy
      · exact ih h x hx
theorem klaw : Maps.Keyed Tryd.prog 3 := Maps.int_keyed Tryd.underlying3
theorem zeroS (w : World) : (zeroValue 9).run Tryd.prog w = .ok (.string ⟨#[]⟩) w := by kernel_rfl
theorem bytes_ext {a b : ByteArray} (h : a.data.toList = b.data.toList) : a = b := by
  cases a; cases b; simp at h; rw [h]

section
variable {o o' : Nat → Nat} {c : Nat} {D : Nat → Prop} {w w' : World} {m : Nat} {al : List (Int × ByteArray)}
theorem MapAt.lt (h : MapAt o c w m al) : m < w.heap.size := by
  obtain ⟨_, _, D, h1, _⟩ := h
  exact h1.lt
theorem MapAt.heap (h : MapAt o c w m al) (hb : w'.heap[m]? = w.heap[m]?) (ho : o' m = o m) : MapAt o' c w' m al := by
  obtain ⟨hc, hp, D, ⟨es, clock, h1, h2⟩, h3⟩ := h
  exact ⟨ho.trans hc, hp, D, ⟨es, clock, hb.trans h1, h2⟩, h3⟩
theorem MapAt.step (h : MapAt o c w m al) (hk : Step o D w o' w') (hne : ¬ D c) : MapAt o' c w' m al :=
  h.heap (hk.block m h.lt (by rw [h.1]; exact hne)) (hk.old m h.lt)
theorem MapAt.below_ (h : MapAt o c w m al) (hb : Below w.heap.size w w') : MapAt o c w' m al := h.heap (hb.block m h.lt) rfl
theorem MapAt.color (h : MapAt o c w m al) (ho : ∀ k, k < w.heap.size → o' k = o k) : MapAt o' c w m al := h.heap rfl (ho m h.lt)
theorem MapAt.new (o : Nat → Nat) (w : World) : MapAt o (o w.heap.size) (w.alloc (.map #[] 0)) w.heap.size [] := by
  refine ⟨rfl, List.Pairwise.nil, .map [], World.ownsMap_made _ _ _ _, rfl, fun k _ => ⟨rfl, fun s hs => by simp [getA] at hs⟩⟩
/-- 'v, is := m[k]' -/
theorem MapAt.look (h : MapAt o c w m al) {k : Int} (hk : i64 k) : (Instr.lookup 123 (.map (some m)) (.int .i64 k) true).run Tryd.prog w = .ok (.tuple #[.string ((getA al k).getD ⟨#[]⟩), .bool (getA al k).isSome]) w := by
  obtain ⟨_, _, D, h1, _, h3⟩ := h
  obtain ⟨hh, hv⟩ := h3 k hk
  obtain ⟨v, ps, hrun, hR⟩ := h1.look_ok klaw Tryd.underlying123 (zeroS w) (plainElem_string Tryd.underlying9 (s := ⟨#[]⟩) (Nat.zero_le _)) (Maps.keyOf_int_mk Tryd.underlying3 (i64_wf hk))
  obtain ⟨s, rfl, hs, _⟩ := plainElem_string_inv Tryd.underlying9 hR
  rw [hrun, hh]
  simp only [Prod.mk.injEq] at hs
  cases hg : getA al k with
  | none =>
    have h0 := Maps.atKey_of_not_has (D := D) (k := .int .i64 k) (by rw [hh, hg]; rfl) (.lit (.string []))
    have h4 : (DataW.lit (.string []) : DataW Unit) = .lit (.string s.data.toList) := h0.symm.trans hs.1
    simp only [DataW.lit.injEq, Lit.string.injEq] at h4
    have : s = ⟨#[]⟩ := bytes_ext (by rw [← h4])
    rw [this]
    rfl
  | some t =>
    have h0 := hv t hg (.lit (.string []))
    have h4 : (DataW.lit (.string t.data.toList) : DataW Unit) = .lit (.string s.data.toList) := h0.symm.trans hs.1
    simp only [DataW.lit.injEq, Lit.string.injEq] at h4
    rw [bytes_ext h4]
    rfl
/-- 'm[k] = v' at a number that is not there -/
theorem MapAt.put (h : MapAt o c w m al) {k : Int} (hk : i64 k) (hno : getA al k = none) (hl : al.length < 1000000) {s : ByteArray} (hs : s.size ≤ maxLen) :
    ∃ w', (Instr.mapUpdate 123 (.map (some m)) (.int .i64 k) (.string s)).run Tryd.prog w = .ok () w' ∧ MapAt o c w' m ((k, s) :: al) ∧ Step o (only c) w o w' ∧ w.grownBy w' (some m) := by
  obtain ⟨hc, hp, D, h1, h2, h3⟩ := h
  obtain ⟨w', hrun, h4, h5⟩ := h1.store klaw Tryd.underlying123 (by unfold maxLen; omega) (Maps.keyOf_int_mk Tryd.underlying3 (i64_wf hk)) (plainElem_string Tryd.underlying9 hs)
  have hg := h5.grown
  have hsz : w'.heap.size = w.heap.size := by
    obtain ⟨es, clock, es', clock', _, rfl⟩ := h5
    simp [ChangeMaps.setBlock]
  have hst : Step o (only c) w o w' := ⟨hg.os, hg.tape, hg.output, hg.size, fun _ _ => rfl, fun _ _ => rfl, fun i hi hne => hg.block i hi (fun e => by injection e with e; subst e; exact hne hc)⟩
  have hkl : WideAt.IsKeyLit (.int .i64 k) := by simp [WideAt.IsKeyLit]
  refine ⟨w', hrun, ⟨hc, List.pairwise_cons.2 ⟨fun x hx e => getA_none hno x hx e.symm, hp⟩, D.put (.int .i64 k) (.lit (.string s.data.toList)), by simpa using h4, ?_, ?_⟩, hst, hg⟩
  · rw [Maps.size_put (h1.tidy klaw), (h3 k hk).1, hno, h2]
    rfl
  · intro j hj
    by_cases he : k = j
    · subst he
      refine ⟨by rw [Maps.has_put_same h1.isMap hkl]; simp [getA], fun t ht z => ?_⟩
      simp [getA] at ht
      subst ht
      exact Maps.atKey_put_same h1.isMap hkl _ _
    · have hne : (Lit.int .i64 j) ≠ .int .i64 k := by intro e; injection e with _ e; exact he e.symm
      refine ⟨by rw [Maps.has_put_other hne, (h3 j hj).1]; simp [getA, he], fun t ht z => ?_⟩
      simp [getA, he] at ht
      rw [Maps.atKey_put_other hne]
      exact (h3 j hj).2 t ht z
theorem getA_del (l : List (Int × ByteArray)) (k j : Int) : getA (delA l k) j = if j = k then none else getA l j := by
  induction l with
  | nil => simp [delA, getA]
  | cons x r ih =>
    unfold delA at ih ⊢
    by_cases hx : x.1 = k
    · rw [List.filter_cons_of_neg (by simpa using hx), ih]
      by_cases hj : j = k
      · simp [hj]
      · have : ¬ x.1 = j := by omega
        simp [getA, hj, this]
    · rw [List.filter_cons_of_pos (by simpa using hx)]
      by_cases hj : j = k
      · subst hj
        simp only [getA, hx, if_false, ih, if_true]
      · simp only [getA, ih, hj, if_false]
theorem del_len {l : List (Int × ByteArray)} {k : Int} (h : l.Pairwise (fun a b => a.1 ≠ b.1)) : (delA l k).length + (if (getA l k).isSome then 1 else 0) = l.length := by
  induction l with
  | nil => simp [delA, getA]
  | cons x r ih =>
    obtain ⟨h1, h2⟩ := List.pairwise_cons.1 h
    unfold delA at ih ⊢
    by_cases hx : x.1 = k
    · rw [List.filter_cons_of_neg (by simpa using hx)]
      have : r.filter (fun x => decide (x.1 ≠ k)) = r := List.filter_eq_self.2 (fun y hy => by simpa using fun e => h1 y hy (hx.trans e.symm))
      rw [this]
      simp [getA, hx]
    · rw [List.filter_cons_of_pos (by simpa using hx)]
      have := ih h2
      simp only [getA, hx, if_false, List.length_cons]
      omega
theorem owns_tight {D : DataW Unit} {n : Nat} (h : w.ownsMap Tryd.prog 3 (plainElem Tryd.prog 9) m n D) : w.ownsMap Tryd.prog 3 (plainElem Tryd.prog 9) m (Maps.size D) D := by
  obtain ⟨es, clock, h1, h2, h3, rfl⟩ := h
  exact ⟨es, clock, h1, h2, by simp [Maps.size, length_sorted], rfl⟩
/-- 'delete(m, k)' -/
theorem MapAt.del (h : MapAt o c w m al) {k : Int} (hk : i64 k) (ty : TypeId) :
    ∃ w', (Builtin.delete_ #[123, 3] ty #[.map (some m), .int .i64 k]).run Tryd.prog w = .ok (.tuple #[]) w' ∧ MapAt o c w' m (delA al k) ∧ Step o (only c) w o w' ∧ w.grownBy w' (some m) := by
  obtain ⟨hc, hp, D, h1, h2, h3⟩ := h
  obtain ⟨w', hrun, h4, h5⟩ := h1.drop klaw Tryd.underlying123 (Maps.keyOf_int_mk Tryd.underlying3 (i64_wf hk)) ty
  have hg := h5.grown
  have hst : Step o (only c) w o w' := ⟨hg.os, hg.tape, hg.output, hg.size, fun _ _ => rfl, fun _ _ => rfl, fun i hi hne => hg.block i hi (fun e => by injection e with e; subst e; exact hne hc)⟩
  have hsz : Maps.size (D.del (.int .i64 k)) = (delA al k).length := by
    have e1 := Maps.size_del (k := .int .i64 k) (h1.tidy klaw)
    have e2 := del_len (k := k) hp
    rw [(h3 k hk).1, h2] at e1
    omega
  refine ⟨w', hrun, ⟨hc, hp.sublist List.filter_sublist, D.del (.int .i64 k), by rw [← hsz]; exact owns_tight h4, hsz, ?_⟩, hst, hg⟩
  intro j hj
  rw [getA_del]
  by_cases he : j = k
  · subst he
    refine ⟨by rw [Maps.has_del_same]; simp, fun t ht z => ?_⟩
    simp at ht
  · have hne : (Lit.int .i64 j) ≠ .int .i64 k := by intro e; injection e with _ e; exact he e
    refine ⟨by rw [Maps.has_del_other hne, (h3 j hj).1]; simp [he], fun t ht z => ?_⟩
    simp [he] at ht
    rw [Maps.atKey_del_other hne]
    exact (h3 j hj).2 t ht z
end
end Go.Proofs.YtoploimpfhnanaaDoor
