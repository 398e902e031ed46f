/- MsgTells' book: its state over Locks and Msgs; rows that take a colour. -/
import Derived.Test.YtjmgefpdfhfhmaaGreatDoorApart
namespace Go.Proofs.YtjmgefpdfhfhmaaGreatDoor
open Go.RowKit

theorem gotM_small (b : ByteArray) : (gotM b).locks.length ≤ 200 := by
  unfold gotM
  split
  · rename_i h
    exact h.2.1.1.2.2
  · simp [Mg.zero]
/-- a row that is new takes a colour of the walk's -/
theorem recolor {oi : Nat → Nat} {w w' : World} {e : TypeId} {sz n : Nat} {v : Value} {xs : List Value} (h : OwnS oi 2 w' e sz v n xs) (hb : Below w.heap.size w w') (ho : ∀ k, k < w.heap.size → oi k = 0) (o : Nat → Nat) (c : Nat) :
    ∃ o2, OwnS o2 c w' e sz v n xs ∧ Step o (fun _ => False) w o2 w' := by
  refine ⟨fun k => if v.ownBlock = some k then c else o k, ⟨h.1, fun g hg => by simp [hg]⟩, hb.os, hb.tape, hb.output, hb.size, fun k hk => ?_, fun k hk => ?_, fun k hk _ => hb.block k hk⟩
  · refine if_neg (fun e => ?_)
    have h1 := h.2 k e
    have h2 := ho k hk
    omega
  · refine if_neg (fun e => ?_)
    have := h.lt k e
    omega
/-- a block that is new takes a colour -/
theorem alloc_as (o : Nat → Nat) (w : World) (x : Obj) (c : Nat) : ∃ o2, o2 w.heap.size = c ∧ Step o (fun _ => False) w o2 (w.alloc x) := by
  refine ⟨fun k => if k = w.heap.size then c else o k, by simp, rfl, rfl, rfl, by simp, fun k hk => if_neg (by omega), fun k hk => if_neg (by simp at hk; omega), fun k hk _ => Below.heap_alloc _ _ _ hk⟩
/-- the book holds the lists L of locks, and K's messages -/
structure BookG (o : Nat → Nat) (w : World) (p : Nat) (cs : Array Value) (L : List (List Lk)) (K : List MK) (v8 v9 v26 v27 : Value) (s8 s9 s26 s27 : List Value) : Prop where
  book : BookAt o w p cs
  nil : NilC cs
  c8 : cs[8]? = some v8
  c9 : cs[9]? = some v9
  c26 : cs[26]? = some v26
  c27 : cs[27]? = some v27
  k8 : Kept 24 68 3 21 1000 o w v8 (lkS L) s8
  k9 : Kept 24 68 3 22 2000 o w v9 (lkS L) s9
  k26 : Kept 58 26 8 23 3000 o w v26 (oneS MK.ra K) s26
  k27 : Kept 58 26 8 24 4000 o w v27 (oneS MK.rb K) s27
  la : ∀ (i : Nat) y, K[i]? = some y → OwnW o (1000 + i) w 68 3 (.slice y.A y.m.locks.length y.ca) y.m.locks.length (lkcells y.m.locks)
  lb : ∀ (i : Nat) y, K[i]? = some y → OwnW o (5000 + i) w 68 3 (.slice y.B y.m.locks.length y.cb) y.m.locks.length (lkcells y.m.locks)
  small : ∀ y ∈ K, y.m.locks.length ≤ 900
section
variable {o o' : Nat → Nat} {w w' : World} {p : Nat} {cs : Array Value} {L : List (List Lk)} {K : List MK} {v8 v9 v26 v27 : Value} {s8 s9 s26 s27 : List Value}
theorem BookG.of (h : BookSt o w p cs K v8 v9 v26 v27 s8 s9 s26 s27) : BookG o w p cs (K.map (fun y => y.m.locks)) K v8 v9 v26 v27 s8 s9 s26 s27 := ⟨h.book, h.nil, h.c8, h.c9, h.c26, h.c27, h.k8, h.k9, h.k26, h.k27, h.la, h.lb, h.small⟩
theorem BookG.to (h : BookG o w p cs L K v8 v9 v26 v27 s8 s9 s26 s27) (hL : L = K.map (fun y => y.m.locks)) : BookSt o w p cs K v8 v9 v26 v27 s8 s9 s26 s27 := by
  subst hL
  exact ⟨h.book, h.nil, h.c8, h.c9, h.c26, h.c27, h.k8, h.k9, h.k26, h.k27, h.la, h.lb, h.small⟩
theorem BookG.step (h : BookG o w p cs L K v8 v9 v26 v27 s8 s9 s26 s27) (hs : Step o (fun _ => False) w o' w') : BookG o' w' p cs L K v8 v9 v26 v27 s8 s9 s26 s27 :=
  ⟨h.book.step hs id, h.nil, h.c8, h.c9, h.c26, h.c27, h.k8.step hs id (fun _ _ => id), h.k9.step hs id (fun _ _ => id), h.k26.step hs id (fun _ _ => id), h.k27.step hs id (fun _ _ => id), fun i y hy => (h.la i y hy).step hs id, fun i y hy => (h.lb i y hy).step hs id, h.small⟩
theorem nilC_set {cs : Array Value} (h : NilC cs) {i : Nat} (hi : i = 8 ∨ i = 9 ∨ i = 26 ∨ i = 27) (v : Value) : NilC (cs.setIfInBounds i v) := fun j h0 h1 h2 h3 h4 => by
  rw [Array.getElem?_setIfInBounds, if_neg (by omega)]
  exact h j h0 h1 h2 h3 h4
theorem set_at {cs : Array Value} {i : Nat} {x : Value} (h : cs[i]? = some x) (v : Value) : (cs.setIfInBounds i v)[i]? = some v := by
  have := (Array.getElem?_eq_some_iff.1 h).1
  simp [this]
theorem set_off {cs : Array Value} {i j : Nat} (hij : i ≠ j) (v : Value) : (cs.setIfInBounds i v)[j]? = cs[j]? := by
  rw [Array.getElem?_setIfInBounds, if_neg hij]
theorem BookG.locks {l : List Lk} {u u' v2 v2' : Value} (h : BookG o w p cs L K v8 v9 v26 v27 s8 s9 s26 s27) (hL : L.length ≤ 900) (hKL : K.length ≤ 900) (hb : BookAt o' w' p ((cs.setIfInBounds 8 v2).setIfInBounds 9 v2')) (k8 : Kept 24 68 3 21 1000 o' w' v2 (lkS (L ++ [l])) (s8 ++ [u])) (k9 : Kept 24 68 3 22 2000 o' w' v2' (lkS (L ++ [l])) (s9 ++ [u']))
    (hs : Step o (fun c => c = 20 ∨ c = 21 ∨ c = 22 ∨ c = 2000 + L.length) w o' w') : BookG o' w' p ((cs.setIfInBounds 8 v2).setIfInBounds 9 v2') (L ++ [l]) K v2 v2' v26 v27 (s8 ++ [u]) (s9 ++ [u']) s26 s27 := by
  refine ⟨hb, nilC_set (nilC_set h.nil (by omega) _) (by omega) _, ?_, ?_, ?_, ?_, k8, k9, h.k26.step hs (by omega) (fun i hi => by omega), h.k27.step hs (by omega) (fun i hi => by omega), fun i y hy => (h.la i y hy).step hs ?_, fun i y hy => (h.lb i y hy).step hs ?_, h.small⟩
  · rw [set_off (by omega)]
    exact set_at h.c8 _
  · exact set_at (by rw [set_off (by omega)]; exact h.c9) _
  · rw [set_off (by omega), set_off (by omega)]
    exact h.c26
  · rw [set_off (by omega), set_off (by omega)]
    exact h.c27
  · have := (List.getElem?_eq_some_iff.1 hy).1
    omega
  · have := (List.getElem?_eq_some_iff.1 hy).1
    omega
theorem get_app {α : Type} {K : List α} {x y : α} {i : Nat} (h : (K ++ [x])[i]? = some y) : K[i]? = some y ∨ (i = K.length ∧ y = x) := by
  by_cases hi : i < K.length
  · rw [List.getElem?_append_left hi] at h
    exact .inl h
  · rw [List.getElem?_append_right (by omega)] at h
    have := (List.getElem?_eq_some_iff.1 h).1
    simp at this
    have hi2 : i = K.length := by omega
    subst hi2
    rw [Nat.sub_self] at h
    simp at h
    exact .inr ⟨rfl, h.symm⟩
theorem BookG.msgs {y : MK} {u u' v2 v2' : Value} (h : BookG o w p cs L K v8 v9 v26 v27 s8 s9 s26 s27) (hKL : K.length ≤ 900) (hb : BookAt o' w' p ((cs.setIfInBounds 26 v2).setIfInBounds 27 v2')) (k8 : Kept 58 26 8 23 3000 o' w' v2 (oneS MK.ra (K ++ [y])) (s26 ++ [u])) (k9 : Kept 58 26 8 24 4000 o' w' v2' (oneS MK.rb (K ++ [y])) (s27 ++ [u']))
    (hlb : OwnW o' (5000 + K.length) w' 68 3 (.slice y.B y.m.locks.length y.cb) y.m.locks.length (lkcells y.m.locks)) (hla : OwnW o (1000 + K.length) w 68 3 (.slice y.A y.m.locks.length y.ca) y.m.locks.length (lkcells y.m.locks)) (hsm : y.m.locks.length ≤ 900)
    (hs : Step o (fun c => c = 20 ∨ c = 23 ∨ c = 24) w o' w') : BookG o' w' p ((cs.setIfInBounds 26 v2).setIfInBounds 27 v2') L (K ++ [y]) v8 v9 v2 v2' s8 s9 (s26 ++ [u]) (s27 ++ [u']) := by
  refine ⟨hb, nilC_set (nilC_set h.nil (by omega) _) (by omega) _, ?_, ?_, ?_, ?_, h.k8.step hs (by omega) (fun i hi => by omega), h.k9.step hs (by omega) (fun i hi => by omega), k8, k9, fun i z hz => ?_, fun i z hz => ?_, fun z hz => ?_⟩
  · rw [set_off (by omega), set_off (by omega)]
    exact h.c8
  · rw [set_off (by omega), set_off (by omega)]
    exact h.c9
  · rw [set_off (by omega)]
    exact set_at h.c26 _
  · exact set_at (by rw [set_off (by omega)]; exact h.c27) _
  · rcases get_app hz with h1 | ⟨rfl, rfl⟩
    · exact (h.la i z h1).step hs (by omega)
    · exact hla.step hs (by omega)
  · rcases get_app hz with h1 | ⟨rfl, rfl⟩
    · exact (h.lb i z h1).step hs (by omega)
    · exact hlb
  · rcases List.mem_append.1 hz with h1 | h1
    · exact h.small z h1
    · simp at h1
      subst h1
      exact hsm
end
/-- an empty book -/
theorem BookG.empty (o : Nat → Nat) (w : World) (p : Nat) (h : BookAt o w p #[.slice none 0 0, .slice none 0 0, .slice none 0 0, .slice none 0 0, .slice none 0 0, .slice none 0 0, .slice none 0 0, .slice none 0 0, .slice none 0 0, .slice none 0 0, .slice none 0 0, .slice none 0 0, .slice none 0 0, .slice none 0 0, .slice none 0 0, .slice none 0 0, .slice none 0 0, .slice none 0 0, .slice none 0 0, .slice none 0 0, .slice none 0 0, .slice none 0 0, .slice none 0 0, .slice none 0 0, .slice none 0 0, .slice none 0 0, .slice none 0 0, .slice none 0 0, .slice none 0 0, .slice none 0 0]) :
    BookG o w p #[.slice none 0 0, .slice none 0 0, .slice none 0 0, .slice none 0 0, .slice none 0 0, .slice none 0 0, .slice none 0 0, .slice none 0 0, .slice none 0 0, .slice none 0 0, .slice none 0 0, .slice none 0 0, .slice none 0 0, .slice none 0 0, .slice none 0 0, .slice none 0 0, .slice none 0 0, .slice none 0 0, .slice none 0 0, .slice none 0 0, .slice none 0 0, .slice none 0 0, .slice none 0 0, .slice none 0 0, .slice none 0 0, .slice none 0 0, .slice none 0 0, .slice none 0 0, .slice none 0 0, .slice none 0 0] [] [] (.slice none 0 0) (.slice none 0 0) (.slice none 0 0) (.slice none 0 0) [] [] [] [] := by
  refine ⟨h, fun j h0 _ _ _ _ => ?_, rfl, rfl, rfl, rfl, Kept.nil _ _ _ _ _ _ _, Kept.nil _ _ _ _ _ _ _, Kept.nil _ _ _ _ _ _ _, Kept.nil _ _ _ _ _ _ _, fun i y hy => by simp at hy, fun i y hy => by simp at hy, fun y hy => by simp at hy⟩
  rcases j with _ | _ | _ | _ | _ | _ | _ | _ | _ | _ | _ | _ | _ | _ | _ | _ | _ | _ | _ | _ | _ | _ | _ | _ | _ | _ | _ | _ | _ | _ | j <;> first | rfl | omega
def BookEx (o : Nat → Nat) (w : World) (p : Nat) (K : List MK) : Prop := ∃ cs v8 v9 v26 v27 s8 s9 s26 s27, BookSt o w p cs K v8 v9 v26 v27 s8 s9 s26 s27
end Go.Proofs.YtjmgefpdfhfhmaaGreatDoor
