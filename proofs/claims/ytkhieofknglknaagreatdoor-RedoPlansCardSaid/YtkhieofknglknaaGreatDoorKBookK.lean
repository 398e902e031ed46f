/- The statements' own helpers on lists of texts: Room (of one size), Short, SameTexts (of equal lists). -/
import Derived.Test.YtkhieofknglknaaGreatDoorKLeaf
import Derived.Test.YtkhieofknglknaaGreatDoorKDiskC
import Derived.Test.YtkhieofknglknaaGreatDoorKLogP
import Derived.Test.YtkhieofknglknaaGreatDoorKGrow
namespace Go.Proofs.YtkhieofknglknaaGreatDoor
open Go.RowKit

theorem Reads.at1 {w : World} {A : Option Addr} {n k : Nat} {xs : List Value} (h : Reads w 1 A n xs) (hk : k < n) : ∃ ad u, A = some ad ∧ xs[k]? = some u ∧ w.cell? (ad.add k) = some u := by
  obtain ⟨ad, e, hc⟩ := h.2 (by omega)
  have hl : k < xs.length := by have := h.1; omega
  exact ⟨ad, xs[k], e, List.getElem?_eq_getElem hl, hc k _ (List.getElem?_eq_getElem hl)⟩

set_option maxHeartbeats 400000 in
theorem same_yes (w : World) (A B : Option Addr) (ca cb : Nat) (xs : List ByteArray) (ha : Reads w 1 A xs.length (xs.map Value.string)) (hb : Reads w 1 B xs.length (xs.map Value.string)) (hl : xs.length ≤ 1000000000) :
    Calls Tryz.prog 170 #[.slice A xs.length ca, .slice B xs.length cb] w fun e w' => e = .returned (.bool true) ∧ ∃ n, w' = w.drewN n := by
  have HA := Lib.hid ha
  have HB := Lib.hid hb
  clear ha hb
  go_enter Tryz.func170, Tryz.ntmps170
  go_wp2_with fail
  go_loopw [5] (fun i wr => ∃ k : Nat, k ≤ xs.length ∧ i = .int .i64 k ∧ ∃ n, wr = w.drewN n) (fun i _ => xs.length - (intOf i).toNat)
  case atStart => exact ⟨0, Nat.zero_le _, rfl, 0, rfl⟩
  case round =>
    obtain ⟨k, hk, rfl, n, rfl⟩ := hrel
    by_cases hlt : k < xs.length
    · have hltI : (k : Int) < (xs.length : Int) := by omega
      obtain ⟨a, u, rfl, hu, hc⟩ := HA.out.at1 hlt
      obtain ⟨b, v, rfl, hv, hd⟩ := HB.out.at1 hlt
      obtain ⟨x, hx⟩ : ∃ x, xs[k]? = some x := ⟨_, List.getElem?_eq_getElem hlt⟩
      obtain rfl : u = .string x := by simp [hx] at hu; exact hu.symm
      obtain rfl : v = .string x := by simp [hx] at hv; exact hv.symm
      clear hu hv hx
      go_wp2_with fail
      go_quiet (fail)
      go_wp2_with fail
      go_roundw
      case rel => exact ⟨k + 1, by omega, by go_num, _, rfl⟩
      case measure => simp [intOf]; omega
    · have hltI : ¬ (k : Int) < (xs.length : Int) := by omega
      go_wp2_with fail
      go_ret
      exact ⟨rfl, _, rfl⟩

def room1 (left n : Int) : Int := if left < 0 ∨ left < n then -1 else left - n
set_option maxHeartbeats 400000 in
theorem room_one (w : World) (left n : Int) (g : Nat) (hc : w.cell? ⟨g, 0, none⟩ = some (.int .i64 n)) (hl : -1 ≤ left ∧ left ≤ 1000000000) (hn : 0 ≤ n ∧ n ≤ 9223372036854775807) :
    Calls Tryz.prog 18 #[.int .i64 left, .slice (some ⟨g, 0, none⟩) 1 1] w fun e w' => e = .returned (.int .i64 (room1 left n)) ∧ w = w' := by
  obtain ⟨l1, l2⟩ := hl
  obtain ⟨n1, n2⟩ := hn
  by_cases h0 : left < 0
  · have e1 : room1 left n = -1 := by unfold room1; rw [if_pos (.inl h0)]
    have E1 := Lib.hid e1
    clear e1
    go_enter Tryz.func18, Tryz.ntmps18
    go_wp2_with fail
    go_loop [0, 5] (fun l i => l = .int .i64 left ∧ i = .int .i64 0) (fun _ i => 2 - (intOf i).toNat)
    case atStart => exact ⟨rfl, rfl⟩
    case round =>
      obtain ⟨rfl, rfl⟩ := hrel
      go_wp2_with fail
      go_ret
      rw [E1.out]
      exact ⟨rfl, rfl⟩
  · by_cases h1 : left < n
    · have e1 : room1 left n = -1 := by unfold room1; rw [if_pos (.inr h1)]
      have E1 := Lib.hid e1
      clear e1
      go_enter Tryz.func18, Tryz.ntmps18
      go_wp2_with fail
      go_loop [0, 5] (fun l i => l = .int .i64 left ∧ i = .int .i64 0) (fun _ i => 2 - (intOf i).toNat)
      case atStart => exact ⟨rfl, rfl⟩
      case round =>
        obtain ⟨rfl, rfl⟩ := hrel
        go_wp2_with fail
        go_ret
        rw [E1.out]
        exact ⟨rfl, rfl⟩
    · have e1 : room1 left n = left - n := by unfold room1; rw [if_neg (by omega)]
      have E1 := Lib.hid e1
      clear e1
      go_enter Tryz.func18, Tryz.ntmps18
      go_wp2_with fail
      go_loop [0, 5] (fun l i => (l = .int .i64 left ∧ i = .int .i64 0) ∨ (l = .int .i64 (left - n) ∧ i = .int .i64 1)) (fun _ i => 2 - (intOf i).toNat)
      case atStart => exact .inl ⟨rfl, rfl⟩
      case round =>
        rcases hrel with ⟨rfl, rfl⟩ | ⟨rfl, rfl⟩
        · go_wp2_with fail
          go_round
          case rel => exact .inr ⟨rfl, rfl⟩
          case measure => simp [intOf]
        · go_wp2_with fail
          go_ret
          rw [E1.out]
          exact ⟨rfl, rfl⟩
end Go.Proofs.YtkhieofknglknaaGreatDoor

/- What RedoEvery calls besides: Restore; Light of images. -/
namespace Go.Proofs.YtkhieofknglknaaGreatDoor
open Go.RowKit

theorem room1_le {left n : Int} (hl : -1 ≤ left ∧ left ≤ 1000000000) (hn : 0 ≤ n) : -1 ≤ room1 left n ∧ room1 left n ≤ 1000000000 := by
  unfold room1
  split <;> omega
/-- what Light tells: not more than few, where it is so -/
def LightPost (w : World) (ok : Prop) (e : Ending) (w' : World) : Prop := ∃ b, e = .returned (.bool b) ∧ (b = true → ok) ∧ Below w.heap.size w w'
set_option maxRecDepth 100000 in
set_option maxHeartbeats 2000000 in
theorem light_im (l : List Im) (w : World) (A : Option Addr) (cap : Nat) (few room : Int) (hrd : Reads w 3 A l.length (imcells l)) (hln : l.length ≤ maxLen) (hs : ∀ i ∈ l, i.data.size ≤ maxLen) (hr : -1 ≤ room ∧ room ≤ 1000000000) :
    Calls Tryz.prog 4 #[.int .i64 few, .int .i64 room, .slice A l.length cap] w (LightPost w ((l.length : Int) ≤ few)) := by
  have HR := Lib.hid hrd
  have HS := Lib.hid hs
  have hlI : (l.length : Int) ≤ 9223372036854775807 := by unfold maxLen at hln; omega
  clear hrd hs hln
  by_cases hf : few < (l.length : Int)
  · go_enter Tryz.func4, Tryz.ntmps4
    go_wp2_with fail
    go_ret
    exact ⟨false, rfl, by simp, Below.refl _ _⟩
  · have HFL := Lib.hid (show (l.length : Int) ≤ few by omega)
    go_enter Tryz.func4, Tryz.ntmps4
    go_wp2_with fail
    go_loopw [1, 7] (fun t1 t7 wr => ∃ (k : Nat) (r : Int), k ≤ l.length ∧ -1 ≤ r ∧ r ≤ 1000000000 ∧ t1 = .int .i64 r ∧ t7 = .int .i64 k ∧ Below w.heap.size w wr) (fun _ t7 _ => l.length - (intOf t7).toNat)
    case atStart => exact ⟨0, room, by omega, hr.1, hr.2, rfl, rfl, Below.refl _ _⟩
    case round =>
      obtain ⟨k, r, hk, hr1, hr2, rfl, rfl, hb⟩ := hrel
      have HB := Lib.hid hb
      clear hb
      by_cases hlt : k < l.length
      · have hltI : (k : Int) < (l.length : Int) := by omega
        by_cases h0 : 0 ≤ r
        · obtain ⟨x, hx⟩ : ∃ x, l[k]? = some x := ⟨_, List.getElem?_eq_getElem hlt⟩
          have hxs : (x.data.size : Int) ≤ 9223372036854775807 := by have := HS.out x (List.mem_of_getElem? hx); unfold maxLen at this; omega
          obtain ⟨ad, rfl, y0, y1, y2⟩ := (HR.out.below' (by omega) HB.out).imrow hx
          clear hx
          go_wp2_with fail
          have hc0 : (wr.alloc (.cells #[.int .i64 x.data.size] 3)).cell? ⟨wr.heap.size, 0, none⟩ = some (.int .i64 x.data.size) := (Blk.new wr 3 #[.int .i64 x.data.size]).cell 0
          have HB2 := Lib.hid (HB.out.alloc HB.out.size (.cells #[.int .i64 x.data.size] 3))
          have hrm := room1_le (left := r) (n := (x.data.size : Int)) ⟨hr1, hr2⟩ (by omega)
          refine (room_one _ r x.data.size wr.heap.size hc0 ⟨hr1, hr2⟩ ⟨by omega, hxs⟩).mono ?_
          rintro e w2 ⟨rfl, rfl⟩
          generalize room1 r (x.data.size : Int) = r2 at hrm ⊢
          clear y0 y1 y2 hc0
          go_wp2_with fail
          go_roundw
          case rel => exact ⟨k + 1, r2, by omega, hrm.1, hrm.2, rfl, by go_num, HB2.out⟩
          case measure => simp [intOf]; omega
        · go_wp2_with fail
          go_ret
          exact ⟨_, rfl, (fun _ => by first | trivial | exact HFL.out), HB.out⟩
      · have hltI : ¬ (k : Int) < (l.length : Int) := by omega
        go_wp2_with fail
        go_ret
        exact ⟨_, rfl, (fun _ => by first | trivial | exact HFL.out), HB.out⟩
end Go.Proofs.YtkhieofknglknaaGreatDoor

/- A book of lists: what all kinds share (printed by gen/mkbook.py). -/
namespace Go.Proofs.YtkhieofknglknaaGreatDoor
open Go.RowKit

/-- the outer slice's cells are vs, of colour cO; the i-th inner one has S[i]'s length and cells, of colour cI + i -/
structure Kept (tO tE : TypeId) (sz cO cI : Nat) (o : Nat → Nat) (w : World) (v : Value) (S : List (Nat × List Value)) (vs : List Value) : Prop where
  len : vs.length = S.length
  outer : OwnW o cO w tO 1 v S.length vs
  inner : ∀ (i : Nat) u n xs, vs[i]? = some u → S[i]? = some (n, xs) → OwnW o (cI + i) w tE sz u n xs
section
variable {tO tE : TypeId} {sz cO cI : Nat} {o o' : Nat → Nat} {w w' : World} {v v' : Value} {S : List (Nat × List Value)} {vs : List Value}
theorem Kept.nil (tO tE : TypeId) (sz cO cI : Nat) (o : Nat → Nat) (w : World) : Kept tO tE sz cO cI o w (.slice none 0 0) [] [] :=
  ⟨rfl, OwnW.nil _ _ _ _ _, fun i u n xs hu _ => by simp at hu⟩
theorem Kept.step {C : Nat → Prop} (h : Kept tO tE sz cO cI o w v S vs) (hs : Step o C w o' w') (h1 : ¬ C cO) (h2 : ∀ i, i < S.length → ¬ C (cI + i)) : Kept tO tE sz cO cI o' w' v S vs :=
  ⟨h.len, h.outer.step hs h1, fun i u n xs hu hS => (h.inner i u n xs hu hS).step hs (h2 i (List.getElem?_eq_some_iff.1 hS).1)⟩
theorem Kept.below_ (h : Kept tO tE sz cO cI o w v S vs) (hb : Below w.heap.size w w') : Kept tO tE sz cO cI o w' v S vs :=
  ⟨h.len, h.outer.below_ hb, fun i u n xs hu hS => (h.inner i u n xs hu hS).below_ hb⟩
theorem Kept.alloc (h : Kept tO tE sz cO cI o w v S vs) (x : Obj) : Kept tO tE sz cO cI o (w.alloc x) v S vs :=
  ⟨h.len, h.outer.alloc x, fun i u n xs hu hS => (h.inner i u n xs hu hS).alloc x⟩
theorem Kept.drewN (h : Kept tO tE sz cO cI o w v S vs) (k : Nat) : Kept tO tE sz cO cI o (w.drewN k) v S vs := ⟨h.len, h.outer, h.inner⟩
/-- one list more -/
theorem Kept.more {u : Value} {n : Nat} {xs : List Value} (h : Kept tO tE sz cO cI o w v S vs) (ho : OwnW o' cO w' tO 1 v' (S.length + 1) (vs ++ [u])) (hs : Step o (only cO) w o' w') (hu : OwnW o (cI + S.length) w tE sz u n xs) (hd : ∀ i, i ≤ S.length → cI + i ≠ cO) :
    Kept tO tE sz cO cI o' w' v' (S ++ [(n, xs)]) (vs ++ [u]) := by
  have hl := h.len
  refine ⟨by simp [hl], by simpa using ho, fun i u1 n1 xs1 hu1 hS1 => ?_⟩
  by_cases hi : i < S.length
  · rw [List.getElem?_append_left (by omega)] at hu1
    rw [List.getElem?_append_left hi] at hS1
    exact (h.inner i u1 n1 xs1 hu1 hS1).step hs (by unfold only; exact hd i (by omega))
  · rw [List.getElem?_append_right (by omega)] at hu1
    rw [List.getElem?_append_right (by omega)] at hS1
    have h1 := (List.getElem?_eq_some_iff.1 hu1).1
    simp at h1
    have hi2 : i = S.length := by omega
    subst hi2
    rw [hl, Nat.sub_self] at hu1
    rw [Nat.sub_self] at hS1
    simp at hu1 hS1
    obtain ⟨e1, e2⟩ := hS1
    subst hu1 e1 e2
    exact hu.step hs (by unfold only; exact hd _ (Nat.le_refl _))
/-- the i-th list, as it is loaded -/
theorem Kept.at_ (h : Kept tO tE sz cO cI o w v S vs) {i : Nat} (hi : i < S.length) : ∃ ad cap A c u n xs, v = .slice (some ad) S.length cap ∧ S.length ≤ cap ∧ vs[i]? = some u ∧ S[i]? = some (n, xs) ∧ u = .slice A n c ∧ n ≤ c ∧ w.cell? (ad.add i) = some (.slice A n c) ∧ OwnW o (cI + i) w tE sz (.slice A n c) n xs := by
  obtain ⟨A0, cap, rfl, hc, _⟩ := h.outer.form
  have hl := h.len
  obtain ⟨ad, rfl, hcell⟩ := (OwnW.reads h.outer).2 (by omega)
  have hu : vs[i]? = some vs[i] := List.getElem?_eq_getElem (by omega)
  have hS : S[i]? = some (S[i].1, S[i].2) := List.getElem?_eq_getElem hi
  have hin := h.inner i _ _ _ hu hS
  obtain ⟨A, c, e, h1, _⟩ := hin.form
  exact ⟨ad, cap, A, c, vs[i], S[i].1, S[i].2, rfl, hc, hu, hS, e, h1, by rw [← e]; exact hcell i _ hu, by rw [← e]; exact hin⟩
end
/-- the book's block, of colour 20 -/
def BookAt (o : Nat → Nat) (w : World) (p : Nat) (cs : Array Value) : Prop := Blk w p 56 cs ∧ o p = 20
theorem BookAt.step {o o' : Nat → Nat} {C : Nat → Prop} {w w' : World} {p : Nat} {cs : Array Value} (h : BookAt o w p cs) (hs : Step o C w o' w') (h0 : ¬ C 20) : BookAt o' w' p cs := ⟨h.1.step hs (by rw [h.2]; exact h0), (hs.old p h.1.lt).trans h.2⟩
theorem BookAt.alloc {o : Nat → Nat} {w : World} {p : Nat} {cs : Array Value} (h : BookAt o w p cs) (x : Obj) : BookAt o (w.alloc x) p cs := ⟨h.1.alloc x, h.2⟩
theorem BookAt.set_ {o : Nat → Nat} {w : World} {p : Nat} {cs : Array Value} (h : BookAt o w p cs) (i : Nat) (u : Value) : BookAt o (w.setCell ⟨p, i, none⟩ u) p (cs.setIfInBounds i u) := ⟨h.1.set_ i u, h.2⟩
def rowsF (r : Nat → List Value) (f n : Nat) : List Value := (List.range n).flatMap (fun k => r (f + k))
theorem rowsF_zero (r : Nat → List Value) (f : Nat) : rowsF r f 0 = [] := rfl
theorem rowsF_succ (r : Nat → List Value) (f n : Nat) : rowsF r f (n + 1) = rowsF r f n ++ r (f + n) := by simp [rowsF, List.range_succ]
theorem rowsF_app (r : Nat → List Value) (f n : Nat) : ∀ m, rowsF r f (n + m) = rowsF r f n ++ rowsF r (f + n) m
  | 0 => by simp [rowsF_zero]
  | m + 1 => by rw [← Nat.add_assoc, rowsF_succ, rowsF_app r f n m, rowsF_succ, List.append_assoc, Nat.add_assoc]
theorem rowsF_len {r : Nat → List Value} {s : Nat} (hs : ∀ k, (r k).length = s) (f : Nat) : ∀ n, (rowsF r f n).length = n * s
  | 0 => by simp [rowsF_zero]
  | n + 1 => by rw [rowsF_succ, List.length_append, rowsF_len hs f n, hs, Nat.add_mul, Nat.one_mul]
/-- what a row reads -/
theorem Reads.markrow {r : Nat → List Value} {s : Nat} (hs : ∀ k, (r k).length = s) {w : World} {A : Option Addr} {n : Nat} (h : Reads w s A n (rowsF r 0 n)) {k : Nat} (hk : k < n) :
    ∃ ad, A = some ad ∧ ∀ j u, (r k)[j]? = some u → w.cell? ((ad.add (k * s)).add j) = some u := by
  have h2 : Reads w s A (List.range n).length ((List.range n).flatMap r) := by
    have e : rowsF r 0 n = (List.range n).flatMap r := by unfold rowsF; simp
    rw [e] at h
    simpa using h
  exact Reads.row hs h2 (k := k) (y := k) (by simp [hk])
/-- a row is written over -/
theorem OwnW.setRow {o : Nat → Nat} {c : Nat} {w : World} {e : TypeId} {size n g off cap : Nat} {xs : List Value} (h : OwnW o c w e size (.slice (some ⟨g, off, none⟩) n cap) n xs) {k : Nat} (hk : k < n) {vals : List Value} (hv : vals.length = size) :
    OwnW o c (w.setCells g (off + k * size) vals) e size (.slice (some ⟨g, off, none⟩) n cap) n (xs.take (k * size) ++ vals ++ xs.drop ((k + 1) * size)) := by
  have hkn : (k + 1) * size ≤ n * size := Nat.mul_le_mul_right _ hk
  have hk1 : (k + 1) * size = k * size + size := by rw [Nat.add_mul, Nat.one_mul]
  have hlen : (xs.take (k * size) ++ vals ++ xs.drop ((k + 1) * size)).length = n * size := by
    have := h.1
    simp only [List.length_append, List.length_take, List.length_drop]
    omega
  refine ⟨hlen, ?_⟩
  rcases h.2 with ⟨hv, h0⟩ | ⟨g', off', cap', cur, hv', hb, hc, h1, h2, h3, h4⟩
  · omega
  · simp only [Value.slice.injEq, Option.some.injEq, Addr.mk.injEq] at hv'
    obtain ⟨⟨rfl, rfl, _⟩, _, rfl⟩ := hv'
    obtain ⟨cs', b1, b2, b3⟩ := Blk.cells_ vals (off + k * size) w cur hb
    have hns : n * size ≤ cap * size := Nat.mul_le_mul_right _ h1
    refine .inr ⟨g, off, cap, cs', rfl, b1, hc, h1, h2, by omega, ?_⟩
    apply List.ext_getElem?
    intro j
    rw [List.getElem?_take, List.getElem?_drop]
    simp only [Array.getElem?_toList, b3]
    have hxl := h.1
    by_cases hj : j < n * size
    · rw [if_pos hj]
      have hxs : ∀ j', j' < n * size → cur[off + j']? = xs[j']? := by
        intro j' hj'
        obtain ⟨u, hu⟩ : ∃ u, xs[j']? = some u := ⟨_, List.getElem?_eq_getElem (by omega)⟩
        rw [hu]
        have := drop_take_get h4 hu
        simpa using this
      by_cases h5 : j < k * size
      · rw [if_neg (by omega), hxs j hj, List.append_assoc, List.getElem?_append_left (by simp; omega), List.getElem?_take, if_pos h5]
      · by_cases h6 : j < (k + 1) * size
        · rw [if_pos (by omega), List.getElem?_append_left (by simp; omega), List.getElem?_append_right (by simp; omega)]
          congr 1
          simp
          omega
        · rw [if_neg (by omega), hxs j hj, List.getElem?_append_right (by simp; omega), List.getElem?_drop]
          congr 1
          simp
          omega
    · rw [if_neg hj, List.getElem?_eq_none]
      omega
/-- one list of the kept is another one -/
theorem Kept.put {tO tE : TypeId} {sz cO cI : Nat} {o o' : Nat → Nat} {w w' : World} {v u : Value} {S : List (Nat × List Value)} {vs : List Value} {i n : Nat} {xs : List Value} (h : Kept tO tE sz cO cI o w v S vs) (hi : i < S.length) (hu : vs[i]? = some u)
    (ho : OwnW o' (cI + i) w' tE sz u n xs) (hs : Step o (only (cI + i)) w o' w') (hd : cO ≠ cI + i) : Kept tO tE sz cO cI o' w' v (S.set i (n, xs)) vs := by
  refine ⟨by simpa using h.len, by simpa using h.outer.step hs hd, fun j u1 n1 xs1 hu1 hS1 => ?_⟩
  by_cases hij : j = i
  · subst hij
    rw [List.getElem?_set_self hi] at hS1
    injection hS1 with hS1
    injection hS1 with e1 e2
    subst e1 e2
    rw [hu] at hu1
    injection hu1 with hu1
    subst hu1
    exact ho
  · rw [List.getElem?_set_ne (by omega)] at hS1
    exact (h.inner j u1 n1 xs1 hu1 hS1).step hs (by unfold only; omega)
/-- the first i lists are marked, the others as they were -/
def putS (m : Nat → Nat → List Value) (i : Nat) (S : List (Nat × List Value)) : List (Nat × List Value) := S.mapIdx (fun j p => if j < i then (p.1, rowsF (m j) 0 p.1) else p)
theorem putS_len (m : Nat → Nat → List Value) (i : Nat) (S : List (Nat × List Value)) : (putS m i S).length = S.length := by simp [putS]
theorem putS_zero (m : Nat → Nat → List Value) (S : List (Nat × List Value)) : putS m 0 S = S := by
  apply List.ext_getElem?
  intro j
  simp [putS]
theorem putS_get {m : Nat → Nat → List Value} {i : Nat} {S : List (Nat × List Value)} {n : Nat} {xs : List Value} (h : S[i]? = some (n, xs)) : (putS m i S)[i]? = some (n, xs) := by
  simp [putS, h]
theorem putS_succ {m : Nat → Nat → List Value} {i : Nat} {S : List (Nat × List Value)} {n : Nat} {xs : List Value} (h : S[i]? = some (n, xs)) : putS m (i + 1) S = (putS m i S).set i (n, rowsF (m i) 0 n) := by
  apply List.ext_getElem?
  intro j
  by_cases hij : j = i
  · subst hij
    rw [List.getElem?_set_self (by rw [putS_len]; exact (List.getElem?_eq_some_iff.1 h).1)]
    simp [putS, h]
  · rw [List.getElem?_set_ne (by omega)]
    simp only [putS, List.getElem?_mapIdx]
    congr 1
    funext p
    by_cases h1 : j < i
    · rw [if_pos h1, if_pos (by omega)]
    · rw [if_neg h1, if_neg (by omega)]
def putC (b1 : Nat) : Nat → Prop := fun c => c = 40 ∨ (b1 ≤ c ∧ c < b1 + 1000)
theorem putS_row {S : List (Nat × List Value)} {m : Nat → Nat → List Value} {i n : Nat} {xs : List Value} (hS : (putS m i S)[i]? = some (n, xs)) : S[i]? = some (n, xs) := by
  simpa [putS] using hS
theorem set_same {S : List (Nat × List Value)} {i n : Nat} {xs : List Value} (h : S[i]? = some (n, xs)) : S.set i (n, xs) = S := by
  apply List.ext_getElem?
  intro j
  by_cases hij : j = i
  · subst hij
    rw [List.getElem?_set_self (List.getElem?_eq_some_iff.1 h).1, h]
  · rw [List.getElem?_set_ne (by omega)]
/-- the inner loop: the first k elements of list i are marked -/
structure PutAt (tO tE : TypeId) (sz cO cI : Nat) (r : Nat → Nat → List Value) (o o' : Nat → Nat) (w w' : World) (p : Nat) (cs : Array Value) (v : Value) (S : List (Nat × List Value)) (vs : List Value) (i n k : Nat) (xs : List Value) (M : Value) : Prop where
  kept : Kept tO tE sz cO cI o' w' v ((putS r i S).set i (n, rowsF (r i) 0 k ++ xs.drop (k * sz))) vs
  marks : OwnS o' 40 w' tE sz M n (rowsF (r i) 0 n)
  step : Step o (putC cI) w o' w'
  book : BookAt o' w' p cs
theorem PutAt.done {tO tE : TypeId} {sz cO cI : Nat} {r : Nat → Nat → List Value} {o o' : Nat → Nat} {w w' : World} {p : Nat} {cs : Array Value} {v : Value} {S : List (Nat × List Value)} {vs : List Value} {i n : Nat} {xs : List Value} {M : Value} (h : PutAt tO tE sz cO cI r o o' w w' p cs v S vs i n n xs M) (hS : S[i]? = some (n, xs)) (hx : xs.length = n * sz) : Kept tO tE sz cO cI o' w' v (putS r (i + 1) S) vs := by
  have h1 := h.kept
  rw [List.drop_of_length_le (by omega), List.append_nil] at h1
  rw [putS_succ hS]
  exact h1
theorem Kept.drew {tO tE : TypeId} {sz cO cI : Nat} {o : Nat → Nat} {w : World} {v : Value} {S : List (Nat × List Value)} {vs : List Value} (h : Kept tO tE sz cO cI o w v S vs) : Kept tO tE sz cO cI o w.drew v S vs := ⟨h.len, h.outer, h.inner⟩
theorem PutAt.drew {tO tE : TypeId} {sz cO cI : Nat} {r : Nat → Nat → List Value} {o o' : Nat → Nat} {w w' : World} {p : Nat} {cs : Array Value} {v : Value} {S : List (Nat × List Value)} {vs : List Value} {i n k : Nat} {xs : List Value} {M : Value} (h : PutAt tO tE sz cO cI r o o' w w' p cs v S vs i n k xs M) : PutAt tO tE sz cO cI r o o' w w'.drew p cs v S vs i n k xs M :=
  ⟨h.kept.drew, h.marks, h.step.drew, h.book⟩
theorem far_row {w : World} {a : Addr} {v : Value} {g : Nat} (h : w.cell? a = some v) (hn : a.block ≠ g) (l : List Value) (o : Nat) : (w.setCells g o l).drew.cell? a = some v :=
  (World.cell?_of_block (w := w) (w' := w.setCells g o l) (setCells_far hn l o w)).trans h
theorem PutAt.open_ {tO tE : TypeId} {sz cI j0 : Nat} {r : Nat → Nat → List Value} {o o' : Nat → Nat} {w w' : World} {p : Nat} {cs : Array Value} {v x : Value} {S : List (Nat × List Value)} {vs : List Value} {i n k c c2 : Nat} {xs : List Value} {A A2 : Option Addr} {ad : Addr} {cap : Nat} {cO : Nat}
    (h : PutAt tO tE sz cO cI r o o' w w' p cs v S vs i n k xs (.slice A2 n c2)) (hv : v = .slice (some ad) S.length cap) (hi : i < S.length) (hu : vs[i]? = some (.slice A n c)) (hk : k < n) (hs : ∀ i k, (r i k).length = sz) (hx : cs[j0]? = some x) (hco : cO ≠ cI + i) (h20 : 20 ≠ cI + i) (h40 : 40 ≠ cI + i) :
    ∃ g off g2, A = some ⟨g, off, none⟩ ∧ A2 = some ⟨g2, 0, none⟩ ∧ w'.cell? ⟨p, j0, none⟩ = some x ∧ w'.cell? (ad.add i) = some (.slice A n c) ∧ (∀ j u, (r i k)[j]? = some u → w'.cell? ⟨g2, k * sz + j, none⟩ = some u) ∧ p ≠ g ∧ (ad.add i).block ≠ g ∧ g2 ≠ g ∧ (∀ j, j < sz → (∃ u, w'.cell? ⟨g, off + k * sz + j, none⟩ = some u) ∧ w'.frozen? ⟨g, off + k * sz + j, none⟩ = false) := by
  have hmark := Reads.markrow (r := r i) (hs i) (Reads.of_own h.marks.1) hk
  obtain ⟨ad2, rfl, hm⟩ := hmark
  obtain ⟨g2, e2, _, hg2⟩ := h.marks.addr (by omega)
  injection e2 with e2
  subst e2
  have hin := h.kept.inner i _ _ _ hu (List.getElem?_set_self (by rw [putS_len]; exact hi))
  have hset : ((putS r i S).set i (n, rowsF (r i) 0 k ++ xs.drop (k * sz))).length = S.length := by rw [List.length_set, putS_len]
  rcases hin.2 with ⟨_, h0⟩ | ⟨g, off, cap1, cur, e1, hb, hc, h1, h2, h3, h4⟩
  · omega
  · simp only [Value.slice.injEq] at e1
    obtain ⟨rfl, _, rfl⟩ := e1
    have hcell := (h.book.1.cell j0).trans hx
    have ho := h.kept.outer
    rw [hv] at ho
    have hr := (OwnW.reads (hset ▸ ho : OwnW o' cO w' tO 1 (.slice (some ad) S.length cap) S.length vs)).2 (by omega)
    obtain ⟨ad', e3, hc3⟩ := hr
    injection e3 with e3
    subst e3
    obtain ⟨g8, off8, e4, _, hg8, _⟩ := (hset ▸ ho : OwnW o' cO w' tO 1 (.slice (some ad) S.length cap) S.length vs).open_ (by omega)
    injection e4 with e4
    subst e4
    refine ⟨g, off, g2, rfl, rfl, hcell, hc3 i _ hu, fun j u hj => by have := hm j u hj; rwa [add_of_add, Addr.add_lit, Nat.zero_add] at this, ?_, ?_, ?_, ?_⟩
    · rintro rfl
      have := h.book.2
      omega
    · rw [block_of_add]
      intro e
      have e : g8 = g := e
      subst e
      omega
    · intro e
      subst e
      omega
    · intro j hj
      have hkn : (k + 1) * sz ≤ n * sz := Nat.mul_le_mul_right _ hk
      have hnc : n * sz ≤ c * sz := Nat.mul_le_mul_right _ h1
      rw [Nat.add_mul, Nat.one_mul] at hkn
      exact ⟨hb.cell_some (by omega), hb.frozen _⟩
theorem PutAt.next {tO tE : TypeId} {sz cI : Nat} {r : Nat → Nat → List Value} {o o' : Nat → Nat} {w w' : World} {p : Nat} {cs : Array Value} {v : Value} {S : List (Nat × List Value)} {vs : List Value} {i n k c c2 : Nat} {xs : List Value} {A2 : Option Addr} {g off : Nat} {cO : Nat}
    (h : PutAt tO tE sz cO cI r o o' w w' p cs v S vs i n k xs (.slice A2 n c2)) (hi : i < S.length) (hi2 : i < 1000) (hu : vs[i]? = some (.slice (some ⟨g, off, none⟩) n c)) (hk : k < n) (hs : ∀ i k, (r i k).length = sz) (hco : cO ≠ cI + i) (h20 : 20 ≠ cI + i) (h40 : 40 ≠ cI + i) :
    PutAt tO tE sz cO cI r o o' w (w'.setCells g (off + k * sz) (r i k)) p cs v S vs i n (k + 1) xs (.slice A2 n c2) := by
  have hin := h.kept.inner i _ _ _ hu (List.getElem?_set_self (by rw [putS_len]; exact hi))
  have hin2 := hin
  rcases hin2.2 with ⟨_, h0⟩ | ⟨g', off', cap1, cur, e1, hb, hc, h1, h2, h3, h4⟩
  · omega
  · simp only [Value.slice.injEq, Option.some.injEq, Addr.mk.injEq] at e1
    obtain ⟨⟨rfl, rfl, _⟩, _, rfl⟩ := e1
    have hrow := hin.setRow hk (hs i k)
    have hs2 : Step o' (only (cI + i)) w' o' (w'.setCells g (off + k * sz) (r i k)) := by
      obtain ⟨s1, s2, s3, s4⟩ := setCells_same g (r i k) (off + k * sz) w'
      exact ⟨s1, s2, s3, by omega, fun _ _ => rfl, fun _ _ => rfl, fun k hk hne => setCells_far (fun e => hne (by rw [e]; exact hc)) _ _ _⟩
    have hk1 : (k + 1) * sz = k * sz + sz := by rw [Nat.add_mul, Nat.one_mul]
    have hkn : (k + 1) * sz ≤ n * sz := Nat.mul_le_mul_right _ hk
    have hL := rowsF_len (hs i) 0 k
    have e : (rowsF (r i) 0 k ++ xs.drop (k * sz)).take (k * sz) ++ r i k ++ (rowsF (r i) 0 k ++ xs.drop (k * sz)).drop ((k + 1) * sz) = rowsF (r i) 0 (k + 1) ++ xs.drop ((k + 1) * sz) := by
      rw [rowsF_succ, Nat.zero_add, List.take_append_of_le_length (by omega), List.take_of_length_le (by omega), List.drop_append, List.drop_of_length_le (by omega), List.nil_append, List.drop_drop, hL]
      congr 2
      omega
    rw [e] at hrow
    refine ⟨?_, h.marks.step hs2 h40, h.step.trans (hs2.mono (fun c h => .inr (by unfold only at h; omega))), h.book.step hs2 h20⟩
    have := h.kept.put (by rw [List.length_set, putS_len]; exact hi) hu hrow hs2 hco
    rwa [List.set_set] at this
def growC (cO cI : Nat) : Nat → Prop := fun c => c = 40 ∨ c = cO ∨ (cI ≤ c ∧ c < cI + 1000)
/-- a list, and what was grown from it: the same place, or another block -/
def KeepRel (v0 : Value) (n0 : Nat) (v : Value) (n : Nat) : Prop := (∃ A0 cap0 cap, v0 = .slice A0 n0 cap0 ∧ v = .slice A0 n cap) ∨ v0.ownBlock ≠ v.ownBlock
theorem KeepRel.more {o : Nat → Nat} {c : Nat} {w : World} {e : TypeId} {sz n0 n n' : Nat} {v0 v v' : Value} {xs : List Value} (h : KeepRel v0 n0 v n) (hn : NewOrSame w v n v' n') (h0 : OwnW o c w e sz v0 n0 xs) (hs : ∃ g, v'.ownBlock = some g) : KeepRel v0 n0 v' n' := by
  obtain ⟨g, hg⟩ := hs
  rcases hn with ⟨A, cap, rfl, rfl⟩ | hn
  · rcases h with ⟨A0, cap0, cap', rfl, e2⟩ | hne
    · injection e2 with e3
      subst e3
      exact .inl ⟨A, cap0, cap, rfl, rfl⟩
    · refine .inr (fun e => hne (e.trans ?_))
      cases A <;> rfl
  · refine .inr (fun e => ?_)
    have := (h0.lt g (e.trans hg)).1
    have := hn g hg
    omega
theorem OwnW.some_ {o : Nat → Nat} {c : Nat} {w : World} {e : TypeId} {sz n : Nat} {v : Value} {xs : List Value} (h : OwnW o c w e sz v n xs) (hn : 0 < n) : ∃ g, v.ownBlock = some g := by
  rcases h.2 with ⟨_, h0⟩ | ⟨g, off, cap, cur, rfl, _⟩
  · omega
  · exact ⟨g, rfl⟩
def growS (r : Nat → Nat → List Value) (S : List (Nat × List Value)) : List (Nat × List Value) := S.mapIdx (fun i p => (p.1 + 72, rowsF (r i) 0 (p.1 + 72)))
theorem growS_len (r : Nat → Nat → List Value) (S : List (Nat × List Value)) : (growS r S).length = S.length := by simp [growS]
theorem growS_take {r : Nat → Nat → List Value} {S : List (Nat × List Value)} {i n : Nat} {xs : List Value} (h : S[i]? = some (n, xs)) : (growS r S).take (i + 1) = (growS r S).take i ++ [(n + 72, rowsF (r i) 0 (n + 72))] := by
  have h1 : (growS r S)[i]? = some (n + 72, rowsF (r i) 0 (n + 72)) := by simp [growS, h]
  rw [List.take_add_one, h1]
  rfl
/-- list i, grown by k elements; the lists grown so far -/
structure GrowAt (tO tE : TypeId) (sz cO cG cI : Nat) (r : Nat → Nat → List Value) (o o' : Nat → Nat) (w w' : World) (p : Nat) (cs : Array Value) (v : Value) (S : List (Nat × List Value)) (vs : List Value) (V : Value) (us : List Value) (i n k : Nat) (u l : Value) : Prop where
  kept : Kept tO tE sz cO cI o' w' v S vs
  out : Kept tO tE sz cG cI o' w' V ((growS r S).take i) us
  row : OwnW o' (cI + i) w' tE sz l (n + k) (rowsF (r i) 0 (n + k))
  rel : KeepRel u n l (n + k)
  step : Step o (growC cG cI) w o' w'
  book : BookAt o' w' p cs
section
variable {tO tE : TypeId} {sz cO cG cI : Nat} {r : Nat → Nat → List Value} {o o' o2 : Nat → Nat} {w w' w2 : World} {p : Nat} {cs : Array Value} {v V u l : Value} {S : List (Nat × List Value)} {vs us : List Value} {i n k : Nat}
theorem GrowAt.marks (h : GrowAt tO tE sz cO cG cI r o o' w w' p cs v S vs V us i n k u l) (hs : Step o' (only 40) w' o2 w2) (h0 : 40 < cI) (h1 : cO ≠ 40) (h2 : cG ≠ 40) : GrowAt tO tE sz cO cG cI r o o2 w w2 p cs v S vs V us i n k u l :=
  ⟨h.kept.step hs h1 (fun j _ => by unfold only; omega), h.out.step hs h2 (fun j _ => by unfold only; omega), h.row.step hs (by unfold only; omega), h.rel, h.step.trans (hs.mono (fun c hc => .inl hc)), h.book.step hs (by unfold only; omega)⟩
theorem GrowAt.more {m q : Nat} {v' : Value} (h : GrowAt tO tE sz cO cG cI r o o' w w' p cs v S vs V us i n k u l) (hs : Step o' (only (cI + i)) w' o2 w2) (hq : q = n + k) (ho : OwnW o2 (cI + i) w2 tE sz v' (q + m) (rowsF (r i) 0 q ++ rowsF (r i) q m))
    (hK : ∀ c1 v0 n0 xs0, OwnW o' c1 w' tE sz v0 n0 xs0 → n0 ≤ q → ((∃ A0 cap0 cap, v0 = .slice A0 n0 cap0 ∧ l = .slice A0 q cap) ∨ v0.ownBlock ≠ l.ownBlock) → OwnW o2 c1 w2 tE sz v0 n0 xs0) (hn : NewOrSame w' l q v' (q + m)) (hm : 0 < m)
    (hi : i < S.length) (hi2 : i < 1000) (hu : vs[i]? = some u) (hS : S[i]? = some (n, rowsF (r i) 0 n)) (h0 : 40 < cI) (h1 : cO < cI) (h2 : cG < cI) : GrowAt tO tE sz cO cG cI r o o2 w w2 p cs v S vs V us i n (k + m) u v' := by
  subst hq
  have hrow := h.kept.inner i _ _ _ hu hS
  refine ⟨⟨h.kept.len, h.kept.outer.step hs (by unfold only; omega), fun j u1 n1 xs1 hu1 hS1 => ?_⟩, ?_, ?_, ?_, h.step.trans (hs.mono (fun c hc => .inr (.inr (by unfold only at hc; omega)))), ?_⟩
  · by_cases hij : j = i
    · subst hij
      rw [hu] at hu1
      rw [hS] at hS1
      injection hu1 with hu1
      injection hS1 with hS1
      injection hS1 with e1 e2
      subst hu1 e1 e2
      exact hK _ _ _ _ hrow (by omega) h.rel
    · exact (h.kept.inner j u1 n1 xs1 hu1 hS1).step hs (by unfold only; omega)
  · refine h.out.step hs (by unfold only; omega) (fun j hj => ?_)
    rw [List.length_take] at hj
    unfold only
    omega
  · rw [← Nat.add_assoc, rowsF_app, Nat.zero_add]
    exact ho
  · rw [← Nat.add_assoc]
    exact h.rel.more hn hrow (ho.some_ (by omega))
  · exact h.book.step hs (by unfold only; omega)
/-- the lists grown so far -/
structure GrowO (tO tE : TypeId) (sz cO cG cI : Nat) (r : Nat → Nat → List Value) (o o' : Nat → Nat) (w w' : World) (p : Nat) (cs : Array Value) (v : Value) (S : List (Nat × List Value)) (vs : List Value) (V : Value) (us : List Value) (i : Nat) : Prop where
  kept : Kept tO tE sz cO cI o' w' v S vs
  out : Kept tO tE sz cG cI o' w' V ((growS r S).take i) us
  step : Step o (growC cG cI) w o' w'
  book : BookAt o' w' p cs
theorem GrowO.start (h : GrowO tO tE sz cO cG cI r o o' w w' p cs v S vs V us i) (hu : vs[i]? = some u) (hS : S[i]? = some (n, rowsF (r i) 0 n)) : GrowAt tO tE sz cO cG cI r o o' w w' p cs v S vs V us i n 0 u u := by
  have hrow := h.kept.inner i _ _ _ hu hS
  obtain ⟨A, cap, e, _⟩ := hrow.form
  exact ⟨h.kept, h.out, hrow, .inl ⟨A, cap, cap, e, e⟩, h.step, h.book⟩
theorem GrowAt.finish {V2 : Value} (h : GrowAt tO tE sz cO cG cI r o o' w w' p cs v S vs V us i n 72 u l) (hs : Step o' (only cG) w' o2 w2) (ho : OwnW o2 cG w2 tO 1 V2 (i + 1) (us ++ [l])) (hi : i < S.length) (hS : S[i]? = some (n, rowsF (r i) 0 n)) (h1 : cO ≠ cG) (h2 : cG < cI) (h3 : cG ≠ 20) : GrowO tO tE sz cO cG cI r o o2 w w2 p cs v S vs V2 (us ++ [l]) (i + 1) := by
  have hlen : ((growS r S).take i).length = i := by rw [List.length_take, growS_len]; omega
  refine ⟨h.kept.step hs (by unfold only; omega) (fun j _ => by unfold only; omega), ?_, h.step.trans (hs.mono (fun c hc => .inr (.inl hc))), h.book.step hs (by unfold only; omega)⟩
  rw [growS_take hS]
  exact h.out.more (by rw [hlen]; exact ho) hs (by rw [hlen]; exact h.row) (fun j _ => by omega)
theorem GrowO.outer (h : GrowO tO tE sz cO cG cI r o o' w w' p cs v S vs V us i) (hi : i ≤ S.length) : OwnW o' cG w' tO 1 V i us := by
  have hlen : ((growS r S).take i).length = i := by rw [List.length_take, growS_len]; omega
  have := h.out.outer
  rwa [hlen] at this
theorem GrowAt.outer (h : GrowAt tO tE sz cO cG cI r o o' w w' p cs v S vs V us i n k u l) (hi : i ≤ S.length) : OwnW o' cG w' tO 1 V i us := by
  have hlen : ((growS r S).take i).length = i := by rw [List.length_take, growS_len]; omega
  have := h.out.outer
  rwa [hlen] at this
end
theorem GrowAt.alloc {tO tE : TypeId} {sz cO cG cI : Nat} {r : Nat → Nat → List Value} {o o' : Nat → Nat} {w w' : World} {p : Nat} {cs : Array Value} {v V u l : Value} {S : List (Nat × List Value)} {vs us : List Value} {i n k : Nat} (h : GrowAt tO tE sz cO cG cI r o o' w w' p cs v S vs V us i n k u l) (x : Obj) : GrowAt tO tE sz cO cG cI r o o' w (w'.alloc x) p cs v S vs V us i n k u l :=
  ⟨h.kept.alloc x, h.out.alloc x, h.row.alloc x, h.rel, h.step.alloc x, h.book.alloc x⟩
end Go.Proofs.YtkhieofknglknaaGreatDoor
