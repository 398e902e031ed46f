/- MsgTells' book: putLocks, putMsgs. -/
import Derived.Test.YtjmgefpdfhfhmaaGreatDoorMsgQ

/- MsgTells' book: the marks as rows; a row of a list is written over. -/
namespace Go.Proofs.YtjmgefpdfhfhmaaGreatDoor
open Go.RowKit

def rowsF (r : Nat → List Value) (f n : Nat) : List Value := (List.range n).flatMap (fun k => r (f + k))
theorem rowsF_zero (r : Nat → List Value) (f : Nat) : rowsF r f 0 = [] := rfl
theorem rowsF_succ (r : Nat → List Value) (f n : Nat) : rowsF r f (n + 1) = rowsF r f n ++ r (f + n) := by simp [rowsF, List.range_succ]
theorem rowsF_app (r : Nat → List Value) (f n : Nat) : ∀ m, rowsF r f (n + m) = rowsF r f n ++ rowsF r (f + n) m
  | 0 => by simp [rowsF_zero]
  | m + 1 => by rw [← Nat.add_assoc, rowsF_succ, rowsF_app r f n m, rowsF_succ, List.append_assoc, Nat.add_assoc]
theorem rowsF_len {r : Nat → List Value} {s : Nat} (hs : ∀ k, (r k).length = s) (f : Nat) : ∀ n, (rowsF r f n).length = n * s
  | 0 => by simp [rowsF_zero]
  | n + 1 => by rw [rowsF_succ, List.length_append, rowsF_len hs f n, hs, Nat.add_mul, Nat.one_mul]
def lkM (i k : Nat) : List Value := [.int .i64 (k : Int), .int .i64 0, .int .i64 (-1 - (i : Int))]
def mgM (i k : Nat) : List Value := [.int .i64 0, .int .i64 (-1 - (i : Int)), .int .i64 (k : Int), .int .i64 0, .int .i64 0, .int .u64 0, .int .i64 0, .slice none 0 0]
theorem lkM_rows (i f : Nat) : ∀ n, lkcells (mkL i f n) = rowsF (lkM i) f n
  | 0 => rfl
  | n + 1 => by rw [rowsF_succ, ← lkM_rows i f n]; simp [mkL, lkcells, Lk.cells, lkM]
theorem mgM_rows (i f : Nat) : ∀ n, mkM i f n = rowsF (mgM i) f n
  | 0 => rfl
  | n + 1 => by rw [rowsF_succ, ← mgM_rows i f n]; simp [mkM, mgM]
theorem marklocks_rows (o : Nat → Nat) (c0 : Nat) (w : World) (i f n : Nat) (hi1 : i ≤ 1000) (hf : f + n ≤ 100000) :
    Calls Tryz.prog 129 #[.int .i64 i, .int .i64 f, .int .i64 n] w fun e w' => ∃ A cap o', e = .returned (.slice A n cap) ∧ OwnS o' c0 w' 68 3 (.slice A n cap) n (rowsF (lkM i) f n) ∧ Step o (only c0) w o' w' := by
  have h := marklocks_any o c0 w i f n hi1 hf
  rw [lkM_rows] at h
  exact h
theorem markmsgs_rows (o : Nat → Nat) (c0 : Nat) (w : World) (i f n : Nat) (hi1 : i ≤ 1000) (hf : f + n ≤ 100000) :
    Calls Tryz.prog 123 #[.int .i64 i, .int .i64 f, .int .i64 n] w fun e w' => ∃ A cap o', e = .returned (.slice A n cap) ∧ OwnS o' c0 w' 26 8 (.slice A n cap) n (rowsF (mgM i) f n) ∧ Step o (only c0) w o' w' := by
  have h := markmsgs_any o c0 w i f n hi1 hf
  rw [mgM_rows] at h
  exact h
/-- what a row reads -/
theorem Reads.markrow {r : Nat → List Value} {s : Nat} (hs : ∀ k, (r k).length = s) {w : World} {A : Option Addr} {n : Nat} (h : Reads w s A n (rowsF r 0 n)) {k : Nat} (hk : k < n) :
    ∃ ad, A = some ad ∧ ∀ j u, (r k)[j]? = some u → w.cell? ((ad.add (k * s)).add j) = some u := by
  have h2 : Reads w s A (List.range n).length ((List.range n).flatMap r) := by
    have e : rowsF r 0 n = (List.range n).flatMap r := by unfold rowsF; simp
    rw [e] at h
    simpa using h
  exact Reads.row hs h2 (k := k) (y := k) (by simp [hk])
/-- a row is written over -/
theorem OwnW.setRow {o : Nat → Nat} {c : Nat} {w : World} {e : TypeId} {size n g off cap : Nat} {xs : List Value} (h : OwnW o c w e size (.slice (some ⟨g, off, none⟩) n cap) n xs) {k : Nat} (hk : k < n) {vals : List Value} (hv : vals.length = size) :
    OwnW o c (w.setCells g (off + k * size) vals) e size (.slice (some ⟨g, off, none⟩) n cap) n (xs.take (k * size) ++ vals ++ xs.drop ((k + 1) * size)) := by
  have hkn : (k + 1) * size ≤ n * size := Nat.mul_le_mul_right _ hk
  have hk1 : (k + 1) * size = k * size + size := by rw [Nat.add_mul, Nat.one_mul]
  have hlen : (xs.take (k * size) ++ vals ++ xs.drop ((k + 1) * size)).length = n * size := by
    have := h.1
    simp only [List.length_append, List.length_take, List.length_drop]
    omega
  refine ⟨hlen, ?_⟩
  rcases h.2 with ⟨hv, h0⟩ | ⟨g', off', cap', cur, hv', hb, hc, h1, h2, h3, h4⟩
  · omega
  · simp only [Value.slice.injEq, Option.some.injEq, Addr.mk.injEq] at hv'
    obtain ⟨⟨rfl, rfl, _⟩, _, rfl⟩ := hv'
    obtain ⟨cs', b1, b2, b3⟩ := Blk.cells_ vals (off + k * size) w cur hb
    have hns : n * size ≤ cap * size := Nat.mul_le_mul_right _ h1
    refine .inr ⟨g, off, cap, cs', rfl, b1, hc, h1, h2, by omega, ?_⟩
    apply List.ext_getElem?
    intro j
    rw [List.getElem?_take, List.getElem?_drop]
    simp only [Array.getElem?_toList, b3]
    have hxl := h.1
    by_cases hj : j < n * size
    · rw [if_pos hj]
      have hxs : ∀ j', j' < n * size → cur[off + j']? = xs[j']? := by
        intro j' hj'
        obtain ⟨u, hu⟩ : ∃ u, xs[j']? = some u := ⟨_, List.getElem?_eq_getElem (by omega)⟩
        rw [hu]
        have := drop_take_get h4 hu
        simpa using this
      by_cases h5 : j < k * size
      · rw [if_neg (by omega), hxs j hj, List.append_assoc, List.getElem?_append_left (by simp; omega), List.getElem?_take, if_pos h5]
      · by_cases h6 : j < (k + 1) * size
        · rw [if_pos (by omega), List.getElem?_append_left (by simp; omega), List.getElem?_append_right (by simp; omega)]
          congr 1
          simp
          omega
        · rw [if_neg (by omega), hxs j hj, List.getElem?_append_right (by simp; omega), List.getElem?_drop]
          congr 1
          simp
          omega
    · rw [if_neg hj, List.getElem?_eq_none]
      omega
/-- one list of the kept is another one -/
theorem Kept.put {tO tE : TypeId} {sz cO cI : Nat} {o o' : Nat → Nat} {w w' : World} {v u : Value} {S : List (Nat × List Value)} {vs : List Value} {i n : Nat} {xs : List Value} (h : Kept tO tE sz cO cI o w v S vs) (hi : i < S.length) (hu : vs[i]? = some u)
    (ho : OwnW o' (cI + i) w' tE sz u n xs) (hs : Step o (only (cI + i)) w o' w') (hd : cO ≠ cI + i) : Kept tO tE sz cO cI o' w' v (S.set i (n, xs)) vs := by
  refine ⟨by simpa using h.len, by simpa using h.outer.step hs hd, fun j u1 n1 xs1 hu1 hS1 => ?_⟩
  by_cases hij : j = i
  · subst hij
    rw [List.getElem?_set_self hi] at hS1
    injection hS1 with hS1
    injection hS1 with e1 e2
    subst e1 e2
    rw [hu] at hu1
    injection hu1 with hu1
    subst hu1
    exact ho
  · rw [List.getElem?_set_ne (by omega)] at hS1
    exact (h.inner j u1 n1 xs1 hu1 hS1).step hs (by unfold only; omega)
/-- the first i lists are marked, the others as they were -/
def putS (m : Nat → Nat → List Value) (i : Nat) (S : List (Nat × List Value)) : List (Nat × List Value) := S.mapIdx (fun j p => if j < i then (p.1, rowsF (m j) 0 p.1) else p)
theorem putS_len (m : Nat → Nat → List Value) (i : Nat) (S : List (Nat × List Value)) : (putS m i S).length = S.length := by simp [putS]
theorem putS_zero (m : Nat → Nat → List Value) (S : List (Nat × List Value)) : putS m 0 S = S := by
  apply List.ext_getElem?
  intro j
  simp [putS]
theorem putS_get {m : Nat → Nat → List Value} {i : Nat} {S : List (Nat × List Value)} {n : Nat} {xs : List Value} (h : S[i]? = some (n, xs)) : (putS m i S)[i]? = some (n, xs) := by
  simp [putS, h]
theorem putS_succ {m : Nat → Nat → List Value} {i : Nat} {S : List (Nat × List Value)} {n : Nat} {xs : List Value} (h : S[i]? = some (n, xs)) : putS m (i + 1) S = (putS m i S).set i (n, rowsF (m i) 0 n) := by
  apply List.ext_getElem?
  intro j
  by_cases hij : j = i
  · subst hij
    rw [List.getElem?_set_self (by rw [putS_len]; exact (List.getElem?_eq_some_iff.1 h).1)]
    simp [putS, h]
  · rw [List.getElem?_set_ne (by omega)]
    simp only [putS, List.getElem?_mapIdx]
    congr 1
    funext p
    by_cases h1 : j < i
    · rw [if_pos h1, if_pos (by omega)]
    · rw [if_neg h1, if_neg (by omega)]
end Go.Proofs.YtjmgefpdfhfhmaaGreatDoor

namespace Go.Proofs.YtjmgefpdfhfhmaaGreatDoor
open Go.RowKit

def putC (b1 : Nat) : Nat → Prop := fun c => c = 40 ∨ (b1 ≤ c ∧ c < b1 + 1000)
theorem lkM_len (i k : Nat) : (lkM i k).length = 3 := rfl
theorem mgM_len (i k : Nat) : (mgM i k).length = 8 := rfl
theorem putS_row {S : List (Nat × List Value)} {m : Nat → Nat → List Value} {i n : Nat} {xs : List Value} (hS : (putS m i S)[i]? = some (n, xs)) : S[i]? = some (n, xs) := by
  simpa [putS] using hS
theorem set_same {S : List (Nat × List Value)} {i n : Nat} {xs : List Value} (h : S[i]? = some (n, xs)) : S.set i (n, xs) = S := by
  apply List.ext_getElem?
  intro j
  by_cases hij : j = i
  · subst hij
    rw [List.getElem?_set_self (List.getElem?_eq_some_iff.1 h).1, h]
  · rw [List.getElem?_set_ne (by omega)]
/-- the inner loop: the first k elements of list i are marked -/
structure PutAt (tO tE : TypeId) (sz cO cI : Nat) (r : Nat → Nat → List Value) (o o' : Nat → Nat) (w w' : World) (p : Nat) (cs : Array Value) (v : Value) (S : List (Nat × List Value)) (vs : List Value) (i n k : Nat) (xs : List Value) (M : Value) : Prop where
  kept : Kept tO tE sz cO cI o' w' v ((putS r i S).set i (n, rowsF (r i) 0 k ++ xs.drop (k * sz))) vs
  marks : OwnS o' 40 w' tE sz M n (rowsF (r i) 0 n)
  step : Step o (putC cI) w o' w'
  book : BookAt o' w' p cs
theorem PutAt.done {tO tE : TypeId} {sz cO cI : Nat} {r : Nat → Nat → List Value} {o o' : Nat → Nat} {w w' : World} {p : Nat} {cs : Array Value} {v : Value} {S : List (Nat × List Value)} {vs : List Value} {i n : Nat} {xs : List Value} {M : Value} (h : PutAt tO tE sz cO cI r o o' w w' p cs v S vs i n n xs M) (hS : S[i]? = some (n, xs)) (hx : xs.length = n * sz) : Kept tO tE sz cO cI o' w' v (putS r (i + 1) S) vs := by
  have h1 := h.kept
  rw [List.drop_of_length_le (by omega), List.append_nil] at h1
  rw [putS_succ hS]
  exact h1
theorem Kept.drew {tO tE : TypeId} {sz cO cI : Nat} {o : Nat → Nat} {w : World} {v : Value} {S : List (Nat × List Value)} {vs : List Value} (h : Kept tO tE sz cO cI o w v S vs) : Kept tO tE sz cO cI o w.drew v S vs := ⟨h.len, h.outer, h.inner⟩
theorem PutAt.drew {tO tE : TypeId} {sz cO cI : Nat} {r : Nat → Nat → List Value} {o o' : Nat → Nat} {w w' : World} {p : Nat} {cs : Array Value} {v : Value} {S : List (Nat × List Value)} {vs : List Value} {i n k : Nat} {xs : List Value} {M : Value} (h : PutAt tO tE sz cO cI r o o' w w' p cs v S vs i n k xs M) : PutAt tO tE sz cO cI r o o' w w'.drew p cs v S vs i n k xs M :=
  ⟨h.kept.drew, h.marks, h.step.drew, h.book⟩
theorem far_row {w : World} {a : Addr} {v : Value} {g : Nat} (h : w.cell? a = some v) (hn : a.block ≠ g) (l : List Value) (o : Nat) : (w.setCells g o l).drew.cell? a = some v :=
  (World.cell?_of_block (w := w) (w' := w.setCells g o l) (setCells_far hn l o w)).trans h
theorem PutAt.open_ {tO tE : TypeId} {sz cI j0 : Nat} {r : Nat → Nat → List Value} {o o' : Nat → Nat} {w w' : World} {p : Nat} {cs : Array Value} {v x : Value} {S : List (Nat × List Value)} {vs : List Value} {i n k c c2 : Nat} {xs : List Value} {A A2 : Option Addr} {ad : Addr} {cap : Nat} {cO : Nat}
    (h : PutAt tO tE sz cO cI r o o' w w' p cs v S vs i n k xs (.slice A2 n c2)) (hv : v = .slice (some ad) S.length cap) (hi : i < S.length) (hu : vs[i]? = some (.slice A n c)) (hk : k < n) (hs : ∀ i k, (r i k).length = sz) (hx : cs[j0]? = some x) (hco : cO ≠ cI + i) (h20 : 20 ≠ cI + i) (h40 : 40 ≠ cI + i) :
    ∃ g off g2, A = some ⟨g, off, none⟩ ∧ A2 = some ⟨g2, 0, none⟩ ∧ w'.cell? ⟨p, j0, none⟩ = some x ∧ w'.cell? (ad.add i) = some (.slice A n c) ∧ (∀ j u, (r i k)[j]? = some u → w'.cell? ⟨g2, k * sz + j, none⟩ = some u) ∧ p ≠ g ∧ (ad.add i).block ≠ g ∧ g2 ≠ g ∧ (∀ j, j < sz → (∃ u, w'.cell? ⟨g, off + k * sz + j, none⟩ = some u) ∧ w'.frozen? ⟨g, off + k * sz + j, none⟩ = false) := by
  have hmark := Reads.markrow (r := r i) (hs i) (Reads.of_own h.marks.1) hk
  obtain ⟨ad2, rfl, hm⟩ := hmark
  obtain ⟨g2, e2, _, hg2⟩ := h.marks.addr (by omega)
  injection e2 with e2
  subst e2
  have hin := h.kept.inner i _ _ _ hu (List.getElem?_set_self (by rw [putS_len]; exact hi))
  have hset : ((putS r i S).set i (n, rowsF (r i) 0 k ++ xs.drop (k * sz))).length = S.length := by rw [List.length_set, putS_len]
  rcases hin.2 with ⟨_, h0⟩ | ⟨g, off, cap1, cur, e1, hb, hc, h1, h2, h3, h4⟩
  · omega
  · simp only [Value.slice.injEq] at e1
    obtain ⟨rfl, _, rfl⟩ := e1
    have hcell := (h.book.1.cell j0).trans hx
    have ho := h.kept.outer
    rw [hv] at ho
    have hr := (OwnW.reads (hset ▸ ho : OwnW o' cO w' tO 1 (.slice (some ad) S.length cap) S.length vs)).2 (by omega)
    obtain ⟨ad', e3, hc3⟩ := hr
    injection e3 with e3
    subst e3
    obtain ⟨g8, off8, e4, _, hg8, _⟩ := (hset ▸ ho : OwnW o' cO w' tO 1 (.slice (some ad) S.length cap) S.length vs).open_ (by omega)
    injection e4 with e4
    subst e4
    refine ⟨g, off, g2, rfl, rfl, hcell, hc3 i _ hu, fun j u hj => by have := hm j u hj; rwa [add_of_add, Addr.add_lit, Nat.zero_add] at this, ?_, ?_, ?_, ?_⟩
    · rintro rfl
      have := h.book.2
      omega
    · rw [block_of_add]
      intro e
      have e : g8 = g := e
      subst e
      omega
    · intro e
      subst e
      omega
    · intro j hj
      have hkn : (k + 1) * sz ≤ n * sz := Nat.mul_le_mul_right _ hk
      have hnc : n * sz ≤ c * sz := Nat.mul_le_mul_right _ h1
      rw [Nat.add_mul, Nat.one_mul] at hkn
      exact ⟨hb.cell_some (by omega), hb.frozen _⟩
theorem PutAt.next {tO tE : TypeId} {sz cI : Nat} {r : Nat → Nat → List Value} {o o' : Nat → Nat} {w w' : World} {p : Nat} {cs : Array Value} {v : Value} {S : List (Nat × List Value)} {vs : List Value} {i n k c c2 : Nat} {xs : List Value} {A2 : Option Addr} {g off : Nat} {cO : Nat}
    (h : PutAt tO tE sz cO cI r o o' w w' p cs v S vs i n k xs (.slice A2 n c2)) (hi : i < S.length) (hi2 : i < 1000) (hu : vs[i]? = some (.slice (some ⟨g, off, none⟩) n c)) (hk : k < n) (hs : ∀ i k, (r i k).length = sz) (hco : cO ≠ cI + i) (h20 : 20 ≠ cI + i) (h40 : 40 ≠ cI + i) :
    PutAt tO tE sz cO cI r o o' w (w'.setCells g (off + k * sz) (r i k)) p cs v S vs i n (k + 1) xs (.slice A2 n c2) := by
  have hin := h.kept.inner i _ _ _ hu (List.getElem?_set_self (by rw [putS_len]; exact hi))
  have hin2 := hin
  rcases hin2.2 with ⟨_, h0⟩ | ⟨g', off', cap1, cur, e1, hb, hc, h1, h2, h3, h4⟩
  · omega
  · simp only [Value.slice.injEq, Option.some.injEq, Addr.mk.injEq] at e1
    obtain ⟨⟨rfl, rfl, _⟩, _, rfl⟩ := e1
    have hrow := hin.setRow hk (hs i k)
    have hs2 : Step o' (only (cI + i)) w' o' (w'.setCells g (off + k * sz) (r i k)) := by
      obtain ⟨s1, s2, s3, s4⟩ := setCells_same g (r i k) (off + k * sz) w'
      exact ⟨s1, s2, s3, by omega, fun _ _ => rfl, fun _ _ => rfl, fun k hk hne => setCells_far (fun e => hne (by rw [e]; exact hc)) _ _ _⟩
    have hk1 : (k + 1) * sz = k * sz + sz := by rw [Nat.add_mul, Nat.one_mul]
    have hkn : (k + 1) * sz ≤ n * sz := Nat.mul_le_mul_right _ hk
    have hL := rowsF_len (hs i) 0 k
    have e : (rowsF (r i) 0 k ++ xs.drop (k * sz)).take (k * sz) ++ r i k ++ (rowsF (r i) 0 k ++ xs.drop (k * sz)).drop ((k + 1) * sz) = rowsF (r i) 0 (k + 1) ++ xs.drop ((k + 1) * sz) := by
      rw [rowsF_succ, Nat.zero_add, List.take_append_of_le_length (by omega), List.take_of_length_le (by omega), List.drop_append, List.drop_of_length_le (by omega), List.nil_append, List.drop_drop, hL]
      congr 2
      omega
    rw [e] at hrow
    refine ⟨?_, h.marks.step hs2 h40, h.step.trans (hs2.mono (fun c h => .inr (by unfold only at h; omega))), h.book.step hs2 h20⟩
    have := h.kept.put (by rw [List.length_set, putS_len]; exact hi) hu hrow hs2 hco
    rwa [List.set_set] at this
set_option maxRecDepth 100000 in
set_option maxHeartbeats 2000000 in
theorem putlocks_any (o : Nat → Nat) (w : World) (p : Nat) (cs : Array Value) (v : Value) (S : List (Nat × List Value)) (vs : List Value) (hb : BookAt o w p cs) (h8 : cs[8]? = some v)
    (k8 : Kept 24 68 3 21 1000 o w v S vs) (hl : ∀ (i n : Nat) xs, S[i]? = some (n, xs) → n ≤ 1000) (hL : S.length ≤ 250) :
    Calls Tryz.prog 60 #[.pointer (some ⟨p, 0, none⟩)] w fun e w' => e = .returned (.tuple #[]) ∧ ∃ o', Kept 24 68 3 21 1000 o' w' v (putS lkM S.length S) vs ∧ Step o (putC 1000) w o' w' := by
  have HB := Lib.hid hb
  have HL := Lib.hid hl
  have H8 := Lib.hid k8
  have C8 := Lib.hid h8
  obtain ⟨A8, cap8, e8, _, _⟩ := k8.outer.form
  have E8 := Lib.hid e8
  clear hb hl k8 h8 e8
  go_enter Tryz.func60, Tryz.ntmps60
  go_wp2_with fail
  go_loopw [2] (fun t1 wr => ∃ (i : Nat) (o' : Nat → Nat), i ≤ S.length ∧ t1 = .int .i64 i ∧ Kept 24 68 3 21 1000 o' wr v (putS lkM i S) vs ∧ Step o (putC 1000) w o' wr) (fun t1 _ => S.length - (intOf t1).toNat)
  case atStart => exact ⟨0, o, by omega, rfl, by rw [putS_zero]; exact H8.out, Step.refl _ _ _⟩
  case round =>
    obtain ⟨i, o1, hi, rfl, k1, hs⟩ := hrel
    have h8 : wr.cell? ⟨p, 8, none⟩ = some (.slice A8 S.length cap8) := by rw [← E8.out]; exact ((HB.out.step hs (by unfold putC; omega)).1.cell 8).trans C8.out
    have HS := Lib.hid hs
    have K1 := Lib.hid k1
    clear hs k1
    by_cases hlt : i < S.length
    · have hltI : (i : Int) < (S.length : Int) := by omega
      obtain ⟨ad, cap, A, c, u, n, xs, e1, _, hu, hS, e2, _, hc, how⟩ := K1.out.at_ (i := i) (by rw [putS_len]; exact hlt)
      rw [E8.out, putS_len] at e1
      injection e1 with e1 _ e3
      subst e1 e3
      have HOW := Lib.hid how
      have HU := Lib.hid hu
      have HSS := Lib.hid hS
      clear how hu hS
      go_wp2_with fail
      have hn := HL.out i n xs (putS_row HSS.out)
      refine (marklocks_rows o1 40 wr i 0 n (by omega) (by omega)).mono ?_
      rintro e w2 ⟨A2, c2, o2, rfl, how2, hs2⟩
      have hP : PutAt 24 68 3 21 1000 lkM o o2 w w2 p cs v S vs i n 0 xs (.slice A2 n c2) := ⟨by rw [rowsF_zero, List.nil_append, Nat.zero_mul, List.drop_zero, set_same HSS.out]; exact K1.out.step hs2 (by unfold only; omega) (fun j _ => by unfold only; omega), how2, HS.out.trans (hs2.mono (fun c h => .inl h)), (HB.out.step HS.out (by unfold putC; omega)).step hs2 (by unfold only; omega)⟩
      have HP := Lib.hid hP
      clear hP how2 hs2 hc h8
      go_wp2_with fail
      go_loopw [4] (fun t4 wk => ∃ (k : Nat) (o' : Nat → Nat), k ≤ n ∧ t4 = .int .i64 k ∧ PutAt 24 68 3 21 1000 lkM o o' w wk p cs v S vs i n k xs (.slice A2 n c2)) (fun t4 _ => n - (intOf t4).toNat)
      case atStart => exact ⟨0, o2, by omega, rfl, HP.out⟩
      case round =>
        obtain ⟨k, o3, hk, rfl, hp⟩ := hrel
        have HP3 := Lib.hid hp
        clear hp
        by_cases hlt2 : k < n
        · have hltI2 : (k : Int) < (n : Int) := by omega
          obtain ⟨g, off, g2, rfl, rfl, q8, qi, qm, n1, n2, n3, qt⟩ := HP3.out.open_ E8.out hlt (by rw [HU.out, e2]) hlt2 lkM_len C8.out (by omega) (by omega) (by omega)
          rw [E8.out] at q8
          have m0 : wr.cell? ⟨g2, k * 3, none⟩ = some (.int .i64 (k : Int)) := qm 0 _ rfl
          have m1 : wr.cell? ⟨g2, k * 3 + 1, none⟩ = some (.int .i64 0) := qm 1 _ rfl
          have m2 : wr.cell? ⟨g2, k * 3 + 2, none⟩ = some (.int .i64 (-1 - (i : Int))) := qm 2 _ rfl
          obtain ⟨⟨t0, p0⟩, f0⟩ : (∃ u, wr.cell? ⟨g, off + k * 3, none⟩ = some u) ∧ wr.frozen? ⟨g, off + k * 3, none⟩ = false := qt 0 (by omega)
          obtain ⟨⟨t1, p1⟩, f1⟩ : (∃ u, wr.cell? ⟨g, off + k * 3 + 1, none⟩ = some u) ∧ wr.frozen? ⟨g, off + k * 3 + 1, none⟩ = false := qt 1 (by omega)
          obtain ⟨⟨t2, p2⟩, f2⟩ : (∃ u, wr.cell? ⟨g, off + k * 3 + 2, none⟩ = some u) ∧ wr.frozen? ⟨g, off + k * 3 + 2, none⟩ = false := qt 2 (by omega)
          clear qm qt
          go_wp2_with fail
          go_region_held3 (fun w' => w'.cell? ⟨p, 8, none⟩ = some (.slice (some ad) S.length cap8) ∧ w'.cell? (ad.add i) = some (.slice (some ⟨g, off, none⟩) n c) ∧ w'.cell? ⟨g2, k * 3, none⟩ = some (.int .i64 (k : Int)) ∧ w'.cell? ⟨g2, k * 3 + 1, none⟩ = some (.int .i64 0) ∧ w'.cell? ⟨g2, k * 3 + 2, none⟩ = some (.int .i64 (-1 - (i : Int))))
            (first | exact ⟨q8, qi, m0, m1, m2⟩ | exact ⟨far_row q8 n1 (lkM i k) (off + k * 3), far_row qi n2 (lkM i k) (off + k * 3), far_row m0 n3 (lkM i k) (off + k * 3), far_row m1 n3 (lkM i k) (off + k * 3), far_row m2 n3 (lkM i k) (off + k * 3)⟩)
            (fail)
          have hN := HP3.out.next hlt (by omega) (by rw [HU.out, e2]) hlt2 lkM_len (by omega) (by omega) (by omega)
          have HN := Lib.hid (show PutAt 24 68 3 21 1000 lkM o o3 w (((wr.setCell ⟨g, off + k * 3, none⟩ (.int .i64 (k : Int))).setCell ⟨g, off + k * 3 + 1, none⟩ (.int .i64 0)).setCell ⟨g, off + k * 3 + 2, none⟩ (.int .i64 (-1 - (i : Int)))).drew p cs v S vs i n (k + 1) xs (.slice (some ⟨g2, 0, none⟩) n c2) from PutAt.drew hN)
          clear hN q8 qi m0 m1 m2 p0 p1 p2 f0 f1 f2 n1 n2 n3
          go_wp2_with fail
          go_roundw
          case rel => exact ⟨k + 1, o3, by omega, by go_num, HN.out⟩
          case measure => simp [intOf]; omega
        · have hltI2 : ¬ (k : Int) < (n : Int) := by omega
          obtain rfl : k = n := by omega
          go_wp2_with fail
          go_roundw
          case rel => exact ⟨i + 1, o3, by omega, by go_num, HP3.out.done (putS_row HSS.out) HOW.out.1, HP3.out.step⟩
          case measure => simp [intOf]; omega
    · have hltI : ¬ (i : Int) < (S.length : Int) := by omega
      obtain rfl : i = S.length := by omega
      go_wp2_with fail
      go_end0
      exact ⟨rfl, o1, K1.out, HS.out⟩
end Go.Proofs.YtjmgefpdfhfhmaaGreatDoor
