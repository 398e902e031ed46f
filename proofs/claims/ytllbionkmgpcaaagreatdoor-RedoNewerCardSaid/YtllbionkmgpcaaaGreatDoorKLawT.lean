/- RedoNewer, plain: what is stored, added, synced, done again. -/
import Derived.Test.YtllbionkmgpcaaaGreatDoorKAlvA
namespace Go.Proofs.YtllbionkmgpcaaaGreatDoor
open Go.RowKit

def dIm (n v : Nat) : Im := ⟨n, v, str (100 :: zer 95)⟩
theorem dIm_right {n : Nat} (h : n < 4096) (v : Nat) : (dIm n v).right := by
  refine ⟨?_, ?_, ?_⟩
  · show (0 : Int) ≤ (n : Int)
    omega
  · show (n : Int) < 4096
    omega
  · show (str _).size = 96
    rw [str_size, List.length_cons, zer_len]
/-- the blocks behind the first n stores -/
def fOn (on : List Nat) (n : Nat) : Nat → Im := fun b => if b < n ∧ 0 < on.getD b 0 then dIm b (on.getD b 0) else blank b
theorem fOn_zero (on : List Nat) : fOn on 0 = blank := by
  funext b
  unfold fOn
  rw [if_neg (by omega)]
theorem fOn_succ (on : List Nat) (i : Nat) : fOn on (i + 1) = if 0 < on.getD i 0 then setIm (fOn on i) i (dIm i (on.getD i 0)) else fOn on i := by
  funext b
  by_cases hi : 0 < on.getD i 0
  · rw [if_pos hi]
    unfold setIm
    by_cases hb : b = i
    · subst hb
      rw [if_pos rfl]
      unfold fOn
      rw [if_pos ⟨by omega, hi⟩]
    · rw [if_neg hb]
      unfold fOn
      by_cases h2 : b < i ∧ 0 < on.getD b 0
      · rw [if_pos ⟨by omega, h2.2⟩, if_pos h2]
      · rw [if_neg (by omega), if_neg h2]
  · rw [if_neg hi]
    unfold fOn
    by_cases h2 : b < i ∧ 0 < on.getD b 0
    · rw [if_pos ⟨by omega, h2.2⟩, if_pos h2]
    · rw [if_neg, if_neg h2]
      rintro ⟨h3, h4⟩
      have : b = i := by omega
      subst this
      exact hi h4
theorem fOn_ver (on : List Nat) (n b : Nat) (h : b < n ∨ on.getD b 0 = 0) : (fOn on n b).ver = on.getD b 0 := by
  unfold fOn
  by_cases h2 : b < n ∧ 0 < on.getD b 0
  · rw [if_pos h2]
    rfl
  · rw [if_neg h2]
    show 0 = _
    omega
/-- the log behind n records -/
def gN (vs : List Nat) : Nat → Lg
  | 0 => lg0
  | 1 => lg1 0 (vs.getD 0 0)
  | _ + 2 => lg2 0 (vs.getD 0 0) 1 (vs.getD 1 0)
theorem gN_add (vs : List Nat) {i : Nat} (hi : i < 2) (h0 : vs.getD 0 0 < 18446744073709551616) (h1 : vs.getD 1 0 < 18446744073709551616) : (gN vs i).addE [oneIm i (vs.getD i 0)] = 0 ∧ (gN vs i).addG [oneIm i (vs.getD i 0)] = gN vs (i + 1) := by
  match i, hi with
  | 0, _ => exact add0 (by decide) h0
  | 1, _ => exact add1 (by decide) h1
theorem gN_full (vs : List Nat) {v : Nat} (hv : v < 18446744073709551616) : (gN vs 2).addE [oneIm 2 v] = 10 ∧ (gN vs 2).addG [oneIm 2 v] = gN vs 2 := add2 (by decide) hv
theorem gN_facts (vs : List Nat) {i : Nat} (hi : i ≤ 2) : (gN vs i).epoch = 9 ∧ (gN vs i).next ≤ 3 ∧ (gN vs i).live.length ≤ 2 ∧ (gN vs i).used ≤ 6 ∧ (gN vs i).at_ < 7 ∧ (gN vs i).base = 1 ∧ Ens (gN vs i).live := by
  match i, hi with
  | 0, _ => exact ⟨rfl, show 1 ≤ 3 by decide, show 0 ≤ 2 by decide, show 0 ≤ 6 by decide, show 0 < 7 by decide, rfl, fun x hx => by cases hx⟩
  | 1, _ => exact ⟨rfl, show 2 ≤ 3 by decide, show 1 ≤ 2 by decide, show 3 ≤ 6 by decide, show 3 < 7 by decide, rfl, ens1 _ _⟩
  | 2, _ => exact ⟨rfl, show 3 ≤ 3 by decide, show 2 ≤ 2 by decide, show 6 ≤ 6 by decide, show 6 < 7 by decide, rfl, ens2 _ _ _ _⟩
def logA1 (vs : List Nat) (n : Nat) : List UInt8 := if n = 0 then zer 192 else recL (rc1 9 1 0 (vs.getD 0 0))
def logA2 (vs : List Nat) (n : Nat) : List UInt8 := if n < 2 then zer 192 else recL (rc1 9 2 1 (vs.getD 1 0))
theorem View.syncN {D : Dk} {k t2 ls : Nat} {h : List UInt8} {f : Nat → Im} (v : View D k 9 t2 ls h (zer 192) (zer 192) (zer 64) f) (vs : List Nat) {n : Nat} (hn : n ≤ 2) : (syncR D (gN vs n)).e = 0 ∧ View (syncR D (gN vs n)).D (k + 6) 9 t2 ls h (logA1 vs n) (logA2 vs n) (zer 64) f := by
  match n, hn with
  | 0, _ => exact ⟨rfl, v.mono (by omega)⟩
  | 1, _ =>
    obtain ⟨a, b⟩ := v.sync1 0 (vs.getD 0 0)
    exact ⟨a, b.mono (by omega)⟩
  | 2, _ => exact v.sync2 0 (vs.getD 0 0) 1 (vs.getD 1 0)
def imsN (vs : List Nat) (n : Nat) : List Im := (List.range n).map (fun i => oneIm i (vs.getD i 0))
theorem plan_N (vs : List Nat) {n : Nat} (hn : n ≤ 2) (h0 : vs.getD 0 0 < 18446744073709551616) (h1 : vs.getD 1 0 < 18446744073709551616) : planOf (scanL 9 10 1 (str (logA1 vs n ++ logA2 vs n ++ zer 64))) = imsN vs n := by
  match n, hn with
  | 0, _ =>
    have e : scanL 9 10 1 (str (logA1 vs 0 ++ logA2 vs 0 ++ zer 64)) = [] := scan_nil
    rw [e]
    exact plan_nil
  | 1, _ =>
    have e : scanL 9 10 1 (str (logA1 vs 1 ++ logA2 vs 1 ++ zer 64)) = [rc1 9 1 0 (vs.getD 0 0)] := scan_one (by decide) h0
    rw [e]
    exact plan_one _ _ rfl
  | 2, _ =>
    have e : scanL 9 10 1 (str (logA1 vs 2 ++ logA2 vs 2 ++ zer 64)) = [rc1 9 1 0 (vs.getD 0 0), rc1 9 2 1 (vs.getD 1 0)] := scan_two (by decide) h0 (by decide) h1
    rw [e]
    exact plan_two _ _ _ _ rfl rfl (show (0 : Int) < 1 by decide)
theorem imsN_right (vs : List Nat) {n : Nat} (hn : n ≤ 2) (hv : ∀ b, vs.getD b 0 < 18446744073709551616) : (∀ i ∈ imsN vs n, i.right ∧ i.ver < 18446744073709551616 ∧ i.block ≤ 9) ∧ (imsN vs n).length ≤ 2 := by
  refine ⟨fun i hi => ?_, by unfold imsN; rw [List.length_map, List.length_range]; exact hn⟩
  obtain ⟨j, hj, rfl⟩ := List.mem_map.1 hi
  have hj := List.mem_range.1 hj
  exact ⟨oneIm_right (by omega) _, hv j, show (j : Int) ≤ 9 by omega⟩
/-- how many of the first n were newer -/
def cntN (on vs : List Nat) : Nat → Nat
  | 0 => 0
  | i + 1 => cntN on vs i + (if on.getD i 0 < vs.getD i 0 then 1 else 0)
/-- what stands in a block behind Run -/
def fEnd (on vs : List Nat) (n : Nat) : Nat → Im := appF (fOn on on.length) (imsN vs n)
theorem on_ver (on : List Nat) (b : Nat) : (fOn on on.length b).ver = on.getD b 0 := by
  refine fOn_ver on on.length b ?_
  by_cases h : b < on.length
  · exact .inl h
  · right
    rw [List.getD_eq_getElem?_getD, List.getElem?_eq_none (by omega)]
    rfl
theorem imsN_succ (vs : List Nat) (n : Nat) : imsN vs (n + 1) = imsN vs n ++ [oneIm n (vs.getD n 0)] := by
  unfold imsN
  rw [List.range_succ, List.map_append]
  rfl
theorem appF_add (f : Nat → Im) (l : List Im) (i : Im) : appF f (l ++ [i]) = takeIm (appF f l) i := by
  unfold appF
  rw [List.foldl_append]
  rfl
theorem appN_add : ∀ (l : List Im) (f : Nat → Im) (i : Im), appN f (l ++ [i]) = appN f l + (if i.ver ≤ (appF f l i.block.toNat).ver then 0 else 1)
  | [], f, i => by
    show (if i.ver ≤ (f i.block.toNat).ver then 0 else 1) + 0 = 0 + _
    rw [Nat.add_comm]
    rfl
  | x :: l, f, i => by
    have ih := appN_add l (takeIm f x) i
    show (if x.ver ≤ (f x.block.toNat).ver then 0 else 1) + appN (takeIm f x) (l ++ [i]) = (if x.ver ≤ (f x.block.toNat).ver then 0 else 1) + appN (takeIm f x) l + _
    rw [ih, Nat.add_assoc]
    rfl
theorem fEnd_at (on vs : List Nat) : ∀ (n b : Nat), fEnd on vs n b = if b < n ∧ on.getD b 0 < vs.getD b 0 then oneIm b (vs.getD b 0) else fOn on on.length b
  | 0, b => by
    rw [if_neg (by omega)]
    rfl
  | n + 1, b => by
    have h : fEnd on vs (n + 1) = takeIm (fEnd on vs n) (oneIm n (vs.getD n 0)) := by
      unfold fEnd
      rw [imsN_succ, appF_add]
    have hn := fEnd_at on vs n n
    rw [if_neg (by omega)] at hn
    have hnv : (fEnd on vs n n).ver = on.getD n 0 := by rw [hn, on_ver]
    have e2 : takeIm (fEnd on vs n) (oneIm n (vs.getD n 0)) = if vs.getD n 0 ≤ on.getD n 0 then fEnd on vs n else setIm (fEnd on vs n) n (oneIm n (vs.getD n 0)) := by
      show (if vs.getD n 0 ≤ (fEnd on vs n n).ver then fEnd on vs n else setIm (fEnd on vs n) n (oneIm n (vs.getD n 0))) = _
      rw [hnv]
    have ih := fEnd_at on vs n b
    rw [h, e2]
    by_cases hv : vs.getD n 0 ≤ on.getD n 0
    · rw [if_pos hv, ih]
      by_cases h1 : b < n ∧ on.getD b 0 < vs.getD b 0
      · rw [if_pos h1, if_pos ⟨by omega, h1.2⟩]
      · rw [if_neg h1, if_neg]
        rintro ⟨h3, h4⟩
        have : b = n := by omega
        subst this
        omega
    · rw [if_neg hv]
      unfold setIm
      by_cases hb : b = n
      · subst hb
        rw [if_pos rfl, if_pos ⟨by omega, by omega⟩]
      · rw [if_neg hb, ih]
        by_cases h1 : b < n ∧ on.getD b 0 < vs.getD b 0
        · rw [if_pos h1, if_pos ⟨by omega, h1.2⟩]
        · rw [if_neg h1, if_neg (by omega)]
theorem appN_cnt (on vs : List Nat) : ∀ n, appN (fOn on on.length) (imsN vs n) = cntN on vs n
  | 0 => rfl
  | n + 1 => by
    rw [imsN_succ, appN_add, appN_cnt on vs n]
    have hn := fEnd_at on vs n n
    rw [if_neg (by omega)] at hn
    have hnv : (appF (fOn on on.length) (imsN vs n) (oneIm n (vs.getD n 0)).block.toNat).ver = on.getD n 0 := by
      show (fEnd on vs n n).ver = _
      rw [hn, on_ver]
    rw [hnv]
    show cntN on vs n + (if vs.getD n 0 ≤ on.getD n 0 then 0 else 1) = cntN on vs n + (if on.getD n 0 < vs.getD n 0 then 1 else 0)
    congr 1
    by_cases h : on.getD n 0 < vs.getD n 0
    · rw [if_pos h, if_neg (by omega)]
    · rw [if_neg h, if_pos (by omega)]
theorem end_ver (on vs : List Nat) {n i : Nat} (hi : i < n) : (fEnd on vs n i).ver = max (vs.getD i 0) (on.getD i 0) := by
  rw [fEnd_at]
  by_cases h : on.getD i 0 < vs.getD i 0
  · rw [if_pos ⟨hi, h⟩]
    show vs.getD i 0 = _
    omega
  · rw [if_neg (by omega), on_ver]
    omega
theorem end_new (on vs : List Nat) {n i : Nat} (hi : i < n) (h : on.getD i 0 < vs.getD i 0) : fEnd on vs n i = oneIm i (vs.getD i 0) := by
  rw [fEnd_at, if_pos ⟨hi, h⟩]
theorem cntN_le (on vs : List Nat) : ∀ n, cntN on vs n ≤ n
  | 0 => Nat.le_refl _
  | n + 1 => by
    have := cntN_le on vs n
    show cntN on vs n + _ ≤ _
    split <;> omega
end Go.Proofs.YtllbionkmgpcaaaGreatDoor
