/- Light: whether steps are few and short enough. -/
import Derived.Test.YtoploimpfhnanaaDoorOpenOps
import Derived.Test.YtoploimpfhnanaaDoorWireU
namespace Go.Proofs.YtoploimpfhnanaaDoor
open Go.RowKit

def Lt (l : List Opr) : Prop := l.length ≤ 60 ∧ ∀ x ∈ l, x.s.size ≤ 300
instance (l : List Opr) : Decidable (Lt l) := inferInstanceAs (Decidable (_ ∧ _))
theorem ocells_at {l : List Opr} {k : Nat} {y : Opr} (h : l[k]? = some y) (j : Nat) (hj : j < 4) : (ocells l)[k * 4 + j]? = y.cells[j]? := by
  induction l generalizing k with
  | nil => simp at h
  | cons x r ih =>
    have e : ocells (x :: r) = x.cells ++ ocells r := rfl
    have hc : x.cells.length = 4 := rfl
    rw [e]
    cases k with
    | zero =>
      simp at h
      subst h
      rw [List.getElem?_append_left (by omega)]
      simp
    | succ k =>
      have h' : r[k]? = some y := by simpa using h
      rw [List.getElem?_append_right (by omega), hc, show (k + 1) * 4 + j - 4 = k * 4 + j by omega]
      exact ih h'
section
variable {w : World} {A : Option Addr} {l : List Opr}
/-- one element's cells -/
theorem Reads.op (h : Reads w 4 A l.length (ocells l)) {k : Nat} {y : Opr} (hy : l[k]? = some y) : ∃ ad, A = some ad ∧ w.cell? (ad.add (k * 4)) = some (.int .i64 y.kind) ∧ w.cell? ⟨(ad.add (k * 4)).block, (ad.add (k * 4)).off + 1, none⟩ = some (.int .i64 y.n) ∧ w.cell? ⟨(ad.add (k * 4)).block, (ad.add (k * 4)).off + 2, none⟩ = some (.int .u64 y.v) ∧ w.cell? ⟨(ad.add (k * 4)).block, (ad.add (k * 4)).off + 3, none⟩ = some (.string y.s) := by
  have hk : k < l.length := (List.getElem?_eq_some_iff.1 hy).1
  obtain ⟨ad, rfl, hc⟩ := h.2 (by omega)
  have h1 := hc (k * 4 + 1) _ ((ocells_at hy 1 (by omega)).trans rfl)
  have h2 := hc (k * 4 + 2) _ ((ocells_at hy 2 (by omega)).trans rfl)
  have h3 := hc (k * 4 + 3) _ ((ocells_at hy 3 (by omega)).trans rfl)
  rw [← add_of_add] at h1 h2 h3
  exact ⟨ad, rfl, hc (k * 4) _ ((ocells_at hy 0 (by omega)).trans rfl), h1, h2, h3⟩
set_option maxRecDepth 100000 in
set_option maxHeartbeats 1000000 in
theorem light_any (cap : Nat) (h : Reads w 4 A l.length (ocells l)) (hl : l.length ≤ maxLen) (hs : ∀ x ∈ l, x.ok) : Calls Tryd.prog 15 #[.slice A l.length cap] w fun e w' => e = .returned (.bool (decide (Lt l))) ∧ w = w' := by
  have HR := Lib.hid h
  have HS := Lib.hid hs
  unfold maxLen at hl
  clear h hs
  go_enter Tryd.func15, Tryd.ntmps15
  go_wp2_with fail
  go_loop [3] (fun t3 => ∃ k : Nat, k ≤ l.length ∧ k ≤ 200 ∧ t3 = .int .i64 k ∧ (∀ j y, j < k → l[j]? = some y → y.s.size ≤ 300)) (fun t3 => 200 - (intOf t3).toNat)
  case atStart => exact ⟨0, Nat.zero_le _, by omega, rfl, fun j y hj => absurd hj (by omega)⟩
  case round =>
    obtain ⟨k, hk, hk2, rfl, hall⟩ := hrel
    have HALL := Lib.hid hall
    clear hall
    by_cases hlt : k < l.length
    · have hltI : (k : Int) < (l.length : Int) := by omega
      by_cases h2 : k < 200
      · have h2I : (k : Int) < 200 := by omega
        obtain ⟨y, hy⟩ : ∃ y, l[k]? = some y := ⟨_, List.getElem?_eq_getElem hlt⟩
        obtain ⟨ad, rfl, c0, c1, c2, c3⟩ := HR.out.op hy
        have hys : y.s.size ≤ 9223372036854775807 := (HS.out y (List.mem_of_getElem? hy)).1
        have HY := Lib.hid hy
        clear hy
        by_cases h3 : 300 < y.s.size
        · have h3I : (300 : Int) < (y.s.size : Int) := by omega
          go_wp2_with fail
          go_ret
          refine ⟨?_, rfl⟩
          rw [decide_eq_false (fun h : Lt l => absurd (h.2 y (List.mem_of_getElem? HY.out)) (by omega))]
          rfl
        · have h3I : ¬ (300 : Int) < (y.s.size : Int) := by omega
          go_wp2_with fail
          go_round
          case rel =>
            refine ⟨k + 1, by omega, by omega, by go_num, fun j z hj hz => ?_⟩
            by_cases e : j = k
            · subst e
              rw [HY.out] at hz
              injection hz with hz
              subst hz
              omega
            · exact HALL.out j z (by omega) hz
          case measure => simp [intOf]; omega
      · have h2I : ¬ (k : Int) < 200 := by omega
        have h60 : ¬ (l.length : Int) ≤ 60 := by omega
        go_wp2_with fail
        go_ret
        refine ⟨?_, rfl⟩
        rw [decide_eq_false (fun h : Lt l => by have := h.1; omega)]
        rfl
    · have hltI : ¬ (k : Int) < (l.length : Int) := by omega
      by_cases h60 : l.length ≤ 60
      · have h60I : (l.length : Int) ≤ 60 := by omega
        go_wp2_with fail
        go_ret
        refine ⟨?_, rfl⟩
        rw [decide_eq_true (show Lt l from ⟨h60, fun x hx => by
          obtain ⟨j, hj, rfl⟩ := List.mem_iff_getElem.1 hx
          exact HALL.out j _ (by omega) (List.getElem?_eq_getElem hj)⟩)]
        rfl
      · have h60I : ¬ (l.length : Int) ≤ 60 := by omega
        go_wp2_with fail
        go_ret
        refine ⟨?_, rfl⟩
        rw [decide_eq_false (fun h : Lt l => h60 h.1)]
        rfl
end
end Go.Proofs.YtoploimpfhnanaaDoor
