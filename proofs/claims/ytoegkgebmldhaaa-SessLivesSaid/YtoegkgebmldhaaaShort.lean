/- Short: are texts few, and each no longer than that? -/
import Derived.Test.YtoegkgebmldhaaaTexts
namespace Go.Proofs.Ytoegkgebmldhaaa
open Go.RowKit
theorem short_any (w : World) (A : Option Addr) (ca few room : Nat) (xs : List ByteArray) (ha : Reads w 1 A xs.length (xs.map Value.string)) (hl : xs.length ≤ 1000000000) (hr : room ≤ 1000000000) (hf : few ≤ 1000000000) (hz : ∀ x ∈ xs, x.size ≤ maxLen) :
    Calls Try.prog 15 #[.int .i64 few, .int .i64 room, .slice A xs.length ca] w fun e w' => (e = .returned (.bool false) ∧ Below w.heap.size w w') ∨ (e = .returned (.bool true) ∧ (xs.length ≤ few ∧ ∀ x ∈ xs, x.size ≤ room) ∧ Below w.heap.size w w') := by
  have HA := Lib.hid ha
  clear ha
  by_cases h0 : few < xs.length
  · have h0I : (few : Int) < (xs.length : Int) := by omega
    go_enter Try.func15, Try.ntmps15
    go_wp2_with fail
    go_ret
    exact .inl ⟨rfl, Below.refl _ _⟩
  · have h0I : ¬ (few : Int) < (xs.length : Int) := by omega
    go_enter Try.func15, Try.ntmps15
    go_wp2_with fail
    go_loopw [1, 7] (fun r i wr => ∃ (left : Int) (k : Nat), k ≤ xs.length ∧ r = .int .i64 left ∧ i = .int .i64 k ∧ (-1 ≤ left ∧ left ≤ room) ∧ (0 ≤ left → ∀ (j : Nat) x, j < k → xs[j]? = some x → x.size ≤ room) ∧ Below w.heap.size w wr) (fun _ i _ => xs.length - (intOf i).toNat)
    case atStart => exact ⟨room, 0, Nat.zero_le _, rfl, rfl, by omega, fun _ j x hj => absurd hj (by omega), Below.refl _ _⟩
    case round =>
      obtain ⟨left, k, hk, rfl, rfl, ⟨hl1, hl2⟩, hall, hb⟩ := hrel
      have HB := Lib.hid hb
      have HALL := Lib.hid hall
      clear hb hall
      by_cases hlt : k < xs.length
      · have hltI : (k : Int) < (xs.length : Int) := by omega
        by_cases hneg : 0 ≤ left
        · have hnegI : (0 : Int) ≤ left := hneg
          have hcell := (HA.out.keep_ (fun ad had => HB.out.block _ (HA.out.lt (by decide) ad (by omega) had))).at1 hlt
          obtain ⟨a, u, rfl, hu, hc⟩ := hcell
          obtain ⟨x, hx⟩ : ∃ x, xs[k]? = some x := ⟨_, List.getElem?_eq_getElem hlt⟩
          obtain rfl : u = .string x := by simp [hx] at hu; exact hu.symm
          have hxs := hz x (List.mem_of_getElem? hx)
          unfold maxLen at hxs
          clear hu
          have HX := Lib.hid hx
          clear hx
          go_wp2_with fail
          refine (room_one _ left x.size wr.heap.size (by simp) (by omega) (by omega)).mono ?_
          rintro e w' ⟨rfl, rfl⟩
          go_wp2_with fail
          go_roundw
          case rel =>
            refine ⟨_, k + 1, by omega, rfl, by go_num, ?_, ?_, (HB.out.alloc (HB.out.size) _)⟩
            · unfold room1; split <;> omega
            · intro hr1 j y hj hy
              unfold room1 at hr1
              split at hr1
              · omega
              · by_cases hjk : j = k
                · subst hjk
                  rw [HX.out] at hy
                  cases hy
                  omega
                · exact HALL.out (by omega) j y (by omega) hy
          case measure => simp [intOf]; omega
        · have hnegI : ¬ (0 : Int) ≤ left := hneg
          go_wp2_with fail
          go_ret
          exact .inl ⟨rfl, HB.out⟩
      · have hltI : ¬ (k : Int) < (xs.length : Int) := by omega
        go_wp2_with fail
        go_ret
        by_cases h1 : 0 ≤ left
        · refine .inr ⟨?_, ⟨by omega, fun x hx => ?_⟩, HB.out⟩
          · show Ending.returned (.bool (decide (0 ≤ left))) = _
            rw [decide_eq_true h1]
          · obtain ⟨j, hj, rfl⟩ := List.getElem_of_mem hx
            exact HALL.out h1 j _ (by omega) (List.getElem?_eq_getElem hj)
        · refine .inl ⟨?_, HB.out⟩
          show Ending.returned (.bool (decide (0 ≤ left))) = _
          rw [decide_eq_false h1]
end Go.Proofs.Ytoegkgebmldhaaa
