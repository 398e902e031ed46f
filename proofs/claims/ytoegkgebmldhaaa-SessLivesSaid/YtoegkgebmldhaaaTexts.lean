/- The statements' own helpers on lists of texts: Room (of one size), Short, SameTexts (of equal lists). -/
import Derived.Test.YtoegkgebmldhaaaBase
namespace Go.Proofs.Ytoegkgebmldhaaa
open Go.RowKit

theorem Reads.at1 {w : World} {A : Option Addr} {n k : Nat} {xs : List Value} (h : Reads w 1 A n xs) (hk : k < n) : ∃ ad u, A = some ad ∧ xs[k]? = some u ∧ w.cell? (ad.add k) = some u := by
  obtain ⟨ad, e, hc⟩ := h.2 (by omega)
  have hl : k < xs.length := by have := h.1; omega
  exact ⟨ad, xs[k], e, List.getElem?_eq_getElem hl, hc k _ (List.getElem?_eq_getElem hl)⟩

set_option maxHeartbeats 400000 in
theorem same_yes (w : World) (A B : Option Addr) (ca cb : Nat) (xs : List ByteArray) (ha : Reads w 1 A xs.length (xs.map Value.string)) (hb : Reads w 1 B xs.length (xs.map Value.string)) (hl : xs.length ≤ 1000000000) :
    Calls Try.prog 13 #[.slice A xs.length ca, .slice B xs.length cb] w fun e w' => e = .returned (.bool true) ∧ ∃ n, w' = w.drewN n := by
  have HA := Lib.hid ha
  have HB := Lib.hid hb
  clear ha hb
  go_enter Try.func13, Try.ntmps13
  go_wp2_with fail
  go_loopw [5] (fun i wr => ∃ k : Nat, k ≤ xs.length ∧ i = .int .i64 k ∧ ∃ n, wr = w.drewN n) (fun i _ => xs.length - (intOf i).toNat)
  case atStart => exact ⟨0, Nat.zero_le _, rfl, 0, rfl⟩
  case round =>
    obtain ⟨k, hk, rfl, n, rfl⟩ := hrel
    by_cases hlt : k < xs.length
    · have hltI : (k : Int) < (xs.length : Int) := by omega
      obtain ⟨a, u, rfl, hu, hc⟩ := HA.out.at1 hlt
      obtain ⟨b, v, rfl, hv, hd⟩ := HB.out.at1 hlt
      obtain ⟨x, hx⟩ : ∃ x, xs[k]? = some x := ⟨_, List.getElem?_eq_getElem hlt⟩
      obtain rfl : u = .string x := by simp [hx] at hu; exact hu.symm
      obtain rfl : v = .string x := by simp [hx] at hv; exact hv.symm
      clear hu hv hx
      go_wp2_with fail
      go_quiet (fail)
      go_wp2_with fail
      go_roundw
      case rel => exact ⟨k + 1, by omega, by go_num, _, rfl⟩
      case measure => simp [intOf]; omega
    · have hltI : ¬ (k : Int) < (xs.length : Int) := by omega
      go_wp2_with fail
      go_ret
      exact ⟨rfl, _, rfl⟩

def room1 (left n : Int) : Int := if left < 0 ∨ left < n then -1 else left - n
set_option maxHeartbeats 400000 in
theorem room_one (w : World) (left n : Int) (g : Nat) (hc : w.cell? ⟨g, 0, none⟩ = some (.int .i64 n)) (hl : -1 ≤ left ∧ left ≤ 1000000000) (hn : 0 ≤ n ∧ n ≤ 9223372036854775807) :
    Calls Try.prog 30 #[.int .i64 left, .slice (some ⟨g, 0, none⟩) 1 1] w fun e w' => e = .returned (.int .i64 (room1 left n)) ∧ w = w' := by
  obtain ⟨l1, l2⟩ := hl
  obtain ⟨n1, n2⟩ := hn
  by_cases h0 : left < 0
  · have e1 : room1 left n = -1 := by unfold room1; rw [if_pos (.inl h0)]
    have E1 := Lib.hid e1
    clear e1
    go_enter Try.func30, Try.ntmps30
    go_wp2_with fail
    go_loop [0, 5] (fun l i => l = .int .i64 left ∧ i = .int .i64 0) (fun _ i => 2 - (intOf i).toNat)
    case atStart => exact ⟨rfl, rfl⟩
    case round =>
      obtain ⟨rfl, rfl⟩ := hrel
      go_wp2_with fail
      go_ret
      rw [E1.out]
      exact ⟨rfl, rfl⟩
  · by_cases h1 : left < n
    · have e1 : room1 left n = -1 := by unfold room1; rw [if_pos (.inr h1)]
      have E1 := Lib.hid e1
      clear e1
      go_enter Try.func30, Try.ntmps30
      go_wp2_with fail
      go_loop [0, 5] (fun l i => l = .int .i64 left ∧ i = .int .i64 0) (fun _ i => 2 - (intOf i).toNat)
      case atStart => exact ⟨rfl, rfl⟩
      case round =>
        obtain ⟨rfl, rfl⟩ := hrel
        go_wp2_with fail
        go_ret
        rw [E1.out]
        exact ⟨rfl, rfl⟩
    · have e1 : room1 left n = left - n := by unfold room1; rw [if_neg (by omega)]
      have E1 := Lib.hid e1
      clear e1
      go_enter Try.func30, Try.ntmps30
      go_wp2_with fail
      go_loop [0, 5] (fun l i => (l = .int .i64 left ∧ i = .int .i64 0) ∨ (l = .int .i64 (left - n) ∧ i = .int .i64 1)) (fun _ i => 2 - (intOf i).toNat)
      case atStart => exact .inl ⟨rfl, rfl⟩
      case round =>
        rcases hrel with ⟨rfl, rfl⟩ | ⟨rfl, rfl⟩
        · go_wp2_with fail
          go_round
          case rel => exact .inr ⟨rfl, rfl⟩
          case measure => simp [intOf]
        · go_wp2_with fail
          go_ret
          rw [E1.out]
          exact ⟨rfl, rfl⟩
end Go.Proofs.Ytoegkgebmldhaaa
