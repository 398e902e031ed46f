/- A message that came in, opened. -/
import Derived.Test.YtjmgefpdfhfhmaaGreatDoorCardBase
import Derived.Test.YtjmgefpdfhfhmaaGreatDoorLeaf
import Derived.Test.YtjmgefpdfhfhmaaGreatDoorMsgA
namespace Go.Proofs.YtjmgefpdfhfhmaaGreatDoor
open Go.ChangeShapes Go.WideShapes Go.ChangeAt Go.RowKit Go.Joins Go.Deep

theorem leaves_lock : leaves Tryz.prog 6 68 = some [.int .i64, .int .i64, .int .i64] := by kernel_rfl
theorem cells_lock : Tryz.prog.cellsOf 68 = 3 := by kernel_rfl
theorem leaves_msg : leaves Tryz.prog 6 26 = some [.int .i64, .int .i64, .int .i64, .int .i64, .int .i64, .int .u64, .int .i64, .slice 24] := by kernel_rfl
section
variable {H : Type} {enc : TypeId × Value → H} {w : World} {base : Nat} {spare : Nat → Bool} {held : Bool}
theorem open_locks {fuel : Nat} {A : Option Addr} {len cap : Nat} {x : DataW H × List MemPlace} (h : DataW.trod enc Tryz.prog w base spare held fuel 24 [.slice A len cap] = some x) :
    ∃ l : List Lk, len = l.length ∧ Reads w 3 A l.length (lkcells l) ∧ l.length ≤ maxLen := by
  obtain ⟨L, h1, h2, h3, h4, h5⟩ := open_rows Tryz.underlying24 leaves_lock cells_lock (by decide) h
  obtain ⟨l, e1, e2, _⟩ := rows_list (f := Lk.cells) (p := fun _ => True) L (fun r hr => by
    obtain ⟨c0, r0, rfl, ⟨a, rfl, _⟩, k0⟩ := (h3 r hr).cons
    obtain ⟨c1, r1, rfl, ⟨b, rfl, _⟩, k1⟩ := k0.cons
    obtain ⟨c2, r2, rfl, ⟨m, rfl, _⟩, k2⟩ := k1.cons
    obtain rfl := k2.nil
    exact ⟨⟨a, b, m⟩, rfl, trivial⟩)
  have e3 : len = l.length := h1.symm.trans e2
  rw [e1] at h2
  subst e3
  exact ⟨l, rfl, h2, by unfold maxLen at *; omega⟩
theorem open_slice_v {fuel : Nat} {t e : TypeId} {v : Value} {x : DataW H × List MemPlace} (ht : Tryz.prog.underlying t = some (.slice e)) (h : DataW.trod enc Tryz.prog w base spare held fuel t [v] = some x) : ∃ A len cap, v = .slice A len cap := by
  rcases open_slice ht h with ⟨hc, _⟩ | ⟨a, len, cap, m, n, D, Pl, hc, _⟩
  · simp only [List.cons.injEq, and_true] at hc
    exact ⟨_, _, _, hc⟩
  · simp only [List.cons.injEq, and_true] at hc
    exact ⟨_, _, _, hc⟩
set_option maxRecDepth 100000 in
theorem open_msg {r : Reach} {b0 : Nat} {v : Value} {d : DataW H} {p : List MemPlace} (hv : Value.okWide Tryz.prog w r b0 26 v) (h : DataW.Trod enc Tryz.prog w base spare held 26 v d p) :
    ∃ (m : Mg) (A : Option Addr) (cap : Nat), v = m.agg A cap ∧ Reads w 3 A m.locks.length (lkcells m.locks) ∧ m.locks.length ≤ maxLen ∧ m.epoch < 18446744073709551616 := by
  obtain ⟨cs, rfl, _⟩ := okWide_struct Tryz.underlying26 hv
  obtain ⟨fuel, hf⟩ := h
  have hl := leaves_ok 6 26 fuel _ _ _ hf leaves_msg
  obtain ⟨l⟩ := cs
  have hl' : LeavesOk enc Tryz.prog w base spare held [.int .i64, .int .i64, .int .i64, .int .i64, .int .i64, .int .u64, .int .i64, .slice 24] l := hl
  obtain ⟨c0, r0, rfl, ⟨a0, rfl, _⟩, k0⟩ := hl'.cons
  obtain ⟨c1, r1, rfl, ⟨a1, rfl, _⟩, k1⟩ := k0.cons
  obtain ⟨c2, r2, rfl, ⟨a2, rfl, _⟩, k2⟩ := k1.cons
  obtain ⟨c3, r3, rfl, ⟨a3, rfl, _⟩, k3⟩ := k2.cons
  obtain ⟨c4, r4, rfl, ⟨a4, rfl, _⟩, k4⟩ := k3.cons
  obtain ⟨c5, r5, rfl, ⟨a5, rfl, w5⟩, k5⟩ := k4.cons
  obtain ⟨c6, r6, rfl, ⟨a6, rfl, _⟩, k6⟩ := k5.cons
  obtain ⟨c7, r7, rfl, ⟨f7, x7, h7⟩, k7⟩ := k6.cons
  obtain rfl := k7.nil
  obtain ⟨A, len, cap, rfl⟩ := open_slice_v Tryz.underlying24 h7
  obtain ⟨ls, rfl, h8, h9⟩ := open_locks h7
  have hu := wf_u64_in w5
  obtain ⟨n5, rfl⟩ : ∃ n : Nat, a5 = n := ⟨a5.toNat, by omega⟩
  exact ⟨⟨a0, a1, a2, a3, a4, n5, a6, ls⟩, A, cap, rfl, h8, h9, by show n5 < _; omega⟩
end
end Go.Proofs.YtjmgefpdfhfhmaaGreatDoor
