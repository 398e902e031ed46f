/- A reader of bytes in memory, as a plain structure: New, Err, fail, take. -/
import Derived.Test.YtjmgefpdfhfhmaaGreatDoorWireD
import Derived.Test.YtjmgefpdfhfhmaaGreatDoorShelf
namespace Go.Proofs.YtjmgefpdfhfhmaaGreatDoor
open Go.RowKit

/-- a reader: what is left of its bytes, and its first error -/
structure Rd where
  b : ByteArray
  e : Int
def Rd.fail (R : Rd) (e : Int) : Rd := if R.e = 0 then { R with e := e } else R
def Rd.takeS (R : Rd) (n : Int) : ByteArray := if R.e = 0 ∧ n ≤ R.b.size then R.b.extract 0 n.toNat else ⟨#[]⟩
def Rd.takeR (R : Rd) (n : Int) : Rd := if R.e ≠ 0 then R else if n ≤ R.b.size then { R with b := R.b.extract n.toNat R.b.size } else { R with e := 5 }
/-- the reader at block p reads as R, of colour c -/
def RdAt (T : TypeId) (o : Nat → Nat) (c : Nat) (w : World) (p : Nat) (R : Rd) : Prop := Blk w p T #[.string R.b, .int .i64 R.e] ∧ o p = c ∧ R.b.size ≤ 1000000000
section
variable {T : TypeId} {o o' : Nat → Nat} {c : Nat} {D : Nat → Prop} {w w' : World} {p : Nat} {R : Rd}
theorem RdAt.step (h : RdAt T o c w p R) (hk : Step o D w o' w') (hne : ¬ D c) : RdAt T o' c w' p R := ⟨h.1.step hk (by rw [h.2.1]; exact hne), (hk.old p h.1.lt).trans h.2.1, h.2.2⟩
theorem RdAt.below_ (h : RdAt T o c w p R) (hb : Below w.heap.size w w') : RdAt T o c w' p R := ⟨h.1.below_ hb, h.2⟩
theorem RdAt.alloc (h : RdAt T o c w p R) (x : Obj) : RdAt T o c (w.alloc x) p R := ⟨h.1.alloc x, h.2⟩
theorem RdAt.drewN (h : RdAt T o c w p R) (n : Nat) : RdAt T o c (w.drewN n) p R := h
theorem RdAt.setE (h : RdAt T o c w p R) (e : Int) : RdAt T o c (w.setCell ⟨p, 1, none⟩ (.int .i64 e)) p { R with e := e } := ⟨h.1.set_ 1 _, h.2⟩
theorem RdAt.setB (h : RdAt T o c w p R) (b : ByteArray) (hb : b.size ≤ 1000000000) : RdAt T o c (w.setCell ⟨p, 0, none⟩ (.string b)) p { R with b := b } := ⟨h.1.set_ 0 _, h.2.1, hb⟩
end
theorem rerr_nil (w : World) : Calls Tryz.prog 104 #[.pointer none] w fun r w' => r = .returned (.int .i64 1) ∧ w = w' := by
  go_enter Tryz.func104, Tryz.ntmps104
  go_wp2
  go_ret
  exact ⟨rfl, rfl⟩
section
variable {o : Nat → Nat} {c : Nat} {w : World} {p : Nat} {R : Rd}
theorem rerr_any (h : RdAt 127 o c w p R) : Calls Tryz.prog 104 #[.pointer (some ⟨p, 0, none⟩)] w fun r w' => r = .returned (.int .i64 R.e) ∧ w = w' := by
  have c1 : w.cell? ⟨p, 1, none⟩ = some (.int .i64 R.e) := h.1.cell 1
  go_enter Tryz.func104, Tryz.ntmps104
  go_wp2
  go_ret
  exact ⟨rfl, rfl⟩
theorem rfail_nil (e : Int) (w : World) : Calls Tryz.prog 102 #[.pointer none, .int .i64 e] w fun r w' => r = .returned (.tuple #[]) ∧ w = w' := by
  go_enter Tryz.func102, Tryz.ntmps102
  go_wp2
  go_end0
  exact ⟨rfl, rfl⟩
theorem rfail_any (h : RdAt 127 o c w p R) (e : Int) : Calls Tryz.prog 102 #[.pointer (some ⟨p, 0, none⟩), .int .i64 e] w fun r w' => r = .returned (.tuple #[]) ∧ RdAt 127 o c w' p (R.fail e) ∧ Step o (only c) w o w' := by
  have HR := Lib.hid h
  have c1 : w.cell? ⟨p, 1, none⟩ = some (.int .i64 R.e) := h.1.cell 1
  have f1 := h.1.frozen 1
  have hp := h.1.lt
  clear h
  by_cases he : R.e = 0
  · have e1 : R.fail e = { R with e := e } := by unfold Rd.fail; rw [if_pos he]
    have E1 := Lib.hid e1
    rw [he] at c1
    clear e1 he
    go_enter Tryz.func102, Tryz.ntmps102
    go_wp2
    go_end0
    exact ⟨rfl, by rw [E1.out]; exact HR.out.setE e, (Step.refl o (only c) w).setCell (p := ⟨p, 1, none⟩) HR.out.2.1 _⟩
  · have e1 : R.fail e = R := by unfold Rd.fail; rw [if_neg he]
    have E1 := Lib.hid e1
    have t1 : (R.e == 0) = false := beq_eq_false_iff_ne.2 he
    clear e1 he
    go_enter Tryz.func102, Tryz.ntmps102
    go_wp2
    go_end0
    exact ⟨rfl, by rw [E1.out]; exact HR.out, Step.refl _ _ _⟩
set_option maxHeartbeats 400000 in
theorem rtake_any (h : RdAt 127 o c w p R) (n : Int) (hn0 : 0 ≤ n) (hn1 : n ≤ 9223372036854775807) :
    Calls Tryz.prog 103 #[.pointer (some ⟨p, 0, none⟩), .int .i64 n] w fun r w' => r = .returned (.string (R.takeS n)) ∧ RdAt 127 o c w' p (R.takeR n) ∧ Step o (only c) w o w' := by
  have HR := Lib.hid h
  have c0 : w.cell? ⟨p, 0, none⟩ = some (.string R.b) := h.1.cell 0
  have c1 : w.cell? ⟨p, 1, none⟩ = some (.int .i64 R.e) := h.1.cell 1
  have f0 := h.1.frozen 0
  have f1 := h.1.frozen 1
  have hp := h.1.lt
  have hbs := h.2.2
  clear h
  by_cases he : R.e = 0
  · by_cases hl : n ≤ R.b.size
    · have e1 : R.takeR n = { R with b := R.b.extract n.toNat R.b.size } := by unfold Rd.takeR; rw [if_neg (by simpa using he), if_pos hl]
      have e2 : R.takeS n = R.b.extract 0 n.toNat := by unfold Rd.takeS; rw [if_pos ⟨he, hl⟩]
      have E1 := Lib.hid e1
      have E2 := Lib.hid e2
      clear e1 e2
      obtain ⟨k, rfl⟩ : ∃ k : Nat, n = k := ⟨n.toNat, by omega⟩
      have hk : k ≤ R.b.size := by omega
      have HE := Lib.hid he
      clear he
      go_enter Tryz.func103, Tryz.ntmps103
      go_wp2_with fail
      refine (rerr_any HR.out).mono ?_
      rintro e w1 ⟨rfl, rfl⟩
      rw [HE.out]
      go_wp2_with fail
      go_ret
      refine ⟨by rw [E2.out, Int.toNat_natCast]; rfl, ?_, (Step.refl o (only c) w).setCell (p := ⟨p, 0, none⟩) HR.out.2.1 _⟩
      rw [E1.out, Int.toNat_natCast]
      exact HR.out.setB _ (by rw [ByteArray.size_extract]; omega)
    · have e1 : R.takeR n = R.fail 5 := by unfold Rd.takeR Rd.fail; rw [if_neg (by simpa using he), if_neg hl, if_pos he]
      have e2 : R.takeS n = ⟨#[]⟩ := by unfold Rd.takeS; rw [if_neg (fun h => hl h.2)]
      have E1 := Lib.hid e1
      have E2 := Lib.hid e2
      have HE := Lib.hid he
      have hl' : (R.b.size : Int) < n := by omega
      clear e1 e2 he
      go_enter Tryz.func103, Tryz.ntmps103
      go_wp2_with fail
      refine (rerr_any HR.out).mono ?_
      rintro e w1 ⟨rfl, rfl⟩
      rw [HE.out]
      go_wp2_with fail
      refine (rfail_any HR.out 5).mono ?_
      rintro e w1 ⟨rfl, h1, s1⟩
      have H1 := Lib.hid h1
      have S1 := Lib.hid s1
      clear h1 s1
      go_wp2_with fail
      go_ret
      exact ⟨by rw [E2.out]; rfl, by rw [E1.out]; exact H1.out, S1.out⟩
  · have e1 : R.takeR n = R := by unfold Rd.takeR; rw [if_pos he]
    have e2 : R.takeS n = ⟨#[]⟩ := by unfold Rd.takeS; rw [if_neg (fun h => he h.1)]
    have E1 := Lib.hid e1
    have E2 := Lib.hid e2
    have t1 : (R.e != 0) = true := bne_iff_ne.2 he
    clear e1 e2 he
    go_enter Tryz.func103, Tryz.ntmps103
    go_wp2_with fail
    refine (rerr_any HR.out).mono ?_
    rintro e w1 ⟨rfl, rfl⟩
    go_wp2_with fail
    go_ret
    exact ⟨by rw [E2.out]; rfl, by rw [E1.out]; exact HR.out, Step.refl _ _ _⟩
end
end Go.Proofs.YtjmgefpdfhfhmaaGreatDoor
