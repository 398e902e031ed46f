/- The document's reader of bytes: End (the same plain function). -/
import Derived.Test.YtjmgefpdfhfhmaaGreatDoorWireN

/- The document's reader of bytes: Text, Skip, End (the same plain functions). -/
/- The document's reader of bytes: Num, Count, Text, Flag (the same plain functions). -/
namespace Go.Proofs.YtjmgefpdfhfhmaaGreatDoor
open Go.RowKit

theorem lev_drop (S : ByteArray) {j : Nat} (h : j < S.size) : lev (S.data.toList.drop j) = S[j].toNat + 256 * lev (S.data.toList.drop (j + 1)) := by
  rw [List.drop_eq_getElem_cons (l := S.data.toList) (i := j) h]
  rfl
theorem lev_step (S : ByteArray) {j : Nat} (h : j < S.size) (h8 : S.size ≤ 8) :
    IntKind.u64.wrap (IntKind.u64.wrap (((lev (S.data.toList.drop (j + 1)) : Nat) : Int) * 256) + IntKind.u64.wrap (S[j].toNat : Int)) = ((lev (S.data.toList.drop j) : Nat) : Int) := by
  rw [lev_drop S h]
  have h1 := lev_lt (S.data.toList.drop (j + 1))
  have h2 : (S.data.toList.drop (j + 1)).length ≤ 7 := by rw [List.length_drop]; show S.size - (j + 1) ≤ 7; omega
  have h3 : 256 ^ (S.data.toList.drop (j + 1)).length ≤ 256 ^ 7 := Nat.pow_le_pow_right (by decide) h2
  have h4 := S[j].toNat_lt
  generalize lev (S.data.toList.drop (j + 1)) = a at *
  generalize S[j].toNat = b at *
  have h5 : a < 72057594037927936 := Nat.lt_of_lt_of_le h1 h3
  rw [IntKind.wrap_u64, IntKind.wrap_u64, IntKind.wrap_u64]
  omega
section
variable {o : Nat → Nat} {c : Nat} {w : World} {p : Nat} {R : Rd}
set_option maxRecDepth 100000 in
set_option maxHeartbeats 1000000 in
theorem ynum_any (h : RdAt 89 o c w p R) (n : Int) :
    Calls Tryz.prog 27 #[.pointer (some ⟨p, 0, none⟩), .int .i64 n] w fun r w' => r = .returned (.int .u64 (R.numV n)) ∧ RdAt 89 o c w' p (R.numR n) ∧ Step o (only c) w o w' := by
  have HR := Lib.hid h
  clear h
  by_cases hn : 1 ≤ n ∧ n ≤ 8
  · have E1 := Lib.hid (show R.numR n = R.takeR n by unfold Rd.numR; rw [if_pos hn])
    have E2 := Lib.hid (show R.numV n = lev (R.takeS n).data.toList by unfold Rd.numV; rw [if_pos hn])
    obtain ⟨m, rfl⟩ : ∃ m : Nat, n = m := ⟨n.toNat, by omega⟩
    obtain ⟨hn1, hn8⟩ := hn
    have h1 : ¬ (m : Int) < 1 := by omega
    have h8 : ¬ (8 : Int) < (m : Int) := by omega
    go_enter Tryz.func27, Tryz.ntmps27
    go_wp2_with fail
    refine (ytake_any HR.out m (by omega) (by omega)).mono ?_
    rintro e w2 ⟨rfl, h2, s2⟩
    have H2 := Lib.hid h2
    have S2 := Lib.hid s2
    clear h2 s2
    by_cases ho : R.e = 0 ∧ (m : Int) ≤ R.b.size
    · rw [show R.takeO m = true from decide_eq_true ho]
      have hsz : (R.takeS m).size = m := by
        unfold Rd.takeS
        rw [if_pos ho, ByteArray.size_extract, Int.toNat_natCast]
        omega
      generalize hS : R.takeS m = S at hsz E2
      clear hS ho
      have hm0 : (0 : Int) ≤ (m : Int) - 1 := by omega
      go_wp2_with fail
      go_loop [7, 8] (fun t7 t8 => ∃ k : Nat, k ≤ m ∧ t8 = .int .i64 ((k : Int) - 1) ∧ t7 = .int .u64 ((lev (S.data.toList.drop k) : Nat) : Int)) (fun _ t8 => (intOf t8 + 1).toNat)
      case atStart => exact ⟨m, Nat.le_refl _, by go_num, by rw [List.drop_of_length_le (by show S.size ≤ m; omega)]; rfl⟩
      case round =>
        obtain ⟨k, hk, rfl, rfl⟩ := hrel
        rcases k with _ | j
        · rw [show (((0 : Nat) : Int) - 1) = -1 by omega]
          go_wp2_with fail
          go_ret
          exact ⟨by rw [E2.out]; rfl, by rw [E1.out]; exact H2.out, S2.out⟩
        · rw [show (((j + 1 : Nat) : Int) - 1) = (j : Int) by omega]
          have hjs : j < S.size := by omega
          have hL := Lib.hid (lev_step S hjs (by omega))
          go_wp2_with fail
          go_round
          case rel => exact ⟨j, by omega, rfl, by rw [hL.out]⟩
          case measure => simp [intOf]
    · rw [show R.takeO m = false from decide_eq_false ho]
      have hS : R.takeS m = ⟨#[]⟩ := by unfold Rd.takeS; rw [if_neg ho]
      rw [hS] at E2 ⊢
      clear hS ho
      have hm0 : (0 : Int) ≤ (m : Int) - 1 := by omega
      go_wp2_with fail
      go_loop [7, 8] (fun t7 t8 => t7 = .int .u64 0 ∧ t8 = .int .i64 ((m : Int) - 1)) (fun _ _ => 0)
      case atStart => exact ⟨rfl, rfl⟩
      case round =>
        obtain ⟨rfl, rfl⟩ := hrel
        go_wp2_with fail
        go_ret
        exact ⟨by rw [E2.out]; rfl, by rw [E1.out]; exact H2.out, S2.out⟩
  · have E1 := Lib.hid (show R.numR n = R.fail 1 by unfold Rd.numR; rw [if_neg hn])
    have E2 := Lib.hid (show R.numV n = 0 by unfold Rd.numV; rw [if_neg hn])
    by_cases h1 : n < 1
    · clear hn
      go_enter Tryz.func27, Tryz.ntmps27
      go_wp2_with fail
      refine (yfail_any HR.out 1).mono ?_
      rintro e w2 ⟨rfl, h2, s2⟩
      have H2 := Lib.hid h2
      have S2 := Lib.hid s2
      clear h2 s2
      go_wp2_with fail
      go_ret
      exact ⟨by rw [E2.out]; rfl, by rw [E1.out]; exact H2.out, S2.out⟩
    · have h8 : 8 < n := by omega
      clear hn
      go_enter Tryz.func27, Tryz.ntmps27
      go_wp2_with fail
      refine (yfail_any HR.out 1).mono ?_
      rintro e w2 ⟨rfl, h2, s2⟩
      have H2 := Lib.hid h2
      have S2 := Lib.hid s2
      clear h2 s2
      go_wp2_with fail
      go_ret
      exact ⟨by rw [E2.out]; rfl, by rw [E1.out]; exact H2.out, S2.out⟩
set_option maxRecDepth 100000 in
set_option maxHeartbeats 400000 in
theorem ycount_any (h : RdAt 89 o c w p R) (most : Int) :
    Calls Tryz.prog 28 #[.pointer (some ⟨p, 0, none⟩), .int .i64 most] w fun r w' => r = .returned (.int .i64 (R.countV most)) ∧ RdAt 89 o c w' p (R.countR most) ∧ Step o (only c) w o w' := by
  have HR := Lib.hid h
  clear h
  have hv : R.numV 2 < 65536 := numV_lt R 2 (by omega)
  have hve := numV_err R
  go_enter Tryz.func28, Tryz.ntmps28
  go_wp2_with fail
  refine (ynum_any HR.out 2).mono ?_
  rintro e w1 ⟨rfl, h1, s1⟩
  have H1 := Lib.hid h1
  have S1 := Lib.hid s1
  clear h1 s1
  have e1 : R.countV most = if (R.numR 2).e = 0 ∧ most < (R.numV 2 : Int) then (0 : Int) else (R.numV 2 : Int) := rfl
  have e2 : R.countR most = if (R.numR 2).e = 0 ∧ most < (R.numV 2 : Int) then { R.numR 2 with e := 2 } else R.numR 2 := rfl
  generalize R.numV 2 = v at hv e1 e2 hve ⊢
  generalize R.numR 2 = R2 at H1 e1 e2 hve ⊢
  have E1 := Lib.hid e1
  have E2 := Lib.hid e2
  have HVE := Lib.hid hve
  clear e1 e2 hve
  have hvI : (v : Int) < 65536 := by omega
  have c1 : w1.cell? ⟨p, 1, none⟩ = some (.int .i64 R2.e) := H1.out.1.cell 1
  by_cases he : R2.e = 0
  · by_cases hm : most < v
    · have E3 := Lib.hid (show R2.fail 2 = { R2 with e := 2 } by unfold Rd.fail; rw [if_pos he])
      have HC := Lib.hid (show R2.e = 0 ∧ most < (v : Int) from ⟨he, hm⟩)
      rw [he] at c1
      clear he
      go_wp2_with fail
      refine (yfail_any H1.out 2).mono ?_
      rintro e w3 ⟨rfl, h3, s3⟩
      rw [E3.out] at h3
      have H3 := Lib.hid h3
      have S3 := Lib.hid s3
      have k1 : w3.cell? ⟨p, 1, none⟩ = some (.int .i64 2) := h3.1.cell 1
      clear h3 s3 c1
      go_wp2_with fail
      go_ret
      exact ⟨by rw [E1.out, if_pos HC.out]; rfl, by rw [E2.out, if_pos HC.out]; exact H3.out, S1.out.trans S3.out⟩
    · have HC := Lib.hid (show ¬ (R2.e = 0 ∧ most < (v : Int)) from fun h => hm h.2)
      have t2 : decide (most < (v : Int)) = false := decide_eq_false hm
      rw [he] at c1
      clear he hm hv
      go_wp2_with fail
      go_ret
      exact ⟨by rw [E1.out, if_neg HC.out]; rfl, by rw [E2.out, if_neg HC.out]; exact H1.out, S1.out⟩
  · have t1 : (R2.e == 0) = false := beq_eq_false_iff_ne.2 he
    have t2 : (R2.e != 0) = true := bne_iff_ne.2 he
    have HC := Lib.hid (show ¬ (R2.e = 0 ∧ most < (v : Int)) from fun h => he h.1)
    have HZ := Lib.hid (HVE.out he)
    clear he
    go_wp2_with fail
    go_ret
    exact ⟨by rw [E1.out, if_neg HC.out, HZ.out]; rfl, by rw [E2.out, if_neg HC.out]; exact H1.out, S1.out⟩
end
end Go.Proofs.YtjmgefpdfhfhmaaGreatDoor

namespace Go.Proofs.YtjmgefpdfhfhmaaGreatDoor
open Go.RowKit

/-- of the first k bytes: whether each is 0 -/
def zerosTo (S : ByteArray) (k : Nat) : Prop := ∀ j (_ : j < k) (h : j < S.size), S[j] = 0
theorem zerosTo_all (S : ByteArray) : zerosTo S S.size ↔ zeros S := by
  constructor
  · intro h x hx
    obtain ⟨j, hj, rfl⟩ := List.mem_iff_getElem.1 hx
    exact h j hj hj
  · intro h j hj _
    exact h _ (List.getElem_mem (l := S.data.toList) hj)
theorem zerosTo_zero (S : ByteArray) : zerosTo S 0 := fun j h => absurd h (by omega)
theorem zerosTo_succ {S : ByteArray} {k : Nat} (hk : k < S.size) : zerosTo S (k + 1) ↔ zerosTo S k ∧ S[k] = 0 := by
  constructor
  · intro h
    exact ⟨fun j hj hs => h j (by omega) hs, h k (by omega) hk⟩
  · rintro ⟨h1, h2⟩ j hj hs
    by_cases e : j = k
    · subst e; exact h2
    · exact h1 j (by omega) hs
theorem u8_zero (b : UInt8) : (b.toNat : Int) = 0 ↔ b = 0 := by
  constructor
  · intro h
    have : b.toNat = 0 := by omega
    exact UInt8.toNat_inj.1 this
  · rintro rfl
    rfl
theorem Rd.fail_e (R : Rd) {e : Int} (h : e ≠ 0) (e' : Int) : (R.fail e).fail e' = R.fail e := by
  unfold Rd.fail
  by_cases hr : R.e = 0
  · rw [if_pos hr, if_neg h]
  · rw [if_neg hr, if_neg hr]
section
variable {o : Nat → Nat} {c : Nat} {w : World} {p : Nat} {R : Rd}
end
end Go.Proofs.YtjmgefpdfhfhmaaGreatDoor

namespace Go.Proofs.YtjmgefpdfhfhmaaGreatDoor
open Go.RowKit
section
variable {o : Nat → Nat} {c : Nat} {w : World} {p : Nat} {R : Rd}
set_option maxRecDepth 100000 in
set_option maxHeartbeats 400000 in
theorem yend_any (h : RdAt 89 o c w p R) : Calls Tryz.prog 29 #[.pointer (some ⟨p, 0, none⟩)] w fun r w' => r = .returned (.int .i64 R.endV) ∧ Below w.heap.size w w' := by
  have HR := Lib.hid h
  have c0 : w.cell? ⟨p, 0, none⟩ = some (.string R.b) := h.1.cell 0
  have c1 : w.cell? ⟨p, 1, none⟩ = some (.int .i64 R.e) := h.1.cell 1
  have hbs := h.2.2
  clear h
  by_cases he : R.e = 0
  · have E1 := Lib.hid (show R.endV = if zeros R.b then 0 else 4 by unfold Rd.endV; rw [if_neg (by simpa using he)])
    rw [he] at c1
    clear he
    have HC0 := Lib.hid c0
    have HC1 := Lib.hid c1
    clear c0 c1
    generalize R.b = S at HC0 hbs E1
    go_enter Tryz.func29, Tryz.ntmps29
    go_wp2_with fail
    go_loopw [3] (fun t3 wr => ∃ k : Nat, k ≤ S.size ∧ t3 = .int .i64 k ∧ zerosTo S k ∧ wr = w) (fun t3 _ => S.size - (intOf t3).toNat)
    case atStart => exact ⟨0, Nat.zero_le _, rfl, zerosTo_zero S, rfl⟩
    case round =>
      obtain ⟨k, hk, rfl, hz, rfl⟩ := hrel
      have c0 : wr.cell? ⟨p, 0, none⟩ = some (.string S) := HC0.out
      have c1 : wr.cell? ⟨p, 1, none⟩ = some (.int .i64 0) := HC1.out
      have HZ := Lib.hid hz
      clear hz
      by_cases hlt : k < S.size
      · have hltI : (k : Int) < (S.size : Int) := by omega
        by_cases hb : S[k] = 0
        · have hbI : ((S[k].toNat : Int) != 0) = false := by rw [hb]; rfl
          have HB := Lib.hid hb
          clear hb
          go_wp2_with fail
          go_roundw
          case rel => exact ⟨k + 1, by omega, by go_num, (zerosTo_succ hlt).2 ⟨HZ.out, HB.out⟩, by trivial⟩
          case measure => simp [intOf]; omega
        · have hbI : ((S[k].toNat : Int) != 0) = true := bne_iff_ne.2 (fun h => hb ((u8_zero _).1 h))
          have HB := Lib.hid hb
          clear hb
          go_wp2_with fail
          go_ret
          refine ⟨?_, Below.refl _ _⟩
          rw [E1.out, if_neg (fun h => HB.out ((zerosTo_succ hlt).1 (fun j hj hs => (zerosTo_all S).2 h j hs hs)).2)]
          rfl
      · have hltI : ¬ (k : Int) < (S.size : Int) := by omega
        obtain rfl : k = S.size := by omega
        go_wp2_with fail
        go_ret
        refine ⟨?_, Below.refl _ _⟩
        rw [E1.out, if_pos ((zerosTo_all S).1 HZ.out)]
        rfl
  · have E1 := Lib.hid (show R.endV = R.e by unfold Rd.endV; rw [if_pos he])
    have t1 : (R.e == 0) = false := beq_eq_false_iff_ne.2 he
    have HC0 := Lib.hid c0
    have HC1 := Lib.hid c1
    clear c0 c1 he
    generalize R.b = S at HC0 hbs
    go_enter Tryz.func29, Tryz.ntmps29
    go_wp2_with fail
    go_loopw [3] (fun t3 wr => t3 = .int .i64 0 ∧ wr = w) (fun _ _ => 0)
    case atStart => exact ⟨rfl, rfl⟩
    case round =>
      obtain ⟨rfl, rfl⟩ := hrel
      have c0 : wr.cell? ⟨p, 0, none⟩ = some (.string S) := HC0.out
      have c1 : wr.cell? ⟨p, 1, none⟩ = some (.int .i64 R.e) := HC1.out
      by_cases hlt : 0 < S.size
      · have hltI : (0 : Int) < (S.size : Int) := by omega
        go_wp2_with fail
        go_ret
        exact ⟨by rw [E1.out]; rfl, Below.refl _ _⟩
      · have hltI : ¬ (0 : Int) < (S.size : Int) := by omega
        go_wp2_with fail
        go_ret
        exact ⟨by rw [E1.out]; rfl, Below.refl _ _⟩
end
end Go.Proofs.YtjmgefpdfhfhmaaGreatDoor
