/- A reader of bytes in memory, as a plain structure: New, Err, fail, take. -/
import Derived.Test.YtllbionkmgpcaaaGreatDoorKWireD
import Derived.Test.YtllbionkmgpcaaaGreatDoorKShelf
import Derived.Lib.ConvBytes
namespace Go.Proofs.YtllbionkmgpcaaaGreatDoor
open Go.RowKit

/-- a reader: what is left of its bytes, and its first error -/
structure Rd where
  b : ByteArray
  e : Int
def Rd.fail (R : Rd) (e : Int) : Rd := if R.e = 0 then { R with e := e } else R
def Rd.takeS (R : Rd) (n : Int) : ByteArray := if R.e = 0 ∧ n ≤ R.b.size then R.b.extract 0 n.toNat else ⟨#[]⟩
def Rd.takeR (R : Rd) (n : Int) : Rd := if R.e ≠ 0 then R else if n ≤ R.b.size then { R with b := R.b.extract n.toNat R.b.size } else { R with e := 5 }
/-- the reader at block p reads as R, of colour c -/
def RdAt (T : TypeId) (o : Nat → Nat) (c : Nat) (w : World) (p : Nat) (R : Rd) : Prop := Blk w p T #[.string R.b, .int .i64 R.e] ∧ o p = c ∧ R.b.size ≤ 1000000000
section
variable {T : TypeId} {o o' : Nat → Nat} {c : Nat} {D : Nat → Prop} {w w' : World} {p : Nat} {R : Rd}
theorem RdAt.step (h : RdAt T o c w p R) (hk : Step o D w o' w') (hne : ¬ D c) : RdAt T o' c w' p R := ⟨h.1.step hk (by rw [h.2.1]; exact hne), (hk.old p h.1.lt).trans h.2.1, h.2.2⟩
theorem RdAt.below_ (h : RdAt T o c w p R) (hb : Below w.heap.size w w') : RdAt T o c w' p R := ⟨h.1.below_ hb, h.2⟩
theorem RdAt.alloc (h : RdAt T o c w p R) (x : Obj) : RdAt T o c (w.alloc x) p R := ⟨h.1.alloc x, h.2⟩
theorem RdAt.drewN (h : RdAt T o c w p R) (n : Nat) : RdAt T o c (w.drewN n) p R := h
theorem RdAt.setE (h : RdAt T o c w p R) (e : Int) : RdAt T o c (w.setCell ⟨p, 1, none⟩ (.int .i64 e)) p { R with e := e } := ⟨h.1.set_ 1 _, h.2⟩
theorem RdAt.setB (h : RdAt T o c w p R) (b : ByteArray) (hb : b.size ≤ 1000000000) : RdAt T o c (w.setCell ⟨p, 0, none⟩ (.string b)) p { R with b := b } := ⟨h.1.set_ 0 _, h.2.1, hb⟩
end
theorem rerr_nil (w : World) : Calls Tryz.prog 146 #[.pointer none] w fun r w' => r = .returned (.int .i64 1) ∧ w = w' := by
  go_enter Tryz.func146, Tryz.ntmps146
  go_wp2
  go_ret
  exact ⟨rfl, rfl⟩
section
variable {o : Nat → Nat} {c : Nat} {w : World} {p : Nat} {R : Rd}
theorem rerr_any (h : RdAt 193 o c w p R) : Calls Tryz.prog 146 #[.pointer (some ⟨p, 0, none⟩)] w fun r w' => r = .returned (.int .i64 R.e) ∧ w = w' := by
  have c1 : w.cell? ⟨p, 1, none⟩ = some (.int .i64 R.e) := h.1.cell 1
  go_enter Tryz.func146, Tryz.ntmps146
  go_wp2
  go_ret
  exact ⟨rfl, rfl⟩
theorem rfail_nil (e : Int) (w : World) : Calls Tryz.prog 133 #[.pointer none, .int .i64 e] w fun r w' => r = .returned (.tuple #[]) ∧ w = w' := by
  go_enter Tryz.func133, Tryz.ntmps133
  go_wp2
  go_end0
  exact ⟨rfl, rfl⟩
theorem rfail_any (h : RdAt 193 o c w p R) (e : Int) : Calls Tryz.prog 133 #[.pointer (some ⟨p, 0, none⟩), .int .i64 e] w fun r w' => r = .returned (.tuple #[]) ∧ RdAt 193 o c w' p (R.fail e) ∧ Step o (only c) w o w' := by
  have HR := Lib.hid h
  have c1 : w.cell? ⟨p, 1, none⟩ = some (.int .i64 R.e) := h.1.cell 1
  have f1 := h.1.frozen 1
  have hp := h.1.lt
  clear h
  by_cases he : R.e = 0
  · have e1 : R.fail e = { R with e := e } := by unfold Rd.fail; rw [if_pos he]
    have E1 := Lib.hid e1
    rw [he] at c1
    clear e1 he
    go_enter Tryz.func133, Tryz.ntmps133
    go_wp2
    go_end0
    exact ⟨rfl, by rw [E1.out]; exact HR.out.setE e, (Step.refl o (only c) w).setCell (p := ⟨p, 1, none⟩) HR.out.2.1 _⟩
  · have e1 : R.fail e = R := by unfold Rd.fail; rw [if_neg he]
    have E1 := Lib.hid e1
    have t1 : (R.e == 0) = false := beq_eq_false_iff_ne.2 he
    clear e1 he
    go_enter Tryz.func133, Tryz.ntmps133
    go_wp2
    go_end0
    exact ⟨rfl, by rw [E1.out]; exact HR.out, Step.refl _ _ _⟩
set_option maxHeartbeats 400000 in
theorem rtake_any (h : RdAt 193 o c w p R) (n : Int) (hn0 : 0 ≤ n) (hn1 : n ≤ 9223372036854775807) :
    Calls Tryz.prog 134 #[.pointer (some ⟨p, 0, none⟩), .int .i64 n] w fun r w' => r = .returned (.string (R.takeS n)) ∧ RdAt 193 o c w' p (R.takeR n) ∧ Step o (only c) w o w' := by
  have HR := Lib.hid h
  have c0 : w.cell? ⟨p, 0, none⟩ = some (.string R.b) := h.1.cell 0
  have c1 : w.cell? ⟨p, 1, none⟩ = some (.int .i64 R.e) := h.1.cell 1
  have f0 := h.1.frozen 0
  have f1 := h.1.frozen 1
  have hp := h.1.lt
  have hbs := h.2.2
  clear h
  by_cases he : R.e = 0
  · by_cases hl : n ≤ R.b.size
    · have e1 : R.takeR n = { R with b := R.b.extract n.toNat R.b.size } := by unfold Rd.takeR; rw [if_neg (by simpa using he), if_pos hl]
      have e2 : R.takeS n = R.b.extract 0 n.toNat := by unfold Rd.takeS; rw [if_pos ⟨he, hl⟩]
      have E1 := Lib.hid e1
      have E2 := Lib.hid e2
      clear e1 e2
      obtain ⟨k, rfl⟩ : ∃ k : Nat, n = k := ⟨n.toNat, by omega⟩
      have hk : k ≤ R.b.size := by omega
      have HE := Lib.hid he
      clear he
      go_enter Tryz.func134, Tryz.ntmps134
      go_wp2_with fail
      refine (rerr_any HR.out).mono ?_
      rintro e w1 ⟨rfl, rfl⟩
      rw [HE.out]
      go_wp2_with fail
      go_ret
      refine ⟨by rw [E2.out, Int.toNat_natCast]; rfl, ?_, (Step.refl o (only c) w).setCell (p := ⟨p, 0, none⟩) HR.out.2.1 _⟩
      rw [E1.out, Int.toNat_natCast]
      exact HR.out.setB _ (by rw [ByteArray.size_extract]; omega)
    · have e1 : R.takeR n = R.fail 5 := by unfold Rd.takeR Rd.fail; rw [if_neg (by simpa using he), if_neg hl, if_pos he]
      have e2 : R.takeS n = ⟨#[]⟩ := by unfold Rd.takeS; rw [if_neg (fun h => hl h.2)]
      have E1 := Lib.hid e1
      have E2 := Lib.hid e2
      have HE := Lib.hid he
      have hl' : (R.b.size : Int) < n := by omega
      clear e1 e2 he
      go_enter Tryz.func134, Tryz.ntmps134
      go_wp2_with fail
      refine (rerr_any HR.out).mono ?_
      rintro e w1 ⟨rfl, rfl⟩
      rw [HE.out]
      go_wp2_with fail
      refine (rfail_any HR.out 5).mono ?_
      rintro e w1 ⟨rfl, h1, s1⟩
      have H1 := Lib.hid h1
      have S1 := Lib.hid s1
      clear h1 s1
      go_wp2_with fail
      go_ret
      exact ⟨by rw [E2.out]; rfl, by rw [E1.out]; exact H1.out, S1.out⟩
  · have e1 : R.takeR n = R := by unfold Rd.takeR; rw [if_pos he]
    have e2 : R.takeS n = ⟨#[]⟩ := by unfold Rd.takeS; rw [if_neg (fun h => he h.1)]
    have E1 := Lib.hid e1
    have E2 := Lib.hid e2
    have t1 : (R.e != 0) = true := bne_iff_ne.2 he
    clear e1 e2 he
    go_enter Tryz.func134, Tryz.ntmps134
    go_wp2_with fail
    refine (rerr_any HR.out).mono ?_
    rintro e w1 ⟨rfl, rfl⟩
    go_wp2_with fail
    go_ret
    exact ⟨by rw [E2.out]; rfl, by rw [E1.out]; exact HR.out, Step.refl _ _ _⟩
end
end Go.Proofs.YtllbionkmgpcaaaGreatDoor

/- A reader of bytes: Num, Int. -/
namespace Go.Proofs.YtllbionkmgpcaaaGreatDoor
open Go.RowKit

/-- bytes as a number, the lowest first -/
def lev : List UInt8 → Nat
  | [] => 0
  | b :: r => b.toNat + 256 * lev r
theorem lev_lt (l : List UInt8) : lev l < 256 ^ l.length := by
  induction l with
  | nil => simp [lev]
  | cons b r ih =>
    have := b.toNat_lt
    simp only [lev, List.length_cons, Nat.pow_succ]
    omega
theorem lev_snoc (l : List UInt8) (b : UInt8) : lev (l ++ [b]) = lev l + b.toNat * 256 ^ l.length := by
  induction l with
  | nil => simp [lev]
  | cons c r ih =>
    simp only [List.cons_append, lev, ih, List.length_cons, Nat.pow_succ]
    rw [Nat.mul_add, Nat.mul_left_comm 256 b.toNat, Nat.mul_comm (256 ^ r.length) 256, Nat.add_assoc]
def Rd.numV (R : Rd) (n : Int) : Nat := if 1 ≤ n ∧ n ≤ 8 then lev (R.takeS n).data.toList else 0
def Rd.numR (R : Rd) (n : Int) : Rd := if 1 ≤ n ∧ n ≤ 8 then R.takeR n else R.fail 1
theorem takeS_size (R : Rd) (n : Int) (h0 : 0 ≤ n) : ((R.takeS n).size : Int) ≤ n := by
  unfold Rd.takeS
  split
  · rw [ByteArray.size_extract]; omega
  · exact h0
theorem or_byte (v k : Nat) (b : UInt8) (hv : v < 256 ^ k) (hk : k ≤ 7) : bits BinOp.or IntKind.u64 (v : Int) (IntKind.u64.wrap (IntKind.u64.wrap (b.toNat : Int) * 2 ^ (8 * k))) = ((v + b.toNat * 256 ^ k : Nat) : Int) := by
  have hp : 256 ^ k = 2 ^ (8 * k) := by rw [show 256 = 2 ^ 8 from rfl, ← Nat.pow_mul]
  have hb := b.toNat_lt
  have hle : 2 ^ (8 * k + 8) ≤ 2 ^ 64 := Nat.pow_le_pow_right (by decide) (by omega)
  have hs : 2 ^ (8 * k + 8) = 2 ^ (8 * k) * 256 := by rw [Nat.pow_add]
  rw [hp] at hv ⊢
  have hm : b.toNat * 2 ^ (8 * k) ≤ 255 * 2 ^ (8 * k) := Nat.mul_le_mul_right _ (by omega)
  have h64 : (2 : Nat) ^ 64 = 18446744073709551616 := rfl
  have hsum : v + b.toNat * 2 ^ (8 * k) < 18446744073709551616 := by omega
  have e1 : IntKind.u64.wrap (b.toNat : Int) = (b.toNat : Int) := by rw [IntKind.wrap_u64]; omega
  have e2 : (b.toNat : Int) * 2 ^ (8 * k) = ((b.toNat * 2 ^ (8 * k) : Nat) : Int) := by simp
  have e3 : IntKind.u64.wrap ((b.toNat * 2 ^ (8 * k) : Nat) : Int) = ((b.toNat * 2 ^ (8 * k) : Nat) : Int) := by rw [IntKind.wrap_u64]; omega
  rw [e1, e2, e3]
  have hor : v ||| b.toNat * 2 ^ (8 * k) = v + b.toNat * 2 ^ (8 * k) := by
    rw [Nat.or_comm, Nat.mul_comm, ← Nat.two_pow_add_eq_or_of_lt hv, Nat.add_comm]
  generalize b.toNat * 2 ^ (8 * k) = y at *
  have e4 : (BitVec.ofInt IntKind.u64.bits (v : Int) ||| BitVec.ofInt IntKind.u64.bits (y : Int)).toNat = v + y := by
    rw [BitVec.toNat_or, BitVec.ofInt_natCast, BitVec.ofInt_natCast, BitVec.toNat_ofNat, BitVec.toNat_ofNat]
    have hbits : 2 ^ IntKind.u64.bits = 18446744073709551616 := rfl
    rw [hbits, Nat.mod_eq_of_lt (by omega), Nat.mod_eq_of_lt (by omega), hor]
  unfold bits
  simp only [e4]
  rw [IntKind.wrap_u64]
  omega
theorem below_bytes (w : World) (e : TypeId) (s : ByteArray) : Below w.heap.size w (Lib.bytesWorld w e s) := ⟨rfl, rfl, rfl, by rw [Lib.bytesWorld_size]; omega, fun k hk => Lib.bytesWorld_at_old w e s k hk⟩
section
variable {o : Nat → Nat} {c : Nat} {w : World} {p : Nat} {R : Rd}
set_option maxRecDepth 100000 in
set_option maxHeartbeats 1000000 in
theorem rnum_any (h : RdAt 193 o c w p R) (n : Int) :
    Calls Tryz.prog 105 #[.pointer (some ⟨p, 0, none⟩), .int .i64 n] w fun r w' => r = .returned (.int .u64 (R.numV n)) ∧ ∃ o', RdAt 193 o' c w' p (R.numR n) ∧ Step o (only c) w o' w' := by
  have HR := Lib.hid h
  clear h
  by_cases hn : 1 ≤ n ∧ n ≤ 8
  · have e1 : R.numR n = R.takeR n := by unfold Rd.numR; rw [if_pos hn]
    have e2 : R.numV n = lev (R.takeS n).data.toList := by unfold Rd.numV; rw [if_pos hn]
    have E1 := Lib.hid e1
    have E2 := Lib.hid e2
    have HOK := Lib.hid (show (if numOk 0 n then (0 : Int) else 1) = 0 from if_pos ⟨hn.1, hn.2, Nat.pow_pos (by decide)⟩)
    obtain ⟨hn1, hn8⟩ := hn
    clear e1 e2
    have hsz := takeS_size R n (by omega)
    go_enter Tryz.func105, Tryz.ntmps105
    go_wp2_with fail
    refine (wrongNum_any 0 n (by omega) _).mono ?_
    rintro e w1 ⟨rfl, rfl⟩
    rw [HOK.out]
    go_wp2_with fail
    refine (rtake_any HR.out n (by omega) (by omega)).mono ?_
    rintro e w2 ⟨rfl, h2, s2⟩
    have H2 := Lib.hid h2
    have S2 := Lib.hid s2
    clear h2 s2
    generalize hS : R.takeS n = S at hsz E2
    have HS := Lib.hid hS
    clear hS
    have hcv := fun w => Lib.run_convert_string_bytes (P := Tryz.prog) w 9 76 5 S Tryz.underlying9 Tryz.underlying76 Tryz.underlying5
    go_wp2_with fail
    have hcell : ∀ j, j < S.size → (Lib.bytesWorld w2 5 S).cell? ⟨w2.heap.size, j, none⟩ = some (.int .u8 (S.data.toList.getD j 0).toNat) := fun j hj => Lib.bytesWorld_cell w2 5 S j hj
    have hbw := below_bytes w2 5 S
    have HCELL := Lib.hid hcell
    have HBW := Lib.hid hbw
    clear hcell hbw hcv
    generalize Lib.bytesWorld w2 5 S = W3 at HCELL HBW ⊢
    generalize w2.heap.size = B at HCELL ⊢
    have hs8 : (S.size : Int) ≤ 8 := by omega
    go_loop [6, 21] (fun t6 t21 => ∃ k : Nat, k ≤ S.size ∧ t21 = .int .i64 k ∧ t6 = .int .u64 ((lev (S.data.toList.take k) : Nat) : Int)) (fun _ t21 => S.size - (intOf t21).toNat)
    case atStart => exact ⟨0, Nat.zero_le _, rfl, rfl⟩
    case round =>
      obtain ⟨k, hk, rfl, rfl⟩ := hrel
      by_cases hlt : k < S.size
      · have hltI : (k : Int) < (S.size : Int) := by omega
        have hc := HCELL.out k hlt
        have hk7 : k ≤ 7 := by omega
        have hkl : (S.data.toList.take k).length = k := by rw [List.length_take]; exact Nat.min_eq_left (Nat.le_of_lt hlt)
        have hvl := lev_lt (S.data.toList.take k)
        rw [hkl] at hvl
        have htk : S.data.toList.take (k + 1) = S.data.toList.take k ++ [S.data.toList.getD k 0] := by
          rw [List.take_add_one, List.getElem?_eq_getElem hlt]
          simp [List.getD, List.getElem?_eq_getElem hlt]
        have HKL := Lib.hid hkl
        have HTK := Lib.hid htk
        clear hkl htk
        generalize hv : lev (S.data.toList.take k) = v at hvl
        have HV := Lib.hid hv
        have HVL := Lib.hid hvl
        clear hv hvl
        generalize S.data.toList.getD k 0 = b at hc HTK
        go_wp2_with fail
        go_round
        case rel =>
          refine ⟨k + 1, by omega, by go_num, ?_⟩
          rw [HTK.out, lev_snoc, HV.out, HKL.out, or_byte v k b HVL.out hk7]
        case measure => simp [intOf]; omega
      · have hltI : ¬ (k : Int) < (S.size : Int) := by omega
        go_wp2_with fail
        go_ret
        have hke : k = S.size := by omega
        have htl : S.data.toList.take k = S.data.toList := List.take_of_length_le (by rw [hke]; exact Nat.le_refl _)
        refine ⟨?_, o, ?_, ?_⟩
        · rw [E2.out, htl]; rfl
        · rw [E1.out]; exact H2.out.below_ HBW.out
        · exact S2.out.trans (Step.of_below _ _ HBW.out)
  · have e1 : R.numR n = R.fail 1 := by unfold Rd.numR; rw [if_neg hn]
    have e2 : R.numV n = 0 := by unfold Rd.numV; rw [if_neg hn]
    have E1 := Lib.hid e1
    have E2 := Lib.hid e2
    have HOK := Lib.hid (show (if numOk 0 n then (0 : Int) else 1) = 1 from if_neg (fun h => hn ⟨h.1, h.2.1⟩))
    clear e1 e2 hn
    go_enter Tryz.func105, Tryz.ntmps105
    go_wp2_with fail
    refine (wrongNum_any 0 n (by omega) _).mono ?_
    rintro e w1 ⟨rfl, rfl⟩
    rw [HOK.out]
    go_wp2_with fail
    refine (rfail_any HR.out 1).mono ?_
    rintro e w2 ⟨rfl, h2, s2⟩
    have H2 := Lib.hid h2
    have S2 := Lib.hid s2
    clear h2 s2
    go_wp2_with fail
    go_ret
    exact ⟨by rw [E2.out]; rfl, o, by rw [E1.out]; exact H2.out, S2.out⟩
end
end Go.Proofs.YtllbionkmgpcaaaGreatDoor

/- A reader of bytes: New, Int, Count, Flag, Text, Skip, End. -/
namespace Go.Proofs.YtllbionkmgpcaaaGreatDoor
open Go.RowKit

theorem numV_lt (R : Rd) (n : Int) (h0 : 0 ≤ n) : R.numV n < 256 ^ n.toNat := by
  unfold Rd.numV
  split
  · have h1 := lev_lt (R.takeS n).data.toList
    have h2 := takeS_size R n h0
    have h3 : (R.takeS n).data.toList.length = (R.takeS n).size := rfl
    exact Nat.lt_of_lt_of_le h1 (Nat.pow_le_pow_right (by decide) (by omega))
  · exact Nat.pow_pos (by decide)
def Rd.countV (R : Rd) (most : Int) : Int := if (R.numR 2).e = 0 ∧ most < (R.numV 2 : Int) then (0 : Int) else (R.numV 2 : Int)
def Rd.countR (R : Rd) (most : Int) : Rd := if (R.numR 2).e = 0 ∧ most < R.numV 2 then { R.numR 2 with e := 2 } else R.numR 2
def Rd.flagV (R : Rd) : Bool := decide (R.numV 1 = 1)
def Rd.flagR (R : Rd) : Rd := if 1 < R.numV 1 then (R.numR 1).fail 4 else R.numR 1
section
variable {o : Nat → Nat} {c : Nat} {w : World} {p : Nat} {R : Rd}
end
end Go.Proofs.YtllbionkmgpcaaaGreatDoor

/- A reader of bytes: New, Text. -/
namespace Go.Proofs.YtllbionkmgpcaaaGreatDoor
open Go.RowKit

theorem clone_any (s : ByteArray) (w : World) (hlim : s.size ≤ 281474976710656) : Calls Tryz.prog 73 #[.string s] w fun e w' => e = .returned (.string s) ∧ Below w.heap.size w w' := by
  go_enter Tryz.func73, Tryz.ntmps73
  go_wp2_with (go_at_call 112; refine (Tryz.stringslite_Clone s _ hlim).mono ?_; rintro e w' ⟨rfl, hb⟩)
  go_ret
  exact ⟨rfl, hb⟩
theorem newreader_any (o : Nat → Nat) (c : Nat) (b : ByteArray) (w : World) (hb : b.size ≤ 1000000000) :
    Calls Tryz.prog 104 #[.string b] w fun e w' => ∃ p o', e = .returned (.pointer (some ⟨p, 0, none⟩)) ∧ RdAt 193 o' c w' p ⟨b, 0⟩ ∧ Below w.heap.size w w' ∧ ∀ C, Step o C w o' w' := by
  go_enter Tryz.func104, Tryz.ntmps104
  go_wp2_with (go_at_call 73; refine (clone_any b _ (by omega)).mono ?_; rintro e w1 ⟨rfl, hb1⟩)
  go_ret
  have hs := hb1.size
  have hbl : Below w.heap.size w (w1.alloc (.cells #[.string b, .int .i64 0] 193)) := hb1.alloc hb1.size _
  have e1 : (w1.alloc (.cells #[.string b, .int .i64 0] 193)).heap.size = w1.heap.size + 1 := by simp
  refine ⟨w1.heap.size, band o w1.heap.size (w1.heap.size + 1) c, rfl, ⟨Blk.new _ _ _, band_in (Nat.le_refl _) (by omega), hb⟩, hbl, fun C => ⟨hbl.os, hbl.tape, hbl.output, hbl.size, fun k hk => band_lt (by omega), fun k hk => band_ge (by omega), fun k hk _ => hbl.block k hk⟩⟩
def Rd.textV (R : Rd) (room : Int) : ByteArray := if room < 0 ∨ 60000 < room then ⟨#[]⟩ else (R.countR room).takeS (R.countV room)
def Rd.textR (R : Rd) (room : Int) : Rd := if room < 0 ∨ 60000 < room then R.fail 1 else (R.countR room).takeR (R.countV room)
theorem countV_bd (R : Rd) (most : Int) : 0 ≤ R.countV most ∧ R.countV most < 65536 := by
  have hv : R.numV 2 < 65536 := numV_lt R 2 (by omega)
  unfold Rd.countV
  split <;> omega
theorem takeS_le (R : Rd) (n : Int) : (R.takeS n).size ≤ R.b.size := by
  unfold Rd.takeS
  split
  · rw [ByteArray.size_extract]; omega
  · exact Nat.zero_le _
section
variable {o : Nat → Nat} {c : Nat} {w : World} {p : Nat} {R : Rd}
end
end Go.Proofs.YtllbionkmgpcaaaGreatDoor
