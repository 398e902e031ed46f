/- The document's reader of bytes: Text, Skip, End (the same plain functions). -/
import Derived.Test.YtoploimpfhnanaaDoorWireQ
namespace Go.Proofs.YtoploimpfhnanaaDoor
open Go.RowKit

/-- of the first k bytes: whether each is 0 -/
def zerosTo (S : ByteArray) (k : Nat) : Prop := ∀ j (_ : j < k) (h : j < S.size), S[j] = 0
theorem zerosTo_all (S : ByteArray) : zerosTo S S.size ↔ zeros S := by
  constructor
  · intro h x hx
    obtain ⟨j, hj, rfl⟩ := List.mem_iff_getElem.1 hx
    exact h j hj hj
  · intro h j hj _
    exact h _ (List.getElem_mem (l := S.data.toList) hj)
theorem zerosTo_zero (S : ByteArray) : zerosTo S 0 := fun j h => absurd h (by omega)
theorem zerosTo_succ {S : ByteArray} {k : Nat} (hk : k < S.size) : zerosTo S (k + 1) ↔ zerosTo S k ∧ S[k] = 0 := by
  constructor
  · intro h
    exact ⟨fun j hj hs => h j (by omega) hs, h k (by omega) hk⟩
  · rintro ⟨h1, h2⟩ j hj hs
    by_cases e : j = k
    · subst e; exact h2
    · exact h1 j (by omega) hs
theorem u8_zero (b : UInt8) : (b.toNat : Int) = 0 ↔ b = 0 := by
  constructor
  · intro h
    have : b.toNat = 0 := by omega
    exact UInt8.toNat_inj.1 this
  · rintro rfl
    rfl
theorem Rd.fail_e (R : Rd) {e : Int} (h : e ≠ 0) (e' : Int) : (R.fail e).fail e' = R.fail e := by
  unfold Rd.fail
  by_cases hr : R.e = 0
  · rw [if_pos hr, if_neg h]
  · rw [if_neg hr, if_neg hr]
section
variable {o : Nat → Nat} {c : Nat} {w : World} {p : Nat} {R : Rd}
set_option maxRecDepth 100000 in
set_option maxHeartbeats 400000 in
theorem ytext_any (h : RdAt 45 o c w p R) (room : Int) :
    Calls Tryd.prog 22 #[.pointer (some ⟨p, 0, none⟩), .int .i64 room] w fun r w' => r = .returned (.string (R.textV room)) ∧ RdAt 45 o c w' p (R.textR room) ∧ Step o (only c) w o w' := by
  have HR := Lib.hid h
  clear h
  by_cases hr : room < 0 ∨ 60000 < room
  · have E1 := Lib.hid (show R.textV room = ⟨#[]⟩ by unfold Rd.textV; rw [if_pos hr])
    have E2 := Lib.hid (show R.textR room = R.fail 1 by unfold Rd.textR; rw [if_pos hr])
    by_cases h1 : room < 0
    · clear hr
      go_enter Tryd.func22, Tryd.ntmps22
      go_wp2_with fail
      refine (yfail_any HR.out 1).mono ?_
      rintro e w2 ⟨rfl, h2, s2⟩
      have H2 := Lib.hid h2
      have S2 := Lib.hid s2
      clear h2 s2
      go_wp2_with fail
      go_ret
      exact ⟨by rw [E1.out]; rfl, by rw [E2.out]; exact H2.out, S2.out⟩
    · have h8 : 60000 < room := by omega
      clear hr
      go_enter Tryd.func22, Tryd.ntmps22
      go_wp2_with fail
      refine (yfail_any HR.out 1).mono ?_
      rintro e w2 ⟨rfl, h2, s2⟩
      have H2 := Lib.hid h2
      have S2 := Lib.hid s2
      clear h2 s2
      go_wp2_with fail
      go_ret
      exact ⟨by rw [E1.out]; rfl, by rw [E2.out]; exact H2.out, S2.out⟩
  · have E1 := Lib.hid (show R.textV room = (R.countR room).takeS (R.countV room) by unfold Rd.textV; rw [if_neg hr])
    have E2 := Lib.hid (show R.textR room = (R.countR room).takeR (R.countV room) by unfold Rd.textR; rw [if_neg hr])
    have hr1 : ¬ room < 0 := by omega
    have hr2 : ¬ 60000 < room := by omega
    clear hr
    have hv : R.numV 2 < 65536 := numV_lt R 2 (by omega)
    go_enter Tryd.func22, Tryd.ntmps22
    go_wp2_with fail
    refine (ynum_any HR.out 2).mono ?_
    rintro e w1 ⟨rfl, h1, s1⟩
    have H1 := Lib.hid h1
    have S1 := Lib.hid s1
    clear h1 s1
    have e1 : R.countV room = if (R.numR 2).e = 0 ∧ room < (R.numV 2 : Int) then (0 : Int) else (R.numV 2 : Int) := rfl
    have e2 : R.countR room = if (R.numR 2).e = 0 ∧ room < (R.numV 2 : Int) then { R.numR 2 with e := 2 } else R.numR 2 := rfl
    generalize R.numV 2 = v at hv e1 e2 ⊢
    generalize R.numR 2 = R2 at H1 e1 e2 ⊢
    have F1 := Lib.hid e1
    have F2 := Lib.hid e2
    clear e1 e2
    have hvI : (v : Int) < 65536 := by omega
    have c1 : w1.cell? ⟨p, 1, none⟩ = some (.int .i64 R2.e) := H1.out.1.cell 1
    by_cases he : R2.e = 0
    · by_cases hm : room < v
      · have E3 := Lib.hid (show R2.fail 2 = { R2 with e := 2 } by unfold Rd.fail; rw [if_pos he])
        have HC := Lib.hid (show R2.e = 0 ∧ room < (v : Int) from ⟨he, hm⟩)
        rw [he] at c1
        clear he
        go_wp2_with fail
        refine (yfail_any H1.out 2).mono ?_
        rintro e w3 ⟨rfl, h3, s3⟩
        rw [E3.out] at h3
        have H3 := Lib.hid h3
        have S3 := Lib.hid s3
        clear h3 s3 c1
        go_wp2_with fail
        refine (ytake_any H3.out v (by omega) (by omega)).mono ?_
        rintro e w4 ⟨rfl, h4, s4⟩
        rw [takeR_err _ (by simp) _] at h4
        rw [takeS_err _ (by simp) _]
        have H4 := Lib.hid h4
        have S4 := Lib.hid s4
        clear h4 s4
        go_wp2_with fail
        go_ret
        exact ⟨by rw [E1.out, F1.out, F2.out, if_pos HC.out, if_pos HC.out, takeS_err _ (by simp) _]; rfl, by rw [E2.out, F1.out, F2.out, if_pos HC.out, if_pos HC.out, takeR_err _ (by simp) _]; exact H4.out, (S1.out.trans S3.out).trans S4.out⟩
      · have HC := Lib.hid (show ¬ (R2.e = 0 ∧ room < (v : Int)) from fun h => hm h.2)
        have t2 : decide (room < (v : Int)) = false := decide_eq_false hm
        rw [he] at c1
        have hv0 : (0 : Int) ≤ (v : Int) ∧ (v : Int) ≤ 9223372036854775807 := by omega
        have HV := Lib.hid hv0
        clear he hm hv hv0
        go_wp2_with fail
        refine (ytake_any H1.out v HV.out.1 HV.out.2).mono ?_
        rintro e w4 ⟨rfl, h4, s4⟩
        have H4 := Lib.hid h4
        have S4 := Lib.hid s4
        clear h4 s4
        go_wp2_with fail
        go_ret
        exact ⟨by rw [E1.out, F1.out, F2.out, if_neg HC.out, if_neg HC.out]; rfl, by rw [E2.out, F1.out, F2.out, if_neg HC.out, if_neg HC.out]; exact H4.out, S1.out.trans S4.out⟩
    · have t1 : (R2.e == 0) = false := beq_eq_false_iff_ne.2 he
      have HC := Lib.hid (show ¬ (R2.e = 0 ∧ room < (v : Int)) from fun h => he h.1)
      clear he
      go_wp2_with fail
      refine (ytake_any H1.out v (by omega) (by omega)).mono ?_
      rintro e w4 ⟨rfl, h4, s4⟩
      have H4 := Lib.hid h4
      have S4 := Lib.hid s4
      clear h4 s4
      go_wp2_with fail
      go_ret
      exact ⟨by rw [E1.out, F1.out, F2.out, if_neg HC.out, if_neg HC.out]; rfl, by rw [E2.out, F1.out, F2.out, if_neg HC.out, if_neg HC.out]; exact H4.out, S1.out.trans S4.out⟩
set_option maxRecDepth 100000 in
set_option maxHeartbeats 400000 in
theorem yskip_any (h : RdAt 45 o c w p R) (n : Int) (hn1 : n ≤ 9223372036854775807) :
    Calls Tryd.prog 26 #[.pointer (some ⟨p, 0, none⟩), .int .i64 n] w fun r w' => r = .returned (.tuple #[]) ∧ RdAt 45 o c w' p (R.skipR n) ∧ Step o (only c) w o w' := by
  have HR := Lib.hid h
  clear h
  by_cases h0 : n < 0
  · have E1 := Lib.hid (show R.skipR n = R.fail 1 by unfold Rd.skipR; rw [if_pos h0])
    clear hn1
    go_enter Tryd.func26, Tryd.ntmps26
    go_wp2_with fail
    refine (yfail_any HR.out 1).mono ?_
    rintro e w2 ⟨rfl, h2, s2⟩
    have H2 := Lib.hid h2
    have S2 := Lib.hid s2
    clear h2 s2
    go_wp2_with fail
    first | go_end0 | refine bodyPost_ret (v := .tuple #[]) (by simp [results, Tryd.results26, go_sem]) rfl ?_
    exact ⟨rfl, by rw [E1.out]; exact H2.out, S2.out⟩
  · have HN1 := Lib.hid hn1
    have hsz := Nat.le_trans (takeS_le R n) HR.out.2.2
    clear hn1
    have E1 := Lib.hid (show R.skipR n = if zeros (R.takeS n) then R.takeR n else (R.takeR n).fail 4 by unfold Rd.skipR; rw [if_neg h0])
    go_enter Tryd.func26, Tryd.ntmps26
    go_wp2_with fail
    refine (ytake_any HR.out n (by omega) HN1.out).mono ?_
    rintro e w2 ⟨rfl, h2, s2⟩
    have H2 := Lib.hid h2
    have S2 := Lib.hid s2
    clear h2 s2
    generalize R.takeS n = S at hsz E1
    generalize R.takeR n = R2 at H2 E1
    generalize R.takeO n = ok
    go_wp2_with fail
    go_loopw [6] (fun t6 wr => ∃ k : Nat, k ≤ S.size ∧ t6 = .int .i64 k ∧ (∃ R3, (zerosTo S k ∧ R3 = R2 ∨ ¬ zerosTo S k ∧ R3 = R2.fail 4) ∧ RdAt 45 o c wr p R3) ∧ Step o (only c) w o wr) (fun t6 _ => S.size - (intOf t6).toNat)
    case atStart => exact ⟨0, Nat.zero_le _, rfl, ⟨R2, .inl ⟨zerosTo_zero S, rfl⟩, H2.out⟩, S2.out⟩
    case round =>
      obtain ⟨k, hk, rfl, ⟨R3, hz3, h3⟩, s3⟩ := hrel
      have H3 := Lib.hid h3
      have S3 := Lib.hid s3
      have HZ3 := Lib.hid hz3
      clear h3 s3 hz3
      by_cases hlt : k < S.size
      · have hltI : (k : Int) < (S.size : Int) := by omega
        by_cases hb : S[k] = 0
        · have hbI : ((S[k].toNat : Int) != 0) = false := by rw [hb]; rfl
          have HB := Lib.hid hb
          clear hb
          go_wp2_with fail
          go_roundw
          case rel =>
            refine ⟨k + 1, by omega, by go_num, ⟨R3, ?_, H3.out⟩, S3.out⟩
            rcases HZ3.out with ⟨h1, h2⟩ | ⟨h1, h2⟩
            · exact .inl ⟨(zerosTo_succ hlt).2 ⟨h1, HB.out⟩, h2⟩
            · exact .inr ⟨fun h => h1 ((zerosTo_succ hlt).1 h).1, h2⟩
          case measure => simp [intOf]; omega
        · have hbI : ((S[k].toNat : Int) != 0) = true := bne_iff_ne.2 (fun h => hb ((u8_zero _).1 h))
          have HB := Lib.hid hb
          clear hb
          go_wp2_with fail
          refine (yfail_any H3.out 4).mono ?_
          rintro e w4 ⟨rfl, h4, s4⟩
          have H4 := Lib.hid h4
          have S4 := Lib.hid s4
          clear h4 s4
          go_wp2_with fail
          go_roundw
          case rel =>
            refine ⟨k + 1, by omega, by go_num, ⟨R3.fail 4, .inr ⟨fun h => HB.out ((zerosTo_succ hlt).1 h).2, ?_⟩, H4.out⟩, S3.out.trans S4.out⟩
            rcases HZ3.out with ⟨h1, h2⟩ | ⟨h1, h2⟩
            · rw [h2]
            · rw [h2, Rd.fail_e _ (by decide)]
          case measure => simp [intOf]; omega
      · have hltI : ¬ (k : Int) < (S.size : Int) := by omega
        obtain rfl : k = S.size := by omega
        go_wp2_with fail
        first | go_end0 | refine bodyPost_ret (v := .tuple #[]) (by simp [results, Tryd.results26, go_sem]) rfl ?_
        refine ⟨rfl, ?_, S3.out⟩
        rw [E1.out]
        rcases HZ3.out with ⟨h1, h2⟩ | ⟨h1, h2⟩
        · rw [if_pos ((zerosTo_all S).1 h1), ← h2]; exact H3.out
        · rw [if_neg (fun h => h1 ((zerosTo_all S).2 h)), ← h2]; exact H3.out
end
end Go.Proofs.YtoploimpfhnanaaDoor
