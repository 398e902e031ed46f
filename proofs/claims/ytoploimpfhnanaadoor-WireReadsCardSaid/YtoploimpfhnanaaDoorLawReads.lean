/- WireReads: the law's walk. -/
import Derived.Test.YtoploimpfhnanaaDoorLight
import Derived.Test.YtoploimpfhnanaaDoorWireS
namespace Go.Proofs.YtoploimpfhnanaaDoor
open Go.RowKit

/-- the two readers, and what lay before -/
structure Rds (o : Nat → Nat) (w0 w : World) (p q : Nat) (R : Rd) : Prop where
  a : RdAt 47 o 1 w p R
  b : RdAt 45 o 3 w q R
  env : Env o w0 w
section
variable {o o1 o2 : Nat → Nat} {w0 w w1 w2 : World} {p q : Nat} {R R' : Rd}
theorem Rds.both (h : Rds o w0 w p q R) (ha : RdAt 47 o1 1 w1 p R') (hs : Step o (only 1) w o1 w1) (hb : RdAt 45 o1 3 w2 q R') (hs2 : Step o1 (only 3) w1 o1 w2) : Rds o1 w0 w2 p q R' :=
  ⟨ha.step hs2 (by unfold only; omega), hb, (h.env.step hs (by unfold only; omega)).step hs2 (by unfold only; omega)⟩
theorem Rds.below_ (h : Rds o w0 w p q R) (hb : Below w.heap.size w w1) : Rds o w0 w1 p q R := ⟨h.a.below_ hb, h.b.below_ hb, h.env.below_ hb⟩
theorem Rds.drewN (h : Rds o w0 w p q R) (n : Nat) : Rds o w0 (w.drewN n) p q R := ⟨h.a.drewN n, h.b.drewN n, h.env.drewN n⟩
end
theorem rd_new (T : TypeId) (o : Nat → Nat) (c : Nat) (w : World) (b : ByteArray) (hb : b.size ≤ 1000000000) : ∃ o', RdAt T o' c (w.alloc (.cells #[.string b, .int .i64 0] T)) w.heap.size ⟨b, 0⟩ ∧ ∀ C, Step o C w o' (w.alloc (.cells #[.string b, .int .i64 0] T)) := by
  refine ⟨band o w.heap.size (w.alloc (.cells #[.string b, .int .i64 0] T)).heap.size c, ⟨Blk.new _ _ _, band_in (Nat.le_refl _) (by simp), hb⟩, fun C => ?_⟩
  exact Step.of_below_band o C c ((Below.refl _ _).alloc (Nat.le_refl _) _)

set_option maxRecDepth 100000 in
set_option maxHeartbeats 4000000 in
theorem wireReads_any (b : ByteArray) (zero : Bool) (w : World) (A : Option Addr) (ca : Nat) (l : List Opr) (hb : b.size ≤ maxLen) (ha : Reads w 4 A l.length (ocells l)) (hz : ∀ x ∈ l, x.ok) (hlen : l.length ≤ maxLen) : Calls Tryd.prog 5 #[.string b, .bool zero, .slice A l.length ca] w fun e w' => e = .returned (.bool true) ∧ Below w.heap.size w w' := by
  unfold maxLen at hb
  have HA := Lib.hid ha
  have HZ := Lib.hid hz
  have HLEN := Lib.hid hlen
  clear ha hz hlen
  by_cases h0 : 6000 < b.size
  · have h0I : (6000 : Int) < (b.size : Int) := by omega
    go_enter Tryd.func5, Tryd.ntmps5
    go_wp2_with fail
    refine (alive1_any _).mono ?_
    rintro e w1 ⟨rfl, hb⟩
    go_wp2_with fail
    go_ret
    exact ⟨rfl, hb⟩
  · have h0I : ¬ (6000 : Int) < (b.size : Int) := by omega
    by_cases hL : Lt l
    · have HLT := Lib.hid hL
      have hl60 : l.length ≤ 60 := hL.1
      clear hL
      go_enter Tryd.func5, Tryd.ntmps5
      go_wp2_with fail
      refine (light_any ca HA.out HLEN.out HZ.out).mono ?_
      rintro e w1 ⟨rfl, rfl⟩
      rw [decide_eq_true HLT.out]
      go_wp2_with fail
      refine (newreader_any (fun _ => 0) 1 b _ (by omega)).mono ?_
      rintro e w2 ⟨p2, o2, rfl, hr2, hb2, hs2⟩
      obtain ⟨o3, hx3, hs3⟩ := rd_new 45 o2 3 w2 b (by omega)
      have H3 := Lib.hid (show Rds o3 w (w2.alloc (.cells #[.string b, .int .i64 0] 45)) p2 w2.heap.size ⟨b, 0⟩ from
        ⟨hr2.step (hs3 (fun _ => False)) (by simp), hx3, ((Env.start w).step (hs2 (fun _ => False)) (by simp)).step (hs3 (fun _ => False)) (by simp)⟩)
      clear hr2 hb2 hs2 hx3 hs3
      go_upto_if 26 with (fail)
      go_cut [7, 8] from 27 to 30 (fun t7 t8 wx => ∃ (p q : Nat) (o4 : Nat → Nat) (R : Rd), t7 = .pointer (some ⟨p, 0, none⟩) ∧ t8 = .pointer (some ⟨q, 0, none⟩) ∧ Rds o4 w wx p q R)
      case first =>
        cases zero with
        | true =>
          obtain ⟨o4, hx4, hs4⟩ := rd_new 47 o3 1 (w2.alloc (.cells #[.string b, .int .i64 0] 45)) ⟨#[]⟩ (by decide)
          obtain ⟨o5, hx5, hs5⟩ := rd_new 45 o4 3 ((w2.alloc (.cells #[.string b, .int .i64 0] 45)).alloc (.cells #[.string ⟨#[]⟩, .int .i64 0] 47)) ⟨#[]⟩ (by decide)
          have H5 := Lib.hid (show Rds o5 w _ _ _ ⟨⟨#[]⟩, 0⟩ from
            ⟨hx4.step (hs5 (fun _ => False)) (by simp), hx5, (H3.out.env.step (hs4 (fun _ => False)) (by simp)).step (hs5 (fun _ => False)) (by simp)⟩)
          clear hx4 hs4 hx5 hs5
          go_wp2_with fail
          go_meet
          case rel => exact ⟨_, _, o5, _, rfl, rfl, by have h9 := H5.out; simpa using h9⟩
        | false =>
          go_wp2_with fail
          go_meet
          case rel => exact ⟨_, _, o3, _, rfl, rfl, H3.out⟩
      case rest =>
        obtain ⟨p, q, o4, R, rfl, rfl, h4⟩ := hcut
        have H4 := Lib.hid h4
        clear h4 H3
        go_wp2_with fail
        go_loopw [9] (fun t9 wr => ∃ (k : Nat) (o5 : Nat → Nat) (R : Rd), k ≤ l.length ∧ t9 = .int .i64 k ∧ Rds o5 w wr p q R) (fun t9 _ => l.length - (intOf t9).toNat)
        case atStart => exact ⟨0, o4, R, Nat.zero_le _, rfl, H4.out⟩
        case round =>
          clear H4
          obtain ⟨k, o5, R5, hk, rfl, hrs⟩ := hrel
          have HRS := Lib.hid hrs
          clear hrs
          by_cases hlt : k < l.length
          · have hltI : (k : Int) < (l.length : Int) := by omega
            obtain ⟨y, hy⟩ : ∃ y, l[k]? = some y := ⟨_, List.getElem?_eq_getElem hlt⟩
            obtain ⟨ad, rfl, c0, c1, c2, c3⟩ := (HA.out.keep_ (fun ad had => HRS.out.env.low.block _ (HA.out.lt (by decide) ad (by omega) had))).op hy
            obtain ⟨kd, n, v, s⟩ := y
            obtain ⟨_, _, hn, _⟩ := HZ.out _ (List.mem_of_getElem? hy)
            simp only at c0 c1 hn
            have HN := Lib.hid (show n ≤ 9223372036854775807 from hn.2)
            clear c2 c3 hn hy
            go_upto_block 2 with (fail)
            clear c0 c1
            go_cut [11] from 49 to 96 (fun t11 wx => ∃ (o6 : Nat → Nat) (R6 : Rd), t11 = .bool true ∧ Rds o6 w wx p q R6)
            case first =>
              by_cases k1 : kd = 1
              · subst k1
                go_wp2_with fail
                refine (rnum_any HRS.out.a n).mono ?_
                rintro e w3 ⟨rfl, o6, h3, s3⟩
                generalize hV : R5.numV n = V
                have HV := Lib.hid hV
                clear hV
                have H3 := Lib.hid h3
                have S3 := Lib.hid s3
                have X3 := Lib.hid (HRS.out.b.step s3 (by unfold only; omega))
                clear h3 s3
                go_wp2_with fail
                refine (ynum_any X3.out n).mono ?_
                rintro e w4 ⟨rfl, h4, s4⟩
                rw [HV.out]
                have H4 := Lib.hid (HRS.out.both H3.out S3.out h4 s4)
                clear h4 s4
                go_wp2_with fail
                go_meet
                case rel => exact ⟨o6, _, rfl, H4.out⟩
              · have k1I : (kd == 1) = false := beq_eq_false_iff_ne.2 k1
                by_cases k2 : kd = 2
                · subst k2
                  go_wp2_with fail
                  refine (rint_any HRS.out.a).mono ?_
                  rintro e w3 ⟨rfl, o6, h3, s3⟩
                  generalize hV : R5.numV 8 = V
                  have HV := Lib.hid hV
                  clear hV
                  have H3 := Lib.hid h3
                  have S3 := Lib.hid s3
                  have X3 := Lib.hid (HRS.out.b.step s3 (by unfold only; omega))
                  clear h3 s3
                  go_wp2_with fail
                  refine (ynum_any X3.out 8).mono ?_
                  rintro e w4 ⟨rfl, h4, s4⟩
                  rw [HV.out]
                  have hwV : IntKind.i64.wrap (V : Int) = wrap64 (V : Int) := by first | rfl | (rw [IntKind.wrap_i64]; unfold wrap64; omega)
                  generalize wrap64 (V : Int) = V2 at hwV ⊢
                  have H4 := Lib.hid (HRS.out.both H3.out S3.out h4 s4)
                  clear h4 s4
                  go_wp2_with fail
                  go_meet
                  case rel => exact ⟨o6, _, rfl, H4.out⟩
                · have k2I : (kd == 2) = false := beq_eq_false_iff_ne.2 k2
                  by_cases k3 : kd = 3
                  · subst k3
                    go_wp2_with fail
                    refine (rtext_any HRS.out.a n).mono ?_
                    rintro e w3 ⟨rfl, o6, h3, s3⟩
                    generalize hV : R5.textV n = V
                    have HV := Lib.hid hV
                    clear hV
                    have H3 := Lib.hid h3
                    have S3 := Lib.hid s3
                    have X3 := Lib.hid (HRS.out.b.step s3 (by unfold only; omega))
                    clear h3 s3
                    go_wp2_with fail
                    refine (ytext_any X3.out n).mono ?_
                    rintro e w4 ⟨rfl, h4, s4⟩
                    rw [HV.out]
                    have H4 := Lib.hid (HRS.out.both H3.out S3.out h4 s4)
                    clear h4 s4
                    go_wp2_with fail
                    go_meet
                    case rel => exact ⟨o6, _, rfl, H4.out⟩
                  · have k3I : (kd == 3) = false := beq_eq_false_iff_ne.2 k3
                    by_cases k4 : kd = 4
                    · subst k4
                      go_wp2_with fail
                      refine (rflag_any HRS.out.a).mono ?_
                      rintro e w3 ⟨rfl, o6, h3, s3⟩
                      generalize hV : R5.flagV = V
                      have HV := Lib.hid hV
                      clear hV
                      have H3 := Lib.hid h3
                      have S3 := Lib.hid s3
                      have X3 := Lib.hid (HRS.out.b.step s3 (by unfold only; omega))
                      clear h3 s3
                      go_wp2_with fail
                      refine (yflag_any X3.out).mono ?_
                      rintro e w4 ⟨rfl, h4, s4⟩
                      rw [HV.out]
                      have H4 := Lib.hid (HRS.out.both H3.out S3.out h4 s4)
                      clear h4 s4
                      go_wp2_with fail
                      go_meet
                      case rel => exact ⟨o6, _, rfl, H4.out⟩
                    · have k4I : (kd == 4) = false := beq_eq_false_iff_ne.2 k4
                      by_cases k5 : kd = 5
                      · subst k5
                        go_wp2_with fail
                        refine (rskip_any HRS.out.a n HN.out).mono ?_
                        rintro e w3 ⟨rfl, o6, h3, s3⟩
                        have H3 := Lib.hid h3
                        have S3 := Lib.hid s3
                        have X3 := Lib.hid (HRS.out.b.step s3 (by unfold only; omega))
                        clear h3 s3
                        go_wp2_with fail
                        refine (yskip_any X3.out n HN.out).mono ?_
                        rintro e w4 ⟨rfl, h4, s4⟩
                        have H4 := Lib.hid (HRS.out.both H3.out S3.out h4 s4)
                        clear h4 s4
                        go_wp2_with fail
                        go_meet
                        case rel => exact ⟨o6, _, rfl, H4.out⟩
                      · have k5I : (kd == 5) = false := beq_eq_false_iff_ne.2 k5
                        go_wp2_with fail
                        refine (rcount_any HRS.out.a n).mono ?_
                        rintro e w3 ⟨rfl, o6, h3, s3⟩
                        generalize hV : R5.countV n = V
                        have HV := Lib.hid hV
                        clear hV
                        have H3 := Lib.hid h3
                        have S3 := Lib.hid s3
                        have X3 := Lib.hid (HRS.out.b.step s3 (by unfold only; omega))
                        clear h3 s3
                        go_wp2_with fail
                        refine (ycount_any X3.out n).mono ?_
                        rintro e w4 ⟨rfl, h4, s4⟩
                        rw [HV.out]
                        have H4 := Lib.hid (HRS.out.both H3.out S3.out h4 s4)
                        clear h4 s4
                        go_wp2_with fail
                        go_meet
                        case rel => exact ⟨o6, _, rfl, H4.out⟩
            case rest =>
              obtain ⟨o6, R6, rfl, h6⟩ := hcut
              have H6 := Lib.hid h6
              have hc1 : wc.cell? ⟨q, 1, none⟩ = some (.int .i64 R6.e) := h6.b.1.cell 1
              have hql : q < wc.heap.size := h6.b.1.lt
              clear h6
              go_upto_region 26 with (fail)
              go_region_held3 (fun w' => w'.cell? ⟨q, 1, none⟩ = some (.int .i64 R6.e))
                (first | exact hc1 | exact (hb8.cell (p := ⟨q, 1, none⟩) (Nat.lt_of_lt_of_le hql hb7.size)).trans ((hb7.cell (p := ⟨q, 1, none⟩) hql).trans hc1) | exact (hb7.cell (p := ⟨q, 1, none⟩) hql).trans hc1 | go_keep)
                (first | (go_at_call 29; refine (rerr_any (H6.out.drewN 1).a).mono ?_; rintro e w7 ⟨rfl, rfl⟩) | (go_at_call 30; refine (rend_any (H6.out.drewN 1).a).mono ?_; rintro e w7 ⟨rfl, hb7⟩) | (go_at_call 31; refine (yend_any ((H6.out.drewN 1).below_ hb7).b).mono ?_; rintro e w8 ⟨rfl, hb8⟩))
              go_wp2_with fail
              go_roundw
              case rel => exact ⟨k + 1, o6, R6, by omega, by go_num, ((H6.out.drewN 1).below_ hb7).below_ hb8⟩
              case measure => simp [intOf]; omega
          · have hltI : ¬ (k : Int) < (l.length : Int) := by omega
            go_wp2_with fail
            refine (alive1_any _).mono ?_
            rintro e w5 ⟨rfl, hb5⟩
            go_wp2_with fail
            go_ret
            exact ⟨rfl, (HRS.out.env.below_ hb5).low⟩
    · have HLT := Lib.hid hL
      clear hL
      go_enter Tryd.func5, Tryd.ntmps5
      go_wp2_with fail
      refine (light_any ca HA.out HLEN.out HZ.out).mono ?_
      rintro e w1 ⟨rfl, rfl⟩
      rw [decide_eq_false HLT.out]
      go_wp2_with fail
      refine (alive1_any _).mono ?_
      rintro e w5 ⟨rfl, hb5⟩
      go_wp2_with fail
      go_ret
      exact ⟨rfl, hb5⟩
end Go.Proofs.YtoploimpfhnanaaDoor
