/- LogEvery: wherever the power goes in the midst of a log's calls. -/
import Derived.Test.YtdmjkklidnmogaaGreatDoorKLawY
namespace Go.Proofs.YtdmjkklidnmogaaGreatDoor
open Go.RowKit

set_option maxRecDepth 100000 in
set_option maxHeartbeats 8000000 in
theorem logEvery_any (l : List LOp) (vs : List (Value × Value)) (n : Int) (keep : List Int) (W : World) (A0 A2 : Option Addr) (cap0 cap2 : Nat) (hrd0 : OpsRd W A0 l vs) (hln0 : l.length ≤ maxLen) (hin : ∀ o ∈ l, o.InB) (hrd2 : Reads W 1 A2 keep.length (intcells keep)) (hln2 : keep.length ≤ maxLen) :
    Calls Tryz.prog 3 #[.slice A0 l.length cap0, .int .i64 n, .slice A2 keep.length cap2] W fun e w' => e = .returned (.bool true) ∧ Below W.heap.size W w' := by
  have HR0 := Lib.hid hrd0
  have HR2 := Lib.hid hrd2
  have HIN := Lib.hid hin
  have HL0 := Lib.hid hln0
  have hl2 : (keep.length : Int) ≤ 9223372036854775807 := by unfold maxLen at hln2; omega
  clear hrd0 hrd2 hin hln0 hln2
  go_enter Tryz.func3, Tryz.ntmps3
  go_upto_region 1 with (fail)
  go_wp2_with fail
  refine (light12_any W A0 cap0 l vs HR0.out HL0.out HIN.out).mono ?_
  rintro e w0 ⟨b, rfl, hb4, hb0⟩
  have HS0 := Lib.hid (Step.of_below (fun _ => 0) nz hb0)
  have HF0 := Lib.hid (show Fut (fun _ => 0) w0 from fun _ _ => rfl)
  clear hb0
  cases b with
  | false =>
    go_wp2_with fail
    refine (alive13_any HF0.out).mono ?_
    rintro e w1 ⟨rfl, o1, hs⟩
    go_wp2_with fail
    go_ret
    exact ⟨rfl, (HS0.out.trans hs).below (fun _ _ h => h rfl) (Nat.le_refl _)⟩
  | true =>
  have HLL := Lib.hid (hb4 rfl)
  have hN0 : (l.length : Int) ≤ 60 := by have := HLL.out.1; omega
  clear hb4
  by_cases c1 : (100 : Int) < (keep.length : Int)
  · go_wp2_with fail
    refine (alive13_any HF0.out).mono ?_
    rintro e w1 ⟨rfl, o1, hs⟩
    go_wp2_with fail
    go_ret
    exact ⟨rfl, (HS0.out.trans hs).below (fun _ _ h => h rfl) (Nat.le_refl _)⟩
  by_cases c2 : n < 0
  · go_wp2_with fail
    refine (alive13_any HF0.out).mono ?_
    rintro e w1 ⟨rfl, o1, hs⟩
    go_wp2_with fail
    go_ret
    exact ⟨rfl, (HS0.out.trans hs).below (fun _ _ h => h rfl) (Nat.le_refl _)⟩
  by_cases c3 : 200 < n
  · go_wp2_with fail
    refine (alive13_any HF0.out).mono ?_
    rintro e w1 ⟨rfl, o1, hs⟩
    go_wp2_with fail
    go_ret
    exact ⟨rfl, (HS0.out.trans hs).below (fun _ _ h => h rfl) (Nat.le_refl _)⟩
  have HK2 := Lib.hid (show keep.length ≤ 100 by omega)
  go_wp2_with fail
  refine (ready_any (cd := 1) (cr := 10) HF0.out (by omega) (by omega)).mono ?_
  rintro e w1 ⟨p, r, rfl, o1, hd, _, hs⟩
  have HV := Lib.hid readyV
  have HO := Lib.hid lv_open
  generalize readyD = D0 at hd HV HO
  generalize D0.table 2 = T2 at HV
  have hf1 := HF0.out.step hs
  have HX := Lib.hid (Keep.new hf1 31 #[.int .i64 2, .int .i64 10, .int .i64 8, .int .i64 4, .int .i64 32])
  have HD := Lib.hid (hd.alloc (.cells #[.int .i64 2, .int .i64 10, .int .i64 8, .int .i64 4, .int .i64 32] 31))
  have HF1 := Lib.hid (hf1.alloc (.cells #[.int .i64 2, .int .i64 10, .int .i64 8, .int .i64 4, .int .i64 32] 31))
  have HS1 := Lib.hid ((HS0.out.trans (hs.mono nz_ready)).alloc (.cells #[.int .i64 2, .int .i64 10, .int .i64 8, .int .i64 4, .int .i64 32] 31))
  clear hd hs hf1 HF0 HS0
  go_upto_region 6 with (fail)
  generalize w1.alloc (.cells #[.int .i64 2, .int .i64 10, .int .i64 8, .int .i64 4, .int .i64 32] 31) = W1 at HX HD HF1 HS1 ⊢
  generalize w1.heap.size = gl at HX ⊢
  obtain ⟨s0, s1, s2, s3, s4⟩ := HX.out.1.five
  go_wp2_with fail
  refine (gopen_any (c := 20) HD.out HV.out.calm.tame (by omega) (by omega) (by omega) HF1.out 1 9 1 rfl (by omega) HV.out.openV.1).mono ?_
  rintro e w2 ⟨q, rfl, o2, hd, hl, hs⟩
  have ht := HV.out.openV.2.calm.tame
  have hlv := HO.out.1
  change DiskAt o2 1 w2 p (D0.lhead lg0 ⟨9, 1, 0⟩).2 at hd
  change LogAt o2 20 w2 q lg0 p at hl
  generalize (D0.lhead lg0 ⟨9, 1, 0⟩).2 = D1 at hd ht hlv
  have HLV := Lib.hid hlv
  have HT2 := Lib.hid ht
  have HD2 := Lib.hid hd
  have HL2 := Lib.hid hl
  have HX2 := Lib.hid (HX.out.step hs (no_six (by omega)))
  have HF2 := Lib.hid (HF1.out.step hs)
  have HS2 := Lib.hid (HS1.out.trans (hs.mono (nz_six 1 (by omega))))
  clear hd hl hs ht hlv HV HO HD HX HF1 HS1 s0 s1 s2 s3 s4
  go_wp2_with fail
  refine (darm_any HD2.out n keep A2 cap2 (HS2.out.inzE (by omega) HR2.out) (by have := HK2.out; omega)).mono ?_
  rintro e w3 ⟨rfl, o3, hd, hs⟩
  have HE3 := Lib.hid (Ev5.start hd (HL2.out.step hs (by unfold only; omega) (by unfold only; omega)) (HX2.out.step hs (by unfold only; omega)) (HF2.out.step hs) (HS2.out.trans (hs.mono (nz_only 1 (by omega)))) (show Tame (D1.arm n keep) 100 from (show Tame (D1.arm n keep) _ from ⟨HT2.out.sectors, HT2.out.waits, HT2.out.seq, HT2.out.wf⟩).mono (by omega)))
  have HH3 := Lib.hid (show Hed [] (D1.arm n keep) lg0 1 0 from (Hed.arm HLV.out n keep).hed)
  generalize D1.arm n keep = Da at HE3 HH3
  generalize lg0 = ga at HE3 HH3
  clear hd hs HD2 HL2 HX2 HF2 HS2 HLV HT2
  go_upto_block 0 with (fail)
  go_cut [13, 14, 15, 16, 17, 18, 19] from 65 (fun t13 t14 t15 _ _ _ _ wx => ∃ (ims : List Im) (D : Dk) (g : Lg) (F S : Nat) (o : Nat → Nat) (k : Nat), t14 = .int .u64 F ∧ t15 = .int .u64 S ∧ k ≤ 2000 ∧ Hed ims D g F S ∧ Ev5 W p q gl ims D g k t13 o wx)
  case first =>
    go_wp2_with fail
    go_loopg [13, 14, 15, 16, 17, 18, 19] l.length (fun n t13 t14 t15 t16 _ _ _ wr => ∃ (i : Nat) (ims : List Im) (D : Dk) (g : Lg) (F S : Nat) (o : Nat → Nat), n + i = l.length ∧ t14 = .int .u64 F ∧ t15 = .int .u64 S ∧ t16 = .int .i64 i ∧ ims.length ≤ i ∧ Hed ims D g F S ∧ Ev5 W p q gl ims D g (100 + 30 * i) t13 o wr)
    case atStart => exact ⟨0, [], Da, ga, 1, 0, o3, by omega, rfl, rfl, rfl, Nat.le_refl _, HH3.out, HE3.out⟩
    case round =>
      obtain ⟨i, ims, D, g, F, S, o4, hni, rfl, rfl, rfl, him, hhd, hev⟩ := hrel
      have HEV := Lib.hid hev
      have HIM := Lib.hid him
      have HNI := Lib.hid hni
      have HNL := Lib.hid (show i ≤ 60 by omega)
      clear hev him HE3 HH3 hni
      by_cases hlt : i < l.length
      · have hltI : (i : Int) < (l.length : Int) := by omega
        rcases hhd with ⟨hon, hlv, rfl, rfl⟩ | ⟨hoff, hlost⟩
        · obtain ⟨x, hx⟩ : ∃ x, l[i]? = some x := ⟨_, List.getElem?_eq_getElem hlt⟩
          obtain ⟨B, cp, C, cq, hvs, ⟨hxr, hxc, hxm⟩, _⟩ := HR0.out.at_ hx
          obtain ⟨ad, rfl, hc⟩ := (HR0.out.inz HEV.out.step).row hx hvs
          have HIX := Lib.hid (HIN.out x (List.mem_of_getElem? hx))
          have HLX := Lib.hid ((HLL.out.2 x (List.mem_of_getElem? hx)).1)
          have HXR := Lib.hid hxr
          have HXC := Lib.hid hxc
          have HXM := Lib.hid hxm
          have y0 : wr.cell? (ad.add (i * 12)) = some (.int .i64 x.kind) := hc 0 _ rfl
          have y2 : wr.cell? ⟨(ad.add (i * 12)).block, (ad.add (i * 12)).off + 2, none⟩ = some (.int .u64 x.v) := hc 2 _ rfl
          have y3 : wr.cell? ⟨(ad.add (i * 12)).block, (ad.add (i * 12)).off + 3, none⟩ = some (.slice B x.l.length cp) := hc 3 _ rfl
          have HRX := Lib.hid (fun (o' : Nat → Nat) (w' : World) (hs : Step (fun _ => 0) nz W o' w') => (show ∀ (j : Nat) u, (x.cells (.slice B x.l.length cp) (.slice C x.d.keep.length cq))[j]? = some u → w'.cell? ((ad.add (i * 12)).add j) = some u from by
            obtain ⟨ad', e', hc'⟩ := (HR0.out.inz hs).row hx hvs
            injection e' with e'
            subst e'
            exact hc'))
          clear hx hvs hc hxr hxc hxm
          have HON := Lib.hid hon
          have HLV := Lib.hid hlv
          clear hon hlv
          obtain ⟨A13, cap13, rfl⟩ := HEV.out.add.form
          go_wp2_with fail
          refine (don_any HEV.out.disk).mono ?_
          rintro e w9 ⟨rfl, rfl⟩
          rw [HON.out]
          go_upto_block 2 with (fail)
          go_cut [13, 14, 17, 18, 19] from 65 to 135 (fun t13 t14 _ _ _ wx => ∃ (ims' : List Im) (D' : Dk) (g' : Lg) (F' : Nat) (o' : Nat → Nat), t14 = .int .u64 F' ∧ ims'.length ≤ i + 1 ∧ Stp ims' D' g' F' g.synced ∧ Ev5 W p q gl ims' D' g' (100 + 30 * (i + 1)) t13 o' wx)
          case rest =>
            obtain ⟨ims', D', g', F', o', rfl, him', hst, hev'⟩ := hcut
            have HIM' := Lib.hid him'
            have HEV' := Lib.hid hev'
            clear him' hev' y0 y2 y3
            go_wp2_with fail
            refine (don_any HEV'.out.disk).mono ?_
            rintro e w9 ⟨rfl, rfl⟩
            rcases hst with ⟨hon', hlv', rfl, _⟩ | ⟨hoff', hlost'⟩
            · rw [hon']
              have HLV' := Lib.hid hlv'
              have HON' := Lib.hid hon'
              clear hon' hlv'
              go_wp2_with fail
              refine (gsynced_any HEV'.out.log).mono ?_
              rintro e w9 ⟨rfl, rfl⟩
              go_wp2_with fail
              go_roundg (l.length - (i + 1))
              case measure => have := HNI.out; omega
              case rel => exact ⟨i + 1, ims', D', g', g'.first, g'.synced, o', by omega, rfl, rfl, by go_num, HIM'.out, HLV'.out.hed, HEV'.out⟩
            · rw [hoff']
              have HLO' := Lib.hid hlost'
              have HOF' := Lib.hid hoff'
              clear hoff' hlost'
              go_wp2_with fail
              go_roundg (l.length - (i + 1))
              case measure => have := HNI.out; omega
              case rel => exact ⟨i + 1, ims', D', g', F', g.synced, o', by omega, rfl, rfl, by go_num, HIM'.out, .inr ⟨HOF'.out, HLO'.out⟩, HEV'.out⟩
          case first =>
            obtain ⟨g1, g2, g3, g4, g5, g6, g7, g8⟩ := HLV.out.small
            have HG1 := Lib.hid g1
            have HG2 := Lib.hid g2
            have HG3 := Lib.hid g3
            have HG4 := Lib.hid g4
            have HG5 := Lib.hid g5
            have HG6 := Lib.hid g6
            have HG7 := Lib.hid g7
            have HG8 := Lib.hid g8
            clear g1 g2 g3 g4 g5 g6 g7 g8
            obtain ⟨xk, xn, xv, xl, xd⟩ := x
            simp only at y0 y2 y3
            by_cases k1 : xk = 1
            · subst k1
              go_wp2_with fail
              have hadd := gadd_any HEV.out.log xl B cp (HEV.out.step.inzE (by omega) HXR.out) (Nat.le_trans HLX.out (by omega)) HXC.out HXM.out (fun j hj => by have := (HIX.out.ims j hj).2; first | exact this.1 | exact this.2 | omega) (fun j hj => by have := HIX.out.ims j hj; first | exact this.1 | omega) HG1.out HG2.out (by have := HG3.out; omega) (by have := HG4.out; omega) HG5.out (by omega) HEV.out.fut
              refine hadd.mono ?_
              clear hadd
              rintro e w4 ⟨rfl, o5, hl, hs⟩
              have hev := HEV.out.call hl hs
              rcases stp_add HLV.out xl (fun j hj => by have := HIX.out.ims j hj; first | exact this.1 | omega) (by have := HIM.out; have := HNL.out; omega) with ⟨hE, hst⟩ | ⟨im, e, hE, hst⟩
              · obtain ⟨E, hEE⟩ : ∃ E, g.addE xl = E := ⟨_, rfl⟩
                rw [hEE] at hE ⊢
                have t1 : (E == 0) = false := by simp [hE]
                have HE4 := Lib.hid (hev.more (k' := 100 + 30 * (i + 1)) (by omega))
                have HST := Lib.hid hst
                clear hev hst hl hs y0 y2 y3 hEE
                go_wp2_with fail
                go_meet
                case rel => exact ⟨ims, D, g.addG xl, g.first, o5, rfl, by have := HIM.out; omega, HST.out, HE4.out⟩
              · subst e
                rw [hE]
                have c3 : w4.cell? ⟨(ad.add (i * 12)).block, (ad.add (i * 12)).off + 3, none⟩ = some (.slice B 1 cp) := HRX.out o5 w4 hev.step 3 _ rfl
                obtain ⟨avs, a1, a2, a3⟩ := hev.add
                obtain ⟨i0, hi0, hz0, hz1, hz2⟩ := info_parts info_imsl
                have HOW := Lib.hid (a2.alloc (.cells #[.slice B 1 cp] 41))
                have HEA := Lib.hid ((hev.alloc (.cells #[.slice B 1 cp] 41)).more (k' := 100 + 30 * (i + 1)) (by omega))
                have HA1 := Lib.hid a1
                have HA3 := Lib.hid a3
                have HST := Lib.hid hst
                clear hev hst hl hs y0 y2 y3 a1 a2 a3 hE
                go_wp2_with (at_builtin; refine wpList_append_S _ rfl (.tmp 94) (.tmp 100) 40 rfl 41 i0 _ 1 24 Tryz.underlying40 hi0 hz0 hz1 hz2 rfl (by omega) (.slice A13 ims.length cap13) ims.length avs rfl HOW.out (some ⟨w4.heap.size, 0, none⟩) 1 1 [.slice B 1 cp] rfl (Reads.newAt w4 41 1 1 _ #[.slice B 1 cp] _ rfl rfl rfl) (by simp [Value.oneCell']) (by have := HIM.out; have := HNL.out; unfold maxLen; omega) (by have := HIM.out; have := HNL.out; omega) ?_; intro v7 w7 hown7 hst7 hgr7 hat7)
                have HEP := Lib.hid (HEA.out.push HXR.out hst7 avs HA1.out HA3.out hown7)
                clear hown7 hst7 hgr7 hat7
                go_wp2_with fail
                go_meet
                case rel => exact ⟨ims ++ [im], D, g.addG [im], g.first, _, rfl, by have := HIM.out; rw [List.length_append, List.length_singleton]; omega, HST.out, HEP.out⟩
            · have b1 : (xk == 1) = false := by simp [k1]
              by_cases k2 : xk = 2
              · subst k2
                go_wp2_with fail
                refine (gwrite_any HEV.out.log HEV.out.disk HEV.out.tame (by have := HNL.out; omega) (by omega) (by omega) HEV.out.fut HG6.out (by have := HG3.out; omega) HG8.out).mono ?_
                rintro e w4 ⟨rfl, o5, hd, hl, ht, hs⟩
                have HE4 := Lib.hid ((HEV.out.both hd hl ht hs).more (k' := 100 + 30 * (i + 1)) (by have := HG3.out; omega))
                have HST := Lib.hid (stp_write HLV.out)
                clear hd hl ht hs y0 y2 y3
                go_wp2_with fail
                go_meet
                case rel => exact ⟨ims, _, _, g.first, o5, rfl, by have := HIM.out; omega, HST.out, HE4.out⟩
              · have b2 : (xk == 2) = false := by simp [k2]
                by_cases k3 : xk = 3
                · subst k3
                  go_wp2_with fail
                  refine (gsync_any HEV.out.log HEV.out.disk HEV.out.tame (by have := HNL.out; omega) (by omega) (by omega) HEV.out.fut HG6.out (by have := HG3.out; omega) HG8.out).mono ?_
                  rintro e w4 ⟨rfl, o5, hd, hl, ht, hs⟩
                  have HE4 := Lib.hid ((HEV.out.both hd hl ht hs).more (k' := 100 + 30 * (i + 1)) (by have := HG3.out; omega))
                  have HST := Lib.hid (stp_sync HLV.out)
                  clear hd hl ht hs y0 y2 y3
                  go_wp2_with fail
                  go_meet
                  case rel => exact ⟨ims, _, _, g.first, o5, rfl, by have := HIM.out; omega, HST.out, HE4.out⟩
                · have b3 : (xk == 3) = false := by simp [k3]
                  by_cases k4 : xk = 4
                  · subst k4
                    go_wp2_with fail
                    refine (gfree_any HEV.out.log HEV.out.disk HEV.out.tame (by have := HNL.out; omega) (by omega) (by omega) HG1.out (by have := HG3.out; omega) HG7.out xv HIX.out.v).mono ?_
                    rintro e w4 ⟨rfl, o5, hd, hl, ht, hs⟩
                    have hev := (HEV.out.both hd hl ht hs).more (k' := 100 + 30 * (i + 1)) (by omega)
                    have c2 : w4.cell? ⟨(ad.add (i * 12)).block, (ad.add (i * 12)).off + 2, none⟩ = some (.int .u64 xv) := HRX.out o5 w4 hev.step 2 _ rfl
                    have HE4 := Lib.hid hev
                    have hfr := stp_free HLV.out xv
                    generalize (freeR D g xv).D = D4 at HE4 hfr
                    generalize (freeR D g xv).g = g4 at HE4 hfr
                    generalize (freeR D g xv).e = E4 at hfr ⊢
                    clear hev hd hl ht hs y0 y2 y3
                    rcases hfr with ⟨hE, hst⟩ | ⟨hE, hE2, hst⟩
                    · have HST := Lib.hid hst
                      clear hst
                      rcases hE with rfl | rfl
                      · go_wp2_with fail
                        go_meet
                        case rel => exact ⟨ims, D4, g4, max g.first xv, o5, by first | rfl | (congr 1; omega), by have := HIM.out; omega, HST.out, HE4.out⟩
                      · go_wp2_with fail
                        go_meet
                        case rel => exact ⟨ims, D4, g4, max g.first xv, o5, by first | rfl | (congr 1; omega), by have := HIM.out; omega, HST.out, HE4.out⟩
                    · have HST := Lib.hid hst
                      have t1 : (E4 == 0) = false := by simp [hE]
                      have t2 : (E4 == 14) = false := by simp [hE2]
                      clear hst
                      go_wp2_with fail
                      go_meet
                      case rel => exact ⟨ims, D4, g4, g.first, o5, rfl, by have := HIM.out; omega, HST.out, HE4.out⟩
                  · have b4 : (xk == 4) = false := by simp [k4]
                    have HE4 := Lib.hid (HEV.out.more (k' := 100 + 30 * (i + 1)) (by omega))
                    have HST := Lib.hid HLV.out.hed.stp
                    go_wp2_with fail
                    go_meet
                    case rel => exact ⟨ims, D, g, g.first, o4, rfl, by have := HIM.out; omega, HST.out, HE4.out⟩
        · have HOF := Lib.hid hoff
          have HLO := Lib.hid hlost
          clear hoff hlost
          go_wp2_with fail
          refine (don_any HEV.out.disk).mono ?_
          rintro e w9 ⟨rfl, rfl⟩
          rw [HOF.out]
          go_wp2_with fail
          go_meet
          case rel => exact ⟨ims, D, g, F, S, o4, 100 + 30 * i, rfl, rfl, by have := HNL.out; omega, .inr ⟨HOF.out, HLO.out⟩, HEV.out⟩
      · have hltI : ¬ (i : Int) < (l.length : Int) := by omega
        have HHD := Lib.hid hhd
        clear hhd
        go_wp2_with fail
        go_meet
        case rel => exact ⟨ims, D, g, F, S, o4, 100 + 30 * i, rfl, rfl, by have := HNL.out; omega, HHD.out, HEV.out⟩
  case rest =>
    obtain ⟨ims, D, g, F, S, o4, k, rfl, rfl, hk, hhd, hev⟩ := hcut
    obtain ⟨A13, cap13, rfl⟩ := hev.add.form
    have HEV := Lib.hid hev
    have HLN := Lib.hid hhd.len
    have HEN := Lib.hid (hhd.ends keep)
    have HK := Lib.hid hk
    clear hev hhd hk HE3 HH3
    go_wp2_with fail
    refine (darm_any HEV.out.disk (-1) [] none 0 (Reads.none_ _ _ _) (by simp)).mono ?_
    rintro e v3 ⟨rfl, q3, hd, hs⟩
    have HE3 := Lib.hid (HEV.out.disk_ hd (show Tame (D.arm (-1) []) k from ⟨HEV.out.tame.sectors, HEV.out.tame.waits, HEV.out.tame.seq, HEV.out.tame.wf⟩) (hs.mono (fun x hx => by unfold only at hx; unfold six; omega)))
    clear hd hs HEV
    go_wp2_with fail
    refine (dcut_any HE3.out.disk keep A2 cap2 (fun o' w' hs => (HE3.out.step.trans (hs.mono nz_cutC)).inzE (by omega) HR2.out) (by have := HK2.out; unfold maxLen; omega)).mono ?_
    rintro e v4 ⟨rfl, q4, hd, hs⟩
    have HE4 := Lib.hid (HE3.out.disk_ hd (HE3.out.tame.cut keep) (hs.mono (cutC_six 1)))
    clear hd hs HE3
    go_wp2_with fail
    refine (drestore_any HE4.out.disk (by rw [HE4.out.tame.sectors]; omega)).mono ?_
    rintro e v5 ⟨rfl, q5, hd, hs⟩
    have HE5 := Lib.hid (HE4.out.disk_ hd (show Tame (((D.arm (-1) []).cut keep).2).restore k from ⟨HE4.out.tame.sectors, HE4.out.tame.waits, HE4.out.tame.seq, HE4.out.tame.wf⟩) (hs.mono (fun x hx => by unfold only at hx; unfold six; omega)))
    clear hd hs HE4
    have he5 := HE5.out
    change Ev5 W p q gl ims (finD D keep) g k (.slice A13 ims.length cap13) q5 v5 at he5
    obtain ⟨H, hen⟩ := HEN.out
    generalize finD D keep = E at he5 hen
    have HE6 := Lib.hid he5
    have HD6 := Lib.hid hen
    clear he5 hen HE5 HEN
    obtain ⟨s0, s1, s2, s3, s4⟩ := HE6.out.lay.1.five
    go_wp2_with fail
    have hscan := escan_any HE6.out.disk (by rw [HE6.out.tame.sectors]; omega) HE6.out.tame.wf 1
    rw [HD6.out.err] at hscan
    refine hscan.mono ?_
    clear hscan s0 s1 s2 s3 s4
    rintro e w8 ⟨A8, cap8, rfl, o8, vs8, hra⟩
    have HB8 := Lib.hid hra.env.low
    have HRA := Lib.hid hra.rd
    have HRL := Lib.hid (show (E.scan 1).length ≤ 2 from HD6.out.two)
    have HFO := Lib.hid HD6.out.found
    have HAL := Lib.hid HD6.out.all
    have HH1 := Lib.hid HD6.out.h1
    have HHF := Lib.hid HD6.out.hF
    generalize E.scan 1 = rs at HRA HRL HFO HAL ⊢
    have HAD := Lib.hid (HE6.out.add)
    have HF8 := Lib.hid (HE6.out.fut.below hra.env.low)
    have HS8 := Lib.hid (HE6.out.step.trans (Step.of_below q5 nz hra.env.low))
    have HS6 := Lib.hid HE6.out.step
    clear hra HD6 HE6
    have hRI : (rs.length : Int) ≤ 2 := by have := HRL.out; omega
    go_wp2_with fail
    go_loopg [22, 23] rs.length (fun n t22 _ wr => ∃ i : Nat, n + i = rs.length ∧ t22 = .int .i64 i ∧ Below w8.heap.size w8 wr)
    case atStart => exact ⟨0, by omega, rfl, Below.refl _ _⟩
    case round =>
      obtain ⟨i, hni, rfl, hb⟩ := hrel
      have HBR := Lib.hid hb
      have HNI := Lib.hid hni
      clear hb hni
      by_cases hlt : i < rs.length
      · have hltI : (i : Int) < (rs.length : Int) := by omega
        obtain ⟨x, hx⟩ : ∃ x, rs[i]? = some x := ⟨_, List.getElem?_eq_getElem hlt⟩
        obtain ⟨im, him, rfl⟩ := HFO.out.at_ i x hx
        obtain ⟨ad, B, cp, rfl, hv, hxr, y1, y2⟩ := (HRA.out.below_ HBR.out).rowE hx
        have hml := (List.getElem?_eq_some_iff.1 him).1
        obtain ⟨ad2, B2, cp2, rfl, y3, hzr⟩ := ((HAD.out.below_ HB8.out).below_ HBR.out).cell2 him
        obtain ⟨K, hK⟩ : ∃ K, H + i - 1 = K := ⟨_, rfl⟩
        rw [hK] at y3 hml
        obtain ⟨M, hM⟩ : ∃ M, H + i = M := ⟨_, rfl⟩
        have hKM : M = K + 1 := by have := HH1.out; omega
        replace y1 : wr.cell? ⟨(ad.add (i * 3)).block, (ad.add (i * 3)).off + 1, none⟩ = some (.int .u64 ((H + i : Nat) : Int)) := y1
        replace y2 : wr.cell? ⟨(ad.add (i * 3)).block, (ad.add (i * 3)).off + 2, none⟩ = some (.slice B 1 cp) := y2
        rw [hM] at y1
        have hSI := Lib.hid (sameone wr.drew B B2 cp cp2 im (Reads.drew hxr) (Reads.drew ((HS8.out.trans (Step.of_below q5 nz HBR.out)).inzE (by omega) hzr)))
        have hL5 : ims.length ≤ 100000 := HLN.out.1
        have hm1 : ¬ (M : Int) < 1 := by omega
        have hm2 : ¬ (ims.length : Int) < (M : Int) := by omega
        have hm3 : (K : Int) < (ims.length : Int) := by omega
        have hm4 : (0 : Int) ≤ (K : Int) := by omega
        have hw1 : IntKind.u64.wrap (ims.length : Int) = (ims.length : Int) := by rw [IntWalk.u64_in _ (by omega)]
        have hw2 : IntKind.u64.wrap ((M : Int) - 1) = (K : Int) := by rw [IntWalk.u64_in _ (by omega)]; omega
        have hi1 : (0 : Int) ≤ (i : Int) := by omega
        by_cases hi0 : i = 0
        · have hj0 : ¬ (0 : Int) < (i : Int) := by omega
          have hj5 : ¬ 0 < i := by omega
          clear hx hv hxr him hzr hK hKM hml hL5 hM hi0
          go_upto_region 40 with (fail)
          refine wp_region_held_drew (S := (fun w' => w'.cell? ⟨(ad.add (i * 3)).block, (ad.add (i * 3)).off + 2, none⟩ = some (.slice B 1 cp) ∧ w'.cell? (ad2.add K) = some (.slice B2 1 cp2))) (by kernel_rfl) ⟨y2, y3⟩ (fun hHeld => ?_)
          refine wpAnyH_take (i := 0) (oi := { dst := some 162, op := Go.Op.move (Go.Operand.tmp 23), type := 38, pos := "more.go:134", after := #[], guard := none }) (v := ?_) rfl (by kernel_rfl) (by kernel_rfl) (by kernel_rfl) (fun _ _ _ h => h) (Or.inl ⟨by rfl, ?_⟩) (by assumption) ?_
          rotate_left
          · (intro w hSw; (try dsimp only at hSw); go_simp; first | done | with_reducible rfl)
          try simp only [Act.put, List.setIfInBounds_toArray, List.set_cons_zero, List.set_cons_succ]
          refine wpAnyH_take (i := 1) (oi := { dst := some 163, op := Go.Op.binOp Go.BinOp.lss 38 (Go.Operand.tmp 162) (Go.Operand.const (Go.Value.int Go.IntKind.u64 1)) 38, type := 4, pos := "more.go:134", after := #[{ on := 0, ground := Go.Ground.data }], guard := none }) (v := ?_) rfl (by kernel_rfl) (by kernel_rfl) (by kernel_rfl) (fun _ _ _ h => h) (Or.inl ⟨by rfl, ?_⟩) (by assumption) ?_
          rotate_left
          · (intro w hSw; (try dsimp only at hSw); go_simp; first | done | with_reducible rfl)
          try simp only [Act.put, List.setIfInBounds_toArray, List.set_cons_zero, List.set_cons_succ]
          refine wpAnyH_take (i := 2) (oi := { dst := some 164, op := Go.Op.move (Go.Operand.tmp 163), type := 4, pos := "more.go:134", after := #[{ on := 1, ground := Go.Ground.data }], guard := none }) (v := ?_) rfl (by kernel_rfl) (by kernel_rfl) (by kernel_rfl) (fun _ _ _ h => h) (Or.inl ⟨by rfl, ?_⟩) (by assumption) ?_
          rotate_left
          · (intro w hSw; (try dsimp only at hSw); go_simp; first | done | with_reducible rfl)
          try simp only [Act.put, List.setIfInBounds_toArray, List.set_cons_zero, List.set_cons_succ]
          refine wpAnyH_take (i := 3) (oi := { dst := some 165, op := Go.Op.move (Go.Operand.tmp 23), type := 38, pos := "more.go:134", after := #[{ on := 2, ground := Go.Ground.guard }], guard := some (2, false) }) (v := ?_) rfl (by kernel_rfl) (by kernel_rfl) (by kernel_rfl) (fun _ _ _ h => h) (Or.inl ⟨by rfl, ?_⟩) (by assumption) ?_
          rotate_left
          · (intro w hSw; (try dsimp only at hSw); go_simp; first | done | with_reducible rfl)
          try simp only [Act.put, List.setIfInBounds_toArray, List.set_cons_zero, List.set_cons_succ]
          refine wpAnyH_take (i := 4) (oi := { dst := some 166, op := Go.Op.move (Go.Operand.tmp 13), type := 40, pos := "more.go:134", after := #[{ on := 2, ground := Go.Ground.guard }], guard := some (2, false) }) (v := ?_) rfl (by kernel_rfl) (by kernel_rfl) (by kernel_rfl) (fun _ _ _ h => h) (Or.inl ⟨by rfl, ?_⟩) (by assumption) ?_
          rotate_left
          · (intro w hSw; (try dsimp only at hSw); go_simp; first | done | with_reducible rfl)
          try simp only [Act.put, List.setIfInBounds_toArray, List.set_cons_zero, List.set_cons_succ]
          refine wpAnyH_take (i := 5) (oi := { dst := some 167, op := Go.Op.call { callee := Go.Callee.builtin Go.Builtin.len, args := #[Go.Operand.tmp 166], argTypes := #[40] }, type := 3, pos := "more.go:134", after := #[{ on := 4, ground := Go.Ground.data }, { on := 2, ground := Go.Ground.guard }], guard := some (2, false) }) (v := ?_) rfl (by kernel_rfl) (by kernel_rfl) (by kernel_rfl) (fun _ _ _ h => h) (Or.inl ⟨by rfl, ?_⟩) (by assumption) ?_
          rotate_left
          · (intro w hSw; (try dsimp only at hSw); go_simp; first | done | with_reducible rfl)
          try simp only [Act.put, List.setIfInBounds_toArray, List.set_cons_zero, List.set_cons_succ]
          refine wpAnyH_take (i := 6) (oi := { dst := some 168, op := Go.Op.convert 3 38 (Go.Operand.tmp 167), type := 38, pos := "more.go:134", after := #[{ on := 5, ground := Go.Ground.data }, { on := 2, ground := Go.Ground.guard }], guard := some (2, false) }) (v := ?_) rfl (by kernel_rfl) (by kernel_rfl) (by kernel_rfl) (fun _ _ _ h => h) (Or.inl ⟨by rfl, ?_⟩) (by assumption) ?_
          rotate_left
          · (intro w hSw; (try dsimp only at hSw); go_simp; first | done | with_reducible rfl)
          try simp only [Act.put, List.setIfInBounds_toArray, List.set_cons_zero, List.set_cons_succ]
          refine wpAnyH_take (i := 7) (oi := { dst := some 169, op := Go.Op.binOp Go.BinOp.gtr 38 (Go.Operand.tmp 165) (Go.Operand.tmp 168) 38, type := 4, pos := "more.go:134", after := #[{ on := 3, ground := Go.Ground.data }, { on := 6, ground := Go.Ground.data }, { on := 2, ground := Go.Ground.guard }], guard := some (2, false) }) (v := ?_) rfl (by kernel_rfl) (by kernel_rfl) (by kernel_rfl) (fun _ _ _ h => h) (Or.inl ⟨by rfl, ?_⟩) (by assumption) ?_
          rotate_left
          · (intro w hSw; (try dsimp only at hSw); go_simp; first | done | with_reducible rfl)
          try simp only [Act.put, List.setIfInBounds_toArray, List.set_cons_zero, List.set_cons_succ]
          refine wpAnyH_take (i := 8) (oi := { dst := some 170, op := Go.Op.pick (Go.Operand.tmp 164) (Go.Operand.const (Go.Value.bool true)) (Go.Operand.tmp 169), type := 4, pos := "more.go:134", after := #[{ on := 2, ground := Go.Ground.data }, { on := 7, ground := Go.Ground.data }], guard := none }) (v := ?_) rfl (by kernel_rfl) (by kernel_rfl) (by kernel_rfl) (fun _ _ _ h => h) (Or.inl ⟨by rfl, ?_⟩) (by assumption) ?_
          rotate_left
          · (intro w hSw; (try dsimp only at hSw); go_simp; first | done | with_reducible rfl)
          try simp only [Act.put, List.setIfInBounds_toArray, List.set_cons_zero, List.set_cons_succ]
          refine wpAnyH_take (i := 9) (oi := { dst := some 171, op := Go.Op.move (Go.Operand.tmp 170), type := 4, pos := "more.go:134", after := #[{ on := 8, ground := Go.Ground.data }, { on := 2, ground := Go.Ground.chain }], guard := none }) (v := ?_) rfl (by kernel_rfl) (by kernel_rfl) (by kernel_rfl) (fun _ _ _ h => h) (Or.inl ⟨by rfl, ?_⟩) (by assumption) ?_
          rotate_left
          · (intro w hSw; (try dsimp only at hSw); go_simp; first | done | with_reducible rfl)
          try simp only [Act.put, List.setIfInBounds_toArray, List.set_cons_zero, List.set_cons_succ]
          refine wpAnyH_take (i := 10) (oi := { dst := some 172, op := Go.Op.move (Go.Operand.tmp 22), type := 3, pos := "more.go:134", after := #[{ on := 9, ground := Go.Ground.guard }], guard := some (9, false) }) (v := ?_) rfl (by kernel_rfl) (by kernel_rfl) (by kernel_rfl) (fun _ _ _ h => h) (Or.inl ⟨by rfl, ?_⟩) (by assumption) ?_
          rotate_left
          · (intro w hSw; (try dsimp only at hSw); go_simp; first | done | with_reducible rfl)
          try simp only [Act.put, List.setIfInBounds_toArray, List.set_cons_zero, List.set_cons_succ]
          refine wpAnyH_take (i := 11) (oi := { dst := some 173, op := Go.Op.binOp Go.BinOp.gtr 3 (Go.Operand.tmp 172) (Go.Operand.const (Go.Value.int Go.IntKind.i64 0)) 3, type := 4, pos := "more.go:134", after := #[{ on := 10, ground := Go.Ground.data }, { on := 9, ground := Go.Ground.guard }], guard := some (9, false) }) (v := ?_) rfl (by kernel_rfl) (by kernel_rfl) (by kernel_rfl) (fun _ _ _ h => h) (Or.inl ⟨by rfl, ?_⟩) (by assumption) ?_
          rotate_left
          · (intro w hSw; (try dsimp only at hSw); go_simp; first | done | with_reducible rfl)
          try simp only [Act.put, List.setIfInBounds_toArray, List.set_cons_zero, List.set_cons_succ]
          refine wpAnyH_take (i := 12) (oi := { dst := some 174, op := Go.Op.move (Go.Operand.tmp 173), type := 4, pos := "more.go:134", after := #[{ on := 11, ground := Go.Ground.data }, { on := 9, ground := Go.Ground.chain }, { on := 9, ground := Go.Ground.guard }], guard := some (9, false) }) (v := ?_) rfl (by kernel_rfl) (by kernel_rfl) (by kernel_rfl) (fun _ _ _ h => h) (Or.inl ⟨by rfl, ?_⟩) (by assumption) ?_
          rotate_left
          · (intro w hSw; (try dsimp only at hSw); go_simp; first | done | with_reducible rfl)
          try simp only [Act.put, List.setIfInBounds_toArray, List.set_cons_zero, List.set_cons_succ]
          refine wpAnyH_take (i := 13) (oi := { dst := some 175, op := Go.Op.move (Go.Operand.tmp 23), type := 38, pos := "more.go:134", after := #[{ on := 12, ground := Go.Ground.guard }], guard := some (12, true) }) (v := undef) rfl (by kernel_rfl) (by kernel_rfl) (by kernel_rfl) (fun _ _ _ h => h) (Or.inr ⟨by rfl, rfl⟩) (by assumption) ?_
          try simp only [Act.put, List.setIfInBounds_toArray, List.set_cons_zero, List.set_cons_succ]
          refine wpAnyH_take (i := 14) (oi := { dst := some 176, op := Go.Op.move (Go.Operand.tmp 20), type := 54, pos := "more.go:134", after := #[{ on := 12, ground := Go.Ground.guard }], guard := some (12, true) }) (v := undef) rfl (by kernel_rfl) (by kernel_rfl) (by kernel_rfl) (fun _ _ _ h => h) (Or.inr ⟨by rfl, rfl⟩) (by assumption) ?_
          try simp only [Act.put, List.setIfInBounds_toArray, List.set_cons_zero, List.set_cons_succ]
          refine wpAnyH_take (i := 15) (oi := { dst := some 177, op := Go.Op.move (Go.Operand.tmp 22), type := 3, pos := "more.go:134", after := #[{ on := 12, ground := Go.Ground.guard }], guard := some (12, true) }) (v := undef) rfl (by kernel_rfl) (by kernel_rfl) (by kernel_rfl) (fun _ _ _ h => h) (Or.inr ⟨by rfl, rfl⟩) (by assumption) ?_
          try simp only [Act.put, List.setIfInBounds_toArray, List.set_cons_zero, List.set_cons_succ]
          refine wpAnyH_take (i := 16) (oi := { dst := some 178, op := Go.Op.binOp Go.BinOp.sub 3 (Go.Operand.tmp 177) (Go.Operand.const (Go.Value.int Go.IntKind.i64 1)) 3, type := 3, pos := "more.go:134", after := #[{ on := 15, ground := Go.Ground.data }, { on := 12, ground := Go.Ground.guard }], guard := some (12, true) }) (v := undef) rfl (by kernel_rfl) (by kernel_rfl) (by kernel_rfl) (fun _ _ _ h => h) (Or.inr ⟨by rfl, rfl⟩) (by assumption) ?_
          try simp only [Act.put, List.setIfInBounds_toArray, List.set_cons_zero, List.set_cons_succ]
          refine wpAnyH_take (i := 17) (oi := { dst := some 179, op := Go.Op.indexAddr 54 (Go.Operand.tmp 176) (Go.Operand.tmp 178), type := 0, pos := "more.go:134", after := #[{ on := 14, ground := Go.Ground.data }, { on := 16, ground := Go.Ground.data }, { on := 12, ground := Go.Ground.guard }], guard := some (12, true) }) (v := undef) rfl (by kernel_rfl) (by kernel_rfl) (by kernel_rfl) (fun _ _ _ h => h) (Or.inr ⟨by rfl, rfl⟩) (by assumption) ?_
          try simp only [Act.put, List.setIfInBounds_toArray, List.set_cons_zero, List.set_cons_succ]
          refine wpAnyH_take (i := 18) (oi := { dst := some 180, op := Go.Op.fieldAddr 58 (Go.Operand.tmp 179) 1, type := 0, pos := "more.go:134", after := #[{ on := 17, ground := Go.Ground.data }, { on := 12, ground := Go.Ground.guard }], guard := some (12, true) }) (v := undef) rfl (by kernel_rfl) (by kernel_rfl) (by kernel_rfl) (fun _ _ _ h => h) (Or.inr ⟨by rfl, rfl⟩) (by assumption) ?_
          try simp only [Act.put, List.setIfInBounds_toArray, List.set_cons_zero, List.set_cons_succ]
          refine wpAnyH_take (i := 19) (oi := { dst := some 181, op := Go.Op.load 38 (Go.Operand.tmp 180), type := 38, pos := "more.go:134", after := #[{ on := 18, ground := Go.Ground.data }, { on := 12, ground := Go.Ground.guard }], guard := some (12, true) }) (v := undef) rfl (by kernel_rfl) (by kernel_rfl) (by kernel_rfl) (fun _ _ _ h => h) (Or.inr ⟨by rfl, rfl⟩) (by assumption) ?_
          try simp only [Act.put, List.setIfInBounds_toArray, List.set_cons_zero, List.set_cons_succ]
          refine wpAnyH_take (i := 20) (oi := { dst := some 182, op := Go.Op.binOp Go.BinOp.add 38 (Go.Operand.tmp 181) (Go.Operand.const (Go.Value.int Go.IntKind.u64 1)) 38, type := 38, pos := "more.go:134", after := #[{ on := 19, ground := Go.Ground.data }, { on := 12, ground := Go.Ground.guard }], guard := some (12, true) }) (v := undef) rfl (by kernel_rfl) (by kernel_rfl) (by kernel_rfl) (fun _ _ _ h => h) (Or.inr ⟨by rfl, rfl⟩) (by assumption) ?_
          try simp only [Act.put, List.setIfInBounds_toArray, List.set_cons_zero, List.set_cons_succ]
          refine wpAnyH_take (i := 21) (oi := { dst := some 183, op := Go.Op.binOp Go.BinOp.neq 38 (Go.Operand.tmp 175) (Go.Operand.tmp 182) 38, type := 4, pos := "more.go:134", after := #[{ on := 13, ground := Go.Ground.data }, { on := 20, ground := Go.Ground.data }, { on := 12, ground := Go.Ground.guard }], guard := some (12, true) }) (v := undef) rfl (by kernel_rfl) (by kernel_rfl) (by kernel_rfl) (fun _ _ _ h => h) (Or.inr ⟨by rfl, rfl⟩) (by assumption) ?_
          try simp only [Act.put, List.setIfInBounds_toArray, List.set_cons_zero, List.set_cons_succ]
          refine wpAnyH_take (i := 22) (oi := { dst := some 184, op := Go.Op.pick (Go.Operand.tmp 174) (Go.Operand.tmp 183) (Go.Operand.const (Go.Value.bool false)), type := 4, pos := "more.go:134", after := #[{ on := 12, ground := Go.Ground.data }, { on := 21, ground := Go.Ground.data }, { on := 9, ground := Go.Ground.guard }], guard := some (9, false) }) (v := ?_) rfl (by kernel_rfl) (by kernel_rfl) (by kernel_rfl) (fun _ _ _ h => h) (Or.inl ⟨by rfl, ?_⟩) (by assumption) ?_
          rotate_left
          · (intro w hSw; (try dsimp only at hSw); go_simp; first | done | with_reducible rfl)
          try simp only [Act.put, List.setIfInBounds_toArray, List.set_cons_zero, List.set_cons_succ]
          refine wpAnyH_take (i := 23) (oi := { dst := some 185, op := Go.Op.pick (Go.Operand.tmp 171) (Go.Operand.const (Go.Value.bool true)) (Go.Operand.tmp 184), type := 4, pos := "more.go:134", after := #[{ on := 9, ground := Go.Ground.data }, { on := 22, ground := Go.Ground.data }], guard := none }) (v := ?_) rfl (by kernel_rfl) (by kernel_rfl) (by kernel_rfl) (fun _ _ _ h => h) (Or.inl ⟨by rfl, ?_⟩) (by assumption) ?_
          rotate_left
          · (intro w hSw; (try dsimp only at hSw); go_simp; first | done | with_reducible rfl)
          try simp only [Act.put, List.setIfInBounds_toArray, List.set_cons_zero, List.set_cons_succ]
          refine wpAnyH_take (i := 24) (oi := { dst := some 186, op := Go.Op.move (Go.Operand.tmp 185), type := 4, pos := "more.go:134", after := #[{ on := 23, ground := Go.Ground.data }, { on := 12, ground := Go.Ground.chain }], guard := none }) (v := ?_) rfl (by kernel_rfl) (by kernel_rfl) (by kernel_rfl) (fun _ _ _ h => h) (Or.inl ⟨by rfl, ?_⟩) (by assumption) ?_
          rotate_left
          · (intro w hSw; (try dsimp only at hSw); go_simp; first | done | with_reducible rfl)
          try simp only [Act.put, List.setIfInBounds_toArray, List.set_cons_zero, List.set_cons_succ]
          refine wpAnyH_take (i := 25) (oi := { dst := some 187, op := Go.Op.move (Go.Operand.tmp 20), type := 54, pos := "more.go:134", after := #[{ on := 24, ground := Go.Ground.guard }], guard := some (24, false) }) (v := ?_) rfl (by kernel_rfl) (by kernel_rfl) (by kernel_rfl) (fun _ _ _ h => h) (Or.inl ⟨by rfl, ?_⟩) (by assumption) ?_
          rotate_left
          · (intro w hSw; (try dsimp only at hSw); go_simp; first | done | with_reducible rfl)
          try simp only [Act.put, List.setIfInBounds_toArray, List.set_cons_zero, List.set_cons_succ]
          refine wpAnyH_take (i := 26) (oi := { dst := some 188, op := Go.Op.move (Go.Operand.tmp 22), type := 3, pos := "more.go:134", after := #[{ on := 24, ground := Go.Ground.guard }], guard := some (24, false) }) (v := ?_) rfl (by kernel_rfl) (by kernel_rfl) (by kernel_rfl) (fun _ _ _ h => h) (Or.inl ⟨by rfl, ?_⟩) (by assumption) ?_
          rotate_left
          · (intro w hSw; (try dsimp only at hSw); go_simp; first | done | with_reducible rfl)
          try simp only [Act.put, List.setIfInBounds_toArray, List.set_cons_zero, List.set_cons_succ]
          refine wpAnyH_take (i := 27) (oi := { dst := some 189, op := Go.Op.indexAddr 54 (Go.Operand.tmp 187) (Go.Operand.tmp 188), type := 0, pos := "more.go:134", after := #[{ on := 25, ground := Go.Ground.data }, { on := 26, ground := Go.Ground.data }, { on := 24, ground := Go.Ground.guard }], guard := some (24, false) }) (v := ?_) rfl (by kernel_rfl) (by kernel_rfl) (by kernel_rfl) (fun _ _ _ h => h) (Or.inl ⟨by rfl, ?_⟩) (by assumption) ?_
          rotate_left
          · (intro w hSw; (try dsimp only at hSw); go_simp; first | done | with_reducible rfl)
          try simp only [Act.put, List.setIfInBounds_toArray, List.set_cons_zero, List.set_cons_succ]
          refine wpAnyH_take (i := 28) (oi := { dst := some 190, op := Go.Op.fieldAddr 58 (Go.Operand.tmp 189) 2, type := 0, pos := "more.go:134", after := #[{ on := 27, ground := Go.Ground.data }, { on := 24, ground := Go.Ground.guard }], guard := some (24, false) }) (v := ?_) rfl (by kernel_rfl) (by kernel_rfl) (by kernel_rfl) (fun _ _ _ h => h) (Or.inl ⟨by rfl, ?_⟩) (by assumption) ?_
          rotate_left
          · (intro w hSw; (try dsimp only at hSw); go_simp; first | done | with_reducible rfl)
          try simp only [Act.put, List.setIfInBounds_toArray, List.set_cons_zero, List.set_cons_succ]
          refine wpAnyH_take (i := 29) (oi := { dst := some 191, op := Go.Op.load 41 (Go.Operand.tmp 190), type := 41, pos := "more.go:134", after := #[{ on := 28, ground := Go.Ground.data }, { on := 24, ground := Go.Ground.guard }], guard := some (24, false) }) (v := ?_) rfl (by kernel_rfl) (by kernel_rfl) (by kernel_rfl) (fun _ _ _ h => h) (Or.inl ⟨by rfl, ?_⟩) (by assumption) ?_
          rotate_left
          · (intro w hSw; (try dsimp only at hSw); go_simp; first | done | with_reducible rfl)
          try simp only [Act.put, List.setIfInBounds_toArray, List.set_cons_zero, List.set_cons_succ]
          refine wpAnyH_take (i := 30) (oi := { dst := some 192, op := Go.Op.move (Go.Operand.tmp 13), type := 40, pos := "more.go:134", after := #[{ on := 24, ground := Go.Ground.guard }], guard := some (24, false) }) (v := ?_) rfl (by kernel_rfl) (by kernel_rfl) (by kernel_rfl) (fun _ _ _ h => h) (Or.inl ⟨by rfl, ?_⟩) (by assumption) ?_
          rotate_left
          · (intro w hSw; (try dsimp only at hSw); go_simp; first | done | with_reducible rfl)
          try simp only [Act.put, List.setIfInBounds_toArray, List.set_cons_zero, List.set_cons_succ]
          refine wpAnyH_take (i := 31) (oi := { dst := some 193, op := Go.Op.move (Go.Operand.tmp 23), type := 38, pos := "more.go:134", after := #[{ on := 24, ground := Go.Ground.guard }], guard := some (24, false) }) (v := ?_) rfl (by kernel_rfl) (by kernel_rfl) (by kernel_rfl) (fun _ _ _ h => h) (Or.inl ⟨by rfl, ?_⟩) (by assumption) ?_
          rotate_left
          · (intro w hSw; (try dsimp only at hSw); go_simp; first | done | with_reducible rfl)
          try simp only [Act.put, List.setIfInBounds_toArray, List.set_cons_zero, List.set_cons_succ]
          refine wpAnyH_take (i := 32) (oi := { dst := some 194, op := Go.Op.binOp Go.BinOp.sub 38 (Go.Operand.tmp 193) (Go.Operand.const (Go.Value.int Go.IntKind.u64 1)) 38, type := 38, pos := "more.go:134", after := #[{ on := 31, ground := Go.Ground.data }, { on := 24, ground := Go.Ground.guard }], guard := some (24, false) }) (v := ?_) rfl (by kernel_rfl) (by kernel_rfl) (by kernel_rfl) (fun _ _ _ h => h) (Or.inl ⟨by rfl, ?_⟩) (by assumption) ?_
          rotate_left
          · (intro w hSw; (try dsimp only at hSw); go_simp; first | done | with_reducible rfl)
          try simp only [Act.put, List.setIfInBounds_toArray, List.set_cons_zero, List.set_cons_succ]
          refine wpAnyH_take (i := 33) (oi := { dst := some 195, op := Go.Op.indexAddr 40 (Go.Operand.tmp 192) (Go.Operand.tmp 194), type := 0, pos := "more.go:134", after := #[{ on := 30, ground := Go.Ground.data }, { on := 32, ground := Go.Ground.data }, { on := 24, ground := Go.Ground.guard }], guard := some (24, false) }) (v := ?_) rfl (by kernel_rfl) (by kernel_rfl) (by kernel_rfl) (fun _ _ _ h => h) (Or.inl ⟨by rfl, ?_⟩) (by assumption) ?_
          rotate_left
          · (intro w hSw; (try dsimp only at hSw); go_simp; first | done | with_reducible rfl)
          try simp only [Act.put, List.setIfInBounds_toArray, List.set_cons_zero, List.set_cons_succ]
          refine wpAnyH_take (i := 34) (oi := { dst := some 196, op := Go.Op.load 41 (Go.Operand.tmp 195), type := 41, pos := "more.go:134", after := #[{ on := 33, ground := Go.Ground.data }, { on := 24, ground := Go.Ground.guard }], guard := some (24, false) }) (v := ?_) rfl (by kernel_rfl) (by kernel_rfl) (by kernel_rfl) (fun _ _ _ h => h) (Or.inl ⟨by rfl, ?_⟩) (by assumption) ?_
          rotate_left
          · (intro w hSw; (try dsimp only at hSw); go_simp; first | done | with_reducible rfl)
          try simp only [Act.put, List.setIfInBounds_toArray, List.set_cons_zero, List.set_cons_succ]
          refine wpAnyH_ready (rs := [35]) (by kernel_rfl) (by simp) ?_
          refine AllReadyH.cons (o := { dst := some 197, op := Go.Op.call { callee := Go.Callee.value (Go.Operand.func 18), args := #[Go.Operand.tmp 191, Go.Operand.tmp 196], argTypes := #[41, 41] }, type := 4, pos := "more.go:134", after := #[{ on := 29, ground := Go.Ground.data }, { on := 34, ground := Go.Ground.data }, { on := 24, ground := Go.Ground.chain }, { on := 24, ground := Go.Ground.guard }], guard := some (24, false) }) rfl (fun K hK => ?_) AllReadyH.nil
          go_simp
          refine hSI.out.mono ?_
          rintro e w1 ⟨rfl, m, hw9⟩
          go_wp2_with fail
          refine hK.out _ _ ⟨y2, y3⟩ (fun hHeld2 => ?_)
          clear hK K hHeld
          have hHeld := hHeld2
          clear hHeld2
          try simp only [Act.put, List.setIfInBounds_toArray, List.set_cons_zero, List.set_cons_succ]
          refine wpAnyH_take (i := 36) (oi := { dst := some 198, op := Go.Op.unOp Go.UnOp.not 4 (Go.Operand.tmp 197), type := 4, pos := "more.go:134", after := #[{ on := 35, ground := Go.Ground.data }, { on := 24, ground := Go.Ground.guard }], guard := some (24, false) }) (v := ?_) rfl (by kernel_rfl) (by kernel_rfl) (by kernel_rfl) (fun _ _ _ h => h) (Or.inl ⟨by rfl, ?_⟩) (by assumption) ?_
          rotate_left
          · (intro w hSw; (try dsimp only at hSw); go_simp; first | done | with_reducible rfl)
          try simp only [Act.put, List.setIfInBounds_toArray, List.set_cons_zero, List.set_cons_succ]
          refine wpAnyH_take (i := 37) (oi := { dst := some 199, op := Go.Op.pick (Go.Operand.tmp 186) (Go.Operand.const (Go.Value.bool true)) (Go.Operand.tmp 198), type := 4, pos := "more.go:134", after := #[{ on := 24, ground := Go.Ground.data }, { on := 36, ground := Go.Ground.data }], guard := none }) (v := ?_) rfl (by kernel_rfl) (by kernel_rfl) (by kernel_rfl) (fun _ _ _ h => h) (Or.inl ⟨by rfl, ?_⟩) (by assumption) ?_
          rotate_left
          · (intro w hSw; (try dsimp only at hSw); go_simp; first | done | with_reducible rfl)
          try simp only [Act.put, List.setIfInBounds_toArray, List.set_cons_zero, List.set_cons_succ]
          refine wpAnyH_done (by kernel_rfl) ?_ _
          go_wp2_with fail
          go_roundg (rs.length - (i + 1))
          case measure => have := HNI.out; omega
          case rel => exact ⟨i + 1, by omega, by go_num, ⟨HBR.out.os, HBR.out.tape, HBR.out.output, HBR.out.size, HBR.out.block⟩⟩
        · obtain ⟨j, hij⟩ : ∃ j, i = j + 1 := ⟨i - 1, by omega⟩
          obtain ⟨x0, hx0⟩ : ∃ x, rs[j]? = some x := ⟨_, List.getElem?_eq_getElem (by omega)⟩
          obtain ⟨im0, him0, rfl⟩ := HFO.out.at_ j x0 hx0
          obtain ⟨ad', B', cp', e', _, _, z1, _⟩ := (HRA.out.below_ HBR.out).rowE hx0
          injection e' with e'
          subst e'
          replace z1 : wr.cell? ⟨(ad.add (j * 3)).block, (ad.add (j * 3)).off + 1, none⟩ = some (.int .u64 ((H + j : Nat) : Int)) := z1
          rw [show H + j = K by omega] at z1
          have hj0 : (0 : Int) < (i : Int) := by omega
          have hj5 : 0 < i := by omega
          have hj1 : (0 : Int) ≤ (j : Int) := by omega
          have hj2 : (j : Int) < (rs.length : Int) := by omega
          have hw3 : IntKind.i64.wrap ((i : Int) - 1) = (j : Int) := by rw [IntWalk.i64_in _ (by omega)]; omega
          have hw4 : IntKind.u64.wrap ((K : Int) + 1) = (M : Int) := by rw [IntWalk.u64_in _ (by omega)]; omega
          clear hx hv hxr him hzr hx0 him0 hK hKM hml hL5 hM hij hi0
          go_upto_region 40 with (fail)
          go_region_held3 (fun w' => w'.cell? ⟨(ad.add (j * 3)).block, (ad.add (j * 3)).off + 1, none⟩ = some (.int .u64 (K : Int)) ∧ w'.cell? ⟨(ad.add (i * 3)).block, (ad.add (i * 3)).off + 2, none⟩ = some (.slice B 1 cp) ∧ w'.cell? (ad2.add K) = some (.slice B2 1 cp2))
            (first | exact ⟨z1, y2, y3⟩ | go_keep)
            (first | (go_at_call 18; ((with_reducible refine hSI.out.mono ?_); rintro e w1 ⟨rfl, m, hw9⟩)))
          go_wp2_with fail
          go_roundg (rs.length - (i + 1))
          case measure => have := HNI.out; omega
          case rel => exact ⟨i + 1, by omega, by go_num, ⟨HBR.out.os, HBR.out.tape, HBR.out.output, HBR.out.size, HBR.out.block⟩⟩
      · have hltI : ¬ (i : Int) < (rs.length : Int) := by omega
        have HTO := Lib.hid (HS8.out.trans (Step.of_below q5 nz HBR.out))
        by_cases hSF : S < F
        · have hSI : (S : Int) < (F : Int) := by omega
          go_wp2_with fail
          refine (alive13_any (o := fun _ => 0) (w := wr) (fun _ _ => rfl)).mono ?_
          rintro e w9 ⟨rfl, o9, hs⟩
          have HB9 := Lib.hid (hs.below (B := wr.heap.size) (fun _ _ h => h rfl) (Nat.le_refl _))
          clear hs
          go_wp2_with fail
          go_ret
          exact ⟨rfl, (HTO.out.trans (Step.of_below q5 nz HB9.out)).below (fun _ _ h => h rfl) (Nat.le_refl _)⟩
        · have hSI : ¬ (S : Int) < (F : Int) := by omega
          have hall := HAL.out (by omega)
          have hHF := HHF.out
          obtain ⟨j, hj⟩ : ∃ j, rs.length = j + 1 := ⟨rs.length - 1, by omega⟩
          go_wp2_with fail
          refine (alive13_any (o := fun _ => 0) (w := wr) (fun _ _ => rfl)).mono ?_
          rintro e w9 ⟨rfl, o9, hs⟩
          have HB9 := Lib.hid (hs.below (B := wr.heap.size) (fun _ _ h => h rfl) (Nat.le_refl _))
          clear hs
          have hrd9 := (HRA.out.below_ HBR.out).below_ HB9.out
          obtain ⟨x0, hx0⟩ : ∃ x, rs[0]? = some x := ⟨_, List.getElem?_eq_getElem (by omega)⟩
          obtain ⟨im0, _, rfl⟩ := HFO.out.at_ 0 x0 hx0
          obtain ⟨ad, B', cp', rfl, _, _, y0, _⟩ := hrd9.rowE hx0
          obtain ⟨x1, hx1⟩ : ∃ x, rs[j]? = some x := ⟨_, List.getElem?_eq_getElem (by omega)⟩
          obtain ⟨im1, _, rfl⟩ := HFO.out.at_ j x1 hx1
          obtain ⟨ad', _, _, e', _, _, z0, _⟩ := hrd9.rowE hx1
          injection e' with e'
          subst e'
          rw [add_zero3] at y0
          replace y0 : w9.cell? ⟨ad.block, ad.off + 1, none⟩ = some (.int .u64 (H : Int)) := y0
          replace z0 : w9.cell? ⟨(ad.add (j * 3)).block, (ad.add (j * 3)).off + 1, none⟩ = some (.int .u64 ((H + j : Nat) : Int)) := z0
          obtain ⟨Z, hZ⟩ : ∃ Z, H + j = Z := ⟨_, rfl⟩
          rw [hZ] at z0
          have h1 : (0 : Int) < (rs.length : Int) := by omega
          have h2 : 0 < rs.length := by omega
          have h3 : (H : Int) ≤ (F : Int) := by omega
          have h4 : (S : Int) ≤ (Z : Int) := by omega
          have h5 : (0 : Int) ≤ (j : Int) := by omega
          have h6 : (j : Int) < (rs.length : Int) := by omega
          have h7 : IntKind.i64.wrap ((rs.length : Int) - 1) = (j : Int) := by rw [IntWalk.i64_in _ (by omega)]; omega
          clear hx0 hx1 hrd9 hZ hj hall hHF hSF
          go_wp2_with fail
          go_ret
          exact ⟨rfl, (HTO.out.trans (Step.of_below q5 nz HB9.out)).below (fun _ _ h => h rfl) (Nat.le_refl _)⟩
end Go.Proofs.YtdmjkklidnmogaaGreatDoor
