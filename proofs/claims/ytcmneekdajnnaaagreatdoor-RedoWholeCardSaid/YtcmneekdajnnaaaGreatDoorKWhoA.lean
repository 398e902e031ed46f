/- RedoWhole: what is found behind a cut is whole, and is done again. -/
import Derived.Test.YtcmneekdajnnaaaGreatDoorKTwinC
namespace Go.Proofs.YtcmneekdajnnaaaGreatDoor
open Go.RowKit

set_option maxRecDepth 100000 in
set_option maxHeartbeats 8000000 in
theorem redoWhole_any (l : List LOp) (vs : List (Value × Value)) (keep again : List Int) (W : World) (A0 A1 A2 : Option Addr) (cap0 cap1 cap2 : Nat) (hrd0 : OpsRd W A0 l vs) (hln0 : l.length ≤ maxLen) (hin : ∀ o ∈ l, o.InB) (hrd1 : Reads W 1 A1 keep.length (intcells keep)) (hln1 : keep.length ≤ maxLen) (hrd2 : Reads W 1 A2 again.length (intcells again)) (hln2 : again.length ≤ maxLen) :
    Calls Tryz.prog 3 #[.slice A0 l.length cap0, .slice A1 keep.length cap1, .slice A2 again.length cap2] W fun e w' => e = .returned (.bool true) ∧ Below W.heap.size W w' := by
  have HR0 := Lib.hid hrd0
  have HR1 := Lib.hid hrd1
  have HR2 := Lib.hid hrd2
  have HIN := Lib.hid hin
  have HL0 := Lib.hid hln0
  have hl1 : (keep.length : Int) ≤ 9223372036854775807 := by unfold maxLen at hln1; omega
  have hl2 : (again.length : Int) ≤ 9223372036854775807 := by unfold maxLen at hln2; omega
  clear hrd0 hrd1 hrd2 hin hln0 hln1 hln2
  go_enter Tryz.func3, Tryz.ntmps3
  go_upto_region 1 with (fail)
  go_wp2_with fail
  refine (light12_any W A0 cap0 l vs HR0.out HL0.out HIN.out).mono ?_
  rintro e w0 ⟨b, rfl, hb4, hb0⟩
  have HS0 := Lib.hid (Step.of_below (fun _ => 0) nz hb0)
  have HF0 := Lib.hid (show Fut (fun _ => 0) w0 from fun _ _ => rfl)
  clear hb0
  cases b with
  | false =>
    go_wp2_with fail
    refine (alive13_any HF0.out).mono ?_
    rintro e w1 ⟨rfl, o1, hs⟩
    go_wp2_with fail
    go_ret
    exact ⟨rfl, (HS0.out.trans hs).below (fun _ _ h => h rfl) (Nat.le_refl _)⟩
  | true =>
  have HLL := Lib.hid (hb4 rfl)
  have hN0 : (l.length : Int) ≤ 60 := by have := HLL.out.1; omega
  clear hb4
  by_cases c1 : (200 : Int) < (keep.length : Int)
  · go_wp2_with fail
    refine (alive13_any HF0.out).mono ?_
    rintro e w1 ⟨rfl, o1, hs⟩
    go_wp2_with fail
    go_ret
    exact ⟨rfl, (HS0.out.trans hs).below (fun _ _ h => h rfl) (Nat.le_refl _)⟩
  by_cases c2 : (100 : Int) < (again.length : Int)
  · go_wp2_with fail
    refine (alive13_any HF0.out).mono ?_
    rintro e w1 ⟨rfl, o1, hs⟩
    go_wp2_with fail
    go_ret
    exact ⟨rfl, (HS0.out.trans hs).below (fun _ _ h => h rfl) (Nat.le_refl _)⟩
  have HK1 := Lib.hid (show keep.length ≤ 200 by omega)
  have HK2 := Lib.hid (show again.length ≤ 100 by omega)
  go_wp2_with fail
  refine (ready_any (cd := 1) (cr := 10) HF0.out (by omega) (by omega)).mono ?_
  rintro e w1 ⟨p, r, rfl, o1, hd, _, hs⟩
  have HV := Lib.hid readyV
  have HO := Lib.hid lv_open
  generalize readyD = D0 at hd HV HO
  generalize D0.table 2 = T2 at HV
  have hf1 := HF0.out.step hs
  have HX := Lib.hid (Keep.new hf1 31 #[.int .i64 2, .int .i64 10, .int .i64 8, .int .i64 4, .int .i64 32])
  have HD := Lib.hid (hd.alloc (.cells #[.int .i64 2, .int .i64 10, .int .i64 8, .int .i64 4, .int .i64 32] 31))
  have HF1 := Lib.hid (hf1.alloc (.cells #[.int .i64 2, .int .i64 10, .int .i64 8, .int .i64 4, .int .i64 32] 31))
  have HS1 := Lib.hid ((HS0.out.trans (hs.mono nz_ready)).alloc (.cells #[.int .i64 2, .int .i64 10, .int .i64 8, .int .i64 4, .int .i64 32] 31))
  clear hd hs hf1 HF0 HS0
  go_upto_region 6 with (fail)
  generalize w1.alloc (.cells #[.int .i64 2, .int .i64 10, .int .i64 8, .int .i64 4, .int .i64 32] 31) = W1 at HX HD HF1 HS1 ⊢
  generalize w1.heap.size = gl at HX ⊢
  obtain ⟨s0, s1, s2, s3, s4⟩ := HX.out.1.five
  go_wp2_with fail
  refine (gopen_any (c := 20) HD.out HV.out.calm.tame (by omega) (by omega) (by omega) HF1.out 1 9 1 rfl (by omega) HV.out.openV.1).mono ?_
  rintro e w2 ⟨q, rfl, o2, hd, hl, hs⟩
  have ht := HV.out.openV.2.calm.tame
  have hlv : Lw [] (D0.lhead lg0 ⟨9, 1, 0⟩).2 lg0 := ⟨HO.out.1, HO.out.2.2, fun i hi => by cases hi⟩
  change DiskAt o2 1 w2 p (D0.lhead lg0 ⟨9, 1, 0⟩).2 at hd
  change LogAt o2 20 w2 q lg0 p at hl
  generalize (D0.lhead lg0 ⟨9, 1, 0⟩).2 = D1 at hd ht hlv
  have HLV := Lib.hid hlv
  have HT2 := Lib.hid ht
  have HD2 := Lib.hid hd
  have HL2 := Lib.hid hl
  have HX2 := Lib.hid (HX.out.step hs (no_six (by omega)))
  have HF2 := Lib.hid (HF1.out.step hs)
  have HS2 := Lib.hid (HS1.out.trans (hs.mono (nz_six 1 (by omega))))
  clear hd hl hs ht hlv HV HO HD HX HF1 HS1 s0 s1 s2 s3 s4
  have HE3 := Lib.hid (Ev5.start HD2.out HL2.out HX2.out HF2.out HS2.out (HT2.out.mono (m := 100) (by omega)))
  have HH3 := Lib.hid HLV.out
  generalize lg0 = ga at HE3 HH3
  clear HD2 HL2 HX2 HF2 HS2 HLV HT2
  go_upto_block 0 with (fail)
  go_cut [6, 13, 14, 15, 16, 17] from 66 (fun _ t13 _ _ _ _ wx => ∃ (ims : List Im) (D : Dk) (g : Lg) (o : Nat → Nat) (k : Nat), k ≤ 2000 ∧ Lw ims D g ∧ Ev5 W p q gl ims D g k t13 o wx)
  case first =>
    go_wp2_with fail
    go_loopg [6, 13, 14, 15, 16, 17] l.length (fun n _ t13 t14 _ _ _ wr => ∃ (i : Nat) (ims : List Im) (D : Dk) (g : Lg) (o : Nat → Nat), n + i = l.length ∧ t14 = .int .i64 i ∧ ims.length ≤ i ∧ Lw ims D g ∧ Ev5 W p q gl ims D g (100 + 30 * i) t13 o wr)
    case atStart => exact ⟨0, [], D1, ga, o2, by omega, rfl, Nat.le_refl _, HH3.out, HE3.out⟩
    case round =>
      obtain ⟨i, ims, D, g, o4, hni, rfl, him, hlw, hev⟩ := hrel
      have HEV := Lib.hid hev
      have HIM := Lib.hid him
      have HNI := Lib.hid hni
      have HNL := Lib.hid (show i ≤ 60 by omega)
      have HLW := Lib.hid hlw
      clear hev him hlw HE3 HH3 hni
      by_cases hlt : i < l.length
      · have hltI : (i : Int) < (l.length : Int) := by omega
        obtain ⟨x, hx⟩ : ∃ x, l[i]? = some x := ⟨_, List.getElem?_eq_getElem hlt⟩
        obtain ⟨B, cp, C, cq, hvs, ⟨hxr, hxc, hxm⟩, _⟩ := HR0.out.at_ hx
        obtain ⟨ad, rfl, hc⟩ := (HR0.out.inz HEV.out.step).row hx hvs
        have HIX := Lib.hid (HIN.out x (List.mem_of_getElem? hx))
        have HLX := Lib.hid ((HLL.out.2 x (List.mem_of_getElem? hx)).1)
        have HXR := Lib.hid hxr
        have HXC := Lib.hid hxc
        have HXM := Lib.hid hxm
        have y0 : wr.cell? (ad.add (i * 12)) = some (.int .i64 x.kind) := hc 0 _ rfl
        have y2 : wr.cell? ⟨(ad.add (i * 12)).block, (ad.add (i * 12)).off + 2, none⟩ = some (.int .u64 x.v) := hc 2 _ rfl
        have y3 : wr.cell? ⟨(ad.add (i * 12)).block, (ad.add (i * 12)).off + 3, none⟩ = some (.slice B x.l.length cp) := hc 3 _ rfl
        have HRX := Lib.hid (fun (o' : Nat → Nat) (w' : World) (hs : Step (fun _ => 0) nz W o' w') => (show ∀ (j : Nat) u, (x.cells (.slice B x.l.length cp) (.slice C x.d.keep.length cq))[j]? = some u → w'.cell? ((ad.add (i * 12)).add j) = some u from by
          obtain ⟨ad', e', hc'⟩ := (HR0.out.inz hs).row hx hvs
          injection e' with e'
          subst e'
          exact hc'))
        clear hx hvs hc hxr hxc hxm
        obtain ⟨A13, cap13, rfl⟩ := HEV.out.add.form
        go_upto_block 1 with (fail)
        go_cut [6, 13, 15, 16, 17] from 66 to 135 (fun _ t13 _ _ _ wx => ∃ (ims' : List Im) (D' : Dk) (g' : Lg) (o' : Nat → Nat), ims'.length ≤ i + 1 ∧ Lw ims' D' g' ∧ Ev5 W p q gl ims' D' g' (100 + 30 * (i + 1)) t13 o' wx)
        case rest =>
          obtain ⟨ims', D', g', o', him', hlw', hev'⟩ := hcut
          have HIM' := Lib.hid him'
          have HEV' := Lib.hid hev'
          have HLW' := Lib.hid hlw'
          clear him' hev' hlw' y0 y2 y3
          go_wp2_with fail
          go_roundg (l.length - (i + 1))
          case measure => have := HNI.out; omega
          case rel => exact ⟨i + 1, ims', D', g', o', by omega, by go_num, HIM'.out, HLW'.out, HEV'.out⟩
        case first =>
          obtain ⟨g1, g2, g3, g4, g5, g6, g7, g8⟩ := HLW.out.1.small
          have HG1 := Lib.hid g1
          have HG2 := Lib.hid g2
          have HG3 := Lib.hid g3
          have HG4 := Lib.hid g4
          have HG5 := Lib.hid g5
          have HG6 := Lib.hid g6
          have HG7 := Lib.hid g7
          have HG8 := Lib.hid g8
          clear g1 g2 g3 g4 g5 g6 g7 g8
          obtain ⟨xk, xn, xv, xl, xd⟩ := x
          simp only at y0 y2 y3
          by_cases k1 : xk = 1
          · subst k1
            have hxlI : (xl.length : Int) ≤ 70 := by have h70 : xl.length ≤ 70 := HLX.out; omega
            have HXW := Lib.hid (HEV.out.step.inzE (by omega) HXR.out)
            go_wp2_with fail
            go_loopg [6, 15] xl.length (fun n _ t15 wx => ∃ k : Nat, n + k = xl.length ∧ t15 = .int .i64 k ∧ (∀ j y, j < k → xl[j]? = some y → y.block ≤ 9) ∧ wx = wr)
            case atStart => exact ⟨0, by omega, rfl, fun j y h => by omega, rfl⟩
            case round =>
              obtain ⟨k, hnk, rfl, hbk, rfl⟩ := hrel
              have HNK := Lib.hid hnk
              have HBK := Lib.hid hbk
              clear hnk hbk
              by_cases hk : k < xl.length
              · have hkI : (k : Int) < (xl.length : Int) := by omega
                obtain ⟨y, hy⟩ : ∃ y, xl[k]? = some y := ⟨_, List.getElem?_eq_getElem hk⟩
                obtain ⟨adI, rfl, v0, _, _⟩ := Reads.imrow HXW.out hy
                have HY := Lib.hid hy
                clear hy
                by_cases h9 : 9 < y.block
                · go_wp2_with fail
                  go_ret
                  exact ⟨rfl, HEV.out.step.below (fun _ _ h => h rfl) (Nat.le_refl _)⟩
                · have HB9 := Lib.hid h9
                  go_wp2_with fail
                  go_roundg (xl.length - (k + 1))
                  case measure => have := HNK.out; omega
                  case rel =>
                    refine ⟨k + 1, by omega, by go_num, fun j z hj hz => ?_, rfl⟩
                    by_cases hjk : j < k
                    · exact HBK.out j z hjk hz
                    · have e : j = k := by omega
                      subst e
                      rw [HY.out] at hz
                      injection hz with hz
                      subst hz
                      have := HB9.out
                      omega
              · have hkI : ¬ (k : Int) < (xl.length : Int) := by omega
                have HBL := Lib.hid (show ∀ i ∈ xl, i.block ≤ 9 from fun i hi => by
                  obtain ⟨j, hj, e⟩ := List.mem_iff_getElem.1 hi
                  exact HBK.out j i (by omega) (by rw [List.getElem?_eq_getElem hj, e]))
                go_wp2_with fail
                have hadd := gadd_any HEV.out.log xl B cp HXW.out (by omega) HXC.out HXM.out (fun j hj => (HIX.out.ims j hj).2.1) (fun j hj => (HIX.out.ims j hj).1) HG1.out HG2.out (by have := HG3.out; omega) (by have := HG4.out; omega) HG5.out (by omega) HEV.out.fut
                refine hadd.mono ?_
                clear hadd
                rintro e w4 ⟨rfl, o5, hl, hs⟩
                have hev := HEV.out.call hl hs
                rcases HLW.out.add xl (fun j hj => (HIX.out.ims j hj).1) HBL.out (by have := HIM.out; have := HNL.out; omega) with ⟨hE, hst⟩ | ⟨im, e, hE, hst⟩
                · obtain ⟨E, hEE⟩ : ∃ E, g.addE xl = E := ⟨_, rfl⟩
                  rw [hEE] at hE ⊢
                  have t1 : (E == 0) = false := by simp [hE]
                  have HE4 := Lib.hid (hev.more (k' := 100 + 30 * (i + 1)) (by omega))
                  have HST := Lib.hid hst
                  clear hev hst hl hs y0 y2 y3 hEE
                  go_wp2_with fail
                  go_meet
                  case rel => exact ⟨ims, D, g.addG xl, o5, by have := HIM.out; omega, HST.out, HE4.out⟩
                · subst e
                  rw [hE]
                  have c3 : w4.cell? ⟨(ad.add (i * 12)).block, (ad.add (i * 12)).off + 3, none⟩ = some (.slice B 1 cp) := HRX.out o5 w4 hev.step 3 _ rfl
                  obtain ⟨avs, a1, a2, a3⟩ := hev.add
                  obtain ⟨i0, hi0, hz0, hz1, hz2⟩ := info_parts info_imsl
                  have HOW := Lib.hid (a2.alloc (.cells #[.slice B 1 cp] 40))
                  have HEA := Lib.hid ((hev.alloc (.cells #[.slice B 1 cp] 40)).more (k' := 100 + 30 * (i + 1)) (by omega))
                  have HA1 := Lib.hid a1
                  have HA3 := Lib.hid a3
                  have HST := Lib.hid hst
                  clear hev hst hl hs y0 y2 y3 a1 a2 a3 hE
                  go_wp2_with (at_builtin; refine wpList_append_S _ rfl (.tmp 111) (.tmp 117) 39 rfl 40 i0 _ 1 24 Tryz.underlying39 hi0 hz0 hz1 hz2 rfl (by omega) (.slice A13 ims.length cap13) ims.length avs rfl HOW.out (some ⟨w4.heap.size, 0, none⟩) 1 1 [.slice B 1 cp] rfl (Reads.newAt w4 40 1 1 _ #[.slice B 1 cp] _ rfl rfl rfl) (by simp [Value.oneCell']) (by have := HIM.out; have := HNL.out; unfold maxLen; omega) (by have := HIM.out; have := HNL.out; omega) ?_; intro v7 w7 hown7 hst7 hgr7 hat7)
                  have HEP := Lib.hid (HEA.out.push HXR.out hst7 avs HA1.out HA3.out hown7)
                  clear hown7 hst7 hgr7 hat7
                  go_wp2_with fail
                  go_meet
                  case rel => exact ⟨ims ++ [im], D, g.addG [im], _, by have := HIM.out; rw [List.length_append, List.length_singleton]; omega, HST.out, HEP.out⟩
          · have b1 : (xk == 1) = false := by simp [k1]
            by_cases k2 : xk = 2
            · subst k2
              go_wp2_with fail
              refine (gwrite_any HEV.out.log HEV.out.disk HEV.out.tame (by have := HNL.out; omega) (by omega) (by omega) HEV.out.fut HG6.out (by have := HG3.out; omega) HG8.out).mono ?_
              rintro e w4 ⟨rfl, o5, hd, hl, ht, hs⟩
              have HE4 := Lib.hid ((HEV.out.both hd hl ht hs).more (k' := 100 + 30 * (i + 1)) (by have := HG3.out; omega))
              have HST := Lib.hid HLW.out.write
              clear hd hl ht hs y0 y2 y3
              go_wp2_with fail
              go_meet
              case rel => exact ⟨ims, _, _, o5, by have := HIM.out; omega, HST.out, HE4.out⟩
            · have b2 : (xk == 2) = false := by simp [k2]
              by_cases k3 : xk = 3
              · subst k3
                go_wp2_with fail
                refine (gsync_any HEV.out.log HEV.out.disk HEV.out.tame (by have := HNL.out; omega) (by omega) (by omega) HEV.out.fut HG6.out (by have := HG3.out; omega) HG8.out).mono ?_
                rintro e w4 ⟨rfl, o5, hd, hl, ht, hs⟩
                have HE4 := Lib.hid ((HEV.out.both hd hl ht hs).more (k' := 100 + 30 * (i + 1)) (by have := HG3.out; omega))
                have HST := Lib.hid HLW.out.sync
                clear hd hl ht hs y0 y2 y3
                go_wp2_with fail
                go_meet
                case rel => exact ⟨ims, _, _, o5, by have := HIM.out; omega, HST.out, HE4.out⟩
              · have b3 : (xk == 3) = false := by simp [k3]
                by_cases k4 : xk = 4
                · subst k4
                  go_wp2_with fail
                  refine (gfree_any HEV.out.log HEV.out.disk HEV.out.tame (by have := HNL.out; omega) (by omega) (by omega) HG1.out (by have := HG3.out; omega) HG7.out xv HIX.out.v).mono ?_
                  rintro e w4 ⟨rfl, o5, hd, hl, ht, hs⟩
                  have HE4 := Lib.hid ((HEV.out.both hd hl ht hs).more (k' := 100 + 30 * (i + 1)) (by omega))
                  have HST := Lib.hid (HLW.out.free xv)
                  clear hd hl ht hs y0 y2 y3
                  go_wp2_with fail
                  go_meet
                  case rel => exact ⟨ims, _, _, o5, by have := HIM.out; omega, HST.out, HE4.out⟩
                · have b4 : (xk == 4) = false := by simp [k4]
                  have HE4 := Lib.hid (HEV.out.more (k' := 100 + 30 * (i + 1)) (by omega))
                  go_wp2_with fail
                  go_meet
                  case rel => exact ⟨ims, D, g, o4, by have := HIM.out; omega, HLW.out, HE4.out⟩
      · have hltI : ¬ (i : Int) < (l.length : Int) := by omega
        go_wp2_with fail
        go_meet
        case rel => exact ⟨ims, D, g, o4, 100 + 30 * i, by have := HNL.out; omega, HLW.out, HEV.out⟩
  case rest =>
    obtain ⟨ims, D, g, o4, k, hk, hlw, hev⟩ := hcut
    obtain ⟨A13, cap13, rfl⟩ := hev.add.form
    have HEV := Lib.hid hev
    have HLW := Lib.hid hlw.1
    have HWH := Lib.hid (whole_law hlw.1 hlw.2.2 keep again)
    have HK := Lib.hid hk
    clear hev hlw hk HE3 HH3
    go_wp2_with fail
    refine (gfirst_any HEV.out.log).mono ?_
    rintro e w9 ⟨rfl, rfl⟩
    go_wp2_with fail
    refine (gsynced_any HEV.out.log).mono ?_
    rintro e w9 ⟨rfl, rfl⟩
    go_wp2_with fail
    refine (gwritten_any HEV.out.log).mono ?_
    rintro e w9 ⟨rfl, rfl⟩
    have hfb : g.first ≤ 1000000 ∧ g.synced ≤ 1000000 ∧ 1 ≤ g.first ∧ ims.length ≤ 100000 ∧ g.written ≤ ims.length := by
      have := HLW.out.few60
      have := HLW.out.f1
      have := HLW.out.f2
      have := HLW.out.sw
      have := HLW.out.wn
      omega
    obtain ⟨F, hF⟩ : ∃ F, g.first = F := ⟨_, rfl⟩
    obtain ⟨S, hS⟩ : ∃ S, g.synced = S := ⟨_, rfl⟩
    obtain ⟨T, hT⟩ : ∃ T, g.written = T := ⟨_, rfl⟩
    have hwh := HWH.out
    rw [hF, hS, hT] at hwh hfb ⊢
    have HFB := Lib.hid hfb
    clear hfb hF hS hT HWH
    go_wp2_with fail
    refine (dcut_any HEV.out.disk keep A1 cap1 (fun o' w' hs => (HEV.out.step.trans (hs.mono nz_cutC)).inzE (by omega) HR1.out) (by have := HK1.out; unfold maxLen; omega)).mono ?_
    rintro e v4 ⟨rfl, q4, hd, hs⟩
    have HE4 := Lib.hid (HEV.out.disk_ hd (HEV.out.tame.cut keep) (hs.mono (cutC_six 1)))
    clear hd hs HEV
    go_wp2_with fail
    refine (drestore_any HE4.out.disk (by rw [HE4.out.tame.sectors]; omega)).mono ?_
    rintro e v5 ⟨rfl, q5, hd, hs⟩
    have he5 := HE4.out.disk_ hd (show Tame ((D.cut keep).2).restore k from ⟨HE4.out.tame.sectors, HE4.out.tame.waits, HE4.out.tame.seq, HE4.out.tame.wf⟩) (hs.mono (fun x hx => by unfold only at hx; unfold six; omega))
    clear hd hs HE4
    generalize ((D.cut keep).2).restore = E at he5 hwh
    have HE6 := Lib.hid he5
    have HWH := Lib.hid hwh
    clear he5 hwh
    obtain ⟨s0, s1, s2, s3, s4⟩ := HE6.out.lay.1.five
    go_wp2_with fail
    have hscan := escan_any HE6.out.disk (by rw [HE6.out.tame.sectors]; omega) HE6.out.tame.wf 1
    rw [HWH.out.scanE] at hscan
    refine hscan.mono ?_
    clear hscan s0 s1 s2 s3 s4
    rintro e w8 ⟨A8, cap8, rfl, o8, vs8, hra⟩
    obtain ⟨o9, hs9, hrc⟩ := hra.mine q5
    obtain ⟨rs, hrs⟩ : ∃ rs, E.scan 1 = rs := ⟨_, rfl⟩
    rw [hrs] at hrc ⊢
    have HRS := Lib.hid hrs
    have HRC := Lib.hid hrc
    have HE7 := Lib.hid (HE6.out.idle hs9)
    have HRL := Lib.hid (show rs.length ≤ 2 by rw [← hrs]; exact HWH.out.few)
    have HAT := Lib.hid (show ∀ (n : Nat) r, rs[n]? = some r → ∃ i, ims[F + n - 1]? = some i ∧ r = rcI (F + n) i ∧ F + n ≤ T by rw [← hrs]; exact HWH.out.at_)
    have HMU := Lib.hid (show S < F + rs.length by rw [← hrs]; exact HWH.out.much)
    clear hra hs9 hrc hrs HE6
    have hRI : (rs.length : Int) ≤ 2 := by have := HRL.out; omega
    go_upto_block 5 with (fail)
    go_cut [6, 23, 24] from 155 (fun _ _ _ wx => Below w8.heap.size w8 wx)
    case first =>
      go_wp2_with fail
      go_loopg [6, 23, 24] rs.length (fun n _ t23 _ wr => ∃ i : Nat, n + i = rs.length ∧ t23 = .int .i64 i ∧ Below w8.heap.size w8 wr)
      case atStart => exact ⟨0, by omega, rfl, Below.refl _ _⟩
      case round =>
        obtain ⟨i, hni, rfl, hb⟩ := hrel
        have HBR := Lib.hid hb
        have HNI := Lib.hid hni
        clear hb hni
        by_cases hlt : i < rs.length
        · have hltI : (i : Int) < (rs.length : Int) := by omega
          obtain ⟨x, hx⟩ : ∃ x, rs[i]? = some x := ⟨_, List.getElem?_eq_getElem hlt⟩
          obtain ⟨im, him, rfl, hle⟩ := HAT.out i x hx
          obtain ⟨ad, B, cp, rfl, hv, hxr, y1, y2⟩ := (HRC.out.rd.below_ HBR.out).rowE hx
          have hml := (List.getElem?_eq_some_iff.1 him).1
          obtain ⟨ad2, B2, cp2, rfl, y3, hzr⟩ := (HE7.out.add.below_ HBR.out).cell2 him
          obtain ⟨K, hK⟩ : ∃ K, F + i - 1 = K := ⟨_, rfl⟩
          rw [hK] at y3 hml
          obtain ⟨M, hM⟩ : ∃ M, F + i = M := ⟨_, rfl⟩
          have hFB := HFB.out
          have hKM : M = K + 1 := by omega
          replace y1 : wr.cell? ⟨(ad.add (i * 3)).block, (ad.add (i * 3)).off + 1, none⟩ = some (.int .u64 ((F + i : Nat) : Int)) := y1
          replace y2 : wr.cell? ⟨(ad.add (i * 3)).block, (ad.add (i * 3)).off + 2, none⟩ = some (.slice B 1 cp) := y2
          rw [hM] at y1
          have hSI := Lib.hid (sameone wr.drew B B2 cp cp2 im (Reads.drew hxr) (Reads.drew ((HE7.out.step.trans (Step.of_below o9 nz HBR.out)).inzE (by omega) hzr)))
          have hm2 : ¬ (T : Int) < (M : Int) := by omega
          have hm3 : (K : Int) < (ims.length : Int) := by omega
          have hm4 : (0 : Int) ≤ (K : Int) := by omega
          have hi1 : (0 : Int) ≤ (i : Int) := by omega
          have hw1 : IntKind.u64.wrap (i : Int) = (i : Int) := by rw [IntWalk.u64_in _ (by omega)]
          have hw3 : IntKind.u64.wrap ((F : Int) + (i : Int)) = (M : Int) := by rw [IntWalk.u64_in _ (by omega)]; omega
          have hw2 : IntKind.u64.wrap ((M : Int) - 1) = (K : Int) := by rw [IntWalk.u64_in _ (by omega)]; omega
          clear hx hv hxr him hzr hK hKM hml hFB hM hle
          go_upto_region 39 with (fail)
          go_region_held3 (fun w' => w'.cell? ⟨(ad.add (i * 3)).block, (ad.add (i * 3)).off + 2, none⟩ = some (.slice B 1 cp) ∧ w'.cell? (ad2.add K) = some (.slice B2 1 cp2))
            (first | exact ⟨y2, y3⟩ | go_keep)
            (first | (go_at_call 18; ((with_reducible refine hSI.out.mono ?_); rintro e w1 ⟨rfl, m, hw9⟩)))
          go_wp2_with fail
          go_roundg (rs.length - (i + 1))
          case measure => have := HNI.out; omega
          case rel => exact ⟨i + 1, by omega, by go_num, ⟨HBR.out.os, HBR.out.tape, HBR.out.output, HBR.out.size, HBR.out.block⟩⟩
        · have hltI : ¬ (i : Int) < (rs.length : Int) := by omega
          go_wp2_with fail
          go_meet
          case rel => exact HBR.out
    case rest =>
      have HBC := Lib.hid hcut
      clear hcut
      obtain ⟨hfit, hpl⟩ := rcs_fit HLW.out.fine HAT.out HRL.out
      have HFIT := Lib.hid hfit
      have HPL := Lib.hid hpl
      clear hfit hpl
      obtain ⟨f1, f2, f3, f4, f5⟩ := HFB.out
      obtain ⟨X, hX⟩ : ∃ X, F + rs.length = X := ⟨_, rfl⟩
      obtain ⟨Y, hY⟩ : ∃ Y, S + 1 = Y := ⟨_, rfl⟩
      have hx1 : IntKind.u64.wrap (rs.length : Int) = (rs.length : Int) := by rw [IntWalk.u64_in _ (by omega)]
      have hx2 : IntKind.u64.wrap ((F : Int) + (rs.length : Int)) = (X : Int) := by rw [IntWalk.u64_in _ (by omega)]; omega
      have hx3 : IntKind.u64.wrap ((S : Int) + 1) = (Y : Int) := by rw [IntWalk.u64_in _ (by omega)]; omega
      have hx4 : ¬ (X : Int) < (Y : Int) := by have := HMU.out; omega
      have hs8 : Step o9 (fun _ => False) w8 o9 wc := Step.of_below o9 _ HBC.out
      have he8 := HE7.out.idle hs8
      have HE8 := Lib.hid (show Ev6 W p gl E k (.slice A8 rs.length cap8) rs vs8 o9 wc from ⟨he8.disk, he8.lay, HRC.out.step hs8 id id, he8.fut, he8.step, he8.tame⟩)
      clear hX hY f1 f2 f3 f4 f5 hs8 he8 HE7 HRC
      go_wp2_with fail
      refine (dtwin_any HE8.out.disk (by have := HE8.out.tame.waits; have := HK.out; omega)).mono ?_
      rintro e v9 ⟨t, rfl, o10, hd, hs⟩
      have HE9 := Lib.hid (show Ev6 W t gl E k (.slice A8 rs.length cap8) rs vs8 o10 v9 from ⟨hd, HE8.out.lay.step hs id, HE8.out.recs.step hs id id, HE8.out.fut.step hs, HE8.out.step.trans (hs.mono (fun _ h => h.elim)), HE8.out.tame⟩)
      clear hd hs HE8
      go_wp2_with fail
      refine (dadmit_calm HE9.out.disk ((2 : Nat) : Int) 50).mono ?_
      rintro e v10 ⟨rfl, o11, hd, hs⟩
      rw [HWH.out.admit]
      have HEA := Lib.hid (HE9.out.disk_ hd (HE9.out.tame.admit _ _) hs)
      clear hd hs HE9
      obtain ⟨l2, hl2⟩ : ∃ l2, planOf rs = l2 := ⟨_, rfl⟩
      have hwa := HWH.out.want
      have hru := HWH.out.runE
      have hld := HWH.out.loads
      rw [HRS.out, hl2] at hwa hru hld
      have hpl := HPL.out
      rw [hl2] at hpl
      have HEB := Lib.hid HEA.out.drew
      generalize (E.admit ((2 : Nat) : Int) 50).2 = EA at hru hld HEA HEB
      have hpn := eplan_any o11 31 rs vs8 A8 cap8 v10.drew HEB.out.recs.rd HFIT.out.1 HFIT.out.2
      have hpn2 := Lib.hid (fun o (w : World) (h : RecsRd w A8 rs vs8) => eplan_any o 31 rs vs8 A8 cap8 w h HFIT.out.1 HFIT.out.2)
      rw [hl2] at hpn hpn2
      have HPN := Lib.hid hpn
      have HWA := Lib.hid hwa
      have HRU := Lib.hid hru
      have HLD := Lib.hid hld
      have HPL2 := Lib.hid hpl
      clear hpn hwa hru hld hpl HWH HFIT HPL
      go_upto_region 46 with (fail)
      go_cut [26, 27] from 208 (fun _ _ wx => ∃ o12, Ev6 W t gl (applyR EA 2 50 l2).D (k + 2 * l2.length) (.slice A8 rs.length cap8) rs vs8 o12 wx)
      case first => -- @APPLY
        have HAP := Lib.hid (show ∀ (o5 : Nat → Nat) (w5 : World) (A9 : Option Addr) (cap9 : Nat), Ev6 W t gl EA k (.slice A8 rs.length cap8) rs vs8 o5 w5 → OwnS o5 31 w5 46 3 (.slice A9 l2.length cap9) l2.length (imcells l2) → Calls Tryz.prog 21 #[.pointer (some ⟨t, 0, none⟩), .agg #[.int .i64 2, .int .i64 10, .int .i64 8, .int .i64 4, .int .i64 32], .int .i64 2, .int .u64 50, .slice A9 l2.length cap9] w5 fun r w' => r = .returned (.tuple #[.int .i64 (applyR EA 2 50 l2).n, .int .i64 (applyR EA 2 50 l2).e]) ∧ ∃ o', DiskAt o' 1 w' t (applyR EA 2 50 l2).D ∧ Tame (applyR EA 2 50 l2).D (k + 2 * l2.length) ∧ Step o5 (six 1) w5 o' w' from
          fun o5 w5 A9 cap9 he5 how5 => eapply_any he5.disk he5.tame (by have := HK.out; omega) (by omega) he5.fut (by unfold six; omega) l2 A9 cap9 how5 (by have := HPL2.out; omega) (fun i hi => ⟨by have := (HWA.out.ok i hi).1.2.2; unfold maxLen; omega, (HWA.out.ok i hi).2.1⟩) 2 50)
        have z5 := HEB.out.lay.1.five
        go_region_held3 (fun w' => w'.cell? ⟨gl, 0, none⟩ = some (.int .i64 2) ∧ w'.cell? ⟨gl, 1, none⟩ = some (.int .i64 10) ∧ w'.cell? ⟨gl, 2, none⟩ = some (.int .i64 8) ∧ w'.cell? ⟨gl, 3, none⟩ = some (.int .i64 4) ∧ w'.cell? ⟨gl, 4, none⟩ = some (.int .i64 32))
          (first | exact z5 | exact he5.lay.1.five | exact he6.lay.1.five | go_keep)
          (first | (go_at_call 22; ((with_reducible refine HPN.out.mono ?_); rintro e5 w5 ⟨A9, cap9, rfl, how5, hb5⟩; have hs5 : Step o11 (fun _ => False) v10.drew (band o11 v10.drew.heap.size w5.heap.size 31) w5 := Step.of_below_band o11 _ 31 hb5; have he5 := HEB.out.idle hs5)) | (go_at_call 21; ((with_reducible refine (HAP.out _ _ A9 cap9 he5 how5).mono ?_); rintro e6 w6 ⟨rfl, o12, hd6, ht6, hs6⟩; have he6 := he5.disk_ hd6 ht6 hs6)))
        have HE12 := Lib.hid he6
        clear he5 he6 hd6 ht6 hs6 hs5 hb5 how5 z5 HEA HEB HPN
        go_wp2_with fail
        go_meet
        case rel => exact ⟨_, HE12.out⟩
      case rest =>
        obtain ⟨o12, he12⟩ := hcut
        have HE12 := Lib.hid he12
        have hru := HRU.out
        have hld := HLD.out
        change (runR ((applyR EA 2 50 l2).D.cut again).2.restore 1 9 ((2 : Nat) : Int) 50).e = 0 at hru
        change ∀ i ∈ l2, ∃ y : Im, (runR ((applyR EA 2 50 l2).D.cut again).2.restore 1 9 ((2 : Nat) : Int) 50).D.load i.block = (y, 0) ∧ (y = i ∨ i.ver = 0) at hld
        generalize (applyR EA 2 50 l2).D = ED at HE12 hru hld
        have HRU2 := Lib.hid hru
        have HLD2 := Lib.hid hld
        clear he12 hru hld HRU HLD HEA HEB HPN
        go_wp2_with fail
        refine (dcut_any HE12.out.disk again A2 cap2 (fun o' w' hs => (HE12.out.step.trans (hs.mono nz_cutC)).inzE (by omega) HR2.out) (by have := HK2.out; unfold maxLen; omega)).mono ?_
        rintro e v11 ⟨rfl, o13, hd, hs⟩
        have HE13 := Lib.hid (HE12.out.disk_ hd (HE12.out.tame.cut again) (hs.mono (cutC_six 1)))
        clear hd hs HE12
        go_wp2_with fail
        refine (drestore_any HE13.out.disk (by rw [HE13.out.tame.sectors]; omega)).mono ?_
        rintro e v12 ⟨rfl, o14, hd, hs⟩
        have he14 := HE13.out.disk_ hd (show Tame ((ED.cut again).2).restore (k + 2 * l2.length) from ⟨HE13.out.tame.sectors, HE13.out.tame.waits, HE13.out.tame.seq, HE13.out.tame.wf⟩) (hs.mono (fun x hx => by unfold only at hx; unfold six; omega))
        have hru := HRU2.out
        have hld := HLD2.out
        generalize ((ED.cut again).2).restore = EC at he14 hru hld
        have HE14 := Lib.hid he14
        clear hd hs he14 HE13 HRU2 HLD2
        obtain ⟨s0, s1, s2, s3, s4⟩ := HE14.out.lay.1.five
        go_wp2_with fail
        have hrun := erun_any HE14.out.disk HE14.out.tame (by have := HK.out; have := HPL2.out; omega) (by omega) HE14.out.fut 1 9 ((2 : Nat) : Int) 50
        generalize runR EC 1 9 ((2 : Nat) : Int) 50 = R at hrun hru hld
        obtain ⟨rn, re, rD⟩ := R
        simp only at hru hld
        subst hru
        refine hrun.mono ?_
        clear hrun
        rintro e v13 ⟨rfl, o15, hd, ht, hs⟩
        have HE15 := Lib.hid (HE14.out.disk_ hd ht hs)
        have HLD := Lib.hid hld
        clear hd ht hs hld HE14 s0 s1 s2 s3 s4
        go_wp2_with fail
        refine (hpn2.out o15 v13 HE15.out.recs.rd).mono ?_
        rintro e v14 ⟨A9, cap9, rfl, how, hb⟩
        have hs16 : Step o15 (fun _ => False) v13 (band o15 v13.heap.size v14.heap.size 31) v14 := Step.of_below_band o15 _ 31 hb
        generalize band o15 v13.heap.size v14.heap.size 31 = o16 at how hs16
        have he16 := HE15.out.idle hs16
        have HE3 := Lib.hid (show Ev3 W t gl rD (.slice A9 l2.length cap9) l2 o16 v14 from ⟨he16.disk, how, he16.lay, he16.fut, he16.step⟩)
        have HT2 := Lib.hid he16.tame
        have hl2I : (l2.length : Int) ≤ 9223372036854775807 := by have := HPL2.out; omega
        clear how hb hs16 he16 HE15
        go_wp2_with fail
        go_loopw [6, 29] (fun _ t29 wr => ∃ (k2 : Nat) (o : Nat → Nat), k2 ≤ l2.length ∧ t29 = .int .i64 k2 ∧ Ev3 W t gl rD (.slice A9 l2.length cap9) l2 o wr) (fun _ t29 _ => l2.length - (intOf t29).toNat)
        case atStart => exact ⟨0, o16, by omega, rfl, HE3.out⟩
        case round =>
          obtain ⟨k2, o5, hk, rfl, hev⟩ := hrel
          have HEV := Lib.hid hev
          clear hev HE3
          by_cases hkt : k2 < l2.length
          · have hktI : (k2 : Int) < (l2.length : Int) := by omega
            obtain ⟨x, hx⟩ : ∃ x, l2[k2]? = some x := ⟨_, List.getElem?_eq_getElem hkt⟩
            obtain ⟨y, hy1, hy2⟩ := HLD.out x (List.mem_of_getElem? hx)
            have hb9 := (HWA.out.ok x (List.mem_of_getElem? hx)).2.2
            have HXI := Lib.hid hx
            obtain ⟨ad, rfl, y0, y1, y2⟩ := (Reads.of_own HEV.out.own.1).imrow hx
            clear hx
            obtain ⟨xb, xv, xd⟩ := x
            obtain ⟨yb, yv, yd⟩ := y
            simp only at y0 y1 y2 hy1 hb9
            have HY1 := Lib.hid hy1
            have HY2 := Lib.hid hy2
            have h9 : ¬ 9 < xb := by omega
            have HKL := Lib.hid (show ∀ W5, Below wr.heap.size wr W5 → Calls Tryz.prog 24 #[.pointer (some ⟨t, 0, none⟩), .agg #[.int .i64 2, .int .i64 10, .int .i64 8, .int .i64 4, .int .i64 32], .int .i64 xb] W5 fun e w' => e = .returned (.tuple #[.agg #[.int .i64 yb, .int .u64 yv, .string yd], .int .i64 0]) ∧ Below W5.heap.size W5 w' from fun W5 hb => by
              have h9 := kload_any (HEV.out.disk.below_ hb) (by rw [HT2.out.sectors]; omega) HT2.out.wf xb
              rw [HY1.out] at h9
              exact h9)
            have HY0 := Lib.hid y0
            clear hy1 hy2 hb9
            go_upto_region 58 with (fail)
            go_cut [30, 31] from 228 to 268 (fun t30 t31 wx => ∃ (X : Nat) (o6 : Nat → Nat), t30 = .pointer (some ⟨X, 0, none⟩) ∧ t31 = .int .i64 0 ∧ Ev3 W t gl rD (.slice (some ad) l2.length cap9) l2 o6 wx ∧ Blk wx X 46 #[.int .i64 yb, .int .u64 yv, .string yd])
            case first =>
              obtain ⟨s0, s1, s2, s3, s4⟩ := HEV.out.lay.1.five
              have dn0 := World.new_ne wr _ s0
              have dn1 := World.new_ne wr _ s1
              have dn2 := World.new_ne wr _ s2
              have dn3 := World.new_ne wr _ s3
              have dn4 := World.new_ne wr _ s4
              have dn5 := World.new_ne wr _ y0
              clear y1 y2
              go_region_held3 (fun w' => (w'.cell? ⟨gl, 0, none⟩ = some (.int .i64 2) ∧ w'.cell? ⟨gl, 1, none⟩ = some (.int .i64 10) ∧ w'.cell? ⟨gl, 2, none⟩ = some (.int .i64 8) ∧ w'.cell? ⟨gl, 3, none⟩ = some (.int .i64 4) ∧ w'.cell? ⟨gl, 4, none⟩ = some (.int .i64 32)) ∧ w'.cell? (ad.add (k2 * 3)) = some (.int .i64 xb))
                (first | exact ⟨⟨s0, s1, s2, s3, s4⟩, y0⟩ | exact ⟨hz5, hy5⟩ | go_keep)
                (first | (go_at_call 24; ((with_reducible refine (HKL.out _ (by first | exact (Below.refl _ _).drew | exact ((Below.refl _ _).alloc (Nat.le_refl _) _).drew)).mono ?_); rintro e w5 ⟨rfl, hb5⟩; have hbw : Below wr.heap.size wr w5 := (by first | exact undrew hb5 | exact early_below hb5); have hz5 := (HEV.out.below_ hbw).lay.1.five; have hy5 := (hbw.cell (World.block_lt_of_cell? wr _ HY0.out)).trans HY0.out; first | (have hx5 := new_row3 wr w5 hb5; obtain ⟨⟨x0, x1, x2⟩, g0, g1, g2⟩ := hx5) | skip)))
              · have HW := Lib.hid (ev_late HEV.out hb5 #[.int .i64 yb, .int .u64 yv, .string yd])
                clear s0 s1 s2 s3 s4 dn0 dn1 dn2 dn3 dn4 dn5 hz5 hy5 hb5 hbw HY0 y0
                go_wp2_with fail
                go_meet
                case rel => exact ⟨_, HW.out.choose, rfl, rfl, HW.out.choose_spec⟩
              · have HW := Lib.hid (ev_early HEV.out hb5 (.int .i64 yb) (.int .u64 yv) (.string yd))
                clear s0 s1 s2 s3 s4 dn0 dn1 dn2 dn3 dn4 dn5 hz5 hy5 hb5 hbw HY0 y0
                clear x0 x1 x2 g0 g1 g2
                go_wp2_with fail
                go_meet
                case rel => exact ⟨_, HW.out.choose, rfl, rfl, HW.out.choose_spec⟩
            case rest =>
              obtain ⟨X, o6, rfl, rfl, hev, hbx⟩ := hcut
              have HE6 := Lib.hid hev
              obtain ⟨b0, b1, b2⟩ := hbx.three
              obtain ⟨ad2, hA2, c0, c1, c2⟩ := (Reads.of_own hev.own.1).imrow HXI.out
              injection hA2 with hA2
              subst hA2
              simp only at c0 c1 c2
              clear hev hbx y0 y1 y2
              by_cases e : (⟨yb, yv, yd⟩ : Im) = ⟨xb, xv, xd⟩
              · injection e with e1 e2 e3
                subst e1 e2 e3
                go_upto_region 59 with (fail)
                refine wp_region_held_drew (S := (fun w' => (w'.cell? ⟨X, 0, none⟩ = some (.int .i64 yb) ∧ w'.cell? ⟨X, 1, none⟩ = some (.int .u64 yv) ∧ w'.cell? ⟨X, 2, none⟩ = some (.string yd)) ∧ w'.cell? (ad.add (k2 * 3)) = some (.int .i64 yb) ∧ w'.cell? ⟨(ad.add (k2 * 3)).block, (ad.add (k2 * 3)).off + 1, none⟩ = some (.int .u64 yv) ∧ w'.cell? ⟨(ad.add (k2 * 3)).block, (ad.add (k2 * 3)).off + 2, none⟩ = some (.string yd))) (by kernel_rfl) ⟨⟨b0, b1, b2⟩, c0, c1, c2⟩ (fun hHeld => ?_)
                refine wpAnyH_take (i := 0) (oi := { dst := some 251, op := Go.Op.move (Go.Operand.tmp 31), type := 35, pos := "law.go:234", after := #[], guard := none }) (v := ?_) rfl (by kernel_rfl) (by kernel_rfl) (by kernel_rfl) (fun _ _ _ h => h) (Or.inl ⟨by rfl, ?_⟩) (by assumption) ?_
                rotate_left
                · (intro w hSw; (try dsimp only at hSw); go_simp; first | done | with_reducible rfl)
                try simp only [Act.put, List.setIfInBounds_toArray, List.set_cons_zero, List.set_cons_succ]
                refine wpAnyH_take (i := 1) (oi := { dst := some 252, op := Go.Op.binOp Go.BinOp.neq 35 (Go.Operand.tmp 251) (Go.Operand.const (Go.Value.int Go.IntKind.i64 0)) 35, type := 4, pos := "law.go:234", after := #[{ on := 0, ground := Go.Ground.data }], guard := none }) (v := ?_) rfl (by kernel_rfl) (by kernel_rfl) (by kernel_rfl) (fun _ _ _ h => h) (Or.inl ⟨by rfl, ?_⟩) (by assumption) ?_
                rotate_left
                · (intro w hSw; (try dsimp only at hSw); go_simp; first | done | with_reducible rfl)
                try simp only [Act.put, List.setIfInBounds_toArray, List.set_cons_zero, List.set_cons_succ]
                refine wpAnyH_take (i := 2) (oi := { dst := some 253, op := Go.Op.move (Go.Operand.tmp 252), type := 4, pos := "law.go:234", after := #[{ on := 1, ground := Go.Ground.data }], guard := none }) (v := ?_) rfl (by kernel_rfl) (by kernel_rfl) (by kernel_rfl) (fun _ _ _ h => h) (Or.inl ⟨by rfl, ?_⟩) (by assumption) ?_
                rotate_left
                · (intro w hSw; (try dsimp only at hSw); go_simp; first | done | with_reducible rfl)
                try simp only [Act.put, List.setIfInBounds_toArray, List.set_cons_zero, List.set_cons_succ]
                refine wpAnyH_take (i := 3) (oi := { dst := some 254, op := Go.Op.load 46 (Go.Operand.tmp 30), type := 46, pos := "law.go:234", after := #[{ on := 2, ground := Go.Ground.guard }], guard := some (2, false) }) (v := ?_) rfl (by kernel_rfl) (by kernel_rfl) (by kernel_rfl) (fun _ _ _ h => h) (Or.inl ⟨by rfl, ?_⟩) (by assumption) ?_
                rotate_left
                · (intro w hSw; (try dsimp only at hSw); go_simp; first | done | with_reducible rfl)
                try simp only [Act.put, List.setIfInBounds_toArray, List.set_cons_zero, List.set_cons_succ]
                refine wpAnyH_take (i := 4) (oi := { dst := some 255, op := Go.Op.move (Go.Operand.tmp 28), type := 40, pos := "law.go:234", after := #[{ on := 2, ground := Go.Ground.guard }], guard := some (2, false) }) (v := ?_) rfl (by kernel_rfl) (by kernel_rfl) (by kernel_rfl) (fun _ _ _ h => h) (Or.inl ⟨by rfl, ?_⟩) (by assumption) ?_
                rotate_left
                · (intro w hSw; (try dsimp only at hSw); go_simp; first | done | with_reducible rfl)
                try simp only [Act.put, List.setIfInBounds_toArray, List.set_cons_zero, List.set_cons_succ]
                refine wpAnyH_take (i := 5) (oi := { dst := some 256, op := Go.Op.move (Go.Operand.tmp 29), type := 3, pos := "law.go:234", after := #[{ on := 2, ground := Go.Ground.guard }], guard := some (2, false) }) (v := ?_) rfl (by kernel_rfl) (by kernel_rfl) (by kernel_rfl) (fun _ _ _ h => h) (Or.inl ⟨by rfl, ?_⟩) (by assumption) ?_
                rotate_left
                · (intro w hSw; (try dsimp only at hSw); go_simp; first | done | with_reducible rfl)
                try simp only [Act.put, List.setIfInBounds_toArray, List.set_cons_zero, List.set_cons_succ]
                refine wpAnyH_take (i := 6) (oi := { dst := some 257, op := Go.Op.indexAddr 40 (Go.Operand.tmp 255) (Go.Operand.tmp 256), type := 0, pos := "law.go:234", after := #[{ on := 4, ground := Go.Ground.data }, { on := 5, ground := Go.Ground.data }, { on := 2, ground := Go.Ground.guard }], guard := some (2, false) }) (v := ?_) rfl (by kernel_rfl) (by kernel_rfl) (by kernel_rfl) (fun _ _ _ h => h) (Or.inl ⟨by rfl, ?_⟩) (by assumption) ?_
                rotate_left
                · (intro w hSw; (try dsimp only at hSw); go_simp; first | done | with_reducible rfl)
                try simp only [Act.put, List.setIfInBounds_toArray, List.set_cons_zero, List.set_cons_succ]
                refine wpAnyH_take (i := 7) (oi := { dst := some 258, op := Go.Op.load 46 (Go.Operand.tmp 257), type := 46, pos := "law.go:234", after := #[{ on := 6, ground := Go.Ground.data }, { on := 2, ground := Go.Ground.guard }], guard := some (2, false) }) (v := ?_) rfl (by kernel_rfl) (by kernel_rfl) (by kernel_rfl) (fun _ _ _ h => h) (Or.inl ⟨by rfl, ?_⟩) (by assumption) ?_
                rotate_left
                · (intro w hSw; (try dsimp only at hSw); go_simp; first | done | with_reducible rfl)
                try simp only [Act.put, List.setIfInBounds_toArray, List.set_cons_zero, List.set_cons_succ]
                refine wpAnyH_take (i := 8) (oi := { dst := some 259, op := Go.Op.binOp Go.BinOp.neq 46 (Go.Operand.tmp 254) (Go.Operand.tmp 258) 46, type := 4, pos := "law.go:234", after := #[{ on := 3, ground := Go.Ground.data }, { on := 7, ground := Go.Ground.data }, { on := 2, ground := Go.Ground.guard }], guard := some (2, false) }) (v := ?_) rfl (by kernel_rfl) (by kernel_rfl) (by kernel_rfl) (fun _ _ _ h => h) (Or.inl ⟨by rfl, ?_⟩) (by assumption) ?_
                rotate_left
                · (intro w hSw; (try dsimp only at hSw); go_simp; first | done | with_reducible rfl)
                try simp only [Act.put, List.setIfInBounds_toArray, List.set_cons_zero, List.set_cons_succ]
                refine wpAnyH_take (i := 9) (oi := { dst := some 260, op := Go.Op.move (Go.Operand.tmp 259), type := 4, pos := "law.go:234", after := #[{ on := 8, ground := Go.Ground.data }, { on := 2, ground := Go.Ground.chain }, { on := 2, ground := Go.Ground.guard }], guard := some (2, false) }) (v := ?_) rfl (by kernel_rfl) (by kernel_rfl) (by kernel_rfl) (fun _ _ _ h => h) (Or.inl ⟨by rfl, ?_⟩) (by assumption) ?_
                rotate_left
                · (intro w hSw; (try dsimp only at hSw); go_simp; first | done | with_reducible rfl)
                try simp only [Act.put, List.setIfInBounds_toArray, List.set_cons_zero, List.set_cons_succ]
                refine wpAnyH_take (i := 10) (oi := { dst := some 261, op := Go.Op.move (Go.Operand.tmp 28), type := 40, pos := "law.go:234", after := #[{ on := 9, ground := Go.Ground.guard }], guard := some (9, true) }) (v := undef) rfl (by kernel_rfl) (by kernel_rfl) (by kernel_rfl) (fun _ _ _ h => h) (Or.inr ⟨by rfl, rfl⟩) (by assumption) ?_
                try simp only [Act.put, List.setIfInBounds_toArray, List.set_cons_zero, List.set_cons_succ]
                refine wpAnyH_take (i := 11) (oi := { dst := some 262, op := Go.Op.move (Go.Operand.tmp 29), type := 3, pos := "law.go:234", after := #[{ on := 9, ground := Go.Ground.guard }], guard := some (9, true) }) (v := undef) rfl (by kernel_rfl) (by kernel_rfl) (by kernel_rfl) (fun _ _ _ h => h) (Or.inr ⟨by rfl, rfl⟩) (by assumption) ?_
                try simp only [Act.put, List.setIfInBounds_toArray, List.set_cons_zero, List.set_cons_succ]
                refine wpAnyH_take (i := 12) (oi := { dst := some 263, op := Go.Op.indexAddr 40 (Go.Operand.tmp 261) (Go.Operand.tmp 262), type := 0, pos := "law.go:234", after := #[{ on := 10, ground := Go.Ground.data }, { on := 11, ground := Go.Ground.data }, { on := 9, ground := Go.Ground.guard }], guard := some (9, true) }) (v := undef) rfl (by kernel_rfl) (by kernel_rfl) (by kernel_rfl) (fun _ _ _ h => h) (Or.inr ⟨by rfl, rfl⟩) (by assumption) ?_
                try simp only [Act.put, List.setIfInBounds_toArray, List.set_cons_zero, List.set_cons_succ]
                refine wpAnyH_take (i := 13) (oi := { dst := some 264, op := Go.Op.fieldAddr 46 (Go.Operand.tmp 263) 1, type := 0, pos := "law.go:234", after := #[{ on := 12, ground := Go.Ground.data }, { on := 9, ground := Go.Ground.guard }], guard := some (9, true) }) (v := undef) rfl (by kernel_rfl) (by kernel_rfl) (by kernel_rfl) (fun _ _ _ h => h) (Or.inr ⟨by rfl, rfl⟩) (by assumption) ?_
                try simp only [Act.put, List.setIfInBounds_toArray, List.set_cons_zero, List.set_cons_succ]
                refine wpAnyH_take (i := 14) (oi := { dst := some 265, op := Go.Op.load 38 (Go.Operand.tmp 264), type := 38, pos := "law.go:234", after := #[{ on := 13, ground := Go.Ground.data }, { on := 9, ground := Go.Ground.guard }], guard := some (9, true) }) (v := undef) rfl (by kernel_rfl) (by kernel_rfl) (by kernel_rfl) (fun _ _ _ h => h) (Or.inr ⟨by rfl, rfl⟩) (by assumption) ?_
                try simp only [Act.put, List.setIfInBounds_toArray, List.set_cons_zero, List.set_cons_succ]
                refine wpAnyH_take (i := 15) (oi := { dst := some 266, op := Go.Op.binOp Go.BinOp.gtr 38 (Go.Operand.tmp 265) (Go.Operand.const (Go.Value.int Go.IntKind.u64 0)) 38, type := 4, pos := "law.go:234", after := #[{ on := 14, ground := Go.Ground.data }, { on := 9, ground := Go.Ground.guard }], guard := some (9, true) }) (v := undef) rfl (by kernel_rfl) (by kernel_rfl) (by kernel_rfl) (fun _ _ _ h => h) (Or.inr ⟨by rfl, rfl⟩) (by assumption) ?_
                try simp only [Act.put, List.setIfInBounds_toArray, List.set_cons_zero, List.set_cons_succ]
                refine wpAnyH_take (i := 16) (oi := { dst := some 267, op := Go.Op.pick (Go.Operand.tmp 260) (Go.Operand.tmp 266) (Go.Operand.const (Go.Value.bool false)), type := 4, pos := "law.go:234", after := #[{ on := 9, ground := Go.Ground.data }, { on := 15, ground := Go.Ground.data }, { on := 2, ground := Go.Ground.guard }], guard := some (2, false) }) (v := ?_) rfl (by kernel_rfl) (by kernel_rfl) (by kernel_rfl) (fun _ _ _ h => h) (Or.inl ⟨by rfl, ?_⟩) (by assumption) ?_
                rotate_left
                · (intro w hSw; (try dsimp only at hSw); go_simp; first | done | with_reducible rfl)
                try simp only [Act.put, List.setIfInBounds_toArray, List.set_cons_zero, List.set_cons_succ]
                refine wpAnyH_take (i := 17) (oi := { dst := some 268, op := Go.Op.pick (Go.Operand.tmp 253) (Go.Operand.const (Go.Value.bool true)) (Go.Operand.tmp 267), type := 4, pos := "law.go:234", after := #[{ on := 2, ground := Go.Ground.data }, { on := 16, ground := Go.Ground.data }], guard := none }) (v := ?_) rfl (by kernel_rfl) (by kernel_rfl) (by kernel_rfl) (fun _ _ _ h => h) (Or.inl ⟨by rfl, ?_⟩) (by assumption) ?_
                rotate_left
                · (intro w hSw; (try dsimp only at hSw); go_simp; first | done | with_reducible rfl)
                try simp only [Act.put, List.setIfInBounds_toArray, List.set_cons_zero, List.set_cons_succ]
                refine wpAnyH_done (by kernel_rfl) ?_ _
                go_wp2_with fail
                go_roundw
                case rel => exact ⟨k2 + 1, o6, by omega, by go_num, HE6.out.below_ ⟨rfl, rfl, rfl, Nat.le_refl _, fun _ _ => rfl⟩⟩
                case measure => simp [intOf]; omega
              · have hv0 : xv = 0 := HY2.out.resolve_left e
                subst hv0
                by_cases q1 : yb = xb
                · subst q1
                  by_cases q2 : yv = 0
                  · subst q2
                    have q3 : ¬ yd = xd := fun h => e (by rw [h])
                    have q3c : ¬ yd.toList = xd.toList := fun h => q3 (bytes_inj h)
                    have q3b : (yd.toList == xd.toList) = false := by simp [q3c]
                    clear e
                    go_upto_region 59 with (fail)
                    go_quiet (fail)
                    go_wp2_with fail
                    go_roundw
                    case rel => exact ⟨k2 + 1, o6, by omega, by go_num, HE6.out.below_ ⟨rfl, rfl, rfl, Nat.le_refl _, fun _ _ => rfl⟩⟩
                    case measure => simp [intOf]; omega
                  · have q2I : ¬ (yv : Int) = 0 := by omega
                    have q2b : ((yv : Int) == 0) = false := by simp; omega
                    clear e
                    go_upto_region 59 with (fail)
                    go_quiet (fail)
                    go_wp2_with fail
                    go_roundw
                    case rel => exact ⟨k2 + 1, o6, by omega, by go_num, HE6.out.below_ ⟨rfl, rfl, rfl, Nat.le_refl _, fun _ _ => rfl⟩⟩
                    case measure => simp [intOf]; omega
                · have q1b : (yb == xb) = false := by simp [q1]
                  clear e
                  go_upto_region 59 with (fail)
                  go_quiet (fail)
                  go_wp2_with fail
                  go_roundw
                  case rel => exact ⟨k2 + 1, o6, by omega, by go_num, HE6.out.below_ ⟨rfl, rfl, rfl, Nat.le_refl _, fun _ _ => rfl⟩⟩
                  case measure => simp [intOf]; omega
          · have hktI : ¬ (k2 : Int) < (l2.length : Int) := by omega
            go_wp2_with fail
            refine (alive13_any HEV.out.fut).mono ?_
            rintro e w9 ⟨rfl, o9, hs⟩
            have HS9 := Lib.hid (HEV.out.step.trans hs)
            clear hs
            go_wp2_with fail
            go_ret
            exact ⟨rfl, HS9.out.below (fun _ _ h => h rfl) (Nat.le_refl _)⟩
end Go.Proofs.YtcmneekdajnnaaaGreatDoor
