/- The document's Apply (not armed), walked. -/
import Derived.Test.YtkhieofknglknaaGreatDoorKRefS
import Derived.Test.YtkhieofknglknaaGreatDoorKSimQ
namespace Go.Proofs.YtkhieofknglknaaGreatDoor
open Go.RowKit

section
variable {o : Nat → Nat} {c p k : Nat} {w : World} {R : RF}
set_option maxRecDepth 100000 in
set_option maxHeartbeats 16000000 in
theorem refapply_calm (h : RFAt o c w p R) (hm : Mild R k) (hk : k ≤ 50000) (hc : 1 ≤ c) (hf : Fut o w) (l : List Im) (A : Option Addr) (cap : Nat) (hrd : ∀ o' w', Step o (logL c) w o' w' → Reads w' 3 A l.length (imcells l)) (hl : l.length ≤ 1000) (hib : ∀ x ∈ l, x.ver < 18446744073709551616 ∧ -9223372036854775808 ≤ x.block ∧ x.block ≤ 9223372036854775807) (node : Int) (epoch : Nat) :
    Calls Tryz.prog 13 #[.pointer (some ⟨p, 0, none⟩), .agg #[.int .i64 2, .int .i64 10, .int .i64 8, .int .i64 4, .int .i64 32], .int .i64 node, .int .u64 (epoch : Int), .slice A l.length cap] w fun r w' => r = .returned (.tuple #[.int .i64 (applyF R node epoch l).n, .int .i64 (applyF R node epoch l).e]) ∧ ∃ o', RFAt o' c w' p (applyF R node epoch l).R ∧ Step o (logL c) w o' w' := by
  have HA0 := Lib.hid (show ApS o c w o (w.alloc (.cells #[.int .i64 2, .int .i64 10, .int .i64 8, .int .i64 4, .int .i64 32] 34)) p w.heap.size R from
    ⟨h.alloc _, (Step.refl o (logL c) w).alloc _, Keep.new hf _ _, hf.alloc _⟩)
  have HRD := Lib.hid hrd
  have HM := Lib.hid hm
  have HK := Lib.hid hk
  have HC := Lib.hid hc
  have HL := Lib.hid hl
  have HIB := Lib.hid hib
  have hlI : (l.length : Int) ≤ 1000 := by omega
  have HAR := Lib.hid (show applyF R node epoch l = if (applyGoF node epoch l 0 R).e ≠ 0 then applyGoF node epoch l 0 R else if (applyGoF node epoch l 0 R).n = 0 then applyGoF node epoch l 0 R
    else if ((applyGoF node epoch l 0 R).R.barrier node epoch).1 ≠ 0 then ⟨0, ((applyGoF node epoch l 0 R).R.barrier node epoch).1, ((applyGoF node epoch l 0 R).R.barrier node epoch).2⟩
    else ⟨(applyGoF node epoch l 0 R).n, 0, ((applyGoF node epoch l 0 R).R.barrier node epoch).2⟩ from rfl)
  generalize applyF R node epoch l = S at HAR ⊢
  obtain ⟨G, hG⟩ : ∃ G, applyGoF node epoch l 0 R = G := ⟨_, rfl⟩
  rw [hG] at HAR
  have HG := Lib.hid (show G = applyGoF node epoch (l.drop 0) 0 R from hG.symm)
  clear h hm hk hc hf hrd hl hib hG
  go_enter Tryz.func13, Tryz.ntmps13
  go_wp2_with fail
  generalize w.alloc (.cells #[.int .i64 2, .int .i64 10, .int .i64 8, .int .i64 4, .int .i64 32] 34) = W at HA0 ⊢
  generalize w.heap.size = gs at HA0 ⊢
  go_loopw [12, 13] (fun t12 t13 wr => ∃ (j n : Nat) (R1 : RF) (o1 : Nat → Nat), j ≤ l.length ∧ n ≤ j ∧ t12 = .int .i64 n ∧ t13 = .int .i64 j ∧ ApS o c w o1 wr p gs R1 ∧ Mild R1 (k + 2 * j) ∧ G = applyGoF node epoch (l.drop j) n R1) (fun _ t13 _ => l.length - (intOf t13).toNat)
  case atStart => exact ⟨0, 0, R, o, by omega, by omega, rfl, rfl, HA0.out, HM.out, HG.out⟩
  case round =>
    obtain ⟨j, n, R1, o1, hj, hn, rfl, rfl, hap, hmi, hg⟩ := hrel
    have HA1 := Lib.hid hap
    have HM1 := Lib.hid hmi
    have HG1 := Lib.hid hg
    have HNJ := Lib.hid hn
    clear hap hmi hg hn
    by_cases hlt : j < l.length
    · have hltI : (j : Int) < (l.length : Int) := by omega
      have HJL := Lib.hid hlt
      obtain ⟨x, hx⟩ : ∃ x, l[j]? = some x := ⟨_, List.getElem?_eq_getElem hlt⟩
      have HDR := Lib.hid (show l.drop j = x :: l.drop (j + 1) by obtain ⟨hk, e⟩ := List.getElem?_eq_some_iff.1 hx; rw [← e]; exact List.drop_eq_getElem_cons hk)
      have HXB := Lib.hid (HIB.out x (List.mem_of_getElem? hx))
      have HRW := Lib.hid (fun (o9 : Nat → Nat) (W9 : World) (hs : Step o (logL c) w o9 W9) => (HRD.out o9 W9 hs).imrow hx)
      obtain ⟨ad, rfl, y0, y1, y2⟩ := (HRD.out o1 wr HA1.out.st).imrow hx
      obtain ⟨g0, g1, g2, g3, g4⟩ := HA1.out.sh.1.five
      have HKL := Lib.hid (fun (W5 : World) (hb : ApS o c w o1 W5 p gs R1) => (show Calls Tryz.prog 43 #[.pointer (some ⟨p, 0, none⟩), .agg #[.int .i64 2, .int .i64 10, .int .i64 8, .int .i64 4, .int .i64 32], .int .i64 x.block] W5 fun e w' => e = .returned (.tuple #[(R1.load x.block).1.agg, .int .i64 (R1.load x.block).2]) ∧ Below W5.heap.size W5 w' from by
        obtain ⟨kv, h1, _⟩ := hb.rf
        exact rfload_any h1 x.block HXB.out.2 (by have := HM1.out.ws; have := HK.out; have := HL.out; omega) HM1.out.wf HM1.out.room))
      have HRC := Lib.hid (show G = if (R1.load x.block).2 ≠ 0 ∧ tornE (R1.load x.block).2 = false then ⟨0, (R1.load x.block).2, R1⟩
        else if tornE (R1.load x.block).2 = false ∧ x.ver ≤ (R1.load x.block).1.ver then applyGoF node epoch (l.drop (j + 1)) n R1
        else if (R1.store node epoch x).1 ≠ 0 then ⟨0, (R1.store node epoch x).1, (R1.store node epoch x).2⟩
        else applyGoF node epoch (l.drop (j + 1)) (n + 1) (R1.store node epoch x).2 by rw [HG1.out, HDR.out]; rfl)
      clear HG1 hx
      obtain ⟨Z, hZ⟩ : ∃ Z, R1.load x.block = Z := ⟨_, rfl⟩
      obtain ⟨⟨wb, wv, wd⟩, e⟩ := Z
      rw [hZ] at HRC HKL
      clear hZ
      unfold Im.agg at HKL
      simp only at HRC HKL
      go_upto_region 5 with (fail)
      go_cut [14, 15] from 24 to 34 (fun t14 t15 wx => ∃ X : Nat, t14 = .pointer (some ⟨X, 0, none⟩) ∧ t15 = .int .i64 e ∧ ApS o c w o1 wx p gs R1 ∧ Blk wx X 72 #[.int .i64 wb, .int .u64 wv, .string wd])
      case first =>
        have dn0 := World.new_ne wr _ g0
        have dn1 := World.new_ne wr _ g1
        have dn2 := World.new_ne wr _ g2
        have dn3 := World.new_ne wr _ g3
        have dn4 := World.new_ne wr _ g4
        have dn5 := World.new_ne wr _ y0
        clear y1 y2
        have HY0 := Lib.hid y0
        go_region_held3 (fun w' => (w'.cell? ⟨gs, 0, none⟩ = some (.int .i64 2) ∧ w'.cell? ⟨gs, 1, none⟩ = some (.int .i64 10) ∧ w'.cell? ⟨gs, 2, none⟩ = some (.int .i64 8) ∧ w'.cell? ⟨gs, 3, none⟩ = some (.int .i64 4) ∧ w'.cell? ⟨gs, 4, none⟩ = some (.int .i64 32)) ∧ w'.cell? (ad.add (j * 3)) = some (.int .i64 x.block))
          (first | exact ⟨⟨g0, g1, g2, g3, g4⟩, y0⟩ | exact ⟨hz5, hy5⟩ | go_keep)
          (first | (go_at_call 43; ((with_reducible refine (HKL.out _ (by first | exact HA1.out.drew | exact (HA1.out.alloc _).drew)).mono ?_); rintro e9 w5 ⟨rfl, hb5⟩; have hbw : Below wr.heap.size wr w5 := (by first | exact undrewS hb5 | exact early_belowS hb5); have hz5 := (HA1.out.below_ hbw).sh.1.five; have hy5 := (hbw.cell (World.block_lt_of_cell? wr _ HY0.out)).trans HY0.out; first | (have hx5 := new_row3S wr w5 hb5; obtain ⟨⟨x0, x1, x2⟩, f0, f1, f2⟩ := hx5) | skip)))
        · have HW := Lib.hid (aps_late HA1.out hb5 #[.int .i64 wb, .int .u64 wv, .string wd])
          clear g0 g1 g2 g3 g4 dn0 dn1 dn2 dn3 dn4 dn5 hz5 hy5 hb5 hbw HY0 y0
          go_wp2_with fail
          go_meet
          case rel => exact ⟨_, rfl, rfl, HW.out⟩
        · have HW := Lib.hid (aps_early HA1.out HC.out hb5 (.int .i64 wb) (.int .u64 wv) (.string wd))
          clear g0 g1 g2 g3 g4 dn0 dn1 dn2 dn3 dn4 dn5 hz5 hy5 hb5 hbw HY0 y0
          clear x0 x1 x2 f0 f1 f2
          go_wp2_with fail
          go_meet
          case rel => exact ⟨_, rfl, rfl, HW.out⟩
      case rest =>
        obtain ⟨X, rfl, rfl, ha2, hbx⟩ := hcut
        have HA2 := Lib.hid ha2
        have HBX := Lib.hid hbx
        obtain ⟨ad2, had2, y0', y1', y2'⟩ := HRW.out o1 _ ha2.st
        injection had2 with had2
        subst had2
        obtain ⟨u0, u1, u2⟩ := hbx.three
        clear ha2 hbx HKL g0 g1 g2 g3 g4 y0 y1 y2
        by_cases c0 : e = 0
        · subst c0
          by_cases c1 : x.ver ≤ wv
          · have c1I : ¬ (wv : Int) < (x.ver : Int) := by omega
            have HR2 := Lib.hid (show G = applyGoF node epoch (l.drop (j + 1)) n R1 by rw [HRC.out]; simp [tornE, c1])
            clear c1
            go_upto_region 9 with (fail)
            go_quiet (fail)
            go_wp2_with fail
            go_roundw
            case rel => exact ⟨j + 1, n, R1, o1, by have := HJL.out; omega, by have := HNJ.out; omega, rfl, by go_num, HA2.out.drewN _, HM1.out.mono (by omega), HR2.out⟩
            case measure => have := HJL.out; simp [intOf]; omega
          · have c1I : (wv : Int) < (x.ver : Int) := by omega
            have HR2 := Lib.hid (show G = if (R1.store node epoch x).1 ≠ 0 then ⟨0, (R1.store node epoch x).1, (R1.store node epoch x).2⟩ else applyGoF node epoch (l.drop (j + 1)) (n + 1) (R1.store node epoch x).2 by rw [HRC.out]; simp [tornE, c1])
            clear c1
            go_upto_region 9 with (fail)
            go_quiet (fail)
            have ha3 := HA2.out.drewN nq
            generalize wc.drewN nq = W3 at ha3 ⊢
            have HA3 := Lib.hid ha3
            clear ha3 u0 u1 u2 y0' y1' y2'
            obtain ⟨g0, g1, g2, g3, g4⟩ := HA3.out.sh.1.five
            obtain ⟨ad3, had3, z0, z1, z2⟩ := HRW.out o1 _ HA3.out.st
            injection had3 with had3
            subst had3
            have HFS := Lib.hid (rfstore_calm HA3.out.drew.rf node epoch x HXB.out.2 HXB.out.1 HM1.out.armed HM1.out.room (by have := HM1.out.ws; have := HK.out; have := HL.out; have := HJL.out; omega))
            have HM2 := Lib.hid ((HM1.out.store node epoch x).mono (m := k + 2 * (j + 1)) (by omega))
            unfold Im.agg at HFS
            go_upto_region 10 with (fail)
            go_region_held3 (fun w' => (w'.cell? ⟨gs, 0, none⟩ = some (.int .i64 2) ∧ w'.cell? ⟨gs, 1, none⟩ = some (.int .i64 10) ∧ w'.cell? ⟨gs, 2, none⟩ = some (.int .i64 8) ∧ w'.cell? ⟨gs, 3, none⟩ = some (.int .i64 4) ∧ w'.cell? ⟨gs, 4, none⟩ = some (.int .i64 32)) ∧ w'.cell? (ad.add (j * 3)) = some (.int .i64 x.block) ∧ w'.cell? ⟨(ad.add (j * 3)).block, (ad.add (j * 3)).off + 1, none⟩ = some (.int .u64 x.ver) ∧ w'.cell? ⟨(ad.add (j * 3)).block, (ad.add (j * 3)).off + 2, none⟩ = some (.string x.data))
              (first | exact ⟨⟨g0, g1, g2, g3, g4⟩, z0, z1, z2⟩ | exact hz6 | go_keep)
              (first | (go_at_call 44; ((with_reducible refine HFS.out.mono ?_); rintro r9 w6 ⟨rfl, o6, h6, s6⟩; have ha6 := HA3.out.drew.next HC.out h6 s6; have hz6 : (w6.cell? ⟨gs, 0, none⟩ = some (.int .i64 2) ∧ w6.cell? ⟨gs, 1, none⟩ = some (.int .i64 10) ∧ w6.cell? ⟨gs, 2, none⟩ = some (.int .i64 8) ∧ w6.cell? ⟨gs, 3, none⟩ = some (.int .i64 4) ∧ w6.cell? ⟨gs, 4, none⟩ = some (.int .i64 32)) ∧ w6.cell? (ad.add (j * 3)) = some (.int .i64 x.block) ∧ w6.cell? ⟨(ad.add (j * 3)).block, (ad.add (j * 3)).off + 1, none⟩ = some (.int .u64 x.ver) ∧ w6.cell? ⟨(ad.add (j * 3)).block, (ad.add (j * 3)).off + 2, none⟩ = some (.string x.data) := ⟨ha6.sh.1.five, by obtain ⟨ad4, had4, q0, q1, q2⟩ := HRW.out _ _ ha6.st; injection had4 with had4; subst had4; exact ⟨q0, q1, q2⟩⟩)))
            have HA6 := Lib.hid ha6
            clear ha6 hz6 h6 s6 g0 g1 g2 g3 g4 z0 z1 z2 HFS
            obtain ⟨Z5, hZ5⟩ : ∃ Z, R1.store node epoch x = Z := ⟨_, rfl⟩
            rw [hZ5] at HR2 HA6 HM2 ⊢
            obtain ⟨F, R5⟩ := Z5
            simp only at HR2 HA6 HM2 ⊢
            clear hZ5
            by_cases h9 : F = 0
            · subst h9
              have HR3 := Lib.hid (show G = applyGoF node epoch (l.drop (j + 1)) (n + 1) R5 by rw [HR2.out]; simp)
              have hw : IntKind.i64.wrap ((n : Int) + 1) = ((n + 1 : Nat) : Int) := by rw [IntWalk.i64_in _ (by have := HNJ.out; have := HL.out; have := HJL.out; omega)]; omega
              clear HR2
              go_wp2_with fail
              go_roundw
              case rel => exact ⟨j + 1, n + 1, R5, _, by have := HJL.out; omega, by have := HNJ.out; omega, by go_num, by go_num, HA6.out, HM2.out, HR3.out⟩
              case measure => have := HJL.out; simp [intOf]; omega
            · have t1 : (F != 0) = true := bne_iff_ne.2 h9
              have HR3 := Lib.hid (show G = ⟨0, F, R5⟩ by rw [HR2.out, if_pos h9])
              have HS9 := Lib.hid (show S = ⟨0, F, R5⟩ by rw [HAR.out, HR3.out, if_pos h9])
              clear HR2 h9
              go_wp2_with fail
              go_ret2
              exact ⟨by rw [HS9.out]; first | done | rfl, _, by rw [HS9.out]; exact HA6.out.rf, HA6.out.st⟩
        · by_cases c6 : e = 6
          · subst c6
            have HR2 := Lib.hid (show G = if (R1.store node epoch x).1 ≠ 0 then ⟨0, (R1.store node epoch x).1, (R1.store node epoch x).2⟩ else applyGoF node epoch (l.drop (j + 1)) (n + 1) (R1.store node epoch x).2 by rw [HRC.out]; simp [tornE])
            clear c0
            go_upto_region 9 with (fail)
            go_quiet (fail)
            have ha3 := HA2.out.drewN nq
            generalize wc.drewN nq = W3 at ha3 ⊢
            have HA3 := Lib.hid ha3
            clear ha3 u0 u1 u2 y0' y1' y2'
            obtain ⟨g0, g1, g2, g3, g4⟩ := HA3.out.sh.1.five
            obtain ⟨ad3, had3, z0, z1, z2⟩ := HRW.out o1 _ HA3.out.st
            injection had3 with had3
            subst had3
            have HFS := Lib.hid (rfstore_calm HA3.out.drew.rf node epoch x HXB.out.2 HXB.out.1 HM1.out.armed HM1.out.room (by have := HM1.out.ws; have := HK.out; have := HL.out; have := HJL.out; omega))
            have HM2 := Lib.hid ((HM1.out.store node epoch x).mono (m := k + 2 * (j + 1)) (by omega))
            unfold Im.agg at HFS
            go_upto_region 10 with (fail)
            go_region_held3 (fun w' => (w'.cell? ⟨gs, 0, none⟩ = some (.int .i64 2) ∧ w'.cell? ⟨gs, 1, none⟩ = some (.int .i64 10) ∧ w'.cell? ⟨gs, 2, none⟩ = some (.int .i64 8) ∧ w'.cell? ⟨gs, 3, none⟩ = some (.int .i64 4) ∧ w'.cell? ⟨gs, 4, none⟩ = some (.int .i64 32)) ∧ w'.cell? (ad.add (j * 3)) = some (.int .i64 x.block) ∧ w'.cell? ⟨(ad.add (j * 3)).block, (ad.add (j * 3)).off + 1, none⟩ = some (.int .u64 x.ver) ∧ w'.cell? ⟨(ad.add (j * 3)).block, (ad.add (j * 3)).off + 2, none⟩ = some (.string x.data))
              (first | exact ⟨⟨g0, g1, g2, g3, g4⟩, z0, z1, z2⟩ | exact hz6 | go_keep)
              (first | (go_at_call 44; ((with_reducible refine HFS.out.mono ?_); rintro r9 w6 ⟨rfl, o6, h6, s6⟩; have ha6 := HA3.out.drew.next HC.out h6 s6; have hz6 : (w6.cell? ⟨gs, 0, none⟩ = some (.int .i64 2) ∧ w6.cell? ⟨gs, 1, none⟩ = some (.int .i64 10) ∧ w6.cell? ⟨gs, 2, none⟩ = some (.int .i64 8) ∧ w6.cell? ⟨gs, 3, none⟩ = some (.int .i64 4) ∧ w6.cell? ⟨gs, 4, none⟩ = some (.int .i64 32)) ∧ w6.cell? (ad.add (j * 3)) = some (.int .i64 x.block) ∧ w6.cell? ⟨(ad.add (j * 3)).block, (ad.add (j * 3)).off + 1, none⟩ = some (.int .u64 x.ver) ∧ w6.cell? ⟨(ad.add (j * 3)).block, (ad.add (j * 3)).off + 2, none⟩ = some (.string x.data) := ⟨ha6.sh.1.five, by obtain ⟨ad4, had4, q0, q1, q2⟩ := HRW.out _ _ ha6.st; injection had4 with had4; subst had4; exact ⟨q0, q1, q2⟩⟩)))
            have HA6 := Lib.hid ha6
            clear ha6 hz6 h6 s6 g0 g1 g2 g3 g4 z0 z1 z2 HFS
            obtain ⟨Z5, hZ5⟩ : ∃ Z, R1.store node epoch x = Z := ⟨_, rfl⟩
            rw [hZ5] at HR2 HA6 HM2 ⊢
            obtain ⟨F, R5⟩ := Z5
            simp only at HR2 HA6 HM2 ⊢
            clear hZ5
            by_cases h9 : F = 0
            · subst h9
              have HR3 := Lib.hid (show G = applyGoF node epoch (l.drop (j + 1)) (n + 1) R5 by rw [HR2.out]; simp)
              have hw : IntKind.i64.wrap ((n : Int) + 1) = ((n + 1 : Nat) : Int) := by rw [IntWalk.i64_in _ (by have := HNJ.out; have := HL.out; have := HJL.out; omega)]; omega
              clear HR2
              go_wp2_with fail
              go_roundw
              case rel => exact ⟨j + 1, n + 1, R5, _, by have := HJL.out; omega, by have := HNJ.out; omega, by go_num, by go_num, HA6.out, HM2.out, HR3.out⟩
              case measure => have := HJL.out; simp [intOf]; omega
            · have t1 : (F != 0) = true := bne_iff_ne.2 h9
              have HR3 := Lib.hid (show G = ⟨0, F, R5⟩ by rw [HR2.out, if_pos h9])
              have HS9 := Lib.hid (show S = ⟨0, F, R5⟩ by rw [HAR.out, HR3.out, if_pos h9])
              clear HR2 h9
              go_wp2_with fail
              go_ret2
              exact ⟨by rw [HS9.out]; first | done | rfl, _, by rw [HS9.out]; exact HA6.out.rf, HA6.out.st⟩
          · by_cases c4 : e = 4
            · subst c4
              have HR2 := Lib.hid (show G = if (R1.store node epoch x).1 ≠ 0 then ⟨0, (R1.store node epoch x).1, (R1.store node epoch x).2⟩ else applyGoF node epoch (l.drop (j + 1)) (n + 1) (R1.store node epoch x).2 by rw [HRC.out]; simp [tornE])
              clear c0 c6
              go_upto_region 9 with (fail)
              go_quiet (fail)
              have ha3 := HA2.out.drewN nq
              generalize wc.drewN nq = W3 at ha3 ⊢
              have HA3 := Lib.hid ha3
              clear ha3 u0 u1 u2 y0' y1' y2'
              obtain ⟨g0, g1, g2, g3, g4⟩ := HA3.out.sh.1.five
              obtain ⟨ad3, had3, z0, z1, z2⟩ := HRW.out o1 _ HA3.out.st
              injection had3 with had3
              subst had3
              have HFS := Lib.hid (rfstore_calm HA3.out.drew.rf node epoch x HXB.out.2 HXB.out.1 HM1.out.armed HM1.out.room (by have := HM1.out.ws; have := HK.out; have := HL.out; have := HJL.out; omega))
              have HM2 := Lib.hid ((HM1.out.store node epoch x).mono (m := k + 2 * (j + 1)) (by omega))
              unfold Im.agg at HFS
              go_upto_region 10 with (fail)
              go_region_held3 (fun w' => (w'.cell? ⟨gs, 0, none⟩ = some (.int .i64 2) ∧ w'.cell? ⟨gs, 1, none⟩ = some (.int .i64 10) ∧ w'.cell? ⟨gs, 2, none⟩ = some (.int .i64 8) ∧ w'.cell? ⟨gs, 3, none⟩ = some (.int .i64 4) ∧ w'.cell? ⟨gs, 4, none⟩ = some (.int .i64 32)) ∧ w'.cell? (ad.add (j * 3)) = some (.int .i64 x.block) ∧ w'.cell? ⟨(ad.add (j * 3)).block, (ad.add (j * 3)).off + 1, none⟩ = some (.int .u64 x.ver) ∧ w'.cell? ⟨(ad.add (j * 3)).block, (ad.add (j * 3)).off + 2, none⟩ = some (.string x.data))
                (first | exact ⟨⟨g0, g1, g2, g3, g4⟩, z0, z1, z2⟩ | exact hz6 | go_keep)
                (first | (go_at_call 44; ((with_reducible refine HFS.out.mono ?_); rintro r9 w6 ⟨rfl, o6, h6, s6⟩; have ha6 := HA3.out.drew.next HC.out h6 s6; have hz6 : (w6.cell? ⟨gs, 0, none⟩ = some (.int .i64 2) ∧ w6.cell? ⟨gs, 1, none⟩ = some (.int .i64 10) ∧ w6.cell? ⟨gs, 2, none⟩ = some (.int .i64 8) ∧ w6.cell? ⟨gs, 3, none⟩ = some (.int .i64 4) ∧ w6.cell? ⟨gs, 4, none⟩ = some (.int .i64 32)) ∧ w6.cell? (ad.add (j * 3)) = some (.int .i64 x.block) ∧ w6.cell? ⟨(ad.add (j * 3)).block, (ad.add (j * 3)).off + 1, none⟩ = some (.int .u64 x.ver) ∧ w6.cell? ⟨(ad.add (j * 3)).block, (ad.add (j * 3)).off + 2, none⟩ = some (.string x.data) := ⟨ha6.sh.1.five, by obtain ⟨ad4, had4, q0, q1, q2⟩ := HRW.out _ _ ha6.st; injection had4 with had4; subst had4; exact ⟨q0, q1, q2⟩⟩)))
              have HA6 := Lib.hid ha6
              clear ha6 hz6 h6 s6 g0 g1 g2 g3 g4 z0 z1 z2 HFS
              obtain ⟨Z5, hZ5⟩ : ∃ Z, R1.store node epoch x = Z := ⟨_, rfl⟩
              rw [hZ5] at HR2 HA6 HM2 ⊢
              obtain ⟨F, R5⟩ := Z5
              simp only at HR2 HA6 HM2 ⊢
              clear hZ5
              by_cases h9 : F = 0
              · subst h9
                have HR3 := Lib.hid (show G = applyGoF node epoch (l.drop (j + 1)) (n + 1) R5 by rw [HR2.out]; simp)
                have hw : IntKind.i64.wrap ((n : Int) + 1) = ((n + 1 : Nat) : Int) := by rw [IntWalk.i64_in _ (by have := HNJ.out; have := HL.out; have := HJL.out; omega)]; omega
                clear HR2
                go_wp2_with fail
                go_roundw
                case rel => exact ⟨j + 1, n + 1, R5, _, by have := HJL.out; omega, by have := HNJ.out; omega, by go_num, by go_num, HA6.out, HM2.out, HR3.out⟩
                case measure => have := HJL.out; simp [intOf]; omega
              · have t1 : (F != 0) = true := bne_iff_ne.2 h9
                have HR3 := Lib.hid (show G = ⟨0, F, R5⟩ by rw [HR2.out, if_pos h9])
                have HS9 := Lib.hid (show S = ⟨0, F, R5⟩ by rw [HAR.out, HR3.out, if_pos h9])
                clear HR2 h9
                go_wp2_with fail
                go_ret2
                exact ⟨by rw [HS9.out]; first | done | rfl, _, by rw [HS9.out]; exact HA6.out.rf, HA6.out.st⟩
            · have t0 : (e != 0) = true := bne_iff_ne.2 c0
              have t6 : (e == 6) = false := by simpa using c6
              have t4 : (e == 4) = false := by simpa using c4
              have HR3 := Lib.hid (show G = ⟨0, e, R1⟩ by rw [HRC.out, if_pos ⟨c0, by simp [tornE, c6, c4]⟩])
              have HS9 := Lib.hid (show S = ⟨0, e, R1⟩ by rw [HAR.out, HR3.out, if_pos c0])
              clear c0 c6 c4
              go_wp2_with fail
              go_ret2
              exact ⟨by rw [HS9.out]; first | done | rfl, _, by rw [HS9.out]; exact HA2.out.rf, HA2.out.st⟩
    · have hltI : ¬ (j : Int) < (l.length : Int) := by omega
      obtain rfl : j = l.length := by omega
      have HGE := Lib.hid (show G = ⟨n, 0, R1⟩ by rw [HG1.out, List.drop_length]; rfl)
      have HSE := Lib.hid (show S = if n = 0 then ⟨n, 0, R1⟩ else if (R1.barrier node epoch).1 ≠ 0 then ⟨0, (R1.barrier node epoch).1, (R1.barrier node epoch).2⟩ else ⟨n, 0, (R1.barrier node epoch).2⟩ by rw [HAR.out, HGE.out]; simp)
      clear HG1
      by_cases hn0 : n = 0
      · subst hn0
        have HS9 := Lib.hid (show S = ⟨0, 0, R1⟩ by rw [HSE.out, if_pos rfl])
        go_wp2_with fail
        go_ret2
        exact ⟨by rw [HS9.out]; first | done | rfl, o1, by rw [HS9.out]; exact HA1.out.rf, HA1.out.st⟩
      · have hnI : 0 < (n : Int) := by omega
        have HBA := Lib.hid (rfbarrier_calm HA1.out.rf node epoch HM1.out.armed (by have := HM1.out.ws; have := HK.out; have := HL.out; omega))
        have HS8 := Lib.hid (show S = if (R1.barrier node epoch).1 ≠ 0 then ⟨0, (R1.barrier node epoch).1, (R1.barrier node epoch).2⟩ else ⟨n, 0, (R1.barrier node epoch).2⟩ by rw [HSE.out, if_neg hn0])
        obtain ⟨Z5, hZ5⟩ : ∃ Z, R1.barrier node epoch = Z := ⟨_, rfl⟩
        rw [hZ5] at HS8 HBA
        obtain ⟨F, R5⟩ := Z5
        simp only at HS8 HBA
        clear hZ5 hn0 HSE
        go_wp2_with fail
        refine HBA.out.mono ?_
        rintro r9 w5 ⟨rfl, o5, h5, s5⟩
        have HF5 := Lib.hid h5
        have HS5 := Lib.hid (HA1.out.st.trans s5)
        clear h5 s5
        by_cases h9 : F = 0
        · subst h9
          have HS9 := Lib.hid (show S = ⟨n, 0, R5⟩ by rw [HS8.out, if_neg (by simp)])
          go_wp2_with fail
          go_ret2
          exact ⟨by rw [HS9.out]; first | done | rfl, o5, by rw [HS9.out]; exact HF5.out, HS5.out⟩
        · have t1 : (F != 0) = true := bne_iff_ne.2 h9
          have HS9 := Lib.hid (show S = ⟨0, F, R5⟩ by rw [HS8.out, if_pos h9])
          clear h9
          go_wp2_with fail
          go_ret2
          exact ⟨by rw [HS9.out]; first | done | rfl, o5, by rw [HS9.out]; exact HF5.out, HS5.out⟩
end
end Go.Proofs.YtkhieofknglknaaGreatDoor

/- A disk whose power may go: what lasts, what waits, what a cut leaves. -/
namespace Go.Proofs.YtkhieofknglknaaGreatDoor
open Go.RowKit

/-- writes laid over what lasts -/
def over (f : Int → Option ByteArray) (l : List Ws) : Int → Option ByteArray := l.foldl (fun g x => upd g x.at_ x.data) f
theorem over_add (f : Int → Option ByteArray) (l : List Ws) (x : Ws) : over f (l ++ [x]) = upd (over f l) x.at_ x.data := by
  unfold over
  rw [List.foldl_append]
  rfl
/-- numbers that rise, from s to t -/
def Chain : Int → List Ws → Int → Prop
  | s, [], t => s ≤ t
  | s, x :: l, t => s < x.seq ∧ Chain x.seq l t
theorem Chain.le : ∀ {l : List Ws} {s t : Int}, Chain s l t → s ≤ t ∧ ∀ x ∈ l, x.seq ≤ t
  | [], _, _, h => ⟨h, (fun x hx => by cases hx)⟩
  | x :: l, s, t, h => by
    obtain ⟨h1, h2⟩ := h
    obtain ⟨a, b⟩ := h2.le
    refine ⟨by omega, fun y hy => ?_⟩
    rcases List.mem_cons.1 hy with rfl | hy
    · exact a
    · exact b y hy
theorem Chain.add : ∀ {l : List Ws} {s t : Int} {x : Ws}, Chain s l t → t < x.seq → Chain s (l ++ [x]) x.seq
  | [], _, _, _, h, hx => ⟨Int.lt_of_le_of_lt h hx, Int.le_refl _⟩
  | _ :: _, _, _, _, h, hx => ⟨h.1, h.2.add hx⟩
def lastD (D : Dk) : Int → Option ByteArray := fun k => (D.lasts k).map (fun x : Ws => x.data)
/-- what waits is node n's; what is read is what waits, laid over what lasts; numbers rise -/
structure Sane (D : Dk) (n : Int) : Prop where
  nodes : ∀ x ∈ D.waits, x.node = n
  now : D.now = over (lastD D) D.waits
  chain : ∃ s0 : Int, 0 ≤ s0 ∧ (∀ k x, D.lasts k = some x → x.seq ≤ s0) ∧ Chain s0 D.waits D.seq
theorem keeps_over : ∀ (l : List Ws) (D : Dk) (s t : Int), 0 ≤ s → (∀ k x, D.lasts k = some x → x.seq ≤ s) → Chain s l t →
    lastD (l.foldl Dk.keep D) = over (lastD D) l ∧ ∀ k x, (l.foldl Dk.keep D).lasts k = some x → x.seq ≤ t
  | [], D, s, t, _, hl, hc => ⟨rfl, fun k x h => Int.le_trans (hl k x h) hc⟩
  | x :: l, D, s, t, h0, hl, hc => by
    obtain ⟨h1, h2⟩ := hc
    have hk : D.keep x = { D with lasts := upd D.lasts x.at_ x } := by
      unfold Dk.keep
      rw [if_pos]
      cases hx : D.lasts x.at_ with
      | none => show (0 : Int) < x.seq; omega
      | some y => have := hl _ _ hx; show y.seq < x.seq; omega
    have hd : lastD (D.keep x) = upd (lastD D) x.at_ x.data := by
      rw [hk]
      funext k
      show (upd D.lasts x.at_ x k).map (fun x : Ws => x.data) = _
      unfold upd lastD
      split <;> rfl
    have hl2 : ∀ k y, (D.keep x).lasts k = some y → y.seq ≤ x.seq := by
      rw [hk]
      intro k y hy
      have hy : upd D.lasts x.at_ x k = some y := hy
      unfold upd at hy
      split at hy
      · injection hy with hy
        rw [hy]
        exact Int.le_refl _
      · have := hl k y hy
        omega
    obtain ⟨a, b⟩ := keeps_over l (D.keep x) x.seq t (by omega) hl2 h2
    refine ⟨?_, b⟩
    show lastD (l.foldl Dk.keep (D.keep x)) = over (upd (lastD D) x.at_ x.data) l
    rw [a, hd]
section
variable {D : Dk} {n : Int} {A : Int → ByteArray → Prop}
theorem Sane.settle (h : Sane D n) (m : Int) : Sane (D.settle n) m ∧ (D.settle n).waits = [] ∧ lastD (D.settle n) = D.now := by
  obtain ⟨s0, h0, hl, hc⟩ := h.chain
  have e1 : D.waits.filter (fun x => x.node = n) = D.waits := List.filter_eq_self.2 (fun x hx => decide_eq_true (h.nodes x hx))
  have e2 : D.waits.filter (fun x => ¬ x.node = n) = [] := List.filter_eq_nil_iff.2 (fun x hx => by simp [h.nodes x hx])
  obtain ⟨a, b⟩ := keeps_over D.waits D s0 D.seq h0 hl hc
  have e3 : D.settle n = { D.waits.foldl Dk.keep D with waits := [] } := by
    unfold Dk.settle
    rw [e1, e2]
  have hw : (D.settle n).waits = [] := by rw [e3]
  have hq : (D.settle n).seq = D.seq := (settle_same D n).2.2.2.2.2.2
  have hd : lastD (D.settle n) = D.now := by
    rw [e3]
    exact a.trans h.now.symm
  refine ⟨⟨by rw [hw]; simp, ?_, D.seq, by omega, ?_, ?_⟩, hw, hd⟩
  · rw [settle_now, hw, hd]
    rfl
  · rw [e3]
    exact b
  · rw [hw, hq]
    exact Int.le_refl _
theorem Sane.any (h : Sane D n) (hw : D.waits = []) (m : Int) : Sane D m := ⟨by rw [hw]; simp, h.now, h.chain⟩
theorem Sane.write1 (h : Sane D n) (a : Int) (s : ByteArray) : Sane (D.write1 n a s) n := by
  obtain ⟨s0, h0, hl, hc⟩ := h.chain
  refine ⟨fun x hx => ?_, ?_, s0, h0, hl, ?_⟩
  · have hx : x ∈ D.waits ++ [⟨n, a, (D.seq + 1 : Nat), s⟩] := hx
    rcases List.mem_append.1 hx with hx | hx
    · exact h.nodes x hx
    · rw [List.mem_singleton.1 hx]
  · show upd D.now a s = over (lastD D) (D.waits ++ [⟨n, a, (D.seq + 1 : Nat), s⟩])
    rw [over_add, ← h.now]
  · exact hc.add (x := ⟨n, a, (D.seq + 1 : Nat), s⟩) (show (D.seq : Int) < ((D.seq + 1 : Nat) : Int) by omega)
theorem Sane.writeN (h : Sane D n) (a : Int) (data : ByteArray) : ∀ m, Sane (D.writeN n a data m) n
  | 0 => h
  | m + 1 => (Sane.writeN h a data m).write1 _ _
def lsec (D : Dk) (k : Int) : ByteArray := (lastD D k).getD (str (zer 64))
/-- what lasts, and what waits, is allowed -/
structure Safe (D : Dk) (A : Int → ByteArray → Prop) : Prop where
  last : ∀ k, A k (lsec D k)
  wait : ∀ x ∈ D.waits, A x.at_ x.data
theorem over_safe : ∀ (l : List Ws) (f : Int → Option ByteArray), (∀ k, A k ((f k).getD (str (zer 64)))) → (∀ x ∈ l, A x.at_ x.data) → ∀ k, A k ((over f l k).getD (str (zer 64)))
  | [], _, hf, _ => hf
  | x :: l, f, hf, hl => over_safe l (upd f x.at_ x.data) (fun k => by
      unfold upd
      split
      · rename_i hk
        rw [hk]
        exact hl x (List.mem_cons_self ..)
      · exact hf k) (fun y hy => hl y (List.mem_cons_of_mem _ hy))
theorem Safe.sec (h : Safe D A) (hs : Sane D n) (k : Int) : A k (D.sec k) := by
  unfold Dk.sec
  rw [hs.now]
  exact over_safe D.waits (lastD D) h.last h.wait k
theorem lsec_sec (hs : Sane D n) (hw : D.waits = []) (k : Int) : lsec D k = D.sec k := by
  unfold lsec Dk.sec
  rw [hs.now, hw]
  rfl
theorem safe_of_sec (hs : Sane D n) (hw : D.waits = []) (h : ∀ k, A k (D.sec k)) : Safe D A := ⟨fun k => by rw [lsec_sec hs hw]; exact h k, by rw [hw]; simp⟩
theorem Safe.settle (h : Safe D A) (hs : Sane D n) : Safe (D.settle n) A := by
  obtain ⟨a, b, _⟩ := hs.settle n
  refine safe_of_sec a b (fun k => ?_)
  rw [settle_sec]
  exact h.sec hs k
theorem Safe.write1 (h : Safe D A) {a : Int} {s : ByteArray} (ha : A a s) : Safe (D.write1 n a s) A := by
  refine ⟨h.last, fun x hx => ?_⟩
  have hx : x ∈ D.waits ++ [⟨n, a, (D.seq + 1 : Nat), s⟩] := hx
  rcases List.mem_append.1 hx with hx | hx
  · exact h.wait x hx
  · rw [List.mem_singleton.1 hx]
    exact ha
theorem Safe.writeN (h : Safe D A) {a : Int} {data : ByteArray} : ∀ m : Nat, (∀ j : Nat, j < m → A (a + j) (sect data j)) → Safe (D.writeN n a data m) A
  | 0, _ => h
  | m + 1, hm => (Safe.writeN h m (fun j hj => hm j (by omega))).write1 (hm m (by omega))
theorem cutN_lasts (keep : List Int) (k : Int) (x : Ws) : ∀ m, (D.cutN keep m).lasts k = some x → D.lasts k = some x ∨ (x ∈ D.waits ∧ x.at_ = k)
  | 0, h => .inl h
  | m + 1, h => by
    unfold Dk.cutN at h
    cases hx : D.waits[m]? with
    | none =>
      rw [hx] at h
      exact cutN_lasts keep k x m h
    | some y =>
      rw [hx] at h
      simp only at h
      split at h
      · unfold Dk.keep at h
        split at h
        · have h : upd (D.cutN keep m).lasts y.at_ y k = some x := h
          unfold upd at h
          split at h
          · rename_i hk
            injection h with h
            subst h
            exact .inr ⟨List.mem_of_getElem? hx, hk.symm⟩
          · exact cutN_lasts keep k x m h
        · exact cutN_lasts keep k x m h
      · exact cutN_lasts keep k x m h
theorem cutN_none (keep : List Int) (k : Int) : ∀ m, (D.cutN keep m).lasts k = none → D.lasts k = none
  | 0, h => h
  | m + 1, h => by
    unfold Dk.cutN at h
    cases hx : D.waits[m]? with
    | none =>
      rw [hx] at h
      exact cutN_none keep k m h
    | some y =>
      rw [hx] at h
      simp only at h
      split at h
      · unfold Dk.keep at h
        split at h
        · have h : upd (D.cutN keep m).lasts y.at_ y k = none := h
          unfold upd at h
          split at h
          · cases h
          · exact cutN_none keep k m h
        · exact cutN_none keep k m h
      · exact cutN_none keep k m h
/-- what a cut leaves -/
theorem cut_leaves (h : Sane D n) (hs : Safe D A) (hon : D.on = true) (keep : List Int) (m : Int) : Sane (D.cut keep).2 m ∧ Safe (D.cut keep).2 A ∧ (D.cut keep).2.waits = [] := by
  have e : (D.cut keep).2 = ((D.arm (-1) []).cutN keep D.waits.length).off := by
    unfold Dk.cut
    rw [if_neg (by rw [hon]; decide)]
  obtain ⟨s0, h0, hl, hc⟩ := h.chain
  obtain ⟨c1, c2⟩ := hc.le
  have hq : ((D.arm (-1) []).cutN keep D.waits.length).seq = D.seq := (cutN_same (D.arm (-1) []) keep D.waits.length).2.1
  have hla : ∀ k x, ((D.arm (-1) []).cutN keep D.waits.length).lasts k = some x → D.lasts k = some x ∨ (x ∈ D.waits ∧ x.at_ = k) := fun k x => cutN_lasts (D := D.arm (-1) []) keep k x _
  rw [e]
  have hln : ∀ k, ((D.arm (-1) []).cutN keep D.waits.length).lasts k = none → D.lasts k = none := fun k => cutN_none (D := D.arm (-1) []) keep k _
  generalize (D.arm (-1) []).cutN keep D.waits.length = E at hq hla hln
  have hsa : Sane E.off m := by
    refine ⟨(fun x hx => by cases hx), rfl, D.seq, by omega, fun k x hx => ?_, ?_⟩
    · rcases hla k x hx with hx | ⟨hx, _⟩
      · have := hl k x hx
        omega
      · exact c2 x hx
    · show (D.seq : Int) ≤ (E.seq : Int)
      rw [hq]
      exact Int.le_refl _
  refine ⟨hsa, ⟨fun k => ?_, fun x hx => by cases hx⟩, rfl⟩
  show A k (((E.lasts k).map (fun x : Ws => x.data)).getD (str (zer 64)))
  cases hE : E.lasts k with
  | none =>
    have := hs.last k
    unfold lsec lastD at this
    rw [hln k hE] at this
    exact this
  | some x =>
    rcases hla k x hE with hx | ⟨hx, hk⟩
    · have := hs.last k
      unfold lsec lastD at this
      rw [hx] at this
      exact this
    · have := hs.wait x hx
      rw [hk] at this
      exact this
end
end Go.Proofs.YtkhieofknglknaaGreatDoor

/- A log that is done again, wherever the power goes: each sector holds what it held, or what is to be there. -/
namespace Go.Proofs.YtkhieofknglknaaGreatDoor
open Go.RowKit

/-- on; node 2 is admitted; what lasts, and what waits, is allowed -/
structure Run2 (D : Dk) (e : Nat) (A : Int → ByteArray → Prop) : Prop where
  on : D.on = true
  sectors : D.sectors = 37
  t2 : D.table 2 = e
  sane : Sane D ((2 : Nat) : Int)
  safe : Safe D A
/-- the power has gone -/
structure Off2 (D : Dk) (e : Nat) (A : Int → ByteArray → Prop) : Prop where
  on : D.on = false
  sectors : D.sectors = 37
  t2 : D.table 2 = e
  sane : Sane D ((2 : Nat) : Int)
  safe : Safe D A
  waits : D.waits = []
section
variable {D : Dk} {e : Nat} {A B : Int → ByteArray → Prop}
theorem Run2.live (h : Run2 D e A) : Live D := ⟨h.on, h.sectors⟩
theorem Run2.left (h : Run2 D e A) (n : Int) : Run2 { D with left := n } e A := ⟨h.on, h.sectors, h.t2, ⟨h.sane.nodes, h.sane.now, h.sane.chain⟩, ⟨h.safe.last, h.safe.wait⟩⟩
theorem Run2.goes (h : Run2 D e A) : (∃ n, D.goes = (false, { D with left := n })) ∨ (D.armed = true ∧ D.goes.1 = true ∧ Off2 D.goes.2 e A) := by
  by_cases ha : D.armed = false
  · exact .inl ⟨D.left, goes_calm ha⟩
  · by_cases hl : 0 < D.left
    · left
      refine ⟨wrap64 (D.left - 1), ?_⟩
      unfold Dk.goes
      rw [if_neg ha, if_pos hl]
    · right
      have eg : D.goes = (true, (D.cut D.stays).2) := by
        unfold Dk.goes
        rw [if_neg ha, if_neg hl]
      obtain ⟨c1, c2, c3⟩ := cut_leaves h.sane h.safe h.on D.stays ((2 : Nat) : Int)
      obtain ⟨d1, _, d3, _, _, _, d7, _⟩ := cut_same D D.stays
      rw [eg]
      exact ⟨by cases hb : D.armed; exact absurd hb ha; rfl, rfl, d7, d1.trans h.sectors, by rw [d3]; exact h.t2, c1, c2, c3⟩
theorem Run2.may (h : Run2 D e A) : D.may ((2 : Nat) : Int) = 0 := by
  unfold Dk.may
  rw [if_neg (by rw [h.on]; decide), if_neg (by omega)]
theorem Run2.write (h : Run2 D e A) (h0 : e ≠ 0) {a : Int} {data : ByteArray} {m : Nat} (hd : data.size = m * 64) (m1 : 1 ≤ m) (m2 : m ≤ 16) (a1 : 0 ≤ a) (a2 : a + m ≤ 37) :
    (D.armed = true ∧ (D.write (2 : Nat) e a data).1 = 14 ∧ Off2 (D.write (2 : Nat) e a data).2 e A) ∨ ∃ n, D.write (2 : Nat) e a data = (0, ({ D with left := n } : Dk).writeN (2 : Nat) a data m) := by
  have hq : data.size / 64 = m := by omega
  have hr : data.size % 64 = 0 := by omega
  have hth : D.there a (data.size / 64 : Nat) = true := by
    unfold Dk.there
    rw [hq, h.sectors]
    exact decide_eq_true ⟨a1, by omega, by omega⟩
  have had : D.admits ((2 : Nat) : Int).toNat e = 0 := by
    unfold Dk.admits
    exact if_neg (by show ¬ (e = 0 ∨ D.table 2 ≠ e); simp [h0, h.t2])
  have ew : D.write (2 : Nat) e a data = if D.goes.1 = true then (14, D.goes.2) else (0, D.goes.2.writeN (2 : Nat) a data m) := by
    unfold Dk.write
    rw [if_neg (by rw [h.may]; simp), if_neg (by omega), if_neg (by rw [had]; simp), if_neg (by rw [hth]; simp), hq]
  rw [ew]
  rcases h.goes with ⟨n, hg⟩ | ⟨g1, g2, g3⟩
  · right
    rw [hg]
    exact ⟨n, if_neg (by simp)⟩
  · left
    rw [if_pos g2]
    exact ⟨g1, rfl, g3⟩
theorem Run2.barrier (h : Run2 D e A) (h0 : e ≠ 0) :
    (D.armed = true ∧ (D.barrier (2 : Nat) e).1 = 14 ∧ Off2 (D.barrier (2 : Nat) e).2 e A) ∨ ∃ n, D.barrier (2 : Nat) e = (0, ({ D with left := n } : Dk).settle (2 : Nat)) := by
  have had : D.admits ((2 : Nat) : Int).toNat e = 0 := by
    unfold Dk.admits
    exact if_neg (by show ¬ (e = 0 ∨ D.table 2 ≠ e); simp [h0, h.t2])
  have ew : D.barrier (2 : Nat) e = if D.goes.1 = true then (14, D.goes.2) else (0, D.goes.2.settle (2 : Nat)) := by
    unfold Dk.barrier
    rw [if_neg (by rw [h.may]; simp), if_neg (by rw [had]; simp)]
  rw [ew]
  rcases h.goes with ⟨n, hg⟩ | ⟨g1, g2, g3⟩
  · right
    rw [hg]
    exact ⟨n, if_neg (by simp)⟩
  · left
    rw [if_pos g2]
    exact ⟨g1, rfl, g3⟩
theorem Run2.settle (h : Run2 D e A) : Run2 (D.settle (2 : Nat)) e A ∧ (D.settle (2 : Nat)).waits = [] := by
  obtain ⟨a, b, _⟩ := h.sane.settle ((2 : Nat) : Int)
  have s := settle_same D ((2 : Nat) : Int)
  exact ⟨⟨s.1.trans h.on, s.2.2.1.trans h.sectors, by rw [(settle_tab D _).1]; exact h.t2, a, h.safe.settle h.sane⟩, b⟩
theorem Run2.wrote (h : Run2 D e A) {a : Int} {data : ByteArray} {m : Nat} (hm : ∀ j : Nat, j < m → A (a + j) (sect data j)) : Run2 (D.writeN (2 : Nat) a data m) e A := by
  have s := writeN_same D ((2 : Nat) : Int) a data m
  exact ⟨s.1.trans h.on, s.2.2.1.trans h.sectors, by rw [s.2.2.2.2.2.1]; exact h.t2, h.sane.writeN a data m, h.safe.writeN m hm⟩
theorem Run2.weak (h : Run2 D e A) (hw : D.waits = []) (hb : ∀ k, B k (D.sec k)) : Run2 D e B := ⟨h.on, h.sectors, h.t2, h.sane, safe_of_sec h.sane hw hb⟩
theorem Off2.weak (h : Off2 D e A) (hb : ∀ k v, A k v → B k v) : Off2 D e B := ⟨h.on, h.sectors, h.t2, h.sane, ⟨fun k => hb _ _ (h.safe.last k), fun x hx => hb _ _ (h.safe.wait x hx)⟩, h.waits⟩
end
/-- the images that are to be there -/
structure Wants (l : List Im) : Prop where
  ok : ∀ i ∈ l, i.right ∧ 0 < i.ver ∧ i.ver < 18446744073709551616 ∧ i.block ≤ 9
  one : l.Pairwise (fun i j => i.block ≠ j.block)
/-- the head is there, and the records; a block's sector has bytes 0, or is what it is to be -/
def A1 (l : List Im) (lg : Int → ByteArray) : Int → ByteArray → Prop := fun k v => (k = 1 → v = str hd9) ∧ (2 ≤ k → k ≤ 8 → v = lg k) ∧ ∀ i ∈ l, (k = 17 + 2 * i.block → v = str (zer 64) ∨ v = str (secL i 0)) ∧ (k = 17 + 2 * i.block + 1 → v = str (zer 64) ∨ v = str (secL i 1))
/-- each block is what it is to be; the head is there, or has bytes 0 -/
def A2 (l : List Im) (lg : Int → ByteArray) : Int → ByteArray → Prop := fun k v => (k = 1 → v = str hd9 ∨ v = str (zer 64)) ∧ (2 ≤ k → k ≤ 8 → v = lg k) ∧ ∀ i ∈ l, (k = 17 + 2 * i.block → v = str (secL i 0)) ∧ (k = 17 + 2 * i.block + 1 → v = str (secL i 1))
theorem half_ne {i : Im} (h : i.right) {k : Nat} (hk : k ≤ 1) : secL i k ≠ zer 64 := by
  intro e
  have h1 := (read_stamp (l := secT i k) (n := 64) (by rw [secT_len h hk]; omega) (by omega)).1
  have h2 : readE (secL i k) = 0 := h1
  rw [e, sum60] at h2
  exact absurd h2 (by decide)
theorem secG_at {x y : List UInt8} (hx : x.length = 64) (hy : y.length = 64) : secG (str (x ++ y)) 0 = (if readE x = 0 then (secI (readL x), 0) else (Im.zero, readE x)) ∧ secG (str (x ++ y)) 1 = (if readE y = 0 then (secI (readL y), 0) else (Im.zero, readE y)) := by
  have e0 : ((str (x ++ y)).extract (0 * 64) ((0 + 1) * 64)).data.toList = x := by
    rw [extract_str, str_list, Nat.zero_mul, List.drop_zero, List.take_append_of_le_length (by omega), List.take_of_length_le (by omega)]
  have e1 : ((str (x ++ y)).extract (1 * 64) ((1 + 1) * 64)).data.toList = y := by
    rw [extract_str, str_list, List.take_of_length_le (by rw [List.length_append]; omega), List.drop_append_of_le_length (by omega), List.drop_of_length_le (by omega), List.nil_append]
  unfold secG
  rw [e0, e1]
  exact ⟨rfl, rfl⟩
/-- a block of which one sector alone was written is torn -/
theorem torn_a {i : Im} (h : i.right) (b : Int) : getB b (str (secL i 0 ++ zer 64)) = (Im.zero, 6) := by
  have hl := secL_len h (k := 0) (by omega)
  obtain ⟨g0, g1⟩ := secG_at hl (zer_len 64)
  have hr : readE (secL i 0) = 0 := (read_stamp (l := secT i 0) (n := 64) (by rw [secT_len h (by omega)]; omega) (by omega)).1
  rw [if_pos hr] at g0
  rw [sum60, if_neg (by decide)] at g1
  unfold getB
  rw [if_neg (by rw [str_size, List.length_append, hl, zer_len]; simp), if_neg, if_neg (by rw [g0]; simp), if_pos (by rw [g1]; decide), g1]
  intro e
  have e := str_inj e
  have : zer 128 = zer 64 ++ zer 64 := (zer_app 64 64).symm
  rw [this] at e
  exact half_ne h (k := 0) (by omega) (List.append_inj_left e (by rw [hl, zer_len]))
theorem torn_b {i : Im} (h : i.right) (b : Int) : getB b (str (zer 64 ++ secL i 1)) = (Im.zero, 6) := by
  have hl := secL_len h (k := 1) (by omega)
  obtain ⟨g0, g1⟩ := secG_at (zer_len 64) hl
  rw [sum60, if_neg (by decide)] at g0
  unfold getB
  rw [if_neg (by rw [str_size, List.length_append, hl, zer_len]; simp), if_neg, if_pos (by rw [g0]; decide), g0]
  intro e
  have e := str_inj e
  have : zer 128 = zer 64 ++ zer 64 := (zer_app 64 64).symm
  rw [this] at e
  exact half_ne h (k := 1) (by omega) (List.append_inj_right e (by rw [zer_len]))
theorem sect_blk {i : Im} (h : i.right) : sect (str (blkL i)) 0 = str (secL i 0) ∧ sect (str (blkL i)) 1 = str (secL i 1) := by
  have h0 := secL_len h (k := 0) (by omega)
  have h1 := secL_len h (k := 1) (by omega)
  unfold sect blkL
  rw [extract_str, extract_str]
  constructor
  · rw [Nat.zero_mul, List.drop_zero, List.take_append_of_le_length (by omega), List.take_of_length_le (by omega)]
  · rw [List.take_of_length_le (by rw [List.length_append]; omega), List.drop_append_of_le_length (by omega), List.drop_of_length_le (by omega), List.nil_append]
end Go.Proofs.YtkhieofknglknaaGreatDoor

/- Apply and Run, wherever the power goes. -/
namespace Go.Proofs.YtkhieofknglknaaGreatDoor
open Go.RowKit

theorem wants_inj : ∀ {l : List Im}, l.Pairwise (fun i j => i.block ≠ j.block) → ∀ {i j : Im}, i ∈ l → j ∈ l → i.block = j.block → i = j
  | x :: l, hp, i, j, hi, hj, e => by
    have hp' := List.pairwise_cons.1 hp
    rcases List.mem_cons.1 hi with hi1 | hi1
    · rcases List.mem_cons.1 hj with hj1 | hj1
      · rw [hi1, hj1]
      · exact absurd (by rw [← hi1, e]) (hp'.1 j hj1)
    · rcases List.mem_cons.1 hj with hj1 | hj1
      · exact absurd (by rw [← hj1, ← e]) (hp'.1 i hi1)
      · exact wants_inj hp'.2 hi1 hj1 e
theorem apply_skip {D : Dk} {node : Int} {epoch : Nat} {i : Im} (h : D.load i.block = (i, 0)) (l : List Im) (n : Nat) : applyGo node epoch (i :: l) n D = applyGo node epoch l n D := by
  rw [apply_one h, if_pos (Nat.le_refl _)]
theorem apply_put {D : Dk} {node : Int} {epoch : Nat} {i : Im} (h : (∃ was : Im, D.load i.block = (was, 0) ∧ was.ver < i.ver) ∨ D.load i.block = (Im.zero, 6)) (l : List Im) (n : Nat) :
    applyGo node epoch (i :: l) n D = if (D.store node epoch i).1 ≠ 0 then ⟨0, (D.store node epoch i).1, (D.store node epoch i).2⟩ else applyGo node epoch l (n + 1) (D.store node epoch i).2 := by
  rcases h with ⟨was, h1, h2⟩ | h1
  · rw [apply_one h1, if_neg (by omega)]
  · rw [applyGo_cons, h1, if_neg (by simp [tornE]), if_neg (by simp [tornE])]
section
variable {D : Dk} {e : Nat} {l : List Im} {lg : Int → ByteArray}
theorem store_write {i : Im} (hr : i.right) (hb : i.block ≤ 9) (node : Int) : D.store node e i = D.write node e (17 + 2 * i.block) (str (blkL i)) := by
  have h0 := hr.1
  have hba : blockAt i.block = (17 + 2 * i.block, 0) := if_neg (by omega)
  unfold Dk.store
  rw [hba, if_neg (by simp), if_neg (by simp [hr])]
theorem Run2.load3 (h : Run2 D e (A1 l lg)) (hw : Wants l) {i : Im} (hi : i ∈ l) :
    (D.load i.block = (i, 0) ∧ D.sec (17 + 2 * i.block) = str (secL i 0) ∧ D.sec (17 + 2 * i.block + 1) = str (secL i 1)) ∨ ((∃ was : Im, D.load i.block = (was, 0) ∧ was.ver < i.ver) ∨ D.load i.block = (Im.zero, 6)) := by
  obtain ⟨hr, h0, hv, hb⟩ := hw.ok i hi
  have hr0 := hr.1
  have hbt : ((i.block.toNat : Nat) : Int) = i.block := by omega
  have hle := load_eq h.live (b := i.block.toNat) (by omega)
  rw [hbt] at hle
  have s0 := ((h.safe.sec h.sane (17 + 2 * i.block)).2.2 i hi).1 rfl
  have s1 := ((h.safe.sec h.sane (17 + 2 * i.block + 1)).2.2 i hi).2 rfl
  rcases s0 with s0 | s0
  · rcases s1 with s1 | s1
    · rw [s0, s1, str_list, zer_app] at hle
      refine .inr (.inl ⟨⟨i.block, 0, str (zer 96)⟩, hle.trans ?_, h0⟩)
      unfold getB
      rw [if_neg (by rw [str_size, zer_len]; omega), if_pos rfl]
    · rw [s0, s1, str_list, str_list, torn_b hr] at hle
      exact .inr (.inr hle)
  · rcases s1 with s1 | s1
    · rw [s0, s1, str_list, str_list, torn_a hr] at hle
      exact .inr (.inr hle)
    · have e1 : getB i.block (str (secL i 0 ++ secL i 1)) = (i, 0) := getB_put hr hv
      rw [s0, s1, str_list, str_list, e1] at hle
      exact .inl ⟨hle, s0, s1⟩
/-- what Apply leaves, where the power stays -/
structure ApOk (D : Dk) (e : Nat) (A : Int → ByteArray → Prop) (l : List Im) (n : Nat) (R : ApR) : Prop where
  err : R.e = 0
  run : Run2 R.D e A
  armed : R.D.armed = D.armed
  halves : ∀ i ∈ l, R.D.sec (17 + 2 * i.block) = str (secL i 0) ∧ R.D.sec (17 + 2 * i.block + 1) = str (secL i 1)
  other : ∀ k, (∀ i ∈ l, k ≠ 17 + 2 * i.block ∧ k ≠ 17 + 2 * i.block + 1) → R.D.sec k = D.sec k
  cnt : n ≤ R.n
  same : R.n = n → R.D = D
theorem apply_all (hw : Wants l) (h0 : e ≠ 0) : ∀ (m : List Im) (n : Nat) (D : Dk), (∀ i ∈ m, i ∈ l) → m.Pairwise (fun i j => i.block ≠ j.block) → Run2 D e (A1 l lg) →
    (D.armed = true ∧ (applyGo (2 : Nat) e m n D).e ≠ 0 ∧ Off2 (applyGo (2 : Nat) e m n D).D e (A1 l lg)) ∨ ApOk D e (A1 l lg) m n (applyGo (2 : Nat) e m n D)
  | [], n, D, _, _, h => .inr ⟨rfl, h, rfl, (fun i hi => by cases hi), fun _ _ => rfl, Nat.le_refl _, fun _ => rfl⟩
  | i :: m, n, D, hm, hp, h => by
    have hp' := List.pairwise_cons.1 hp
    have hi := hm i (List.mem_cons_self ..)
    have hm' : ∀ j ∈ m, j ∈ l := fun j hj => hm j (List.mem_cons_of_mem _ hj)
    obtain ⟨hr, hv0, hv, hb⟩ := hw.ok i hi
    have hr0 := hr.1
    rcases h.load3 hw hi with ⟨g1, g2, g3⟩ | hput
    · rw [apply_skip g1]
      rcases apply_all hw h0 m n D hm' hp'.2 h with hx | hx
      · exact .inl hx
      · refine .inr ⟨hx.err, hx.run, hx.armed, fun j hj => ?_, fun k hk => hx.other k (fun j hj => hk j (List.mem_cons_of_mem _ hj)), hx.cnt, hx.same⟩
        rcases List.mem_cons.1 hj with rfl | hj
        · refine ⟨(hx.other _ (fun j' hj' => ?_)).trans g2, (hx.other _ (fun j' hj' => ?_)).trans g3⟩
          · have := hp'.1 j' hj'
            omega
          · have := hp'.1 j' hj'
            omega
        · exact hx.halves j hj
    · rw [apply_put hput, store_write hr hb]
      obtain ⟨q0, q1⟩ := sect_blk hr
      rcases h.write h0 (a := 17 + 2 * i.block) (data := str (blkL i)) (m := 2) (by rw [str_size, blkL_len hr]) (by omega) (by omega) (by omega) (by omega) with ⟨w1, w2, w3⟩ | ⟨nl, w1⟩
      · left
        rw [if_pos (by rw [w2]; decide)]
        exact ⟨w1, by rw [w2]; simp, w3⟩
      · rw [w1, if_neg (by simp)]
        have hrun : Run2 (({ D with left := nl } : Dk).writeN (2 : Nat) (17 + 2 * i.block) (str (blkL i)) 2) e (A1 l lg) := by
          refine (h.left nl).wrote (fun j hj => ?_)
          rcases (show j = 0 ∨ j = 1 by omega) with rfl | rfl
          · rw [q0]
            refine ⟨fun hk => by omega, fun _ hk => by omega, fun i' hi' => ⟨fun hk => .inr ?_, fun hk => by omega⟩⟩
            rw [wants_inj hw.one hi hi' (by omega)]
          · rw [q1]
            refine ⟨fun hk => by omega, fun _ hk => by omega, fun i' hi' => ⟨fun hk => by omega, fun hk => .inr ?_⟩⟩
            rw [wants_inj hw.one hi hi' (by omega)]
        have hsec : ∀ k, (({ D with left := nl } : Dk).writeN (2 : Nat) (17 + 2 * i.block) (str (blkL i)) 2).sec k = if 17 + 2 * i.block ≤ k ∧ k < 17 + 2 * i.block + ((2 : Nat) : Int) then sect (str (blkL i)) (k - (17 + 2 * i.block)).toNat else D.sec k := fun k => writeN_sec _ _ _ _ _ _
        have harm : (({ D with left := nl } : Dk).writeN (2 : Nat) (17 + 2 * i.block) (str (blkL i)) 2).armed = D.armed := (writeN_same _ _ _ _ _).2.1
        generalize ({ D with left := nl } : Dk).writeN (2 : Nat) (17 + 2 * i.block) (str (blkL i)) 2 = E at hrun hsec harm
        show (D.armed = true ∧ (applyGo (2 : Nat) e m (n + 1) E).e ≠ 0 ∧ Off2 (applyGo (2 : Nat) e m (n + 1) E).D e (A1 l lg)) ∨ ApOk D e (A1 l lg) (i :: m) n (applyGo (2 : Nat) e m (n + 1) E)
        rcases apply_all hw h0 m (n + 1) E hm' hp'.2 hrun with ⟨x1, x2, x3⟩ | hx
        · exact .inl ⟨harm ▸ x1, x2, x3⟩
        · have hc := hx.cnt
          refine .inr ⟨hx.err, hx.run, hx.armed.trans harm, fun j hj => ?_, fun k hk => ?_, by omega, fun hn => by omega⟩
          · rcases List.mem_cons.1 hj with rfl | hj
            · refine ⟨(hx.other _ (fun j' hj' => ?_)).trans ?_, (hx.other _ (fun j' hj' => ?_)).trans ?_⟩
              · have := hp'.1 j' hj'
                omega
              · rw [hsec, if_pos (by omega)]
                have : (17 + 2 * j.block - (17 + 2 * j.block)).toNat = 0 := by omega
                rw [this, q0]
              · have := hp'.1 j' hj'
                omega
              · rw [hsec, if_pos (by omega)]
                have : (17 + 2 * j.block + 1 - (17 + 2 * j.block)).toNat = 1 := by omega
                rw [this, q1]
            · exact hx.halves j hj
          · rw [hx.other k (fun j hj => hk j (List.mem_cons_of_mem _ hj)), hsec, if_neg]
            have := hk i (List.mem_cons_self ..)
            omega
theorem a2_of {k : Int} {v : ByteArray} (h : A1 l lg k v) (hh : ∀ i ∈ l, (k = 17 + 2 * i.block → v = str (secL i 0)) ∧ (k = 17 + 2 * i.block + 1 → v = str (secL i 1))) : A2 l lg k v := ⟨fun hk => .inl (h.1 hk), h.2.1, hh⟩
theorem a1_of {k : Int} {v : ByteArray} (h : A2 l lg k v) (hh : k = 1 → v = str hd9) : A1 l lg k v := ⟨hh, h.2.1, fun i hi => ⟨fun hk => .inr ((h.2.2 i hi).1 hk), fun hk => .inr ((h.2.2 i hi).2 hk)⟩⟩
theorem halves_at {E : Dk} (hh : ∀ i ∈ l, E.sec (17 + 2 * i.block) = str (secL i 0) ∧ E.sec (17 + 2 * i.block + 1) = str (secL i 1)) (k : Int) : ∀ i ∈ l, (k = 17 + 2 * i.block → E.sec k = str (secL i 0)) ∧ (k = 17 + 2 * i.block + 1 → E.sec k = str (secL i 1)) :=
  fun i hi => ⟨fun hk => by rw [hk]; exact (hh i hi).1, fun hk => by rw [hk]; exact (hh i hi).2⟩
theorem applyR_cut (hw : Wants l) (h0 : e ≠ 0) (h : Run2 D e (A1 l lg)) (hwt : D.waits = []) :
    (D.armed = true ∧ (applyR D (2 : Nat) e l).e ≠ 0 ∧ Off2 (applyR D (2 : Nat) e l).D e (A1 l lg)) ∨
    ((applyR D (2 : Nat) e l).e = 0 ∧ Run2 (applyR D (2 : Nat) e l).D e (A2 l lg) ∧ (applyR D (2 : Nat) e l).D.waits = [] ∧ (applyR D (2 : Nat) e l).D.armed = D.armed ∧ (applyR D (2 : Nat) e l).D.sec 1 = str hd9) := by
  unfold applyR
  rcases apply_all hw h0 l 0 D (fun _ hi => hi) hw.one h with ⟨x1, x2, x3⟩ | hx
  · left
    rw [if_pos x2]
    exact ⟨x1, x2, x3⟩
  · obtain ⟨y1, y2, y3, y4, y5, y6, y7⟩ := hx
    generalize applyGo (2 : Nat) e l 0 D = A at y1 y2 y3 y4 y5 y6 y7
    obtain ⟨n, er, E⟩ := A
    simp only at y1 y2 y3 y4 y5 y6 y7 ⊢
    rw [if_neg (by rw [y1]; decide)]
    have hE1 : E.sec 1 = str hd9 := (y2.safe.sec y2.sane 1).1 rfl
    by_cases hn : n = 0
    · right
      rw [if_pos hn]
      have hED := y7 hn
      refine ⟨y1, y2.weak (by rw [hED]; exact hwt) (fun k => a2_of (y2.safe.sec y2.sane k) (halves_at y4 k)), by rw [hED]; exact hwt, y3, hE1⟩
    · rw [if_neg hn]
      rcases y2.barrier h0 with ⟨w1, w2, w3⟩ | ⟨nl, w1⟩
      · left
        rw [if_pos (by rw [w2]; decide)]
        exact ⟨y3 ▸ w1, by rw [w2]; simp, w3⟩
      · right
        rw [w1, if_neg (by simp)]
        obtain ⟨z1, z2⟩ := (y2.left nl).settle
        have hs : ∀ k, (({ E with left := nl } : Dk).settle (2 : Nat)).sec k = E.sec k := fun k => settle_sec _ _ _
        refine ⟨rfl, z1.weak z2 (fun k => ?_), z2, ?_, (hs 1).trans hE1⟩
        · show A2 l lg k ((({ E with left := nl } : Dk).settle (2 : Nat)).sec k)
          rw [hs]
          exact a2_of (y2.safe.sec y2.sane k) (halves_at y4 k)
        · show (({ E with left := nl } : Dk).settle (2 : Nat)).armed = D.armed
          rw [(settle_same _ _).2.1]
          exact y3
theorem live_scan (h : Live D) (hs : D.sec 1 = str hd9) : D.scan 1 = scanL 9 10 1 (str (D.readL 2 7)) ∧ D.scanE 1 = 0 ∧ D.headE 1 = 0 ∧ D.headI 1 = true ∧ (D.headH 1).epoch = 9 := by
  obtain ⟨_, h2, h3, h4⟩ := head_of h (h := ⟨9, 1, 0⟩) hd9_ok (by decide) (by decide) (by decide) hs
  obtain ⟨r1, r2⟩ := h.read (at_ := 2) (n := 7) (by omega) (by omega) (by omega)
  have hr : D.readE ((logAt 1).1 + 1) 7 = 0 := r1
  refine ⟨?_, ?_, h4, h3, by rw [h2]⟩
  · unfold Dk.scan
    rw [if_neg (by rw [h4, h3, hr]; decide), h2]
    have e : D.readS ((logAt 1).1 + 1) 7 = str (D.readL 2 7) := r2
    rw [e]
    have : rotS (str (D.readL 2 7)) (Int.toNat (⟨9, 1, 0⟩ : Hd).at_ * 64) = str (D.readL 2 7) := by
      show rotS (str (D.readL 2 7)) 0 = _
      unfold rotS
      rw [extract_str, extract_str, str_size, List.drop_zero, List.take_of_length_le (Nat.le_refl _), List.take_zero, List.drop_zero]
      refine ByteArray.ext ?_
      apply Array.toList_inj.1
      simp
      rfl
    rw [this]
  · unfold Dk.scanE
    rw [if_neg (by rw [h4]; decide), if_neg (by rw [h3]; decide)]
    exact hr
theorem run_cut (hw : Wants l) (h0 : e ≠ 0) (h : Run2 D e (A1 l lg)) (hwt : D.waits = []) (hp : planOf (scanL 9 10 1 (str (D.readL 2 7))) = l) :
    (D.armed = true ∧ (runR D 1 9 (2 : Nat) e).e ≠ 0 ∧ (Off2 (runR D 1 9 (2 : Nat) e).D e (A1 l lg) ∨ Off2 (runR D 1 9 (2 : Nat) e).D e (A2 l lg))) ∨
    ((runR D 1 9 (2 : Nat) e).e = 0 ∧ Run2 (runR D 1 9 (2 : Nat) e).D e (A2 l lg) ∧ (runR D 1 9 (2 : Nat) e).D.waits = [] ∧ (runR D 1 9 (2 : Nat) e).D.armed = D.armed ∧ (runR D 1 9 (2 : Nat) e).D.sec 1 = str (zer 64)) := by
  obtain ⟨c1, c2, c3, c4, c5⟩ := live_scan h.live ((h.safe.sec h.sane 1).1 rfl)
  unfold runR
  rw [c1, hp, c2, c3, c4, c5, if_neg (by decide), if_neg (by decide), if_neg (by decide)]
  rcases applyR_cut hw h0 h hwt with ⟨x1, x2, x3⟩ | ⟨y1, y2, y3, y4, y5⟩
  · left
    rw [if_pos x2]
    exact ⟨x1, x2, .inl x3⟩
  · generalize applyR D (2 : Nat) e l = A at y1 y2 y3 y4 y5
    obtain ⟨n, er, E⟩ := A
    simp only at y1 y2 y3 y4 y5 ⊢
    rw [if_neg (by rw [y1]; decide)]
    have hla : (logAt 1).1 = 1 := rfl
    rw [hla]
    have hse : sect (str (zer 64)) 0 = str (zer 64) := sect_zer (by omega)
    rcases y2.write h0 (a := 1) (data := str (zer 64)) (m := 1) (by rw [str_size, zer_len]) (by omega) (by omega) (by omega) (by omega) with ⟨w1, w2, w3⟩ | ⟨nl, w1⟩
    · left
      rw [if_pos (by rw [w2]; decide)]
      exact ⟨y4 ▸ w1, by rw [w2]; simp, .inr w3⟩
    · rw [w1, if_neg (by simp)]
      have hrun : Run2 (({ E with left := nl } : Dk).writeN (2 : Nat) 1 (str (zer 64)) 1) e (A2 l lg) := by
        refine (y2.left nl).wrote (fun j hj => ?_)
        obtain rfl : j = 0 := by omega
        rw [hse]
        refine ⟨fun _ => .inr rfl, fun hk => by omega, fun i hi => ?_⟩
        have := (hw.ok i hi).1.1
        exact ⟨fun hk => by omega, fun hk => by omega⟩
      have hsec : (({ E with left := nl } : Dk).writeN (2 : Nat) 1 (str (zer 64)) 1).sec 1 = str (zer 64) := by
        rw [writeN_sec, if_pos (by omega)]
        exact hse
      have harm : (({ E with left := nl } : Dk).writeN (2 : Nat) 1 (str (zer 64)) 1).armed = E.armed := (writeN_same _ _ _ _ _).2.1
      generalize ({ E with left := nl } : Dk).writeN (2 : Nat) 1 (str (zer 64)) 1 = F at hrun hsec harm
      rcases hrun.barrier h0 with ⟨w1, w2, w3⟩ | ⟨nm, w1⟩
      · left
        rw [if_pos (by rw [w2]; decide)]
        exact ⟨y4 ▸ harm ▸ w1, by rw [w2]; simp, .inr w3⟩
      · right
        rw [w1, if_neg (by simp)]
        obtain ⟨z1, z2⟩ := (hrun.left nm).settle
        refine ⟨rfl, z1, z2, ?_, ?_⟩
        · show (({ F with left := nm } : Dk).settle (2 : Nat)).armed = D.armed
          rw [(settle_same _ _).2.1]
          exact harm.trans y4
        · show (({ F with left := nm } : Dk).settle (2 : Nat)).sec 1 = str (zer 64)
          rw [settle_sec]
          exact hsec
end
end Go.Proofs.YtkhieofknglknaaGreatDoor
