/- Redo: Apply. -/
import Derived.Test.YtianlhigeabehaaGreatDoorKApplyP
namespace Go.Proofs.YtianlhigeabehaaGreatDoor
open Go.RowKit

set_option maxRecDepth 100000 in
set_option maxHeartbeats 8000000 in
theorem eapply_any {o : Nat → Nat} {cd ci p k : Nat} {w : World} {D : Dk} (hd : DiskAt o cd w p D) (ht : Tame D k) (hk : k ≤ 500000) (hcd : 1 ≤ cd) (hf : Fut o w) (hci : ¬ six cd ci) (l : List Im) (A : Option Addr) (cap : Nat) (hown : OwnS o ci w 40 3 (.slice A l.length cap) l.length (imcells l)) (hl : l.length ≤ 100000) (hib : ∀ i ∈ l, i.data.size ≤ maxLen ∧ i.ver < 18446744073709551616) (node : Int) (epoch : Nat) :
    Calls Tryz.prog 53 #[.pointer (some ⟨p, 0, none⟩), .agg #[.int .i64 2, .int .i64 10, .int .i64 8, .int .i64 4, .int .i64 32], .int .i64 node, .int .u64 (epoch : Int), .slice A l.length cap] w fun r w' => r = .returned (.tuple #[.int .i64 (applyR D node epoch l).n, .int .i64 (applyR D node epoch l).e]) ∧ ∃ o', DiskAt o' cd w' p (applyR D node epoch l).D ∧ Tame (applyR D node epoch l).D (k + 2 * l.length) ∧ Step o (six cd) w o' w' := by
  have HG := Lib.hid (Keep.new hf 31 #[.int .i64 2, .int .i64 10, .int .i64 8, .int .i64 4, .int .i64 32])
  have HD := Lib.hid (hd.alloc (.cells #[.int .i64 2, .int .i64 10, .int .i64 8, .int .i64 4, .int .i64 32] 31))
  have HF := Lib.hid (hf.alloc (.cells #[.int .i64 2, .int .i64 10, .int .i64 8, .int .i64 4, .int .i64 32] 31))
  have HO := Lib.hid (hown.alloc (.cells #[.int .i64 2, .int .i64 10, .int .i64 8, .int .i64 4, .int .i64 32] 31))
  have HS := Lib.hid ((Step.refl o (six cd) w).alloc (.cells #[.int .i64 2, .int .i64 10, .int .i64 8, .int .i64 4, .int .i64 32] 31))
  have HT := Lib.hid ht
  have HK := Lib.hid hk
  have HCD := Lib.hid hcd
  have HN0 := Lib.hid (no_six hcd)
  have HCI := Lib.hid hci
  have HIB := Lib.hid hib
  have HL := Lib.hid hl
  have hlI : (l.length : Int) ≤ 100000 := by omega
  have HAR := Lib.hid (show applyR D node epoch l = if (applyGo node epoch l 0 D).e ≠ 0 then applyGo node epoch l 0 D else if (applyGo node epoch l 0 D).n = 0 then applyGo node epoch l 0 D
    else if ((applyGo node epoch l 0 D).D.barrier node epoch).1 ≠ 0 then ⟨0, ((applyGo node epoch l 0 D).D.barrier node epoch).1, ((applyGo node epoch l 0 D).D.barrier node epoch).2⟩
    else ⟨(applyGo node epoch l 0 D).n, 0, ((applyGo node epoch l 0 D).D.barrier node epoch).2⟩ from rfl)
  generalize applyR D node epoch l = S at HAR ⊢
  obtain ⟨R, hR⟩ : ∃ R, applyGo node epoch l 0 D = R := ⟨_, rfl⟩
  rw [hR] at HAR
  have HR := Lib.hid hR.symm
  clear hd ht hk hcd hf hci hown hl hib hR
  go_enter Tryz.func53, Tryz.ntmps53
  go_wp2_with fail
  generalize w.alloc (.cells #[.int .i64 2, .int .i64 10, .int .i64 8, .int .i64 4, .int .i64 32] 31) = W at HG HD HF HO HS ⊢
  generalize w.heap.size = gL at HG ⊢
  go_loopw [12, 22] (fun t12 t22 wr => ∃ (j n : Nat) (D1 : Dk) (o1 : Nat → Nat), j ≤ l.length ∧ n ≤ j ∧ t12 = .int .i64 n ∧ t22 = .int .i64 j ∧ DiskAt o1 cd wr p D1 ∧ Tame D1 (k + 2 * j) ∧ Step o (six cd) w o1 wr ∧ OwnS o1 ci wr 40 3 (.slice A l.length cap) l.length (imcells l) ∧ Fut o1 wr ∧ Keep o1 wr gL 31 #[.int .i64 2, .int .i64 10, .int .i64 8, .int .i64 4, .int .i64 32] ∧ R = applyGo node epoch (l.drop j) n D1) (fun _ t22 _ => l.length - (intOf t22).toNat)
  case atStart => exact ⟨0, 0, D, o, by omega, by omega, rfl, rfl, HD.out, HT.out, HS.out, HO.out, HF.out, HG.out, HR.out⟩
  case round =>
    obtain ⟨j, n, D1, o1, hj, hn, rfl, rfl, hd, ht, hs, ho, hf, hg, hr⟩ := hrel
    have HD1 := Lib.hid hd
    have HT1 := Lib.hid ht
    have HS1 := Lib.hid hs
    have HO1 := Lib.hid ho
    have HF1 := Lib.hid hf
    have HG1 := Lib.hid hg
    have HR1 := Lib.hid hr
    have HNJ := Lib.hid hn
    clear hd ht hs ho hf hg hr hn
    by_cases hlt : j < l.length
    · have hltI : (j : Int) < (l.length : Int) := by omega
      have HJL := Lib.hid hlt
      obtain ⟨x, hx⟩ : ∃ x, l[j]? = some x := ⟨_, List.getElem?_eq_getElem hlt⟩
      have HDR := Lib.hid (show l.drop j = x :: l.drop (j + 1) by obtain ⟨hk, e⟩ := List.getElem?_eq_some_iff.1 hx; rw [← e]; exact List.drop_eq_getElem_cons hk)
      have HXB := Lib.hid (HIB.out x (List.mem_of_getElem? hx))
      obtain ⟨ad, rfl, y0, y1, y2⟩ := (Reads.of_own HO1.out.1).imrow hx
      have HX2 := Lib.hid (Keep.new HF1.out 40 #[.int .i64 x.block, .int .u64 x.ver, .string x.data])
      have HD2 := Lib.hid (HD1.out.alloc (.cells #[.int .i64 x.block, .int .u64 x.ver, .string x.data] 40))
      have HS2 := Lib.hid (HS1.out.alloc (.cells #[.int .i64 x.block, .int .u64 x.ver, .string x.data] 40))
      have HO2 := Lib.hid (HO1.out.alloc (.cells #[.int .i64 x.block, .int .u64 x.ver, .string x.data] 40))
      have HF2 := Lib.hid (HF1.out.alloc (.cells #[.int .i64 x.block, .int .u64 x.ver, .string x.data] 40))
      have HG2 := Lib.hid (HG1.out.alloc (.cells #[.int .i64 x.block, .int .u64 x.ver, .string x.data] 40))
      clear hx
      go_upto_region 5 with (fail)
      generalize wr.alloc (.cells #[.int .i64 x.block, .int .u64 x.ver, .string x.data] 40) = W2 at HX2 HD2 HS2 HO2 HF2 HG2 ⊢
      generalize wr.heap.size = X at HX2 ⊢
      clear y0 y1 y2
      obtain ⟨x0, x1, x2⟩ := HX2.out.1.three
      obtain ⟨g0, g1, g2, g3, g4⟩ := HG2.out.1.five
      go_wp2_with fail
      refine (kload_any HD2.out (by rw [HT1.out.sectors]; omega) HT1.out.wf x.block).mono ?_
      rintro e w3 ⟨rfl, hb3⟩
      have HX3 := Lib.hid (HX2.out.below_ hb3)
      have HD3 := Lib.hid (HD2.out.below_ hb3)
      have HS3 := Lib.hid (HS2.out.trans (Step.of_below o1 (six cd) hb3))
      have HO3 := Lib.hid (HO2.out.below_ hb3)
      have HF3 := Lib.hid (HF2.out.below hb3)
      have HG3 := Lib.hid (HG2.out.below_ hb3)
      clear hb3 x0 x1 x2 g0 g1 g2 g3 g4
      have HRC := Lib.hid (show R = if (D1.load x.block).2 ≠ 0 ∧ tornE (D1.load x.block).2 = false then ⟨0, (D1.load x.block).2, D1⟩
        else if tornE (D1.load x.block).2 = false ∧ x.ver ≤ (D1.load x.block).1.ver then applyGo node epoch (l.drop (j + 1)) n D1
        else if (D1.store node epoch x).1 ≠ 0 then ⟨0, (D1.store node epoch x).1, (D1.store node epoch x).2⟩
        else applyGo node epoch (l.drop (j + 1)) (n + 1) (D1.store node epoch x).2 by rw [HR1.out, HDR.out, applyGo_cons])
      clear HR1
      obtain ⟨Z, hZ⟩ : ∃ Z, D1.load x.block = Z := ⟨_, rfl⟩
      obtain ⟨⟨wb, wv, wd⟩, e⟩ := Z
      rw [hZ] at HRC ⊢
      clear hZ
      unfold Im.agg
      simp only at HRC ⊢
      have HX4 := Lib.hid (HX3.out.alloc (.cells #[.int .i64 wb, .int .u64 wv, .string wd] 40))
      have HD4 := Lib.hid (HD3.out.alloc (.cells #[.int .i64 wb, .int .u64 wv, .string wd] 40))
      have HS4 := Lib.hid (HS3.out.alloc (.cells #[.int .i64 wb, .int .u64 wv, .string wd] 40))
      have HO4 := Lib.hid (HO3.out.alloc (.cells #[.int .i64 wb, .int .u64 wv, .string wd] 40))
      have HF4 := Lib.hid (HF3.out.alloc (.cells #[.int .i64 wb, .int .u64 wv, .string wd] 40))
      have HG4 := Lib.hid (HG3.out.alloc (.cells #[.int .i64 wb, .int .u64 wv, .string wd] 40))
      have HY4 := Lib.hid (Blk.new w3 40 #[.int .i64 wb, .int .u64 wv, .string wd])
      go_upto_region 6 with (fail)
      generalize w3.alloc (.cells #[.int .i64 wb, .int .u64 wv, .string wd] 40) = W4 at HX4 HD4 HS4 HO4 HF4 HG4 HY4 ⊢
      generalize w3.heap.size = Y at HY4 ⊢
      obtain ⟨v0, v1, v2⟩ := HX4.out.1.three
      obtain ⟨u0, u1, u2⟩ := HY4.out.three
      by_cases c0 : e = 0
      · subst c0
        by_cases c1 : x.ver ≤ wv
        · have c1I : (x.ver : Int) ≤ (wv : Int) := by omega
          have HR2 := Lib.hid (show R = applyGo node epoch (l.drop (j + 1)) n D1 by rw [HRC.out]; simp [tornE, c1])
          clear c1 HRC
          go_wp2_with fail
          go_roundw
          case rel => exact ⟨j + 1, n, D1, o1, by have := HJL.out; omega, by have := HNJ.out; omega, by go_num, by go_num, HD4.out, HT1.out.mono (by omega), HS4.out, HO4.out, HF4.out, HG4.out, HR2.out⟩
          case measure => have := HJL.out; simp [intOf]; omega
        · have c1I : ¬ (x.ver : Int) ≤ (wv : Int) := by omega
          have HR2 := Lib.hid (show R = if (D1.store node epoch x).1 ≠ 0 then ⟨0, (D1.store node epoch x).1, (D1.store node epoch x).2⟩ else applyGo node epoch (l.drop (j + 1)) (n + 1) (D1.store node epoch x).2 by rw [HRC.out]; simp [tornE, c1])
          clear c1 HRC
          go_upto_region 10 with (fail)
          clear v0 v1 v2 u0 u1 u2
          obtain ⟨v0, v1, v2⟩ := HX4.out.1.three
          obtain ⟨h0, h1, h2, h3, h4⟩ := HG4.out.1.five
          go_wp2_with fail
          refine (kstore_any HD4.out node epoch x (by have := HT1.out.waits; have := HK.out; have := HL.out; have := HJL.out; omega) (by rw [HT1.out.sectors]; omega) (by have := HT1.out.seq; have := HK.out; have := HL.out; have := HJL.out; omega) HXB.out.1 HXB.out.2 HCD.out HF4.out).mono ?_
          rintro r w5 ⟨rfl, o5, hd5, hs5⟩
          have HD5 := Lib.hid hd5
          have HS5 := Lib.hid (HS4.out.trans hs5)
          have HO5 := Lib.hid (HO4.out.step hs5 HCI.out)
          have HF5 := Lib.hid (HF4.out.step hs5)
          have HG5 := Lib.hid (HG4.out.step hs5 HN0.out)
          have HT5 := Lib.hid ((HT1.out.store node epoch x).mono (m := k + 2 * (j + 1)) (by omega))
          clear hd5 hs5 v0 v1 v2 h0 h1 h2 h3 h4
          obtain ⟨F, hF⟩ : ∃ F, D1.store node epoch x = F := ⟨_, rfl⟩
          rw [hF] at HR2 HD5 HT5 ⊢
          obtain ⟨F, D5⟩ := F
          simp only at HR2 HD5 HT5 ⊢
          clear hF
          by_cases h9 : F = 0
          · subst h9
            have HR3 := Lib.hid (show R = applyGo node epoch (l.drop (j + 1)) (n + 1) D5 by rw [HR2.out]; simp)
            have hw : IntKind.i64.wrap ((n : Int) + 1) = ((n + 1 : Nat) : Int) := by rw [IntWalk.i64_in _ (by have := HNJ.out; have := HL.out; have := HJL.out; omega)]; omega
            clear HR2
            go_wp2_with fail
            go_roundw
            case rel => exact ⟨j + 1, n + 1, D5, o5, by have := HJL.out; omega, by have := HNJ.out; omega, by go_num, by go_num, HD5.out, HT5.out, HS5.out, HO5.out, HF5.out, HG5.out, HR3.out⟩
            case measure => have := HJL.out; simp [intOf]; omega
          · have t1 : (F != 0) = true := bne_iff_ne.2 h9
            have HR3 := Lib.hid (show R = ⟨0, F, D5⟩ by rw [HR2.out, if_pos h9])
            have HS9 := Lib.hid (show S = ⟨0, F, D5⟩ by rw [HAR.out, HR3.out, if_pos h9])
            clear HR2 h9
            go_wp2_with fail
            go_ret2
            exact ⟨by rw [HS9.out]; rfl, o5, by rw [HS9.out]; exact HD5.out, by rw [HS9.out]; exact HT5.out.mono (by have := HJL.out; omega), HS5.out⟩
      · by_cases c6 : e = 6
        · subst c6
          have HR2 := Lib.hid (show R = if (D1.store node epoch x).1 ≠ 0 then ⟨0, (D1.store node epoch x).1, (D1.store node epoch x).2⟩ else applyGo node epoch (l.drop (j + 1)) (n + 1) (D1.store node epoch x).2 by rw [HRC.out]; simp [tornE])
          clear HRC c0
          go_upto_region 10 with (fail)
          clear v0 v1 v2 u0 u1 u2
          obtain ⟨v0, v1, v2⟩ := HX4.out.1.three
          obtain ⟨h0, h1, h2, h3, h4⟩ := HG4.out.1.five
          go_wp2_with fail
          refine (kstore_any HD4.out node epoch x (by have := HT1.out.waits; have := HK.out; have := HL.out; have := HJL.out; omega) (by rw [HT1.out.sectors]; omega) (by have := HT1.out.seq; have := HK.out; have := HL.out; have := HJL.out; omega) HXB.out.1 HXB.out.2 HCD.out HF4.out).mono ?_
          rintro r w5 ⟨rfl, o5, hd5, hs5⟩
          have HD5 := Lib.hid hd5
          have HS5 := Lib.hid (HS4.out.trans hs5)
          have HO5 := Lib.hid (HO4.out.step hs5 HCI.out)
          have HF5 := Lib.hid (HF4.out.step hs5)
          have HG5 := Lib.hid (HG4.out.step hs5 HN0.out)
          have HT5 := Lib.hid ((HT1.out.store node epoch x).mono (m := k + 2 * (j + 1)) (by omega))
          clear hd5 hs5 v0 v1 v2 h0 h1 h2 h3 h4
          obtain ⟨F, hF⟩ : ∃ F, D1.store node epoch x = F := ⟨_, rfl⟩
          rw [hF] at HR2 HD5 HT5 ⊢
          obtain ⟨F, D5⟩ := F
          simp only at HR2 HD5 HT5 ⊢
          clear hF
          by_cases h9 : F = 0
          · subst h9
            have HR3 := Lib.hid (show R = applyGo node epoch (l.drop (j + 1)) (n + 1) D5 by rw [HR2.out]; simp)
            have hw : IntKind.i64.wrap ((n : Int) + 1) = ((n + 1 : Nat) : Int) := by rw [IntWalk.i64_in _ (by have := HNJ.out; have := HL.out; have := HJL.out; omega)]; omega
            clear HR2
            go_wp2_with fail
            go_roundw
            case rel => exact ⟨j + 1, n + 1, D5, o5, by have := HJL.out; omega, by have := HNJ.out; omega, by go_num, by go_num, HD5.out, HT5.out, HS5.out, HO5.out, HF5.out, HG5.out, HR3.out⟩
            case measure => have := HJL.out; simp [intOf]; omega
          · have t1 : (F != 0) = true := bne_iff_ne.2 h9
            have HR3 := Lib.hid (show R = ⟨0, F, D5⟩ by rw [HR2.out, if_pos h9])
            have HS9 := Lib.hid (show S = ⟨0, F, D5⟩ by rw [HAR.out, HR3.out, if_pos h9])
            clear HR2 h9
            go_wp2_with fail
            go_ret2
            exact ⟨by rw [HS9.out]; rfl, o5, by rw [HS9.out]; exact HD5.out, by rw [HS9.out]; exact HT5.out.mono (by have := HJL.out; omega), HS5.out⟩
        · by_cases c4 : e = 4
          · subst c4
            have HR2 := Lib.hid (show R = if (D1.store node epoch x).1 ≠ 0 then ⟨0, (D1.store node epoch x).1, (D1.store node epoch x).2⟩ else applyGo node epoch (l.drop (j + 1)) (n + 1) (D1.store node epoch x).2 by rw [HRC.out]; simp [tornE])
            clear HRC c0 c6
            go_upto_region 10 with (fail)
            clear v0 v1 v2 u0 u1 u2
            obtain ⟨v0, v1, v2⟩ := HX4.out.1.three
            obtain ⟨h0, h1, h2, h3, h4⟩ := HG4.out.1.five
            go_wp2_with fail
            refine (kstore_any HD4.out node epoch x (by have := HT1.out.waits; have := HK.out; have := HL.out; have := HJL.out; omega) (by rw [HT1.out.sectors]; omega) (by have := HT1.out.seq; have := HK.out; have := HL.out; have := HJL.out; omega) HXB.out.1 HXB.out.2 HCD.out HF4.out).mono ?_
            rintro r w5 ⟨rfl, o5, hd5, hs5⟩
            have HD5 := Lib.hid hd5
            have HS5 := Lib.hid (HS4.out.trans hs5)
            have HO5 := Lib.hid (HO4.out.step hs5 HCI.out)
            have HF5 := Lib.hid (HF4.out.step hs5)
            have HG5 := Lib.hid (HG4.out.step hs5 HN0.out)
            have HT5 := Lib.hid ((HT1.out.store node epoch x).mono (m := k + 2 * (j + 1)) (by omega))
            clear hd5 hs5 v0 v1 v2 h0 h1 h2 h3 h4
            obtain ⟨F, hF⟩ : ∃ F, D1.store node epoch x = F := ⟨_, rfl⟩
            rw [hF] at HR2 HD5 HT5 ⊢
            obtain ⟨F, D5⟩ := F
            simp only at HR2 HD5 HT5 ⊢
            clear hF
            by_cases h9 : F = 0
            · subst h9
              have HR3 := Lib.hid (show R = applyGo node epoch (l.drop (j + 1)) (n + 1) D5 by rw [HR2.out]; simp)
              have hw : IntKind.i64.wrap ((n : Int) + 1) = ((n + 1 : Nat) : Int) := by rw [IntWalk.i64_in _ (by have := HNJ.out; have := HL.out; have := HJL.out; omega)]; omega
              clear HR2
              go_wp2_with fail
              go_roundw
              case rel => exact ⟨j + 1, n + 1, D5, o5, by have := HJL.out; omega, by have := HNJ.out; omega, by go_num, by go_num, HD5.out, HT5.out, HS5.out, HO5.out, HF5.out, HG5.out, HR3.out⟩
              case measure => have := HJL.out; simp [intOf]; omega
            · have t1 : (F != 0) = true := bne_iff_ne.2 h9
              have HR3 := Lib.hid (show R = ⟨0, F, D5⟩ by rw [HR2.out, if_pos h9])
              have HS9 := Lib.hid (show S = ⟨0, F, D5⟩ by rw [HAR.out, HR3.out, if_pos h9])
              clear HR2 h9
              go_wp2_with fail
              go_ret2
              exact ⟨by rw [HS9.out]; rfl, o5, by rw [HS9.out]; exact HD5.out, by rw [HS9.out]; exact HT5.out.mono (by have := HJL.out; omega), HS5.out⟩
          · have HR2 := Lib.hid (show R = ⟨0, e, D1⟩ by rw [HRC.out]; simp [tornE, c0, c6, c4])
            have HS9 := Lib.hid (show S = ⟨0, e, D1⟩ by rw [HAR.out, HR2.out, if_pos c0])
            have t0 : (e != 0) = true := bne_iff_ne.2 c0
            have t6 : (e == 6) = false := beq_eq_false_iff_ne.2 c6
            have t4 : (e == 4) = false := beq_eq_false_iff_ne.2 c4
            clear c0 c6 c4 HRC
            go_wp2_with fail
            go_ret2
            exact ⟨by rw [HS9.out]; rfl, o1, by rw [HS9.out]; exact HD4.out, by rw [HS9.out]; exact HT1.out.mono (by have := HJL.out; omega), HS4.out⟩
    · have hltI : ¬ (j : Int) < (l.length : Int) := by omega
      obtain rfl : j = l.length := by omega
      have HR2 := Lib.hid (show R = ⟨n, 0, D1⟩ by rw [HR1.out, List.drop_length]; rfl)
      clear HR1
      by_cases n0 : n = 0
      · subst n0
        have HS9 := Lib.hid (show S = ⟨0, 0, D1⟩ by rw [HAR.out, HR2.out]; simp)
        go_wp2_with fail
        go_ret2
        exact ⟨by rw [HS9.out]; rfl, o1, by rw [HS9.out]; exact HD1.out, by rw [HS9.out]; exact HT1.out, HS1.out⟩
      · have n0I : (0 : Int) < (n : Int) := by omega
        have HS8 := Lib.hid (show S = if (D1.barrier node epoch).1 ≠ 0 then ⟨0, (D1.barrier node epoch).1, (D1.barrier node epoch).2⟩ else ⟨n, 0, (D1.barrier node epoch).2⟩ by rw [HAR.out, HR2.out]; simp [n0])
        clear n0
        go_wp2_with fail
        refine (dbarrier_calm HD1.out node epoch (by have := HT1.out.waits; have := HK.out; have := HL.out; omega)).mono ?_
        rintro r w5 ⟨rfl, o5, hd5, hs5⟩
        have HD5 := Lib.hid hd5
        have HS5 := Lib.hid (HS1.out.trans hs5)
        have HT5 := Lib.hid (HT1.out.barrier node epoch)
        clear hd5 hs5
        obtain ⟨F, hF⟩ : ∃ F, D1.barrier node epoch = F := ⟨_, rfl⟩
        rw [hF] at HS8 HD5 HT5 ⊢
        obtain ⟨F, D5⟩ := F
        simp only at HS8 HD5 HT5 ⊢
        clear hF
        by_cases h9 : F = 0
        · subst h9
          have HS9 := Lib.hid (show S = ⟨n, 0, D5⟩ by rw [HS8.out]; simp)
          go_wp2_with fail
          go_ret2
          exact ⟨by rw [HS9.out]; rfl, o5, by rw [HS9.out]; exact HD5.out, by rw [HS9.out]; exact HT5.out, HS5.out⟩
        · have t1 : (F != 0) = true := bne_iff_ne.2 h9
          have HS9 := Lib.hid (show S = ⟨0, F, D5⟩ by rw [HS8.out, if_pos h9])
          clear h9
          go_wp2_with fail
          go_ret2
          exact ⟨by rw [HS9.out]; rfl, o5, by rw [HS9.out]; exact HD5.out, by rw [HS9.out]; exact HT5.out, HS5.out⟩
end Go.Proofs.YtianlhigeabehaaGreatDoor
