/- Redo: Run. -/
import Derived.Test.YtianlhigeabehaaGreatDoorKRedoD
import Derived.Test.YtianlhigeabehaaGreatDoorKScanP
import Derived.Test.YtianlhigeabehaaGreatDoorKLogE
import Derived.Test.YtianlhigeabehaaGreatDoorKApplyP
namespace Go.Proofs.YtianlhigeabehaaGreatDoor
open Go.RowKit

set_option maxRecDepth 100000 in
set_option maxHeartbeats 8000000 in
theorem erun_any {o : Nat → Nat} {cd p k : Nat} {w : World} {D : Dk} (hd : DiskAt o cd w p D) (ht : Tame D k) (hk : k ≤ 400000) (hcd : 1 ≤ cd) (hf : Fut o w) (node : Int) (of_ : Nat) (by_ : Int) (epoch : Nat) :
    Calls Tryz.prog 15 #[.pointer (some ⟨p, 0, none⟩), .agg #[.int .i64 2, .int .i64 10, .int .i64 8, .int .i64 4, .int .i64 32], .int .i64 node, .int .u64 (of_ : Int), .int .i64 by_, .int .u64 (epoch : Int)] w fun r w' => r = .returned (.tuple #[.int .i64 (runR D node of_ by_ epoch).n, .int .i64 (runR D node of_ by_ epoch).e]) ∧ ∃ o', DiskAt o' cd w' p (runR D node of_ by_ epoch).D ∧ Tame (runR D node of_ by_ epoch).D (k + 2001) ∧ Step o (six cd) w o' w' := by
  have HG := Lib.hid (Keep.new hf 31 #[.int .i64 2, .int .i64 10, .int .i64 8, .int .i64 4, .int .i64 32])
  have HD := Lib.hid (hd.alloc (.cells #[.int .i64 2, .int .i64 10, .int .i64 8, .int .i64 4, .int .i64 32] 31))
  have HF := Lib.hid (hf.alloc (.cells #[.int .i64 2, .int .i64 10, .int .i64 8, .int .i64 4, .int .i64 32] 31))
  have HS := Lib.hid ((Step.refl o (six cd) w).alloc (.cells #[.int .i64 2, .int .i64 10, .int .i64 8, .int .i64 4, .int .i64 32] 31))
  have HT := Lib.hid ht
  have HK := Lib.hid hk
  have HCD := Lib.hid hcd
  have HN0 := Lib.hid (no_six hcd)
  have HN7 := Lib.hid (show ¬ six cd (cd + 6) by unfold six; omega)
  have hsec : D.sectors ≤ 20000 := by rw [ht.sectors]; omega
  have hwf := ht.wf
  have HSM := Lib.hid (scan_small D node)
  obtain ⟨L, hL⟩ : ∃ L, planOf (D.scan node) = L := ⟨_, rfl⟩
  obtain ⟨⟨la, le⟩, hla⟩ : ∃ A, logAt node = A := ⟨_, rfl⟩
  have HRUN := Lib.hid (show runR D node of_ by_ epoch = if D.headE node ≠ 0 then ⟨0, D.headE node, D⟩ else if D.headI node = false ∨ (D.headH node).epoch ≠ of_ then ⟨0, 0, D⟩
    else if D.scanE node ≠ 0 then ⟨0, D.scanE node, D⟩
    else if (applyR D by_ epoch L).e ≠ 0 then ⟨0, (applyR D by_ epoch L).e, (applyR D by_ epoch L).D⟩
    else if ((applyR D by_ epoch L).D.write by_ epoch (logAt node).1 (str (zer 64))).1 ≠ 0 then ⟨0, ((applyR D by_ epoch L).D.write by_ epoch (logAt node).1 (str (zer 64))).1, ((applyR D by_ epoch L).D.write by_ epoch (logAt node).1 (str (zer 64))).2⟩
    else if (((applyR D by_ epoch L).D.write by_ epoch (logAt node).1 (str (zer 64))).2.barrier by_ epoch).1 ≠ 0 then ⟨0, (((applyR D by_ epoch L).D.write by_ epoch (logAt node).1 (str (zer 64))).2.barrier by_ epoch).1, (((applyR D by_ epoch L).D.write by_ epoch (logAt node).1 (str (zer 64))).2.barrier by_ epoch).2⟩
    else ⟨(applyR D by_ epoch L).n, 0, (((applyR D by_ epoch L).D.write by_ epoch (logAt node).1 (str (zer 64))).2.barrier by_ epoch).2⟩ by rw [← hL]; rfl)
  generalize runR D node of_ by_ epoch = R at HRUN ⊢
  have HPL := Lib.hid hL
  have HLA := Lib.hid hla
  rw [hla] at HRUN
  simp only at HRUN
  clear hla hd ht hk hcd hf hL
  go_enter Tryz.func15, Tryz.ntmps15
  go_wp2_with fail
  generalize w.alloc (.cells #[.int .i64 2, .int .i64 10, .int .i64 8, .int .i64 4, .int .i64 32] 31) = W at HG HD HF HS ⊢
  refine (ehead_any HD.out hsec hwf node).mono ?_
  rintro r w1 ⟨rfl, hb1⟩
  have HG1 := Lib.hid (HG.out.below_ hb1)
  have HD1 := Lib.hid (HD.out.below_ hb1)
  have HF1 := Lib.hid (HF.out.below hb1)
  have HS1 := Lib.hid (HS.out.trans (Step.of_below o (six cd) hb1))
  clear hb1
  obtain ⟨X, hX⟩ : ∃ X, D.headH node = X := ⟨_, rfl⟩
  obtain ⟨xe, xl, xa⟩ := X
  rw [hX] at HRUN ⊢
  unfold Hd.agg
  simp only at HRUN ⊢
  clear hX
  have HG2 := Lib.hid (HG1.out.alloc (.cells #[.int .u64 xe, .int .u64 xl, .int .i64 xa] 95))
  have HD2 := Lib.hid (HD1.out.alloc (.cells #[.int .u64 xe, .int .u64 xl, .int .i64 xa] 95))
  have HF2 := Lib.hid (HF1.out.alloc (.cells #[.int .u64 xe, .int .u64 xl, .int .i64 xa] 95))
  have HS2 := Lib.hid (HS1.out.alloc (.cells #[.int .u64 xe, .int .u64 xl, .int .i64 xa] 95))
  have HX2 := Lib.hid (Blk.new w1 95 #[.int .u64 xe, .int .u64 xl, .int .i64 xa])
  obtain ⟨E, hE⟩ : ∃ E, D.headE node = E := ⟨_, rfl⟩
  rw [hE] at HRUN ⊢
  clear hE
  go_upto_region 2 with (fail)
  generalize w1.alloc (.cells #[.int .u64 xe, .int .u64 xl, .int .i64 xa] 95) = W2 at HG2 HD2 HF2 HS2 HX2 ⊢
  generalize w1.heap.size = gX at HX2 ⊢
  obtain ⟨x0, x1, x2⟩ := HX2.out.three
  by_cases c0 : E = 0
  · subst c0
    cases hI : D.headI node with
    | false =>
      have HR := Lib.hid (show R = ⟨0, 0, D⟩ by rw [HRUN.out, hI]; simp)
      clear hI HRUN
      go_wp2_with fail
      go_ret2
      exact ⟨by rw [HR.out]; rfl, o, by rw [HR.out]; exact HD2.out, by rw [HR.out]; exact HT.out.mono (by omega), HS2.out⟩
    | true =>
      by_cases c1 : xe = of_
      · subst c1
        rw [hI] at HRUN
        clear hI
        obtain ⟨g0, g1, g2, g3, g4⟩ := HG2.out.1.five
        go_wp2_with fail
        refine (escan_any HD2.out hsec hwf node).mono ?_
        rintro r w3 ⟨A, cap, rfl, o3, vs, hra⟩
        have hlow := hra.env.low
        have HD3 := Lib.hid (HD2.out.below_ hlow)
        have HF3 := Lib.hid (HF2.out.below hlow)
        have HG3 := Lib.hid (HG2.out.below_ hlow)
        have HS3 := Lib.hid (HS2.out.trans (Step.of_below o (six cd) hlow))
        obtain ⟨s1, s2⟩ := HSM.out
        obtain ⟨p1, p2⟩ := plan_small s2
        rw [HPL.out] at p1 p2
        have hpc : ∀ W, Below w3.heap.size w3 W → Calls Tryz.prog 13 #[.slice A (D.scan node).length cap] W fun e w' => ∃ A' cap', e = .returned (.slice A' L.length cap') ∧ OwnS (band o W.heap.size w'.heap.size (cd + 6)) (cd + 6) w' 40 3 (.slice A' L.length cap') L.length (imcells L) ∧ Below W.heap.size W w' := fun W hb => by
          have h := eplan_any o (cd + 6) (D.scan node) vs A cap W (hra.rd.below_ hb) (by omega) (fun r hr => ⟨by have := (s2 r hr).1; omega, fun i hi => by obtain ⟨a, b, c, d⟩ := (s2 r hr).2 i hi; exact ⟨by omega, by unfold iRange; omega⟩⟩)
          rw [HPL.out] at h
          exact h
        have HPC := Lib.hid hpc
        have HLL := Lib.hid (show L.length ≤ 100000 by omega)
        have HLS := Lib.hid (show L.length ≤ 1000 by omega)
        have HIB := Lib.hid (show ∀ i ∈ L, i.data.size ≤ maxLen ∧ i.ver < 18446744073709551616 from fun i hi => by obtain ⟨a, b, c, d⟩ := p2 i hi; exact ⟨by unfold maxLen; omega, b⟩)
        generalize D.scan node = rs at HPC ⊢
        obtain ⟨Q, hQ⟩ : ∃ Q, D.scanE node = Q := ⟨_, rfl⟩
        rw [hQ] at HRUN ⊢
        clear hlow hra s1 s2 p1 p2 hpc HSM HPL g0 g1 g2 g3 g4 x0 x1 x2 hQ
        by_cases c2 : Q = 0
        · subst c2
          go_upto_region 7 with (fail)
          have z5 := HG3.out.drew.1.five
          go_region_held3 (fun w' => w'.cell? ⟨w.heap.size, 0, none⟩ = some (.int .i64 2) ∧ w'.cell? ⟨w.heap.size, 1, none⟩ = some (.int .i64 10) ∧ w'.cell? ⟨w.heap.size, 2, none⟩ = some (.int .i64 8) ∧ w'.cell? ⟨w.heap.size, 3, none⟩ = some (.int .i64 4) ∧ w'.cell? ⟨w.heap.size, 4, none⟩ = some (.int .i64 32))
            (first | exact z5 | exact hg5.1.five | exact hg4.1.five | go_keep)
            (first
              | (go_at_call 13; ((with_reducible refine (HPC.out w3.drew (below_drew' (Below.refl _ _))).mono ?_); rintro e4 w4 ⟨A4, cap4, rfl, hown4, hb4⟩; have hst4 : Step o (fun _ => False) w3.drew (band o w3.drew.heap.size w4.heap.size (cd + 6)) w4 := Step.of_below_band o _ (cd + 6) hb4; have hg4 := HG3.out.drew.step hst4 id))
              | (go_at_call 53; ((with_reducible refine (eapply_any (HD3.out.drew.step hst4 (fun _ _ _ => id)) HT.out (by have := HK.out; omega) HCD.out (HF3.out.drew.step hst4) HN7.out L A4 cap4 hown4 HLL.out HIB.out by_ epoch).mono ?_); rintro r5 w5 ⟨rfl, o5, hd5, ht5, hs5⟩; have hg5 := hg4.step hs5 HN0.out)))
          have HD5 := Lib.hid hd5
          have HT5 := Lib.hid (ht5.mono (m := k + 2000) (by have := HLS.out; omega))
          have HG5 := Lib.hid hg5
          have HS5 := Lib.hid (HS3.out.trans (((hst4.of_drew).mono (fun _ h => h.elim)).trans hs5))
          clear hd5 ht5 hg5 hs5 hst4 hg4 hown4 hb4 z5 HPC HIB
          obtain ⟨P, hP⟩ : ∃ P, applyR D by_ epoch L = P := ⟨_, rfl⟩
          rw [hP] at HRUN HD5 HT5 ⊢
          obtain ⟨n5, e5, D5⟩ := P
          simp only at HRUN HD5 HT5 ⊢
          clear hP
          by_cases c3 : e5 = 0
          · subst c3
            obtain ⟨h0, h1, h2, h3, h4⟩ := HG5.out.1.five
            go_wp2_with fail
            refine (logat_any node w5).mono ?_
            rintro r w6 ⟨rfl, hb6⟩
            rw [HLA.out]
            have HD6 := Lib.hid (HD5.out.below_ hb6)
            have HS6 := Lib.hid (HS5.out.trans (Step.of_below o5 (six cd) hb6))
            clear hb6 h0 h1 h2 h3 h4
            go_wp2_with fail
            refine (rep0_any 64 (by omega) (by omega) w6).mono ?_
            rintro r w7 ⟨rfl, hb7⟩
            have HD7 := Lib.hid (HD6.out.below_ hb7)
            have HS7 := Lib.hid (HS6.out.trans (Step.of_below o5 (six cd) hb7))
            rw [show Int.toNat 64 = 64 from rfl]
            clear hb7
            go_wp2_with fail
            refine (dwrite_calm HD7.out by_ epoch la (str (zer 64)) (by have := HT5.out.waits; have := HK.out; omega) (by rw [HT5.out.sectors]; omega) (by have := HT5.out.seq; have := HK.out; omega) (by rw [str_size, zer_len]; omega) HCD.out).mono ?_
            rintro r w8 ⟨rfl, o8, hd8, hs8⟩
            have HD8 := Lib.hid hd8
            have HS8 := Lib.hid (HS7.out.trans hs8)
            have HT8 := Lib.hid ((HT5.out.write by_ epoch la (str (zer 64))).mono (m := k + 2001) (by rw [str_size, zer_len]; omega))
            clear hd8 hs8
            obtain ⟨F, hF⟩ : ∃ F, D5.write by_ epoch la (str (zer 64)) = F := ⟨_, rfl⟩
            rw [hF] at HRUN HD8 HT8 ⊢
            obtain ⟨F, D8⟩ := F
            simp only at HRUN HD8 HT8 ⊢
            clear hF
            by_cases c4 : F = 0
            · subst c4
              go_wp2_with fail
              refine (dbarrier_calm HD8.out by_ epoch (by have := HT8.out.waits; have := HK.out; omega)).mono ?_
              rintro r w9 ⟨rfl, o9, hd9, hs9⟩
              have HD9 := Lib.hid hd9
              have HS9 := Lib.hid (HS8.out.trans hs9)
              have HT9 := Lib.hid (HT8.out.barrier by_ epoch)
              clear hd9 hs9
              obtain ⟨G, hG⟩ : ∃ G, D8.barrier by_ epoch = G := ⟨_, rfl⟩
              rw [hG] at HRUN HD9 HT9 ⊢
              obtain ⟨G, D9⟩ := G
              simp only at HRUN HD9 HT9 ⊢
              clear hG
              by_cases c5 : G = 0
              · subst c5
                have HR := Lib.hid (show R = ⟨n5, 0, D9⟩ by rw [HRUN.out]; simp)
                clear HRUN
                go_wp2_with fail
                go_ret2
                exact ⟨by rw [HR.out]; rfl, o9, by rw [HR.out]; exact HD9.out, by rw [HR.out]; exact HT9.out, HS9.out⟩
              · have t1 : (G != 0) = true := bne_iff_ne.2 c5
                have HR := Lib.hid (show R = ⟨0, G, D9⟩ by rw [HRUN.out]; simp [c5])
                clear c5 HRUN
                go_wp2_with fail
                go_ret2
                exact ⟨by rw [HR.out]; rfl, o9, by rw [HR.out]; exact HD9.out, by rw [HR.out]; exact HT9.out, HS9.out⟩
            · have t1 : (F != 0) = true := bne_iff_ne.2 c4
              have HR := Lib.hid (show R = ⟨0, F, D8⟩ by rw [HRUN.out]; simp [c4])
              clear c4 HRUN
              go_wp2_with fail
              go_ret2
              exact ⟨by rw [HR.out]; rfl, o8, by rw [HR.out]; exact HD8.out, by rw [HR.out]; exact HT8.out, HS8.out⟩
          · have t1 : (e5 != 0) = true := bne_iff_ne.2 c3
            have HR := Lib.hid (show R = ⟨0, e5, D5⟩ by rw [HRUN.out]; simp [c3])
            clear c3 HRUN
            go_wp2_with fail
            go_ret2
            exact ⟨by rw [HR.out]; rfl, o5, by rw [HR.out]; exact HD5.out, by rw [HR.out]; exact HT5.out.mono (by omega), HS5.out⟩
        · have t1 : (Q != 0) = true := bne_iff_ne.2 c2
          have HR := Lib.hid (show R = ⟨0, Q, D⟩ by rw [HRUN.out]; simp [c2])
          clear c2 HRUN
          go_wp2_with fail
          go_ret2
          exact ⟨by rw [HR.out]; rfl, o, by rw [HR.out]; exact HD3.out, by rw [HR.out]; exact HT.out.mono (by omega), HS3.out⟩
      · have c1I : ¬ (xe : Int) = (of_ : Int) := by omega
        have t2 : ((xe : Int) != (of_ : Int)) = true := bne_iff_ne.2 c1I
        have HR := Lib.hid (show R = ⟨0, 0, D⟩ by rw [HRUN.out, hI]; simp [c1])
        clear hI HRUN c1
        go_wp2_with fail
        go_ret2
        exact ⟨by rw [HR.out]; rfl, o, by rw [HR.out]; exact HD2.out, by rw [HR.out]; exact HT.out.mono (by omega), HS2.out⟩
  · have t1 : (E != 0) = true := bne_iff_ne.2 c0
    have HR := Lib.hid (show R = ⟨0, E, D⟩ by rw [HRUN.out, if_pos c0])
    clear c0 HRUN
    go_wp2_with fail
    go_ret2
    exact ⟨by rw [HR.out]; rfl, o, by rw [HR.out]; exact HD2.out, by rw [HR.out]; exact HT.out.mono (by omega), HS2.out⟩
end Go.Proofs.YtianlhigeabehaaGreatDoor

/- A node's log: Open, where all is well. -/
namespace Go.Proofs.YtianlhigeabehaaGreatDoor
open Go.RowKit

def Lg.new (node epoch base : Nat) : Lg := ⟨node, epoch, base, 1, 1, 0, 0, 0, [], false⟩
set_option maxRecDepth 100000 in
set_option maxHeartbeats 8000000 in
theorem gopen_any {o : Nat → Nat} {c cd p k : Nat} {w : World} {D : Dk} (hd : DiskAt o cd w p D) (ht : Tame D k) (hk : k ≤ 800000) (hcd : 1 ≤ cd) (hc : cd + 5 < c) (hf : Fut o w) (node epoch base : Nat) (hla : logAt (node : Int) = ((base : Int), 0)) (hep : epoch < 18446744073709551616) (hok : (D.lhead (Lg.new node epoch base) ⟨epoch, 1, 0⟩).1 = 0) :
    Calls Tryz.prog 7 #[.pointer (some ⟨p, 0, none⟩), .agg #[.int .i64 2, .int .i64 10, .int .i64 8, .int .i64 4, .int .i64 32], .int .i64 (node : Int), .int .u64 (epoch : Int)] w fun e w' => ∃ q, e = .returned (.tuple #[.pointer (some ⟨q, 0, none⟩), .int .i64 0]) ∧ ∃ o', DiskAt o' cd w' p (D.lhead (Lg.new node epoch base) ⟨epoch, 1, 0⟩).2 ∧ LogAt o' c w' q (Lg.new node epoch base) p ∧ Step o (six cd) w o' w' := by
  have HG := Lib.hid (Keep.new hf 31 #[.int .i64 2, .int .i64 10, .int .i64 8, .int .i64 4, .int .i64 32])
  have HD := Lib.hid (hd.alloc (.cells #[.int .i64 2, .int .i64 10, .int .i64 8, .int .i64 4, .int .i64 32] 31))
  have HF := Lib.hid (hf.alloc (.cells #[.int .i64 2, .int .i64 10, .int .i64 8, .int .i64 4, .int .i64 32] 31))
  have HS := Lib.hid ((Step.refl o (six cd) w).alloc (.cells #[.int .i64 2, .int .i64 10, .int .i64 8, .int .i64 4, .int .i64 32] 31))
  have HT := Lib.hid ht
  have HK := Lib.hid hk
  have HCD := Lib.hid hcd
  have HC := Lib.hid hc
  have HLA := Lib.hid hla
  have HEP := Lib.hid hep
  have HOK := Lib.hid hok
  clear hd ht hk hcd hc hf hla hep hok
  go_enter Tryz.func7, Tryz.ntmps7
  go_wp2_with fail
  generalize w.alloc (.cells #[.int .i64 2, .int .i64 10, .int .i64 8, .int .i64 4, .int .i64 32] 31) = W at HG HD HF HS ⊢
  refine (logat_any node W).mono ?_
  rintro r w1 ⟨rfl, hb1⟩
  rw [HLA.out]
  have HG1 := Lib.hid (HG.out.below_ hb1)
  have HD1 := Lib.hid (HD.out.below_ hb1)
  have HF1 := Lib.hid (HF.out.below hb1)
  have HS1 := Lib.hid (HS.out.trans (Step.of_below o (six cd) hb1))
  clear hb1
  go_upto_region 6 with (fail)
  have z5 := HG1.out.drew.1.five
  go_region_held3 (fun w' => w'.cell? ⟨w.heap.size, 0, none⟩ = some (.int .i64 2) ∧ w'.cell? ⟨w.heap.size, 1, none⟩ = some (.int .i64 10) ∧ w'.cell? ⟨w.heap.size, 2, none⟩ = some (.int .i64 8) ∧ w'.cell? ⟨w.heap.size, 3, none⟩ = some (.int .i64 4) ∧ w'.cell? ⟨w.heap.size, 4, none⟩ = some (.int .i64 32))
    (first | exact z5 | exact hg2.1.five | exact (hg2.alloc _).1.five | go_keep)
    (first | (go_at_call 31; ((with_reducible refine (enew_any o (c + 1) 100000 (by omega) (by omega) w1.drew).mono ?_); rintro e2 w2 ⟨rfl, hr2, hb2⟩; have hst2 : Step o (fun _ => False) w1.drew (band o w1.drew.heap.size w2.heap.size (c + 1)) w2 := Step.of_below_band o _ (c + 1) hb2; have hg2 := HG1.out.drew.step hst2 id)))
  obtain ⟨o3, hq, hs3⟩ := alloc_as (band o w1.drew.heap.size w2.heap.size (c + 1)) w2 (.cells #[.pointer (some ⟨p, 0, none⟩), .int .i64 2, .int .i64 10, .int .i64 8, .int .i64 4, .int .i64 32, .int .i64 node, .int .u64 epoch, .int .i64 base, .int .u64 1, .int .u64 1, .int .i64 0, .int .u64 0, .int .u64 0, .pointer (some ⟨w1.heap.size, 0, none⟩), .bool false] 77) c
  have hs4 : Step o (fun _ => False) w1 o3 (w2.alloc (.cells #[.pointer (some ⟨p, 0, none⟩), .int .i64 2, .int .i64 10, .int .i64 8, .int .i64 4, .int .i64 32, .int .i64 node, .int .u64 epoch, .int .i64 base, .int .u64 1, .int .u64 1, .int .i64 0, .int .u64 0, .int .u64 0, .pointer (some ⟨w1.heap.size, 0, none⟩), .bool false] 77)) := hst2.of_drew.trans hs3
  have HL := Lib.hid (show LogAt o3 c (w2.alloc (.cells #[.pointer (some ⟨p, 0, none⟩), .int .i64 2, .int .i64 10, .int .i64 8, .int .i64 4, .int .i64 32, .int .i64 node, .int .u64 epoch, .int .i64 base, .int .u64 1, .int .u64 1, .int .i64 0, .int .u64 0, .int .u64 0, .pointer (some ⟨w1.heap.size, 0, none⟩), .bool false] 77)) w2.heap.size (Lg.new node epoch base) p from ⟨w1.heap.size, Blk.new _ _ _, hq, hr2.step hs3 id⟩)
  have HD2 := Lib.hid (HD1.out.step hs4 (fun _ _ _ => id))
  have HS2 := Lib.hid (HS1.out.trans (hs4.mono (fun _ h => h.elim)))
  clear hq hs3 hs4 hst2 hr2 hb2 hg2 z5
  go_upto_region 7 with (fail)
  generalize w2.alloc (.cells #[.pointer (some ⟨p, 0, none⟩), .int .i64 2, .int .i64 10, .int .i64 8, .int .i64 4, .int .i64 32, .int .i64 node, .int .u64 epoch, .int .i64 base, .int .u64 1, .int .u64 1, .int .i64 0, .int .u64 0, .int .u64 0, .pointer (some ⟨w1.heap.size, 0, none⟩), .bool false] 77) = W3 at HL HD2 HS2 ⊢
  generalize w2.heap.size = q at HL ⊢
  have HH := Lib.hid (ghead_any HL.out HD2.out HT.out HK.out HCD.out HC.out HEP.out 1 (by omega) 0)
  go_wp2_with fail
  refine HH.out.mono ?_
  rintro r w4 ⟨rfl, o4, hd4, hs5⟩
  have HD4 := Lib.hid hd4
  have HS5 := Lib.hid (HS2.out.trans hs5)
  have HL5 := Lib.hid (HL.out.step hs5 (by have := HC.out; unfold six; omega) (by have := HC.out; unfold six; omega))
  rw [show (D.lhead (Lg.new node epoch base) ⟨(Lg.new node epoch base).epoch, 1, 0⟩).1 = 0 from HOK.out]
  clear hd4 hs5
  go_wp2_with fail
  go_ret2
  exact ⟨q, rfl, o4, HD4.out, HL5.out, HS5.out⟩
end Go.Proofs.YtianlhigeabehaaGreatDoor

/- The disk behind Ready, plain. -/
namespace Go.Proofs.YtianlhigeabehaaGreatDoor
open Go.RowKit

theorem settle_now (D : Dk) (n : Int) : (D.settle n).now = D.now := (settle_same D n).2.2.2.2.2.1
theorem fence_now {D : Dk} {k : Nat} (h : Calm D k) {n : Nat} (hn : n ≤ 16) : (D.fence n).2.now = D.now := by
  rw [(h.fence hn).1]
  exact settle_now D n
theorem admit_now {D : Dk} {k : Nat} (h : Calm D k) {n : Nat} (hn : n ≤ 16) {e : Nat} (he : D.last < e) : (D.admit n e).2.now = D.now := by
  rw [(h.admit hn he).1]
theorem sec_congr {D E : Dk} (h : D.now = E.now) (k : Int) : D.sec k = E.sec k := by unfold Dk.sec; rw [h]
/-- all sectors have bytes 0 -/
def Blank (D : Dk) : Prop := ∀ k, D.sec k = str (zer 64)
theorem sect_zer {n i : Nat} (h : (i + 1) * 64 ≤ n) : sect (str (zer n)) i = str (zer 64) := by
  unfold sect
  rw [extract_str]
  congr 1
  unfold zer
  rw [List.take_replicate, List.drop_replicate]
  congr 1
  omega
theorem sec_write1 (D : Dk) (n a : Int) (s : ByteArray) (k : Int) : (D.write1 n a s).sec k = if k = a then s else D.sec k := by
  unfold Dk.sec Dk.write1 upd
  simp only
  split <;> rfl
theorem blank_write {D : Dk} (h : Blank D) (n a : Int) (z : Nat) : ∀ m, m * 64 ≤ z → Blank (D.writeN n a (str (zer z)) m)
  | 0, _ => h
  | m + 1, hm => by
    intro k
    show ((D.writeN n a (str (zer z)) m).write1 n (a + m) (sect (str (zer z)) m)).sec k = _
    rw [sec_write1]
    split
    · exact sect_zer hm
    · exact blank_write h n a z m (by omega) k
theorem blank_now {D E : Dk} (h : Blank D) (he : E.now = D.now) : Blank E := fun k => (sec_congr he k).trans (h k)
theorem blank_zeros {D : Dk} (h : Blank D) : ∀ j, Blank (D.zerosN j)
  | 0 => h
  | j + 1 => blank_write (blank_zeros h j) _ _ _ _ (Nat.le_refl _)
theorem blank_fresh : Blank (Dk.fresh 37) := fun _ => rfl
theorem lay_sec {D : Dk} (h : Blank D) (k : Int) : D.layF.sec k = if k = 0 then str superL else str (zer 64) := by
  have e : D.layF.now = ((((D.zerosN 3).settle (0 : Nat)).write1 (0 : Nat) (0 + ((0 : Nat) : Int)) (sect (str superL) 0)) : Dk).now := settle_now _ _
  rw [sec_congr e, sec_write1]
  have h0 : sect (str superL) 0 = str superL := by
    unfold sect
    rw [extract_str]
    have e2 : (superL.take ((0 + 1) * 64)).drop (0 * 64) = superL := by rw [Nat.zero_mul, List.drop_zero, List.take_of_length_le (by rw [superL_len]; omega)]
    rw [e2]
  rw [h0]
  split
  · rename_i hk
    rw [if_pos (by omega)]
  · rename_i hk
    rw [if_neg (by omega)]
    exact blank_now (blank_zeros h 3) (settle_now _ _) k
def readyD : Dk := ((Dk.fresh 37).formatF.admit (1 : Nat) 9).2
theorem fresh_last : (Dk.fresh 37).last = 0 := rfl
theorem format_facts {D : Dk} (h : Calm D 0) (hl : D.last = 0) : Calm D.formatF 49 ∧ D.formatF.last = 1 ∧ D.formatF.now = ((D.fmtN 17).admit (0 : Nat) 1).2.layF.now := by
  obtain ⟨f1, f2, f3⟩ := fmt_calm h 17 (by omega)
  have f2' : (D.fmtN 17).last < 1 := by rw [f2, hl]; omega
  obtain ⟨a1, a2⟩ := f1.admit (n := 0) (by omega) (e := 1) f2'
  have c1 := lay_calm a2
  obtain ⟨b1, b2⟩ := c1.fence (n := 0) (by omega)
  have e : D.formatF = (((D.fmtN 17).admit (0 : Nat) 1).2.layF.fence (0 : Nat)).2 := by unfold Dk.formatF; rw [hl]; rfl
  have hlast : ((D.fmtN 17).admit (0 : Nat) 1).2.last = 1 := by rw [a1]
  generalize ((D.fmtN 17).admit (0 : Nat) 1).2 = E at a2 c1 b1 b2 e hlast
  have hl2 : E.layF.last = 1 := by
    unfold Dk.layF
    rw [(settle_same _ _).2.2.2.1, (writeN_same _ _ _ _ _).2.2.2.1, (settle_same _ _).2.2.2.1, (zeros_calm a2 3).2.2, hlast]
  generalize E.layF = G at c1 b1 b2 e hl2 ⊢
  refine ⟨?_, ?_, ?_⟩
  · rw [e]
    exact b2.mono (by omega)
  · rw [e, b1]
    show (G.settle (0 : Nat)).last = 1
    rw [(settle_same _ _).2.2.2.1, hl2]
  · rw [e]
    exact fence_now c1 (by omega)
set_option maxRecDepth 100000 in
theorem ready_facts : Calm readyD 49 ∧ readyD.last = 9 ∧ readyD.table 1 = 9 ∧ ∀ k, readyD.sec k = if k = 0 then str superL else str (zer 64) := by
  obtain ⟨f1, f2, f3⟩ := format_facts calm_fresh fresh_last
  obtain ⟨a1, a2⟩ := f1.admit (n := 1) (by omega) (e := 9) (by rw [f2]; omega)
  have e1 : readyD = ((Dk.fresh 37).formatF.admit (1 : Nat) 9).2 := rfl
  obtain ⟨g1, g2, g3⟩ := fmt_calm calm_fresh 17 (by omega)
  have hb : Blank ((Dk.fresh 37).fmtN 17) := blank_now blank_fresh g3
  have hlt : ((Dk.fresh 37).fmtN 17).last < 1 := by rw [g2, fresh_last]; omega
  have hb2 := blank_now hb (admit_now g1 (n := 0) (by omega) hlt)
  have hls : (Dk.fresh 37).formatF.last < 9 := by rw [f2]; omega
  generalize (Dk.fresh 37).formatF = F at a1 a2 e1 f1 f2 f3 hls
  generalize (((Dk.fresh 37).fmtN 17).admit (0 : Nat) 1).2 = E at f3 hb2
  refine ⟨by rw [e1]; exact a2, by rw [e1, a1], by rw [e1, a1]; simp, fun k => ?_⟩
  have e : readyD.now = F.now := by rw [e1]; exact admit_now f1 (by omega) hls
  rw [sec_congr e, sec_congr f3]
  exact lay_sec hb2 k
end Go.Proofs.YtianlhigeabehaaGreatDoor
