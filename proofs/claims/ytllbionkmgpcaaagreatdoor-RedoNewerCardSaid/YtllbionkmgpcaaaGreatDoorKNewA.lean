/- RedoNewer: what is stored, added, synced, done again; the newer one stays. -/
import Derived.Test.YtllbionkmgpcaaaGreatDoorKAlvA
import Derived.Test.YtllbionkmgpcaaaGreatDoorKLawT
import Derived.Test.YtllbionkmgpcaaaGreatDoorKMapR
namespace Go.Proofs.YtllbionkmgpcaaaGreatDoor
open Go.RowKit

theorem Reads.numrow {w : World} {A : Option Addr} {l : List Nat} (h : Reads w 1 A l.length (numcells l)) {k v : Nat} (hk : l[k]? = some v) : ∃ ad, A = some ad ∧ w.cell? (ad.add k) = some (.int .u64 v) := by
  obtain ⟨ad, rfl, hc⟩ := Reads.row (f := fun v : Nat => [Value.int .u64 v]) (fun _ => rfl) h hk
  refine ⟨ad, rfl, ?_⟩
  have := hc 0 _ rfl
  rw [Nat.mul_one] at this
  exact this
theorem getD_at {l : List Nat} {i : Nat} (h : i < l.length) : l[i]? = some (l.getD i 0) := by
  rw [List.getD_eq_getElem?_getD, List.getElem?_eq_getElem h]
  rfl
theorem getD_lt {l : List Nat} (h : ∀ v ∈ l, v < 18446744073709551616) (i : Nat) : l.getD i 0 < 18446744073709551616 := by
  by_cases hi : i < l.length
  · exact h _ (List.mem_of_getElem? (getD_at hi))
  · rw [List.getD_eq_getElem?_getD, List.getElem?_eq_none (by omega)]
    decide
/-- inputs read as they did -/
theorem Step.ins {o' : Nat → Nat} {W w : World} {A : Option Addr} {n : Nat} {xs : List Value} {s : Nat} (hs : Step (fun _ => 0) nz W o' w) (h0 : 0 < s) (h : Reads W s A n xs) : Reads w s A n xs :=
  h.below' h0 (hs.below (fun _ _ h => h rfl) (Nat.le_refl _))
set_option maxRecDepth 100000 in
set_option maxHeartbeats 8000000 in
theorem redoNewer_any (vs on : List Nat) (W : World) (A0 A1 : Option Addr) (cap0 cap1 : Nat) (hrd0 : Reads W 1 A0 vs.length (numcells vs)) (hrd1 : Reads W 1 A1 on.length (numcells on)) (hln0 : vs.length ≤ maxLen) (hln1 : on.length ≤ maxLen) (hv0 : ∀ v ∈ vs, v < 18446744073709551616) (hv1 : ∀ v ∈ on, v < 18446744073709551616) :
    Calls Tryz.prog 3 #[.slice A0 vs.length cap0, .slice A1 on.length cap1] W fun e w' => e = .returned (.bool true) ∧ Below W.heap.size W w' := by
  have HR0 := Lib.hid hrd0
  have HR1 := Lib.hid hrd1
  have HV0 := Lib.hid (getD_lt hv0)
  have HV1 := Lib.hid (getD_lt hv1)
  clear hrd0 hrd1 hv0 hv1
  have hl0 : (vs.length : Int) ≤ 9223372036854775807 := by unfold maxLen at hln0; omega
  have hl1 : (on.length : Int) ≤ 9223372036854775807 := by unfold maxLen at hln1; omega
  clear hln0 hln1
  have HF0 := Lib.hid (show Fut (fun _ => 0) W from fun _ _ => rfl)
  by_cases c0 : 4 < vs.length ∨ 4 < on.length
  · go_enter Tryz.func3, Tryz.ntmps3
    go_upto_region 1 with (fail)
    rcases c0 with c0 | c0
    · have c0' : (4 : Int) < (vs.length : Int) := by omega
      go_wp2_with fail
      refine (alive13_any HF0.out).mono ?_
      rintro e w1 ⟨rfl, o1, hs⟩
      go_wp2_with fail
      go_ret
      exact ⟨rfl, hs.below (fun _ _ h => h rfl) (Nat.le_refl _)⟩
    · have c0' : (4 : Int) < (on.length : Int) := by omega
      by_cases c1 : (4 : Int) < (vs.length : Int)
      · go_wp2_with fail
        refine (alive13_any HF0.out).mono ?_
        rintro e w1 ⟨rfl, o1, hs⟩
        go_wp2_with fail
        go_ret
        exact ⟨rfl, hs.below (fun _ _ h => h rfl) (Nat.le_refl _)⟩
      · go_wp2_with fail
        refine (alive13_any HF0.out).mono ?_
        rintro e w1 ⟨rfl, o1, hs⟩
        go_wp2_with fail
        go_ret
        exact ⟨rfl, hs.below (fun _ _ h => h rfl) (Nat.le_refl _)⟩
  have hN0 : vs.length ≤ 4 := by omega
  have hN1 : on.length ≤ 4 := by omega
  have n0 : ¬ (4 : Int) < (vs.length : Int) := by omega
  have n1 : ¬ (4 : Int) < (on.length : Int) := by omega
  clear c0 hl0 hl1
  go_enter Tryz.func3, Tryz.ntmps3
  go_wp2_with fail
  refine (ready_any (cd := 1) (cr := 10) HF0.out (by omega) (by omega)).mono ?_
  rintro e w1 ⟨p, r, rfl, o1, hd, _, hs⟩
  have HV := Lib.hid readyV
  generalize readyD = D0 at hd HV
  generalize D0.table 2 = T2 at HV
  have hf1 := HF0.out.step hs
  have HX := Lib.hid (Keep.new hf1 29 #[.int .i64 2, .int .i64 10, .int .i64 8, .int .i64 4, .int .i64 32])
  have HD := Lib.hid (hd.alloc (.cells #[.int .i64 2, .int .i64 10, .int .i64 8, .int .i64 4, .int .i64 32] 29))
  have HF1 := Lib.hid (hf1.alloc (.cells #[.int .i64 2, .int .i64 10, .int .i64 8, .int .i64 4, .int .i64 32] 29))
  have HS1 := Lib.hid ((hs.mono nz_ready).alloc (.cells #[.int .i64 2, .int .i64 10, .int .i64 8, .int .i64 4, .int .i64 32] 29))
  clear hd hs hf1 HF0
  go_upto_region 6 with (fail)
  generalize w1.alloc (.cells #[.int .i64 2, .int .i64 10, .int .i64 8, .int .i64 4, .int .i64 32] 29) = W1 at HX HD HF1 HS1 ⊢
  generalize w1.heap.size = g at HX ⊢
  obtain ⟨s0, s1, s2, s3, s4⟩ := HX.out.1.five
  go_wp2_with fail
  refine (gopen_any (c := 20) HD.out HV.out.calm.tame (by omega) (by omega) (by omega) HF1.out 1 9 1 rfl (by omega) HV.out.openV.1).mono ?_
  rintro e w2 ⟨q, rfl, o2, hd, hl, hs⟩
  have hv := HV.out.openV.2
  change DiskAt o2 1 w2 p (D0.lhead lg0 ⟨9, 1, 0⟩).2 at hd
  change LogAt o2 20 w2 q lg0 p at hl
  generalize (D0.lhead lg0 ⟨9, 1, 0⟩).2 = D1 at hd hv
  have HV2 := Lib.hid hv
  have HD2 := Lib.hid hd
  have HL2 := Lib.hid hl
  have HX2 := Lib.hid (HX.out.step hs (no_six (by omega)))
  have HF2 := Lib.hid (HF1.out.step hs)
  have HS2 := Lib.hid (HS1.out.trans (hs.mono (nz_six 1 (by omega))))
  clear hd hl hs hv HV HD HX HF1 HS1 s0 s1 s2 s3 s4
  go_wp2_with fail
  go_loopw [4, 11] (fun _ t11 wr => ∃ (i : Nat) (Di : Dk) (oi : Nat → Nat), i ≤ on.length ∧ t11 = .int .i64 i ∧ DiskAt oi 1 wr p Di ∧ View Di (50 + 2 * i) 9 T2 9 hd9 (zer 192) (zer 192) (zer 64) (fOn on i) ∧ LogAt oi 20 wr q lg0 p ∧ Keep oi wr g 29 #[.int .i64 2, .int .i64 10, .int .i64 8, .int .i64 4, .int .i64 32] ∧ Fut oi wr ∧ Step (fun _ => 0) nz W oi wr) (fun _ t11 _ => on.length - (intOf t11).toNat)
  case atStart => exact ⟨0, D1, o2, by omega, rfl, HD2.out, by rw [fOn_zero]; exact HV2.out, HL2.out, HX2.out, HF2.out, HS2.out⟩
  case round =>
    obtain ⟨i, Di, oi, hi, rfl, hd, hv, hl, hx, hf, hs⟩ := hrel
    have HDr := Lib.hid hd
    have HVr := Lib.hid hv
    have HLr := Lib.hid hl
    have HXr := Lib.hid hx
    have HFr := Lib.hid hf
    have HSr := Lib.hid hs
    clear hd hv hl hx hf hs HV2 HD2 HL2 HX2 HF2 HS2
    by_cases hlt : i < on.length
    · have hltI : (i : Int) < (on.length : Int) := by omega
      obtain ⟨ad, hA, c0⟩ := (HSr.out.ins (by omega) HR1.out).numrow (getD_at hlt)
      subst hA
      have HFS := Lib.hid (fOn_succ on i)
      have HVB := Lib.hid (HV1.out i)
      obtain ⟨v, hv⟩ : ∃ v, on.getD i 0 = v := ⟨_, rfl⟩
      rw [hv] at c0 HFS HVB
      have HVE := Lib.hid hv
      clear hv
      go_wp2_with fail
      refine (one11_any i v (by omega) wr).mono ?_
      rintro e w3 ⟨rfl, hb⟩
      have hS96 : (str (oneL i)).size = 96 := by rw [str_size, oneL_len]
      have hSd : (⟨#[100]⟩ : ByteArray) ++ (str (oneL i)).extract 1 (str (oneL i)).size = str (100 :: zer 95) := by
        unfold oneL
        rw [extract_str, str_size]
        refine ByteArray.ext ?_
        apply Array.toList_inj.1
        simp [zer]
        rfl
      obtain ⟨S, hS⟩ : ∃ S, str (oneL i) = S := ⟨_, rfl⟩
      rw [hS] at hS96 hSd ⊢
      have HI := Lib.hid (Keep.new (HFr.out.below hb) 38 #[.int .i64 i, .int .u64 v, .string S])
      have HD3 := Lib.hid ((HDr.out.below_ hb).alloc (.cells #[.int .i64 i, .int .u64 v, .string S] 38))
      have HL3 := Lib.hid ((HLr.out.below_ hb).alloc (.cells #[.int .i64 i, .int .u64 v, .string S] 38))
      have HX3 := Lib.hid ((HXr.out.below_ hb).alloc (.cells #[.int .i64 i, .int .u64 v, .string S] 38))
      have HF3 := Lib.hid ((HFr.out.below hb).alloc (.cells #[.int .i64 i, .int .u64 v, .string S] 38))
      have HS3 := Lib.hid ((HSr.out.trans (Step.of_below oi nz hb)).alloc (.cells #[.int .i64 i, .int .u64 v, .string S] 38))
      have HW3 := Lib.hid (show W.heap.size ≤ w3.heap.size from (HSr.out.trans (Step.of_below oi nz hb)).size)
      have HSZ := Lib.hid hS96
      have HSD := Lib.hid hSd
      have b1 : (1 : Int) ≤ (S.size : Int) := by omega
      have b2 : ¬ 9223372036854775807 < (⟨#[100]⟩ : ByteArray).size + (S.extract 1 S.size).size := by
        rw [ByteArray.size_extract]
        show ¬ 9223372036854775807 < 1 + _
        omega
      have b3 : ¬ 9223372036854775807 < 1 + (S.size - 1) := by omega
      have hbz := hb.size
      clear hb hS hS96 hSd
      go_upto_region 13 with (fail)
      have HXI := Lib.hid (show g ≠ w3.heap.size from Nat.ne_of_lt (Nat.lt_of_lt_of_le HXr.out.1.lt hbz))
      clear hbz
      generalize w3.alloc (.cells #[.int .i64 i, .int .u64 v, .string S] 38) = W3 at HI HD3 HL3 HX3 HF3 HS3 ⊢
      generalize w3.heap.size = gI at HI HW3 HXI ⊢
      obtain ⟨z0, z1, z2⟩ := HI.out.1.three
      have f2 := HI.out.1.frozen 2
      go_upto_region 14 with (fail)
      rw [HSD.out]
      have S4 := (Step.refl oi (only 0) W3).setCell (p := ⟨gI, 2, none⟩) HI.out.2 (.string (str (100 :: zer 95)))
      have HI4 := Lib.hid (HI.out.1.set_ 2 (.string (str (100 :: zer 95))))
      have HD4 := Lib.hid (HD3.out.step S4 (by unfold only; omega))
      have HL4 := Lib.hid (HL3.out.step S4 (by unfold only; omega) (by unfold only; omega))
      have HX4 := Lib.hid (show Keep oi (W3.setCell ⟨gI, 2, none⟩ (.string (str (100 :: zer 95)))) g 29 _ from ⟨HX3.out.1.far (p := ⟨gI, 2, none⟩) HXI.out (.string (str (100 :: zer 95))), HX3.out.2⟩)
      have HF4 := Lib.hid (HF3.out.setCell ⟨gI, 2, none⟩ (.string (str (100 :: zer 95))))
      have HS4 := Lib.hid (HS3.out.setNew (p := ⟨gI, 2, none⟩) HW3.out (.string (str (100 :: zer 95))))
      clear S4 z0 z1 z2 f2 HD3 HL3 HX3 HF3 HS3
      generalize W3.setCell ⟨gI, 2, none⟩ (.string (str (100 :: zer 95))) = W4 at HI4 HD4 HL4 HX4 HF4 HS4 ⊢
      obtain ⟨z0, z1, z2⟩ := HI4.out.three
      obtain ⟨s0, s1, s2, s3, s4⟩ := HX4.out.1.five
      have c4 : W4.cell? (ad.add i) = some (.int .u64 v) := by
        obtain ⟨ad', hA, c⟩ := (HS4.out.ins (by omega) HR1.out).numrow (getD_at hlt)
        injection hA with hA
        subst hA
        rw [HVE.out] at c
        exact c
      by_cases hv : 0 < v
      · have hvI : (0 : Int) < (v : Int) := by omega
        go_wp2_with fail
        obtain ⟨t1, t2⟩ := HVr.out.store (n := 1) (e := 9) (by omega) HVr.out.t1 (by omega) (dIm_right (n := i) (by omega) v) HVB.out (b := i) (by omega) rfl
        have hst := kstore_any HD4.out ((1 : Nat) : Int) 9 (dIm i v) HVr.out.calm.armed (by have := HVr.out.calm.waits; omega) (by rw [HVr.out.calm.sectors]; omega) (by have := HVr.out.calm.seq; omega) (by show (str (100 :: zer 95)).size ≤ maxLen; rw [str_size, List.length_cons, zer_len]; decide) HVB.out (by omega) HF4.out
        rw [t1] at hst
        generalize (Di.store ((1 : Nat) : Int) 9 (dIm i v)).2 = D5 at hst t2
        refine hst.mono ?_
        clear hst t1
        rintro e w5 ⟨rfl, o5, hd, hs⟩
        have HV5 := Lib.hid (show View D5 (50 + 2 * (i + 1)) 9 T2 9 hd9 (zer 192) (zer 192) (zer 64) (fOn on (i + 1)) by rw [HFS.out, if_pos hv]; exact t2.mono (by omega))
        have HD5 := Lib.hid hd
        have HL5 := Lib.hid (HL4.out.step hs (by unfold six; omega) (by unfold six; omega))
        have HX5 := Lib.hid (HX4.out.step hs (no_six (by omega)))
        have HF5 := Lib.hid (HF4.out.step hs)
        have HS5 := Lib.hid (HS4.out.trans (hs.mono (nz_six 1 (by omega))))
        clear hd hs t2 s0 s1 s2 s3 s4 z0 z1 z2 c4 c0 hv hvI
        go_wp2_with fail
        go_roundw
        case rel => exact ⟨i + 1, D5, o5, by omega, by go_num, HD5.out, HV5.out, HL5.out, HX5.out, HF5.out, HS5.out⟩
        case measure => simp [intOf]; omega
      · have hvI : ¬ (0 : Int) < (v : Int) := by omega
        have HV5 := Lib.hid (show View Di (50 + 2 * (i + 1)) 9 T2 9 hd9 (zer 192) (zer 192) (zer 64) (fOn on (i + 1)) by rw [HFS.out, if_neg hv]; exact HVr.out.mono (by omega))
        go_wp2_with fail
        go_roundw
        case rel => exact ⟨i + 1, Di, oi, by omega, by go_num, HD4.out, HV5.out, HL4.out, HX4.out, HF4.out, HS4.out⟩
        case measure => simp [intOf]; omega
    · have hltI : ¬ (i : Int) < (on.length : Int) := by omega
      obtain rfl : i = on.length := by omega
      go_upto_region 17 with (fail)
      iterate 7 go_step
      go_cut [13, 14, 15, 16] from 87 to 108 (fun t13 _ _ _ wx => ∃ (n : Nat) (o3 : Nat → Nat), t13 = .int .i64 n ∧ n ≤ 2 ∧ n ≤ vs.length ∧ DiskAt o3 1 wx p Di ∧ LogAt o3 20 wx q (gN vs n) p ∧ Keep o3 wx g 29 #[.int .i64 2, .int .i64 10, .int .i64 8, .int .i64 4, .int .i64 32] ∧ Fut o3 wx ∧ Step (fun _ => 0) nz W o3 wx)
      case first =>
        go_wp2_with fail
        go_loopw [13, 14, 15, 16] (fun t13 t14 _ _ w4 => ∃ (n : Nat) (o3 : Nat → Nat), t13 = .int .i64 n ∧ t14 = .int .i64 n ∧ n ≤ 2 ∧ n ≤ vs.length ∧ DiskAt o3 1 w4 p Di ∧ LogAt o3 20 w4 q (gN vs n) p ∧ Keep o3 w4 g 29 #[.int .i64 2, .int .i64 10, .int .i64 8, .int .i64 4, .int .i64 32] ∧ Fut o3 w4 ∧ Step (fun _ => 0) nz W o3 w4) (fun _ t14 _ _ _ => vs.length - (intOf t14).toNat)
        case atStart => exact ⟨0, oi, rfl, rfl, by omega, by omega, HDr.out, HLr.out, HXr.out, HFr.out, HSr.out⟩
        case round =>
          obtain ⟨i, o3, rfl, rfl, hi2, hiv, hd, hl, hx, hf, hs⟩ := hrel
          have HDq := Lib.hid hd
          have HLq := Lib.hid hl
          have HXq := Lib.hid hx
          have HFq := Lib.hid hf
          have HSq := Lib.hid hs
          clear hd hl hx hf hs HDr HLr HXr HFr HSr
          by_cases hlt : i < vs.length
          · have hltI2 : (i : Int) < (vs.length : Int) := by omega
            obtain ⟨ad, hA, c0⟩ := (HSq.out.ins (by omega) HR0.out).numrow (getD_at hlt)
            subst hA
            obtain ⟨v, hv⟩ : ∃ v, vs.getD i 0 = v := ⟨_, rfl⟩
            have HVB := Lib.hid (HV0.out i)
            have HVE := Lib.hid hv
            rw [hv] at c0 HVB
            clear hv
            go_wp2_with fail
            refine (one11_any i v (by omega) wr).mono ?_
            rintro e w3 ⟨rfl, hb⟩
            have HR := Lib.hid (Reads.newAt w3 38 3 1 (imcells [oneIm i v]) #[.int .i64 i, .int .u64 v, .string (str (oneL i))] w3.heap.size rfl rfl rfl)
            have HD3 := Lib.hid ((HDq.out.below_ hb).alloc (.cells #[.int .i64 i, .int .u64 v, .string (str (oneL i))] 38))
            have HL3 := Lib.hid ((HLq.out.below_ hb).alloc (.cells #[.int .i64 i, .int .u64 v, .string (str (oneL i))] 38))
            have HX3 := Lib.hid ((HXq.out.below_ hb).alloc (.cells #[.int .i64 i, .int .u64 v, .string (str (oneL i))] 38))
            have HF3 := Lib.hid ((HFq.out.below hb).alloc (.cells #[.int .i64 i, .int .u64 v, .string (str (oneL i))] 38))
            have HS3 := Lib.hid ((HSq.out.trans (Step.of_below o3 nz hb)).alloc (.cells #[.int .i64 i, .int .u64 v, .string (str (oneL i))] 38))
            clear hb c0 HDq HLq HXq HFq HSq
            go_wp2_with fail
            generalize w3.alloc (.cells #[.int .i64 i, .int .u64 v, .string (str (oneL i))] 38) = W3 at HR HD3 HL3 HX3 HF3 HS3 ⊢
            generalize w3.heap.size = gI at HR ⊢
            obtain ⟨gf1, gf2, gf3, gf4, gf5, gf6, gf7⟩ := gN_facts vs hi2
            have hadd := gadd_any HL3.out [oneIm i v] (some ⟨gI, 0, none⟩) 1 HR.out (show 1 ≤ 1000000 by decide) (show 1 ≤ 1 by decide) (by decide) (by intro j hj; rw [List.mem_singleton.1 hj]; show (str (UInt8.ofNat i :: zer 95)).size ≤ maxLen; rw [str_size, List.length_cons, zer_len]; decide) (by intro j hj; rw [List.mem_singleton.1 hj]; exact HVB.out) (by rw [gf1]; omega) (by omega) (by omega) (by omega) gf5 (by omega) HF3.out
            clear gf1 gf2 gf3 gf4 gf5 gf6 gf7
            generalize (gN vs i).addN [oneIm i v] = an at hadd
            by_cases h2 : i < 2
            · obtain ⟨ha1, ha2⟩ := gN_add vs h2 (HV0.out 0) (HV0.out 1)
              rw [HVE.out] at ha1 ha2
              rw [ha1, ha2] at hadd
              refine hadd.mono ?_
              clear hadd ha1 ha2
              rintro e w4 ⟨rfl, o4, hl, hs⟩
              have HL4 := Lib.hid hl
              have HD4 := Lib.hid (HD3.out.step hs (by unfold logL; omega))
              have HX4 := Lib.hid (HX3.out.step hs (by unfold logL; omega))
              have HF4 := Lib.hid (HF3.out.step hs)
              have HS4 := Lib.hid (HS3.out.trans (hs.mono (nz_logL 20 (by omega))))
              clear hl hs HR HL3 HD3 HX3 HF3 HS3
              go_wp2_with fail
              go_roundw
              case rel => exact ⟨i + 1, o4, by go_num, by go_num, by omega, by omega, HD4.out, HL4.out, HX4.out, HF4.out, HS4.out⟩
              case measure => simp [intOf]; omega
            · obtain rfl : i = 2 := by omega
              obtain ⟨ha1, ha2⟩ := gN_full vs HVB.out
              rw [ha1, ha2] at hadd
              refine hadd.mono ?_
              clear hadd ha1 ha2
              rintro e w4 ⟨rfl, o4, hl, hs⟩
              have HL4 := Lib.hid hl
              have HD4 := Lib.hid (HD3.out.step hs (by unfold logL; omega))
              have HX4 := Lib.hid (HX3.out.step hs (by unfold logL; omega))
              have HF4 := Lib.hid (HF3.out.step hs)
              have HS4 := Lib.hid (HS3.out.trans (hs.mono (nz_logL 20 (by omega))))
              clear hl hs HR HL3 HD3 HX3 HF3 HS3
              go_wp2_with fail
              go_meet
              case rel => exact ⟨2, o4, rfl, by omega, by omega, HD4.out, HL4.out, HX4.out, HF4.out, HS4.out⟩
          · have hltI2 : ¬ (i : Int) < (vs.length : Int) := by omega
            go_wp2_with fail
            go_meet
            case rel => exact ⟨i, o3, rfl, by omega, by omega, HDq.out, HLq.out, HXq.out, HFq.out, HSq.out⟩
      case rest =>
        obtain ⟨n, o3, rfl, hn2, hnv, hd, hl, hx, hf, hs⟩ := hcut
        have HV3 := Lib.hid HVr.out
        have HD3 := Lib.hid hd
        have HL3 := Lib.hid hl
        have HX3 := Lib.hid hx
        have HF3 := Lib.hid hf
        have HS3 := Lib.hid hs
        clear hd hl hx hf hs HDr HLr HXr HFr HSr HVr
        obtain ⟨gf1, gf2, gf3, gf4, gf5, gf6, gf7⟩ := gN_facts vs hn2
        go_wp2_with fail
        obtain ⟨hy1, hy2⟩ := HV3.out.syncN vs hn2
        have hsy := gsync_any HL3.out HD3.out HV3.out.calm.tame (by omega) (by omega) (by omega) HF3.out (by omega) (by omega) gf7
        rw [hy1] at hsy
        generalize (syncR Di (gN vs n)).D = D5 at hsy hy2
        generalize (syncR Di (gN vs n)).g = g5 at hsy
        refine hsy.mono ?_
        clear hsy hy1 gf1 gf2 gf3 gf4 gf5 gf6 gf7
        rintro e w5 ⟨rfl, o5, hd, _, _, hs⟩
        have HV5 := Lib.hid (hy2.mono (j := 70) (by omega))
        have HD5 := Lib.hid hd
        have HX5 := Lib.hid (HX3.out.step hs (by unfold logC six; omega))
        have HF5 := Lib.hid (HF3.out.step hs)
        have HS5 := Lib.hid (HS3.out.trans (hs.mono (nz_logC 1 20 (by omega) (by omega))))
        clear hd hs hy2 HL3 HD3 HX3 HF3 HS3 HV3
        go_wp2_with fail
        refine (dbarrier_k (n := 1) (e := 9) HD5.out HV5.out.calm (by omega) (by omega) HV5.out.t1 (by omega)).mono ?_
        rintro e w6 ⟨rfl, o6, hd, hs⟩
        have hv := HV5.out.settle ((1 : Nat) : Int)
        generalize D5.settle ((1 : Nat) : Int) = D6 at hd hv
        have HV6 := Lib.hid hv
        have HD6 := Lib.hid hd
        have HX6 := Lib.hid (HX5.out.step hs (no_six (by omega)))
        have HF6 := Lib.hid (HF5.out.step hs)
        have HS6 := Lib.hid (HS5.out.trans (hs.mono (nz_six 1 (by omega))))
        clear hd hs hv HD5 HX5 HF5 HS5 HV5
        go_wp2_with fail
        refine (dfence_k (n := 1) HD6.out HV6.out.calm (by omega) (by omega)).mono ?_
        rintro e w7 ⟨rfl, o7, hd, hs⟩
        have hv := HV6.out.fence1.2
        generalize (D6.fence ((1 : Nat) : Int)).2 = D7 at hd hv
        have HV7 := Lib.hid hv
        have HD7 := Lib.hid hd
        have HX7 := Lib.hid (HX6.out.step hs (no_six (by omega)))
        have HF7 := Lib.hid (HF6.out.step hs)
        have HS7 := Lib.hid (HS6.out.trans (hs.mono (nz_six 1 (by omega))))
        clear hd hs hv HD6 HX6 HF6 HS6 HV6
        go_wp2_with fail
        refine (dadmit_k (n := 2) (e := 11) HD7.out HV7.out.calm (by omega) (by rw [HV7.out.last]; omega)).mono ?_
        rintro e w8 ⟨rfl, o8, hd, hs⟩
        have hv := (HV7.out.admit2 (e := 11) (by omega)).2
        generalize (D7.admit ((2 : Nat) : Int) 11).2 = D8 at hd hv
        have HV8 := Lib.hid hv
        have HD8 := Lib.hid hd
        have HX8 := Lib.hid (HX7.out.step hs (no_six (by omega)))
        have HF8 := Lib.hid (HF7.out.step hs)
        have HS8 := Lib.hid (HS7.out.trans (hs.mono (nz_six 1 (by omega))))
        clear hd hs hv HD7 HX7 HF7 HS7 HV7
        obtain ⟨s0, s1, s2, s3, s4⟩ := HX8.out.1.five
        go_wp2_with fail
        obtain ⟨hir, hil⟩ := imsN_right vs hn2 HV0.out
        obtain ⟨hr1, hr2, hr3⟩ := HV8.out.run (by omega) (plan_N vs hn2 (HV0.out 0) (HV0.out 1)) hir
        rw [appN_cnt] at hr2
        have hrun := erun_any HD8.out HV8.out.calm.tame (by omega) (by omega) HF8.out 1 9 ((2 : Nat) : Int) 11
        rw [hr1, hr2] at hrun
        generalize (runR D8 1 9 ((2 : Nat) : Int) 11).D = D9 at hrun hr3
        refine hrun.mono ?_
        clear hrun hr1 hr2
        rintro e w9 ⟨rfl, o9, hd, _, hs⟩
        have HV9 := Lib.hid (show View D9 90 0 11 11 (zer 64) (logA1 vs n) (logA2 vs n) (zer 64) (fEnd on vs n) from hr3.mono (by omega))
        have HD9 := Lib.hid hd
        have HX9 := Lib.hid (HX8.out.step hs (no_six (by omega)))
        have HF9 := Lib.hid (HF8.out.step hs)
        have HS9 := Lib.hid (HS8.out.trans (hs.mono (nz_six 1 (by omega))))
        clear hd hs hr3 HD8 HX8 HF8 HS8 HV8 s0 s1 s2 s3 s4 hir hil
        go_wp2_with fail
        go_loopw [4, 19, 20] (fun _ t19 t20 w4 => ∃ (i : Nat) (o4 : Nat → Nat), t19 = .int .i64 (cntN on vs i) ∧ t20 = .int .i64 i ∧ i ≤ n ∧ DiskAt o4 1 w4 p D9 ∧ Keep o4 w4 g 29 #[.int .i64 2, .int .i64 10, .int .i64 8, .int .i64 4, .int .i64 32] ∧ Fut o4 w4 ∧ Step (fun _ => 0) nz W o4 w4) (fun _ _ t20 _ => n - (intOf t20).toNat)
        case atStart => exact ⟨0, o9, rfl, rfl, by omega, HD9.out, HX9.out, HF9.out, HS9.out⟩
        case round =>
          obtain ⟨i, o4, rfl, rfl, hin, hd, hx, hf, hs⟩ := hrel
          have HDq := Lib.hid hd
          have HXq := Lib.hid hx
          have HFq := Lib.hid hf
          have HSq := Lib.hid hs
          clear hd hx hf hs HD9 HX9 HF9 HS9
          by_cases hlt : i < n
          · have hltI2 : (i : Int) < (n : Int) := by omega
            go_upto_if 141 with (fail)
            go_cut [21] from 133 to 187 (fun t21 wx => t21 = .int .u64 (on.getD i 0) ∧ wx = wr)
            case first =>
              by_cases hon : i < on.length
              · have honI : (i : Int) < (on.length : Int) := by omega
                obtain ⟨ad, hA, c0⟩ := (HSq.out.ins (by omega) HR1.out).numrow (getD_at hon)
                subst hA
                obtain ⟨x, hx⟩ : ∃ x, on.getD i 0 = x := ⟨_, rfl⟩
                have HXE := Lib.hid hx
                rw [hx] at c0
                clear hx
                go_wp2_with fail
                go_meet
                case rel => rw [HXE.out]; exact ⟨rfl, rfl⟩
              · have honI : ¬ (i : Int) < (on.length : Int) := by omega
                have h0 : on.getD i 0 = 0 := by rw [List.getD_eq_getElem?_getD, List.getElem?_eq_none (by omega)]; rfl
                go_wp2_with fail
                go_meet
                case rel => rw [h0]; exact ⟨rfl, rfl⟩
            case rest =>
              obtain ⟨rfl, rfl⟩ := hcut
              obtain ⟨s0, s1, s2, s3, s4⟩ := HXq.out.1.five
              have HEV := Lib.hid (end_ver on vs hlt)
              have HEN := Lib.hid (fun h => end_new on vs hlt h)
              have HCN := Lib.hid (show cntN on vs (i + 1) = cntN on vs i + (if on.getD i 0 < vs.getD i 0 then 1 else 0) from rfl)
              have HCL := Lib.hid (cntN_le on vs i)
              have HWB := Lib.hid (HV1.out i)
              have HVB := Lib.hid (HV0.out i)
              obtain ⟨was, hwas⟩ : ∃ was, on.getD i 0 = was := ⟨_, rfl⟩
              obtain ⟨v, hv⟩ : ∃ v, vs.getD i 0 = v := ⟨_, rfl⟩
              obtain ⟨cn, hcn⟩ : ∃ cn, cntN on vs i = cn := ⟨_, rfl⟩
              have HVE := Lib.hid hv
              rw [hwas, hv] at HEV HEN HCN
              rw [hcn] at HCN HCL ⊢
              rw [hwas] at HWB ⊢
              rw [hv] at HVB
              clear hwas hv hcn
              go_wp2_with fail
              have hld := kload_any HDq.out (by rw [HV9.out.calm.sectors]; omega) HV9.out.calm.wf ((i : Nat) : Int)
              rw [HV9.out.blk i (by omega)] at hld
              obtain ⟨F, hF⟩ : ∃ F, fEnd on vs n i = F := ⟨_, rfl⟩
              rw [hF] at hld HEV HEN
              clear hF
              obtain ⟨fb, fv, fd⟩ := F
              refine hld.mono ?_
              clear hld
              rintro e w5 ⟨rfl, hb⟩
              have hag : ((⟨fb, fv, fd⟩ : Im), (0 : Int)).1.agg = .agg #[.int .i64 fb, .int .u64 fv, .string fd] := rfl
              have HI := Lib.hid (Keep.new (HFq.out.below hb) 38 #[.int .i64 fb, .int .u64 fv, .string fd])
              have HD5 := Lib.hid ((HDq.out.below_ hb).alloc (.cells #[.int .i64 fb, .int .u64 fv, .string fd] 38))
              have HX5 := Lib.hid ((HXq.out.below_ hb).alloc (.cells #[.int .i64 fb, .int .u64 fv, .string fd] 38))
              have HF5 := Lib.hid ((HFq.out.below hb).alloc (.cells #[.int .i64 fb, .int .u64 fv, .string fd] 38))
              have HS5 := Lib.hid ((HSq.out.trans (Step.of_below o4 nz hb)).alloc (.cells #[.int .i64 fb, .int .u64 fv, .string fd] 38))
              rw [hag]
              clear hb HDq HXq HFq HSq s0 s1 s2 s3 s4 hag
              go_upto_region 34 with (fail)
              generalize w5.alloc (.cells #[.int .i64 fb, .int .u64 fv, .string fd] 38) = W5 at HI HD5 HX5 HF5 HS5 ⊢
              generalize w5.heap.size = gI at HI ⊢
              obtain ⟨ad, hA, c0⟩ := (HS5.out.ins (by omega) HR0.out).numrow (getD_at (show i < vs.length by omega))
              subst hA
              rw [HVE.out] at c0
              have i0 : (i : Int) < (vs.length : Int) := by omega
              obtain ⟨z0, z1, z2⟩ := HI.out.1.three
              by_cases hnew : was < v
              · have hnewI : (was : Int) < (v : Int) := by omega
                have hE := HEN.out hnew
                injection hE with e1 e2 e3
                have e2' := e2.symm
                subst e1 e2' e3
                have HK0 := Lib.hid (fun w7 (hb7 : Below W5.drew.heap.size W5.drew w7) => (hb7.cell (World.block_lt_of_cell? W5 _ c0)).trans c0)
                have HM := Lib.hid (show ((v : Int) != max (v : Int) (was : Int)) = false by rw [bne_eq_false_iff_eq]; omega)
                clear e2
                go_upto_region 37 with (fail)
                refine wp_region_held_drew (S := (fun w' => (w'.cell? ⟨gI, 0, none⟩ = some (.int .i64 ((i : Nat) : Int)) ∧ w'.cell? ⟨gI, 1, none⟩ = some (.int .u64 (v : Nat)) ∧ w'.cell? ⟨gI, 2, none⟩ = some (.string (str (oneL i)))) ∧ w'.cell? (ad.add i) = some (.int .u64 v))) (by kernel_rfl) ⟨⟨z0, z1, z2⟩, c0⟩ (fun hHeld => ?_)
                refine wpAnyH_take (i := 0) (oi := { dst := some 162, op := Go.Op.move (Go.Operand.tmp 23), type := 33, pos := "more.go:79", after := #[], guard := none }) (v := ?_) rfl (by kernel_rfl) (by kernel_rfl) (by kernel_rfl) (fun _ _ _ h => h) (Or.inl ⟨by rfl, ?_⟩) (by assumption) ?_
                rotate_left
                · (intro w hSw; (try dsimp only at hSw); go_simp; first | done | with_reducible rfl)
                try simp only [Act.put, List.setIfInBounds_toArray, List.set_cons_zero, List.set_cons_succ]
                refine wpAnyH_take (i := 1) (oi := { dst := some 163, op := Go.Op.binOp Go.BinOp.neq 33 (Go.Operand.tmp 162) (Go.Operand.const (Go.Value.int Go.IntKind.i64 0)) 33, type := 4, pos := "more.go:79", after := #[{ on := 0, ground := Go.Ground.data }], guard := none }) (v := ?_) rfl (by kernel_rfl) (by kernel_rfl) (by kernel_rfl) (fun _ _ _ h => h) (Or.inl ⟨by rfl, ?_⟩) (by assumption) ?_
                rotate_left
                · (intro w hSw; (try dsimp only at hSw); go_simp; first | done | with_reducible rfl)
                try simp only [Act.put, List.setIfInBounds_toArray, List.set_cons_zero, List.set_cons_succ]
                refine wpAnyH_take (i := 2) (oi := { dst := some 164, op := Go.Op.move (Go.Operand.tmp 163), type := 4, pos := "more.go:79", after := #[{ on := 1, ground := Go.Ground.data }], guard := none }) (v := ?_) rfl (by kernel_rfl) (by kernel_rfl) (by kernel_rfl) (fun _ _ _ h => h) (Or.inl ⟨by rfl, ?_⟩) (by assumption) ?_
                rotate_left
                · (intro w hSw; (try dsimp only at hSw); go_simp; first | done | with_reducible rfl)
                try simp only [Act.put, List.setIfInBounds_toArray, List.set_cons_zero, List.set_cons_succ]
                refine wpAnyH_take (i := 3) (oi := { dst := some 165, op := Go.Op.fieldAddr 38 (Go.Operand.tmp 22) 1, type := 0, pos := "more.go:79", after := #[{ on := 2, ground := Go.Ground.guard }], guard := some (2, false) }) (v := ?_) rfl (by kernel_rfl) (by kernel_rfl) (by kernel_rfl) (fun _ _ _ h => h) (Or.inl ⟨by rfl, ?_⟩) (by assumption) ?_
                rotate_left
                · (intro w hSw; (try dsimp only at hSw); go_simp; first | done | with_reducible rfl)
                try simp only [Act.put, List.setIfInBounds_toArray, List.set_cons_zero, List.set_cons_succ]
                refine wpAnyH_take (i := 4) (oi := { dst := some 166, op := Go.Op.load 36 (Go.Operand.tmp 165), type := 36, pos := "more.go:79", after := #[{ on := 3, ground := Go.Ground.data }, { on := 2, ground := Go.Ground.guard }], guard := some (2, false) }) (v := ?_) rfl (by kernel_rfl) (by kernel_rfl) (by kernel_rfl) (fun _ _ _ h => h) (Or.inl ⟨by rfl, ?_⟩) (by assumption) ?_
                rotate_left
                · (intro w hSw; (try dsimp only at hSw); go_simp; first | done | with_reducible rfl)
                try simp only [Act.put, List.setIfInBounds_toArray, List.set_cons_zero, List.set_cons_succ]
                refine wpAnyH_take (i := 5) (oi := { dst := some 167, op := Go.Op.move (Go.Operand.tmp 0), type := 22, pos := "more.go:79", after := #[{ on := 2, ground := Go.Ground.guard }], guard := some (2, false) }) (v := ?_) rfl (by kernel_rfl) (by kernel_rfl) (by kernel_rfl) (fun _ _ _ h => h) (Or.inl ⟨by rfl, ?_⟩) (by assumption) ?_
                rotate_left
                · (intro w hSw; (try dsimp only at hSw); go_simp; first | done | with_reducible rfl)
                try simp only [Act.put, List.setIfInBounds_toArray, List.set_cons_zero, List.set_cons_succ]
                refine wpAnyH_take (i := 6) (oi := { dst := some 168, op := Go.Op.move (Go.Operand.tmp 20), type := 3, pos := "more.go:79", after := #[{ on := 2, ground := Go.Ground.guard }], guard := some (2, false) }) (v := ?_) rfl (by kernel_rfl) (by kernel_rfl) (by kernel_rfl) (fun _ _ _ h => h) (Or.inl ⟨by rfl, ?_⟩) (by assumption) ?_
                rotate_left
                · (intro w hSw; (try dsimp only at hSw); go_simp; first | done | with_reducible rfl)
                try simp only [Act.put, List.setIfInBounds_toArray, List.set_cons_zero, List.set_cons_succ]
                refine wpAnyH_take (i := 7) (oi := { dst := some 169, op := Go.Op.indexAddr 22 (Go.Operand.tmp 167) (Go.Operand.tmp 168), type := 0, pos := "more.go:79", after := #[{ on := 5, ground := Go.Ground.data }, { on := 6, ground := Go.Ground.data }, { on := 2, ground := Go.Ground.guard }], guard := some (2, false) }) (v := ?_) rfl (by kernel_rfl) (by kernel_rfl) (by kernel_rfl) (fun _ _ _ h => h) (Or.inl ⟨by rfl, ?_⟩) (by assumption) ?_
                rotate_left
                · (intro w hSw; (try dsimp only at hSw); go_simp; first | done | with_reducible rfl)
                try simp only [Act.put, List.setIfInBounds_toArray, List.set_cons_zero, List.set_cons_succ]
                refine wpAnyH_take (i := 8) (oi := { dst := some 170, op := Go.Op.load 36 (Go.Operand.tmp 169), type := 36, pos := "more.go:79", after := #[{ on := 7, ground := Go.Ground.data }, { on := 2, ground := Go.Ground.guard }], guard := some (2, false) }) (v := ?_) rfl (by kernel_rfl) (by kernel_rfl) (by kernel_rfl) (fun _ _ _ h => h) (Or.inl ⟨by rfl, ?_⟩) (by assumption) ?_
                rotate_left
                · (intro w hSw; (try dsimp only at hSw); go_simp; first | done | with_reducible rfl)
                try simp only [Act.put, List.setIfInBounds_toArray, List.set_cons_zero, List.set_cons_succ]
                refine wpAnyH_take (i := 9) (oi := { dst := some 171, op := Go.Op.move (Go.Operand.tmp 21), type := 36, pos := "more.go:79", after := #[{ on := 2, ground := Go.Ground.guard }], guard := some (2, false) }) (v := ?_) rfl (by kernel_rfl) (by kernel_rfl) (by kernel_rfl) (fun _ _ _ h => h) (Or.inl ⟨by rfl, ?_⟩) (by assumption) ?_
                rotate_left
                · (intro w hSw; (try dsimp only at hSw); go_simp; first | done | with_reducible rfl)
                try simp only [Act.put, List.setIfInBounds_toArray, List.set_cons_zero, List.set_cons_succ]
                refine wpAnyH_take (i := 10) (oi := { dst := some 172, op := Go.Op.call { callee := Go.Callee.builtin Go.Builtin.max, args := #[Go.Operand.tmp 170, Go.Operand.tmp 171], argTypes := #[36, 36] }, type := 36, pos := "more.go:79", after := #[{ on := 8, ground := Go.Ground.data }, { on := 9, ground := Go.Ground.data }, { on := 2, ground := Go.Ground.guard }], guard := some (2, false) }) (v := ?_) rfl (by kernel_rfl) (by kernel_rfl) (by kernel_rfl) (fun _ _ _ h => h) (Or.inl ⟨by rfl, ?_⟩) (by assumption) ?_
                rotate_left
                · (intro w hSw; (try dsimp only at hSw); go_simp; first | done | with_reducible rfl)
                try simp only [Act.put, List.setIfInBounds_toArray, List.set_cons_zero, List.set_cons_succ]
                refine wpAnyH_take (i := 11) (oi := { dst := some 173, op := Go.Op.binOp Go.BinOp.neq 36 (Go.Operand.tmp 166) (Go.Operand.tmp 172) 36, type := 4, pos := "more.go:79", after := #[{ on := 4, ground := Go.Ground.data }, { on := 10, ground := Go.Ground.data }, { on := 2, ground := Go.Ground.guard }], guard := some (2, false) }) (v := ?_) rfl (by kernel_rfl) (by kernel_rfl) (by kernel_rfl) (fun _ _ _ h => h) (Or.inl ⟨by rfl, ?_⟩) (by assumption) ?_
                rotate_left
                · (intro w hSw; (try dsimp only at hSw); go_simp; first | done | with_reducible rfl)
                try simp only [Act.put, List.setIfInBounds_toArray, List.set_cons_zero, List.set_cons_succ]
                rw [HM.out]
                refine wpAnyH_take (i := 12) (oi := { dst := some 174, op := Go.Op.pick (Go.Operand.tmp 164) (Go.Operand.const (Go.Value.bool true)) (Go.Operand.tmp 173), type := 4, pos := "more.go:79", after := #[{ on := 2, ground := Go.Ground.data }, { on := 11, ground := Go.Ground.data }], guard := none }) (v := ?_) rfl (by kernel_rfl) (by kernel_rfl) (by kernel_rfl) (fun _ _ _ h => h) (Or.inl ⟨by rfl, ?_⟩) (by assumption) ?_
                rotate_left
                · (intro w hSw; (try dsimp only at hSw); go_simp; first | done | with_reducible rfl)
                try simp only [Act.put, List.setIfInBounds_toArray, List.set_cons_zero, List.set_cons_succ]
                refine wpAnyH_take (i := 13) (oi := { dst := some 175, op := Go.Op.move (Go.Operand.tmp 174), type := 4, pos := "more.go:79", after := #[{ on := 12, ground := Go.Ground.data }, { on := 2, ground := Go.Ground.chain }], guard := none }) (v := ?_) rfl (by kernel_rfl) (by kernel_rfl) (by kernel_rfl) (fun _ _ _ h => h) (Or.inl ⟨by rfl, ?_⟩) (by assumption) ?_
                rotate_left
                · (intro w hSw; (try dsimp only at hSw); go_simp; first | done | with_reducible rfl)
                try simp only [Act.put, List.setIfInBounds_toArray, List.set_cons_zero, List.set_cons_succ]
                refine wpAnyH_take (i := 14) (oi := { dst := some 176, op := Go.Op.move (Go.Operand.tmp 24), type := 4, pos := "more.go:79", after := #[{ on := 13, ground := Go.Ground.guard }], guard := some (13, false) }) (v := ?_) rfl (by kernel_rfl) (by kernel_rfl) (by kernel_rfl) (fun _ _ _ h => h) (Or.inl ⟨by rfl, ?_⟩) (by assumption) ?_
                rotate_left
                · (intro w hSw; (try dsimp only at hSw); go_simp; first | done | with_reducible rfl)
                try simp only [Act.put, List.setIfInBounds_toArray, List.set_cons_zero, List.set_cons_succ]
                refine wpAnyH_take (i := 15) (oi := { dst := some 177, op := Go.Op.move (Go.Operand.tmp 176), type := 4, pos := "more.go:79", after := #[{ on := 14, ground := Go.Ground.data }, { on := 13, ground := Go.Ground.chain }, { on := 13, ground := Go.Ground.guard }], guard := some (13, false) }) (v := ?_) rfl (by kernel_rfl) (by kernel_rfl) (by kernel_rfl) (fun _ _ _ h => h) (Or.inl ⟨by rfl, ?_⟩) (by assumption) ?_
                rotate_left
                · (intro w hSw; (try dsimp only at hSw); go_simp; first | done | with_reducible rfl)
                try simp only [Act.put, List.setIfInBounds_toArray, List.set_cons_zero, List.set_cons_succ]
                refine wpAnyH_take (i := 16) (oi := { dst := some 178, op := Go.Op.load 38 (Go.Operand.tmp 22), type := 38, pos := "more.go:79", after := #[{ on := 15, ground := Go.Ground.guard }], guard := some (15, true) }) (v := ?_) rfl (by kernel_rfl) (by kernel_rfl) (by kernel_rfl) (fun _ _ _ h => h) (Or.inl ⟨by rfl, ?_⟩) (by assumption) ?_
                rotate_left
                · (intro w hSw; (try dsimp only at hSw); go_simp; first | done | with_reducible rfl)
                try simp only [Act.put, List.setIfInBounds_toArray, List.set_cons_zero, List.set_cons_succ]
                refine wpAnyH_take (i := 17) (oi := { dst := some 179, op := Go.Op.move (Go.Operand.tmp 20), type := 3, pos := "more.go:79", after := #[{ on := 15, ground := Go.Ground.guard }], guard := some (15, true) }) (v := ?_) rfl (by kernel_rfl) (by kernel_rfl) (by kernel_rfl) (fun _ _ _ h => h) (Or.inl ⟨by rfl, ?_⟩) (by assumption) ?_
                rotate_left
                · (intro w hSw; (try dsimp only at hSw); go_simp; first | done | with_reducible rfl)
                try simp only [Act.put, List.setIfInBounds_toArray, List.set_cons_zero, List.set_cons_succ]
                refine wpAnyH_take (i := 18) (oi := { dst := some 180, op := Go.Op.move (Go.Operand.tmp 0), type := 22, pos := "more.go:79", after := #[{ on := 15, ground := Go.Ground.guard }], guard := some (15, true) }) (v := ?_) rfl (by kernel_rfl) (by kernel_rfl) (by kernel_rfl) (fun _ _ _ h => h) (Or.inl ⟨by rfl, ?_⟩) (by assumption) ?_
                rotate_left
                · (intro w hSw; (try dsimp only at hSw); go_simp; first | done | with_reducible rfl)
                try simp only [Act.put, List.setIfInBounds_toArray, List.set_cons_zero, List.set_cons_succ]
                refine wpAnyH_take (i := 19) (oi := { dst := some 181, op := Go.Op.move (Go.Operand.tmp 20), type := 3, pos := "more.go:79", after := #[{ on := 15, ground := Go.Ground.guard }], guard := some (15, true) }) (v := ?_) rfl (by kernel_rfl) (by kernel_rfl) (by kernel_rfl) (fun _ _ _ h => h) (Or.inl ⟨by rfl, ?_⟩) (by assumption) ?_
                rotate_left
                · (intro w hSw; (try dsimp only at hSw); go_simp; first | done | with_reducible rfl)
                try simp only [Act.put, List.setIfInBounds_toArray, List.set_cons_zero, List.set_cons_succ]
                refine wpAnyH_take (i := 20) (oi := { dst := some 182, op := Go.Op.indexAddr 22 (Go.Operand.tmp 180) (Go.Operand.tmp 181), type := 0, pos := "more.go:79", after := #[{ on := 18, ground := Go.Ground.data }, { on := 19, ground := Go.Ground.data }, { on := 15, ground := Go.Ground.guard }], guard := some (15, true) }) (v := ?_) rfl (by kernel_rfl) (by kernel_rfl) (by kernel_rfl) (fun _ _ _ h => h) (Or.inl ⟨by rfl, ?_⟩) (by assumption) ?_
                rotate_left
                · (intro w hSw; (try dsimp only at hSw); go_simp; first | done | with_reducible rfl)
                try simp only [Act.put, List.setIfInBounds_toArray, List.set_cons_zero, List.set_cons_succ]
                refine wpAnyH_take (i := 21) (oi := { dst := some 183, op := Go.Op.load 36 (Go.Operand.tmp 182), type := 36, pos := "more.go:79", after := #[{ on := 20, ground := Go.Ground.data }, { on := 15, ground := Go.Ground.guard }], guard := some (15, true) }) (v := ?_) rfl (by kernel_rfl) (by kernel_rfl) (by kernel_rfl) (fun _ _ _ h => h) (Or.inl ⟨by rfl, ?_⟩) (by assumption) ?_
                rotate_left
                · (intro w hSw; (try dsimp only at hSw); go_simp; first | done | with_reducible rfl)
                try simp only [Act.put, List.setIfInBounds_toArray, List.set_cons_zero, List.set_cons_succ]
                refine wpAnyH_ready (rs := [22]) (by kernel_rfl) (by simp) ?_
                refine AllReadyH.cons (o := { dst := some 184, op := Go.Op.call { callee := Go.Callee.value (Go.Operand.func 7), args := #[Go.Operand.tmp 179, Go.Operand.tmp 183], argTypes := #[3, 36] }, type := 38, pos := "more.go:79", after := #[{ on := 17, ground := Go.Ground.data }, { on := 21, ground := Go.Ground.data }, { on := 15, ground := Go.Ground.chain }, { on := 15, ground := Go.Ground.guard }], guard := some (15, true) }) rfl (fun K hK => ?_) AllReadyH.nil
                go_simp
                refine (one11_any i v (by omega) _).mono ?_
                rintro e7 w7 ⟨rfl, hb7⟩
                go_wp2_with fail
                refine hK.out _ _ ⟨(HI.out.1.drew.below_ hb7).three, HK0.out w7 hb7⟩ (fun hHeld2 => ?_)
                clear hK K hHeld
                have hHeld := hHeld2
                clear hHeld2
                try simp only [Act.put, List.setIfInBounds_toArray, List.set_cons_zero, List.set_cons_succ]
                refine wpAnyH_take (i := 23) (oi := { dst := some 185, op := Go.Op.binOp Go.BinOp.neq 38 (Go.Operand.tmp 178) (Go.Operand.tmp 184) 38, type := 4, pos := "more.go:79", after := #[{ on := 16, ground := Go.Ground.data }, { on := 22, ground := Go.Ground.data }, { on := 15, ground := Go.Ground.guard }], guard := some (15, true) }) (v := ?_) rfl (by kernel_rfl) (by kernel_rfl) (by kernel_rfl) (fun _ _ _ h => h) (Or.inl ⟨by rfl, ?_⟩) (by assumption) ?_
                rotate_left
                · (intro w hSw; (try dsimp only at hSw); go_simp; first | done | with_reducible rfl)
                try simp only [Act.put, List.setIfInBounds_toArray, List.set_cons_zero, List.set_cons_succ]
                refine wpAnyH_take (i := 24) (oi := { dst := some 186, op := Go.Op.pick (Go.Operand.tmp 177) (Go.Operand.tmp 185) (Go.Operand.const (Go.Value.bool false)), type := 4, pos := "more.go:79", after := #[{ on := 15, ground := Go.Ground.data }, { on := 23, ground := Go.Ground.data }, { on := 13, ground := Go.Ground.guard }], guard := some (13, false) }) (v := ?_) rfl (by kernel_rfl) (by kernel_rfl) (by kernel_rfl) (fun _ _ _ h => h) (Or.inl ⟨by rfl, ?_⟩) (by assumption) ?_
                rotate_left
                · (intro w hSw; (try dsimp only at hSw); go_simp; first | done | with_reducible rfl)
                try simp only [Act.put, List.setIfInBounds_toArray, List.set_cons_zero, List.set_cons_succ]
                refine wpAnyH_take (i := 25) (oi := { dst := some 187, op := Go.Op.pick (Go.Operand.tmp 175) (Go.Operand.const (Go.Value.bool true)) (Go.Operand.tmp 186), type := 4, pos := "more.go:79", after := #[{ on := 13, ground := Go.Ground.data }, { on := 24, ground := Go.Ground.data }], guard := none }) (v := ?_) rfl (by kernel_rfl) (by kernel_rfl) (by kernel_rfl) (fun _ _ _ h => h) (Or.inl ⟨by rfl, ?_⟩) (by assumption) ?_
                rotate_left
                · (intro w hSw; (try dsimp only at hSw); go_simp; first | done | with_reducible rfl)
                try simp only [Act.put, List.setIfInBounds_toArray, List.set_cons_zero, List.set_cons_succ]
                refine wpAnyH_done (by kernel_rfl) ?_ _
                have S7 : Step o4 (fun _ => False) W5 o4 w7 := (Step.refl o4 (fun _ => False) W5).drew.trans (Step.of_below o4 _ hb7)
                have HD7 := Lib.hid (HD5.out.step S7 (fun _ _ _ => id))
                have HX7 := Lib.hid (HX5.out.step S7 id)
                have HF7 := Lib.hid (HF5.out.step S7)
                have HS7 := Lib.hid (HS5.out.trans (S7.mono (fun _ h => h.elim)))
                have HC7 := Lib.hid (show ((cntN on vs (i + 1) : Nat) : Int) = (cn : Int) + 1 by rw [HCN.out, if_pos hnew]; rfl)
                have hcn3 : (cn : Int) ≤ 3 := by have := HCL.out; omega
                clear hb7 S7 hHeld z0 z1 z2 c0 HD5 HX5 HF5 HS5 HK0 HM HI HCN HEN HEV
                go_wp2_with fail
                go_roundw
                case rel => exact ⟨i + 1, o4, by rw [HC7.out, IntWalk.wrap64_in _ (by omega)], by go_num, by omega, HD7.out, HX7.out, HF7.out, HS7.out⟩
                case measure => simp [intOf]; omega
              · have hnewI : ¬ (was : Int) < (v : Int) := by omega
                have HM := Lib.hid (show ((fv : Int) != max (v : Int) (was : Int)) = false by rw [bne_eq_false_iff_eq]; have h1 : fv = max v was := HEV.out; omega)
                go_upto_region 37 with (fail)
                refine wp_region_held_drew (S := (fun w' => (w'.cell? ⟨gI, 0, none⟩ = some (.int .i64 fb) ∧ w'.cell? ⟨gI, 1, none⟩ = some (.int .u64 (fv : Nat)) ∧ w'.cell? ⟨gI, 2, none⟩ = some (.string fd)) ∧ w'.cell? (ad.add i) = some (.int .u64 v))) (by kernel_rfl) ⟨⟨z0, z1, z2⟩, c0⟩ (fun hHeld => ?_)
                refine wpAnyH_take (i := 0) (oi := { dst := some 162, op := Go.Op.move (Go.Operand.tmp 23), type := 33, pos := "more.go:79", after := #[], guard := none }) (v := ?_) rfl (by kernel_rfl) (by kernel_rfl) (by kernel_rfl) (fun _ _ _ h => h) (Or.inl ⟨by rfl, ?_⟩) (by assumption) ?_
                rotate_left
                · (intro w hSw; (try dsimp only at hSw); go_simp; first | done | with_reducible rfl)
                try simp only [Act.put, List.setIfInBounds_toArray, List.set_cons_zero, List.set_cons_succ]
                refine wpAnyH_take (i := 1) (oi := { dst := some 163, op := Go.Op.binOp Go.BinOp.neq 33 (Go.Operand.tmp 162) (Go.Operand.const (Go.Value.int Go.IntKind.i64 0)) 33, type := 4, pos := "more.go:79", after := #[{ on := 0, ground := Go.Ground.data }], guard := none }) (v := ?_) rfl (by kernel_rfl) (by kernel_rfl) (by kernel_rfl) (fun _ _ _ h => h) (Or.inl ⟨by rfl, ?_⟩) (by assumption) ?_
                rotate_left
                · (intro w hSw; (try dsimp only at hSw); go_simp; first | done | with_reducible rfl)
                try simp only [Act.put, List.setIfInBounds_toArray, List.set_cons_zero, List.set_cons_succ]
                refine wpAnyH_take (i := 2) (oi := { dst := some 164, op := Go.Op.move (Go.Operand.tmp 163), type := 4, pos := "more.go:79", after := #[{ on := 1, ground := Go.Ground.data }], guard := none }) (v := ?_) rfl (by kernel_rfl) (by kernel_rfl) (by kernel_rfl) (fun _ _ _ h => h) (Or.inl ⟨by rfl, ?_⟩) (by assumption) ?_
                rotate_left
                · (intro w hSw; (try dsimp only at hSw); go_simp; first | done | with_reducible rfl)
                try simp only [Act.put, List.setIfInBounds_toArray, List.set_cons_zero, List.set_cons_succ]
                refine wpAnyH_take (i := 3) (oi := { dst := some 165, op := Go.Op.fieldAddr 38 (Go.Operand.tmp 22) 1, type := 0, pos := "more.go:79", after := #[{ on := 2, ground := Go.Ground.guard }], guard := some (2, false) }) (v := ?_) rfl (by kernel_rfl) (by kernel_rfl) (by kernel_rfl) (fun _ _ _ h => h) (Or.inl ⟨by rfl, ?_⟩) (by assumption) ?_
                rotate_left
                · (intro w hSw; (try dsimp only at hSw); go_simp; first | done | with_reducible rfl)
                try simp only [Act.put, List.setIfInBounds_toArray, List.set_cons_zero, List.set_cons_succ]
                refine wpAnyH_take (i := 4) (oi := { dst := some 166, op := Go.Op.load 36 (Go.Operand.tmp 165), type := 36, pos := "more.go:79", after := #[{ on := 3, ground := Go.Ground.data }, { on := 2, ground := Go.Ground.guard }], guard := some (2, false) }) (v := ?_) rfl (by kernel_rfl) (by kernel_rfl) (by kernel_rfl) (fun _ _ _ h => h) (Or.inl ⟨by rfl, ?_⟩) (by assumption) ?_
                rotate_left
                · (intro w hSw; (try dsimp only at hSw); go_simp; first | done | with_reducible rfl)
                try simp only [Act.put, List.setIfInBounds_toArray, List.set_cons_zero, List.set_cons_succ]
                refine wpAnyH_take (i := 5) (oi := { dst := some 167, op := Go.Op.move (Go.Operand.tmp 0), type := 22, pos := "more.go:79", after := #[{ on := 2, ground := Go.Ground.guard }], guard := some (2, false) }) (v := ?_) rfl (by kernel_rfl) (by kernel_rfl) (by kernel_rfl) (fun _ _ _ h => h) (Or.inl ⟨by rfl, ?_⟩) (by assumption) ?_
                rotate_left
                · (intro w hSw; (try dsimp only at hSw); go_simp; first | done | with_reducible rfl)
                try simp only [Act.put, List.setIfInBounds_toArray, List.set_cons_zero, List.set_cons_succ]
                refine wpAnyH_take (i := 6) (oi := { dst := some 168, op := Go.Op.move (Go.Operand.tmp 20), type := 3, pos := "more.go:79", after := #[{ on := 2, ground := Go.Ground.guard }], guard := some (2, false) }) (v := ?_) rfl (by kernel_rfl) (by kernel_rfl) (by kernel_rfl) (fun _ _ _ h => h) (Or.inl ⟨by rfl, ?_⟩) (by assumption) ?_
                rotate_left
                · (intro w hSw; (try dsimp only at hSw); go_simp; first | done | with_reducible rfl)
                try simp only [Act.put, List.setIfInBounds_toArray, List.set_cons_zero, List.set_cons_succ]
                refine wpAnyH_take (i := 7) (oi := { dst := some 169, op := Go.Op.indexAddr 22 (Go.Operand.tmp 167) (Go.Operand.tmp 168), type := 0, pos := "more.go:79", after := #[{ on := 5, ground := Go.Ground.data }, { on := 6, ground := Go.Ground.data }, { on := 2, ground := Go.Ground.guard }], guard := some (2, false) }) (v := ?_) rfl (by kernel_rfl) (by kernel_rfl) (by kernel_rfl) (fun _ _ _ h => h) (Or.inl ⟨by rfl, ?_⟩) (by assumption) ?_
                rotate_left
                · (intro w hSw; (try dsimp only at hSw); go_simp; first | done | with_reducible rfl)
                try simp only [Act.put, List.setIfInBounds_toArray, List.set_cons_zero, List.set_cons_succ]
                refine wpAnyH_take (i := 8) (oi := { dst := some 170, op := Go.Op.load 36 (Go.Operand.tmp 169), type := 36, pos := "more.go:79", after := #[{ on := 7, ground := Go.Ground.data }, { on := 2, ground := Go.Ground.guard }], guard := some (2, false) }) (v := ?_) rfl (by kernel_rfl) (by kernel_rfl) (by kernel_rfl) (fun _ _ _ h => h) (Or.inl ⟨by rfl, ?_⟩) (by assumption) ?_
                rotate_left
                · (intro w hSw; (try dsimp only at hSw); go_simp; first | done | with_reducible rfl)
                try simp only [Act.put, List.setIfInBounds_toArray, List.set_cons_zero, List.set_cons_succ]
                refine wpAnyH_take (i := 9) (oi := { dst := some 171, op := Go.Op.move (Go.Operand.tmp 21), type := 36, pos := "more.go:79", after := #[{ on := 2, ground := Go.Ground.guard }], guard := some (2, false) }) (v := ?_) rfl (by kernel_rfl) (by kernel_rfl) (by kernel_rfl) (fun _ _ _ h => h) (Or.inl ⟨by rfl, ?_⟩) (by assumption) ?_
                rotate_left
                · (intro w hSw; (try dsimp only at hSw); go_simp; first | done | with_reducible rfl)
                try simp only [Act.put, List.setIfInBounds_toArray, List.set_cons_zero, List.set_cons_succ]
                refine wpAnyH_take (i := 10) (oi := { dst := some 172, op := Go.Op.call { callee := Go.Callee.builtin Go.Builtin.max, args := #[Go.Operand.tmp 170, Go.Operand.tmp 171], argTypes := #[36, 36] }, type := 36, pos := "more.go:79", after := #[{ on := 8, ground := Go.Ground.data }, { on := 9, ground := Go.Ground.data }, { on := 2, ground := Go.Ground.guard }], guard := some (2, false) }) (v := ?_) rfl (by kernel_rfl) (by kernel_rfl) (by kernel_rfl) (fun _ _ _ h => h) (Or.inl ⟨by rfl, ?_⟩) (by assumption) ?_
                rotate_left
                · (intro w hSw; (try dsimp only at hSw); go_simp; first | done | with_reducible rfl)
                try simp only [Act.put, List.setIfInBounds_toArray, List.set_cons_zero, List.set_cons_succ]
                refine wpAnyH_take (i := 11) (oi := { dst := some 173, op := Go.Op.binOp Go.BinOp.neq 36 (Go.Operand.tmp 166) (Go.Operand.tmp 172) 36, type := 4, pos := "more.go:79", after := #[{ on := 4, ground := Go.Ground.data }, { on := 10, ground := Go.Ground.data }, { on := 2, ground := Go.Ground.guard }], guard := some (2, false) }) (v := ?_) rfl (by kernel_rfl) (by kernel_rfl) (by kernel_rfl) (fun _ _ _ h => h) (Or.inl ⟨by rfl, ?_⟩) (by assumption) ?_
                rotate_left
                · (intro w hSw; (try dsimp only at hSw); go_simp; first | done | with_reducible rfl)
                try simp only [Act.put, List.setIfInBounds_toArray, List.set_cons_zero, List.set_cons_succ]
                rw [HM.out]
                refine wpAnyH_take (i := 12) (oi := { dst := some 174, op := Go.Op.pick (Go.Operand.tmp 164) (Go.Operand.const (Go.Value.bool true)) (Go.Operand.tmp 173), type := 4, pos := "more.go:79", after := #[{ on := 2, ground := Go.Ground.data }, { on := 11, ground := Go.Ground.data }], guard := none }) (v := ?_) rfl (by kernel_rfl) (by kernel_rfl) (by kernel_rfl) (fun _ _ _ h => h) (Or.inl ⟨by rfl, ?_⟩) (by assumption) ?_
                rotate_left
                · (intro w hSw; (try dsimp only at hSw); go_simp; first | done | with_reducible rfl)
                try simp only [Act.put, List.setIfInBounds_toArray, List.set_cons_zero, List.set_cons_succ]
                refine wpAnyH_take (i := 13) (oi := { dst := some 175, op := Go.Op.move (Go.Operand.tmp 174), type := 4, pos := "more.go:79", after := #[{ on := 12, ground := Go.Ground.data }, { on := 2, ground := Go.Ground.chain }], guard := none }) (v := ?_) rfl (by kernel_rfl) (by kernel_rfl) (by kernel_rfl) (fun _ _ _ h => h) (Or.inl ⟨by rfl, ?_⟩) (by assumption) ?_
                rotate_left
                · (intro w hSw; (try dsimp only at hSw); go_simp; first | done | with_reducible rfl)
                try simp only [Act.put, List.setIfInBounds_toArray, List.set_cons_zero, List.set_cons_succ]
                refine wpAnyH_take (i := 14) (oi := { dst := some 176, op := Go.Op.move (Go.Operand.tmp 24), type := 4, pos := "more.go:79", after := #[{ on := 13, ground := Go.Ground.guard }], guard := some (13, false) }) (v := ?_) rfl (by kernel_rfl) (by kernel_rfl) (by kernel_rfl) (fun _ _ _ h => h) (Or.inl ⟨by rfl, ?_⟩) (by assumption) ?_
                rotate_left
                · (intro w hSw; (try dsimp only at hSw); go_simp; first | done | with_reducible rfl)
                try simp only [Act.put, List.setIfInBounds_toArray, List.set_cons_zero, List.set_cons_succ]
                refine wpAnyH_take (i := 15) (oi := { dst := some 177, op := Go.Op.move (Go.Operand.tmp 176), type := 4, pos := "more.go:79", after := #[{ on := 14, ground := Go.Ground.data }, { on := 13, ground := Go.Ground.chain }, { on := 13, ground := Go.Ground.guard }], guard := some (13, false) }) (v := ?_) rfl (by kernel_rfl) (by kernel_rfl) (by kernel_rfl) (fun _ _ _ h => h) (Or.inl ⟨by rfl, ?_⟩) (by assumption) ?_
                rotate_left
                · (intro w hSw; (try dsimp only at hSw); go_simp; first | done | with_reducible rfl)
                try simp only [Act.put, List.setIfInBounds_toArray, List.set_cons_zero, List.set_cons_succ]
                refine wpAnyH_take (i := 16) (oi := { dst := some 178, op := Go.Op.load 38 (Go.Operand.tmp 22), type := 38, pos := "more.go:79", after := #[{ on := 15, ground := Go.Ground.guard }], guard := some (15, true) }) (v := undef) rfl (by kernel_rfl) (by kernel_rfl) (by kernel_rfl) (fun _ _ _ h => h) (Or.inr ⟨by rfl, rfl⟩) (by assumption) ?_
                try simp only [Act.put, List.setIfInBounds_toArray, List.set_cons_zero, List.set_cons_succ]
                refine wpAnyH_take (i := 17) (oi := { dst := some 179, op := Go.Op.move (Go.Operand.tmp 20), type := 3, pos := "more.go:79", after := #[{ on := 15, ground := Go.Ground.guard }], guard := some (15, true) }) (v := undef) rfl (by kernel_rfl) (by kernel_rfl) (by kernel_rfl) (fun _ _ _ h => h) (Or.inr ⟨by rfl, rfl⟩) (by assumption) ?_
                try simp only [Act.put, List.setIfInBounds_toArray, List.set_cons_zero, List.set_cons_succ]
                refine wpAnyH_take (i := 18) (oi := { dst := some 180, op := Go.Op.move (Go.Operand.tmp 0), type := 22, pos := "more.go:79", after := #[{ on := 15, ground := Go.Ground.guard }], guard := some (15, true) }) (v := undef) rfl (by kernel_rfl) (by kernel_rfl) (by kernel_rfl) (fun _ _ _ h => h) (Or.inr ⟨by rfl, rfl⟩) (by assumption) ?_
                try simp only [Act.put, List.setIfInBounds_toArray, List.set_cons_zero, List.set_cons_succ]
                refine wpAnyH_take (i := 19) (oi := { dst := some 181, op := Go.Op.move (Go.Operand.tmp 20), type := 3, pos := "more.go:79", after := #[{ on := 15, ground := Go.Ground.guard }], guard := some (15, true) }) (v := undef) rfl (by kernel_rfl) (by kernel_rfl) (by kernel_rfl) (fun _ _ _ h => h) (Or.inr ⟨by rfl, rfl⟩) (by assumption) ?_
                try simp only [Act.put, List.setIfInBounds_toArray, List.set_cons_zero, List.set_cons_succ]
                refine wpAnyH_take (i := 20) (oi := { dst := some 182, op := Go.Op.indexAddr 22 (Go.Operand.tmp 180) (Go.Operand.tmp 181), type := 0, pos := "more.go:79", after := #[{ on := 18, ground := Go.Ground.data }, { on := 19, ground := Go.Ground.data }, { on := 15, ground := Go.Ground.guard }], guard := some (15, true) }) (v := undef) rfl (by kernel_rfl) (by kernel_rfl) (by kernel_rfl) (fun _ _ _ h => h) (Or.inr ⟨by rfl, rfl⟩) (by assumption) ?_
                try simp only [Act.put, List.setIfInBounds_toArray, List.set_cons_zero, List.set_cons_succ]
                refine wpAnyH_take (i := 21) (oi := { dst := some 183, op := Go.Op.load 36 (Go.Operand.tmp 182), type := 36, pos := "more.go:79", after := #[{ on := 20, ground := Go.Ground.data }, { on := 15, ground := Go.Ground.guard }], guard := some (15, true) }) (v := undef) rfl (by kernel_rfl) (by kernel_rfl) (by kernel_rfl) (fun _ _ _ h => h) (Or.inr ⟨by rfl, rfl⟩) (by assumption) ?_
                try simp only [Act.put, List.setIfInBounds_toArray, List.set_cons_zero, List.set_cons_succ]
                refine wpAnyH_take (i := 22) (oi := { dst := some 184, op := Go.Op.call { callee := Go.Callee.value (Go.Operand.func 7), args := #[Go.Operand.tmp 179, Go.Operand.tmp 183], argTypes := #[3, 36] }, type := 38, pos := "more.go:79", after := #[{ on := 17, ground := Go.Ground.data }, { on := 21, ground := Go.Ground.data }, { on := 15, ground := Go.Ground.chain }, { on := 15, ground := Go.Ground.guard }], guard := some (15, true) }) (v := undef) rfl (by kernel_rfl) (by kernel_rfl) (by kernel_rfl) (fun _ _ _ h => h) (Or.inr ⟨by rfl, rfl⟩) (by assumption) ?_
                try simp only [Act.put, List.setIfInBounds_toArray, List.set_cons_zero, List.set_cons_succ]
                refine wpAnyH_take (i := 23) (oi := { dst := some 185, op := Go.Op.binOp Go.BinOp.neq 38 (Go.Operand.tmp 178) (Go.Operand.tmp 184) 38, type := 4, pos := "more.go:79", after := #[{ on := 16, ground := Go.Ground.data }, { on := 22, ground := Go.Ground.data }, { on := 15, ground := Go.Ground.guard }], guard := some (15, true) }) (v := undef) rfl (by kernel_rfl) (by kernel_rfl) (by kernel_rfl) (fun _ _ _ h => h) (Or.inr ⟨by rfl, rfl⟩) (by assumption) ?_
                try simp only [Act.put, List.setIfInBounds_toArray, List.set_cons_zero, List.set_cons_succ]
                refine wpAnyH_take (i := 24) (oi := { dst := some 186, op := Go.Op.pick (Go.Operand.tmp 177) (Go.Operand.tmp 185) (Go.Operand.const (Go.Value.bool false)), type := 4, pos := "more.go:79", after := #[{ on := 15, ground := Go.Ground.data }, { on := 23, ground := Go.Ground.data }, { on := 13, ground := Go.Ground.guard }], guard := some (13, false) }) (v := ?_) rfl (by kernel_rfl) (by kernel_rfl) (by kernel_rfl) (fun _ _ _ h => h) (Or.inl ⟨by rfl, ?_⟩) (by assumption) ?_
                rotate_left
                · (intro w hSw; (try dsimp only at hSw); go_simp; first | done | with_reducible rfl)
                try simp only [Act.put, List.setIfInBounds_toArray, List.set_cons_zero, List.set_cons_succ]
                refine wpAnyH_take (i := 25) (oi := { dst := some 187, op := Go.Op.pick (Go.Operand.tmp 175) (Go.Operand.const (Go.Value.bool true)) (Go.Operand.tmp 186), type := 4, pos := "more.go:79", after := #[{ on := 13, ground := Go.Ground.data }, { on := 24, ground := Go.Ground.data }], guard := none }) (v := ?_) rfl (by kernel_rfl) (by kernel_rfl) (by kernel_rfl) (fun _ _ _ h => h) (Or.inl ⟨by rfl, ?_⟩) (by assumption) ?_
                rotate_left
                · (intro w hSw; (try dsimp only at hSw); go_simp; first | done | with_reducible rfl)
                try simp only [Act.put, List.setIfInBounds_toArray, List.set_cons_zero, List.set_cons_succ]
                refine wpAnyH_done (by kernel_rfl) ?_ _
                have S7 : Step o4 (fun _ => False) W5 o4 W5.drew := (Step.refl o4 (fun _ => False) W5).drew
                have HD7 := Lib.hid (HD5.out.step S7 (fun _ _ _ => id))
                have HX7 := Lib.hid (HX5.out.step S7 id)
                have HF7 := Lib.hid (HF5.out.step S7)
                have HS7 := Lib.hid (HS5.out.trans (S7.mono (fun _ h => h.elim)))
                have HC7 := Lib.hid (show cntN on vs (i + 1) = cn by rw [HCN.out, if_neg hnew]; rfl)
                clear S7 hHeld z0 z1 z2 c0 HD5 HX5 HF5 HS5 HM HI HCN HEN HEV
                go_wp2_with fail
                go_roundw
                case rel => exact ⟨i + 1, o4, by rw [HC7.out], by go_num, by omega, HD7.out, HX7.out, HF7.out, HS7.out⟩
                case measure => simp [intOf]; omega
          · have hltI2 : ¬ (i : Int) < (n : Int) := by omega
            obtain rfl : i = n := by omega
            obtain ⟨s0, s1, s2, s3, s4⟩ := HXq.out.1.five
            obtain ⟨hr1, hsc, hse⟩ := run_none HV9.out.calm HV9.out.head 9 ((2 : Nat) : Int) 11
            have e1 : (runR D9 1 9 ((2 : Nat) : Int) 11).e = 0 := by rw [hr1]
            have e2 : (runR D9 1 9 ((2 : Nat) : Int) 11).n = 0 := by rw [hr1]
            have e3 : (runR D9 1 9 ((2 : Nat) : Int) 11).D = D9 := by rw [hr1]
            have HSC := Lib.hid hsc
            have HSE := Lib.hid hse
            go_wp2_with fail
            have hrun := erun_any HDq.out HV9.out.calm.tame (by omega) (by omega) HFq.out 1 9 ((2 : Nat) : Int) 11
            rw [e1, e2, e3] at hrun
            refine hrun.mono ?_
            clear hrun hr1 e1 e2 e3 hsc hse
            rintro e w5 ⟨rfl, o5, hd, _, hs⟩
            have HD5 := Lib.hid hd
            have HX5 := Lib.hid (HXq.out.step hs (no_six (by omega)))
            have HF5 := Lib.hid (HFq.out.step hs)
            have HS5 := Lib.hid (HSq.out.trans (hs.mono (nz_six 1 (by omega))))
            clear hd hs HDq HXq HFq HSq s0 s1 s2 s3 s4
            obtain ⟨s0, s1, s2, s3, s4⟩ := HX5.out.1.five
            go_wp2_with fail
            have hscan := escan_any HD5.out (by rw [HV9.out.calm.sectors]; omega) HV9.out.calm.wf 1
            rw [HSC.out, HSE.out] at hscan
            refine hscan.mono ?_
            clear hscan
            rintro e w6 ⟨A, cap, rfl, o6, rs, hra⟩
            have HF6 := Lib.hid (HF5.out.below hra.env.low)
            have HS6 := Lib.hid (HS5.out.trans (Step.of_below o5 nz hra.env.low))
            clear hra s0 s1 s2 s3 s4
            go_wp2_with fail
            refine (alive13_any HF6.out).mono ?_
            rintro e w7 ⟨rfl, o7, hs⟩
            have HS7 := Lib.hid (HS6.out.trans hs)
            clear hs
            go_wp2_with fail
            go_ret
            exact ⟨rfl, HS7.out.below (fun _ _ h => h rfl) (Nat.le_refl _)⟩
end Go.Proofs.YtllbionkmgpcaaaGreatDoor
