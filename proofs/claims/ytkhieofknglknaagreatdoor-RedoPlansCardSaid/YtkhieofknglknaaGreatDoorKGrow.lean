/- The document's plan, walked . -/
import Derived.Test.YtkhieofknglknaaGreatDoorKRefP
import Derived.Test.YtkhieofknglknaaGreatDoorKWireC
namespace Go.Proofs.YtkhieofknglknaaGreatDoor
open Go.RowKit

set_option maxRecDepth 100000 in
set_option maxHeartbeats 16000000 in
theorem refplan_any (oo : Nat → Nat) (d : Nat) (rs : List Rc) (vs : List Value) (A : Option Addr) (cap : Nat) (w : World) (h : RecsRd w A rs vs) (hl : rs.length ≤ 1000) (hi : ∀ r ∈ rs, r.images.length ≤ 100) :
    Calls Tryz.prog 10 #[.slice A rs.length cap] w fun e w' => ∃ A' cap', e = .returned (.slice A' (planOf rs).length cap') ∧ OwnS (band oo w.heap.size w'.heap.size d) d w' 72 3 (.slice A' (planOf rs).length cap') (planOf rs).length (imcells (planOf rs)) ∧ Below w.heap.size w w' := by
  obtain ⟨i0, hi0, hz0, hz1, hz2⟩ := info_parts info_im
  have HRD := Lib.hid h
  have HL := Lib.hid hl
  have HI := Lib.hid hi
  have hlI : (rs.length : Int) ≤ 1000 := by omega
  obtain ⟨P, hP⟩ : ∃ P, planOf rs = P := ⟨_, rfl⟩
  have HP := Lib.hid (show planF (rs.flatMap (·.images)) = P by rw [← plan_F]; exact hP)
  have HFL := Lib.hid (flat_im hi)
  rw [hP]
  clear h hl hi hP
  have H0 := Lib.hid (show OutF (fun _ => 0) 2 w w (.slice none 0 0) (planF ((rs.take 0).flatMap (·.images))) from ⟨OwnS.nil _ _ _ _ _, Env.start w, fun _ _ => rfl, .inl rfl⟩)
  go_enter Tryz.func10, Tryz.ntmps10
  go_wp2_with fail
  go_loopw [3, 4] (fun t3 t4 wr => ∃ (j : Nat) (o1 : Nat → Nat) (c : Nat), j ≤ rs.length ∧ t4 = .int .i64 j ∧ OutF o1 c w wr t3 (planF ((rs.take j).flatMap (·.images)))) (fun _ t4 _ => rs.length - (intOf t4).toNat)
  case atStart => exact ⟨0, _, 2, by omega, rfl, H0.out⟩
  case round =>
    obtain ⟨j, o1, c1, hj, rfl, hp⟩ := hrel
    have HP1 := Lib.hid hp
    have HJ := Lib.hid hj
    clear hp
    by_cases hlt : j < rs.length
    · have hltI : (j : Int) < (rs.length : Int) := by omega
      have HJL := Lib.hid hlt
      obtain ⟨r, hr⟩ : ∃ r, rs[j]? = some r := ⟨_, List.getElem?_eq_getElem hlt⟩
      obtain ⟨ad, B, cp, rfl, y0, y1, y2, hrd⟩ := HRD.out.row hr
      have HY2 := Lib.hid y2
      have HTK := Lib.hid (take_im hr)
      have hr1 := HI.out r (List.mem_of_getElem? hr)
      have HR1 := Lib.hid hr1
      have hrI : (r.images.length : Int) ≤ 100 := by omega
      have HRI := Lib.hid hrd
      have HPRE := Lib.hid (show ((rs.take j).flatMap (·.images)).length ≤ 100000 by
        have h1 := flat_im (rs := rs.take j) (fun x hx => HI.out x (List.mem_of_mem_take hx))
        rw [List.length_take] at h1
        have := HL.out
        omega)
      clear hr hrd hr1 y0 y1 y2
      go_wp2_with fail
      obtain ⟨PRE, hPRE⟩ : ∃ l, (rs.take j).flatMap (·.images) = l := ⟨_, rfl⟩
      rw [hPRE] at HP1 HTK HPRE
      obtain ⟨L, hL⟩ : ∃ l, r.images = l := ⟨_, rfl⟩
      rw [hL] at HTK HR1 hrI HRI HY2
      clear hPRE hL
      go_loopw [3, 5] (fun t3 t5 wi => ∃ (i : Nat) (o2 : Nat → Nat) (c : Nat), i ≤ L.length ∧ t5 = .int .i64 i ∧ OutF o2 c w wi t3 (planF (PRE ++ L.take i))) (fun _ t5 _ => L.length - (intOf t5).toNat)
      case atStart => exact ⟨0, o1, c1, by omega, rfl, by rw [List.take_zero, List.append_nil]; exact HP1.out⟩
      case round =>
        obtain ⟨i, o2, c, hi, rfl, hp2⟩ := hrel
        have y2 := cell_below HY2.out hp2.env.low
        by_cases hlt2 : i < L.length
        · have hlt2I : (i : Int) < (L.length : Int) := by omega
          have HIL := Lib.hid hlt2
          obtain ⟨x, hx⟩ : ∃ x, L[i]? = some x := ⟨_, List.getElem?_eq_getElem hlt2⟩
          obtain ⟨ai, rfl, x0, x1, x2⟩ := (HRI.out.below' (by omega) hp2.env.low).imrow hx
          have HTX := Lib.hid (show planF (PRE ++ L.take (i + 1)) = planIns (planF (PRE ++ L.take i)) x by rw [List.take_add_one, hx, Option.toList_some, ← List.append_assoc, planF_add])
          have hll : (planF (PRE ++ L.take i)).length ≤ 200000 := Nat.le_trans (planF_len _) (by rw [List.length_append, List.length_take]; have := HPRE.out; have := HR1.out; omega)
          generalize planF (PRE ++ L.take i) = l at HTX hp2 hll
          obtain ⟨A3, cap3, hv3, hcap, hcm⟩ := own_form' hp2.own
          subst hv3
          have HLL := Lib.hid hll
          have hllI : (l.length : Int) ≤ 200000 := by omega
          have hcmI : (cap3 : Int) ≤ 9223372036854775807 := by unfold maxLen at hcm; omega
          have HCM := Lib.hid hcm
          obtain ⟨xb, xv, xd⟩ := x
          simp only at x0 x1 x2
          have HP3 := Lib.hid (hp2.alloc (.cells #[.int .i64 xb, .int .u64 xv, .string xd] 72))
          have HX3 := Lib.hid (Keep.new hp2.fut 72 #[.int .i64 xb, .int .u64 xv, .string xd])
          have HXW := Lib.hid (show w.heap.size ≤ wr.heap.size from hp2.env.low.size)
          clear hp2 hx hll hcm
          go_upto_region 9 with (fail)
          generalize wr.alloc (.cells #[.int .i64 xb, .int .u64 xv, .string xd] 72) = W3 at HP3 HX3 ⊢
          generalize wr.heap.size = X at HX3 HXW ⊢
          clear x0 x1 x2 y2
          go_wp2_with fail
          go_loopw [7] (fun t7 wk => ∃ (k : Nat), k ≤ l.length ∧ t7 = .int .i64 k ∧ (∀ j y, j < k → l[j]? = some y → y.block < xb) ∧ OutF o2 c w wk (.slice A3 l.length cap3) l ∧ Keep o2 wk X 72 #[.int .i64 xb, .int .u64 xv, .string xd]) (fun t7 _ => l.length - (intOf t7).toNat)
          case atStart => exact ⟨0, by omega, rfl, fun j y hj => absurd hj (by omega), HP3.out, HX3.out⟩
          case round =>
            obtain ⟨k, hk, rfl, hlow, hp4, hx4⟩ := hrel
            have HP4 := Lib.hid hp4
            have HX4 := Lib.hid hx4
            have HLOW := Lib.hid hlow
            have HK := Lib.hid hk
            obtain ⟨z0, z1, z2⟩ := hx4.1.three
            obtain ⟨nc, hd23, hdc⟩ : ∃ nc : Nat, (nc = 2 ∨ nc = 3) ∧ nc ≠ c := ⟨5 - c, by have := hp4.col; omega, by have := hp4.col; omega⟩
            have HN0 := Lib.hid (show ¬ only nc 0 by unfold only; omega)
            have HNC := Lib.hid (show ¬ only nc c by unfold only; omega)
            have HD := Lib.hid hd23
            clear hp4 hx4 hlow
            by_cases hkl : k < l.length
            · have hd : decide ((k : Int) < (l.length : Int)) = true := decide_eq_true (by omega)
              have hklI : (k : Int) < (l.length : Int) := by omega
              have HKL := Lib.hid hkl
              obtain ⟨y, hy⟩ : ∃ y, l[k]? = some y := ⟨_, List.getElem?_eq_getElem hkl⟩
              obtain ⟨ao, hao, u0, u1, u2⟩ := (Reads.of_own HP4.out.own.1).imrow hy
              obtain ⟨g, hg, hglt, hgc⟩ := HP4.out.own.addr (by omega)
              have HY := Lib.hid hy
              obtain rfl : A3 = some ⟨g, 0, none⟩ := hg
              injection hao with hao
              subst hao
              rw [head_add] at u0 u1 u2
              dsimp only at u1 u2
              clear hy
              by_cases hyb : y.block < xb
              · go_upto_region 10 with (fail)
                go_quiet (fail)
                go_wp2_with fail
                go_roundw
                case rel => exact ⟨k + 1, by have := HKL.out; omega, by go_num, fun j z hj hz => by
                  by_cases e : j = k
                  · subst e
                    rw [HY.out] at hz
                    injection hz with hz
                    exact hz ▸ hyb
                  · exact HLOW.out j z (by omega) hz, HP4.out.drewN _, HX4.out.drewN _⟩
                case measure => have := HKL.out; simp [intOf]; omega
              · have hybI : ¬ y.block < xb := hyb
                have HLOWK := Lib.hid (show ∀ z, l[k]? = some z → ¬ z.block < xb from fun z hz => by rw [HY.out] at hz; injection hz with hz; exact hz ▸ hyb)
                have HINS := Lib.hid (ins_at l ⟨xb, xv, xd⟩ k (by omega) HLOW.out HLOWK.out)
                by_cases hye : y.block = xb
                · have hyeI : (y.block == xb) = true := beq_iff_eq.2 hye
                  by_cases hv : y.ver ≤ xv
                  · have HB := Lib.hid (show planF (PRE ++ L.take (i + 1)) = l.set k ⟨xb, xv, xd⟩ by rw [HTX.out, HINS.out, HY.out]; simp only; rw [if_pos hye, if_pos hv])
                    have hvI : (y.ver : Int) ≤ (xv : Int) := by omega
                    have HRD4 := Lib.hid (Reads.of_own HP4.out.own.1)
                    go_upto_region 10 with (fail)
                    go_quiet (fail)
                    go_upto_region 12 with (fail)
                    go_quiet (fail)
                    go_upto_region 13 with (fail)
                    go_quiet (fail)
                    clear u0 u1 u2 z0 z1 z2 hye hyb hybI hyeI hv hvI hd
                    go_wp2_with (at_builtin; refine wpList_append_S _ rfl (.const (.slice none 0 0)) (.tmp 70) 23 rfl 72 i0 _ 3 32 Tryz.underlying23 hi0 hz0 hz1 hz2 rfl (by omega) (.slice none 0 0) 0 [] rfl (OwnS.nil o2 nc _ _ _) (some ⟨g, 0, none⟩) l.length cap3 (imcells l) rfl (by exact HRD4.out) (imcells_one _) (by unfold maxLen; omega) (by omega) ?_; intro v7 w7 hown7 hst7 hgr7 hat7; simp only [Nat.zero_add, List.nil_append] at hown7; obtain ⟨g7, cur7, hA7⟩ := own_some hown7 (by have := HKL.out; omega); obtain ⟨rfl, hlt7⟩ := hA7; obtain ⟨⟨⟨t0, p0⟩, ⟨t1, p1⟩, ⟨t2, p2⟩⟩, f0, f1, f2⟩ := own_row3 hown7 HKL.out; have HO7 := Lib.hid (own_set3 hown7 HKL.out ⟨xb, xv, xd⟩); have HG7 := Lib.hid (hown7.2 g7 rfl); have HS7 := Lib.hid hst7; obtain ⟨z0, z1, z2⟩ := ((((HX4.out.drewN _).drewN _).drewN _).step hst7 HN0.out).1.three; clear hown7 hst7 hgr7 hat7)
                    have HF := Lib.hid (OutF.set_ HP4.out HS7.out.of_drewN.of_drewN.of_drewN HD.out HG7.out HO7.out)
                    go_roundw
                    case rel => exact ⟨i + 1, _, nc, by have := HIL.out; omega, by go_num, by rw [HB.out]; exact HF.out⟩
                    case measure => have := HIL.out; simp [intOf]; omega
                  · have HB := Lib.hid (show planF (PRE ++ L.take (i + 1)) = l by rw [HTX.out, HINS.out, HY.out]; simp only; rw [if_pos hye, if_neg hv])
                    have hvI : ¬ (y.ver : Int) ≤ (xv : Int) := by omega
                    go_upto_region 10 with (fail)
                    go_quiet (fail)
                    go_upto_region 12 with (fail)
                    go_quiet (fail)
                    go_upto_region 13 with (fail)
                    go_quiet (fail)
                    go_wp2_with fail
                    go_roundw
                    case rel => exact ⟨i + 1, _, c, by have := HIL.out; omega, by go_num, by rw [HB.out]; exact HP4.out.drewN _⟩
                    case measure => have := HIL.out; simp [intOf]; omega
                · have hyeI : (y.block == xb) = false := by simpa using hye
                  have HB := Lib.hid (show planF (PRE ++ L.take (i + 1)) = l.take k ++ ⟨xb, xv, xd⟩ :: l.drop k by rw [HTX.out, HINS.out, HY.out]; simp only; rw [if_neg hye])
                  have hck : ¬ cap3 = k := by omega
                  have hkc : k ≤ cap3 := by omega
                  have hkcI : (k : Int) ≤ (cap3 : Int) := by omega
                  have hklI2 : (k : Int) ≤ (l.length : Int) := by omega
                  have hk2 : k ≤ l.length := by omega
                  go_upto_region 10 with (fail)
                  go_quiet (fail)
                  have hpA := HP4.out.drewN nq
                  have hxA := HX4.out.drewN nq
                  generalize wr.drewN nq = VA at hpA hxA ⊢
                  clear z0 z1 z2 u0 u1 u2
                  obtain ⟨z0, z1, z2⟩ := hxA.1.three
                  obtain ⟨ao2, hao2, u0, u1, u2⟩ := (Reads.of_own hpA.own.1).imrow HY.out
                  injection hao2 with hao2
                  subst hao2
                  rw [head_add] at u0 u1 u2
                  dsimp only at u1 u2
                  have HPA := Lib.hid hpA
                  have HXA := Lib.hid hxA
                  clear hpA hxA
                  go_upto_region 12 with (fail)
                  go_quiet (fail)
                  have hpB := HPA.out.drewN nq
                  have hxB := HXA.out.drewN nq
                  generalize VA.drewN nq = VB at hpB hxB ⊢
                  clear z0 z1 z2 u0 u1 u2
                  obtain ⟨z0, z1, z2⟩ := hxB.1.three
                  have HPB := Lib.hid hpB
                  have HXB := Lib.hid hxB
                  clear hpB hxB
                  go_upto_region 16 with (fail)
                  have HTK := Lib.hid (show Reads VB 3 (some ⟨g, 0, none⟩) k (imcells (l.take k)) by rw [imcells_take]; exact (Reads.of_own HPB.out.own.1).take HK.out)
                  go_region_held3 (fun w' => w'.cell? ⟨X, 0, none⟩ = some (.int .i64 xb) ∧ w'.cell? ⟨X, 1, none⟩ = some (.int .u64 xv) ∧ w'.cell? ⟨X, 2, none⟩ = some (.string xd))
                    (first | exact ⟨z0, z1, z2⟩ | exact KX7 | exact KX6 | exact KX5 | exact KX9 | exact KX8 | go_keep)
                    (first | (refine step_append_S VB.drew rfl (.const (.slice none 0 0)) (.tmp 78) 23 rfl 72 i0 _ 3 32 Tryz.underlying23 hi0 hz0 hz1 hz2 rfl (by omega) (.slice none 0 0) 0 [] rfl (OwnS.nil o2 nc _ _ _) (some ⟨g, 0, none⟩) k cap3 (imcells (l.take k)) rfl HTK.out.drew (imcells_one _) (by unfold maxLen; omega) (by omega) ?_; intro v5 w5 hown5 hst5 hg5 hat5; have HO5 := Lib.hid hown5; have HS5 := Lib.hid hst5; have hx5 := HXB.out.drew.step hst5 HN0.out; have KX5 := hx5.1.three; have HX5 := Lib.hid hx5; have HW5 := Lib.hid (HPB.out.own.drew.step hst5 HNC.out); clear hown5 hst5 hg5 hat5 hx5) | (refine step_append_S (VB.alloc (.cells #[.int .i64 xb, .int .u64 xv, .string xd] 72)).drew rfl (.const (.slice none 0 0)) (.tmp 78) 23 rfl 72 i0 _ 3 32 Tryz.underlying23 hi0 hz0 hz1 hz2 rfl (by omega) (.slice none 0 0) 0 [] rfl (OwnS.nil o2 nc _ _ _) (some ⟨g, 0, none⟩) k cap3 (imcells (l.take k)) rfl (Reads.alloc' HTK.out (by omega) (.cells #[.int .i64 xb, .int .u64 xv, .string xd] 72)).drew (imcells_one _) (by unfold maxLen; omega) (by omega) ?_; intro v8 w8 hown5 hst5 hg5 hat5; have HO8 := Lib.hid hown5; have HS8 := Lib.hid hst5; have hx5 := (HXB.out.alloc (.cells #[.int .i64 xb, .int .u64 xv, .string xd] 72)).drew.step hst5 HN0.out; have KX8 := hx5.1.three; have HX8 := Lib.hid hx5; have HW8 := Lib.hid ((HPB.out.own.alloc (.cells #[.int .i64 xb, .int .u64 xv, .string xd] 72)).drew.step hst5 HNC.out); have HR8 := Lib.hid ((Keep.new HPB.out.fut 72 #[.int .i64 xb, .int .u64 xv, .string xd]).drew.step hst5 HN0.out); clear hown5 hst5 hg5 hat5 hx5) | (refine step_append_S (w5.alloc (.cells #[.int .i64 xb, .int .u64 xv, .string xd] 72)) rfl (.tmp 79) (.tmp 81) 23 rfl 72 i0 _ 3 32 Tryz.underlying23 hi0 hz0 hz1 hz2 rfl (by omega) v5 (0 + k) ([] ++ imcells (l.take k)) rfl (HO5.out.alloc _) (some ⟨w5.heap.size, 0, none⟩) 1 1 ([.int .i64 xb, .int .u64 xv, .string xd] : List Value) rfl (Reads.newAt w5 72 3 1 _ #[.int .i64 xb, .int .u64 xv, .string xd] _ rfl rfl rfl) (by simp [Value.oneCell']) (by unfold maxLen; omega) (by omega) ?_; intro v6 w6 hown6 hst6 hg6 hat6; have HO6 := Lib.hid hown6; have HS6 := Lib.hid hst6; have hx6 := ((HX5.out.alloc (.cells #[.int .i64 xb, .int .u64 xv, .string xd] 72)).step hst6 HN0.out); have KX6 := hx6.1.three; have HX6 := Lib.hid hx6; have HW6 := Lib.hid ((HW5.out.alloc (.cells #[.int .i64 xb, .int .u64 xv, .string xd] 72)).step hst6 HNC.out); clear hown6 hst6 hg6 hat6 hx6) | (refine step_append_S w8 rfl (.tmp 79) (.tmp 81) 23 rfl 72 i0 _ 3 32 Tryz.underlying23 hi0 hz0 hz1 hz2 rfl (by omega) v8 (0 + k) ([] ++ imcells (l.take k)) rfl HO8.out (some ⟨VB.heap.size, 0, none⟩) 1 1 ([.int .i64 xb, .int .u64 xv, .string xd] : List Value) rfl (Keep.row HR8.out rfl rfl) (by simp [Value.oneCell']) (by unfold maxLen; omega) (by omega) ?_; intro v9 w9 hown6 hst6 hg6 hat6; have HO9 := Lib.hid hown6; have HS9 := Lib.hid hst6; have hx6 := (HX8.out.step hst6 HN0.out); have KX9 := hx6.1.three; have HX9 := Lib.hid hx6; have HW9 := Lib.hid (HW8.out.step hst6 HNC.out); clear hown6 hst6 hg6 hat6 hx6) | (refine step_append_S w6 rfl (.tmp 82) (.tmp 85) 23 rfl 72 i0 _ 3 32 Tryz.underlying23 hi0 hz0 hz1 hz2 rfl (by omega) v6 (0 + k + 1) ([] ++ imcells (l.take k) ++ ([.int .i64 xb, .int .u64 xv, .string xd] : List Value)) rfl HO6.out (some ⟨g, k * 3, none⟩) (l.length - k) (cap3 - k) (imcells (l.drop k)) rfl (cut_own HW6.out HK.out) (imcells_one _) (by unfold maxLen; omega) (by omega) ?_; intro v7 w7 hown7 hst7 hg7 hat7; have HF := Lib.hid (OutF.ins (x := ⟨xb, xv, xd⟩) HPB.out HS5.out.of_drew _ HS6.out hst7 HD.out HK.out hown7); have KX7 := (HX6.out.step hst7 HN0.out).1.three; clear hown7 hst7 hg7 hat7) | (refine step_append_S w9 rfl (.tmp 82) (.tmp 85) 23 rfl 72 i0 _ 3 32 Tryz.underlying23 hi0 hz0 hz1 hz2 rfl (by omega) v9 (0 + k + 1) ([] ++ imcells (l.take k) ++ ([.int .i64 xb, .int .u64 xv, .string xd] : List Value)) rfl HO9.out (some ⟨g, k * 3, none⟩) (l.length - k) (cap3 - k) (imcells (l.drop k)) rfl (cut_own HW9.out HK.out) (imcells_one _) (by unfold maxLen; omega) (by omega) ?_; intro v7 w7 hown7 hst7 hg7 hat7; have HF := Lib.hid (OutF.ins2 (x := ⟨xb, xv, xd⟩) HPB.out _ HS8.out.of_drew HS9.out hst7 HD.out HK.out hown7); have KX7 := (HX9.out.step hst7 HN0.out).1.three; clear hown7 hst7 hg7 hat7))
                  all_goals
                    obtain ⟨A8, cap8, hv8, _, _⟩ := own_form' HF.out.own
                    subst hv8
                    go_wp2_with fail
                    go_roundw
                    case rel => exact ⟨i + 1, _, nc, by have := HIL.out; omega, by go_num, by rw [HB.out]; exact HF.out⟩
                    case measure => have := HIL.out; simp [intOf]; omega
            · obtain rfl : k = l.length := by omega
              have hd : decide ((l.length : Int) < (l.length : Int)) = false := decide_eq_false (by omega)
              have HB := Lib.hid (show planF (PRE ++ L.take (i + 1)) = l.take l.length ++ ⟨xb, xv, xd⟩ :: l.drop l.length by rw [HTX.out, ins_at l ⟨xb, xv, xd⟩ l.length (Nat.le_refl _) HLOW.out (fun z hz => by rw [List.getElem?_eq_none (Nat.le_refl _)] at hz; cases hz), List.getElem?_eq_none (Nat.le_refl _)]; simp)
              by_cases hck : cap3 = l.length
              · subst hck
                have hkcI : (l.length : Int) ≤ (l.length : Int) := by omega
                rcases A3 with _ | ad3
                · go_upto_region 10 with (fail)
                  go_quiet (fail)
                  have hpA := HP4.out.drewN nq
                  have hxA := HX4.out.drewN nq
                  generalize wr.drewN nq = VA at hpA hxA ⊢
                  clear z0 z1 z2
                  obtain ⟨z0, z1, z2⟩ := hxA.1.three
                  have HPA := Lib.hid hpA
                  have HXA := Lib.hid hxA
                  clear hpA hxA
                  go_upto_region 12 with (fail)
                  go_quiet (fail)
                  have hpB := HPA.out.drewN nq
                  have hxB := HXA.out.drewN nq
                  generalize VA.drewN nq = VB at hpB hxB ⊢
                  clear z0 z1 z2
                  obtain ⟨z0, z1, z2⟩ := hxB.1.three
                  have HPB := Lib.hid hpB
                  have HXB := Lib.hid hxB
                  clear hpB hxB
                  go_upto_region 16 with (fail)
                  have HTK := Lib.hid (show Reads VB 3 none l.length (imcells (l.take l.length)) by rw [imcells_take]; exact (Reads.of_own HPB.out.own.1).take (Nat.le_refl _))
                  go_region_held3 (fun w' => w'.cell? ⟨X, 0, none⟩ = some (.int .i64 xb) ∧ w'.cell? ⟨X, 1, none⟩ = some (.int .u64 xv) ∧ w'.cell? ⟨X, 2, none⟩ = some (.string xd))
                    (first | exact ⟨z0, z1, z2⟩ | exact KX7 | exact KX6 | exact KX5 | exact KX9 | exact KX8 | go_keep)
                    (first | (refine step_append_S VB.drew rfl (.const (.slice none 0 0)) (.tmp 78) 23 rfl 72 i0 _ 3 32 Tryz.underlying23 hi0 hz0 hz1 hz2 rfl (by omega) (.slice none 0 0) 0 [] rfl (OwnS.nil o2 nc _ _ _) none l.length l.length (imcells (l.take l.length)) rfl HTK.out.drew (imcells_one _) (by unfold maxLen; omega) (by omega) ?_; intro v5 w5 hown5 hst5 hg5 hat5; have HO5 := Lib.hid hown5; have HS5 := Lib.hid hst5; have hx5 := HXB.out.drew.step hst5 HN0.out; have KX5 := hx5.1.three; have HX5 := Lib.hid hx5; have HW5 := Lib.hid (HPB.out.own.drew.step hst5 HNC.out); clear hown5 hst5 hg5 hat5 hx5) | (refine step_append_S (VB.alloc (.cells #[.int .i64 xb, .int .u64 xv, .string xd] 72)).drew rfl (.const (.slice none 0 0)) (.tmp 78) 23 rfl 72 i0 _ 3 32 Tryz.underlying23 hi0 hz0 hz1 hz2 rfl (by omega) (.slice none 0 0) 0 [] rfl (OwnS.nil o2 nc _ _ _) none l.length l.length (imcells (l.take l.length)) rfl (Reads.alloc' HTK.out (by omega) (.cells #[.int .i64 xb, .int .u64 xv, .string xd] 72)).drew (imcells_one _) (by unfold maxLen; omega) (by omega) ?_; intro v8 w8 hown5 hst5 hg5 hat5; have HO8 := Lib.hid hown5; have HS8 := Lib.hid hst5; have hx5 := (HXB.out.alloc (.cells #[.int .i64 xb, .int .u64 xv, .string xd] 72)).drew.step hst5 HN0.out; have KX8 := hx5.1.three; have HX8 := Lib.hid hx5; have HW8 := Lib.hid ((HPB.out.own.alloc (.cells #[.int .i64 xb, .int .u64 xv, .string xd] 72)).drew.step hst5 HNC.out); have HR8 := Lib.hid ((Keep.new HPB.out.fut 72 #[.int .i64 xb, .int .u64 xv, .string xd]).drew.step hst5 HN0.out); clear hown5 hst5 hg5 hat5 hx5) | (refine step_append_S (w5.alloc (.cells #[.int .i64 xb, .int .u64 xv, .string xd] 72)) rfl (.tmp 79) (.tmp 81) 23 rfl 72 i0 _ 3 32 Tryz.underlying23 hi0 hz0 hz1 hz2 rfl (by omega) v5 (0 + l.length) ([] ++ imcells (l.take l.length)) rfl (HO5.out.alloc _) (some ⟨w5.heap.size, 0, none⟩) 1 1 ([.int .i64 xb, .int .u64 xv, .string xd] : List Value) rfl (Reads.newAt w5 72 3 1 _ #[.int .i64 xb, .int .u64 xv, .string xd] _ rfl rfl rfl) (by simp [Value.oneCell']) (by unfold maxLen; omega) (by omega) ?_; intro v6 w6 hown6 hst6 hg6 hat6; have HO6 := Lib.hid hown6; have HS6 := Lib.hid hst6; have hx6 := ((HX5.out.alloc (.cells #[.int .i64 xb, .int .u64 xv, .string xd] 72)).step hst6 HN0.out); have KX6 := hx6.1.three; have HX6 := Lib.hid hx6; have HW6 := Lib.hid ((HW5.out.alloc (.cells #[.int .i64 xb, .int .u64 xv, .string xd] 72)).step hst6 HNC.out); clear hown6 hst6 hg6 hat6 hx6) | (refine step_append_S w8 rfl (.tmp 79) (.tmp 81) 23 rfl 72 i0 _ 3 32 Tryz.underlying23 hi0 hz0 hz1 hz2 rfl (by omega) v8 (0 + l.length) ([] ++ imcells (l.take l.length)) rfl HO8.out (some ⟨VB.heap.size, 0, none⟩) 1 1 ([.int .i64 xb, .int .u64 xv, .string xd] : List Value) rfl (Keep.row HR8.out rfl rfl) (by simp [Value.oneCell']) (by unfold maxLen; omega) (by omega) ?_; intro v9 w9 hown6 hst6 hg6 hat6; have HO9 := Lib.hid hown6; have HS9 := Lib.hid hst6; have hx6 := (HX8.out.step hst6 HN0.out); have KX9 := hx6.1.three; have HX9 := Lib.hid hx6; have HW9 := Lib.hid (HW8.out.step hst6 HNC.out); clear hown6 hst6 hg6 hat6 hx6) | (refine step_append_S w6 rfl (.tmp 82) (.tmp 85) 23 rfl 72 i0 _ 3 32 Tryz.underlying23 hi0 hz0 hz1 hz2 rfl (by omega) v6 (0 + l.length + 1) ([] ++ imcells (l.take l.length) ++ ([.int .i64 xb, .int .u64 xv, .string xd] : List Value)) rfl HO6.out none 0 0 [] rfl (Reads.none_ _ _ _) (by simp) (by unfold maxLen; omega) (by omega) ?_; intro v7 w7 hown7 hst7 hg7 hat7; have HF := Lib.hid (OutF.ins (x := ⟨xb, xv, xd⟩) HPB.out HS5.out.of_drew _ HS6.out hst7 HD.out (Nat.le_refl _) (by rw [show l.length - l.length = 0 from by omega, List.drop_length]; exact hown7)); have KX7 := (HX6.out.step hst7 HN0.out).1.three; clear hown7 hst7 hg7 hat7) | (refine step_append_S w9 rfl (.tmp 82) (.tmp 85) 23 rfl 72 i0 _ 3 32 Tryz.underlying23 hi0 hz0 hz1 hz2 rfl (by omega) v9 (0 + l.length + 1) ([] ++ imcells (l.take l.length) ++ ([.int .i64 xb, .int .u64 xv, .string xd] : List Value)) rfl HO9.out none 0 0 [] rfl (Reads.none_ _ _ _) (by simp) (by unfold maxLen; omega) (by omega) ?_; intro v7 w7 hown7 hst7 hg7 hat7; have HF := Lib.hid (OutF.ins2 (x := ⟨xb, xv, xd⟩) HPB.out _ HS8.out.of_drew HS9.out hst7 HD.out (Nat.le_refl _) (by rw [show l.length - l.length = 0 from by omega, List.drop_length]; exact hown7)); have KX7 := (HX9.out.step hst7 HN0.out).1.three; clear hown7 hst7 hg7 hat7))
                  all_goals
                    obtain ⟨A8, cap8, hv8, _, _⟩ := own_form' HF.out.own
                    subst hv8
                    go_wp2_with fail
                    go_roundw
                    case rel => exact ⟨i + 1, _, nc, by have := HIL.out; omega, by go_num, by rw [HB.out]; exact HF.out⟩
                    case measure => have := HIL.out; simp [intOf]; omega
                · obtain ⟨g, hg9, _, _⟩ : ∃ g, (some ad3 : Option Addr) = some ⟨g, 0, none⟩ ∧ True ∧ True := own_head2 HP4.out.own
                  injection hg9 with hg9
                  subst hg9
                  go_upto_region 10 with (fail)
                  go_quiet (fail)
                  have hpA := HP4.out.drewN nq
                  have hxA := HX4.out.drewN nq
                  generalize wr.drewN nq = VA at hpA hxA ⊢
                  clear z0 z1 z2
                  obtain ⟨z0, z1, z2⟩ := hxA.1.three
                  have HPA := Lib.hid hpA
                  have HXA := Lib.hid hxA
                  clear hpA hxA
                  go_upto_region 12 with (fail)
                  go_quiet (fail)
                  have hpB := HPA.out.drewN nq
                  have hxB := HXA.out.drewN nq
                  generalize VA.drewN nq = VB at hpB hxB ⊢
                  clear z0 z1 z2
                  obtain ⟨z0, z1, z2⟩ := hxB.1.three
                  have HPB := Lib.hid hpB
                  have HXB := Lib.hid hxB
                  clear hpB hxB
                  go_upto_region 16 with (fail)
                  have HTK := Lib.hid (show Reads VB 3 (some ⟨g, 0, none⟩) l.length (imcells (l.take l.length)) by rw [imcells_take]; exact (Reads.of_own HPB.out.own.1).take (Nat.le_refl _))
                  go_region_held3 (fun w' => w'.cell? ⟨X, 0, none⟩ = some (.int .i64 xb) ∧ w'.cell? ⟨X, 1, none⟩ = some (.int .u64 xv) ∧ w'.cell? ⟨X, 2, none⟩ = some (.string xd))
                    (first | exact ⟨z0, z1, z2⟩ | exact KX7 | exact KX6 | exact KX5 | exact KX9 | exact KX8 | go_keep)
                    (first | (refine step_append_S VB.drew rfl (.const (.slice none 0 0)) (.tmp 78) 23 rfl 72 i0 _ 3 32 Tryz.underlying23 hi0 hz0 hz1 hz2 rfl (by omega) (.slice none 0 0) 0 [] rfl (OwnS.nil o2 nc _ _ _) (some ⟨g, 0, none⟩) l.length l.length (imcells (l.take l.length)) rfl HTK.out.drew (imcells_one _) (by unfold maxLen; omega) (by omega) ?_; intro v5 w5 hown5 hst5 hg5 hat5; have HO5 := Lib.hid hown5; have HS5 := Lib.hid hst5; have hx5 := HXB.out.drew.step hst5 HN0.out; have KX5 := hx5.1.three; have HX5 := Lib.hid hx5; have HW5 := Lib.hid (HPB.out.own.drew.step hst5 HNC.out); clear hown5 hst5 hg5 hat5 hx5) | (refine step_append_S (VB.alloc (.cells #[.int .i64 xb, .int .u64 xv, .string xd] 72)).drew rfl (.const (.slice none 0 0)) (.tmp 78) 23 rfl 72 i0 _ 3 32 Tryz.underlying23 hi0 hz0 hz1 hz2 rfl (by omega) (.slice none 0 0) 0 [] rfl (OwnS.nil o2 nc _ _ _) (some ⟨g, 0, none⟩) l.length l.length (imcells (l.take l.length)) rfl (Reads.alloc' HTK.out (by omega) (.cells #[.int .i64 xb, .int .u64 xv, .string xd] 72)).drew (imcells_one _) (by unfold maxLen; omega) (by omega) ?_; intro v8 w8 hown5 hst5 hg5 hat5; have HO8 := Lib.hid hown5; have HS8 := Lib.hid hst5; have hx5 := (HXB.out.alloc (.cells #[.int .i64 xb, .int .u64 xv, .string xd] 72)).drew.step hst5 HN0.out; have KX8 := hx5.1.three; have HX8 := Lib.hid hx5; have HW8 := Lib.hid ((HPB.out.own.alloc (.cells #[.int .i64 xb, .int .u64 xv, .string xd] 72)).drew.step hst5 HNC.out); have HR8 := Lib.hid ((Keep.new HPB.out.fut 72 #[.int .i64 xb, .int .u64 xv, .string xd]).drew.step hst5 HN0.out); clear hown5 hst5 hg5 hat5 hx5) | (refine step_append_S (w5.alloc (.cells #[.int .i64 xb, .int .u64 xv, .string xd] 72)) rfl (.tmp 79) (.tmp 81) 23 rfl 72 i0 _ 3 32 Tryz.underlying23 hi0 hz0 hz1 hz2 rfl (by omega) v5 (0 + l.length) ([] ++ imcells (l.take l.length)) rfl (HO5.out.alloc _) (some ⟨w5.heap.size, 0, none⟩) 1 1 ([.int .i64 xb, .int .u64 xv, .string xd] : List Value) rfl (Reads.newAt w5 72 3 1 _ #[.int .i64 xb, .int .u64 xv, .string xd] _ rfl rfl rfl) (by simp [Value.oneCell']) (by unfold maxLen; omega) (by omega) ?_; intro v6 w6 hown6 hst6 hg6 hat6; have HO6 := Lib.hid hown6; have HS6 := Lib.hid hst6; have hx6 := ((HX5.out.alloc (.cells #[.int .i64 xb, .int .u64 xv, .string xd] 72)).step hst6 HN0.out); have KX6 := hx6.1.three; have HX6 := Lib.hid hx6; have HW6 := Lib.hid ((HW5.out.alloc (.cells #[.int .i64 xb, .int .u64 xv, .string xd] 72)).step hst6 HNC.out); clear hown6 hst6 hg6 hat6 hx6) | (refine step_append_S w8 rfl (.tmp 79) (.tmp 81) 23 rfl 72 i0 _ 3 32 Tryz.underlying23 hi0 hz0 hz1 hz2 rfl (by omega) v8 (0 + l.length) ([] ++ imcells (l.take l.length)) rfl HO8.out (some ⟨VB.heap.size, 0, none⟩) 1 1 ([.int .i64 xb, .int .u64 xv, .string xd] : List Value) rfl (Keep.row HR8.out rfl rfl) (by simp [Value.oneCell']) (by unfold maxLen; omega) (by omega) ?_; intro v9 w9 hown6 hst6 hg6 hat6; have HO9 := Lib.hid hown6; have HS9 := Lib.hid hst6; have hx6 := (HX8.out.step hst6 HN0.out); have KX9 := hx6.1.three; have HX9 := Lib.hid hx6; have HW9 := Lib.hid (HW8.out.step hst6 HNC.out); clear hown6 hst6 hg6 hat6 hx6) | (refine step_append_S w6 rfl (.tmp 82) (.tmp 85) 23 rfl 72 i0 _ 3 32 Tryz.underlying23 hi0 hz0 hz1 hz2 rfl (by omega) v6 (0 + l.length + 1) ([] ++ imcells (l.take l.length) ++ ([.int .i64 xb, .int .u64 xv, .string xd] : List Value)) rfl HO6.out (some ⟨g, 0, none⟩) 0 0 [] rfl (Reads.none_ _ _ _) (by simp) (by unfold maxLen; omega) (by omega) ?_; intro v7 w7 hown7 hst7 hg7 hat7; have HF := Lib.hid (OutF.ins (x := ⟨xb, xv, xd⟩) HPB.out HS5.out.of_drew _ HS6.out hst7 HD.out (Nat.le_refl _) (by rw [show l.length - l.length = 0 from by omega, List.drop_length]; exact hown7)); have KX7 := (HX6.out.step hst7 HN0.out).1.three; clear hown7 hst7 hg7 hat7) | (refine step_append_S w9 rfl (.tmp 82) (.tmp 85) 23 rfl 72 i0 _ 3 32 Tryz.underlying23 hi0 hz0 hz1 hz2 rfl (by omega) v9 (0 + l.length + 1) ([] ++ imcells (l.take l.length) ++ ([.int .i64 xb, .int .u64 xv, .string xd] : List Value)) rfl HO9.out (some ⟨g, 0, none⟩) 0 0 [] rfl (Reads.none_ _ _ _) (by simp) (by unfold maxLen; omega) (by omega) ?_; intro v7 w7 hown7 hst7 hg7 hat7; have HF := Lib.hid (OutF.ins2 (x := ⟨xb, xv, xd⟩) HPB.out _ HS8.out.of_drew HS9.out hst7 HD.out (Nat.le_refl _) (by rw [show l.length - l.length = 0 from by omega, List.drop_length]; exact hown7)); have KX7 := (HX9.out.step hst7 HN0.out).1.three; clear hown7 hst7 hg7 hat7))
                  all_goals
                    obtain ⟨A8, cap8, hv8, _, _⟩ := own_form' HF.out.own
                    subst hv8
                    go_wp2_with fail
                    go_roundw
                    case rel => exact ⟨i + 1, _, nc, by have := HIL.out; omega, by go_num, by rw [HB.out]; exact HF.out⟩
                    case measure => have := HIL.out; simp [intOf]; omega
              · obtain ⟨g, rfl⟩ : ∃ g, A3 = some ⟨g, 0, none⟩ := own_head HP4.out.own hck
                have hkcI : (l.length : Int) ≤ (cap3 : Int) := by omega
                go_upto_region 10 with (fail)
                go_quiet (fail)
                have hpA := HP4.out.drewN nq
                have hxA := HX4.out.drewN nq
                generalize wr.drewN nq = VA at hpA hxA ⊢
                clear z0 z1 z2
                obtain ⟨z0, z1, z2⟩ := hxA.1.three
                have HPA := Lib.hid hpA
                have HXA := Lib.hid hxA
                clear hpA hxA
                go_upto_region 12 with (fail)
                go_quiet (fail)
                have hpB := HPA.out.drewN nq
                have hxB := HXA.out.drewN nq
                generalize VA.drewN nq = VB at hpB hxB ⊢
                clear z0 z1 z2
                obtain ⟨z0, z1, z2⟩ := hxB.1.three
                have HPB := Lib.hid hpB
                have HXB := Lib.hid hxB
                clear hpB hxB
                go_upto_region 16 with (fail)
                have HTK := Lib.hid (show Reads VB 3 (some ⟨g, 0, none⟩) l.length (imcells (l.take l.length)) by rw [imcells_take]; exact (Reads.of_own HPB.out.own.1).take (Nat.le_refl _))
                go_region_held3 (fun w' => w'.cell? ⟨X, 0, none⟩ = some (.int .i64 xb) ∧ w'.cell? ⟨X, 1, none⟩ = some (.int .u64 xv) ∧ w'.cell? ⟨X, 2, none⟩ = some (.string xd))
                  (first | exact ⟨z0, z1, z2⟩ | exact KX7 | exact KX6 | exact KX5 | exact KX9 | exact KX8 | go_keep)
                  (first | (refine step_append_S VB.drew rfl (.const (.slice none 0 0)) (.tmp 78) 23 rfl 72 i0 _ 3 32 Tryz.underlying23 hi0 hz0 hz1 hz2 rfl (by omega) (.slice none 0 0) 0 [] rfl (OwnS.nil o2 nc _ _ _) (some ⟨g, 0, none⟩) l.length cap3 (imcells (l.take l.length)) rfl HTK.out.drew (imcells_one _) (by unfold maxLen; omega) (by omega) ?_; intro v5 w5 hown5 hst5 hg5 hat5; have HO5 := Lib.hid hown5; have HS5 := Lib.hid hst5; have hx5 := HXB.out.drew.step hst5 HN0.out; have KX5 := hx5.1.three; have HX5 := Lib.hid hx5; have HW5 := Lib.hid (HPB.out.own.drew.step hst5 HNC.out); clear hown5 hst5 hg5 hat5 hx5) | (refine step_append_S (VB.alloc (.cells #[.int .i64 xb, .int .u64 xv, .string xd] 72)).drew rfl (.const (.slice none 0 0)) (.tmp 78) 23 rfl 72 i0 _ 3 32 Tryz.underlying23 hi0 hz0 hz1 hz2 rfl (by omega) (.slice none 0 0) 0 [] rfl (OwnS.nil o2 nc _ _ _) (some ⟨g, 0, none⟩) l.length cap3 (imcells (l.take l.length)) rfl (Reads.alloc' HTK.out (by omega) (.cells #[.int .i64 xb, .int .u64 xv, .string xd] 72)).drew (imcells_one _) (by unfold maxLen; omega) (by omega) ?_; intro v8 w8 hown5 hst5 hg5 hat5; have HO8 := Lib.hid hown5; have HS8 := Lib.hid hst5; have hx5 := (HXB.out.alloc (.cells #[.int .i64 xb, .int .u64 xv, .string xd] 72)).drew.step hst5 HN0.out; have KX8 := hx5.1.three; have HX8 := Lib.hid hx5; have HW8 := Lib.hid ((HPB.out.own.alloc (.cells #[.int .i64 xb, .int .u64 xv, .string xd] 72)).drew.step hst5 HNC.out); have HR8 := Lib.hid ((Keep.new HPB.out.fut 72 #[.int .i64 xb, .int .u64 xv, .string xd]).drew.step hst5 HN0.out); clear hown5 hst5 hg5 hat5 hx5) | (refine step_append_S (w5.alloc (.cells #[.int .i64 xb, .int .u64 xv, .string xd] 72)) rfl (.tmp 79) (.tmp 81) 23 rfl 72 i0 _ 3 32 Tryz.underlying23 hi0 hz0 hz1 hz2 rfl (by omega) v5 (0 + l.length) ([] ++ imcells (l.take l.length)) rfl (HO5.out.alloc _) (some ⟨w5.heap.size, 0, none⟩) 1 1 ([.int .i64 xb, .int .u64 xv, .string xd] : List Value) rfl (Reads.newAt w5 72 3 1 _ #[.int .i64 xb, .int .u64 xv, .string xd] _ rfl rfl rfl) (by simp [Value.oneCell']) (by unfold maxLen; omega) (by omega) ?_; intro v6 w6 hown6 hst6 hg6 hat6; have HO6 := Lib.hid hown6; have HS6 := Lib.hid hst6; have hx6 := ((HX5.out.alloc (.cells #[.int .i64 xb, .int .u64 xv, .string xd] 72)).step hst6 HN0.out); have KX6 := hx6.1.three; have HX6 := Lib.hid hx6; have HW6 := Lib.hid ((HW5.out.alloc (.cells #[.int .i64 xb, .int .u64 xv, .string xd] 72)).step hst6 HNC.out); clear hown6 hst6 hg6 hat6 hx6) | (refine step_append_S w8 rfl (.tmp 79) (.tmp 81) 23 rfl 72 i0 _ 3 32 Tryz.underlying23 hi0 hz0 hz1 hz2 rfl (by omega) v8 (0 + l.length) ([] ++ imcells (l.take l.length)) rfl HO8.out (some ⟨VB.heap.size, 0, none⟩) 1 1 ([.int .i64 xb, .int .u64 xv, .string xd] : List Value) rfl (Keep.row HR8.out rfl rfl) (by simp [Value.oneCell']) (by unfold maxLen; omega) (by omega) ?_; intro v9 w9 hown6 hst6 hg6 hat6; have HO9 := Lib.hid hown6; have HS9 := Lib.hid hst6; have hx6 := (HX8.out.step hst6 HN0.out); have KX9 := hx6.1.three; have HX9 := Lib.hid hx6; have HW9 := Lib.hid (HW8.out.step hst6 HNC.out); clear hown6 hst6 hg6 hat6 hx6) | (refine step_append_S w6 rfl (.tmp 82) (.tmp 85) 23 rfl 72 i0 _ 3 32 Tryz.underlying23 hi0 hz0 hz1 hz2 rfl (by omega) v6 (0 + l.length + 1) ([] ++ imcells (l.take l.length) ++ ([.int .i64 xb, .int .u64 xv, .string xd] : List Value)) rfl HO6.out (some ⟨g, l.length * 3, none⟩) 0 (cap3 - l.length) [] rfl (Reads.none_ _ _ _) (by simp) (by unfold maxLen; omega) (by omega) ?_; intro v7 w7 hown7 hst7 hg7 hat7; have HF := Lib.hid (OutF.ins (x := ⟨xb, xv, xd⟩) HPB.out HS5.out.of_drew _ HS6.out hst7 HD.out (Nat.le_refl _) (by rw [show l.length - l.length = 0 from by omega, List.drop_length]; exact hown7)); have KX7 := (HX6.out.step hst7 HN0.out).1.three; clear hown7 hst7 hg7 hat7) | (refine step_append_S w9 rfl (.tmp 82) (.tmp 85) 23 rfl 72 i0 _ 3 32 Tryz.underlying23 hi0 hz0 hz1 hz2 rfl (by omega) v9 (0 + l.length + 1) ([] ++ imcells (l.take l.length) ++ ([.int .i64 xb, .int .u64 xv, .string xd] : List Value)) rfl HO9.out (some ⟨g, l.length * 3, none⟩) 0 (cap3 - l.length) [] rfl (Reads.none_ _ _ _) (by simp) (by unfold maxLen; omega) (by omega) ?_; intro v7 w7 hown7 hst7 hg7 hat7; have HF := Lib.hid (OutF.ins2 (x := ⟨xb, xv, xd⟩) HPB.out _ HS8.out.of_drew HS9.out hst7 HD.out (Nat.le_refl _) (by rw [show l.length - l.length = 0 from by omega, List.drop_length]; exact hown7)); have KX7 := (HX9.out.step hst7 HN0.out).1.three; clear hown7 hst7 hg7 hat7))
                all_goals
                  obtain ⟨A8, cap8, hv8, _, _⟩ := own_form' HF.out.own
                  subst hv8
                  go_wp2_with fail
                  go_roundw
                  case rel => exact ⟨i + 1, _, nc, by have := HIL.out; omega, by go_num, by rw [HB.out]; exact HF.out⟩
                  case measure => have := HIL.out; simp [intOf]; omega
        · have hlt2I : ¬ (i : Int) < (L.length : Int) := by omega
          obtain rfl : i = L.length := by omega
          rw [List.take_length] at hp2
          have HPX := Lib.hid hp2
          clear hp2
          go_wp2_with fail
          go_roundw
          case rel => exact ⟨j + 1, o2, c, by have := HJL.out; omega, by go_num, by rw [HTK.out]; exact HPX.out⟩
          case measure => have := HJL.out; simp [intOf]; omega
    · have hltI : ¬ (j : Int) < (rs.length : Int) := by omega
      obtain rfl : j = rs.length := by omega
      rw [List.take_length, HP.out] at HP1
      obtain ⟨A', cap', rfl, _, _⟩ := own_form' HP1.out.own
      go_wp2_with fail
      go_ret
      have h9 := HP1.out.own
      have h10 := HP1.out.env
      have hnew : ∀ g, (Value.slice A' P.length cap').ownBlock = some g → w.heap.size ≤ g := by
        intro g hg
        rcases Nat.lt_or_ge g w.heap.size with h1 | h1
        · have h2 := h10.old g h1
          have h3 := h9.2 g hg
          have := HP1.out.col
          omega
        · exact h1
      exact ⟨A', cap', rfl, ⟨h9.1, fun g hg => band_in (hnew g hg) (h9.lt g hg)⟩, h10.low⟩
end Go.Proofs.YtkhieofknglknaaGreatDoor

/- An append that also says: what else stood in the row's block, ahead of its end, stands. -/
namespace Go.Proofs.YtkhieofknglknaaGreatDoor
open Go.RowKit

theorem keep_row {o : Nat → Nat} {c1 N c0 : Nat} {w w' : World} {e : TypeId} {size n0 n g off : Nat} {v0 : Value} {xs0 : List Value} {cur cs' : Array Value} {cp : Nat} (h0 : OwnW o c1 w e size v0 n0 xs0) (hb : Blk w g e cur) (hb' : Blk w' g e cs')
    (hfar : ∀ k, k ≠ g → w'.heap[k]? = w.heap[k]?) (hs : cs'.size = cur.size) (hlow : ∀ j, j < off + n * size → cs'[j]? = cur[j]?) (hn : n0 ≤ n) (hor : (∃ cap0, v0 = .slice (some ⟨g, off, none⟩) n0 cap0) ∨ v0.ownBlock ≠ (Value.slice (some ⟨g, off, none⟩) n cp).ownBlock) (_hcs : off + n * size ≤ cur.size) :
    OwnW (band o w.heap.size N c0) c1 w' e size v0 n0 xs0 := by
  rcases hor with ⟨cap0, rfl⟩ | hne
  · refine ⟨h0.1, ?_⟩
    rcases h0.2 with ⟨h, _⟩ | ⟨g1, off1, cap1, cur1, e1, hb1, hc1, a1, a2, a3, a4⟩
    · cases h
    · injection e1 with e2 e3 e4
      injection e2 with e2
      injection e2 with e5 e6
      subst e5 e6 e4
      have hcc : cur1 = cur := by
        have := hb1.symm.trans hb
        injection this with this
        injection this
      subst hcc
      refine .inr ⟨g, off, cap0, cs', rfl, hb', by rw [band_lt hb1.lt]; exact hc1, a1, a2, by omega, ?_⟩
      rw [← a4]
      apply List.ext_getElem?
      intro j
      rw [List.getElem?_take, List.getElem?_take]
      by_cases hj : j < n0 * size
      · have : n0 * size ≤ n * size := Nat.mul_le_mul_right _ hn
        rw [if_pos hj, if_pos hj, List.getElem?_drop, List.getElem?_drop, Array.getElem?_toList, Array.getElem?_toList, hlow _ (by omega)]
      · rw [if_neg hj, if_neg hj]
  · exact h0.heap (fun k hk => hfar k (fun e => hne (by rw [hk, e]; rfl))) (fun k hk => band_lt (h0.lt k hk).1)
/-- behind an append: the same place, or a new block -/
def NewOrSame (w : World) (v : Value) (n : Nat) (v' : Value) (n' : Nat) : Prop := (∃ A0 cap, v = .slice A0 n cap ∧ v' = .slice A0 n' cap) ∨ ∀ g, v'.ownBlock = some g → w.heap.size ≤ g
section
variable {P : Program} (w : World)
theorem run_append_K {o : Nat → Nat} {c0 : Nat} (t ty e : TypeId) (i : TypeInfo) (z : Value) (size bytes : Nat) (ht : P.underlying t = some (.slice e)) (hi : P.info? e = some i) (hz : i.zero = some z)
    (hsize : i.size = size) (hby : i.bytes = bytes) (hzs : z.cells.size = size) (hsz : 0 < size)
    (v : Value) (n : Nat) (xs : List Value) (hown : OwnW o c0 w e size v n xs)
    (A : Option Addr) (m c : Nat) (news : List Value) (hr : Reads w size A m news) (h1 : ∀ u ∈ news, u.oneCell' = true)
    (h63 : n + m ≤ maxLen) (hbytes : (n + m) * bytes ≤ 140737488355328) :
    ∃ v' w', (Builtin.append_ #[t, t] ty #[v, .slice A m c]).run P w = .ok v' w' ∧ OwnW (band o w.heap.size w'.heap.size c0) c0 w' e size v' (n + m) (xs ++ news) ∧ Step o (only c0) w (band o w.heap.size w'.heap.size c0) w' ∧ (∀ c1 v0 n0 xs0, OwnW o c1 w e size v0 n0 xs0 → n0 ≤ n → ((∃ A0 cap0 cap, v0 = .slice A0 n0 cap0 ∧ v = .slice A0 n cap) ∨ v0.ownBlock ≠ v.ownBlock) → OwnW (band o w.heap.size w'.heap.size c0) c1 w' e size v0 n0 xs0) ∧ NewOrSame w v n v' (n + m) := by
  have fin : ∀ v' w', w'.ownsRow w.heap.size e size v' (n + m) (xs ++ news) → w.grownBy w' none →
      OwnW (band o w.heap.size w'.heap.size c0) c0 w' e size v' (n + m) (xs ++ news) ∧ Step o (only c0) w (band o w.heap.size w'.heap.size c0) w' ∧ (∀ c1 v0 n0 xs0, OwnW o c1 w e size v0 n0 xs0 → n0 ≤ n → ((∃ A0 cap0 cap, v0 = .slice A0 n0 cap0 ∧ v = .slice A0 n cap) ∨ v0.ownBlock ≠ v.ownBlock) → OwnW (band o w.heap.size w'.heap.size c0) c1 w' e size v0 n0 xs0) ∧ NewOrSame w v n v' (n + m) := by
    intro v' w' h2 h3
    refine ⟨OwnW.of_own ⟨⟨h2.1, h2.2.imp id (fun ⟨g, cap, cur, a1, a2, a3⟩ => ⟨g, cap, cur, a1, Nat.zero_le _, a3⟩)⟩, fun g hg => ?_⟩, (Step.refl o (only c0) w).grown h3 (by simp), fun c1 v0 n0 xs0 h0 _ _ => h0.heap (fun k hk => h3.block k (h0.lt k hk).1 (by simp)) (fun k hk => band_lt (h0.lt k hk).1), .inr (fun g hg => (h2.lt g hg).1)⟩
    have := h2.lt g hg
    exact band_in this.1 this.2
  have same : OwnW (band o w.heap.size w.heap.size c0) c0 w e size v n xs ∧ Step o (only c0) w (band o w.heap.size w.heap.size c0) w :=
    ⟨hown.heap (fun _ _ => rfl) (fun g hg => band_lt (hown.lt g hg).1), ⟨rfl, rfl, rfl, Nat.le_refl _, fun _ hk => band_lt hk, fun _ hk => band_ge hk, fun _ _ _ => rfl⟩⟩
  by_cases hm : m = 0
  · subst hm
    have hn : news = [] := List.eq_nil_of_length_eq_zero (by simpa using hr.1)
    subst hn
    refine ⟨v, w, ?_, by simpa using same.1, same.2, fun c1 v0 n0 xs0 h0 _ _ => h0.heap (fun _ _ => rfl) (fun k hk => band_lt (h0.lt k hk).1), .inl (by obtain ⟨A, cap, e, _⟩ := hown.form; exact ⟨A, cap, e, e⟩)⟩
    rcases hown.2 with ⟨rfl, rfl⟩ | ⟨g, off, cap, cur, rfl, _, _, hnc, _⟩
    · cases A <;> simp [Builtin.append_, run_underlying ht, sizeOf, typeInfo, hi, Builtin.lenOf, Builtin.firstCells, loadCells, loadCellsFrom]
    · cases A <;> simp [Builtin.append_, run_underlying ht, sizeOf, typeInfo, hi, Builtin.lenOf, Builtin.firstCells, hnc, storeCells, loadCells, loadCellsFrom]
  · obtain ⟨ad, rfl, hcells⟩ := hr.2 (by omega)
    rcases hown.2 with ⟨rfl, rfl⟩ | ⟨g, off, cap, cur, rfl, hb, hgc, hnc, hcm, hcs, htake⟩
    · have hx : xs = [] := List.eq_nil_of_length_eq_zero (by simpa using hown.1)
      subst hx
      obtain ⟨v', w', hrun, h2, h3, _⟩ := run_append_own (P := P) w w.heap.size t ty e i z size bytes ht hi hz hsize hby hzs hsz (.slice none 0 0) 0 [] (World.ownsRow_nil w _ e size) ad m c news hr.1 hcells h1 h63 hbytes (Nat.le_refl _)
      obtain ⟨f1, f2, f3⟩ := fin v' w' h2 (by simpa [Value.ownBlock] using h3)
      exact ⟨v', w', hrun, f1, f2, f3⟩
    · by_cases hroom : n + m ≤ cap
      · subst hsize
        have hfit : off + n * i.size + news.length ≤ cur.size := by
          have : (n + m) * i.size ≤ cap * i.size := Nat.mul_le_mul_right _ hroom
          rw [Nat.add_mul] at this
          rw [hr.1]
          omega
        have hrun := run_append_room_cells (P := P) w t ty e i ht hi g off n cap ad m c news hr.1 hcells h1 hroom
          (fun j hj => by obtain ⟨u, hu⟩ := hb.cell_some (i := off + n * i.size + j) (by omega); rw [hu]; rfl) (fun j hj => hb.frozen _)
        obtain ⟨cs', b1, b2, b3⟩ := Blk.cells_ news (off + n * i.size) w cur hb
        obtain ⟨s1, s2, s3, s4⟩ := setCells_same g news (off + n * i.size) w
        refine ⟨_, _, hrun, ⟨by rw [List.length_append, hown.1, hr.1, Nat.add_mul], .inr ⟨g, off, cap, cs', rfl, b1, by rw [band_lt hb.lt]; exact hgc, hroom, hcm, by omega, ?_⟩⟩, ⟨s1, s2, s3, by omega, fun _ hk => band_lt hk, fun _ hk => band_ge hk, fun k hk hne => setCells_far (fun e => hne (by rw [e]; exact hgc)) _ _ _⟩, ?_, .inl ⟨_, _, rfl, rfl⟩⟩
        rotate_left
        · intro c1 v0 n0 xs0 h0 hn0 hor
          exact keep_row h0 hb b1 (fun k hk => setCells_far hk _ _ _) b2 (fun j hj => by rw [b3, if_neg (by omega)]) hn0 (hor.imp_left (fun ⟨A0, cap0, cap1, e1, e2⟩ => by
            injection e2 with e3
            subst e3
            exact ⟨cap0, e1⟩)) (by have : n * i.size ≤ cap * i.size := Nat.mul_le_mul_right _ hnc; omega)
        apply List.ext_getElem?
        intro j
        rw [List.getElem?_take, List.getElem?_drop]
        simp only [Array.getElem?_toList, b3]
        have hxl := hown.1
        have hnl := hr.1
        by_cases hj : j < (n + m) * i.size
        · rw [if_pos hj]
          rw [Nat.add_mul] at hj
          by_cases hj2 : j < n * i.size
          · rw [if_neg (by omega), List.getElem?_append_left (by omega)]
            obtain ⟨u, hu⟩ : ∃ u, xs[j]? = some u := ⟨_, List.getElem?_eq_getElem (by omega)⟩
            rw [hu]
            have := drop_take_get htake hu
            simpa using this
          · rw [if_pos (by omega), List.getElem?_append_right (by omega)]
            congr 1
            omega
        · rw [if_neg hj, List.getElem?_eq_none]
          rw [Nat.add_mul] at hj
          rw [List.length_append]
          omega
      · obtain ⟨v', w', hrun, h2, h3⟩ := run_append_arg_grows (P := P) w t ty e i z size bytes ht hi hz hsize hby hzs hsz ⟨g, off, none⟩ n cap xs hown.1 (fun j u hj => by
          rw [Addr.add_lit, hb.cell]
          have := drop_take_get htake hj
          simpa using this) ad m c news hr.1 hcells (by omega) h63 hbytes
        obtain ⟨f1, f2, f3⟩ := fin v' w' h2 h3
        exact ⟨v', w', hrun, f1, f2, f3⟩

theorem wp_append_K {op : Oper} {a : Act} {K : Act → World → Prop} {Q : Exit → Act → World → Prop} {o : Nat → Nat} {c0 : Nat} (s x : Operand) (t : TypeId)
    (ho : op.op = .call { callee := .builtin .append, args := #[s, x], argTypes := #[t, t] })
    (e : TypeId) (i : TypeInfo) (z : Value) (size bytes : Nat) (ht : P.underlying t = some (.slice e)) (hi : P.info? e = some i) (hz : i.zero = some z)
    (hsize : i.size = size) (hby : i.bytes = bytes) (hzs : z.cells.size = size) (hsz : 0 < size)
    (v : Value) (n : Nat) (xs : List Value) (hs : a.eval s = v) (hown : OwnW o c0 w e size v n xs)
    (A : Option Addr) (m c : Nat) (news : List Value) (hx : a.eval x = .slice A m c) (hr : Reads w size A m news) (h1 : ∀ u ∈ news, u.oneCell' = true)
    (h63 : n + m ≤ maxLen) (hbytes : (n + m) * bytes ≤ 140737488355328)
    (h : ∀ v' w', OwnW (band o w.heap.size w'.heap.size c0) c0 w' e size v' (n + m) (xs ++ news) → Step o (only c0) w (band o w.heap.size w'.heap.size c0) w' → (∀ c1 v0 n0 xs0, OwnW o c1 w e size v0 n0 xs0 → n0 ≤ n → ((∃ A0 cap0 cap, v0 = .slice A0 n0 cap0 ∧ v = .slice A0 n cap) ∨ v0.ownBlock ≠ v.ownBlock) → OwnW (band o w.heap.size w'.heap.size c0) c1 w' e size v0 n0 xs0) → NewOrSame w v n v' (n + m) → K (a.put op.dst v') w') : op.wp P a w K Q := by
  obtain ⟨v', w', hrun, h2, h3, h4, h5⟩ := run_append_K (P := P) w t op.type e i z size bytes ht hi hz hsize hby hzs hsz v n xs hown A m c news hr h1 h63 hbytes
  unfold Oper.wp execOp
  simp only [ho, resolve, invoke, builtin, Sem.run_bind, Sem.run_pure, Result.andThen_ok, List.map_toArray, List.map_cons, List.map_nil, hs, hx, hrun]
  exact h v' w' h2 h3 h4 h5

theorem wpList_append_K {ops : Array Oper} {rest : List Oper} {op : Oper} {a : Act} {Q : Exit → Act → World → Prop} (hgd : op.guard = none) {o : Nat → Nat} {c0 : Nat} (s x : Operand) (t : TypeId)
    (ho : op.op = .call { callee := .builtin .append, args := #[s, x], argTypes := #[t, t] })
    (e : TypeId) (i : TypeInfo) (z : Value) (size bytes : Nat) (ht : P.underlying t = some (.slice e)) (hi : P.info? e = some i) (hz : i.zero = some z)
    (hsize : i.size = size) (hby : i.bytes = bytes) (hzs : z.cells.size = size) (hsz : 0 < size)
    (v : Value) (n : Nat) (xs : List Value) (hs : a.eval s = v) (hown : OwnW o c0 w e size v n xs)
    (A : Option Addr) (m c : Nat) (news : List Value) (hx : a.eval x = .slice A m c) (hr : Reads w size A m news) (h1 : ∀ u ∈ news, u.oneCell' = true)
    (h63 : n + m ≤ maxLen) (hbytes : (n + m) * bytes ≤ 140737488355328)
    (h : ∀ v' w', OwnW (band o w.heap.size w'.heap.size c0) c0 w' e size v' (n + m) (xs ++ news) → Step o (only c0) w (band o w.heap.size w'.heap.size c0) w' → (∀ c1 v0 n0 xs0, OwnW o c1 w e size v0 n0 xs0 → n0 ≤ n → ((∃ A0 cap0 cap, v0 = .slice A0 n0 cap0 ∧ v = .slice A0 n cap) ∨ v0.ownBlock ≠ v.ownBlock) → OwnW (band o w.heap.size w'.heap.size c0) c1 w' e size v0 n0 xs0) → NewOrSame w v n v' (n + m) → wpList P ops Q rest (a.put op.dst v') w') : wpList P ops Q (op :: rest) a w :=
  wpList_plain hgd fun _ hK => wp_append_K w s x t ho e i z size bytes ht hi hz hsize hby hzs hsz v n xs hs hown A m c news hx hr h1 h63 hbytes fun v' w' h2 h3 h4 h5 => hK _ _ (h v' w' h2 h3 h4 h5)

theorem step_append_K {ops : Array Oper} {op : Oper} {a : Act} {K : Act → World → Prop} {Q : Exit → Act → World → Prop} {E : Prop} (hgd : op.guard = none) {o : Nat → Nat} {c0 : Nat} (s x : Operand) (t : TypeId)
    (ho : op.op = .call { callee := .builtin .append, args := #[s, x], argTypes := #[t, t] })
    (e : TypeId) (i : TypeInfo) (z : Value) (size bytes : Nat) (ht : P.underlying t = some (.slice e)) (hi : P.info? e = some i) (hz : i.zero = some z)
    (hsize : i.size = size) (hby : i.bytes = bytes) (hzs : z.cells.size = size) (hsz : 0 < size)
    (v : Value) (n : Nat) (xs : List Value) (hs : a.eval s = v) (hown : OwnW o c0 w e size v n xs)
    (A : Option Addr) (m c : Nat) (news : List Value) (hx : a.eval x = .slice A m c) (hr : Reads w size A m news) (h1 : ∀ u ∈ news, u.oneCell' = true)
    (h63 : n + m ≤ maxLen) (hbytes : (n + m) * bytes ≤ 140737488355328)
    (h : ∀ v' w', OwnW (band o w.heap.size w'.heap.size c0) c0 w' e size v' (n + m) (xs ++ news) → Step o (only c0) w (band o w.heap.size w'.heap.size c0) w' → (∀ c1 v0 n0 xs0, OwnW o c1 w e size v0 n0 xs0 → n0 ≤ n → ((∃ A0 cap0 cap, v0 = .slice A0 n0 cap0 ∧ v = .slice A0 n cap) ∨ v0.ownBlock ≠ v.ownBlock) → OwnW (band o w.heap.size w'.heap.size c0) c1 w' e size v0 n0 xs0) → NewOrSame w v n v' (n + m) → K (a.put op.dst v') w') :
    if Region.wanted op (yielded ops a.tmps) = true then Oper.wp P op a w K Q else E := by
  have hw : Region.wanted op (yielded ops a.tmps) = true := by simp [Region.wanted, hgd]
  rw [if_pos hw]
  exact wp_append_K w s x t ho e i z size bytes ht hi hz hsize hby hzs hsz v n xs hs hown A m c news hx hr h1 h63 hbytes h
end
end Go.Proofs.YtkhieofknglknaaGreatDoor
