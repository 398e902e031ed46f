/- SessRoom: the law's walk. -/
import Derived.Test.YtoegkgebmldhaaaSessI
import Derived.Test.YtoegkgebmldhaaaShort
import Derived.Test.YtoegkgebmldhaaaRoomP
namespace Go.Proofs.Ytoegkgebmldhaaa
open Go.RowKit

/-- two sessions beside the texts that were sent (20) and those that were told (21) -/
structure Rm (o : Nat → Nat) (w0 w : World) (pa : Nat) (a : St) (pb : Nat) (b : St) (vv : Value) (V : List ByteArray) (gv : Value) (G : List ByteArray) : Prop where
  two : Two o w0 w pa a pb b
  want : OwnS o 20 w 9 1 vv V.length (V.map Value.string)
  got : OwnS o 21 w 9 1 gv G.length (G.map Value.string)
section
variable {o o' : Nat → Nat} {w0 w w' : World} {pa pb : Nat} {a b a' b' : St} {vv gv vv' gv' : Value} {V G V' G' : List ByteArray}
theorem Rm.stepA (h : Rm o w0 w pa a pb b vv V gv G) (ha : SessAt o' 1 w' pa a') (hs : Step o (trio 1) w o' w') : Rm o' w0 w' pa a' pb b vv V gv G :=
  ⟨h.two.stepA ha hs, h.want.step hs (by unfold trio; omega), h.got.step hs (by unfold trio; omega)⟩
theorem Rm.stepB (h : Rm o w0 w pa a pb b vv V gv G) (ha : SessAt o' 4 w' pb b') (hs : Step o (trio 4) w o' w') : Rm o' w0 w' pa a pb b' vv V gv G :=
  ⟨h.two.stepB ha hs, h.want.step hs (by unfold trio; omega), h.got.step hs (by unfold trio; omega)⟩
theorem Two.stepO {C : Nat → Prop} (h : Two o w0 w pa a pb b) (hs : Step o C w o' w') (h0 : ¬ C 0) (h1 : ∀ x, 1 ≤ x → x ≤ 6 → ¬ C x) : Two o' w0 w' pa a pb b :=
  ⟨h.sa.step hs (h1 1 (by omega) (by omega)) (h1 2 (by omega) (by omega)) (h1 3 (by omega) (by omega)), h.sb.step hs (h1 4 (by omega) (by omega)) (h1 5 (by omega) (by omega)) (h1 6 (by omega) (by omega)), h.fut.step hs, h.low.trans (hs.below (fun k hk => by rw [h.old k hk]; exact h0) h.low.size), fun k hk => (hs.old k (Nat.lt_of_lt_of_le hk h.low.size)).trans (h.old k hk)⟩
theorem Rm.stepV (h : Rm o w0 w pa a pb b vv V gv G) (ha : OwnS o' 20 w' 9 1 vv' V'.length (V'.map Value.string)) (hs : Step o (only 20) w o' w') : Rm o' w0 w' pa a pb b vv' V' gv G :=
  ⟨h.two.stepO hs (by unfold only; omega) (by unfold only; omega), ha, h.got.step hs (by unfold only; omega)⟩
theorem Rm.stepG (h : Rm o w0 w pa a pb b vv V gv G) (ha : OwnS o' 21 w' 9 1 gv' G'.length (G'.map Value.string)) (hs : Step o (only 21) w o' w') : Rm o' w0 w' pa a pb b vv V gv' G' :=
  ⟨h.two.stepO hs (by unfold only; omega) (by unfold only; omega), h.want.step hs (by unfold only; omega), ha⟩
theorem Rm.drewN (h : Rm o w0 w pa a pb b vv V gv G) (n : Nat) : Rm o w0 (w.drewN n) pa a pb b vv V gv G :=
  ⟨h.two.stepO (C := fun _ => False) ((Step.refl o _ w).drewN n) (by simp) (by simp), h.want, h.got⟩
theorem Rm.alloc (h : Rm o w0 w pa a pb b vv V gv G) (x : Obj) : Rm o w0 (w.alloc x) pa a pb b vv V gv G :=
  ⟨h.two.stepO (C := fun _ => False) ((Step.refl o _ w).alloc x) (by simp) (by simp), h.want.alloc x, h.got.alloc x⟩
theorem Rm.below_ (h : Rm o w0 w pa a pb b vv V gv G) (hb : Below w.heap.size w w') : Rm o w0 w' pa a pb b vv V gv G :=
  ⟨h.two.stepO (C := fun _ => False) (Step.of_below o _ hb) (by simp) (by simp), h.want.below_ hb, h.got.below_ hb⟩
end

theorem fcells_get {F : List Fr} {j : Nat} {f : Fr} (h : F[j]? = some f) {i : Nat} {u : Value} (hi : f.cells[i]? = some u) : (fcells F)[j * 8 + i]? = some u := by
  induction F generalizing j with
  | nil => simp at h
  | cons g F ih =>
    have hc : g.cells.length = 8 := rfl
    cases j with
    | zero =>
      simp at h
      subst h
      have hlt : i < g.cells.length := (List.getElem?_eq_some_iff.1 hi).1
      rw [show 0 * 8 + i = i by omega]
      show (g.cells ++ fcells F)[i]? = some u
      rw [List.getElem?_append_left hlt]
      exact hi
    | succ j =>
      simp at h
      show (g.cells ++ fcells F)[(j + 1) * 8 + i]? = some u
      rw [List.getElem?_append_right (by omega), show (j + 1) * 8 + i - g.cells.length = j * 8 + i by omega]
      exact ih h
theorem outF_le (s : St) (h : s.out.length ≤ 64) : s.outF.length ≤ 65 := by
  have h1 : (s.tells s.out).length ≤ s.out.length := by
    unfold St.tells
    rw [List.length_map]
    exact List.length_filter_le _ _
  unfold St.outF
  split
  · simp
  · omega
theorem told_le (s : St) (F : List Fr) (j : Nat) : (takesF s (F.take j)).1.length ≤ (takesF s F).1.length := by
  have h := takesF_app s (F.take j) (F.drop j)
  rw [List.take_append_drop] at h
  rw [h]
  simp
theorem takeF_snoc {F : List Fr} {j : Nat} {f : Fr} (hf : F[j]? = some f) : F.take (j + 1) = F.take j ++ [f] := by
  rw [List.take_add_one, hf]
  rfl
theorem take_snoc {xs : List ByteArray} {k : Nat} {x : ByteArray} (hx : xs[k]? = some x) : xs.take (k + 1) = xs.take k ++ [x] := by
  rw [List.take_add_one, hx]
  rfl

set_option maxRecDepth 100000 in
set_option maxHeartbeats 4000000 in
theorem sessRoom_any (w : World) (A : Option Addr) (ca : Nat) (xs : List ByteArray) (ha : Reads w 1 A xs.length (xs.map Value.string)) (hz : ∀ x ∈ xs, x.size ≤ maxLen) :
    Calls Try.prog 4 #[.slice A xs.length ca] w fun e w' => e = .returned (.bool true) ∧ Below w.heap.size w w' := by
  have HA := Lib.hid ha
  clear ha
  by_cases h0 : 100 < xs.length
  · have h0I : (100 : Int) < (xs.length : Int) := by omega
    go_enter Try.func4, Try.ntmps4
    go_wp2_with (go_at_call 7; refine (alive_any _).mono ?_; rintro x w' ⟨rfl, hb⟩)
    go_ret
    exact ⟨rfl, hb⟩
  · have h0I : ¬ (100 : Int) < (xs.length : Int) := by omega
    go_enter Try.func4, Try.ntmps4
    go_wp2_with fail
    refine (short_any w A ca 100 3000 xs HA.out (by omega) (by omega) (by omega) hz).mono ?_
    rintro e w1 (⟨rfl, hb1⟩ | ⟨rfl, ⟨_, hx3⟩, hb1⟩)
    · go_wp2_with (go_at_call 7; refine (alive_any _).mono ?_; rintro x w' ⟨rfl, hb⟩)
      go_ret
      exact ⟨rfl, hb1.trans (hb.mono hb1.size)⟩
    · have HX := Lib.hid hx3
      have HB1 := Lib.hid hb1
      clear hx3 hb1 hz
      go_wp2_with fail
      refine (snew_any (fun _ => 0) 1 1 2 1 _).mono ?_
      rintro e w2 ⟨pa, o1, rfl, ha, hb2, hs1⟩
      have HA2 := Lib.hid ha
      have HS1 := Lib.hid (hs1 (fun _ => False))
      clear ha hs1
      go_wp2_with fail
      refine (snew_any o1 4 2 1 1 _).mono ?_
      rintro e w3 ⟨pb, o2, rfl, hb, hb3, hs2⟩
      have h2 : Two o2 w w3 pa (St.new 1 2 1) pb (St.new 2 1 1) := by
        have hz := hs2 (fun _ => False)
        have hb12 := HB1.out.trans (hb2.mono HB1.out.size)
        exact ⟨HA2.out.step hz (by simp) (by simp) (by simp), hb, ((show Fut (fun _ => 0) w1 from fun _ _ => rfl).step HS1.out).step hz, hb12.trans (hb3.mono hb12.size), fun k hk => (hz.old k (Nat.lt_of_lt_of_le hk hb12.size)).trans (HS1.out.old k (Nat.lt_of_lt_of_le hk HB1.out.size))⟩
      have H2 := Lib.hid (show Rm o2 w w3 pa (St.new 1 2 1) pb (St.new 2 1 1) (.slice none 0 0) [] (.slice none 0 0) [] from ⟨h2, OwnS.nil _ _ _ _ _, OwnS.nil _ _ _ _ _⟩)
      clear h2 hb hs2 HA2 HS1 hb2 hb3
      go_wp2_with fail
      obtain ⟨i0, hi0, hz0, hz1, hz2⟩ := info_parts info_s
      go_loopw [5, 7] (fun v i wr => ∃ (o : Nat → Nat) (k : Nat), k ≤ xs.length ∧ i = .int .i64 k ∧ Rm o w wr pa (sendA ((xs.take k).take 64)) pb (St.new 2 1 1) v ((xs.take k).take 64) (.slice none 0 0) []) (fun _ i _ => xs.length - (intOf i).toNat)
      case atStart => exact ⟨o2, 0, Nat.zero_le _, rfl, H2.out⟩
      case round =>
        obtain ⟨o3, k, hk, rfl, hrm⟩ := hrel
        by_cases hlt : k < xs.length
        · have hltI : (k : Int) < (xs.length : Int) := by omega
          have hcell := (HA.out.keep_ (fun ad had => hrm.two.low.block _ (HA.out.lt (by decide) ad (by omega) had))).at1 hlt
          obtain ⟨Aw, capw, rfl, _, _⟩ := own_form hrm.want
          have HRM := Lib.hid hrm
          clear hrm
          obtain ⟨ad, u, rfl, hu, hc⟩ := hcell
          obtain ⟨x, hx⟩ : ∃ x, xs[k]? = some x := ⟨_, List.getElem?_eq_getElem hlt⟩
          obtain rfl : u = .string x := by simp [hx] at hu; exact hu.symm
          have hx3 := HX.out x (List.mem_of_getElem? hx)
          clear hu
          have HXK := Lib.hid hx
          clear hx
          by_cases h64 : k < 64
          · have hV : (xs.take k).take 64 = xs.take k := List.take_of_length_le (by simp; omega)
            have hV2 : (xs.take (k + 1)).take 64 = xs.take k ++ [x] := by rw [List.take_of_length_le (by simp; omega), take_snoc HXK.out]
            rw [hV] at HRM
            have HR2 := HRM
            rw [hV]
            have HV2 := Lib.hid hV2
            clear hV hV2 HRM
            have hlk : (xs.take k).length = k := by simp; omega
            go_wp2_with fail
            refine (send_ok HR2.out.two.sa x hx3 (by simp only [sendA, waits_len]; omega) ⟨by simp only [sendA]; omega, by simp only [sendA]; omega⟩).mono ?_
            rintro e w4 ⟨rfl, o4, hs4, hst4⟩
            rw [sendA_snoc] at hs4
            have HR4 := Lib.hid (HR2.out.stepA hs4 hst4)
            clear hs4 hst4 HR2
            rw [hlk]
            have h64I : (k : Int) < 64 := by omega
            have hc4 : w4.cell? (ad.add k) = some (.string x) := by
              obtain ⟨ad', u', e', hu', hc'⟩ := (HA.out.keep_ (fun ad had => HR4.out.two.low.block _ (HA.out.lt (by decide) ad (by omega) had))).at1 hlt
              cases e'
              simp [HXK.out] at hu'
              rw [hu']
              exact hc'
            have hw4 : OwnS o4 20 w4 9 1 (.slice Aw k capw) k ((xs.take k).map Value.string) := by
              have := HR4.out.want
              rwa [hlk] at this
            have HW4 := Lib.hid hw4
            clear hw4 hc
            go_wp2_with (at_builtin; refine wpList_append_S _ rfl (.tmp 61) (.tmp 66) 27 rfl 9 i0 _ 1 16 Try.underlying27 hi0 hz0 hz1 hz2 rfl (by omega) (.slice Aw k capw) k ((xs.take k).map Value.string) rfl (HW4.out.alloc _) (some ⟨w4.heap.size, 0, none⟩) 1 1 [.string x] rfl (Reads.newAt w4 9 1 1 [.string x] #[.string x] w4.heap.size rfl rfl rfl) (by simp [Value.oneCell']) (by unfold maxLen; omega) (by omega) ?_; intro v' w5 hown hst hg hat; have HOWN := Lib.hid hown; have HST := Lib.hid hst; clear hown hst hg hat)
            go_roundw
            case rel =>
              have h9 := (HR4.out.alloc (.cells #[.string x] 9)).stepV (vv' := v') (V' := xs.take k ++ [x]) (by
                have := HOWN.out
                simpa [hlk] using this) HST.out
              rw [← HV2.out] at h9
              exact ⟨_, k + 1, by omega, rfl, h9⟩
            case measure => simp [intOf]; omega
          · have hV2 : (xs.take (k + 1)).take 64 = (xs.take k).take 64 := by rw [List.take_take, List.take_take]; congr 1; omega
            have hlk : ((xs.take k).take 64).length = 64 := by simp; omega
            have HV2 := Lib.hid hV2
            clear hV2
            rw [hlk]
            go_wp2_with fail
            refine (send_full HRM.out.two.sa x hx3 (by simp only [sendA, waits_len]; omega)).mono ?_
            rintro e w4 ⟨rfl, n4, rfl⟩
            go_wp2_with fail
            go_roundw
            case rel =>
              refine ⟨o3, k + 1, by omega, by go_num, ?_⟩
              rw [HV2.out]
              have := HRM.out.drewN n4
              rw [hlk] at this
              exact this
            case measure => simp [intOf]; omega
        · have hltI : ¬ (k : Int) < (xs.length : Int) := by omega
          have hvl : ((xs.take k).take 64).length ≤ 64 := by simp; omega
          have hvs : ∀ x ∈ (xs.take k).take 64, x.size ≤ 3000 := fun x hx => HX.out x (List.mem_of_mem_take (List.mem_of_mem_take hx))
          generalize (xs.take k).take 64 = V at hrm hvl hvs
          obtain ⟨Aw, capw, rfl, _, _⟩ := own_form hrm.want
          have HRM := Lib.hid hrm
          have HVS := Lib.hid hvs
          have HVL := Lib.hid hvl
          clear hrm hvs hvl
          go_wp2_with fail
          go_loopw [6, 9] (fun g i wr => ∃ (o : Nat → Nat) (k : Nat), k ≤ 12 ∧ i = .int .i64 k ∧ Rm o w wr pa (Rd.run V k).a pb (Rd.run V k).b (.slice Aw V.length capw) V g (Rd.run V k).G) (fun _ i _ => 12 - (intOf i).toNat)
          case atStart => exact ⟨o3, 0, by omega, rfl, HRM.out⟩
          case round =>
            obtain ⟨o5, k5, hk5, rfl, hrm⟩ := hrel
            by_cases hlt5 : k5 < 12
            · have hlt5I : (k5 : Int) < 12 := by omega
              obtain ⟨hok, hG, _⟩ := run_ok HVL.out HVS.out k5
              obtain ⟨e5, he5⟩ : ∃ r, r = Rd.run V k5 := ⟨_, rfl⟩
              rw [← he5] at hrm hok hG
              have HE5 := Lib.hid he5
              have hAF : e5.aF.length ≤ 65 := outF_le _ (by simpa [St.tickS] using hok.out)
              have hBF : e5.bF.length ≤ 65 := outF_le _ hok.outB
              have HOK := Lib.hid hok
              have HR5 := Lib.hid hrm
              clear hrm he5 hok
              go_wp2_with fail
              refine (tick_as (d := 10) (F := e5.aF) (s' := e5.a1) HR5.out.two.sa HR5.out.two.fut (by omega) (by omega) (by omega) HOK.out.out HOK.out.age rfl rfl).mono ?_
              rintro e w6 ⟨A6, cap6, o6, rfl, hl6, hcap6, hs6, hst6⟩
              have HR6 := Lib.hid (HR5.out.stepA hs6 hst6)
              have HL6 := Lib.hid hl6
              clear hs6 hst6 hl6 HR5
              change Hid (Rm o6 w w6 pa e5.a1 pb e5.b _ _ _ _) at HR6
              go_wp2_with fail
              go_loopw [6, 11] (fun g i wr => ∃ (o : Nat → Nat) (j : Nat), j ≤ e5.aF.length ∧ i = .int .i64 j ∧ Rm o w wr pa e5.a1 pb (takesF e5.b (e5.aF.take j)).2 (.slice Aw V.length capw) V g (e5.G ++ (takesF e5.b (e5.aF.take j)).1) ∧ OwnS o 10 wr 34 8 (.slice A6 e5.aF.length cap6) e5.aF.length (fcells e5.aF)) (fun _ i _ => e5.aF.length - (intOf i).toNat)
              case atStart => exact ⟨o6, 0, Nat.zero_le _, rfl, by simpa [takesF] using HR6.out, HL6.out⟩
              case round =>
                obtain ⟨o7, j, hj, rfl, hrm, hl7⟩ := hrel
                have HR7 := Lib.hid hrm
                have HL7 := Lib.hid hl7
                clear hrm hl7 HR6 HL6
                by_cases hltj : j < e5.aF.length
                · have hltjI : (j : Int) < (e5.aF.length : Int) := by omega
                  obtain ⟨g6, rfl, hg6, hc6⟩ := HL7.out.addr (by omega)
                  obtain ⟨f, hf⟩ : ∃ f, e5.aF[j]? = some f := ⟨_, List.getElem?_eq_getElem hltj⟩
                  have z0 := HL7.out.at_ (fcells_get hf (i := 0) rfl)
                  have z1 := HL7.out.at_ (fcells_get hf (i := 1) rfl)
                  have z2 := HL7.out.at_ (fcells_get hf (i := 2) rfl)
                  have z3 := HL7.out.at_ (fcells_get hf (i := 3) rfl)
                  have z4 := HL7.out.at_ (fcells_get hf (i := 4) rfl)
                  have z5 := HL7.out.at_ (fcells_get hf (i := 5) rfl)
                  have z6 := HL7.out.at_ (fcells_get hf (i := 6) rfl)
                  have z7 := HL7.out.at_ (fcells_get hf (i := 7) rfl)
                  rw [Nat.add_zero] at z0
                  have hT := HOK.out.takeB j f hf
                  have HF := Lib.hid hf
                  clear hf
                  obtain ⟨T, s8, hts⟩ : ∃ T s', (takesF e5.b (e5.aF.take j)).2.takeF f = (T, s') := ⟨_, _, rfl⟩
                  have HTS := Lib.hid hts
                  clear hts
                  obtain ⟨Ag, capg, rfl, _, _⟩ := own_form HR7.out.got
                  go_wp2_with fail
                  refine (take_as (d := 11) (f := f) HR7.out.two.sb HR7.out.two.fut (by omega) (by omega) (by omega) hT.out hT.From hT.To hT.Mine hT.yours hT.Yours hT.Seq hT.heard hT.ahead hT.Data HTS.out).mono ?_
                  rintro e w8 ⟨A8, cap8, o8, rfl, hl8, hcap8, hs8, hst8⟩
                  have HR8 := Lib.hid (HR7.out.stepB hs8 hst8)
                  have HL8 := Lib.hid hl8
                  have HLF8 := Lib.hid (HL7.out.step hst8 (by unfold trio; omega))
                  clear hs8 hst8 hl8 z0 z1 z2 z3 z4 z5 z6 z7 HR7 HL7
                  have hsn := takesF_snoc e5.b (e5.aF.take j) f
                  rw [HTS.out, ← takeF_snoc HF.out] at hsn
                  have hle := told_le e5.b e5.aF (j + 1)
                  rw [hsn] at hle
                  have htl : (takesF e5.b e5.aF).1.length ≤ 64 := HOK.out.told
                  have HSN := Lib.hid hsn
                  clear hsn
                  simp only [List.length_append] at hle
                  have hn1 : (e5.G ++ (takesF e5.b (e5.aF.take j)).1).length + T.length ≤ 128 := by simp only [List.length_append]; omega
                  generalize hnn : (e5.G ++ (takesF e5.b (e5.aF.take j)).1).length = nn at hn1
                  have hgot : OwnS o8 21 w8 9 1 (.slice Ag nn capg) nn ((e5.G ++ (takesF e5.b (e5.aF.take j)).1).map Value.string) := by
                    have := HR8.out.got
                    rwa [hnn] at this
                  have HGOT := Lib.hid hgot
                  clear hgot hle
                  have hone : ∀ u ∈ T.map Value.string, u.oneCell' = true := by
                    intro u hu
                    obtain ⟨y, _, rfl⟩ := List.mem_map.1 hu
                    rfl
                  go_wp2_with (at_builtin; refine wpList_append_S _ rfl (.tmp 89) (.tmp 90) 27 rfl 9 i0 _ 1 16 Try.underlying27 hi0 hz0 hz1 hz2 rfl (by omega) (.slice Ag nn capg) nn ((e5.G ++ (takesF e5.b (e5.aF.take j)).1).map Value.string) rfl HGOT.out A8 T.length cap8 (T.map Value.string) rfl (Reads.of_own HL8.out.1) hone (by unfold maxLen; omega) (by omega) ?_; intro v' w9 hown hst hg hat; have HOWN := Lib.hid hown; have HST := Lib.hid hst; clear hown hst hg hat)
                  go_roundw
                  case rel =>
                    have h9 := HR8.out.stepG (gv' := v') (G' := (e5.G ++ (takesF e5.b (e5.aF.take j)).1) ++ T) (by
                      have := HOWN.out
                      simpa [← hnn, Nat.add_assoc] using this) HST.out
                    refine ⟨_, j + 1, by omega, rfl, ?_, HLF8.out.step HST.out (by unfold only; omega)⟩
                    rw [HSN.out]
                    simpa using h9
                  case measure => simp [intOf]; omega
                · have hltjI : ¬ (j : Int) < (e5.aF.length : Int) := by omega
                  go_wp2_with fail
                  have hje : j = e5.aF.length := by omega
                  subst hje
                  rw [List.take_length] at HR7
                  change Hid (Rm o7 w wr pa e5.a1 pb e5.b1 _ _ _ (e5.G ++ e5.told)) at HR7
                  refine (out_as (d := 12) (F := e5.bF) (s' := e5.b2) HR7.out.two.sb HR7.out.two.fut (by omega) (by omega) (by omega) HOK.out.outB rfl rfl).mono ?_
                  rintro e w10 ⟨A10, cap10, o10, rfl, hl10, hcap10, hs10, hst10⟩
                  have HR10 := Lib.hid (HR7.out.stepB hs10 hst10)
                  have HL10 := Lib.hid hl10
                  clear hs10 hst10 hl10 HR7 HL7
                  go_wp2_with fail
                  go_loopw [15] (fun i wr => ∃ (o : Nat → Nat) (j : Nat), j ≤ e5.bF.length ∧ i = .int .i64 j ∧ Rm o w wr pa (takesF e5.a1 (e5.bF.take j)).2 pb e5.b2 (.slice Aw V.length capw) V u6 (e5.G ++ e5.told) ∧ OwnS o 12 wr 34 8 (.slice A10 e5.bF.length cap10) e5.bF.length (fcells e5.bF)) (fun i _ => e5.bF.length - (intOf i).toNat)
                  case atStart => exact ⟨o10, 0, Nat.zero_le _, rfl, by simpa [takesF] using HR10.out, HL10.out⟩
                  case round =>
                    obtain ⟨o7, j, hj, rfl, hrm, hl7⟩ := hrel
                    have HR7 := Lib.hid hrm
                    have HL7 := Lib.hid hl7
                    clear hrm hl7 HR10 HL10
                    by_cases hltj : j < e5.bF.length
                    · have hltjI : (j : Int) < (e5.bF.length : Int) := by omega
                      obtain ⟨g6, rfl, hg6, hc6⟩ := HL7.out.addr (by omega)
                      obtain ⟨f, hf⟩ : ∃ f, e5.bF[j]? = some f := ⟨_, List.getElem?_eq_getElem hltj⟩
                      have z0 := HL7.out.at_ (fcells_get hf (i := 0) rfl)
                      have z1 := HL7.out.at_ (fcells_get hf (i := 1) rfl)
                      have z2 := HL7.out.at_ (fcells_get hf (i := 2) rfl)
                      have z3 := HL7.out.at_ (fcells_get hf (i := 3) rfl)
                      have z4 := HL7.out.at_ (fcells_get hf (i := 4) rfl)
                      have z5 := HL7.out.at_ (fcells_get hf (i := 5) rfl)
                      have z6 := HL7.out.at_ (fcells_get hf (i := 6) rfl)
                      have z7 := HL7.out.at_ (fcells_get hf (i := 7) rfl)
                      rw [Nat.add_zero] at z0
                      have hT := HOK.out.takeA j f hf
                      have HF := Lib.hid hf
                      clear hf
                      obtain ⟨T, s8, hts⟩ : ∃ T s', (takesF e5.a1 (e5.bF.take j)).2.takeF f = (T, s') := ⟨_, _, rfl⟩
                      have HTS := Lib.hid hts
                      clear hts
                      go_wp2_with fail
                      refine (take_as (d := 11) (f := f) HR7.out.two.sa HR7.out.two.fut (by omega) (by omega) (by omega) hT.out hT.From hT.To hT.Mine hT.yours hT.Yours hT.Seq hT.heard hT.ahead hT.Data HTS.out).mono ?_
                      rintro e w8 ⟨A8, cap8, o8, rfl, hl8, hcap8, hs8, hst8⟩
                      have HR8 := Lib.hid (HR7.out.stepA hs8 hst8)
                      have HLF8 := Lib.hid (HL7.out.step hst8 (by unfold trio; omega))
                      clear hs8 hst8 hl8 z0 z1 z2 z3 z4 z5 z6 z7 HR7 HL7
                      have hsn := takesF_snoc e5.a1 (e5.bF.take j) f
                      rw [HTS.out, ← takeF_snoc HF.out] at hsn
                      have HSN := Lib.hid hsn
                      clear hsn
                      go_wp2_with fail
                      go_roundw
                      case rel =>
                        refine ⟨_, j + 1, by omega, rfl, ?_, HLF8.out⟩
                        rw [HSN.out]
                        exact HR8.out
                      case measure => simp [intOf]; omega
                    · have hltjI : ¬ (j : Int) < (e5.bF.length : Int) := by omega
                      have hje : j = e5.bF.length := by omega
                      subst hje
                      rw [List.take_length] at HR7
                      go_wp2_with fail
                      go_roundw
                      case rel =>
                        have e9 : Rd.run V (k5 + 1) = e5.next := by rw [HE5.out]; rfl
                        have h9 : Rm o7 w wr pa (Rd.run V (k5 + 1)).a pb (Rd.run V (k5 + 1)).b (.slice Aw V.length capw) V u6 (Rd.run V (k5 + 1)).G := by
                          rw [e9]
                          exact HR7.out
                        exact ⟨o7, k5 + 1, by omega, rfl, h9⟩
                      case measure => simp [intOf]; omega
            · have hlt5I : ¬ (k5 : Int) < 12 := by omega
              obtain ⟨_, _, hfin⟩ := run_ok HVL.out HVS.out k5
              obtain ⟨hf1, hf2⟩ := hfin (by omega)
              rw [hf1] at hrm
              have HR := Lib.hid hrm
              have HF2 := Lib.hid hf2
              clear hrm hfin hf1 hf2
              obtain ⟨Ag, capg, rfl, _, _⟩ := own_form HR.out.got
              go_wp2_with fail
              have hvl := HVL.out
              refine (alive_any _).mono ?_
              rintro e w11 ⟨rfl, hb11⟩
              have HR11 := Lib.hid (HR.out.below_ hb11)
              clear hb11 HR
              go_wp2_with fail
              refine (same_yes w11 Ag Aw capg capw V (Reads.of_own HR11.out.got.1) (Reads.of_own HR11.out.want.1) (by omega)).mono ?_
              rintro e w12 ⟨rfl, n12, rfl⟩
              have HR12 := Lib.hid (HR11.out.drewN n12)
              clear HR11
              go_wp2_with fail
              refine (waiting_any HR12.out.two.sa).mono ?_
              rintro e w13 ⟨rfl, rfl⟩
              rw [HF2.out]
              go_wp2_with fail
              go_ret
              exact ⟨rfl, HR12.out.two.low⟩
end Go.Proofs.Ytoegkgebmldhaaa
