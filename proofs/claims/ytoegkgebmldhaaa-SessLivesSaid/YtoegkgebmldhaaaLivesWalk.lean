/- SessLives: the law's walk. -/
import Derived.Test.YtoegkgebmldhaaaLivesM
namespace Go.Proofs.Ytoegkgebmldhaaa
open Go.RowKit

theorem reads_str (w : World) (s : ByteArray) : Reads (w.alloc (.cells #[.string s] 9)) 1 (some ⟨w.heap.size, 0, none⟩) 1 [.string s] := Reads.newAt w 9 1 1 [.string s] #[.string s] w.heap.size rfl rfl rfl
set_option maxRecDepth 100000 in
set_option maxHeartbeats 40000000 in
theorem sessLives_any (w : World) (A : Option Addr) (ca : Nat) (l : List Wy) (ha : Reads w 3 A l.length (ycells l)) (hz : ∀ x ∈ l, x.data.size ≤ maxLen ∧ i64 x.kind ∧ i64 x.k) (hlen : l.length ≤ maxLen) :
    Calls Try.prog 5 #[.slice A l.length ca] w fun e w' => e = .returned (.bool true) ∧ Below w.heap.size w w' := by
  have HA := Lib.hid ha
  have HZ := Lib.hid hz
  clear ha hz
  unfold maxLen at hlen
  by_cases h0 : 120 < l.length
  · have h0I : (120 : Int) < (l.length : Int) := by omega
    go_enter Try.func5, Try.ntmps5
    go_wp2_with (go_at_call 7; refine (alive_any _).mono ?_; rintro x w' ⟨rfl, hb⟩)
    go_ret
    exact ⟨rfl, hb⟩
  · have h0I : ¬ (120 : Int) < (l.length : Int) := by omega
    go_enter Try.func5, Try.ntmps5
    go_wp2_with fail
    refine (snew_any (fun _ => 0) 1 1 2 1 _).mono ?_
    rintro e w2 ⟨pa, o1, rfl, ha, hb2, hs1⟩
    have HA2 := Lib.hid ha
    have HS1 := Lib.hid (hs1 (fun _ => False))
    clear ha hs1
    go_wp2_with fail
    refine (snew_any o1 4 2 1 1 _).mono ?_
    rintro e w3 ⟨pb, o2, rfl, hb, hb3, hs2⟩
    have h2 : Two o2 w w3 pa (St.new 1 2 1) pb (St.new 2 1 1) := by
      have hz := hs2 (fun _ => False)
      exact ⟨HA2.out.step hz (by simp) (by simp) (by simp), hb, ((show Fut (fun _ => 0) w from fun _ _ => rfl).step HS1.out).step hz, hb2.trans (hb3.mono hb2.size), fun k hk => (hz.old k (Nat.lt_of_lt_of_le hk hb2.size)).trans (HS1.out.old k hk)⟩
    have h2b : Two (band o2 w3.heap.size (w3.alloc (.cells #[.slice none 0 0, .slice none 0 0] 27)).heap.size 21) w (w3.alloc (.cells #[.slice none 0 0, .slice none 0 0] 27)) pa (St.new 1 2 1) pb (St.new 2 1 1) :=
      h2.stepO (C := fun _ => False) (Step.of_below_band o2 _ 21 ((Below.refl _ _).alloc (Nat.le_refl _) _)) (by simp) (by simp)
    have H2 := Lib.hid (show Ov (band o2 w3.heap.size (w3.alloc (.cells #[.slice none 0 0, .slice none 0 0] 27)).heap.size 21) w (w3.alloc (.cells #[.slice none 0 0, .slice none 0 0] 27)) pa (St.new 1 2 1) pb (St.new 2 1 1) (.slice none 0 0) [] (.slice (some ⟨w3.heap.size, 0, none⟩) 2 2) [[], []] [.slice none 0 0, .slice none 0 0] from ⟨h2b, OwnW.nil _ _ _ _ _, Said.nil2 w3 _ (band_in (Nat.le_refl _) (by simp)) rfl⟩)
    clear h2 h2b hb hs2 HA2 HS1 hb2 hb3
    go_wp2_with fail
    obtain ⟨i0, hi0, hz0, hz1, hz2⟩ := info_parts info_s
    obtain ⟨i1, hj0, hj1, hj2, hj3⟩ := info_parts info_f
    obtain ⟨i2, hk0, hk1, hk2, hk3⟩ := info_parts info_ss
    go_loopg [4, 5, 6, 7, 8, 9, 10] l.length (fun n t4 t5 t6 t7 t8 t9 t10 wr => ∃ k : Nat, n + k = l.length ∧ t10 = .int .i64 k ∧ LvRel w pa k t4 t5 t6 t7 t8 t9 wr)
    case atStart => exact ⟨0, by omega, rfl, LvRel.intro_ (L := 1) (h := 0) (y := 0) H2.out ((Lv.new 0 (by omega)).mono (Nat.le_refl _) (by omega) (by omega)) rfl rfl⟩
    case round =>
      clear H2
      obtain ⟨k, hnk, rfl, o3, pb, L, y, h, a, b, way, S, vs, rfl, rfl, rfl, rfl, hom, hln, hah, hay⟩ := hrel
      by_cases hlt : k < l.length
      · have hltI : (k : Int) < (l.length : Int) := by omega
        obtain ⟨y0, hy⟩ : ∃ y, l[k]? = some y := ⟨_, List.getElem?_eq_getElem hlt⟩
        have hcell := (HA.out.keep_ (fun ad had => hom.two.low.block _ (HA.out.lt (by decide) ad (by omega) had))).at3 hy
        obtain ⟨hyd, hyk, hyq⟩ := HZ.out y0 (List.mem_of_getElem? hy)
        obtain ⟨kd, kk, dt⟩ := y0
        simp only at hcell hyd hyk hyq
        obtain ⟨ad, rfl, c0, c1, c2⟩ := hcell
        have hL2 := hln.L2
        have hL1 := hln.L1
        have hwl : way.length ≤ 5000 := by have := hln.way_le; omega
        obtain ⟨Aw, capw, rfl, _, hcw⟩ := hom.way.form
        unfold maxLen at hyd hcw
        obtain ⟨hyk1, hyk2⟩ := hyk
        obtain ⟨hyq1, hyq2⟩ := hyq
        have hyL := hln.ap
        rw [hay] at hyL
        have hSl := hln.len
        have HOM := Lib.hid hom
        have HLN := Lib.hid hln
        have HNK := Lib.hid hnk
        have HAH := Lib.hid hah
        have HAY := Lib.hid hay
        clear hom hln hnk hy hah hay
        have hwI : (way.length : Int) ≤ 5000 := by omega
        go_upto_block 1 with (fail)
        go_cut [4, 5, 6, 7, 8, 9, 11, 12, 13, 14, 15, 16] from 35 to 234 (fun t4 t5 t6 t7 t8 t9 _ _ _ _ _ _ wx => LvRel w pa (k + 1) t4 t5 t6 t7 t8 t9 wx)
        case rest =>
          as_aux_lemma => -- @end
            clear c0 c1 c2
            go_wp2_with fail
            go_roundg (l.length - (k + 1))
            case measure => have := HNK.out; omega
            case rel => exact ⟨k + 1, by omega, by go_num, hcut⟩
        by_cases hd : 100 < dt.size
        · have hdI : (100 : Int) < (dt.size : Int) := by omega
          as_aux_lemma => -- @long
            go_wp2_with fail
            refine bodyPost_ret (v := .bool true) (by simp [results, Try.results5, go_sem]) rfl ⟨rfl, ?_⟩
            exact HOM.out.two.low.alloc HOM.out.two.low.size _
        · have hdI : ¬ (100 : Int) < (dt.size : Int) := by omega
          go_upto_if 51 with (fail)
          go_cut [12] from 35 to 234 (fun v wx => ∃ q : Nat, v = .int .i64 q ∧ (q < way.length ∨ way.length = 0 ∧ q = 0) ∧ wx = wr.alloc (.cells #[.int .i64 kd, .int .i64 kk, .string dt] 29))
          case first =>
            as_aux_lemma => -- @k12
              clear c0 c1 c2
              by_cases hw0 : 0 < way.length
              · have hw0I : (0 : Int) < (way.length : Int) := by omega
                by_cases hs0 : 0 ≤ kk
                · have m1 := Int.emod_nonneg kk (show (way.length : Int) ≠ 0 by omega)
                  have m2 := Int.emod_lt_of_pos kk hw0I
                  go_wp2_with fail
                  go_meet
                  case rel => exact ⟨(kk % way.length).toNat, by rw [Int.toNat_of_nonneg m1], .inl (by omega), rfl⟩
                · obtain ⟨m1, m2⟩ := tmod_bd kk way.length hw0
                  by_cases hs : kk.tmod way.length < 0
                  · go_wp2_with fail
                    go_meet
                    case rel => exact ⟨(kk.tmod way.length + way.length).toNat, by rw [Int.toNat_of_nonneg (by omega)], .inl (by omega), rfl⟩
                  · go_wp2_with fail
                    go_meet
                    case rel => exact ⟨(kk.tmod way.length).toNat, by rw [Int.toNat_of_nonneg (by omega)], .inl (by omega), rfl⟩
              · have hw0I : ¬ (0 : Int) < (way.length : Int) := by omega
                go_wp2_with fail
                go_meet
                case rel => exact ⟨0, rfl, .inr ⟨by omega, rfl⟩, rfl⟩
          case rest =>
            obtain ⟨q, rfl, hq, rfl⟩ := hcut
            have hom1 := HOM.out.alloc (.cells #[.int .i64 kd, .int .i64 kk, .string dt] 29)
            have hbx := Blk.new wr 29 #[.int .i64 kd, .int .i64 kk, .string dt]
            have hoB : o3 wr.heap.size = 0 := HOM.out.two.fut.at_
            clear c0 c1 c2
            generalize wr.alloc (.cells #[.int .i64 kd, .int .i64 kk, .string dt] 29) = W at hom1 hbx ⊢
            generalize wr.heap.size = B at hbx hoB ⊢
            have x0 := hbx.cell 0
            have x2 := hbx.cell 2
            simp at x0 x2
            have xB := hbx.lt
            have hln := HLN.out
            have hroa : a.out.length ≤ 64 := hln.wk.room
            have hrob : b.out.length ≤ 64 := hln.dir.snd.room
            have hla : 0 ≤ a.last ∧ a.last ≤ 184 := by have := hln.wk.last; omega
            have hlb : 0 ≤ b.last ∧ b.last ≤ 120 := by have := hln.dir.snd.last; have := (hln.sdn L).1; omega
            have HOM1 := Lib.hid hom1
            have HBX := Lib.hid hbx
            have HOB := Lib.hid hoB
            clear hom1 hbx hoB hln
            focus
              by_cases k1 : kd = 1
              · subst k1
                by_cases hr : a.out.length < 64
                · as_aux_lemma => -- @sa1
                    go_wp2_with fail
                    refine (send_ok HOM1.out.two.sa dt (by omega) hr ⟨by omega, by omega⟩).mono ?_
                    rintro e w4 ⟨rfl, o4, hs4, hst4⟩
                    have HM4 := Lib.hid (HOM1.out.stepA hs4 hst4)
                    clear hs4 hst4 x0 x2
                    go_wp2_with fail
                    go_meet
                    case rel => exact LvRel.intro_ HM4.out ((HLN.out.sendA dt (by omega) hr (by omega)).mono (Nat.le_refl _) (by omega) (by omega)) HAH.out HAY.out
                · as_aux_lemma => -- @sa2
                    go_wp2_with fail
                    refine (send_full HOM1.out.two.sa dt (by omega) (by omega)).mono ?_
                    rintro e w4 ⟨rfl, n4, rfl⟩
                    go_wp2_with fail
                    go_meet
                    case rel => exact LvRel.intro_ (HOM1.out.drewN n4) (HLN.out.mono (by omega) (by omega) (by omega)) HAH.out HAY.out
              · have t1 : (kd == 1) = false := by simp [k1]
                by_cases k2 : kd = 2
                · subst k2
                  by_cases hr : b.out.length < 64
                  · focus -- @sb1
                      go_wp2_with fail
                      refine (send_ok HOM1.out.two.sb dt (by omega) hr ⟨by omega, by omega⟩).mono ?_
                      rintro e w4 ⟨rfl, o4, hs4, hst4⟩
                      have hb4 := HBX.out.step hst4 (by rw [HOB.out]; unfold trio; omega)
                      have y2 := hb4.cell 2
                      simp at y2
                      have hB4 := hb4.lt
                      have hoB4 : o4 B = 0 := (hst4.old B xB).trans HOB.out
                      have hm4 := HOM1.out.stepB hs4 hst4
                      obtain ⟨gS, capS, Au, cu, uu, D, rfl, hS1, hgS, hoS, hvu, hSD, rfl, hDc, hcS⟩ := hm4.said.at_ (i := L) (by omega)
                      obtain ⟨curS, hbS⟩ : ∃ cur, Blk w4 gS 27 cur := by
                        obtain ⟨g', cur, hA', hb', _⟩ := hm4.said.outer.blk (by omega)
                        injection hA' with e
                        injection e with e
                        subst e
                        exact ⟨cur, hb'⟩
                      have hfS : w4.frozen? ⟨gS, L, none⟩ = false := hbS.frozen L
                      have hBS : B ≠ gS := fun e => by rw [e] at hoB4; omega
                      have hDe : sd S L = D := by unfold sd; rw [Int.toNat_natCast, List.getD_eq_getElem?_getD, hSD]; rfl
                      have hDl : D.length ≤ 120 := by rw [← hDe]; have := (HLN.out.sdn L).1; omega
                      have hneS := own_blk_ne (hm4.said.inner L _ D hvu hSD) hbS (by decide)
                      have HIN := Lib.hid (hm4.said.inner L _ D hvu hSD)
                      have HM4 := Lib.hid hm4
                      have HDE := Lib.hid hDe
                      have HNE := Lib.hid hneS
                      clear hs4 hst4 hb4 x0 x2 hm4 hvu hSD hDe hneS hbS
                      have hLI : (L : Int) < (S.length : Int) := by omega
                      have hLS : L < S.length := by omega
                      clear hSl
                      have hL0 : (0 : Int) ≤ (L : Int) := by omega
                      have hLn : (L : Int).toNat = L := by omega
                      have hScI : (S.length : Int) ≤ (capS : Int) := by omega
                      go_upto_region 43 with (fail)
                      go_region_law (refine step_append_S _ rfl (.tmp 168) (.tmp 171) 27 rfl 9 i0 _ 1 16 Try.underlying27 hi0 hz0 hz1 hz2 rfl (by omega) (.slice Au D.length cu) D.length (D.map Value.string) (by simp [Act.eval, Act.put]) (HIN.out.alloc _).drew (some ⟨w4.heap.size, 0, none⟩) 1 1 [.string dt] (by simp [Act.eval, Act.put]) (reads_str w4 dt).drew (by simp [Value.oneCell']) (by unfold maxLen; omega) (by omega) ?_; intro v5 w5 hown5 hst5 hg5 hat5; obtain ⟨A5, cap5, rfl, _, _⟩ := own_form hown5; have HO5 := Lib.hid hown5; have HG5 := Lib.hid hg5; have HT5 := Lib.hid hst5; have HA5 := Lib.hid hat5; have KX : w5.cell? ⟨B, 2, none⟩ = some (.string dt) ∧ w5.cell? ⟨gS, L, none⟩ = some (.slice Au D.length cu) := ⟨(World.cell?_of_block (a := ⟨B, 2, none⟩) (hst5.block B (by simp; omega) (by rw [hoB4]; unfold only; omega))).trans ((World.cell?_alloc_lt _ _ _ hB4).trans y2), (World.cell?_of_block (a := ⟨gS, L, none⟩) (hst5.block gS (by simp; omega) (by rw [hoS]; unfold only; omega))).trans ((World.cell?_alloc_lt _ _ _ hgS).trans hcS)⟩; have KF : w5.frozen? ⟨gS, L, none⟩ = false := (blk_frozen (hst5.block gS (by simp; omega) (by rw [hoS]; unfold only; omega))).trans ((blk_frozen (Below.heap_alloc _ _ _ hgS)).trans hfS); have KXa := KX.1; have KXb := KX.2; have KS : (w5.setCell ⟨gS, L, none⟩ (.slice A5 (D.length + 1) cap5)).cell? ⟨B, 2, none⟩ = some (.string dt) := (World.cell?_of_block (a := ⟨B, 2, none⟩) (Below.heap_setCell _ _ _ _ hBS)).trans KXa; clear hown5 hst5 hg5 hat5)
                      all_goals
                        go_wp2_with fail
                        go_meet
                        case rel =>
                          have hmA := (HM4.out.alloc (.cells #[.string dt] 9)).drewN 1
                          have hu5 : (Value.slice A5 (D.length + 1) cap5).ownBlock ≠ some gS := by
                            rcases HA5.out with e | e
                            · rw [e]; exact HNE.out
                            · rw [e]; intro e2; injection e2 with e2; simp at e2; omega
                          have hd := hmA.said.grow (i := L) (D' := D ++ [dt]) rfl hLS (by simpa using HO5.out) HT5.out hu5
                          have hs5 := (HT5.out.mono (D := fun c => c = 30 + L ∨ c = 21) (fun c hc => .inl hc)).setCell (p := ⟨gS, L, none⟩) (.inr ((HT5.out.old gS (by simp; omega)).trans hoS)) (.slice A5 (D.length + 1) cap5)
                          have h9 := hmA.stepSaid hd hs5 (fun c hc => by omega)
                          have g9 := HLN.out.sendB dt (by omega) hr (by omega)
                          rw [HDE.out, Int.toNat_natCast] at g9
                          exact LvRel.intro_ h9 (g9.mono (Nat.le_refl _) (by omega) (by omega)) HAH.out HAY.out
                  · as_aux_lemma => -- @sb2
                      go_wp2_with fail
                      refine (send_full HOM1.out.two.sb dt (by omega) (by omega)).mono ?_
                      rintro e w4 ⟨rfl, n4, rfl⟩
                      go_wp2_with fail
                      go_meet
                      case rel => exact LvRel.intro_ (HOM1.out.drewN n4) (HLN.out.mono (by omega) (by omega) (by omega)) HAH.out HAY.out
                · have t2 : (kd == 2) = false := by simp [k2]
                  go_upto_region 44 with (fail)
                  go_cut [174] from 35 to 234 (fun v wx => v = .bool (decide (kd = 7 ∧ L < 20)) ∧ W = wx)
                  case first =>
                    as_aux_lemma => -- @c7
                      by_cases k7 : kd = 7
                      · subst k7
                        by_cases hl20 : L < 20
                        · have hl20I : (L : Int) < 20 := by omega
                          go_wp2_with fail
                          go_meet
                          case rel => exact ⟨by simp [hl20], rfl⟩
                        · have hl20I : ¬ (L : Int) < 20 := by omega
                          go_wp2_with fail
                          go_meet
                          case rel => exact ⟨by simp [hl20], rfl⟩
                      · have t7 : (kd == 7) = false := by simp [k7]
                        go_wp2_with fail
                        go_meet
                        case rel => exact ⟨by simp [k7], rfl⟩
                  case rest =>
                    obtain ⟨rfl, rfl⟩ := hcut
                    by_cases k7 : kd = 7 ∧ L < 20
                    · rw [decide_eq_true k7]
                      obtain ⟨_, hl20⟩ := k7
                      as_aux_lemma => -- @life
                        go_wp2_with fail
                        refine (snew_any o3 4 2 1 ((L : Int) + 1) _).mono ?_
                        rintro e w4 ⟨pb4, o4, rfl, hb, hbl4, hst4⟩
                        have HM4 := Lib.hid (HOM1.out.anew hb hst4 hbl4)
                        clear hb hst4 hbl4
                        obtain ⟨AS, capS, rfl, _, _⟩ := own_form HM4.out.said.outer
                        go_wp2_with (at_builtin; refine wpList_append_S _ rfl (.tmp 186) (.tmp 187) 42 rfl 27 i2 _ 1 24 Try.underlying42 hk0 hk1 hk2 hk3 rfl (by omega) (.slice AS S.length capS) S.length vs rfl (HM4.out.said.outer.alloc _) (some ⟨w4.heap.size, 0, none⟩) 1 1 [.slice none 0 0] rfl (Reads.newAt w4 27 1 1 [.slice none 0 0] #[.slice none 0 0] w4.heap.size rfl rfl rfl) (by simp [Value.oneCell']) (by unfold maxLen; omega) (by omega) ?_; intro v5 w5 hown5 hst5 hg5 hat5; have HO5 := Lib.hid hown5; have HST5 := Lib.hid hst5; clear hown5 hst5 hg5 hat5)
                        go_meet
                        case rel =>
                          have hm5 := HM4.out.alloc (.cells #[.slice none 0 0] 27)
                          have h9 := hm5.stepSaid (hm5.said.more HO5.out HST5.out) HST5.out (fun c hc => by unfold only at hc; omega)
                          exact LvRel.intro_ (L := L + 1) h9 ((HLN.out.anew (by omega)).mono (by omega) (by omega) (by omega)) HAH.out HAY.out
                    · rw [decide_eq_false k7]
                      clear k7
                      go_upto_region 48 with (fail)
                      go_cut [189] from 35 to 234 (fun v wx => v = .bool (decide (kd = 6 ∨ way.length = 0)) ∧ W = wx)
                      case first =>
                        as_aux_lemma => -- @c6
                          by_cases k6 : kd = 6
                          · subst k6
                            go_wp2_with fail
                            go_meet
                            case rel => exact ⟨by simp, rfl⟩
                          · have t6 : (kd == 6) = false := by simp [k6]
                            by_cases hw0 : way.length = 0
                            · have t0 : ((way.length : Int) == 0) = true := by rw [hw0]; rfl
                              have e0 : decide (kd = 6 ∨ way.length = 0) = true := decide_eq_true (.inr hw0)
                              have E0 := Lib.hid e0
                              clear hw0 e0 hq
                              go_wp2_with fail
                              go_meet
                              case rel => exact ⟨by rw [E0.out], rfl⟩
                            · have t0 : ((way.length : Int) == 0) = false := beq_eq_false_iff_ne.2 (by omega)
                              have e0 : decide (kd = 6 ∨ way.length = 0) = false := decide_eq_false (by omega)
                              have E0 := Lib.hid e0
                              clear hw0 e0 hq
                              go_wp2_with fail
                              go_meet
                              case rel => exact ⟨by rw [E0.out], rfl⟩
                      case rest =>
                        obtain ⟨rfl, rfl⟩ := hcut
                        by_cases k6 : kd = 6 ∨ way.length = 0
                        · rw [decide_eq_true k6]
                          clear k6
                          as_aux_lemma => -- @tick
                            have hage := HLN.out.wk.age
                            have hage2 := HLN.out.dir.snd.age
                            have HAGE := Lib.hid hage
                            have HAGE2 := Lib.hid hage2
                            clear hage hage2
                            have hlF := outF_le a.tickS (by simpa [St.tickS] using hroa)
                            have hlG := outF_le b.tickS (by simpa [St.tickS] using hrob)
                            go_wp2_with fail
                            refine (tick_as (d := 10) (F := a.tickS.outF) (s' := a.tickS.outS) HOM1.out.two.sa HOM1.out.two.fut (by omega) (by omega) (by omega) hroa (fun x hx => by have := HAGE.out x hx; omega) rfl rfl).mono ?_
                            rintro e w4 ⟨A4, cap4, o4, rfl, hl4, hcap4, hs4, hst4⟩
                            have HM4 := Lib.hid (HOM1.out.stepA hs4 hst4)
                            have HL4 := Lib.hid hl4
                            clear hs4 hst4 hl4
                            go_wp2_with (at_builtin; refine wpList_append_W _ rfl (.tmp 198) (.tmp 200) 26 rfl 34 i1 _ 8 72 Try.underlying26 hj0 hj1 hj2 hj3 rfl (by omega) (.slice Aw way.length capw) way.length (fcells way) rfl HM4.out.way A4 a.tickS.outF.length cap4 (fcells a.tickS.outF) rfl (Reads.of_own HL4.out.1) (fcells_one _) (by unfold maxLen; omega) (by omega) ?_; intro v5 w5 hown hst; have HOWN5 := Lib.hid hown; have HST5 := Lib.hid hst; clear hown hst)
                            have HM5 := Lib.hid (HM4.out.stepWay (v' := v5) (way' := way ++ a.tickS.outF) (by rw [fcells_app, List.length_append]; exact HOWN5.out) HST5.out)
                            refine (tick_as (d := 10) (F := b.tickS.outF) (s' := b.tickS.outS) HM5.out.two.sb HM5.out.two.fut (by omega) (by omega) (by omega) hrob (fun x hx => by have := HAGE2.out x hx; omega) rfl rfl).mono ?_
                            rintro e w6 ⟨A6, cap6, o6, rfl, hl6, hcap6, hs6, hst6⟩
                            have HM6 := Lib.hid (HM5.out.stepB hs6 hst6)
                            have HL6 := Lib.hid hl6
                            clear hs6 hst6 hl6
                            go_wp2_with (at_builtin; refine wpList_append_W _ rfl (.tmp 202) (.tmp 204) 26 rfl 34 i1 _ 8 72 Try.underlying26 hj0 hj1 hj2 hj3 rfl (by omega) v5 (way ++ a.tickS.outF).length (fcells (way ++ a.tickS.outF)) rfl HM6.out.way A6 b.tickS.outF.length cap6 (fcells b.tickS.outF) rfl (Reads.of_own HL6.out.1) (fcells_one _) (by rw [List.length_append]; unfold maxLen; omega) (by rw [List.length_append]; omega) ?_; intro v7 w7 hown hst; have HOWN7 := Lib.hid hown; have HST7 := Lib.hid hst; clear hown hst)
                            go_meet
                            case rel =>
                              have h9 := HM6.out.stepWay (v' := v7) (way' := way ++ a.tickS.outF ++ b.tickS.outF) (by rw [fcells_app, List.length_append]; exact HOWN7.out) HST7.out
                              exact LvRel.intro_ h9 (HLN.out.tickA.tickB.mono (by omega) (by omega) (by omega)) HAH.out HAY.out
                        · rw [decide_eq_false k6]
                          have hq' : q < way.length := by omega
                          clear k6 hq
                          obtain ⟨gw, offw, hAw, hgw, hcgw, hle, hcells⟩ := HOM1.out.way.open_ (by omega)
                          subst hAw
                          obtain ⟨f, hf⟩ : ∃ f, way[q]? = some f := ⟨_, List.getElem?_eq_getElem hq'⟩
                          have z0 := hcells _ _ (fcells_get hf (i := 0) rfl)
                          have z1 := hcells _ _ (fcells_get hf (i := 1) rfl)
                          have z2 := hcells _ _ (fcells_get hf (i := 2) rfl)
                          have z3 := hcells _ _ (fcells_get hf (i := 3) rfl)
                          have z4 := hcells _ _ (fcells_get hf (i := 4) rfl)
                          have z5 := hcells _ _ (fcells_get hf (i := 5) rfl)
                          have z6 := hcells _ _ (fcells_get hf (i := 6) rfl)
                          have z7 := hcells _ _ (fcells_get hf (i := 7) rfl)
                          rw [Nat.add_zero] at z0
                          rw [← Nat.add_assoc] at z1 z2 z3 z4 z5 z6 z7
                          have hqI : (q : Int) < (way.length : Int) := by omega
                          have hleI : (way.length : Int) ≤ (capw : Int) := by omega
                          have HF := Lib.hid hf
                          clear hf hcells
                          go_upto_region 51 with (fail)
                          go_cut [206] from 35 to 234 (fun v wx => v = .bool (decide (kd = 5 ∧ way.length < 200)) ∧ W = wx)
                          case first =>
                            as_aux_lemma => -- @c5
                              by_cases k5 : kd = 5
                              · subst k5
                                by_cases hl2 : way.length < 200
                                · have hl2I : (way.length : Int) < 200 := by omega
                                  go_wp2_with fail
                                  go_meet
                                  case rel => exact ⟨by simp [hl2], rfl⟩
                                · have hl2I : ¬ (way.length : Int) < 200 := by omega
                                  go_wp2_with fail
                                  go_meet
                                  case rel => exact ⟨by simp [hl2], rfl⟩
                              · have t5 : (kd == 5) = false := by simp [k5]
                                go_wp2_with fail
                                go_meet
                                case rel => exact ⟨by simp [k5], rfl⟩
                          case rest =>
                            obtain ⟨rfl, rfl⟩ := hcut
                            by_cases k5 : kd = 5 ∧ way.length < 200
                            · rw [decide_eq_true k5]
                              clear k5
                              focus -- @dup
                                go_upto_region 52 with (fail)
                                have HF1 := Lib.hid (frame_one f)
                                have HRN := Lib.hid (reads_frame W f)
                                have HWA := Lib.hid (HOM1.out.way.alloc (.cells #[.int .i64 f.From, .int .i64 f.To, .int .i64 f.Mine, .int .i64 f.Yours, .int .i64 f.Seq, .int .i64 f.Ack, .string f.Data, .bool f.Has] 34))
                                go_wp2_with (at_builtin; refine wpList_append_W _ rfl (.tmp 215) (.tmp 220) 26 rfl 34 i1 _ 8 72 Try.underlying26 hj0 hj1 hj2 hj3 rfl (by omega) (.slice (some ⟨gw, offw, none⟩) way.length capw) way.length (fcells way) rfl HWA.out (some ⟨W.heap.size, 0, none⟩) 1 1 f.cells rfl HRN.out HF1.out (by unfold maxLen; omega) (by omega) ?_; intro v5 w5 hown hst; have HOWN5 := Lib.hid hown; have HST5 := Lib.hid hst; clear hown hst)
                                go_meet
                                case rel =>
                                  have h9 := (HOM1.out.alloc (.cells #[.int .i64 f.From, .int .i64 f.To, .int .i64 f.Mine, .int .i64 f.Yours, .int .i64 f.Seq, .int .i64 f.Ack, .string f.Data, .bool f.Has] 34)).stepWay (v' := v5) (way' := way ++ [f]) (by have h8 := HOWN5.out; rw [fcells_snoc, List.length_append, List.length_singleton]; exact h8) HST5.out
                                  exact LvRel.intro_ h9 ((HLN.out.dup (List.mem_of_getElem? HF.out)).mono (by omega) (by omega) (by omega)) HAH.out HAY.out
                            · rw [decide_eq_false k5]
                              clear k5
                              by_cases k4 : kd = 4
                              · subst k4
                                as_aux_lemma => -- @rem
                                  clear z0 z1 z2 z3 z4 z5 z6 z7
                                  have hcq1 : (q : Int) + 1 ≤ (capw : Int) := by omega
                                  have hcq2 : q ≤ capw := by omega
                                  have hcq3 : q + 1 ≤ way.length := by omega
                                  have HTK := Lib.hid (Reads.take HOM1.out.way.reads.drew (k := q) (by omega))
                                  have HCT := Lib.hid (Reads.cutAt HOM1.out.way.reads.drew (k := q + 1) hcq3)
                                  have hcq4 : (q : Int) + 1 ≤ (way.length : Int) := by omega
                                  have hcq5 : (0 : Int) ≤ (q : Int) + 1 := by omega
                                  have htn : ((q : Int) + 1).toNat = q + 1 := by omega
                                  have hwr : IntKind.i64.wrap ((q : Int) + 1) = (q : Int) + 1 := IntWalk.i64_in _ (by omega)
                                  go_upto_region 54 with (fail)
                                  by_cases hcq : capw = q + 1
                                  · have hlq : way.length ≤ q + 1 := by omega
                                    have hcl : capw ≤ q + 1 := by omega
                                    have hclI : (capw : Int) ≤ (q : Int) + 1 := by omega
                                    clear hcq
                                    go_region_held3 (fun w' => w'.cell? ⟨B, 2, none⟩ = some (.string dt)) (first | exact x2 | exact KX2 | exact KX | go_keep) (first | (refine step_append_S _ rfl (.const (.slice none 0 0)) (.tmp 228) 26 rfl 34 i1 _ 8 72 Try.underlying26 hj0 hj1 hj2 hj3 rfl (by omega) (.slice none 0 0) 0 [] rfl (OwnS.nil o3 20 _ _ _) (some ⟨gw, offw, none⟩) q capw ((fcells way).take (q * 8)) rfl HTK.out (fun u hu => fcells_one way u (List.mem_of_mem_take hu)) (by unfold maxLen; omega) (by omega) ?_; intro v5 w5 hown5 hst5 hg5 hat5; have HO5 := Lib.hid hown5; have HG5 := Lib.hid hg5; have KX := (hg5.cell_far ⟨B, 2, none⟩ (by simpa using xB) (by simp [Value.ownBlock])).trans x2; clear hown5 hst5 hg5 hat5) | (refine step_append_S _ rfl (.tmp 229) (.tmp 233) 26 rfl 34 i1 _ 8 72 Try.underlying26 hj0 hj1 hj2 hj3 rfl (by omega) v5 (0 + q) ([] ++ (fcells way).take (q * 8)) rfl HO5.out _ _ _ [] rfl (Reads.zero _ _ _ (by omega)) (by simp) (by unfold maxLen; omega) (by omega) ?_; intro v6 w6 hown6 hst6 hg6 hat6; have KX2 := (World.cell?_of_block (a := ⟨B, 2, none⟩) (hst6.block B (Nat.lt_of_lt_of_le xB HG5.out.size) (by rw [band_lt (show B < W.drew.heap.size from xB), HOB.out]; unfold only; omega))).trans KX; have HO6 := Lib.hid hown6; have HST6 := Lib.hid hst6; clear hown6 hst6 hg6 hat6))
                                    go_wp2_with fail
                                    go_meet
                                    case rel => exact LvRel.intro_ (HOM1.out.removed2 HG5.out HO6.out HST6.out (by omega) (by omega)) ((HLN.out.sub without_mem (by have := without_len hq'; omega)).mono (by omega) (by omega) (by omega)) HAH.out HAY.out
                                  · go_region_held3 (fun w' => w'.cell? ⟨B, 2, none⟩ = some (.string dt)) (first | exact x2 | exact KX2 | exact KX | go_keep) (first | (refine step_append_S _ rfl (.const (.slice none 0 0)) (.tmp 228) 26 rfl 34 i1 _ 8 72 Try.underlying26 hj0 hj1 hj2 hj3 rfl (by omega) (.slice none 0 0) 0 [] rfl (OwnS.nil o3 20 _ _ _) (some ⟨gw, offw, none⟩) q capw ((fcells way).take (q * 8)) rfl HTK.out (fun u hu => fcells_one way u (List.mem_of_mem_take hu)) (by unfold maxLen; omega) (by omega) ?_; intro v5 w5 hown5 hst5 hg5 hat5; have HO5 := Lib.hid hown5; have HG5 := Lib.hid hg5; have KX := (hg5.cell_far ⟨B, 2, none⟩ (by simpa using xB) (by simp [Value.ownBlock])).trans x2; clear hown5 hst5 hg5 hat5) | (refine step_append_S _ rfl (.tmp 229) (.tmp 233) 26 rfl 34 i1 _ 8 72 Try.underlying26 hj0 hj1 hj2 hj3 rfl (by omega) v5 (0 + q) ([] ++ (fcells way).take (q * 8)) rfl HO5.out (some ⟨gw, offw + (q + 1) * 8, none⟩) (way.length - (q + 1)) (capw - (q + 1)) ((fcells way).drop ((q + 1) * 8)) rfl (HCT.out.grown0 (by omega) HG5.out) (fun u hu => fcells_one way u (List.mem_of_mem_drop hu)) (by unfold maxLen; omega) (by omega) ?_; intro v6 w6 hown6 hst6 hg6 hat6; have KX2 := (World.cell?_of_block (a := ⟨B, 2, none⟩) (hst6.block B (Nat.lt_of_lt_of_le xB HG5.out.size) (by rw [band_lt (show B < W.drew.heap.size from xB), HOB.out]; unfold only; omega))).trans KX; have HO6 := Lib.hid hown6; have HST6 := Lib.hid hst6; clear hown6 hst6 hg6 hat6))
                                    go_wp2_with fail
                                    go_meet
                                    case rel => exact LvRel.intro_ (HOM1.out.removed HG5.out HO6.out HST6.out hq') ((HLN.out.sub without_mem (by have := without_len hq'; omega)).mono (by omega) (by omega) (by omega)) HAH.out HAY.out
                              · have t4 : (kd == 4) = false := by simp [k4]
                                as_aux_lemma => -- @def
                                  go_upto_region 23 with (fail)
                                  have hom2 := HOM1.out.alloc (.cells #[.int .i64 f.From, .int .i64 f.To, .int .i64 f.Mine, .int .i64 f.Yours, .int .i64 f.Seq, .int .i64 f.Ack, .string f.Data, .bool f.Has] 34)
                                  have hbf : Bx o3 (W.alloc (.cells #[.int .i64 f.From, .int .i64 f.To, .int .i64 f.Mine, .int .i64 f.Yours, .int .i64 f.Seq, .int .i64 f.Ack, .string f.Data, .bool f.Has] 34)) W.heap.size f := ⟨Blk.new W _ _, HOM1.out.two.fut.at_⟩
                                  clear z0 z1 z2 z3 z4 z5 z6 z7 x0 x2
                                  generalize W.alloc (.cells #[.int .i64 f.From, .int .i64 f.To, .int .i64 f.Mine, .int .i64 f.Yours, .int .i64 f.Seq, .int .i64 f.Ack, .string f.Data, .bool f.Has] 34) = V at hom2 hbf ⊢
                                  generalize W.heap.size = BF at hbf hgw xB ⊢
                                  have HOMV := Lib.hid hom2
                                  have HBF := Lib.hid hbf
                                  clear hom2 hbf
                                  go_cut [6] from 35 to 234 (fun v wx => ∃ o5, Ov o5 w wx pa a pb b v (way.take q ++ way.drop (q + 1)) u7 S vs ∧ Bx o5 wx BF f)
                                  case first =>
                                    focus -- @rem2
                                      have x2F := HBF.out.1.cell 1
                                      simp at x2F
                                      have xF := HBF.out.1.lt
                                      have hcq1 : (q : Int) + 1 ≤ (capw : Int) := by omega
                                      have hcq2 : q ≤ capw := by omega
                                      have hcq3 : q + 1 ≤ way.length := by omega
                                      have HTK := Lib.hid (Reads.take HOMV.out.way.reads.drew (k := q) (by omega))
                                      have HCT := Lib.hid (Reads.cutAt HOMV.out.way.reads.drew (k := q + 1) hcq3)
                                      have hcq4 : (q : Int) + 1 ≤ (way.length : Int) := by omega
                                      have hcq5 : (0 : Int) ≤ (q : Int) + 1 := by omega
                                      have htn : ((q : Int) + 1).toNat = q + 1 := by omega
                                      have hwr : IntKind.i64.wrap ((q : Int) + 1) = (q : Int) + 1 := IntWalk.i64_in _ (by omega)
                                      by_cases hcq : capw = q + 1
                                      · have hlq : way.length ≤ q + 1 := by omega
                                        have hcl : capw ≤ q + 1 := by omega
                                        have hclI : (capw : Int) ≤ (q : Int) + 1 := by omega
                                        clear hcq
                                        go_region_held3 (fun w' => w'.cell? ⟨BF, 1, none⟩ = some (.int .i64 f.To)) (first | exact x2F | exact KX2 | exact KX | go_keep) (first | (refine step_append_S _ rfl (.const (.slice none 0 0)) (.tmp 69) 26 rfl 34 i1 _ 8 72 Try.underlying26 hj0 hj1 hj2 hj3 rfl (by omega) (.slice none 0 0) 0 [] rfl (OwnS.nil o3 20 _ _ _) (some ⟨gw, offw, none⟩) q capw ((fcells way).take (q * 8)) rfl HTK.out (fun u hu => fcells_one way u (List.mem_of_mem_take hu)) (by unfold maxLen; omega) (by omega) ?_; intro v5 w5 hown5 hst5 hg5 hat5; have HO5 := Lib.hid hown5; have HG5 := Lib.hid hg5; have KX := (hg5.cell_far ⟨BF, 1, none⟩ (by simpa using xF) (by simp [Value.ownBlock])).trans x2F; clear hown5 hst5 hg5 hat5) | (refine step_append_S _ rfl (.tmp 70) (.tmp 74) 26 rfl 34 i1 _ 8 72 Try.underlying26 hj0 hj1 hj2 hj3 rfl (by omega) v5 (0 + q) ([] ++ (fcells way).take (q * 8)) rfl HO5.out _ _ _ [] rfl (Reads.zero _ _ _ (by omega)) (by simp) (by unfold maxLen; omega) (by omega) ?_; intro v6 w6 hown6 hst6 hg6 hat6; have KX2 := (World.cell?_of_block (a := ⟨BF, 1, none⟩) (hst6.block BF (Nat.lt_of_lt_of_le xF HG5.out.size) (by rw [band_lt (show BF < V.drew.heap.size from xF), HBF.out.2]; unfold only; omega))).trans KX; have HO6 := Lib.hid hown6; have HST6 := Lib.hid hst6; clear hown6 hst6 hg6 hat6))
                                        go_wp2_with fail
                                        go_meet
                                        case rel => exact ⟨_, (HOMV.out.removed2 HG5.out HO6.out HST6.out (by omega) (by omega)), HBF.out.1.after HG5.out HST6.out HBF.out.2⟩
                                      · go_region_held3 (fun w' => w'.cell? ⟨BF, 1, none⟩ = some (.int .i64 f.To)) (first | exact x2F | exact KX2 | exact KX | go_keep) (first | (refine step_append_S _ rfl (.const (.slice none 0 0)) (.tmp 69) 26 rfl 34 i1 _ 8 72 Try.underlying26 hj0 hj1 hj2 hj3 rfl (by omega) (.slice none 0 0) 0 [] rfl (OwnS.nil o3 20 _ _ _) (some ⟨gw, offw, none⟩) q capw ((fcells way).take (q * 8)) rfl HTK.out (fun u hu => fcells_one way u (List.mem_of_mem_take hu)) (by unfold maxLen; omega) (by omega) ?_; intro v5 w5 hown5 hst5 hg5 hat5; have HO5 := Lib.hid hown5; have HG5 := Lib.hid hg5; have KX := (hg5.cell_far ⟨BF, 1, none⟩ (by simpa using xF) (by simp [Value.ownBlock])).trans x2F; clear hown5 hst5 hg5 hat5) | (refine step_append_S _ rfl (.tmp 70) (.tmp 74) 26 rfl 34 i1 _ 8 72 Try.underlying26 hj0 hj1 hj2 hj3 rfl (by omega) v5 (0 + q) ([] ++ (fcells way).take (q * 8)) rfl HO5.out (some ⟨gw, offw + (q + 1) * 8, none⟩) (way.length - (q + 1)) (capw - (q + 1)) ((fcells way).drop ((q + 1) * 8)) rfl (HCT.out.grown0 (by omega) HG5.out) (fun u hu => fcells_one way u (List.mem_of_mem_drop hu)) (by unfold maxLen; omega) (by omega) ?_; intro v6 w6 hown6 hst6 hg6 hat6; have KX2 := (World.cell?_of_block (a := ⟨BF, 1, none⟩) (hst6.block BF (Nat.lt_of_lt_of_le xF HG5.out.size) (by rw [band_lt (show BF < V.drew.heap.size from xF), HBF.out.2]; unfold only; omega))).trans KX; have HO6 := Lib.hid hown6; have HST6 := Lib.hid hst6; clear hown6 hst6 hg6 hat6))
                                        go_wp2_with fail
                                        go_meet
                                        case rel => exact ⟨_, (HOMV.out.removed HG5.out HO6.out HST6.out hq'), HBF.out.1.after HG5.out HST6.out HBF.out.2⟩
                                  case rest =>
                                    obtain ⟨o5, hom2, hbf⟩ := hcut
                                    have x0 := hbf.1.cell 0
                                    have x1 := hbf.1.cell 1
                                    have x2 := hbf.1.cell 2
                                    have x3 := hbf.1.cell 3
                                    have x4 := hbf.1.cell 4
                                    have x5 := hbf.1.cell 5
                                    have x6 := hbf.1.cell 6
                                    have x7 := hbf.1.cell 7
                                    simp at x0 x1 x2 x3 x4 x5 x6 x7
                                    obtain ⟨A6, cap6, rfl, _, _⟩ := hom2.way.form
                                    have HOM2 := Lib.hid hom2
                                    have HBF2 := Lib.hid hbf
                                    have hmem : f ∈ way := List.mem_of_getElem? HF.out
                                    have hrl : (way.take q ++ way.drop (q + 1)).length + 1 = way.length := without_len hq'
                                    have hrm : ∀ g ∈ way.take q ++ way.drop (q + 1), g ∈ way := without_mem
                                    clear hom2 hbf
                                    generalize way.take q ++ way.drop (q + 1) = rest at HOM2 hrl hrm
                                    by_cases ht : f.To = 1
                                    · have t1 : (f.To == 2) = false := by rw [ht]; rfl
                                      as_aux_lemma => -- @da
                                        have hT := HLN.out.okA' hmem ht
                                        have hmid := HLN.out.midA hmem ht hrm
                                        have g1 := HLN.out.takeA hmem ht hrm hrl
                                        obtain ⟨T, s1, hts⟩ : ∃ T s', a.takeL f = (T, s') := ⟨_, _, rfl⟩
                                        simp only [hts] at hmid g1
                                        have hro := hmid.wk.room
                                        have hoF := outF_le s1 hro
                                        obtain ⟨y1, n0, hn1, hn2, hn3, hn4, hn5, hn6⟩ := hmid.nums (HLN.out.frA hmem ht).1 HAY.out HAH.out
                                        have hrc := hmid.rcv.all.h1
                                        rw [hn1, hn2] at hrc
                                        have hsn := (HLN.out.sdn y1).1
                                        have hy1L : (y1 : Int) ≤ L := by have h9 := g1.ap; rw [show s1.outS.yours = s1.yours from rfl, hn1] at h9; exact h9
                                        have G1 := Lib.hid g1
                                        have HTS := Lib.hid hts
                                        have HT := Lib.hid hT
                                        have N1 := Lib.hid hn1
                                        have N2 := Lib.hid hn2
                                        have N3 := Lib.hid hn3
                                        have N5 := Lib.hid hn5
                                        have N6 := Lib.hid hn6
                                        clear g1 hts hmem ht hrm hT hmid hn1 hn2 hn3 hn5 hn6
                                        go_wp2_with fail
                                        refine (take_l (d := 11) (f := f) (T := T) (s' := s1) HOM2.out.two.sa HOM2.out.two.fut (by omega) (by omega) (by omega) hroa HT.out HTS.out).mono ?_
                                        rintro e w8 ⟨A8, cap8, ok8, o8, rfl, hl8, hcap8, hs8, hst8⟩
                                        have HM8 := Lib.hid (HOM2.out.stepA hs8 hst8)
                                        have HL8 := Lib.hid hl8
                                        have HX8 := Lib.hid (HBF2.out.step hst8 (by unfold trio; omega))
                                        clear hs8 hst8 hl8 x0 x1 x2 x3 x4 x5 x6 x7
                                        go_wp2_with fail
                                        refine (out_as (d := 10) (F := s1.outF) (s' := s1.outS) HM8.out.two.sa HM8.out.two.fut (by omega) (by omega) (by omega) hro rfl rfl).mono ?_
                                        rintro e w10 ⟨A10, cap10, o10, rfl, hl10, hcap10, hs10, hst10⟩
                                        have HM10 := Lib.hid (HM8.out.stepA hs10 hst10)
                                        have HL10 := Lib.hid hl10
                                        have HX10 := Lib.hid (HX8.out.step hst10 (by unfold trio; omega))
                                        have HT10 := Lib.hid (HL8.out.step hst10 (by unfold trio; omega))
                                        clear hs10 hst10 hl10
                                        go_wp2_with (at_builtin; refine wpList_append_W _ rfl (.tmp 92) (.tmp 94) 26 rfl 34 i1 _ 8 72 Try.underlying26 hj0 hj1 hj2 hj3 rfl (by omega) (.slice A6 rest.length cap6) rest.length (fcells rest) rfl HM10.out.way A10 s1.outF.length cap10 (fcells s1.outF) rfl (Reads.of_own HL10.out.1) (fcells_one _) (by unfold maxLen; omega) (by omega) ?_; intro v11 w11 hown hst; have HO11 := Lib.hid hown; have HST11 := Lib.hid hst; clear hown hst)
                                        have HM11 := Lib.hid (HM10.out.stepWay (v' := v11) (way' := rest ++ s1.outF) (by rw [fcells_app, List.length_append]; exact HO11.out) HST11.out)
                                        have HX11 := Lib.hid (HX10.out.step HST11.out (by unfold only; omega))
                                        have HT11 := Lib.hid (HT10.out.step HST11.out (by unfold only; omega))
                                        have hlf := life_any HM11.out.two.sa
                                        rw [show s1.outS.yours = (y1 : Int) from N1.out] at hlf
                                        have HLF := Lib.hid hlf
                                        clear hlf
                                        refine HLF.out.mono ?_
                                        rintro e w12 ⟨rfl, rfl⟩
                                        go_upto_if 99 with (fail)
                                        go_cut [8, 9] from 35 to 234 (fun t8 t9 wx => t8 = .int .i64 n0 ∧ t9 = .int .i64 y1 ∧ w11 = wx)
                                        case first =>
                                          by_cases hgt : (y : Int) < (y1 : Int)
                                          · have e0 : n0 = 0 := by have := N3.out; rw [if_pos hgt] at this; omega
                                            subst e0
                                            go_wp2_with fail
                                            refine HLF.out.mono ?_
                                            rintro e w12 ⟨rfl, rfl⟩
                                            go_wp2_with fail
                                            go_meet
                                            case rel => exact ⟨rfl, rfl, rfl⟩
                                          · have e0 : n0 = h := by have := N3.out; rw [if_neg hgt] at this; omega
                                            have e1 : y1 = y := by omega
                                            subst e0 e1
                                            go_wp2_with fail
                                            go_meet
                                            case rel => exact ⟨rfl, rfl, rfl⟩
                                        case rest =>
                                          obtain ⟨rfl, rfl, rfl⟩ := hcut
                                          have q1 : ¬ (y1 : Int) < (y1 : Int) := by omega
                                          have q2 : ¬ (L : Int) < (y1 : Int) := by omega
                                          go_wp2_with fail
                                          refine HLF.out.mono ?_
                                          rintro e w12 ⟨rfl, rfl⟩
                                          obtain ⟨gS, capS, Au, cu, uu, D, rfl, hS1, hgS, hoS, hvu, hSD, rfl, hDc, hcS⟩ := HM11.out.said.at_ (i := y1) (by omega)
                                          have hDe : sd S y1 = D := by unfold sd; rw [Int.toNat_natCast, List.getD_eq_getElem?_getD, hSD]; rfl
                                          have HIN := Lib.hid (HM11.out.said.inner y1 _ D hvu hSD)
                                          have N6D := N6.out
                                          rw [hDe] at N6D hrc hsn
                                          have N6' := Lib.hid N6D
                                          have hxc := HX11.out.1.cell 2
                                          simp at hxc
                                          have hySI : (y1 : Int) < (S.length : Int) := by omega
                                          have hy10 : (0 : Int) ≤ (y1 : Int) := by omega
                                          clear hSl
                                          have hScI : (S.length : Int) ≤ (capS : Int) := by omega
                                          clear hvu hSD hDe N6 N6D
                                          go_wp2_with fail
                                          go_loopg [8, 16] T.length (fun n t8 t16 wr => ∃ j nd m : Nat, n + j = T.length ∧ m = n0 + j ∧ t8 = .int .i64 m ∧ t16 = .int .i64 j ∧ wr = w11.drewN nd)
                                          case atStart => exact ⟨0, 0, n0, by omega, rfl, rfl, rfl, rfl⟩
                                          case round =>
                                            obtain ⟨j, nd, m, hj, hm, rfl, rfl, rfl⟩ := hrel
                                            by_cases hjl : j < T.length
                                            · have hjI : (j : Int) < (T.length : Int) := by omega
                                              obtain ⟨dj, hdj⟩ : ∃ d, T[j]? = some d := ⟨_, List.getElem?_eq_getElem hjl⟩
                                              have hD2 := N6'.out j dj hdj
                                              rw [← hm] at hD2
                                              have hfm : f.Mine = (y1 : Int) := N5.out (by intro h9; rw [h9] at hjl; simp at hjl)
                                              obtain ⟨gT, rfl, _, _⟩ := HT11.out.addr (by omega)
                                              obtain ⟨gu, rfl, _, _⟩ := HIN.out.addr (by omega)
                                              have c1 := HT11.out.at_ (j := j) (u := .string dj) (by rw [List.getElem?_map, hdj]; rfl)
                                              have c2 := HIN.out.at_ (j := m) (u := .string dj) (by rw [List.getElem?_map, hD2]; rfl)
                                              have c3 : w11.cell? ⟨BF, 2, none⟩ = some (.int .i64 (y1 : Int)) := by rw [← hfm]; exact hxc
                                              have hmD : m < D.length := (by have h8 := (List.getElem?_eq_some_iff.1 hD2).1; exact h8)
                                              have hlD : (m : Int) < (D.length : Int) := by omega
                                              have hlDd : decide ((D.length : Int) ≤ (m : Int)) = false := decide_eq_false (by omega)
                                              have hlDn : decide (D.length ≤ m) = false := decide_eq_false (by omega)
                                              have hlDg : decide ((m : Int) ≥ (D.length : Int)) = false := decide_eq_false (by omega)
                                              have hm0 : (0 : Int) ≤ (m : Int) := by omega
                                              have hj0' : (0 : Int) ≤ (j : Int) := by omega
                                              have HM := Lib.hid hm
                                              have HJ := Lib.hid hj
                                              have hlc : (T.length : Int) ≤ (cap8 : Int) := by omega
                                              have hld : (D.length : Int) ≤ (cu : Int) := by omega
                                              clear hdj hD2 hfm hxc hm hmD hj
                                              go_wp2_with fail
                                              go_quiet (fail)
                                              go_wp2_with fail
                                              go_roundg (T.length - (j + 1))
                                              case measure => have := HJ.out; omega
                                              case rel => exact ⟨j + 1, _, m + 1, by have := HJ.out; omega, by have := HM.out; omega, by go_num, by go_num, rfl⟩
                                            · have hjI : ¬ (j : Int) < (T.length : Int) := by omega
                                              obtain rfl : j = T.length := by omega
                                              subst hm
                                              go_wp2_with fail
                                              go_meet
                                              case rel => exact LvRel.intro_ (HM11.out.drewN nd) (G1.out.mono (by omega) (by omega) (by omega)) N2.out N1.out
                                    · have t1 : (f.To == 2) = true := by rw [(HLN.out.toB f hmem ht).1]; rfl
                                      as_aux_lemma => -- @db
                                        have hT := HLN.out.okB hmem ht
                                        have g1 := HLN.out.takeB hmem ht hrm hrl
                                        rw [← HLN.out.takeLB hmem ht] at g1
                                        obtain ⟨T, s1, hts⟩ : ∃ T s', b.takeL f = (T, s') := ⟨_, _, rfl⟩
                                        simp only [hts] at g1
                                        have hro : s1.out.length ≤ 64 := by have h9 := g1.dir.snd.room; simpa [St.outS] using h9
                                        have hoF := outF_le s1 hro
                                        have G1 := Lib.hid g1
                                        have HTS := Lib.hid hts
                                        have HT := Lib.hid hT
                                        clear g1 hts hmem ht hrm hT
                                        go_wp2_with fail
                                        refine (take_l (d := 11) (f := f) (T := T) (s' := s1) HOM2.out.two.sb HOM2.out.two.fut (by omega) (by omega) (by omega) hrob HT.out HTS.out).mono ?_
                                        rintro e w8 ⟨A8, cap8, ok8, o8, rfl, hl8, hcap8, hs8, hst8⟩
                                        have HM8 := Lib.hid (HOM2.out.stepB hs8 hst8)
                                        clear hs8 hst8 hl8 x0 x1 x2 x3 x4 x5 x6 x7
                                        go_wp2_with fail
                                        refine (out_as (d := 10) (F := s1.outF) (s' := s1.outS) HM8.out.two.sb HM8.out.two.fut (by omega) (by omega) (by omega) hro rfl rfl).mono ?_
                                        rintro e w10 ⟨A10, cap10, o10, rfl, hl10, hcap10, hs10, hst10⟩
                                        have HM10 := Lib.hid (HM8.out.stepB hs10 hst10)
                                        have HL10 := Lib.hid hl10
                                        clear hs10 hst10 hl10
                                        go_wp2_with (at_builtin; refine wpList_append_W _ rfl (.tmp 82) (.tmp 84) 26 rfl 34 i1 _ 8 72 Try.underlying26 hj0 hj1 hj2 hj3 rfl (by omega) (.slice A6 rest.length cap6) rest.length (fcells rest) rfl HM10.out.way A10 s1.outF.length cap10 (fcells s1.outF) rfl (Reads.of_own HL10.out.1) (fcells_one _) (by unfold maxLen; omega) (by omega) ?_; intro v11 w11 hown hst; have HO11 := Lib.hid hown; have HST11 := Lib.hid hst; clear hown hst)
                                        have HM11 := Lib.hid (HM10.out.stepWay (v' := v11) (way' := rest ++ s1.outF) (by rw [fcells_app, List.length_append]; exact HO11.out) HST11.out)
                                        go_meet
                                        case rel => exact LvRel.intro_ HM11.out (G1.out.mono (by omega) (by omega) (by omega)) HAH.out HAY.out
      · as_aux_lemma => -- @calm
          have hltI : ¬ (k : Int) < (l.length : Int) := by omega
          have hL2 := hln.L2
          have hL1 := hln.L1
          have hSl := hln.len
          have hrel0 : Lv L a b way S 120 18432 := hln.mono (by omega) (by omega) (by omega)
          have HOM := Lib.hid hom
          have HLN := Lib.hid hrel0
          have HAH := Lib.hid hah
          have HAY := Lib.hid hay
          clear hom hln hrel0 hnk hah hay
          obtain ⟨gS, capS, Al, cl, ul, Dl, rfl, hS1, hgS, hoS, hvl, hSDl, rfl, hDcl, hcSl⟩ := HOM.out.said.at_ (i := L) (by omega)
          clear hgS hoS hcSl
          have hDle : sd S L = Dl := by unfold sd; rw [Int.toNat_natCast, List.getD_eq_getElem?_getD, hSDl]; rfl
          have HDL := Lib.hid hDle
          have HVL := Lib.hid hvl
          have HSDL := Lib.hid hSDl
          clear hDle hvl hSDl
          have hScI : (S.length : Int) ≤ (capS : Int) := by omega
          go_wp2_with fail
          go_loopg [6, 8, 9, 17] 60 (fun n t6 t8 t9 t17 wr => ∃ (o : Nat → Nat) (j y h : Nat) (a b : St) (way : List Fr), n + j = 60 ∧ t17 = .int .i64 j ∧ t8 = .int .i64 h ∧ t9 = .int .i64 y ∧ Ov o w wr pa a pb b t6 way (.slice (some ⟨gS, 0, none⟩) S.length capS) S vs ∧ Lv L a b way S 120 18432 ∧ J j b a way ∧ (j = 0 ∨ way = []) ∧ a.heard = h ∧ a.yours = y)
          case atStart => exact ⟨o3, 0, y, h, a, b, way, by omega, rfl, rfl, rfl, HOM.out, HLN.out, J.start HLN.out.dir.snd, .inl rfl, HAH.out, HAY.out⟩
          case round =>
            clear HOM HLN HAH HAY
            obtain ⟨o3, j, y, h, a, b, way, hnj, rfl, rfl, rfl, hom, hln, hcalm, hz0', hah, hay⟩ := hrel
            have HNJ := Lib.hid hnj
            have HZ0 := Lib.hid hz0'
            obtain ⟨Aw, capw, rfl, _, hcw⟩ := hom.way.form
            have hwl : way.length ≤ 5000 := by have := hln.way_le; omega
            have hroa : a.out.length ≤ 64 := hln.wk.room
            have hrob : b.out.length ≤ 64 := hln.dir.snd.room
            have HOM1 := Lib.hid hom
            have HLN := Lib.hid hln
            have HCA := Lib.hid hcalm
            have HAH := Lib.hid hah
            have HAY := Lib.hid hay
            clear hom hln hcalm hnj hz0' hah hay
            unfold maxLen at hcw
            by_cases hj : j < 60
            · have hjI : (j : Int) < 60 := by omega
              have HAGE := Lib.hid HLN.out.wk.age
              have HAGE2 := Lib.hid HLN.out.dir.snd.age
              have hlF := outF_le a.tickS (by simpa [St.tickS] using hroa)
              have hlG := outF_le b.tickS (by simpa [St.tickS] using hrob)
              go_wp2_with fail
              refine (tick_as (d := 10) (F := a.tickS.outF) (s' := a.tickS.outS) HOM1.out.two.sa HOM1.out.two.fut (by omega) (by omega) (by omega) hroa (fun x hx => by have := HAGE.out x hx; omega) rfl rfl).mono ?_
              rintro e w4 ⟨A4, cap4, o4, rfl, hl4, hcap4, hs4, hst4⟩
              have HM4 := Lib.hid (HOM1.out.stepA hs4 hst4)
              have HL4 := Lib.hid hl4
              clear hs4 hst4 hl4
              go_wp2_with (at_builtin; refine wpList_append_W _ rfl (.tmp 239) (.tmp 241) 26 rfl 34 i1 _ 8 72 Try.underlying26 hj0 hj1 hj2 hj3 rfl (by omega) (.slice Aw way.length capw) way.length (fcells way) rfl HM4.out.way A4 a.tickS.outF.length cap4 (fcells a.tickS.outF) rfl (Reads.of_own HL4.out.1) (fcells_one _) (by unfold maxLen; omega) (by omega) ?_; intro v5 w5 hown hst; have HOWN5 := Lib.hid hown; have HST5 := Lib.hid hst; clear hown hst)
              have HM5 := Lib.hid (HM4.out.stepWay (v' := v5) (way' := way ++ a.tickS.outF) (by rw [fcells_app, List.length_append]; exact HOWN5.out) HST5.out)
              refine (tick_as (d := 10) (F := b.tickS.outF) (s' := b.tickS.outS) HM5.out.two.sb HM5.out.two.fut (by omega) (by omega) (by omega) hrob (fun x hx => by have := HAGE2.out x hx; omega) rfl rfl).mono ?_
              rintro e w6 ⟨A6, cap6, o6, rfl, hl6, hcap6, hs6, hst6⟩
              have HM6 := Lib.hid (HM5.out.stepB hs6 hst6)
              have HL6 := Lib.hid hl6
              clear hs6 hst6 hl6
              go_wp2_with (at_builtin; refine wpList_append_W _ rfl (.tmp 243) (.tmp 245) 26 rfl 34 i1 _ 8 72 Try.underlying26 hj0 hj1 hj2 hj3 rfl (by omega) v5 (way ++ a.tickS.outF).length (fcells (way ++ a.tickS.outF)) rfl HM6.out.way A6 b.tickS.outF.length cap6 (fcells b.tickS.outF) rfl (Reads.of_own HL6.out.1) (fcells_one _) (by rw [List.length_append]; unfold maxLen; omega) (by rw [List.length_append]; omega) ?_; intro v7 w7 hown hst; have HOWN7 := Lib.hid hown; have HST7 := Lib.hid hst; clear hown hst)
              have h9 := HM6.out.stepWay (v' := v7) (way' := way ++ a.tickS.outF ++ b.tickS.outF) (by rw [fcells_app, List.length_append]; exact HOWN7.out) HST7.out
              have g9 : Lv L a.tickS.outS b.tickS.outS (way ++ a.tickS.outF ++ b.tickS.outF) S 120 18560 := HLN.out.tickA.tickB.mono (Nat.le_refl _) (by omega) (by omega)
              have H9 := Lib.hid h9
              have G9 := Lib.hid g9
              have G8 := Lib.hid (HLN.out.jTick HCA.out)
              clear h9 g9
              go_loopg [6, 8, 9] (left2 L a.tickS.outS b.tickS.outS (way ++ a.tickS.outF ++ b.tickS.outF)) (fun n t6 t8 t9 wr => ∃ (o : Nat → Nat) (y h : Nat) (a b : St) (way : List Fr), n = left2 L a b way ∧ t8 = .int .i64 h ∧ t9 = .int .i64 y ∧ Ov o w wr pa a pb b t6 way (.slice (some ⟨gS, 0, none⟩) S.length capS) S vs ∧ Lv L a b way S 120 18560 ∧ J (j + 1) b a way ∧ a.heard = h ∧ a.yours = y)
              case atStart => exact ⟨_, y, h, _, _, _, rfl, rfl, rfl, H9.out, G9.out, G8.out, HAH.out, HAY.out⟩
              case round =>
                clear HM4 HL4 HOWN5 HST5 HM5 HM6 HL6 HOWN7 HST7 H9 G9 G8 HOM1 HLN HCA HAGE HAGE2 hlF hlG hwl hroa hrob hcw HAH HAY
                obtain ⟨o3, y, h, a, b, way, hnl, rfl, rfl, hom, hln, hcalm, hah, hay⟩ := hrel
                obtain ⟨Aw, capw, rfl, hcw0, hcw⟩ := hom.way.form
                unfold maxLen at hcw
                have hwl : 4 * way.length ≤ 18560 := hln.way_le
                have hroa : a.out.length ≤ 64 := hln.wk.room
                have hrob : b.out.length ≤ 64 := hln.dir.snd.room
                have HNL := Lib.hid hnl
                have HOM := Lib.hid hom
                have HLN := Lib.hid hln
                have HCA := Lib.hid hcalm
                have HAH := Lib.hid hah
                have HAY := Lib.hid hay
                clear hnl hom hln hcalm hah hay
                by_cases hw0 : 0 < way.length
                · have hw0I : (0 : Int) < (way.length : Int) := by omega
                  have hw5I : (way.length : Int) < 5000 := by omega
                  have hleI : (way.length : Int) ≤ (capw : Int) := by omega
                  obtain ⟨gw, offw, hAw, hgw, hcgw, hle, hcells⟩ := HOM.out.way.open_ hw0
                  subst hAw
                  obtain ⟨f, hf⟩ : ∃ f, way[0]? = some f := ⟨_, List.getElem?_eq_getElem hw0⟩
                  have hcons : way = f :: way.drop 1 := by
                    cases way with
                    | nil => simp at hw0
                    | cons g r => simp at hf; subst hf; rfl
                  have z0 := hcells _ _ (fcells_get hf (i := 0) rfl)
                  have z1 := hcells _ _ (fcells_get hf (i := 1) rfl)
                  have z2 := hcells _ _ (fcells_get hf (i := 2) rfl)
                  have z3 := hcells _ _ (fcells_get hf (i := 3) rfl)
                  have z4 := hcells _ _ (fcells_get hf (i := 4) rfl)
                  have z5 := hcells _ _ (fcells_get hf (i := 5) rfl)
                  have z6 := hcells _ _ (fcells_get hf (i := 6) rfl)
                  have z7 := hcells _ _ (fcells_get hf (i := 7) rfl)
                  simp only [Nat.zero_mul, Nat.zero_add, Nat.add_zero] at z0 z1 z2 z3 z4 z5 z6 z7
                  have hrl : (way.drop 1).length + 1 = way.length := by rw [List.length_drop]; omega
                  have hfc : fcells (way.drop 1) = (fcells way).drop 8 := (fcells_drop way 1).symm
                  have HFC := Lib.hid hfc
                  have gln : Lv L a b (f :: way.drop 1) S 120 18560 := by rw [← hcons]; exact HLN.out
                  have gca : J (j + 1) b a (f :: way.drop 1) := by rw [← hcons]; exact HCA.out
                  have glt : left2 L a b (f :: way.drop 1) = left2 L a b way := by rw [← hcons]
                  have GLN := Lib.hid gln
                  have GCA := Lib.hid gca
                  have GLT := Lib.hid glt
                  clear hf hcells hfc gln gca glt hcons
                  go_upto_region 62 with (fail)
                  clear z0 z1 z2 z3 z4 z5 z6 z7
                  have hom1 := HOM.out.alloc (.cells #[.int .i64 f.From, .int .i64 f.To, .int .i64 f.Mine, .int .i64 f.Yours, .int .i64 f.Seq, .int .i64 f.Ack, .string f.Data, .bool f.Has] 34)
                  have hbx : Bx o3 (wr.alloc (.cells #[.int .i64 f.From, .int .i64 f.To, .int .i64 f.Mine, .int .i64 f.Yours, .int .i64 f.Seq, .int .i64 f.Ack, .string f.Data, .bool f.Has] 34)) wr.heap.size f := ⟨Blk.new wr _ _, HOM.out.two.fut.at_⟩
                  generalize wr.alloc (.cells #[.int .i64 f.From, .int .i64 f.To, .int .i64 f.Mine, .int .i64 f.Yours, .int .i64 f.Seq, .int .i64 f.Ack, .string f.Data, .bool f.Has] 34) = W at hom1 hbx ⊢
                  generalize wr.heap.size = BF at hbx hgw ⊢
                  have x0 := hbx.1.cell 0
                  have x1 := hbx.1.cell 1
                  have x2 := hbx.1.cell 2
                  have x3 := hbx.1.cell 3
                  have x4 := hbx.1.cell 4
                  have x5 := hbx.1.cell 5
                  have x6 := hbx.1.cell 6
                  have x7 := hbx.1.cell 7
                  simp at x0 x1 x2 x3 x4 x5 x6 x7
                  have HOM1 := Lib.hid hom1
                  clear hom1 hbx
                  go_cut [6] from 247 to 314 (fun v wx => OwnW o3 20 wx 34 8 v (way.length - 1) ((fcells way).drop 8) ∧ W = wx)
                  case first =>
                    as_aux_lemma => -- @tl
                      have hown := OwnW.tail HOM1.out.way hw0
                      by_cases hc1 : capw = 1
                      · rw [if_pos hc1] at hown
                        subst hc1
                        have e0 : way.length - 1 = 0 := by omega
                        have hown2 : OwnW o3 20 W 34 8 (.slice (some ⟨gw, offw, none⟩) 0 0) (way.length - 1) ((fcells way).drop 8) := by
                          rw [e0] at hown ⊢
                          exact hown
                        have HO := Lib.hid hown2
                        clear hown hown2 e0 x0 x1 x2 x3 x4 x5 x6 x7
                        go_wp2_with fail
                        go_meet
                        case rel => exact ⟨HO.out, rfl⟩
                      · rw [if_neg hc1] at hown
                        have HO := Lib.hid hown
                        clear hown x0 x1 x2 x3 x4 x5 x6 x7
                        go_wp2_with fail
                        go_meet
                        case rel => exact ⟨HO.out, rfl⟩
                  case rest =>
                    obtain ⟨hv6, rfl⟩ := hcut
                    have hom2 : Ov o3 w W pa a pb b u6 (way.drop 1) (.slice (some ⟨gS, 0, none⟩) S.length capS) S vs :=
                      HOM1.out.stepWay (by rw [List.length_drop, HFC.out]; exact hv6) ((Step.refl o3 (only 20) W))
                    obtain ⟨A6, cap6, rfl, _, _⟩ := hom2.way.form
                    have HOM2 := Lib.hid hom2
                    clear hom2 hv6
                    generalize hrest : way.drop 1 = rest at HOM2 GLN GCA GLT hrl
                    clear hrest
                    have hmem : f ∈ f :: rest := List.mem_cons_self ..
                    have hrm : ∀ g ∈ rest, g ∈ f :: rest := fun g hg => List.mem_cons_of_mem _ hg
                    by_cases ht : f.To = 1
                    · have t1 : (f.To == 2) = false := by rw [ht]; rfl
                      as_aux_lemma => -- @ca
                        have hT := GLN.out.okA' hmem ht
                        have hmid := GLN.out.midA (rest := rest) hmem ht hrm
                        have g1 := GLN.out.takeA (rest := rest) hmem ht hrm rfl
                        have g2 := GLN.out.jA GCA.out ht
                        have g3 := hmid.left GLN.out ht
                        obtain ⟨T, s1, hts⟩ : ∃ T s', a.takeL f = (T, s') := ⟨_, _, rfl⟩
                        simp only [hts] at hmid g1 g2 g3
                        have hro := hmid.wk.room
                        have hoF := outF_le s1 hro
                        obtain ⟨y1, n0, hn1, hn2, hn3, hn4, hn5, hn6⟩ := hmid.nums (GLN.out.frA hmem ht).1 HAY.out HAH.out
                        have hrc := hmid.rcv.all.h1
                        rw [hn1, hn2] at hrc
                        have hsn := (GLN.out.sdn y1).1
                        have hy1L : (y1 : Int) ≤ L := by have h9 := g1.ap; rw [show s1.outS.yours = s1.yours from rfl, hn1] at h9; exact h9
                        have G1 := Lib.hid g1
                        have G2 := Lib.hid g2
                        have G3 := Lib.hid g3
                        have HTS := Lib.hid hts
                        have HT := Lib.hid hT
                        have N1 := Lib.hid hn1
                        have N2 := Lib.hid hn2
                        have N3 := Lib.hid hn3
                        have N6 := Lib.hid hn6
                        clear g1 g2 g3 hts hmem ht hrm hT hmid hn1 hn2 hn3 hn5 hn6
                        go_wp2_with fail
                        refine (take_l (d := 11) (f := f) (T := T) (s' := s1) HOM2.out.two.sa HOM2.out.two.fut (by omega) (by omega) (by omega) hroa HT.out HTS.out).mono ?_
                        rintro e w8 ⟨A8, cap8, ok8, o8, rfl, hl8, hcap8, hs8, hst8⟩
                        have HM8 := Lib.hid (HOM2.out.stepA hs8 hst8)
                        have HL8 := Lib.hid hl8
                        clear hs8 hst8 hl8 x0 x1 x2 x3 x4 x5 x6 x7
                        go_wp2_with fail
                        refine (out_as (d := 10) (F := s1.outF) (s' := s1.outS) HM8.out.two.sa HM8.out.two.fut (by omega) (by omega) (by omega) hro rfl rfl).mono ?_
                        rintro e w10 ⟨A10, cap10, o10, rfl, hl10, hcap10, hs10, hst10⟩
                        have HM10 := Lib.hid (HM8.out.stepA hs10 hst10)
                        have HL10 := Lib.hid hl10
                        have HT10 := Lib.hid (HL8.out.step hst10 (by unfold trio; omega))
                        clear hs10 hst10 hl10
                        go_wp2_with (at_builtin; refine wpList_append_W _ rfl (.tmp 276) (.tmp 278) 26 rfl 34 i1 _ 8 72 Try.underlying26 hj0 hj1 hj2 hj3 rfl (by omega) (.slice A6 rest.length cap6) rest.length (fcells rest) rfl HM10.out.way A10 s1.outF.length cap10 (fcells s1.outF) rfl (Reads.of_own HL10.out.1) (fcells_one _) (by unfold maxLen; omega) (by omega) ?_; intro v11 w11 hown hst; have HO11 := Lib.hid hown; have HST11 := Lib.hid hst; clear hown hst)
                        have HM11 := Lib.hid (HM10.out.stepWay (v' := v11) (way' := rest ++ s1.outF) (by rw [fcells_app, List.length_append]; exact HO11.out) HST11.out)
                        have HT11 := Lib.hid (HT10.out.step HST11.out (by unfold only; omega))
                        have hlf := life_any HM11.out.two.sa
                        rw [show s1.outS.yours = (y1 : Int) from N1.out] at hlf
                        have HLF := Lib.hid hlf
                        clear hlf
                        refine HLF.out.mono ?_
                        rintro e w12 ⟨rfl, rfl⟩
                        go_upto_if 283 with (fail)
                        go_cut [8, 9] from 247 to 314 (fun t8 t9 wx => t8 = .int .i64 n0 ∧ t9 = .int .i64 y1 ∧ w11 = wx)
                        case first =>
                          by_cases hgt : (y : Int) < (y1 : Int)
                          · have e0 : n0 = 0 := by have := N3.out; rw [if_pos hgt] at this; omega
                            subst e0
                            go_wp2_with fail
                            refine HLF.out.mono ?_
                            rintro e w12 ⟨rfl, rfl⟩
                            go_wp2_with fail
                            go_meet
                            case rel => exact ⟨rfl, rfl, rfl⟩
                          · have e0 : n0 = h := by have := N3.out; rw [if_neg hgt] at this; omega
                            have e1 : y1 = y := by omega
                            subst e0 e1
                            go_wp2_with fail
                            go_meet
                            case rel => exact ⟨rfl, rfl, rfl⟩
                        case rest =>
                          obtain ⟨rfl, rfl, rfl⟩ := hcut
                          obtain ⟨gS', capS', Au, cu, uu, D, hvS, hS1', hgS, hoS, hvu, hSD, rfl, hDc, hcS⟩ := HM11.out.said.at_ (i := y1) (by omega)
                          injection hvS with e1 e2 e3
                          injection e1 with e1
                          injection e1 with e1
                          subst e1 e3
                          have hDe : sd S y1 = D := by unfold sd; rw [Int.toNat_natCast, List.getD_eq_getElem?_getD, hSD]; rfl
                          have HIN := Lib.hid (HM11.out.said.inner y1 _ D hvu hSD)
                          have N6D := N6.out
                          rw [hDe] at N6D hrc hsn
                          have N6' := Lib.hid N6D
                          have hySI : (y1 : Int) < (S.length : Int) := by omega
                          have hy10 : (0 : Int) ≤ (y1 : Int) := by omega
                          clear hSl
                          clear hvu hSD hDe N6 N6D
                          go_wp2_with fail
                          go_loopg [8, 21] T.length (fun n t8 t21 wr => ∃ j nd m : Nat, n + j = T.length ∧ m = n0 + j ∧ t8 = .int .i64 m ∧ t21 = .int .i64 j ∧ wr = w11.drewN nd)
                          case atStart => exact ⟨0, 0, n0, by omega, rfl, rfl, rfl, rfl⟩
                          case round =>
                            obtain ⟨i, nd, m, hi, hm, rfl, rfl, rfl⟩ := hrel
                            by_cases hjl : i < T.length
                            · have hjI : (i : Int) < (T.length : Int) := by omega
                              obtain ⟨dj, hdj⟩ : ∃ d, T[i]? = some d := ⟨_, List.getElem?_eq_getElem hjl⟩
                              have hD2 := N6'.out i dj hdj
                              rw [← hm] at hD2
                              obtain ⟨gT, rfl, _, _⟩ := HT11.out.addr (by omega)
                              obtain ⟨gu, rfl, _, _⟩ := HIN.out.addr (by omega)
                              have c1 := HT11.out.at_ (j := i) (u := .string dj) (by rw [List.getElem?_map, hdj]; rfl)
                              have c2 := HIN.out.at_ (j := m) (u := .string dj) (by rw [List.getElem?_map, hD2]; rfl)
                              have hmD : m < D.length := (by have h8 := (List.getElem?_eq_some_iff.1 hD2).1; exact h8)
                              have hlD : (m : Int) < (D.length : Int) := by omega
                              have hlDd : decide ((D.length : Int) ≤ (m : Int)) = false := decide_eq_false (by omega)
                              have hlDn : decide (D.length ≤ m) = false := decide_eq_false (by omega)
                              have hlDg : decide ((m : Int) ≥ (D.length : Int)) = false := decide_eq_false (by omega)
                              have hm0 : (0 : Int) ≤ (m : Int) := by omega
                              have hj0' : (0 : Int) ≤ (i : Int) := by omega
                              have HM := Lib.hid hm
                              have HJ := Lib.hid hi
                              have hlc : (T.length : Int) ≤ (cap8 : Int) := by omega
                              have hld : (D.length : Int) ≤ (cu : Int) := by omega
                              clear hdj hD2 hm hmD hi
                              go_wp2_with fail
                              go_quiet (fail)
                              go_wp2_with fail
                              go_roundg (T.length - (i + 1))
                              case measure => have := HJ.out; omega
                              case rel => exact ⟨i + 1, _, m + 1, by have := HJ.out; omega, by have := HM.out; omega, by go_num, by go_num, rfl⟩
                            · have hjI : ¬ (i : Int) < (T.length : Int) := by omega
                              obtain rfl : i = T.length := by omega
                              subst hm
                              go_wp2_with fail
                              go_roundg (left2 L s1.outS b (rest ++ s1.outF))
                              case measure => have := G3.out; have := GLT.out; have := HNL.out; omega
                              case rel => exact ⟨_, y1, n0 + T.length, _, _, _, rfl, rfl, rfl, HM11.out.drewN nd, G1.out, G2.out, N2.out, N1.out⟩
                    · have t1 : (f.To == 2) = true := by rw [(GLN.out.toB f hmem ht).1]; rfl
                      as_aux_lemma => -- @cb
                        have hT := GLN.out.okB hmem ht
                        have g1 := GLN.out.takeB (rest := rest) hmem ht hrm rfl
                        have g2 := GLN.out.jB GCA.out ht
                        have g3 := GLN.out.leftB ht
                        rw [← GLN.out.takeLB hmem ht] at g1 g2 g3
                        obtain ⟨T, s1, hts⟩ : ∃ T s', b.takeL f = (T, s') := ⟨_, _, rfl⟩
                        simp only [hts] at g1 g2 g3
                        have hro : s1.out.length ≤ 64 := by have h9 := g1.dir.snd.room; simpa [St.outS] using h9
                        have hoF := outF_le s1 hro
                        have G1 := Lib.hid g1
                        have G2 := Lib.hid g2
                        have G3 := Lib.hid g3
                        have HTS := Lib.hid hts
                        have HT := Lib.hid hT
                        clear g1 g2 g3 hts hmem ht hrm hT
                        go_wp2_with fail
                        refine (take_l (d := 11) (f := f) (T := T) (s' := s1) HOM2.out.two.sb HOM2.out.two.fut (by omega) (by omega) (by omega) hrob HT.out HTS.out).mono ?_
                        rintro e w8 ⟨A8, cap8, ok8, o8, rfl, hl8, hcap8, hs8, hst8⟩
                        have HM8 := Lib.hid (HOM2.out.stepB hs8 hst8)
                        clear hs8 hst8 hl8 x0 x1 x2 x3 x4 x5 x6 x7
                        go_wp2_with fail
                        refine (out_as (d := 10) (F := s1.outF) (s' := s1.outS) HM8.out.two.sb HM8.out.two.fut (by omega) (by omega) (by omega) hro rfl rfl).mono ?_
                        rintro e w10 ⟨A10, cap10, o10, rfl, hl10, hcap10, hs10, hst10⟩
                        have HM10 := Lib.hid (HM8.out.stepB hs10 hst10)
                        have HL10 := Lib.hid hl10
                        clear hs10 hst10 hl10
                        go_wp2_with (at_builtin; refine wpList_append_W _ rfl (.tmp 266) (.tmp 268) 26 rfl 34 i1 _ 8 72 Try.underlying26 hj0 hj1 hj2 hj3 rfl (by omega) (.slice A6 rest.length cap6) rest.length (fcells rest) rfl HM10.out.way A10 s1.outF.length cap10 (fcells s1.outF) rfl (Reads.of_own HL10.out.1) (fcells_one _) (by unfold maxLen; omega) (by omega) ?_; intro v11 w11 hown hst; have HO11 := Lib.hid hown; have HST11 := Lib.hid hst; clear hown hst)
                        have HM11 := Lib.hid (HM10.out.stepWay (v' := v11) (way' := rest ++ s1.outF) (by rw [fcells_app, List.length_append]; exact HO11.out) HST11.out)
                        go_roundg (left2 L a s1.outS (rest ++ s1.outF))
                        case measure => have := G3.out; have := GLT.out; have := HNL.out; omega
                        case rel => exact ⟨_, y, h, _, _, _, rfl, rfl, rfl, HM11.out, G1.out, G2.out, HAH.out, HAY.out⟩
                · have hw0I : ¬ (0 : Int) < (way.length : Int) := by omega
                  have hnil : way = [] := List.eq_nil_of_length_eq_zero (by omega)
                  have HNIL := Lib.hid hnil
                  clear hnil
                  as_aux_lemma => -- @cx
                    go_wp2_with fail
                    go_roundg (60 - (j + 1))
                    case measure => have := HNJ.out; omega
                    case rel =>
                      have h1 := HLN.out
                      rw [HNIL.out] at h1
                      refine ⟨o3, j + 1, y, h, a, b, way, by omega, by go_num, rfl, rfl, HOM.out, ?_, HCA.out, .inr HNIL.out, HAH.out, HAY.out⟩
                      rw [HNIL.out]
                      exact h1.empty.mono (Nat.le_refl _) (by omega) (by omega)
            · have hjI : ¬ (j : Int) < 60 := by omega
              have hwn : way = [] := by
                rcases HZ0.out with h1 | h1
                · omega
                · exact h1
              subst hwn
              obtain ⟨d1, d2⟩ := HLN.out.done HCA.out (by omega)
              rw [HDL.out] at d2
              have D1 := Lib.hid d1
              have hLI : (L : Int) < (S.length : Int) := by omega
              have hL0 : (0 : Int) ≤ (L : Int) := by omega
              clear d1 hSl
              as_aux_lemma => -- @fin
                go_wp2_with fail
                refine (alive_any _).mono ?_
                rintro e w5 ⟨rfl, hb5⟩
                have HM5 := Lib.hid (HOM1.out.below_ hb5)
                clear hb5
                go_wp2_with fail
                refine (waiting_any HM5.out.two.sb).mono ?_
                rintro e w9 ⟨rfl, rfl⟩
                rw [D1.out]
                have hcS : w5.cell? ⟨gS, L, none⟩ = some (.slice Al Dl.length cl) := HM5.out.said.outer.at_ HVL.out
                by_cases hDz : Dl.length = 0
                · have hDzI : ((Dl.length : Int) == 0) = true := by rw [hDz]; rfl
                  go_wp2_with fail
                  go_ret
                  exact ⟨rfl, HM5.out.two.low⟩
                · have hDzI : ((Dl.length : Int) == 0) = false := beq_eq_false_iff_ne.2 (by omega)
                  rcases d2 with d2 | ⟨d2, d3⟩
                  · omega
                  · rw [HAY.out] at d2
                    rw [HAH.out] at d3
                    obtain rfl : y = L := by omega
                    obtain rfl : h = Dl.length := by omega
                    clear d2 d3
                    go_wp2_with fail
                    go_ret
                    exact ⟨rfl, HM5.out.two.low⟩
end Go.Proofs.Ytoegkgebmldhaaa
