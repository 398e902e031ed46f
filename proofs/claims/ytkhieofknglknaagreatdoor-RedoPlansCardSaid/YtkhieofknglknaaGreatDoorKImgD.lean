/- The book: one more list of images; all are marked (printed by gen/mkbook.py). -/
import Derived.Test.YtkhieofknglknaaGreatDoorKImgB
namespace Go.Proofs.YtkhieofknglknaaGreatDoor
open Go.RowKit

theorem info_images : (Tryz.prog.info? 23).map (fun i => (i.zero, i.size, i.bytes)) = some (some (.slice none 0 0), 1, 24) := by kernel_rfl
theorem imS_app (L : List (List Im)) (l : List Im) : imS (L ++ [l]) = imS L ++ [(l.length, imcells l)] := by simp [imS]
theorem after_oneI {o o2 : Nat → Nat} {w w2 : World} {p n cap : Nat} {cs : Array Value} {L : List (List Im)} {vs vs' : List Value} {l : List Im} {A : Option Addr} {v v' V2 : Value} (hk : BookAt o w p cs) (k8 : Kept 23 72 3 21 1000 o w v (imS L) vs) (k9 : Kept 23 72 3 22 2000 o w v' (imS L) vs')
    (hr : OwnW o (1000 + L.length) w 72 3 (.slice A l.length cap) l.length (imcells l)) (hn : n = L.length + 1) (how : OwnW o2 21 w2 23 1 V2 n (vs ++ [.slice A l.length cap])) (hs : Step o (only 21) w o2 w2) (hL : L.length < 250) :
    BookAt o2 (w2.setCell ⟨p, 10, none⟩ V2) p (cs.setIfInBounds 10 V2) ∧ Kept 23 72 3 21 1000 o2 (w2.setCell ⟨p, 10, none⟩ V2) V2 (imS (L ++ [l])) (vs ++ [.slice A l.length cap]) ∧ Kept 23 72 3 22 2000 o2 (w2.setCell ⟨p, 10, none⟩ V2) v' (imS L) vs' ∧ Reads (w2.setCell ⟨p, 10, none⟩ V2) 3 A l.length (imcells l) ∧ Step o (fun c => c = 20 ∨ c = 21) w o2 (w2.setCell ⟨p, 10, none⟩ V2) := by
  subst hn
  have hb2 := hk.step hs (by unfold only; omega)
  have hsb : Step o2 (only 20) w2 o2 (w2.setCell ⟨p, 10, none⟩ V2) := (Step.refl o2 (only 20) w2).setCell (p := ⟨p, 10, none⟩) hb2.2 _
  refine ⟨hb2.set_ 10 V2, ?_, ?_, ?_, ?_⟩
  · rw [imS_app]
    exact (k8.more (by rw [imS_len]; exact how) hs (by rw [imS_len]; exact hr) (fun i _ => by omega)).step hsb (by unfold only; omega) (fun i _ => by unfold only; omega)
  · exact (k9.step hs (by unfold only; omega) (fun i _ => by unfold only; omega)).step hsb (by unfold only; omega) (fun i _ => by unfold only; omega)
  · exact OwnW.reads ((hr.step hs (by unfold only; omega)).step hsb (by unfold only; omega))
  · refine ⟨hsb.os.trans hs.os, hsb.tape.trans hs.tape, hsb.output.trans hs.output, Nat.le_trans hs.size hsb.size, hs.old, fun k hk2 => (hs.fut k (by simpa using hk2)), fun k hk2 hc => ?_⟩
    rw [hsb.block k (Nat.lt_of_lt_of_le hk2 hs.size) (fun e => hc (Or.inl (by rw [hs.old k hk2] at e; exact e))), hs.block k hk2 (fun e => hc (Or.inr e))]
theorem kept_outerI {cO cI : Nat} {o : Nat → Nat} {w : World} {v : Value} {L : List (List Im)} {vs : List Value} (h : Kept 23 72 3 cO cI o w v (imS L) vs) : OwnW o cO w 23 1 v L.length vs := by
  have h1 := h.outer
  rw [imS_len] at h1
  exact h1
theorem after_twoI {o o2 : Nat → Nat} {w w2 : World} {p n cap : Nat} {cs : Array Value} {L : List (List Im)} {vs vs' : List Value} {l : List Im} {A : Option Addr} {v v' V2 : Value} {S1 : List (Nat × List Value)} (hk : BookAt o w p cs) (k8 : Kept 23 72 3 21 1000 o w v S1 vs) (k9 : Kept 23 72 3 22 2000 o w v' (imS L) vs')
    (hr : OwnW o (2000 + L.length) w 72 3 (.slice A l.length cap) l.length (imcells l)) (hn : n = L.length + 1) (how : OwnW o2 22 w2 23 1 V2 n (vs' ++ [.slice A l.length cap])) (hs : Step o (only 22) w o2 w2) (_hL : L.length < 250) :
    BookAt o2 (w2.setCell ⟨p, 11, none⟩ V2) p (cs.setIfInBounds 11 V2) ∧ Kept 23 72 3 21 1000 o2 (w2.setCell ⟨p, 11, none⟩ V2) v S1 vs ∧ Kept 23 72 3 22 2000 o2 (w2.setCell ⟨p, 11, none⟩ V2) V2 (imS (L ++ [l])) (vs' ++ [.slice A l.length cap]) ∧ Step o (fun c => c = 20 ∨ c = 22) w o2 (w2.setCell ⟨p, 11, none⟩ V2) := by
  subst hn
  have hb2 := hk.step hs (by unfold only; omega)
  have hsb : Step o2 (only 20) w2 o2 (w2.setCell ⟨p, 11, none⟩ V2) := (Step.refl o2 (only 20) w2).setCell (p := ⟨p, 11, none⟩) hb2.2 _
  refine ⟨hb2.set_ 11 V2, ?_, ?_, ?_⟩
  · exact (k8.step hs (by unfold only; omega) (fun i _ => by unfold only; omega)).step hsb (by unfold only; omega) (fun i _ => by unfold only; omega)
  · rw [imS_app]
    exact (k9.more (by rw [imS_len]; exact how) hs (by rw [imS_len]; exact hr) (fun i _ => by omega)).step hsb (by unfold only; omega) (fun i _ => by unfold only; omega)
  · refine ⟨hsb.os.trans hs.os, hsb.tape.trans hs.tape, hsb.output.trans hs.output, Nat.le_trans hs.size hsb.size, hs.old, fun k hk2 => (hs.fut k (by simpa using hk2)), fun k hk2 hc => ?_⟩
    rw [hsb.block k (Nat.lt_of_lt_of_le hk2 hs.size) (fun e => hc (Or.inl (by rw [hs.old k hk2] at e; exact e))), hs.block k hk2 (fun e => hc (Or.inr e))]
theorem after_copyI {o : Nat → Nat} {W w1 : World} {p : Nat} {cs : Array Value} {L : List (List Im)} {vs vs' : List Value} {v v' x : Value} {S1 : List (Nat × List Value)} (c0 : Nat) (hk : BookAt o W p cs) (hx : cs[11]? = some x) (k8 : Kept 23 72 3 21 1000 o W v S1 vs) (k9 : Kept 23 72 3 22 2000 o W v' (imS L) vs') (hb : Below W.drew.heap.size W.drew w1) :
    BookAt (band o W.drew.heap.size w1.heap.size c0) w1 p cs ∧ w1.cell? ⟨p, 11, none⟩ = some x ∧ Kept 23 72 3 21 1000 (band o W.drew.heap.size w1.heap.size c0) w1 v S1 vs ∧ Kept 23 72 3 22 2000 (band o W.drew.heap.size w1.heap.size c0) w1 v' (imS L) vs' ∧ Step o (fun _ => False) W (band o W.drew.heap.size w1.heap.size c0) w1 := by
  have hs : Step o (fun _ => False) W (band o W.drew.heap.size w1.heap.size c0) w1 := (Step.of_below_band o (fun _ => False) c0 hb).of_drew
  have h1 := hk.step hs id
  exact ⟨h1, (h1.1.cell 11).trans hx, k8.step hs id (fun _ _ => id), k9.step hs id (fun _ _ => id), hs⟩
theorem after_appI {o o2 : Nat → Nat} {w w2 : World} {p : Nat} {cs : Array Value} {x : Value} (hk : BookAt o w p cs) (hx : cs[11]? = some x) (hs : Step o (only 22) w o2 w2) : w2.cell? ⟨p, 11, none⟩ = some x ∧ w2.frozen? ⟨p, 11, none⟩ = false :=
  ⟨((hk.step hs (by unfold only; omega)).1.cell 11).trans hx, (hk.step hs (by unfold only; omega)).1.frozen 11⟩
set_option maxRecDepth 100000 in
set_option maxHeartbeats 2000000 in
theorem bimgs_any (o : Nat → Nat) (w : World) (p : Nat) (cs : Array Value) (v v' : Value) (L : List (List Im)) (vs vs' : List Value) (l : List Im) (A : Option Addr) (cap : Nat)
    (hk : BookAt o w p cs) (h8 : w.cell? ⟨p, 10, none⟩ = some v) (h9 : w.cell? ⟨p, 11, none⟩ = some v') (k8 : Kept 23 72 3 21 1000 o w v (imS L) vs) (k9 : Kept 23 72 3 22 2000 o w v' (imS L) vs')
    (hr : OwnW o (1000 + L.length) w 72 3 (.slice A l.length cap) l.length (imcells l)) (hl : l.length ≤ 1000) (hL : L.length < 250) :
    Calls Tryz.prog 8 #[.pointer (some ⟨p, 0, none⟩), .slice A l.length cap] w fun e w' => e = .returned (.tuple #[]) ∧ ∃ o' u u' v2 v2', BookAt o' w' p ((cs.setIfInBounds 10 v2).setIfInBounds 11 v2') ∧ Kept 23 72 3 21 1000 o' w' v2 (imS (L ++ [l])) (vs ++ [u]) ∧ Kept 23 72 3 22 2000 o' w' v2' (imS (L ++ [l])) (vs' ++ [u']) ∧ Step o (fun c => c = 20 ∨ c = 21 ∨ c = 22 ∨ c = 2000 + L.length) w o' w' := by
  obtain ⟨i0, hi, hz0, hz1, hz2⟩ := info_parts info_images
  obtain ⟨A8, cap8, e8, _, _⟩ := k8.outer.form
  obtain ⟨A9, cap9, e9, _, _⟩ := k9.outer.form
  rw [imS_len] at e8 e9
  have HB := Lib.hid hk
  have H8 := Lib.hid k8
  have H9 := Lib.hid k9
  have HR := Lib.hid hr
  have ho8 := k8.outer
  rw [imS_len, e8] at ho8
  have HO8 := Lib.hid ho8
  rw [e8] at h8
  have hLI : (L.length : Int) < 250 := by omega
  have hc8 := (hk.1.cell 10).symm.trans h8
  have HC8 := Lib.hid hc8
  have hc9 := (hk.1.cell 11).symm.trans (e9 ▸ h9)
  have HC9 := Lib.hid hc9
  clear hk k8 k9 hr ho8 hc8 hc9 h9
  go_enter Tryz.func8, Tryz.ntmps8
  go_wp2_with (at_builtin; refine wpList_append_W _ rfl (.tmp 14) (.tmp 16) 45 rfl 23 i0 _ 1 24 Tryz.underlying45 hi hz0 hz1 hz2 rfl (by omega) (.slice A8 L.length cap8) L.length vs rfl (HO8.out.alloc (.cells #[.slice A l.length cap] 23)) _ 1 1 [.slice A l.length cap] rfl (Reads.newAt _ 23 1 1 _ _ _ rfl rfl rfl) (by simp [Value.oneCell']) (by unfold maxLen; omega) (by omega) ?_; intro v2 w2 hown hst; obtain ⟨A2, cap2, rfl, _, _⟩ := hown.form; have hb2 := (HB.out.alloc (.cells #[.slice A l.length cap] 23)).step hst (by unfold only; omega); have y8 := (hb2.1.cell 10).trans HC8.out; have f8 := hb2.1.frozen 10; have HB2 := Lib.hid hb2; have HOW2 := Lib.hid hown; have HST2 := Lib.hid hst; clear hown hst hb2 h8)
  obtain ⟨hb3, k83, k93, hr3, hs3⟩ := after_oneI (HB.out.alloc (.cells #[.slice A l.length cap] 23)) (H8.out.alloc _) (H9.out.alloc _) (HR.out.alloc _) rfl HOW2.out HST2.out hL
  have hc9 : (cs.setIfInBounds 10 (.slice A2 (L.length + 1) cap2))[11]? = some (.slice A9 L.length cap9) := by simpa using HC9.out
  have y9 := (hb3.1.cell 11).trans hc9
  generalize band o _ _ _ = o3 at hb3 k83 k93 hs3
  generalize w2.setCell ⟨p, 10, none⟩ (.slice A2 (L.length + 1) cap2) = W at hb3 k83 k93 hr3 hs3 y9 ⊢
  have HC9b := Lib.hid hc9
  have HB3 := Lib.hid hb3
  have K83 := Lib.hid k83
  have K93 := Lib.hid (e9 ▸ k93 : Kept 23 72 3 22 2000 o3 W (.slice A9 L.length cap9) (imS L) vs')
  have HR3 := Lib.hid hr3
  have HS3 := Lib.hid hs3
  clear hc9 hb3 k83 k93 hr3 hs3 y8 f8 HB2 HOW2 HST2
  go_region_law (first | (refine step_append_W _ rfl (.tmp 24) (.tmp 27) 45 rfl 23 i0 _ 1 24 Tryz.underlying45 hi hz0 hz1 hz2 rfl (by omega) (.slice A9 L.length cap9) L.length vs' rfl (HO9.out.alloc (.cells #[.slice A4 l.length cap4] 23)) _ 1 1 [.slice A4 l.length cap4] rfl (Reads.newAt _ 23 1 1 _ _ _ rfl rfl rfl) (by simp [Value.oneCell']) (by unfold maxLen; omega) (by omega) ?_; intro v5 w5 hown5 hst5; obtain ⟨A5, cap5, rfl, _, _⟩ := hown5.form; obtain ⟨y9c, f9⟩ := after_appI (HB4.out.alloc (.cells #[.slice A4 l.length cap4] 23)) HC9b.out hst5; have HOW5 := Lib.hid hown5; have HST5 := Lib.hid hst5) | (go_simp; go_at_call 40; ((with_reducible refine (copyimgs_any o3 (2000 + L.length) _ A cap l (Reads.drew HR3.out) hl).mono ?_); rintro e w4 ⟨A4, cap4, rfl, how4, hb4⟩; obtain ⟨hb5, y9b, k84, k94, hs4⟩ := after_copyI (2000 + L.length) HB3.out HC9b.out K83.out K93.out hb4; have HB4 := Lib.hid hb5; have K84 := Lib.hid k84; have K94 := Lib.hid k94; have HS4 := Lib.hid hs4; have HOW4 := Lib.hid (OwnW.of_own how4); have y9d := ((HB4.out.alloc (.cells #[.slice A4 l.length cap4] 23)).1.cell 11).trans HC9b.out; have HO9 := Lib.hid (kept_outerI K94.out); simp only [])))
  all_goals
    obtain ⟨hb6, k86, k96, hs6⟩ := after_twoI (HB4.out.alloc (.cells #[.slice A4 l.length cap4] 23)) (K84.out.alloc _) (K94.out.alloc _) (HOW4.out.alloc _) rfl HOW5.out HST5.out hL
    have HF := Lib.hid (show ∃ o' u u' v2 v2', BookAt o' (w5.setCell ⟨p, 11, none⟩ (.slice A5 (L.length + 1) cap5)) p ((cs.setIfInBounds 10 v2).setIfInBounds 11 v2') ∧ Kept 23 72 3 21 1000 o' (w5.setCell ⟨p, 11, none⟩ (.slice A5 (L.length + 1) cap5)) v2 (imS (L ++ [l])) (vs ++ [u]) ∧ Kept 23 72 3 22 2000 o' (w5.setCell ⟨p, 11, none⟩ (.slice A5 (L.length + 1) cap5)) v2' (imS (L ++ [l])) (vs' ++ [u']) ∧ Step o (fun c => c = 20 ∨ c = 21 ∨ c = 22 ∨ c = 2000 + L.length) w o' (w5.setCell ⟨p, 11, none⟩ (.slice A5 (L.length + 1) cap5)) from
      ⟨_, _, _, _, _, hb6, k86, k96, (((Step.refl o _ w).alloc _).trans (HS3.out.mono (fun c h => by omega))).trans ((HS4.out.mono (fun c h => h.elim)).trans (((Step.refl _ _ _).alloc _).trans (hs6.mono (fun c h => by omega))))⟩)
    clear hb6 k86 k96 hs6
    go_wp2_with fail
    go_end0
    exact ⟨rfl, HF.out⟩
def imM (i k : Nat) : List Value := [.int .i64 (-1 - (i : Int)), .int .u64 (k : Int), .string ⟨#[]⟩]
theorem imM_rows (i f : Nat) : ∀ n, imcells (mkI i f n) = rowsF (imM i) f n
  | 0 => rfl
  | n + 1 => by rw [rowsF_succ, ← imM_rows i f n]; simp [mkI, imcells, Im.cells, imM]
theorem markimgs_rows (o : Nat → Nat) (c0 : Nat) (w : World) (i f n : Nat) (hi1 : i ≤ 1000) (hf : f + n ≤ 100000) :
    Calls Tryz.prog 191 #[.int .i64 i, .int .i64 f, .int .i64 n] w fun e w' => ∃ A cap o', e = .returned (.slice A n cap) ∧ OwnS o' c0 w' 72 3 (.slice A n cap) n (rowsF (imM i) f n) ∧ Step o (only c0) w o' w' := by
  have h := markimgs_any o c0 w i f n hi1 hf
  rw [imM_rows] at h
  exact h
theorem imM_len (i k : Nat) : (imM i k).length = 3 := rfl
set_option maxRecDepth 100000 in
set_option maxHeartbeats 2000000 in
theorem putimgs_any (o : Nat → Nat) (w : World) (p : Nat) (cs : Array Value) (v : Value) (S : List (Nat × List Value)) (vs : List Value) (hb : BookAt o w p cs) (h8 : cs[10]? = some v)
    (k8 : Kept 23 72 3 21 1000 o w v S vs) (hl : ∀ (i n : Nat) xs, S[i]? = some (n, xs) → n ≤ 1000) (hL : S.length ≤ 250) :
    Calls Tryz.prog 82 #[.pointer (some ⟨p, 0, none⟩)] w fun e w' => e = .returned (.tuple #[]) ∧ ∃ o', Kept 23 72 3 21 1000 o' w' v (putS imM S.length S) vs ∧ Step o (putC 1000) w o' w' := by
  have HB := Lib.hid hb
  have HL := Lib.hid hl
  have H8 := Lib.hid k8
  have C8 := Lib.hid h8
  obtain ⟨A8, cap8, e8, _, _⟩ := k8.outer.form
  have E8 := Lib.hid e8
  clear hb hl k8 h8 e8
  go_enter Tryz.func82, Tryz.ntmps82
  go_wp2_with fail
  go_loopw [2] (fun t1 wr => ∃ (i : Nat) (o' : Nat → Nat), i ≤ S.length ∧ t1 = .int .i64 i ∧ Kept 23 72 3 21 1000 o' wr v (putS imM i S) vs ∧ Step o (putC 1000) w o' wr) (fun t1 _ => S.length - (intOf t1).toNat)
  case atStart => exact ⟨0, o, by omega, rfl, by rw [putS_zero]; exact H8.out, Step.refl _ _ _⟩
  case round =>
    obtain ⟨i, o1, hi, rfl, k1, hs⟩ := hrel
    have h8 : wr.cell? ⟨p, 10, none⟩ = some (.slice A8 S.length cap8) := by rw [← E8.out]; exact ((HB.out.step hs (by unfold putC; omega)).1.cell 10).trans C8.out
    have HS := Lib.hid hs
    have K1 := Lib.hid k1
    clear hs k1
    by_cases hlt : i < S.length
    · have hltI : (i : Int) < (S.length : Int) := by omega
      obtain ⟨ad, cap, A, c, u, n, xs, e1, _, hu, hS, e2, _, hc, how⟩ := K1.out.at_ (i := i) (by rw [putS_len]; exact hlt)
      rw [E8.out, putS_len] at e1
      injection e1 with e1 _ e3
      subst e1 e3
      have HOW := Lib.hid how
      have HU := Lib.hid hu
      have HSS := Lib.hid hS
      clear how hu hS
      go_wp2_with fail
      have hn := HL.out i n xs (putS_row HSS.out)
      refine (markimgs_rows o1 40 wr i 0 n (by omega) (by omega)).mono ?_
      rintro e w2 ⟨A2, c2, o2, rfl, how2, hs2⟩
      have hP : PutAt 23 72 3 21 1000 imM o o2 w w2 p cs v S vs i n 0 xs (.slice A2 n c2) := ⟨by rw [rowsF_zero, List.nil_append, Nat.zero_mul, List.drop_zero, set_same HSS.out]; exact K1.out.step hs2 (by unfold only; omega) (fun j _ => by unfold only; omega), how2, HS.out.trans (hs2.mono (fun c h => .inl h)), (HB.out.step HS.out (by unfold putC; omega)).step hs2 (by unfold only; omega)⟩
      have HP := Lib.hid hP
      clear hP how2 hs2 hc h8
      go_wp2_with fail
      go_loopw [4] (fun t4 wk => ∃ (k : Nat) (o' : Nat → Nat), k ≤ n ∧ t4 = .int .i64 k ∧ PutAt 23 72 3 21 1000 imM o o' w wk p cs v S vs i n k xs (.slice A2 n c2)) (fun t4 _ => n - (intOf t4).toNat)
      case atStart => exact ⟨0, o2, by omega, rfl, HP.out⟩
      case round =>
        obtain ⟨k, o3, hk, rfl, hp⟩ := hrel
        have HP3 := Lib.hid hp
        clear hp
        by_cases hlt2 : k < n
        · have hltI2 : (k : Int) < (n : Int) := by omega
          obtain ⟨g, off, g2, rfl, rfl, q8, qi, qm, n1, n2, n3, qt⟩ := HP3.out.open_ E8.out hlt (by rw [HU.out, e2]) hlt2 imM_len C8.out (by omega) (by omega) (by omega)
          rw [E8.out] at q8
          have m0 : wr.cell? ⟨g2, k * 3, none⟩ = some (.int .i64 (-1 - (i : Int))) := qm 0 _ rfl
          have m1 : wr.cell? ⟨g2, k * 3 + 1, none⟩ = some (.int .u64 (k : Int)) := qm 1 _ rfl
          have m2 : wr.cell? ⟨g2, k * 3 + 2, none⟩ = some (.string ⟨#[]⟩) := qm 2 _ rfl
          obtain ⟨⟨t0, p0⟩, f0⟩ : (∃ u, wr.cell? ⟨g, off + k * 3, none⟩ = some u) ∧ wr.frozen? ⟨g, off + k * 3, none⟩ = false := qt 0 (by omega)
          obtain ⟨⟨t1, p1⟩, f1⟩ : (∃ u, wr.cell? ⟨g, off + k * 3 + 1, none⟩ = some u) ∧ wr.frozen? ⟨g, off + k * 3 + 1, none⟩ = false := qt 1 (by omega)
          obtain ⟨⟨t2, p2⟩, f2⟩ : (∃ u, wr.cell? ⟨g, off + k * 3 + 2, none⟩ = some u) ∧ wr.frozen? ⟨g, off + k * 3 + 2, none⟩ = false := qt 2 (by omega)
          clear qm qt
          go_wp2_with fail
          go_region_held3 (fun w' => w'.cell? ⟨p, 10, none⟩ = some (.slice (some ad) S.length cap8) ∧ w'.cell? (ad.add i) = some (.slice (some ⟨g, off, none⟩) n c) ∧ w'.cell? ⟨g2, k * 3, none⟩ = some (.int .i64 (-1 - (i : Int))) ∧ w'.cell? ⟨g2, k * 3 + 1, none⟩ = some (.int .u64 (k : Int)) ∧ w'.cell? ⟨g2, k * 3 + 2, none⟩ = some (.string ⟨#[]⟩))
            (first | exact ⟨q8, qi, m0, m1, m2⟩ | exact ⟨far_row q8 n1 (imM i k) (off + k * 3), far_row qi n2 (imM i k) (off + k * 3), far_row m0 n3 (imM i k) (off + k * 3), far_row m1 n3 (imM i k) (off + k * 3), far_row m2 n3 (imM i k) (off + k * 3)⟩)
            (fail)
          have hN := HP3.out.next hlt (by omega) (by rw [HU.out, e2]) hlt2 imM_len (by omega) (by omega) (by omega)
          have HN := Lib.hid (show PutAt 23 72 3 21 1000 imM o o3 w (((wr.setCell ⟨g, off + k * 3, none⟩ (.int .i64 (-1 - (i : Int)))).setCell ⟨g, off + k * 3 + 1, none⟩ (.int .u64 (k : Int))).setCell ⟨g, off + k * 3 + 2, none⟩ (.string ⟨#[]⟩)).drew p cs v S vs i n (k + 1) xs (.slice (some ⟨g2, 0, none⟩) n c2) from PutAt.drew hN)
          clear hN q8 qi m0 m1 m2 p0 p1 p2 f0 f1 f2 n1 n2 n3
          go_wp2_with fail
          go_roundw
          case rel => exact ⟨k + 1, o3, by omega, by go_num, HN.out⟩
          case measure => simp [intOf]; omega
        · have hltI2 : ¬ (k : Int) < (n : Int) := by omega
          obtain rfl : k = n := by omega
          go_wp2_with fail
          go_roundw
          case rel => exact ⟨i + 1, o3, by omega, by go_num, HP3.out.done (putS_row HSS.out) HOW.out.1, HP3.out.step⟩
          case measure => simp [intOf]; omega
    · have hltI : ¬ (i : Int) < (S.length : Int) := by omega
      obtain rfl : i = S.length := by omega
      go_wp2_with fail
      go_end0
      exact ⟨rfl, o1, K1.out, HS.out⟩
end Go.Proofs.YtkhieofknglknaaGreatDoor

/- The book: lists of images grow; marked over rows (printed by gen/mkbook.py). -/
namespace Go.Proofs.YtkhieofknglknaaGreatDoor
open Go.RowKit

theorem markimgs_1 (o : Nat → Nat) (c0 : Nat) (w : World) (i f : Nat) (hi1 : i ≤ 1000) (hf : f ≤ 2000) :
    Calls Tryz.prog 191 #[.int .i64 i, .int .i64 f, .int .i64 1] w fun e w' => ∃ A cap o', e = .returned (.slice A 1 cap) ∧ OwnS o' c0 w' 72 3 (.slice A 1 cap) 1 (rowsF (imM i) f 1) ∧ Step o (only c0) w o' w' := markimgs_rows o c0 w i f 1 hi1 (by omega)
theorem markimgs_60 (o : Nat → Nat) (c0 : Nat) (w : World) (i f : Nat) (hi1 : i ≤ 1000) (hf : f ≤ 2000) :
    Calls Tryz.prog 191 #[.int .i64 i, .int .i64 f, .int .i64 60] w fun e w' => ∃ A cap o', e = .returned (.slice A 60 cap) ∧ OwnS o' c0 w' 72 3 (.slice A 60 cap) 60 (rowsF (imM i) f 60) ∧ Step o (only c0) w o' w' := markimgs_rows o c0 w i f 60 hi1 (by omega)
theorem imM_one (i f n : Nat) : ∀ u ∈ rowsF (imM i) f n, u.oneCell' = true := by
  intro u hu
  simp only [rowsF, List.mem_flatMap, imM, List.mem_cons, List.not_mem_nil, or_false] at hu
  obtain ⟨x, _, rfl | rfl | rfl⟩ := hu <;> rfl
set_option maxRecDepth 100000 in
set_option maxHeartbeats 4000000 in
theorem growimgs_any (o : Nat → Nat) (w : World) (p : Nat) (cs : Array Value) (v : Value) (S : List (Nat × List Value)) (vs : List Value) (hb : BookAt o w p cs) (h8 : cs[10]? = some v)
    (k8 : Kept 23 72 3 21 1000 o w v S vs) (hl : ∀ (i n : Nat) xs, S[i]? = some (n, xs) → n ≤ 1000 ∧ xs = rowsF (imM i) 0 n) (hL : S.length ≤ 250) :
    Calls Tryz.prog 94 #[.pointer (some ⟨p, 0, none⟩)] w fun e w' => ∃ V us o', e = .returned V ∧ GrowO 23 72 3 21 25 1000 imM o o' w w' p cs v S vs V us S.length := by
  obtain ⟨i0, hi0, hz0, hz1, hz2⟩ := info_parts info_im
  obtain ⟨i1, hi1, hy0, hy1, hy2⟩ := info_parts info_images
  have HB := Lib.hid hb
  have HL := Lib.hid hl
  have H8 := Lib.hid k8
  have C8 := Lib.hid h8
  obtain ⟨A8, cap8, e8, _, _⟩ := k8.outer.form
  have E8 := Lib.hid e8
  clear hb hl k8 h8 e8
  go_enter Tryz.func94, Tryz.ntmps94
  go_wp2_with fail
  go_loopw [3, 4] (fun t3 t4 wr => ∃ (i : Nat) (V : Value) (us : List Value) (o' : Nat → Nat), i ≤ S.length ∧ t3 = V ∧ t4 = .int .i64 i ∧ GrowO 23 72 3 21 25 1000 imM o o' w wr p cs v S vs V us i) (fun _ t4 _ => S.length - (intOf t4).toNat)
  case atStart => exact ⟨0, _, [], o, by omega, rfl, rfl, H8.out, Kept.nil _ _ _ _ _ _ _, Step.refl _ _ _, HB.out⟩
  case round =>
    obtain ⟨i, V, us, o1, hi, rfl, rfl, hG⟩ := hrel
    have h8 : wr.cell? ⟨p, 10, none⟩ = some (.slice A8 S.length cap8) := by rw [← E8.out]; exact (hG.book.1.cell 10).trans C8.out
    have HG := Lib.hid hG
    clear hG
    by_cases hlt : i < S.length
    · have hltI : (i : Int) < (S.length : Int) := by omega
      obtain ⟨ad, cap, A, c, u, n, xs, e1, _, hu, hS, e2, _, hc, how⟩ := HG.out.kept.at_ (i := i) hlt
      obtain ⟨hn, rfl⟩ := HL.out i n xs hS
      rw [E8.out] at e1
      injection e1 with e1 _ e3
      subst e1 e3
      have HU := Lib.hid hu
      have HSS := Lib.hid hS
      have HS0 := Lib.hid (HG.out.start hu hS)
      clear how hu hS
      go_wp2_with fail
      go_loopw [5, 6] (fun t5 t6 wr => ∃ (k q : Nat) (A : Option Addr) (cap : Nat) (o' : Nat → Nat), k ≤ 12 ∧ q = n + k ∧ t5 = .slice A q cap ∧ t6 = .int .i64 k ∧ GrowAt 23 72 3 21 25 1000 imM o o' w wr p cs v S vs u3 us i n k u (.slice A q cap)) (fun _ t6 _ => 12 - (intOf t6).toNat)
      case atStart => exact ⟨0, n, A, c, o1, by omega, rfl, rfl, rfl, by have := HS0.out; rw [e2] at this ⊢; exact this⟩
      case round =>
        obtain ⟨k, q, A1, c1, o2, hk, hq, rfl, rfl, hga⟩ := hrel
        have hqn : q ≤ 1012 := by omega
        have hrow := hga.row
        rw [← hq] at hrow
        have HGA := Lib.hid hga
        have HROW := Lib.hid hrow
        have HQ := Lib.hid hq
        clear hga hrow hq
        by_cases hlt2 : k < 12
        · have hltI2 : (k : Int) < 12 := by omega
          go_wp2_with fail
          refine (markimgs_1 o2 40 wr i q (by omega) (by omega)).mono ?_
          rintro e w3 ⟨A2, c2, o3, rfl, hm3, hs3⟩
          have HG3 := Lib.hid (HGA.out.marks hs3 (by omega) (by omega) (by omega))
          have HR3 := Lib.hid (HROW.out.step hs3 (by unfold only; omega))
          have HM3 := Lib.hid hm3
          clear hm3 hs3
          go_wp2_with (at_builtin; refine wpList_append_K _ rfl (.tmp 27) (.tmp 31) 23 rfl 72 i0 _ 3 32 Tryz.underlying23 hi0 hz0 hz1 hz2 rfl (by omega) (.slice A1 q c1) q (rowsF (imM i) 0 q) rfl HR3.out A2 1 c2 (rowsF (imM i) q 1) rfl (Reads.of_own HM3.out.1) (imM_one i q 1) (by unfold maxLen; omega) (by omega) ?_; intro v' w4 hown hst hK hnw; obtain ⟨A4, c4, rfl, _, _⟩ := hown.form; have HG4 := Lib.hid (HG3.out.more hst HQ.out hown hK hnw (by omega) hlt (by omega) HU.out HSS.out (by omega) (by omega) (by omega)); clear hown hst hK hnw)
          go_roundw
          case rel => exact ⟨k + 1, q + 1, A4, c4, _, by omega, by have := HQ.out; omega, by go_num, by go_num, HG4.out⟩
          case measure => simp [intOf]; omega
        · have hltI2 : ¬ (k : Int) < 12 := by omega
          obtain rfl : k = 12 := by omega
          go_wp2_with fail
          refine (markimgs_60 o2 40 wr i q (by omega) (by omega)).mono ?_
          rintro e w3 ⟨A2, c2, o3, rfl, hm3, hs3⟩
          have HG3 := Lib.hid (HGA.out.marks hs3 (by omega) (by omega) (by omega))
          have HR3 := Lib.hid (HROW.out.step hs3 (by unfold only; omega))
          have HM3 := Lib.hid hm3
          clear hm3 hs3
          go_wp2_with (first | (at_builtin; refine wpList_append_K _ rfl (.tmp 34) (.tmp 38) 23 rfl 72 i0 _ 3 32 Tryz.underlying23 hi0 hz0 hz1 hz2 rfl (by omega) (.slice A1 q c1) q (rowsF (imM i) 0 q) rfl HR3.out A2 60 c2 (rowsF (imM i) q 60) rfl (Reads.of_own HM3.out.1) (imM_one i q 60) (by unfold maxLen; omega) (by omega) ?_; intro v' w4 hown hst hK hnw; obtain ⟨A4, c4, rfl, _, _⟩ := hown.form; have HG4 := Lib.hid (HG3.out.more hst HQ.out hown hK hnw (by omega) hlt (by omega) HU.out HSS.out (by omega) (by omega) (by omega)); clear hown hst hK hnw; have HO4 := Lib.hid (HG4.out.outer hi)) | (at_builtin; refine wpList_append_W _ rfl (.tmp 33) (.tmp 40) 45 rfl 23 i1 _ 1 24 Tryz.underlying45 hi1 hy0 hy1 hy2 rfl (by omega) u3 i us rfl (HO4.out.alloc (.cells #[.slice A4 (q + 60) c4] 23)) _ 1 1 [.slice A4 (q + 60) c4] rfl (Reads.newAt _ 23 1 1 _ _ _ rfl rfl rfl) (by simp [Value.oneCell']) (by unfold maxLen; omega) (by omega) ?_; intro v5 w5 hown5 hst5; obtain ⟨A5, cap5, rfl, _, _⟩ := hown5.form; have HF5 := Lib.hid ((HG4.out.alloc (.cells #[.slice A4 (q + 60) c4] 23)).finish hst5 hown5 hlt HSS.out (by omega) (by omega) (by omega)); clear hown5 hst5))
          go_roundw
          case rel => exact ⟨i + 1, _, _, _, by omega, by go_num, by go_num, HF5.out⟩
          case measure => simp [intOf]; omega
    · have hltI : ¬ (i : Int) < (S.length : Int) := by omega
      obtain rfl : i = S.length := by omega
      go_wp2_with fail
      go_ret
      exact ⟨u3, rfl, us, o1, HG.out⟩
theorem markedimgs_rows (o : Nat → Nat) (w : World) (v : Value) (S : List (Nat × List Value)) (vs : List Value) (a1 b1 : Nat) (k8 : Kept 23 72 3 a1 b1 o w v S vs) (hl : ∀ (i n : Nat) xs, S[i]? = some (n, xs) → n ≤ 1000 ∧ xs = rowsF (imM i) 0 n) (hL : S.length ≤ 250) (ha : a1 ≠ 40) (hb : 40 < b1) :
    Calls Tryz.prog 109 #[v] w fun e w' => e = .returned (.bool true) ∧ ∃ o', Step o (only 40) w o' w' := by
  have hS : imS (S.mapIdx (fun i p => mkI i 0 p.1)) = S := by
    apply List.ext_getElem?
    intro i
    simp only [imS, List.getElem?_map, List.getElem?_mapIdx, Option.map_map]
    cases h : S[i]? with
    | none => rfl
    | some p =>
      obtain ⟨n, xs⟩ := p
      obtain ⟨_, e⟩ := hl i n xs h
      simp only [Option.map_some, Function.comp]
      rw [mkI_len, imM_rows, e]
  refine markedimgs_any o w v (S.mapIdx (fun i p => mkI i 0 p.1)) vs a1 b1 (by rw [hS]; exact k8) ?_ (by simpa using hL) ha hb
  intro i l h
  rw [List.getElem?_mapIdx] at h
  cases h2 : S[i]? with
  | none => simp [h2] at h
  | some p =>
    obtain ⟨n, xs⟩ := p
    simp only [h2, Option.map_some, Option.some.injEq] at h
    subst h
    rw [mkI_len]
    exact ⟨(hl i n xs h2).1, rfl⟩
end Go.Proofs.YtkhieofknglknaaGreatDoor
