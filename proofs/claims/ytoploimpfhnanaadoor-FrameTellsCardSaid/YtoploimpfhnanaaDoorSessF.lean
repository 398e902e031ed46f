/- A session in memory: greater. -/
import Derived.Test.YtoploimpfhnanaaDoorSessE
import Derived.Deep.Cut
import Derived.Deep.DeepCutAuto
namespace Go.Proofs.YtoploimpfhnanaaDoor
open Go.RowKit

theorem SessAt.reset {o : Nat → Nat} {c : Nat} {w : World} {p : Nat} {s : St} (h : SessAt o c w p s) (life : Int) :
    SessAt (band o w.heap.size (w.heap.size + 1) (c + 2)) c (((((w.setCell ⟨p, 3, none⟩ (.int .i64 life)).setCell ⟨p, 6, none⟩ (.int .i64 0)).setCell ⟨p, 7, none⟩ (.map (some w.heap.size))).setCell ⟨p, 5, none⟩ (.int .i64 0)).alloc (.map #[] 0)) p { s with yours := life, heard := 0, ahead := [], last := 0 } ∧
    Step o (trio c) w (band o w.heap.size (w.heap.size + 1) (c + 2)) (((((w.setCell ⟨p, 3, none⟩ (.int .i64 life)).setCell ⟨p, 6, none⟩ (.int .i64 0)).setCell ⟨p, 7, none⟩ (.map (some w.heap.size))).setCell ⟨p, 5, none⟩ (.int .i64 0)).alloc (.map #[] 0)) := by
  have hlt := h.lt
  have hcol := h.col
  have hst : Step o (trio c) w o ((((w.setCell ⟨p, 3, none⟩ (.int .i64 life)).setCell ⟨p, 6, none⟩ (.int .i64 0)).setCell ⟨p, 7, none⟩ (.map (some w.heap.size))).setCell ⟨p, 5, none⟩ (.int .i64 0)) :=
    ((((Step.refl o (trio c) w).setCell (p := ⟨p, 3, none⟩) (trio_0 hcol) _).setCell (p := ⟨p, 6, none⟩) (trio_0 hcol) _).setCell (p := ⟨p, 7, none⟩) (trio_0 hcol) _).setCell (p := ⟨p, 5, none⟩) (trio_0 hcol) _
  obtain ⟨r, m, hb, hc, hr, _⟩ := h.color (o' := band o w.heap.size (w.heap.size + 1) (c + 2)) (fun q hq => band_lt hq)
  have b1 := hb.set_ 3 (.int .i64 life)
  have b2 := b1.set_ 6 (.int .i64 0)
  have b3 := b2.set_ 7 (.map (some w.heap.size))
  have b4 := b3.set_ 5 (.int .i64 0)
  have r4 := (((hr.set_ hb (by decide) (by decide) 3 (.int .i64 life)).set_ b1 (by decide) (by decide) 6 (.int .i64 0)).set_ b2 (by decide) (by decide) 7 (.map (some w.heap.size))).set_ b3 (by decide) (by decide) 5 (.int .i64 0)
  generalize hw4 : (((w.setCell ⟨p, 3, none⟩ (.int .i64 life)).setCell ⟨p, 6, none⟩ (.int .i64 0)).setCell ⟨p, 7, none⟩ (.map (some w.heap.size))).setCell ⟨p, 5, none⟩ (.int .i64 0) = w4 at b4 r4 hst ⊢
  have hsz : w4.heap.size = w.heap.size := by rw [← hw4]; simp [World.setCell]
  clear hw4
  have hm := MapAt.new (band o w.heap.size (w.heap.size + 1) (c + 2)) w4
  rw [hsz, band_in (Nat.le_refl _) (by omega)] at hm
  refine ⟨⟨r, w.heap.size, b4.alloc _, hc, r4.alloc _, hm⟩, ?_⟩
  have h2 := hst.alloc (.map #[] 0)
  exact ⟨h2.os, h2.tape, h2.output, h2.size, fun k hk => band_lt hk, fun k hk => band_ge (by simp [hsz] at hk; omega), h2.block⟩
/-- renumbered from i + 1 on, none sent -/
def renum : List Wt → Int → List Wt
  | [], _ => []
  | x :: l, i => { x with seq := i + 1, sent := false } :: renum l (i + 1)
theorem renum_len : ∀ (l : List Wt) (i : Int), (renum l i).length = l.length
  | [], _ => rfl
  | _ :: l, i => by simp [renum, renum_len l (i + 1)]
theorem renum_snoc (x : Wt) : ∀ (l : List Wt) (i : Int), renum (l ++ [x]) i = renum l i ++ [{ x with seq := i + l.length + 1, sent := false }]
  | [], i => by simp [renum]
  | y :: l, i => by
    have ih := renum_snoc x l (i + 1)
    simp only [List.cons_append, renum, ih, List.length_cons]
    congr 4
    omega
theorem renum_mid (l : List Wt) (k : Nat) (x : Wt) (h : l[k]? = some x) : (renum (l.take k) 0 ++ l.drop k).set k { x with seq := (k : Int) + 1, sent := false } = renum (l.take (k + 1)) 0 ++ l.drop (k + 1) := by
  have hk : k < l.length := (List.getElem?_eq_some_iff.1 h).1
  rw [take_snoc_ h, renum_snoc, drop_cons_ h]
  have hl : (renum (l.take k) 0).length = k := by rw [renum_len, List.length_take]; omega
  rw [List.set_append_right _ _ (by omega), hl]
  simp only [Nat.sub_self, List.set_cons_zero, List.append_assoc, List.cons_append, List.nil_append]
  congr 4
  rw [List.length_take]
  omega

def St.g0 (s : St) : List Wt := if 0 < s.yours then [] else s.out
def St.greaterS (s : St) (life : Int) : St := { s with yours := life, heard := 0, ahead := [], last := s.g0.length, out := renum s.g0 0 }
def St.gk (s : St) (life : Int) (l : List Wt) (k : Nat) : St := { s with yours := life, heard := 0, ahead := [], last := k, out := renum (l.take k) 0 ++ l.drop k }

set_option maxHeartbeats 4000000 in
theorem greater_any {o : Nat → Nat} {c : Nat} {w : World} {p : Nat} {s : St} (h : SessAt o c w p s) (hf : Fut o w) (hc : 1 ≤ c) (hl : s.out.length ≤ 64) (life : Int) :
    Calls Tryd.prog 82 #[.pointer (some ⟨p, 0, none⟩), .int .i64 life] w fun e w' => ∃ o', e = .returned (.tuple #[]) ∧ SessAt o' c w' p (s.greaterS life) ∧ Step o (trio c) w o' w' := by
  have HS := Lib.hid h
  have fz3 := h.frozen 3
  have fz5 := h.frozen 5
  have fz6 := h.frozen 6
  have fz7 := h.frozen 7
  obtain ⟨r, m, h0, h1, h2, h3, h4, h5, h6, h7, h8, hlt, HB, HC, HR, HM⟩ := h.open_
  clear h
  have key : ∃ l0, l0 = s.g0 := ⟨_, rfl⟩
  obtain ⟨l0, hl0⟩ := key
  have HL0 := Lib.hid hl0
  clear hl0
  have hmm := @run_makeMap Tryd.prog
  by_cases hy : 0 < s.yours
  · go_enter Tryd.func82, Tryd.ntmps82
    go_upto_region 2 with (go_at_call 96; refine (clear_any HR.out (by omega)).mono ?_; rintro e w1 ⟨rfl, o1, hr1, hst1⟩)
    have hs0 : SessAt o1 c w1 p { s with out := l0 } := by
      have e1 : l0 = [] := by rw [HL0.out]; unfold St.g0; rw [if_pos hy]
      rw [e1]
      exact ⟨r, m, HB.out.step hst1 (by rw [HC.out]; unfold only; omega), (hst1.old p hlt).trans HC.out, hr1, HM.out.step hst1 (by unfold only; omega)⟩
    have hl1 : l0.length ≤ 64 := by rw [HL0.out]; unfold St.g0; rw [if_pos hy]; exact Nat.zero_le _
    have hst0 := hst1.mono (trio_m1 c)
    clear h0 h1 h2 h3 h4 h5 h6 h7 h8 hlt fz3 fz5 fz6 fz7 HB HC HR HM hr1 hst1
    obtain ⟨r1, m1, h0, h1, h2, h3, h4, h5, h6, h7, h8, hlt, HB, HC, HR, HM⟩ := hs0.open_
    have fz3 := hs0.frozen 3
    have fz5 := hs0.frozen 5
    have fz6 := hs0.frozen 6
    have fz7 := hs0.frozen 7
    have HS0 := Lib.hid hs0
    have HST0 := Lib.hid hst0
    clear hs0 hst0
    go_upto_region 3 with (fail)
    obtain ⟨hs2, hst2⟩ := HS0.out.reset life
    generalize (World.alloc _ (.map #[] 0)) = W at hs2 hst2 ⊢
    have hst3 := HST0.out.trans hst2
    have hf3 := hf.step hst3
    generalize band _ _ _ (c + 2) = oW at hs2 hst3 hf3
    clear hst2 h0 h1 h2 h3 h4 h5 h6 h7 h8 hlt fz3 fz5 fz6 fz7 HB HC HR HM
    obtain ⟨r2, m2, h0, h1, h2, h3, h4, h5, h6, h7, h8, hlt, HB, HC, HR, HM⟩ := hs2.open_
    have HS2 := Lib.hid hs2
    have HST2 := Lib.hid hst3
    clear hs2 hst3
    go_wp2_with (go_at_call 79; refine (list_any (c + 3) HR.out (by show l0.length ≤ _; omega)).mono ?_; rintro e w2 ⟨A1, cap1, rfl, hown1, hbl1⟩)
    clear h0 h1 h2 h3 h4 h5 h6 h7 h8 hlt
    have HOWN1 := Lib.hid hown1
    have HBL1 := Lib.hid hbl1
    clear hown1 hbl1
    go_loopw [36] (fun i wr => ∃ k : Nat, ∃ oL, i = .int .i64 k ∧ EachRel oW c (c + 3) W p { s with out := l0 } (fun k => s.gk life l0 k) (.slice A1 l0.length cap1) k wr oL) (fun i _ => l0.length - (intOf i).toNat)
    case atStart =>
      have hst := Step.of_below_band oW (trio c) (c + 3) HBL1.out
      refine ⟨0, _, rfl, Nat.zero_le _, ?_, HOWN1.out, hst, hf3.step hst⟩
      simpa [St.gk, renum] using (HS2.out.color (o' := band oW W.heap.size w2.heap.size (c + 3)) (fun q hq => band_lt hq)).below_ HBL1.out
    case round =>
      obtain ⟨k, oL, rfl, hrel⟩ := hrel
      have HREL := Lib.hid hrel
      clear hrel
      by_cases hlt : k < l0.length
      · have hltI : (k : Int) < (l0.length : Int) := by omega
        have hnI : (l0.length : Int) ≤ 64 := by omega
        obtain ⟨x, hx⟩ : ∃ x, l0[k]? = some x := ⟨_, List.getElem?_eq_getElem hlt⟩
        have HX := Lib.hid hx
        clear hx
        obtain ⟨g, rfl, hgl, hgc⟩ := HREL.out.list.addr (show 0 < l0.length by omega)
        clear hgc
        obtain ⟨e0, e1, e2, e3⟩ := wcells_get _ _ _ HX.out
        have q0 := HREL.out.list.at_ e0
        have q1 := HREL.out.list.at_ e1
        have q2 := HREL.out.list.at_ e2
        have q3 := HREL.out.list.at_ e3
        clear e0 e1 e2 e3
        obtain ⟨rr, mm, g0, g1, g2, g3, g4, g5, g6, g7, g8, glt, GB, GC, GR, GM⟩ := HREL.out.sess.open_
        have gf5 := HREL.out.sess.frozen 5
        change wr.cell? ⟨p, 5, none⟩ = some (.int .i64 (k : Int)) at g5
        go_wp2_with fail
        have hz : oL wr.heap.size = 0 := HREL.out.fut _ (Nat.le_refl _)
        have hs5 := HREL.out.sess.set_last ((k : Int) + 1)
        have t5 : Step oL (trio c) wr oL (wr.setCell ⟨p, 5, none⟩ (.int .i64 ((k : Int) + 1))) := (Step.refl oL (trio c) wr).setCell (p := ⟨p, 5, none⟩) (trio_0 GC.out) _
        have l5 := HREL.out.list.step t5 (by unfold trio; omega)
        have hbx := Blk.new (wr.setCell ⟨p, 5, none⟩ (.int .i64 ((k : Int) + 1))) 122 #[.int .i64 ((k : Int) + 1), .string x.data, .bool false, .int .i64 x.age]
        have hsz5 : (wr.setCell ⟨p, 5, none⟩ (.int .i64 ((k : Int) + 1))).heap.size = wr.heap.size := by simp [World.setCell]
        rw [hsz5] at hbx
        have hs6 := hs5.alloc (.cells #[.int .i64 ((k : Int) + 1), .string x.data, .bool false, .int .i64 x.age] 122)
        have l6 := l5.alloc (.cells #[.int .i64 ((k : Int) + 1), .string x.data, .bool false, .int .i64 x.age] 122)
        have t6 := HREL.out.step.trans (t5.alloc (.cells #[.int .i64 ((k : Int) + 1), .string x.data, .bool false, .int .i64 x.age] 122))
        have hf6 := hf3.step t6
        generalize (wr.setCell ⟨p, 5, none⟩ (.int .i64 ((k : Int) + 1))).alloc (.cells #[.int .i64 ((k : Int) + 1), .string x.data, .bool false, .int .i64 x.age] 122) = V at hbx hs6 l6 t6 hf6 ⊢
        clear g0 g1 g2 g3 g4 g5 g6 g7 g8 glt GB GC GR GM gf5 q0 q1 q2 q3 hs5 t5 l5 hsz5
        obtain ⟨rx, mx, g0, g1, g2, g3, g4, g5, g6, g7, g8, glt, GB, GC, GR, GM⟩ := hs6.open_
        have y0 := hbx.cell 0
        have y1 := hbx.cell 1
        have y2 := hbx.cell 2
        have y3 := hbx.cell 3
        simp at y0 y1 y2 y3
        have HBX := Lib.hid hbx
        have HCOL := Lib.hid hz
        have HS6 := Lib.hid hs6
        have HL6 := Lib.hid l6
        have HT6 := Lib.hid t6
        clear hbx hz g0 g1 g2 g3 g5 g6 g7 g8 hs6 l6 t6
        have hkl : k < (renum (l0.take k) 0 ++ l0.drop k).length := by rw [List.length_append, renum_len, List.length_take, List.length_drop]; omega
        go_region_held3 (fun w' => w'.cell? ⟨p, 4, none⟩ = some (.pointer (some ⟨rx, 0, none⟩)) ∧ w'.cell? ⟨wr.heap.size, 0, none⟩ = some (.int .i64 ((k : Int) + 1)) ∧ w'.cell? ⟨wr.heap.size, 1, none⟩ = some (.string x.data) ∧ w'.cell? ⟨wr.heap.size, 2, none⟩ = some (.bool false) ∧ w'.cell? ⟨wr.heap.size, 3, none⟩ = some (.int .i64 x.age))
          (first | exact ⟨KP, K0, K1, K2, K3⟩ | go_keep)
          (first | (go_at_call 81; refine (set_lit GR.out k hkl ((k : Int) + 1) x.data false x.age).mono ?_; rintro e w4 ⟨rfl, hr4, hst4⟩; have hb4 := GB.out.step hst4 (by rw [GC.out]; unfold only; omega); have hx4 := HBX.out.step hst4 (by rw [HCOL.out]; unfold only; omega); have KP := hb4.cell 4; have K0 := hx4.cell 0; have K1 := hx4.cell 1; have K2 := hx4.cell 2; have K3 := hx4.cell 3))
        go_wp2_with fail
        go_roundw
        case rel =>
          have e2 := renum_mid l0 k x HX.out
          refine ⟨k + 1, oL, by go_num, hlt, ?_, HL6.out.step hst4 (by unfold only; omega), HT6.out.trans (hst4.mono (trio_m1 c)), hf6.step hst4⟩
          refine ⟨rx, mx, hb4, (hst4.old p (by simpa using glt)).trans GC.out, ?_, GM.out.step hst4 (by unfold only; omega)⟩
          show RingAt oL (c + 1) w4 rx 64 (renum (l0.take (k + 1)) 0 ++ l0.drop (k + 1))
          rw [← e2]
          exact hr4
        case measure => simp [intOf]; omega
      · obtain rfl : k = l0.length := Nat.le_antisymm HREL.out.le (by show l0.length ≤ k; omega)
        have hsess := HREL.out.sess
        have hst : s.gk life l0 l0.length = s.greaterS life := by unfold St.gk St.greaterS; rw [List.take_length, List.drop_length, List.append_nil, ← HL0.out]
        simp only [hst] at hsess
        have HS3 := Lib.hid hsess
        clear hsess hst
        have hltI : ¬ (l0.length : Int) < (l0.length : Int) := by omega
        go_wp2_with fail
        go_end0
        first | exact ⟨oL, rfl, HS3.out, HST2.out.trans HREL.out.step⟩ | exact ⟨rfl, oL, HS3.out, HST2.out.trans HREL.out.step⟩
  · have hs0 : SessAt o c w p { s with out := l0 } := by
      have e1 : l0 = s.out := by rw [HL0.out]; unfold St.g0; rw [if_neg hy]
      rw [e1]
      exact HS.out
    have hl1 : l0.length ≤ 64 := by rw [HL0.out]; unfold St.g0; rw [if_neg hy]; exact hl
    have hst0 := Step.refl o (trio c) w
    go_enter Tryd.func82, Tryd.ntmps82
    go_upto_region 2 with (fail)
    clear h0 h1 h2 h3 h4 h5 h6 h7 h8 hlt fz3 fz5 fz6 fz7 HB HC HR HM
    obtain ⟨r1, m1, h0, h1, h2, h3, h4, h5, h6, h7, h8, hlt, HB, HC, HR, HM⟩ := hs0.open_
    have fz3 := hs0.frozen 3
    have fz5 := hs0.frozen 5
    have fz6 := hs0.frozen 6
    have fz7 := hs0.frozen 7
    have HS0 := Lib.hid hs0
    have HST0 := Lib.hid hst0
    clear hs0 hst0
    go_upto_region 3 with (fail)
    obtain ⟨hs2, hst2⟩ := HS0.out.reset life
    generalize (World.alloc _ (.map #[] 0)) = W at hs2 hst2 ⊢
    have hst3 := HST0.out.trans hst2
    have hf3 := hf.step hst3
    generalize band _ _ _ (c + 2) = oW at hs2 hst3 hf3
    clear hst2 h0 h1 h2 h3 h4 h5 h6 h7 h8 hlt fz3 fz5 fz6 fz7 HB HC HR HM
    obtain ⟨r2, m2, h0, h1, h2, h3, h4, h5, h6, h7, h8, hlt, HB, HC, HR, HM⟩ := hs2.open_
    have HS2 := Lib.hid hs2
    have HST2 := Lib.hid hst3
    clear hs2 hst3
    go_wp2_with (go_at_call 79; refine (list_any (c + 3) HR.out (by show l0.length ≤ _; omega)).mono ?_; rintro e w2 ⟨A1, cap1, rfl, hown1, hbl1⟩)
    clear h0 h1 h2 h3 h4 h5 h6 h7 h8 hlt
    have HOWN1 := Lib.hid hown1
    have HBL1 := Lib.hid hbl1
    clear hown1 hbl1
    go_loopw [36] (fun i wr => ∃ k : Nat, ∃ oL, i = .int .i64 k ∧ EachRel oW c (c + 3) W p { s with out := l0 } (fun k => s.gk life l0 k) (.slice A1 l0.length cap1) k wr oL) (fun i _ => l0.length - (intOf i).toNat)
    case atStart =>
      have hst := Step.of_below_band oW (trio c) (c + 3) HBL1.out
      refine ⟨0, _, rfl, Nat.zero_le _, ?_, HOWN1.out, hst, hf3.step hst⟩
      simpa [St.gk, renum] using (HS2.out.color (o' := band oW W.heap.size w2.heap.size (c + 3)) (fun q hq => band_lt hq)).below_ HBL1.out
    case round =>
      obtain ⟨k, oL, rfl, hrel⟩ := hrel
      have HREL := Lib.hid hrel
      clear hrel
      by_cases hlt : k < l0.length
      · have hltI : (k : Int) < (l0.length : Int) := by omega
        have hnI : (l0.length : Int) ≤ 64 := by omega
        obtain ⟨x, hx⟩ : ∃ x, l0[k]? = some x := ⟨_, List.getElem?_eq_getElem hlt⟩
        have HX := Lib.hid hx
        clear hx
        obtain ⟨g, rfl, hgl, hgc⟩ := HREL.out.list.addr (show 0 < l0.length by omega)
        clear hgc
        obtain ⟨e0, e1, e2, e3⟩ := wcells_get _ _ _ HX.out
        have q0 := HREL.out.list.at_ e0
        have q1 := HREL.out.list.at_ e1
        have q2 := HREL.out.list.at_ e2
        have q3 := HREL.out.list.at_ e3
        clear e0 e1 e2 e3
        obtain ⟨rr, mm, g0, g1, g2, g3, g4, g5, g6, g7, g8, glt, GB, GC, GR, GM⟩ := HREL.out.sess.open_
        have gf5 := HREL.out.sess.frozen 5
        change wr.cell? ⟨p, 5, none⟩ = some (.int .i64 (k : Int)) at g5
        go_wp2_with fail
        have hz : oL wr.heap.size = 0 := HREL.out.fut _ (Nat.le_refl _)
        have hs5 := HREL.out.sess.set_last ((k : Int) + 1)
        have t5 : Step oL (trio c) wr oL (wr.setCell ⟨p, 5, none⟩ (.int .i64 ((k : Int) + 1))) := (Step.refl oL (trio c) wr).setCell (p := ⟨p, 5, none⟩) (trio_0 GC.out) _
        have l5 := HREL.out.list.step t5 (by unfold trio; omega)
        have hbx := Blk.new (wr.setCell ⟨p, 5, none⟩ (.int .i64 ((k : Int) + 1))) 122 #[.int .i64 ((k : Int) + 1), .string x.data, .bool false, .int .i64 x.age]
        have hsz5 : (wr.setCell ⟨p, 5, none⟩ (.int .i64 ((k : Int) + 1))).heap.size = wr.heap.size := by simp [World.setCell]
        rw [hsz5] at hbx
        have hs6 := hs5.alloc (.cells #[.int .i64 ((k : Int) + 1), .string x.data, .bool false, .int .i64 x.age] 122)
        have l6 := l5.alloc (.cells #[.int .i64 ((k : Int) + 1), .string x.data, .bool false, .int .i64 x.age] 122)
        have t6 := HREL.out.step.trans (t5.alloc (.cells #[.int .i64 ((k : Int) + 1), .string x.data, .bool false, .int .i64 x.age] 122))
        have hf6 := hf3.step t6
        generalize (wr.setCell ⟨p, 5, none⟩ (.int .i64 ((k : Int) + 1))).alloc (.cells #[.int .i64 ((k : Int) + 1), .string x.data, .bool false, .int .i64 x.age] 122) = V at hbx hs6 l6 t6 hf6 ⊢
        clear g0 g1 g2 g3 g4 g5 g6 g7 g8 glt GB GC GR GM gf5 q0 q1 q2 q3 hs5 t5 l5 hsz5
        obtain ⟨rx, mx, g0, g1, g2, g3, g4, g5, g6, g7, g8, glt, GB, GC, GR, GM⟩ := hs6.open_
        have y0 := hbx.cell 0
        have y1 := hbx.cell 1
        have y2 := hbx.cell 2
        have y3 := hbx.cell 3
        simp at y0 y1 y2 y3
        have HBX := Lib.hid hbx
        have HCOL := Lib.hid hz
        have HS6 := Lib.hid hs6
        have HL6 := Lib.hid l6
        have HT6 := Lib.hid t6
        clear hbx hz g0 g1 g2 g3 g5 g6 g7 g8 hs6 l6 t6
        have hkl : k < (renum (l0.take k) 0 ++ l0.drop k).length := by rw [List.length_append, renum_len, List.length_take, List.length_drop]; omega
        go_region_held3 (fun w' => w'.cell? ⟨p, 4, none⟩ = some (.pointer (some ⟨rx, 0, none⟩)) ∧ w'.cell? ⟨wr.heap.size, 0, none⟩ = some (.int .i64 ((k : Int) + 1)) ∧ w'.cell? ⟨wr.heap.size, 1, none⟩ = some (.string x.data) ∧ w'.cell? ⟨wr.heap.size, 2, none⟩ = some (.bool false) ∧ w'.cell? ⟨wr.heap.size, 3, none⟩ = some (.int .i64 x.age))
          (first | exact ⟨KP, K0, K1, K2, K3⟩ | go_keep)
          (first | (go_at_call 81; refine (set_lit GR.out k hkl ((k : Int) + 1) x.data false x.age).mono ?_; rintro e w4 ⟨rfl, hr4, hst4⟩; have hb4 := GB.out.step hst4 (by rw [GC.out]; unfold only; omega); have hx4 := HBX.out.step hst4 (by rw [HCOL.out]; unfold only; omega); have KP := hb4.cell 4; have K0 := hx4.cell 0; have K1 := hx4.cell 1; have K2 := hx4.cell 2; have K3 := hx4.cell 3))
        go_wp2_with fail
        go_roundw
        case rel =>
          have e2 := renum_mid l0 k x HX.out
          refine ⟨k + 1, oL, by go_num, hlt, ?_, HL6.out.step hst4 (by unfold only; omega), HT6.out.trans (hst4.mono (trio_m1 c)), hf6.step hst4⟩
          refine ⟨rx, mx, hb4, (hst4.old p (by simpa using glt)).trans GC.out, ?_, GM.out.step hst4 (by unfold only; omega)⟩
          show RingAt oL (c + 1) w4 rx 64 (renum (l0.take (k + 1)) 0 ++ l0.drop (k + 1))
          rw [← e2]
          exact hr4
        case measure => simp [intOf]; omega
      · obtain rfl : k = l0.length := Nat.le_antisymm HREL.out.le (by show l0.length ≤ k; omega)
        have hsess := HREL.out.sess
        have hst : s.gk life l0 l0.length = s.greaterS life := by unfold St.gk St.greaterS; rw [List.take_length, List.drop_length, List.append_nil, ← HL0.out]
        simp only [hst] at hsess
        have HS3 := Lib.hid hsess
        clear hsess hst
        have hltI : ¬ (l0.length : Int) < (l0.length : Int) := by omega
        go_wp2_with fail
        go_end0
        first | exact ⟨oL, rfl, HS3.out, HST2.out.trans HREL.out.step⟩ | exact ⟨rfl, oL, HS3.out, HST2.out.trans HREL.out.step⟩
end Go.Proofs.YtoploimpfhnanaaDoor
