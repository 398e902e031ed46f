/- A session in memory: Out. -/
import Derived.Test.YtoploimpfhnanaaDoorSessC
namespace Go.Proofs.YtoploimpfhnanaaDoor
open Go.RowKit

def fcells (l : List Fr) : List Value := l.flatMap Fr.cells
theorem fcells_len (l : List Fr) : (fcells l).length = l.length * 8 := by
  unfold fcells
  induction l with
  | nil => rfl
  | cons x r ih => simp only [List.flatMap_cons, List.length_append, ih, List.length_cons]; simp [Fr.cells]; omega
theorem fcells_one (l : List Fr) : ∀ u ∈ fcells l, u.oneCell' = true := by
  intro u hu
  unfold fcells at hu
  obtain ⟨x, _, hx⟩ := List.mem_flatMap.1 hu
  simp only [Fr.cells, List.mem_cons, List.mem_nil_iff, or_false] at hx
  rcases hx with rfl | rfl | rfl | rfl | rfl | rfl | rfl | rfl <;> rfl
theorem fcells_app (l m : List Fr) : fcells (l ++ m) = fcells l ++ fcells m := by simp [fcells]
theorem info_f : (Tryd.prog.info? 58).map (fun i => (i.zero, i.size, i.bytes)) = some (some (.agg #[.int .i64 0, .int .i64 0, .int .i64 0, .int .i64 0, .int .i64 0, .int .i64 0, .string ⟨#[]⟩, .bool false]), 8, 72) := by kernel_rfl

/-- a frame for a message -/
def St.tell (s : St) (x : Wt) : Fr := { s.frame with Seq := x.seq, Data := x.data, Has := true }
def Wt.out (x : Wt) : Wt := if x.sent then x else { x with sent := true, age := 0 }
def St.tells (s : St) (l : List Wt) : List Fr := (l.filter (fun x => !x.sent)).map s.tell
/-- what Out tells, and what it makes of the session -/
def St.outF (s : St) : List Fr := if s.owed ∧ s.tells s.out = [] then [s.frame] else s.tells s.out
def St.outS (s : St) : St := { s with out := s.out.map Wt.out, owed := false }

/-- behind k rounds of Out's loop -/
structure OutRel (o : Nat → Nat) (c d : Nat) (w : World) (p : Nat) (s : St) (lv : Value) (k : Nat) (v : Value) (wr : World) (oL : Nat → Nat) : Prop where
  le : k ≤ s.out.length
  own : OwnS oL d wr 58 8 v (s.tells (s.out.take k)).length (fcells (s.tells (s.out.take k)))
  base : ∀ g, v.ownBlock = some g → w.heap.size ≤ g
  sess : SessAt oL c wr p { s with out := (s.out.take k).map Wt.out ++ s.out.drop k }
  list : OwnS oL (c + d + 3) wr 122 4 lv s.out.length (wcells s.out)
  step : Step o (trio c) w oL wr
  fut : Fut oL wr

theorem tells_snoc (s : St) (l : List Wt) (x : Wt) : s.tells (l ++ [x]) = s.tells l ++ (if x.sent then [] else [s.tell x]) := by
  unfold St.tells
  rw [List.filter_append, List.map_append]
  cases hx : x.sent <;> simp [hx]

theorem set_mid {α : Type} (f : α → α) : ∀ (l : List α) (k : Nat) (x y : α), l[k]? = some x → f x = y → ((l.take k).map f ++ l.drop k).set k y = (l.take (k + 1)).map f ++ l.drop (k + 1)
  | [], _, _, _, h, _ => by simp at h
  | z :: l, 0, x, y, h, hy => by
    simp at h
    subst h
    simp [hy]
  | z :: l, k + 1, x, y, h, hy => by
    have ih := set_mid f l k x y (by simpa using h) hy
    simpa using ih
theorem set_lit {o : Nat → Nat} {c : Nat} {w : World} {r : Nat} {most : Int} {l : List Wt} (h : RingAt o c w r most l) (k : Nat) (hk : k < l.length) (sq : Int) (dt : ByteArray) (sn : Bool) (ag : Int) :
    Calls Tryd.prog 81 #[.pointer (some ⟨r, 0, none⟩), .int .i64 k, .agg #[.int .i64 sq, .string dt, .bool sn, .int .i64 ag]] w.drew fun e w' => e = .returned (.bool true) ∧ RingAt o c w' r most (l.set k ⟨sq, dt, sn, ag⟩) ∧ Step o (only c) w o w' :=
  (set_any (w := w.drew) h k hk ⟨sq, dt, sn, ag⟩).mono fun _ _ ⟨h1, h2, h3⟩ => ⟨h1, h2, h3.of_drew⟩
theorem tells_le (s : St) (k : Nat) : (s.tells (s.out.take k)).length ≤ k := by
  unfold St.tells
  rw [List.length_map]
  have h1 := List.length_filter_le (fun x : Wt => !x.sent) (s.out.take k)
  rw [List.length_take] at h1
  omega
theorem take_snoc_ {α : Type} {l : List α} {k : Nat} {x : α} (h : l[k]? = some x) : l.take (k + 1) = l.take k ++ [x] := by rw [List.take_add_one, h]; rfl
theorem drop_cons_ {α : Type} {l : List α} {k : Nat} {x : α} (h : l[k]? = some x) : l.drop k = x :: l.drop (k + 1) := by
  obtain ⟨hk, e⟩ := List.getElem?_eq_some_iff.1 h
  rw [List.drop_eq_getElem_cons hk, e]
theorem OutRel.skip {o : Nat → Nat} {c d : Nat} {w : World} {p : Nat} {s : St} {lv : Value} {k : Nat} {v : Value} {wr : World} {oL : Nat → Nat} (h : OutRel o c d w p s lv k v wr oL) {x : Wt} (hx : s.out[k]? = some x) (hs : x.sent = true) (y : Obj) :
    OutRel o c d w p s lv (k + 1) v (wr.alloc y) oL := by
  have hk : k < s.out.length := (List.getElem?_eq_some_iff.1 hx).1
  have h1 := tells_snoc s (s.out.take k) x
  rw [← take_snoc_ hx, hs] at h1
  simp only [if_true, List.append_nil] at h1
  have hxo : x.out = x := by unfold Wt.out; rw [if_pos hs]
  have h2 : (s.out.take (k + 1)).map Wt.out ++ s.out.drop (k + 1) = (s.out.take k).map Wt.out ++ s.out.drop k := by
    rw [take_snoc_ hx, drop_cons_ hx, List.map_append]
    simp [hxo]
  exact ⟨hk, by rw [h1]; exact h.own.alloc y, h.base, by rw [h2]; exact h.sess.alloc y, h.list.alloc y, h.step.alloc y, h.fut.alloc y⟩

set_option maxHeartbeats 4000000 in
theorem out_any {o : Nat → Nat} {c d : Nat} {w : World} {p : Nat} {s : St} (h : SessAt o c w p s) (hf : Fut o w) (hc : 1 ≤ c) (hd : 1 ≤ d) (hdc : d < c ∨ c + 2 < d) (hl : s.out.length ≤ 64) :
    Calls Tryd.prog 56 #[.pointer (some ⟨p, 0, none⟩)] w fun e w' => ∃ v o', e = .returned v ∧ OwnS o' d w' 58 8 v s.outF.length (fcells s.outF) ∧ SessAt o' c w' p s.outS ∧ Step o (trio c) w o' w' := by
  have HS := Lib.hid h
  obtain ⟨r, m, h0, h1, h2, h3, h4, h5, h6, h7, h8, hlt, HB, HC, HR, HM⟩ := h.open_
  clear h
  obtain ⟨i0, hi, hz0, hz1, hz2⟩ := info_parts info_f
  go_enter Tryd.func56, Tryd.ntmps56
  go_wp2_with (first | (go_at_call 76; refine (none_some _ _ _ h4).mono ?_; rintro e w' ⟨rfl, rfl⟩) | (go_at_call 79; refine (list_any (c + d + 3) HR.out (by omega)).mono ?_; rintro e w1 ⟨A1, cap1, rfl, hown1, hbl1⟩))
  clear h0 h1 h2 h3 h4 h5 h6 h7 h8
  have HOWN1 := Lib.hid hown1
  have HBL1 := Lib.hid hbl1
  clear hown1 hbl1 hlt
  go_loopw [3, 15] (fun v i wr => ∃ k : Nat, ∃ oL, i = .int .i64 k ∧ OutRel o c d w p s (.slice A1 s.out.length cap1) k v wr oL) (fun _ i _ => s.out.length - (intOf i).toNat)
  case atStart =>
    have hst := Step.of_below_band o (trio c) (c + d + 3) HBL1.out
    refine ⟨0, _, rfl, Nat.zero_le _, by simpa [St.tells, fcells] using OwnS.nil _ d _ _ _, by simp [Value.ownBlock], ?_, HOWN1.out, hst, hf.step hst⟩
    simpa using (HS.out.color (o' := band o w.heap.size w1.heap.size (c + d + 3)) (fun q hq => band_lt hq)).below_ HBL1.out
  case round =>
    obtain ⟨k, oL, rfl, hrel⟩ := hrel
    have HREL := Lib.hid hrel
    clear hrel
    by_cases hlt : k < s.out.length
    · have hltI : (k : Int) < (s.out.length : Int) := by omega
      have hnI : (s.out.length : Int) ≤ 64 := by omega
      obtain ⟨x, hx⟩ : ∃ x, s.out[k]? = some x := ⟨_, List.getElem?_eq_getElem hlt⟩
      have HX := Lib.hid hx
      clear hx
      obtain ⟨g, rfl, hgl, hgc⟩ := HREL.out.list.addr (by omega)
      have HGC := Lib.hid hgc
      clear hgc
      obtain ⟨e0, e1, e2, e3⟩ := wcells_get _ _ _ HX.out
      have q0 := HREL.out.list.at_ e0
      have q1 := HREL.out.list.at_ e1
      have q2 := HREL.out.list.at_ e2
      have q3 := HREL.out.list.at_ e3
      clear e0 e1 e2 e3
      cases hsent : x.sent with
      | true =>
        rw [hsent] at q2
        have HSENT := Lib.hid hsent
        clear hsent
        go_wp2_with fail
        go_roundw
        case rel => exact ⟨k + 1, oL, by go_num, HREL.out.skip HX.out HSENT.out _⟩
        case measure => simp [intOf]; omega
      | false =>
        rw [hsent] at q2
        have HSENT := Lib.hid hsent
        clear hsent
        go_wp2_with (go_at_call 80; refine (frame_any (HREL.out.sess.alloc _)).mono ?_; rintro e wf ⟨rfl, hbf⟩; have hbw := (Blk.new wr 122 #[.int .i64 x.seq, .string x.data, .bool false, .int .i64 x.age]).below_ hbf; have p0 := hbw.cell 0; have p1 := hbw.cell 1; have p2 := hbw.cell 2; have p3 := hbw.cell 3; simp at p0 p1 p2 p3; have HBW := Lib.hid hbw; have HBF := Lib.hid hbf; have hsz : wr.heap.size < wf.heap.size := size_lt hbf; clear hbw hbf; simp only [Fr.agg, St.frame])
        go_region
        go_wp2_with (at_builtin; refine wpList_append_S _ rfl (.tmp 31) (.tmp 33) 96 rfl 58 i0 _ 8 72 Tryd.underlying96 hi hz0 hz1 hz2 rfl (by omega) u3 (s.tells (s.out.take k)).length (fcells (s.tells (s.out.take k))) rfl ((((HREL.out.own.alloc _).below_ HBF.out).alloc _).drew.alloc _) _ 1 1 (s.tell x).cells rfl (Reads.newAt _ 58 8 1 _ _ _ (by simp) rfl rfl) (by simp [Fr.cells, Value.oneCell']) (by unfold maxLen; have := tells_le s k; omega) (by have := tells_le s k; omega) ?_; intro v' w2 hown hst hg hat; have HOWN := Lib.hid hown; have HST := Lib.hid hst; have HG := Lib.hid hg; have HAT := Lib.hid hat; clear hown hst hg hat; have hbw2 := ((HBW.out.alloc (.cells #[.int .i64 s.self, .int .i64 s.peer, .int .i64 s.mine, .int .i64 s.yours, .int .i64 x.seq, .int .i64 s.heard, .string x.data, .bool true] 58)).drew.alloc (.cells #[.int .i64 s.self, .int .i64 s.peer, .int .i64 s.mine, .int .i64 s.yours, .int .i64 x.seq, .int .i64 s.heard, .string x.data, .bool true] 58)).step HST.out (by rw [HREL.out.fut _ (Nat.le_refl _)]; unfold only; omega); have r0 := hbw2.cell 0; have r1 := hbw2.cell 1; have r2 := hbw2.cell 2; have r3 := hbw2.cell 3; simp at r0 r1 r2 r3; have f2 := hbw2.frozen 2; have f3 := hbw2.frozen 3; have HBW2 := Lib.hid hbw2; clear hbw2)
        have hz : oL wr.heap.size = 0 := HREL.out.fut _ (Nat.le_refl _)
        have hs2 := (((((HREL.out.sess.alloc (.cells #[.int .i64 x.seq, .string x.data, .bool false, .int .i64 x.age] 122)).below_ HBF.out).alloc (.cells #[.int .i64 s.self, .int .i64 s.peer, .int .i64 s.mine, .int .i64 s.yours, .int .i64 x.seq, .int .i64 s.heard, .string x.data, .bool true] 58)).drewN 1).alloc (.cells #[.int .i64 s.self, .int .i64 s.peer, .int .i64 s.mine, .int .i64 s.yours, .int .i64 x.seq, .int .i64 s.heard, .string x.data, .bool true] 58)).step HST.out (by unfold only; omega) (by unfold only; omega) (by unfold only; omega)
        have hl2 := (((((HREL.out.list.alloc (.cells #[.int .i64 x.seq, .string x.data, .bool false, .int .i64 x.age] 122)).below_ HBF.out).alloc (.cells #[.int .i64 s.self, .int .i64 s.peer, .int .i64 s.mine, .int .i64 s.yours, .int .i64 x.seq, .int .i64 s.heard, .string x.data, .bool true] 58)).drewN 1).alloc (.cells #[.int .i64 s.self, .int .i64 s.peer, .int .i64 s.mine, .int .i64 s.yours, .int .i64 x.seq, .int .i64 s.heard, .string x.data, .bool true] 58)).step HST.out (by unfold only; omega)
        have hst2 := ((((HREL.out.step.alloc (.cells #[.int .i64 x.seq, .string x.data, .bool false, .int .i64 x.age] 122)).trans (Step.of_below oL (trio c) HBF.out)).alloc (.cells #[.int .i64 s.self, .int .i64 s.peer, .int .i64 s.mine, .int .i64 s.yours, .int .i64 x.seq, .int .i64 s.heard, .string x.data, .bool true] 58)).alloc (.cells #[.int .i64 s.self, .int .i64 s.peer, .int .i64 s.mine, .int .i64 s.yours, .int .i64 x.seq, .int .i64 s.heard, .string x.data, .bool true] 58)).drew.grownNew d HG.out HREL.out.base
        have hbase2 : ∀ g, v'.ownBlock = some g → w.heap.size ≤ g := by
          intro q hq
          rcases HAT.out with e | e
          · exact HREL.out.base q (e ▸ hq)
          · rw [e] at hq
            injection hq with hq
            have := HREL.out.step.size
            simp at hq
            omega
        have hown2 := HOWN.out
        have hcol2 := HST.out.old wr.heap.size (by simp; omega)
        rw [hz] at hcol2
        generalize hoB : band oL _ _ d = oB at hs2 hl2 hst2 hown2 hcol2
        clear hoB
        have hW : w.heap.size ≤ wr.heap.size := HREL.out.step.size
        have hbx := (HBW2.out.set_ 2 (.bool true)).set_ 3 (.int .i64 0)
        have s0 := ((Step.refl oB (only 0) w2).setCell (p := ⟨wr.heap.size, 2, none⟩) hcol2 (.bool true)).setCell (p := ⟨wr.heap.size, 3, none⟩) hcol2 (.int .i64 0)
        have hs3 := hs2.step s0 (by unfold only; omega) (by unfold only; omega) (by unfold only; omega)
        have hl3 := hl2.step s0 (by unfold only; omega)
        have hown3 := hown2.step s0 (by unfold only; omega)
        have hst3 := (hst2.setNew (p := ⟨wr.heap.size, 2, none⟩) hW (.bool true)).setNew (p := ⟨wr.heap.size, 3, none⟩) hW (.int .i64 0)
        have hf3 := hf.step hst3
        generalize (w2.setCell ⟨wr.heap.size, 2, none⟩ (.bool true)).setCell ⟨wr.heap.size, 3, none⟩ (.int .i64 0) = W at hbx hs3 hl3 hown3 hst3 hf3 ⊢
        have HS3 := Lib.hid hs3
        have HL3 := Lib.hid hl3
        have HO3 := Lib.hid hown3
        have HST3 := Lib.hid hst3
        have HBX := Lib.hid hbx
        have HBASE := Lib.hid hbase2
        have HCOL := Lib.hid hcol2
        obtain ⟨rr, mm, g0, g1, g2, g3, g4, g5, g6, g7, g8, glt, GB, GC, GR, GM⟩ := hs3.open_
        have y0 := hbx.cell 0
        have y1 := hbx.cell 1
        have y2 := hbx.cell 2
        have y3 := hbx.cell 3
        simp at y0 y1 y2 y3
        clear hs2 hl2 hst2 hown2 s0 hs3 hl3 hown3 hst3 hbx g0 g1 g2 g3 g5 g6 g7 g8 hbase2 hcol2 q0 q1 q2 q3 p0 p1 p2 p3 r0 r1 r2 r3 f2 f3 hz
        have hkl : k < ((s.out.take k).map Wt.out ++ s.out.drop k).length := by simp; omega
        go_region_held3 (fun w' => w'.cell? ⟨p, 4, none⟩ = some (.pointer (some ⟨rr, 0, none⟩)) ∧ w'.cell? ⟨wr.heap.size, 0, none⟩ = some (.int .i64 x.seq) ∧ w'.cell? ⟨wr.heap.size, 1, none⟩ = some (.string x.data) ∧ w'.cell? ⟨wr.heap.size, 2, none⟩ = some (.bool true) ∧ w'.cell? ⟨wr.heap.size, 3, none⟩ = some (.int .i64 0))
          (first | exact ⟨KP, K0, K1, K2, K3⟩ | go_keep)
          (first | (go_at_call 81; refine (set_lit GR.out k hkl x.seq x.data true 0).mono ?_; rintro e w4 ⟨rfl, hr4, hst4⟩; have hb4 := GB.out.step hst4 (by rw [GC.out]; unfold only; omega); have hx4 := HBX.out.step hst4 (by rw [HCOL.out]; unfold only; omega); have KP := hb4.cell 4; have K0 := hx4.cell 0; have K1 := hx4.cell 1; have K2 := hx4.cell 2; have K3 := hx4.cell 3))
        go_wp2_with fail
        go_roundw
        case rel =>
          have e1 : s.tells (s.out.take (k + 1)) = s.tells (s.out.take k) ++ [s.tell x] := by rw [take_snoc_ HX.out, tells_snoc, HSENT.out]; rfl
          have e2 : (s.out.take (k + 1)).map Wt.out ++ s.out.drop (k + 1) = ((s.out.take k).map Wt.out ++ s.out.drop k).set k ⟨x.seq, x.data, true, 0⟩ := by
            have hxo : x.out = ⟨x.seq, x.data, true, 0⟩ := by unfold Wt.out; rw [if_neg (by rw [HSENT.out]; simp)]
            exact (set_mid Wt.out s.out k x _ HX.out hxo).symm
          refine ⟨k + 1, oB, by go_num, hlt, ?_, HBASE.out, ?_, HL3.out.step hst4 (by unfold only; omega), HST3.out.trans (hst4.mono (trio_m1 c)), hf3.step hst4⟩
          · rw [e1, fcells_app, List.length_append]
            have := HO3.out.step hst4 (by unfold only; omega)
            simpa [fcells] using this
          · rw [e2]
            exact ⟨rr, mm, hb4, (hst4.old p (by simpa using glt)).trans GC.out, hr4, GM.out.step hst4 (by unfold only; omega)⟩
        case measure => simp [intOf]; omega
    · obtain rfl : k = s.out.length := Nat.le_antisymm HREL.out.le (by omega)
      have hown := HREL.out.own
      have hsess := HREL.out.sess
      rw [List.take_length] at hown
      rw [List.take_length, List.drop_length, List.append_nil] at hsess
      have hltI : ¬ (s.out.length : Int) < (s.out.length : Int) := by omega
      have hcnt := tells_le s s.out.length
      rw [List.take_length] at hcnt
      obtain ⟨A3, cap3, rfl, hc31, hc32⟩ := own_form hown
      obtain ⟨rr, mm, g0, g1, g2, g3, g4, g5, g6, g7, g8, glt, GB, GC, GR, GM⟩ := hsess.open_
      have gf8 := hsess.frozen 8
      have HS3 := Lib.hid hsess
      have HO3 := Lib.hid hown
      clear hsess hown
      cases howed : s.owed with
      | false =>
        rw [howed] at g8
        have HOWED := Lib.hid howed
        clear howed
        go_wp2_with fail
        go_ret
        have e1 : s.outF = s.tells s.out := by unfold St.outF; rw [HOWED.out]; simp
        refine ⟨_, rfl, oL, ?_, HS3.out.set_owed false, HREL.out.step.setCell (p := ⟨p, 8, none⟩) (trio_0 GC.out) _⟩
        rw [e1]
        exact HO3.out.setCell (p := ⟨p, 8, none⟩) (own_blk_ne HO3.out GB.out (by decide)) _
      | true =>
        rw [howed] at g8
        have HOWED := Lib.hid howed
        clear howed
        by_cases hemp : s.tells s.out = []
        · have hz0' : ((s.tells s.out).length : Int) == 0 := by rw [hemp]; rfl
          have e1 : s.outF = [s.frame] := by unfold St.outF; rw [HOWED.out]; simp [hemp]
          have HE := Lib.hid e1
          have HEMP := Lib.hid hemp
          clear e1 hemp
          go_wp2_with (first | (go_at_call 80; refine (frame_any HS3.out).mono ?_; rintro e wf ⟨rfl, hbf⟩; have HBF := Lib.hid hbf; clear hbf; simp only [Fr.agg, St.frame]) | (at_builtin; refine wpList_append_S _ rfl (.tmp 54) (.tmp 57) 96 rfl 58 i0 _ 8 72 Tryd.underlying96 hi hz0 hz1 hz2 rfl (by omega) (.slice A3 (s.tells s.out).length cap3) (s.tells s.out).length (fcells (s.tells s.out)) rfl ((HO3.out.below_ HBF.out).alloc _) _ 1 1 s.frame.cells rfl (Reads.newAt _ 58 8 1 _ _ _ (by simp) rfl rfl) (by simp [Fr.cells, Value.oneCell']) (by unfold maxLen; omega) (by omega) ?_; intro v' w2 hown hst hg hat; have hs2 := ((HS3.out.below_ HBF.out).alloc (.cells s.frame.cells.toArray 58)).step hst (by unfold only; omega) (by unfold only; omega) (by unfold only; omega); obtain ⟨r2, m2, z0, z1, z2, z3, z4, z5, z6, z7, z8, zlt, ZB, ZC, ZR, ZM⟩ := hs2.open_; have zf8 := hs2.frozen 8; have HOWN := Lib.hid hown; have HST := Lib.hid hst; have HG := Lib.hid hg; have HS2 := Lib.hid hs2; clear hown hst hg hat hs2))
          go_ret
          have hst2 := ((HREL.out.step.trans (Step.of_below oL (trio c) HBF.out)).alloc (.cells s.frame.cells.toArray 58)).grownNew d HG.out HREL.out.base
          refine ⟨_, rfl, _, ?_, HS2.out.set_owed false, hst2.setCell (p := ⟨p, 8, none⟩) (trio_0 ZC.out) _⟩
          rw [HE.out]
          have h9 := HOWN.out.setCell (p := ⟨p, 8, none⟩) (own_blk_ne HOWN.out ZB.out (by decide)) (.bool false)
          rw [HEMP.out] at h9
          simpa [fcells] using h9
        · have hpos : 0 < (s.tells s.out).length := List.length_pos_iff.2 hemp
          have hz0' : (((s.tells s.out).length : Int) == 0) = false := by rw [beq_eq_false_iff_ne]; omega
          have e1 : s.outF = s.tells s.out := by unfold St.outF; rw [HOWED.out]; simp [hemp]
          have HE := Lib.hid e1
          clear e1 hemp
          go_wp2_with fail
          go_ret
          refine ⟨_, rfl, oL, ?_, HS3.out.set_owed false, HREL.out.step.setCell (p := ⟨p, 8, none⟩) (trio_0 GC.out) _⟩
          rw [HE.out]
          exact HO3.out.setCell (p := ⟨p, 8, none⟩) (own_blk_ne HO3.out GB.out (by decide)) _
end Go.Proofs.YtoploimpfhnanaaDoor
