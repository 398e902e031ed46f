/- A session in memory: Tick. -/
import Derived.Test.YtoegkgebmldhaaaSessD
namespace Go.Proofs.Ytoegkgebmldhaaa
open Go.RowKit

def Wt.tick (x : Wt) : Wt := if x.sent then { x with age := x.age + 1, sent := decide (x.age + 1 < 4) } else x
def St.tickS (s : St) : St := { s with out := s.out.map Wt.tick }

/-- behind k rounds of a loop over the ring's list, whose round makes f of a message -/
structure EachRel (o : Nat → Nat) (c e : Nat) (w : World) (p : Nat) (s : St) (st : Nat → St) (lv : Value) (k : Nat) (wr : World) (oL : Nat → Nat) : Prop where
  le : k ≤ s.out.length
  sess : SessAt oL c wr p (st k)
  list : OwnS oL e wr 50 4 lv s.out.length (wcells s.out)
  step : Step o (trio c) w oL wr
  fut : Fut oL wr

/-- the states of Tick's loop -/
def St.tk (s : St) (k : Nat) : St := { s with out := (s.out.take k).map Wt.tick ++ s.out.drop k }

theorem EachRel.skip {o : Nat → Nat} {c e : Nat} {w : World} {p : Nat} {s : St} {st : Nat → St} {lv : Value} {k : Nat} {wr : World} {oL : Nat → Nat} (h : EachRel o c e w p s st lv k wr oL) (hk : k < s.out.length) (hs : st (k + 1) = st k) (y : Obj) :
    EachRel o c e w p s st lv (k + 1) (wr.alloc y) oL :=
  ⟨hk, by rw [hs]; exact h.sess.alloc y, h.list.alloc y, h.step.alloc y, h.fut.alloc y⟩

set_option maxHeartbeats 4000000 in
theorem tick_any {o : Nat → Nat} {c d : Nat} {w : World} {p : Nat} {s : St} (h : SessAt o c w p s) (hf : Fut o w) (hc : 1 ≤ c) (hd : 1 ≤ d) (hdc : d < c ∨ c + 2 < d) (hl : s.out.length ≤ 64) (hage : ∀ x ∈ s.out, 0 ≤ x.age ∧ x.age ≤ 1000) :
    Calls Try.prog 10 #[.pointer (some ⟨p, 0, none⟩)] w fun e w' => ∃ v o', e = .returned v ∧ OwnS o' d w' 34 8 v s.tickS.outF.length (fcells s.tickS.outF) ∧ SessAt o' c w' p s.tickS.outS ∧ Step o (trio c) w o' w' := by
  have HS := Lib.hid h
  obtain ⟨r, m, h0, h1, h2, h3, h4, h5, h6, h7, h8, hlt, HB, HC, HR, HM⟩ := h.open_
  clear h
  have HAGE := Lib.hid hage
  clear hage
  go_enter Try.func10, Try.ntmps10
  go_wp2_with (first | (go_at_call 19; refine (none_some _ _ _ h4).mono ?_; rintro e w' ⟨rfl, rfl⟩) | (go_at_call 23; refine (list_any (c + d + 3) HR.out (by omega)).mono ?_; rintro e w1 ⟨A1, cap1, rfl, hown1, hbl1⟩))
  clear h0 h1 h2 h3 h4 h5 h6 h7 h8
  have HOWN1 := Lib.hid hown1
  have HBL1 := Lib.hid hbl1
  clear hown1 hbl1 hlt
  go_loopw [13] (fun i wr => ∃ k : Nat, ∃ oL, i = .int .i64 k ∧ EachRel o c (c + d + 3) w p s s.tk (.slice A1 s.out.length cap1) k wr oL) (fun i _ => s.out.length - (intOf i).toNat)
  case atStart =>
    have hst := Step.of_below_band o (trio c) (c + d + 3) HBL1.out
    refine ⟨0, _, rfl, Nat.zero_le _, ?_, HOWN1.out, hst, hf.step hst⟩
    simpa [St.tk] using (HS.out.color (o' := band o w.heap.size w1.heap.size (c + d + 3)) (fun q hq => band_lt hq)).below_ HBL1.out
  case round =>
    obtain ⟨k, oL, rfl, hrel⟩ := hrel
    have HREL := Lib.hid hrel
    clear hrel
    by_cases hlt : k < s.out.length
    · have hltI : (k : Int) < (s.out.length : Int) := by omega
      have hnI : (s.out.length : Int) ≤ 64 := by omega
      obtain ⟨x, hx⟩ : ∃ x, s.out[k]? = some x := ⟨_, List.getElem?_eq_getElem hlt⟩
      have HX := Lib.hid hx
      have hxm := HAGE.out x (List.mem_of_getElem? hx)
      obtain ⟨ha1, ha2⟩ := hxm
      clear hx
      obtain ⟨g, rfl, hgl, hgc⟩ := HREL.out.list.addr (by omega)
      clear hgc
      obtain ⟨e0, e1, e2, e3⟩ := wcells_get _ _ _ HX.out
      have q0 := HREL.out.list.at_ e0
      have q1 := HREL.out.list.at_ e1
      have q2 := HREL.out.list.at_ e2
      have q3 := HREL.out.list.at_ e3
      clear e0 e1 e2 e3
      cases hsent : x.sent with
      | false =>
        rw [hsent] at q2
        have HSENT := Lib.hid hsent
        clear hsent
        go_wp2_with fail
        go_roundw
        case rel =>
          refine ⟨k + 1, oL, by go_num, HREL.out.skip hlt ?_ _⟩
          have hxo : x.tick = x := by unfold Wt.tick; rw [if_neg (by rw [HSENT.out]; simp)]
          unfold St.tk
          rw [take_snoc_ HX.out, drop_cons_ HX.out, List.map_append]
          simp [hxo]
        case measure => simp [intOf]; omega
      | true =>
        rw [hsent] at q2
        have HSENT := Lib.hid hsent
        clear hsent
        go_wp2_with fail
        have hbx := Blk.new wr 50 #[.int .i64 x.seq, .string x.data, .bool (decide (x.age + 1 < 4)), .int .i64 (x.age + 1)]
        have hz : oL wr.heap.size = 0 := HREL.out.fut _ (Nat.le_refl _)
        have HREL1 := Lib.hid (EachRel.mk (o := o) HREL.out.le (HREL.out.sess.alloc (.cells #[.int .i64 x.seq, .string x.data, .bool (decide (x.age + 1 < 4)), .int .i64 (x.age + 1)] 50)) (HREL.out.list.alloc _) (HREL.out.step.alloc _) (HREL.out.fut.alloc _))
        have hbsz : w.heap.size ≤ wr.heap.size := HREL.out.step.size
        generalize wr.alloc (.cells #[.int .i64 x.seq, .string x.data, .bool (decide (x.age + 1 < 4)), .int .i64 (x.age + 1)] 50) = W at hbx HREL1 ⊢
        obtain ⟨rr, mm, g0, g1, g2, g3, g4, g5, g6, g7, g8, glt, GB, GC, GR, GM⟩ := HREL1.out.sess.open_
        have y0 := hbx.cell 0
        have y1 := hbx.cell 1
        have y2 := hbx.cell 2
        have y3 := hbx.cell 3
        simp at y0 y1 y2 y3
        have HBX := Lib.hid hbx
        have HCOL := Lib.hid hz
        clear hbx hz g0 g1 g2 g3 g5 g6 g7 g8 q0 q1 q2 q3
        have hkl : k < (s.tk k).out.length := by simp [St.tk]; omega
        go_region_held3 (fun w' => w'.cell? ⟨p, 4, none⟩ = some (.pointer (some ⟨rr, 0, none⟩)) ∧ w'.cell? ⟨wr.heap.size, 0, none⟩ = some (.int .i64 x.seq) ∧ w'.cell? ⟨wr.heap.size, 1, none⟩ = some (.string x.data) ∧ w'.cell? ⟨wr.heap.size, 2, none⟩ = some (.bool (decide (x.age + 1 < 4))) ∧ w'.cell? ⟨wr.heap.size, 3, none⟩ = some (.int .i64 (x.age + 1)))
          (first | exact ⟨KP, K0, K1, K2, K3⟩ | go_keep)
          (first | (go_at_call 24; refine (set_lit GR.out k hkl x.seq x.data (decide (x.age + 1 < 4)) (x.age + 1)).mono ?_; rintro e w4 ⟨rfl, hr4, hst4⟩; have hb4 := GB.out.step hst4 (by rw [GC.out]; unfold only; omega); have hx4 := HBX.out.step hst4 (by rw [HCOL.out]; unfold only; omega); have KP := hb4.cell 4; have K0 := hx4.cell 0; have K1 := hx4.cell 1; have K2 := hx4.cell 2; have K3 := hx4.cell 3))
        go_wp2_with fail
        go_roundw
        case rel =>
          have hxo : x.tick = ⟨x.seq, x.data, decide (x.age + 1 < 4), x.age + 1⟩ := by unfold Wt.tick; rw [if_pos HSENT.out]
          have e2 := set_mid Wt.tick s.out k x _ HX.out hxo
          refine ⟨k + 1, oL, by go_num, hlt, ?_, HREL1.out.list.step hst4 (by unfold only; omega), HREL1.out.step.trans (hst4.mono (trio_m1 c)), HREL1.out.fut.step hst4⟩
          refine ⟨rr, mm, hb4, (hst4.old p (by simpa using glt)).trans GC.out, ?_, GM.out.step hst4 (by unfold only; omega)⟩
          show RingAt oL (c + 1) w4 rr 64 ((s.out.take (k + 1)).map Wt.tick ++ s.out.drop (k + 1))
          rw [← e2]
          exact hr4
        case measure => simp [intOf]; omega
    · obtain rfl : k = s.out.length := Nat.le_antisymm HREL.out.le (by omega)
      have hsess := HREL.out.sess
      have hst : s.tk s.out.length = s.tickS := by unfold St.tk St.tickS; rw [List.take_length, List.drop_length, List.append_nil]
      rw [hst] at hsess
      have HS3 := Lib.hid hsess
      clear hsess hst
      have hltI : ¬ (s.out.length : Int) < (s.out.length : Int) := by omega
      go_wp2_with (go_at_call 12; refine (out_any HS3.out HREL.out.fut hc hd hdc (by simpa [St.tickS] using hl)).mono ?_; rintro e w2 ⟨v2, o2, rfl, hown2, hs2, hst2⟩)
      go_ret
      first | exact ⟨_, rfl, o2, hown2, hs2, HREL.out.step.trans hst2⟩ | exact ⟨_, o2, rfl, hown2, hs2, HREL.out.step.trans hst2⟩
end Go.Proofs.Ytoegkgebmldhaaa
