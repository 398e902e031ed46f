/- A session in memory: Take. -/
import Derived.Test.YtoploimpfhnanaaDoorSessF
import Derived.Deep.CutBlock
namespace Go.Proofs.YtoploimpfhnanaaDoor
open Go.RowKit

def St.takeS1 (s : St) (f : Fr) : St := if s.yours < f.Mine then s.greaterS f.Mine else s
def St.ackS (s : St) (a : Int) : St := { s with out := s.out.dropWhile (fun x => decide (x.seq ≤ a)) }
def St.insS (s : St) (f : Fr) : St := if getA s.ahead f.Seq = none ∧ s.heard < f.Seq ∧ f.Seq - s.heard - 1 ≤ 64 then { s with ahead := (f.Seq, f.Data) :: s.ahead } else s
def St.deliver : Nat → St → List ByteArray × St
  | 0, s => ([], s)
  | n + 1, s => match getA s.ahead (s.heard + 1) with
    | none => ([], s)
    | some d => (d :: (St.deliver n { s with ahead := delA s.ahead (s.heard + 1), heard := s.heard + 1 }).1, (St.deliver n { s with ahead := delA s.ahead (s.heard + 1), heard := s.heard + 1 }).2)
def St.take4 (s : St) (f : Fr) : St := St.insS { (s.takeS1 f).ackS f.Ack with owed := true } f
def St.takeF (s : St) (f : Fr) : List ByteArray × St :=
  if f.Yours ≠ (s.takeS1 f).mine then ([], { s.takeS1 f with owed := true })
  else if f.Has = false then ([], (s.takeS1 f).ackS f.Ack)
  else St.deliver (s.take4 f).ahead.length (s.take4 f)

def hdW : List Wt → Wt
  | [] => Wt.zero
  | x :: _ => x
theorem peek_any {o : Nat → Nat} {c : Nat} {w : World} {r : Nat} {most : Int} {l : List Wt} (h : RingAt o c w r most l) :
    Calls Tryd.prog 83 #[.pointer (some ⟨r, 0, none⟩), .int .i64 0] w fun e w' => e = .returned (.tuple #[.agg #[.int .i64 (hdW l).seq, .string (hdW l).data, .bool (hdW l).sent, .int .i64 (hdW l).age], .bool (!l.isEmpty)]) ∧ Below w.heap.size w w' := by
  cases l with
  | nil => exact peek_none h
  | cons x l => exact peek_some h
def St.s3 (s : St) (f : Fr) : St := { (s.takeS1 f).ackS f.Ack with owed := true }
theorem take4_eq (s : St) (f : Fr) : s.take4 f = (s.s3 f).insS f := rfl
def insB (s : St) (f : Fr) : Bool := (getA s.ahead f.Seq).isNone && decide (s.heard < f.Seq) && decide (f.Seq - s.heard - 1 ≤ 64)
/-- what stands at the meeting behind the greater life -/
structure TakeRel (o : Nat → Nat) (c : Nat) (w : World) (p bf : Nat) (s1 : St) (f : Fr) (o1 : Nat → Nat) (wc : World) : Prop where
  sess : SessAt o1 c wc p s1
  box : Blk wc bf 58 #[.int .i64 f.From, .int .i64 f.To, .int .i64 f.Mine, .int .i64 f.Yours, .int .i64 f.Seq, .int .i64 f.Ack, .string f.Data, .bool f.Has]
  col : o1 bf = 0
  new : w.heap.size ≤ bf
  step : Step o (trio c) w o1 wc
  fut : Fut o1 wc

/-- at the head of the loop that drops what was acked -/
structure AckRel (o : Nat → Nat) (c : Nat) (w : World) (p bf : Nat) (s1 : St) (f : Fr) (oL : Nat → Nat) (wr : World) (bx : Nat) (l : List Wt) : Prop where
  rel : TakeRel o c w p bf { s1 with out := l } f oL wr
  suf : l.dropWhile (fun x => decide (x.seq ≤ f.Ack)) = s1.out.dropWhile (fun x => decide (x.seq ≤ f.Ack))
  blk : Blk wr bx 122 #[.int .i64 (hdW l).seq, .string (hdW l).data, .bool (hdW l).sent, .int .i64 (hdW l).age]
  bcol : oL bx = 0
  bnew : w.heap.size ≤ bx
  len : l.length ≤ 64
theorem TakeRel.below_ {o : Nat → Nat} {c : Nat} {w : World} {p bf : Nat} {s1 : St} {f : Fr} {o1 : Nat → Nat} {wc w2 : World} (h : TakeRel o c w p bf s1 f o1 wc) (hb : Below wc.heap.size wc w2) : TakeRel o c w p bf s1 f o1 w2 :=
  ⟨h.sess.below_ hb, h.box.below_ hb, h.col, h.new, h.step.trans (Step.of_below _ _ hb), h.fut.below hb⟩
theorem TakeRel.drewN {o : Nat → Nat} {c : Nat} {w : World} {p bf : Nat} {s1 : St} {f : Fr} {o1 : Nat → Nat} {wc : World} (h : TakeRel o c w p bf s1 f o1 wc) (n : Nat) : TakeRel o c w p bf s1 f o1 (wc.drewN n) :=
  ⟨h.sess, h.box, h.col, h.new, h.step.drewN n, h.fut⟩
theorem TakeRel.alloc {o : Nat → Nat} {c : Nat} {w : World} {p bf : Nat} {s1 : St} {f : Fr} {o1 : Nat → Nat} {wc : World} (h : TakeRel o c w p bf s1 f o1 wc) (y : Obj) : TakeRel o c w p bf s1 f o1 (wc.alloc y) :=
  ⟨h.sess.alloc y, h.box.alloc y, h.col, h.new, h.step.alloc y, h.fut.alloc y⟩

theorem TakeRel.setBox {o : Nat → Nat} {c : Nat} {w : World} {p : Nat} {s1 : St} {f : Fr} {o1 : Nat → Nat} {wc : World} (h : TakeRel o c w p w.heap.size s1 f o1 wc) {b : Nat} (hb : o1 b = 0) (hw : w.heap.size ≤ b) {cs : Array Value} (hx : Blk wc b 122 cs) (_hc : 1 ≤ c) (v0 v1 v2 v3 : Value) :
    TakeRel o c w p w.heap.size s1 f o1 ((((wc.setCell ⟨b, 0, none⟩ v0).setCell ⟨b, 1, none⟩ v1).setCell ⟨b, 2, none⟩ v2).setCell ⟨b, 3, none⟩ v3) := by
  have s0 := ((((Step.refl o1 (only 0) wc).setCell (p := ⟨b, 0, none⟩) hb v0).setCell (p := ⟨b, 1, none⟩) hb v1).setCell (p := ⟨b, 2, none⟩) hb v2).setCell (p := ⟨b, 3, none⟩) hb v3
  have hne : w.heap.size ≠ b := h.box.ne_ hx (by decide)
  have st := (((h.step.setNew (p := ⟨b, 0, none⟩) hw v0).setNew (p := ⟨b, 1, none⟩) hw v1).setNew (p := ⟨b, 2, none⟩) hw v2).setNew (p := ⟨b, 3, none⟩) hw v3
  exact ⟨h.sess.step s0 (by unfold only; omega) (by unfold only; omega) (by unfold only; omega), (((h.box.far (p := ⟨b, 0, none⟩) hne v0).far (p := ⟨b, 1, none⟩) hne v1).far (p := ⟨b, 2, none⟩) hne v2).far (p := ⟨b, 3, none⟩) hne v3, h.col, h.new, st, h.fut.step s0⟩

theorem TakeRel.setOwed {o : Nat → Nat} {c : Nat} {w : World} {p : Nat} {s1 : St} {f : Fr} {o1 : Nat → Nat} {wc : World} (h : TakeRel o c w p w.heap.size s1 f o1 wc) (hc : 1 ≤ c) (v : Bool) :
    TakeRel o c w p w.heap.size { s1 with owed := v } f o1 (wc.setCell ⟨p, 8, none⟩ (.bool v)) := by
  have hcol := h.sess.col
  have hne : w.heap.size ≠ p := by
    rintro rfl
    have := h.col
    omega
  have st := h.step.setCell (p := ⟨p, 8, none⟩) (trio_0 hcol) (.bool v)
  exact ⟨h.sess.set_owed v, h.box.far (p := ⟨p, 8, none⟩) hne _, h.col, h.new, st, h.fut.setCell _ _⟩

theorem info_s : (Tryd.prog.info? 9).map (fun i => (i.zero, i.size, i.bytes)) = some (some (.string ⟨#[]⟩), 1, 16) := by kernel_rfl
theorem step_delete_S {ops : Array Oper} {op : Oper} {a : Act} {w : World} {K : Act → World → Prop} {Q : Exit → Act → World → Prop} {E : Prop} (hgd : op.guard = none) (m x : Operand)
    (hop : op.op = Op.call { callee := Callee.builtin Builtin.delete, args := #[m, x], argTypes := #[123, 3] }) {o : Nat → Nat} {c b : Nat} {al : List (Int × ByteArray)} {k : Int}
    (hm : a.eval m = .map (some b)) (hx : a.eval x = .int .i64 k) (h : MapAt o c w b al) (hk : i64 k)
    (hK : ∀ w', MapAt o c w' b (delA al k) → Step o (only c) w o w' → w.grownBy w' (some b) → K (a.put op.dst (.tuple #[])) w') :
    if Region.wanted op (yielded ops a.tmps) = true then Oper.wp Tryd.prog op a w K Q else E := by
  have hw : Region.wanted op (yielded ops a.tmps) = true := by simp [Region.wanted, hgd]
  rw [if_pos hw]
  obtain ⟨w', hrun, h1, h2, h3⟩ := h.del hk op.type
  unfold Oper.wp
  simp [execOp, hop, resolve, invoke, builtin, hm, hx, hrun, Result.andThen]
  exact hK w' h1 h2 h3
/-- at the head of the loop that tells -/
structure DelRel (o : Nat → Nat) (c d : Nat) (w : World) (p : Nat) (s4 : St) (f : Fr) (oL : Nat → Nat) (wr : World) (n : Nat) (v : Value) (sD : St) (col : List ByteArray) : Prop where
  rel : TakeRel o c w p w.heap.size sD f oL wr
  cnt : n = sD.ahead.length
  own : OwnS oL d wr 9 1 v col.length (col.map Value.string)
  base : ∀ g, v.ownBlock = some g → w.heap.size ≤ g
  tot : (col ++ (St.deliver n sD).1, (St.deliver n sD).2) = St.deliver s4.ahead.length s4
  lo : 0 ≤ sD.heard
  hi : sD.heard + n ≤ 1000000200000
  len : col.length + n ≤ 200000
theorem TakeRel.grow {o : Nat → Nat} {c d : Nat} {w : World} {p : Nat} {s1 : St} {f : Fr} {o1 : Nat → Nat} {wc w' : World} {row : Option Nat} (h : TakeRel o c w p w.heap.size s1 f o1 wc) (hg : wc.grownBy w' row) (hst : Step o1 (only d) wc (band o1 wc.heap.size w'.heap.size d) w')
    (hrow : ∀ k, row = some k → w.heap.size ≤ k) (hf : Fut o w) (_hc : 1 ≤ c) (hd : 1 ≤ d) (hdc : d < c ∨ c + 2 < d) : TakeRel o c w p w.heap.size s1 f (band o1 wc.heap.size w'.heap.size d) w' := by
  have st := h.step.grownNew d hg hrow
  exact ⟨h.sess.step hst (by unfold only; omega) (by unfold only; omega) (by unfold only; omega), h.box.step hst (by rw [h.col]; unfold only; omega), (hst.old _ h.box.lt).trans h.col, h.new, st, hf.step st⟩
theorem deliver_none {n : Nat} {s : St} (h : getA s.ahead (s.heard + 1) = none) : St.deliver n s = ([], s) := by
  cases n with
  | zero => rfl
  | succ n => simp [St.deliver, h]
theorem TakeRel.setHeard {o : Nat → Nat} {c : Nat} {w : World} {p : Nat} {s1 : St} {f : Fr} {o1 : Nat → Nat} {wc : World} (h : TakeRel o c w p w.heap.size s1 f o1 wc) (hc : 1 ≤ c) (v : Int) :
    TakeRel o c w p w.heap.size { s1 with heard := v } f o1 (wc.setCell ⟨p, 6, none⟩ (.int .i64 v)) := by
  have hcol := h.sess.col
  have hne : w.heap.size ≠ p := by
    rintro rfl
    have := h.col
    omega
  have st := h.step.setCell (p := ⟨p, 6, none⟩) (trio_0 hcol) (.int .i64 v)
  exact ⟨h.sess.set_heard v, h.box.far (p := ⟨p, 6, none⟩) hne _, h.col, h.new, st, h.fut.setCell _ _⟩

set_option maxRecDepth 100000 in
set_option maxHeartbeats 8000000 in
theorem take_any {o : Nat → Nat} {c d : Nat} {w : World} {p : Nat} {s : St} (h : SessAt o c w p s) (hf : Fut o w) (hc : 1 ≤ c) (hd : 1 ≤ d) (hdc : d < c ∨ c + 2 < d) (hl : s.out.length ≤ 64) (f : Fr)
    (hF : f.From = s.peer) (hT : f.To = s.self) (hM : 1 ≤ f.Mine) (hY : s.yours ≤ f.Mine) (hYm : f.Yours ≤ s.mine)
    (hSq : 0 ≤ f.Seq ∧ f.Seq ≤ 1000000000000) (hHd : 0 ≤ (s.takeS1 f).heard ∧ (s.takeS1 f).heard ≤ 1000000000000) (hAl : (s.takeS1 f).ahead.length ≤ 100000) (hDt : f.Data.size ≤ 3000) :
    Calls Tryd.prog 57 #[.pointer (some ⟨p, 0, none⟩), f.agg] w fun e w' => ∃ v o', e = .returned (.tuple #[v, .bool true]) ∧ OwnS o' d w' 9 1 v (s.takeF f).1.length ((s.takeF f).1.map Value.string) ∧ SessAt o' c w' p (s.takeF f).2 ∧ Step o (trio c) w o' w' := by
  have HS := Lib.hid h
  have HSQ := Lib.hid hSq
  have HHD := Lib.hid hHd
  have HAL := Lib.hid hAl
  have HDT := Lib.hid hDt
  clear hSq hHd hAl hDt
  obtain ⟨r, m, h0, h1, h2, h3, h4, h5, h6, h7, h8, hlt, HB, HC, HR, HM⟩ := h.open_
  clear h
  have t1 : (f.From != s.peer) = false := by simp [hF]
  have t2 : (f.To != s.self) = false := by simp [hT]
  have t3 : ¬ f.Mine < 1 := by omega
  have t4 : ¬ f.Mine < s.yours := by omega
  have t5 : ¬ s.mine < f.Yours := by omega
  have t3d : decide (f.Mine < 1) = false := by simp; omega
  have t4d : decide (f.Mine < s.yours) = false := by simp; omega
  have t5d : decide (s.mine < f.Yours) = false := by simp; omega
  clear hF hT
  unfold Fr.agg
  go_enter Tryd.func57, Tryd.ntmps57
  go_wp2_with fail
  go_quiet ((go_at_call 76; exact Calls.quiet_of_same ((none_some _ _ _ (by first | exact (World.cell?_alloc_lt _ _ _ hlt).trans h4 | simpa using h4)).mono (fun _ _ ⟨a, b⟩ => ⟨a, b.symm⟩))))
  go_wp2_with fail
  go_quiet (fail)
  go_upto_if 62 with (fail)
  go_cut [] (fun wc => ∃ o1, TakeRel o c w p w.heap.size (s.takeS1 f) f o1 wc)
  case first =>
    by_cases hgr : s.yours < f.Mine
    · have e1 : s.takeS1 f = s.greaterS f.Mine := by unfold St.takeS1; rw [if_pos hgr]
      have E1 := Lib.hid e1
      clear e1
      go_wp2_with (go_at_call 82; refine (greater_any (o := o) ((HS.out.alloc _).drewN _) ((hf.alloc _).drewN _) hc hl f.Mine).mono ?_; rintro e w2 ⟨o2, rfl, hs2, hst2⟩)
      go_meet
      case rel =>
        have b2 := (((Blk.new w 58 #[.int .i64 f.From, .int .i64 f.To, .int .i64 f.Mine, .int .i64 f.Yours, .int .i64 f.Seq, .int .i64 f.Ack, .string f.Data, .bool f.Has]).drewN _)).step hst2 (by rw [hf.at_]; unfold trio; omega)
        have st := (((Step.refl o (trio c) w).alloc _).drewN _).trans hst2
        exact ⟨o2, by rw [E1.out]; exact hs2, b2, (hst2.old _ (by simp)).trans hf.at_, Nat.le_refl _, st, hf.step st⟩
    · have e1 : s.takeS1 f = s := by unfold St.takeS1; rw [if_neg hgr]
      have E1 := Lib.hid e1
      clear e1
      go_wp2_with fail
      go_meet
      case rel =>
        refine ⟨o, ?_, ?_, hf.at_, Nat.le_refl _, ?_, ?_⟩
        · rw [E1.out]
          exact (HS.out.alloc _).drewN _
        · exact (Blk.new w 58 _).drewN _
        · exact ((Step.refl o (trio c) w).alloc _).drewN _
        · exact (hf.alloc _).drewN _
  case rest =>
    obtain ⟨o1, hcut⟩ := hcut
    have hlout : (s.takeS1 f).out.length ≤ 64 := by
      unfold St.takeS1
      split
      · show (renum s.g0 0).length ≤ 64
        rw [renum_len]
        unfold St.g0
        split
        · simp
        · exact hl
      · exact hl
    have hmine : (s.takeS1 f).mine = s.mine := by unfold St.takeS1; split <;> rfl
    have HREL := Lib.hid hcut
    have HLO := Lib.hid hlout
    have HMI := Lib.hid hmine
    clear h0 h1 h2 h3 h4 h5 h6 h7 h8 hlt HB HC HR HM t1 t2 t3 t4 t5 t3d t4d t5d hcut hlout hmine
    obtain ⟨r1, m1, h0, h1, h2, h3, h4, h5, h6, h7, h8, hlt, HB, HC, HR, HM⟩ := HREL.out.sess.open_
    rw [HMI.out] at h2
    have fz8 := HREL.out.sess.frozen 8
    have hbf := HREL.out.box
    have b0 := hbf.cell 0
    have b3 := hbf.cell 3
    have b4 := hbf.cell 4
    have b5 := hbf.cell 5
    have b6 := hbf.cell 6
    have b7 := hbf.cell 7
    simp at b0 b3 b4 b5 b6 b7
    clear hbf
    by_cases hym : f.Yours = s.mine
    · have tm : (f.Yours != s.mine) = false := by simp [hym]
      have HYM := Lib.hid hym
      clear hym
      go_wp2_with fail
      go_quiet (fail)
      go_upto_block 0 with (go_at_call 83; refine (peek_any (HR.out.drewN _)).mono ?_; rintro e w2 ⟨rfl, hb2⟩)
      have hrel2 := (HREL.out.drewN _).below_ hb2
      have HREL2 := Lib.hid hrel2
      clear hrel2 hb2
      go_cut [6, 7] (fun _ _ wx => ∃ oL, TakeRel o c w p w.heap.size ((s.takeS1 f).ackS f.Ack) f oL wx)
      case first =>
        clear h0 h1 h2 h3 h4 h5 h6 h7 h8 hlt HB HC HR HM fz8 b0 b3 b4 b5 b6 b7
        go_wp2_with fail
        go_loopg [6, 7] (s.takeS1 f).out.length (fun n t6 t7 wr => ∃ l oL bx, n = l.length ∧ t6 = .pointer (some ⟨bx, 0, none⟩) ∧ t7 = .bool (!l.isEmpty) ∧ AckRel o c w p w.heap.size (s.takeS1 f) f oL wr bx l)
        case atStart =>
          exact ⟨(s.takeS1 f).out, o1, _, rfl, rfl, rfl, HREL2.out.alloc _, rfl, Blk.new _ _ _, HREL2.out.fut.at_, HREL2.out.step.size, HLO.out⟩
        case round =>
          obtain ⟨l, oL, bx, rfl, rfl, rfl, hrel⟩ := hrel
          have HA := Lib.hid hrel
          clear hrel
          have hbx := HA.out.blk
          have hbf := HA.out.rel.box
          have p0 := hbx.cell 0
          have b5 := hbf.cell 5
          simp at p0 b5
          clear hbx hbf
          cases l with
          | nil =>
            go_wp2_with fail
            go_meet
            case rel =>
              have hs : (s.takeS1 f).ackS f.Ack = { s.takeS1 f with out := [] } := by
                unfold St.ackS
                rw [← HA.out.suf]
                rfl
              rw [hs]
              exact ⟨oL, HA.out.rel⟩
          | cons x l =>
            change wr.cell? ⟨bx, 0, none⟩ = some (.int .i64 x.seq) at p0
            by_cases hle : x.seq ≤ f.Ack
            · obtain ⟨rr, mm, g0, g1, g2, g3, g4, g5, g6, g7, g8, glt, GB, GC, GR, GM⟩ := HA.out.rel.sess.open_
              clear g0 g1 g2 g3 g5 g6 g7 g8
              have hlen := HA.out.len
              go_wp2_with (first | (go_at_call 84; refine (pop_some GR.out (by omega) HA.out.rel.fut (by omega)).mono ?_; rintro e w3 ⟨rfl, oP, hr3, hst3⟩; have hsess3 : SessAt oP c w3 p { s.takeS1 f with out := l } := ⟨rr, mm, GB.out.step hst3 (by rw [GC.out]; unfold only; omega), (hst3.old p glt).trans GC.out, hr3, GM.out.step hst3 (by unfold only; omega)⟩; have hb3 := HA.out.blk.step hst3 (by rw [HA.out.bcol]; unfold only; omega); have y0 := hb3.cell 0; have y1 := hb3.cell 1; have y2 := hb3.cell 2; have y3 := hb3.cell 3; change w3.cell? ⟨bx, 0, none⟩ = some (.int .i64 x.seq) at y0; change w3.cell? ⟨bx, 1, none⟩ = some (.string x.data) at y1; change w3.cell? ⟨bx, 2, none⟩ = some (.bool x.sent) at y2; change w3.cell? ⟨bx, 3, none⟩ = some (.int .i64 x.age) at y3; have hbl3 := hb3.lt; have hpl3 := (GB.out.step hst3 (by rw [GC.out]; unfold only; omega)).lt; have z4 := (GB.out.step hst3 (by rw [GC.out]; unfold only; omega)).cell 4; change w3.cell? ⟨p, 4, none⟩ = some (.pointer (some ⟨rr, 0, none⟩)) at z4; have HSS3 := Lib.hid hsess3; have HR3 := Lib.hid hr3; have HST3 := Lib.hid hst3; have HB3 := Lib.hid hb3; clear hsess3 hr3 hst3 hb3) | (go_at_call 83; refine (peek_any (HR3.out.alloc _)).mono ?_; rintro e w4 ⟨rfl, hb4⟩; have hn4 := (Blk.new w3 122 #[.int .i64 x.seq, .string x.data, .bool x.sent, .int .i64 x.age]).below_ hb4; have n0 := hn4.cell 0; have n1 := hn4.cell 1; have n2 := hn4.cell 2; have n3 := hn4.cell 3; simp at n0 n1 n2 n3; have m0 := hn4.frozen 0; have m1 := hn4.frozen 1; have m2 := hn4.frozen 2; have m3 := hn4.frozen 3; have HN4 := Lib.hid hn4; have HB4 := Lib.hid hb4; clear hn4 hb4))
              go_roundg l.length
              case measure => simp
              case rel =>
                have hw3 : w.heap.size ≤ w3.heap.size := Nat.le_trans HA.out.rel.step.size HST3.out.size
                have hrel3 : TakeRel o c w p w.heap.size { s.takeS1 f with out := l } f oP w3 :=
                  ⟨HSS3.out, HA.out.rel.box.step HST3.out (by rw [HA.out.rel.col]; unfold only; omega), (HST3.out.old _ HA.out.rel.box.lt).trans HA.out.rel.col, Nat.le_refl _, HA.out.rel.step.trans (HST3.out.mono (trio_m1 c)), HA.out.rel.fut.step HST3.out⟩
                have hrel4 := (hrel3.alloc (.cells #[.int .i64 x.seq, .string x.data, .bool x.sent, .int .i64 x.age] 122)).below_ HB4.out
                have hz3 : oP w3.heap.size = 0 := hrel3.fut.at_
                refine ⟨l, oP, w3.heap.size, rfl, rfl, rfl, hrel4.setBox hz3 hw3 HN4.out hc _ _ _ _, ?_, ?_, hz3, hw3, by have := HA.out.len; simp at this; omega⟩
                · rw [← HA.out.suf, List.dropWhile_cons, if_pos (by simpa using hle)]
                · exact (((HN4.out.set_ 0 _).set_ 1 _).set_ 2 _).set_ 3 _
            · go_wp2_with fail
              go_meet
              case rel =>
                have hs : (s.takeS1 f).ackS f.Ack = { s.takeS1 f with out := x :: l } := by
                  unfold St.ackS
                  rw [← HA.out.suf, List.dropWhile_cons, if_neg (by simpa using hle)]
                rw [hs]
                exact ⟨oL, HA.out.rel⟩
      case rest =>
        obtain ⟨oL, hcut⟩ := hcut
        have HREL3 := Lib.hid hcut
        clear hcut h0 h1 h2 h3 h4 h5 h6 h7 h8 hlt HB HC HR HM fz8 b0 b3 b4 b5 b6 b7 HREL2
        have fz8 := HREL3.out.sess.frozen 8
        obtain ⟨r1, m1, h0, h1, h2, h3, h4, h5, h6, h7, h8, hlt, HB, HC, HR, HM⟩ := HREL3.out.sess.open_
        have hbf := HREL3.out.box
        have b4 := hbf.cell 4
        have b6 := hbf.cell 6
        have b7 := hbf.cell 7
        simp at b4 b6 b7
        clear hbf h0 h1 h2 h3 h4 h5 h6
        cases hhas : f.Has with
        | false =>
          rw [hhas] at b7
          have e1 : s.takeF f = ([], (s.takeS1 f).ackS f.Ack) := by unfold St.takeF; rw [HMI.out, if_neg (by rw [HYM.out]; simp), if_pos hhas]
          have E1 := Lib.hid e1
          clear e1 hhas
          go_wp2_with fail
          go_ret2
          first | refine ⟨_, rfl, oL, ?_, ?_, ?_⟩ | refine ⟨_, oL, rfl, ?_, ?_, ?_⟩
          · rw [E1.out]; exact OwnS.nil _ _ _ _ _
          · rw [E1.out]; exact HREL3.out.sess
          · exact HREL3.out.step
        | true =>
          rw [hhas] at b7
          have HHAS := Lib.hid hhas
          clear hhas
          go_upto_region 17 with (fail)
          have hrel3 : TakeRel o c w p w.heap.size (s.s3 f) f oL (World.setCell _ ⟨p, 8, none⟩ (.bool true)) := HREL3.out.setOwed hc true
          generalize World.setCell _ ⟨p, 8, none⟩ (.bool true) = W at hrel3 ⊢
          have HR3 := Lib.hid hrel3
          clear hrel3 h7 h8 hlt HB HC HR HM fz8 b4 b6 b7 HREL3
          have hhd : 0 ≤ (s.s3 f).heard ∧ (s.s3 f).heard ≤ 1000000000000 := HHD.out
          have hsq := HSQ.out
          have hal : (s.s3 f).ahead.length ≤ 100000 := HAL.out
          have E1 : Hid (s.takeF f = St.deliver (s.take4 f).ahead.length (s.take4 f)) := by unfold St.takeF; rw [HMI.out, if_neg (by rw [HYM.out]; simp), if_neg (by rw [HHAS.out]; simp)]; rfl
          rw [take4_eq] at E1
          have hmn : (s.s3 f).self = (s.takeS1 f).self := rfl
          clear hmn
          generalize s.s3 f = s3 at HR3 hhd hal E1
          obtain ⟨hd1, hd2⟩ := hhd
          obtain ⟨sq1, sq2⟩ := hsq
          have hi : i64 f.Seq := ⟨by omega, by omega⟩
          obtain ⟨r1, m1, h0, h1, h2, h3, h4, h5, h6, h7, h8, hlt, HB, HC, HR, HM⟩ := HR3.out.sess.open_
          have hlook : ∀ n, (Instr.lookup 123 (.map (some m1)) (.int .i64 f.Seq) true).run Tryd.prog (W.drewN n) = .ok (.tuple #[.string ((getA s3.ahead f.Seq).getD ⟨#[]⟩), .bool (getA s3.ahead f.Seq).isSome]) (W.drewN n) := fun n => (show MapAt oL (c + 2) (W.drewN n) m1 s3.ahead from HM.out).look hi
          have hbf := HR3.out.box
          have b4 := hbf.cell 4
          have b6 := hbf.cell 6
          simp at b4 b6
          clear hbf h0 h1 h2 h3 h4 h5 h8
          have HI := Lib.hid hi
          clear hi
          go_quiet (fail)
          go_upto_region 18 with (fail)
          go_cut [8, 9, 144] (fun _ _ t wy => t = .bool (insB s3 f) ∧ TakeRel o c w p w.heap.size s3 f oL wy)
          case first =>
            cases hg : getA s3.ahead f.Seq with
            | some dd =>
              have eb : insB s3 f = false := by unfold insB; rw [hg]; rfl
              have EB := Lib.hid eb
              clear eb hlook
              simp only [Option.isSome_some]
              go_quiet (fail)
              go_wp2_with fail
              go_meet
              case rel => exact ⟨by rw [EB.out], by first | exact HR3.out.drewN _ | exact (HR3.out.drewN _).drewN _⟩
            | none =>
              simp only [Option.isSome_none]
              by_cases hlt1 : s3.heard < f.Seq
              · by_cases hle1 : f.Seq - s3.heard - 1 ≤ 64
                · have eb : insB s3 f = true := by unfold insB; rw [hg]; simp; omega
                  have EB := Lib.hid eb
                  clear eb hlook
                  go_quiet (fail)
                  go_wp2_with fail
                  go_meet
                  case rel => exact ⟨by rw [EB.out], by first | exact HR3.out.drewN _ | exact (HR3.out.drewN _).drewN _⟩
                · have eb : insB s3 f = false := by unfold insB; rw [hg]; simp; omega
                  have EB := Lib.hid eb
                  have hd1 : decide (f.Seq - s3.heard - 1 ≤ 64) = false := by simp; omega
                  clear eb hlook
                  go_quiet (fail)
                  go_wp2_with fail
                  go_meet
                  case rel => exact ⟨by rw [EB.out], by first | exact HR3.out.drewN _ | exact (HR3.out.drewN _).drewN _⟩
              · have eb : insB s3 f = false := by unfold insB; rw [hg]; simp; omega
                have EB := Lib.hid eb
                have hd1 : decide (s3.heard < f.Seq) = false := by simp; omega
                clear eb hlook
                go_quiet (fail)
                go_wp2_with fail
                go_meet
                case rel => exact ⟨by rw [EB.out], by first | exact HR3.out.drewN _ | exact (HR3.out.drewN _).drewN _⟩
          case rest =>
            obtain ⟨rfl, hcut⟩ := hcut
            have HR5 := Lib.hid hcut
            clear hcut hlook h6 h7 hlt HB HC HR HM b4 b6
            go_upto_if 144 with (fail)
            go_cut [] (fun wz => ∃ oM, TakeRel o c w p w.heap.size (s3.insS f) f oM wz)
            case first =>
              cases hB : insB s3 f with
              | false =>
                have e5 : s3.insS f = s3 := by
                  unfold St.insS
                  rw [if_neg]
                  intro ⟨a1, a2, a3⟩
                  unfold insB at hB
                  rw [a1] at hB
                  simp at hB
                  omega
                have E5 := Lib.hid e5
                clear e5
                go_wp2_with fail
                go_meet
                case rel => exact ⟨oL, by rw [E5.out]; exact HR5.out⟩
              | true =>
                have a1 : getA s3.ahead f.Seq = none := by unfold insB at hB; simp at hB; exact hB.1.1
                have e5 : s3.insS f = { s3 with ahead := (f.Seq, f.Data) :: s3.ahead } := by
                  unfold St.insS
                  unfold insB at hB
                  simp at hB
                  rw [if_pos ⟨a1, hB.1.2, by omega⟩]
                have E5 := Lib.hid e5
                have A1 := Lib.hid a1
                clear e5 a1
                obtain ⟨r1, m1, h0, h1, h2, h3, h4, h5, h6, h7, h8, hlt, HB, HC, HR, HM⟩ := HR5.out.sess.open_
                have hbf := HR5.out.box
                have b4 := hbf.cell 4
                have b6 := hbf.cell 6
                simp at b4 b6
                have hbl := hbf.lt
                clear hbf h0 h1 h2 h3 h4 h5 h6 h8
                go_wp2_with fail
                go_region_held3 (fun w' => w'.cell? ⟨p, 7, none⟩ = some (.map (some m1)) ∧ w'.cell? ⟨w.heap.size, 4, none⟩ = some (.int .i64 f.Seq) ∧ w'.cell? ⟨w.heap.size, 6, none⟩ = some (.string f.Data))
                  (first | exact ⟨K7, K4, K6⟩ | exact ⟨(hb5.cell (p := ⟨p, 7, none⟩) (by simpa using hlt)).trans h7, (hb5.cell (p := ⟨w.heap.size, 4, none⟩) (by simpa using hbl)).trans b4, (hb5.cell (p := ⟨w.heap.size, 6, none⟩) (by simpa using hbl)).trans b6⟩ | go_keep)
                  (first | (go_at_call 46; refine (clone_any f.Data _ (by have := HDT.out; omega)).mono ?_; rintro e w5 ⟨rfl, hb5⟩; obtain ⟨w6, hupd, hm6, hst6, hg6⟩ := ((show MapAt oL (c + 2) wc.drew m1 s3.ahead from HM.out).below_ hb5).put HI.out A1.out (by omega) (s := f.Data) (by have := HDT.out; unfold maxLen; omega); have hb6 := (HB.out.drew.below_ hb5).step hst6 (by rw [HC.out]; unfold only; omega); have hx6 := (HR5.out.box.drew.below_ hb5).step hst6 (by rw [HR5.out.col]; unfold only; omega); have K7 := hb6.cell 7; have K4 := hx6.cell 4; have K6 := hx6.cell 6))
                go_wp2_with fail
                go_meet
                case rel =>
                  have hst7 := (HR5.out.step.drew.trans (Step.of_below oL (trio c) hb5)).trans (hst6.mono (trio_m2 c))
                  refine ⟨oL, ?_⟩
                  rw [E5.out]
                  exact ⟨⟨r1, m1, hb6, HC.out, ((show RingAt oL (c + 1) wc.drew r1 64 s3.out from HR.out).below_ hb5).step hst6 (by unfold only; omega), hm6⟩, hx6, HR5.out.col, HR5.out.new, hst7, hf.step hst7⟩
            case rest =>
              obtain ⟨oM, hcut⟩ := hcut
              have HR8 := Lib.hid hcut
              clear hcut
              have h4len : (s3.insS f).ahead.length ≤ 100001 := by unfold St.insS; split <;> first | (simp; omega) | omega
              have h4hd : (s3.insS f).heard = s3.heard := by unfold St.insS; split <;> rfl
              have H4L := Lib.hid h4len
              have H4H := Lib.hid h4hd
              clear h4len h4hd
              obtain ⟨i0, hi0, hz0, hz1, hz2⟩ := info_parts info_s
              go_wp2_with fail
              go_loopg [10] (s3.insS f).ahead.length (fun n v wr => ∃ oL sD col, DelRel o c d w p (s3.insS f) f oL wr n v sD col)
              case atStart =>
                exact ⟨oM, s3.insS f, [], HR8.out, rfl, OwnS.nil _ _ _ _ _, by simp [Value.ownBlock], by simp, by rw [H4H.out]; exact hd1, by rw [H4H.out]; have := H4L.out; omega, by have := H4L.out; simp; omega⟩
              case round =>
                obtain ⟨oL, sD, col, hrel⟩ := hrel
                have HD := Lib.hid hrel
                clear hrel
                obtain ⟨r1, m1, h0, h1, h2, h3, h4, h5, h6, h7, h8, hlt, HB, HC, HR, HM⟩ := HD.out.rel.sess.open_
                have fz6 := HD.out.rel.sess.frozen 6
                have hlo := HD.out.lo
                have hhi := HD.out.hi
                have hln := HD.out.len
                have hk1 : i64 (sD.heard + 1) := ⟨by omega, by omega⟩
                have hb1 : sD.heard ≤ 2000000000000 := by omega
                have hlook : ∀ n, (Instr.lookup 123 (.map (some m1)) (.int .i64 (sD.heard + 1)) true).run Tryd.prog (wr.drewN n) = .ok (.tuple #[.string ((getA sD.ahead (sD.heard + 1)).getD ⟨#[]⟩), .bool (getA sD.ahead (sD.heard + 1)).isSome]) (wr.drewN n) := fun n => (show MapAt oL (c + 2) (wr.drewN n) m1 sD.ahead from HM.out).look hk1
                have HK1 := Lib.hid hk1
                clear hk1 h0 h1 h2 h3 h4 h5 h8
                cases hg : getA sD.ahead (sD.heard + 1) with
                | none =>
                  simp only [hg, Option.isSome_none] at hlook
                  have ht := HD.out.tot
                  rw [deliver_none hg] at ht
                  simp only [List.append_nil] at ht
                  have HT := Lib.hid ht
                  clear ht hg
                  go_wp2_with fail
                  go_quiet (fail)
                  go_wp2_with fail
                  go_ret2
                  first | refine ⟨_, rfl, oL, ?_, ?_, ?_⟩ | refine ⟨_, oL, rfl, ?_, ?_, ?_⟩
                  · rw [E1.out, ← HT.out]; exact HD.out.own.drewN _
                  · rw [E1.out, ← HT.out]; exact HD.out.rel.sess.drewN _
                  · exact HD.out.rel.step.drewN _
                | some dd =>
                  simp only [hg, Option.isSome_some, Option.getD_some] at hlook
                  have HG := Lib.hid hg
                  clear hg
                  go_wp2_with fail
                  go_quiet (fail)
                  go_upto_region 24 with (fail)
                  clear hlook
                  have hpw := HM.out.2.1
                  have hdl := del_len (k := sD.heard + 1) hpw
                  rw [HG.out] at hdl
                  simp only [Option.isSome_some, if_true] at hdl
                  have hcn := HD.out.cnt
                  have HPW := Lib.hid hpw
                  have HDL := Lib.hid hdl
                  have HCN := Lib.hid hcn
                  clear hpw hdl hcn
                  go_cut [] (fun wx => TakeRel o c w p w.heap.size { sD with ahead := delA sD.ahead (sD.heard + 1) } f oL wx ∧ OwnS oL d wx 9 1 u10 col.length (col.map Value.string))
                  case first =>
                    have hwr : IntKind.i64.wrap (sD.heard + 1) = sD.heard + 1 := IntWalk.i64_in _ (by omega)
                    go_region_law (refine step_delete_S rfl (.tmp 173) (.tmp 178) rfl rfl rfl (show MapAt oL (c + 2) _ m1 sD.ahead from HM.out) HK1.out ?_; intro w7 hm7 hst7 hg7; have HM7 := Lib.hid hm7; have HST7 := Lib.hid hst7; clear hm7 hst7 hg7)
                    all_goals clear hwr
                    all_goals
                      go_wp2_with fail
                      go_meet
                      case rel =>
                        have hb7 := (HB.out.drewN nq).drew.step HST7.out (by rw [HC.out]; unfold only; omega)
                        exact ⟨⟨⟨r1, m1, hb7, HC.out, ((show RingAt oL (c + 1) ((wr.drewN nq).drew) r1 64 sD.out from HR.out)).step HST7.out (by unfold only; omega), HM7.out⟩, (HD.out.rel.box.drewN nq).drew.step HST7.out (by rw [HD.out.rel.col]; unfold only; omega), HD.out.rel.col, HD.out.rel.new, ((HD.out.rel.step.drewN nq).drew).trans (HST7.out.mono (trio_m2 c)), ((HD.out.rel.fut.drewN nq).drew).step HST7.out⟩, (((HD.out.own.drewN nq).drew).step HST7.out (by unfold only; omega))⟩
                  case rest =>
                    obtain ⟨hrel7, hown7⟩ := hcut
                    obtain ⟨r7, m7, y0, y1, y2, y3, y4, y5, k6, y7, y8, ylt, YB, YC, YR, YM⟩ := hrel7.sess.open_
                    have z6 := hrel7.sess.frozen 6
                    change wc.cell? ⟨p, 6, none⟩ = some (.int .i64 sD.heard) at k6
                    have HR7 := Lib.hid hrel7
                    have HO7 := Lib.hid hown7
                    clear hrel7 hown7 y0 y1 y2 y3 y4 y5 y7 y8 h6 h7 hlt fz6
                    go_upto_region 26 with (fail)
                    have hrel7 := HR7.out
                    have hown7 := HO7.out
                    have hrel8 := hrel7.setHeard hc (sD.heard + 1)
                    have hown8 := hown7.setCell (p := ⟨p, 6, none⟩) (own_blk_ne hown7 YB.out (by decide)) (.int .i64 (sD.heard + 1))
                    generalize wc.setCell ⟨p, 6, none⟩ (.int .i64 (sD.heard + 1)) = w8 at hrel8 hown8 ⊢
                    have HR8' := Lib.hid hrel8
                    have HO8 := Lib.hid hown8
                    clear hrel7 hrel8 hown7 hown8 k6 z6 ylt
                    go_wp2_with (at_builtin; refine wpList_append_S _ rfl (.tmp 186) (.tmp 188) 98 rfl 9 i0 _ 1 16 Tryd.underlying98 hi0 hz0 hz1 hz2 rfl (by omega) u10 col.length (col.map Value.string) rfl (HO8.out.alloc _) (some ⟨w8.heap.size, 0, none⟩) 1 1 [.string dd] rfl (Reads.newAt w8 9 1 1 [.string dd] #[.string dd] w8.heap.size rfl rfl rfl) (by simp [Value.oneCell']) (by unfold maxLen; omega) (by omega) ?_; intro v' w9 hown hst hg hat; have HOWN := Lib.hid hown; have HST := Lib.hid hst; have HGR := Lib.hid hg; have HAT := Lib.hid hat; clear hown hst hg hat)
                    go_roundg (delA sD.ahead (sD.heard + 1)).length
                    case measure => have := HDL.out; have := HCN.out; omega
                    case rel =>
                      have hgw : w.heap.size ≤ w8.heap.size := HR8'.out.step.size
                      have hg8 := (HR8'.out.alloc (.cells #[.string dd] 9)).grow HGR.out HST.out HD.out.base hf hc hd hdc
                      have ht := HD.out.tot
                      have hgk : gk = (delA sD.ahead (sD.heard + 1)).length + 1 := by have := HDL.out; have := HCN.out; omega
                      rw [hgk, St.deliver, HG.out] at ht
                      refine ⟨_, _, col ++ [dd], hg8, rfl, ?_, ?_, ?_, by show 0 ≤ sD.heard + 1; omega, by show sD.heard + 1 + _ ≤ _; omega, by simp; omega⟩
                      · have := HOWN.out
                        simpa using this
                      · intro q hq
                        rcases HAT.out with e | e
                        · exact HD.out.base q (e ▸ hq)
                        · rw [e] at hq
                          injection hq with hq
                          simp at hq
                          omega
                      · rw [← ht]
                        simp
    · have tm : (f.Yours != s.mine) = true := by simp [hym]
      have e1 : s.takeF f = ([], { s.takeS1 f with owed := true }) := by unfold St.takeF; rw [HMI.out, if_pos hym]
      have E1 := Lib.hid e1
      clear e1 hym
      go_wp2_with fail
      go_quiet (fail)
      go_wp2_with fail
      go_ret2
      first | refine ⟨_, rfl, o1, ?_, ?_, ?_⟩ | refine ⟨_, o1, rfl, ?_, ?_, ?_⟩
      · rw [E1.out]; exact OwnS.nil _ _ _ _ _
      · rw [E1.out]; exact (HREL.out.sess.drewN _).set_owed true
      · exact (HREL.out.step.drewN _).setCell (p := ⟨p, 8, none⟩) (trio_0 HC.out) _
end Go.Proofs.YtoploimpfhnanaaDoor
