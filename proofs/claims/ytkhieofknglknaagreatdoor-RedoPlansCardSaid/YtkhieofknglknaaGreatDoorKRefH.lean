/- The document's disk: Write, Barrier, Admit, Fence, Put, Read, Load, Store, Apply: the real one's do the same. -/
import Derived.Test.YtkhieofknglknaaGreatDoorKSimQ
import Derived.Test.YtkhieofknglknaaGreatDoorKLawR
namespace Go.Proofs.YtkhieofknglknaaGreatDoor
open Go.RowKit

def nodeOk (n : Int) : Bool := decide (0 ≤ n ∧ n ≤ 16)
def RF.may (R : RF) (n : Int) (e : Nat) : Int := if R.off = true then 14 else if nodeOk n = false then 1 else if e = 0 ∨ e ≠ R.table n.toNat then 34 else 0
def RF.write (R : RF) (n : Int) (e : Nat) (at_ : Int) (data : ByteArray) : Int × RF :=
  if R.off = true then (14, R) else if nodeOk n = false ∨ data.size % 64 ≠ 0 ∨ data.size / 64 < 1 ∨ 16 < data.size / 64 then (1, R)
  else if R.may n e ≠ 0 then (R.may n e, R) else if at_ < 0 ∨ (R.room : Int) - ((data.size / 64 : Nat) : Int) < at_ then (30, R)
  else if R.spend.1 ≠ 0 then (R.spend.1, R.spend.2) else (0, { R.spend.2 with ws := R.spend.2.ws ++ rwsN n at_ data (data.size / 64) })
def RF.settle (R : RF) (n : Int) : RF := { R with ws := R.ws.map (RW.keep n) }
def RF.barrier (R : RF) (n : Int) (e : Nat) : Int × RF := if R.may n e ≠ 0 then (R.may n e, R) else if R.spend.1 ≠ 0 then (R.spend.1, R.spend.2) else (0, R.spend.2.settle n)
def RF.admit (R : RF) (n : Int) (e : Nat) : Int × RF := if R.off = true then (14, R) else if nodeOk n = false then (1, R) else if e ≤ R.last then (29, R) else if R.spend.1 ≠ 0 then (14, R.spend.2) else (0, { R.spend.2 with table := fun j => if j = n.toNat then e else R.spend.2.table j, last := e })
def RF.fence (R : RF) (n : Int) : Int × RF := if R.off = true then (14, R) else if nodeOk n = false then (1, R) else if R.spend.1 ≠ 0 then (14, R.spend.2) else (0, { R.spend.2.settle n with table := fun j => if j = n.toNat then 0 else R.spend.2.table j })
def RF.put (R : RF) (n : Int) (v : Nat) : Int × RF := if R.off = true then (14, R) else if nodeOk n = false then (1, R) else if R.spend.1 ≠ 0 then (14, R.spend.2) else (0, { R.spend.2 with words := fun j => if j = n.toNat then v else R.spend.2.words j })
def RF.readE (R : RF) (at_ n : Int) : Int := if R.off = true then 14 else if n < 1 ∨ 400 < n ∨ at_ < 0 ∨ (R.room : Int) - n < at_ then 30 else 0
def RF.readL (R : RF) (at_ : Int) (n : Nat) : List UInt8 := (List.range n).flatMap (fun i : Nat => (R.at_ (at_ + (i : Int)) false).data.toList)
def RF.readS (R : RF) (at_ n : Int) : ByteArray := if R.readE at_ n = 0 then str (R.readL at_ n.toNat) else ⟨#[]⟩
def RF.loadE1 (R : RF) (b : Int) : Int := if (blockAt b).2 ≠ 0 then (blockAt b).2 else R.readE (blockAt b).1 2
def RF.load (R : RF) (b : Int) : Im × Int := if R.loadE1 b ≠ 0 then (Im.zero, R.loadE1 b) else getB b (R.readS (blockAt b).1 2)
def RF.store (R : RF) (n : Int) (e : Nat) (i : Im) : Int × RF := if (blockAt i.block).2 ≠ 0 then ((blockAt i.block).2, R) else if ¬ i.right then (1, R) else R.write n e (blockAt i.block).1 (str (blkL i))
structure ApF where
  n : Nat
  e : Int
  R : RF
def applyGoF (node : Int) (epoch : Nat) : List Im → Nat → RF → ApF
  | [], n, R => ⟨n, 0, R⟩
  | i :: l, n, R => if (R.load i.block).2 ≠ 0 ∧ tornE (R.load i.block).2 = false then ⟨0, (R.load i.block).2, R⟩
    else if tornE (R.load i.block).2 = false ∧ i.ver ≤ (R.load i.block).1.ver then applyGoF node epoch l n R
    else if (R.store node epoch i).1 ≠ 0 then ⟨0, (R.store node epoch i).1, (R.store node epoch i).2⟩
    else applyGoF node epoch l (n + 1) (R.store node epoch i).2
def applyF (R : RF) (node : Int) (epoch : Nat) (l : List Im) : ApF :=
  if (applyGoF node epoch l 0 R).e ≠ 0 then applyGoF node epoch l 0 R else if (applyGoF node epoch l 0 R).n = 0 then applyGoF node epoch l 0 R
  else if ((applyGoF node epoch l 0 R).R.barrier node epoch).1 ≠ 0 then ⟨0, ((applyGoF node epoch l 0 R).R.barrier node epoch).1, ((applyGoF node epoch l 0 R).R.barrier node epoch).2⟩
  else ⟨(applyGoF node epoch l 0 R).n, 0, ((applyGoF node epoch l 0 R).R.barrier node epoch).2⟩
/-- what is left till the power goes is an int -/
def RF.leftOk (R : RF) : Prop := R.left ≤ 9223372036854775807
section
variable {D : Dk} {R : RF}
theorem spend_keeps (R : RF) : R.spend.2.room = R.room ∧ (R.leftOk → R.spend.2.leftOk) := by
  unfold RF.spend RF.leftOk
  split
  · exact ⟨rfl, id⟩
  · split
    · unfold RF.cut
      split
      · exact ⟨rfl, id⟩
      · exact ⟨rfl, id⟩
    · exact ⟨rfl, fun h => show R.left - 1 ≤ _ by omega⟩
theorem Sim.may (h : Sim D R) (n : Int) : D.may n = if R.off = true then 14 else if nodeOk n = false then 1 else 0 := by
  unfold Dk.may nodeOk
  rw [h.on]
  cases R.off with
  | true => rfl
  | false =>
    by_cases hn : n < 0 ∨ 16 < n
    · simp only [Bool.not_false, Bool.true_eq_false, if_false, if_pos hn, Bool.false_eq_true]
      rw [if_pos (by simp; omega)]
    · simp only [Bool.not_false, Bool.true_eq_false, if_false, if_neg hn, Bool.false_eq_true]
      rw [if_neg (by simp; omega)]
theorem Sim.admits (h : Sim D R) (n : Int) (e : Nat) : D.admits n.toNat e = if e = 0 ∨ e ≠ R.table n.toNat then 34 else 0 := by
  unfold Dk.admits
  rw [h.table]
  by_cases h1 : e = 0
  · rw [if_pos (.inl h1), if_pos (.inl h1)]
  · by_cases h2 : R.table n.toNat = e
    · rw [if_neg (by simp [h1, h2]), if_neg (by simp [h1, h2])]
    · rw [if_pos (.inr h2), if_pos (.inr (fun x => h2 x.symm))]
theorem Sim.goes (h : Sim D R) (hl : R.leftOk) : (D.goes.1 = true ∧ R.spend.1 = 14 ∨ D.goes.1 = false ∧ R.spend.1 = 0) ∧ Sim D.goes.2 R.spend.2 := by
  obtain ⟨h1, h2, h3⟩ := h.spend hl
  refine ⟨?_, h3⟩
  cases hg : D.goes.1 with
  | true => exact .inl ⟨rfl, by have := h1.1 hg; omega⟩
  | false =>
    refine .inr ⟨rfl, ?_⟩
    by_cases h4 : R.spend.1 = 0
    · exact h4
    · rw [h1.2 h4] at hg
      cases hg
theorem writeN_rest (D : Dk) (n a : Int) (data : ByteArray) : ∀ m, (D.writeN n a data m).table = D.table ∧ (D.writeN n a data m).left = D.left ∧ (D.writeN n a data m).stays = D.stays
  | 0 => ⟨rfl, rfl, rfl⟩
  | m + 1 => writeN_rest D n a data m
theorem keeps_rest : ∀ (l : List Ws) (D : Dk), (l.foldl Dk.keep D).table = D.table ∧ (l.foldl Dk.keep D).left = D.left ∧ (l.foldl Dk.keep D).stays = D.stays
  | [], D => ⟨rfl, rfl, rfl⟩
  | x :: l, D => by
    obtain ⟨a, b, c⟩ := keeps_rest l (D.keep x)
    have h : (D.keep x).table = D.table ∧ (D.keep x).left = D.left ∧ (D.keep x).stays = D.stays := by unfold Dk.keep; split <;> exact ⟨rfl, rfl, rfl⟩
    exact ⟨a.trans h.1, b.trans h.2.1, c.trans h.2.2⟩
theorem settle_rest (D : Dk) (n : Int) : (D.settle n).table = D.table ∧ (D.settle n).left = D.left ∧ (D.settle n).stays = D.stays := keeps_rest _ D
theorem Sim.write (h : Sim D R) (hl : R.leftOk) (n : Int) (e : Nat) (at_ : Int) (data : ByteArray) : (D.write n e at_ data).1 = (R.write n e at_ data).1 ∧ Sim (D.write n e at_ data).2 (R.write n e at_ data).2 := by
  unfold Dk.write RF.write
  rw [h.may]
  by_cases ho : R.off = true
  · rw [if_pos ho, if_pos ho, if_pos (by decide)]
    exact ⟨rfl, h⟩
  rw [if_neg ho, if_neg ho]
  by_cases hn : nodeOk n = false
  · rw [if_pos hn, if_pos (by decide), if_pos (.inl hn)]
    exact ⟨rfl, h⟩
  rw [if_neg hn, if_neg (by decide)]
  by_cases hd : data.size / 64 < 1 ∨ 16 < data.size / 64 ∨ data.size % 64 ≠ 0
  · rw [if_pos hd, if_pos (by omega)]
    exact ⟨rfl, h⟩
  rw [if_neg hd, if_neg (show ¬ (nodeOk n = false ∨ data.size % 64 ≠ 0 ∨ data.size / 64 < 1 ∨ 16 < data.size / 64) from fun x => x.elim hn (fun y => hd (by omega))), h.admits]
  unfold RF.may
  rw [if_neg ho, if_neg hn]
  by_cases he : e = 0 ∨ e ≠ R.table n.toNat
  · rw [if_pos he, if_pos (by decide), if_pos (by decide)]
    exact ⟨rfl, h⟩
  rw [if_neg he]
  simp only [ne_eq, not_true, if_false]
  unfold Dk.there
  rw [h.room]
  by_cases hr : at_ < 0 ∨ (R.room : Int) - ((data.size / 64 : Nat) : Int) < at_
  · rw [if_pos hr, if_pos (by simp only [decide_eq_false_iff_not]; omega)]
    exact ⟨rfl, h⟩
  rw [if_neg hr, if_neg (by simp only [decide_eq_false_iff_not]; omega)]
  obtain ⟨hg, hs⟩ := h.goes hl
  rcases hg with ⟨g1, g2⟩ | ⟨g1, g2⟩
  · rw [if_pos g1, if_pos (show ¬ R.spend.1 = 0 by rw [g2]; decide)]
    exact ⟨g2.symm, hs⟩
  · rw [if_neg (show ¬ D.goes.1 = true by rw [g1]; decide), if_neg (show ¬ ¬ R.spend.1 = 0 from fun x => x g2)]
    obtain ⟨a1, a2, a3, a4, a5, a6, a7, _, _⟩ := writeN_same D.goes.2 n at_ data (data.size / 64)
    refine ⟨rfl, ?_⟩
    have hx := writeN_rest D.goes.2 n at_ data (data.size / 64)
    exact ⟨a3.trans hs.room, a1.trans hs.on, hx.1.trans hs.table, a5.trans hs.words, a4.trans hs.last, a2.trans hs.armed, fun x => by rw [hx.2.1, hx.2.2]; exact hs.left x, hs.rows.writeN n at_ data _⟩
theorem Sim.settle (h : Sim D R) (n : Int) : Sim (D.settle n) (R.settle n) := by
  obtain ⟨r1, r2, r3⟩ := settle_rest D n
  obtain ⟨e1, e2, e3, e4, e5, _, _⟩ := settle_same D n
  exact ⟨e3.trans h.room, e1.trans h.on, r1.trans h.table, e5.trans h.words, e4.trans h.last, e2.trans h.armed, fun x => by rw [r2, r3]; exact h.left x, h.rows.settle n⟩
theorem Sim.barrier (h : Sim D R) (hl : R.leftOk) (n : Int) (e : Nat) : (D.barrier n e).1 = (R.barrier n e).1 ∧ Sim (D.barrier n e).2 (R.barrier n e).2 := by
  unfold Dk.barrier RF.barrier RF.may
  rw [h.may]
  by_cases ho : R.off = true
  · rw [if_pos ho, if_pos ho, if_pos (by decide), if_pos (by decide)]
    exact ⟨rfl, h⟩
  rw [if_neg ho, if_neg ho]
  by_cases hn : nodeOk n = false
  · rw [if_pos hn, if_pos hn, if_pos (by decide), if_pos (by decide)]
    exact ⟨rfl, h⟩
  rw [if_neg hn, if_neg hn, if_neg (by decide), h.admits]
  by_cases he : e = 0 ∨ e ≠ R.table n.toNat
  · rw [if_pos he, if_pos (by decide), if_pos (by decide)]
    exact ⟨rfl, h⟩
  rw [if_neg he]
  simp only [ne_eq, not_true, if_false]
  obtain ⟨hg, hs⟩ := h.goes hl
  rcases hg with ⟨g1, g2⟩ | ⟨g1, g2⟩
  · rw [if_pos g1, if_pos (show ¬ R.spend.1 = 0 by rw [g2]; decide)]
    exact ⟨g2.symm, hs⟩
  · rw [if_neg (show ¬ D.goes.1 = true by rw [g1]; decide), if_neg (show ¬ ¬ R.spend.1 = 0 from fun x => x g2)]
    exact ⟨rfl, hs.settle n⟩
theorem Sim.readE (h : Sim D R) (at_ n : Int) : D.readE at_ n = R.readE at_ n := by
  unfold Dk.readE RF.readE Dk.there
  rw [h.on, h.room]
  by_cases ho : R.off = true
  · rw [if_pos ho, if_pos (by rw [ho]; rfl)]
  rw [if_neg ho, if_neg (by simp [ho])]
  by_cases hc : n < 1 ∨ 400 < n ∨ at_ < 0 ∨ (R.room : Int) - n < at_
  · rw [if_pos hc, if_pos (by simp only [decide_eq_false_iff_not]; omega)]
  · rw [if_neg hc, if_neg (by simp only [decide_eq_false_iff_not]; omega)]
theorem Sim.readL (h : Sim D R) (at_ : Int) (n : Nat) : D.readL at_ n = R.readL at_ n := by
  unfold Dk.readL RF.readL
  congr 1
  funext i
  rw [h.sec]
theorem Sim.readS (h : Sim D R) (at_ n : Int) : D.readS at_ n = R.readS at_ n := by
  unfold Dk.readS RF.readS
  rw [h.readE, h.readL]
theorem Sim.load (h : Sim D R) (b : Int) : D.load b = R.load b := by
  unfold Dk.load RF.load Dk.loadE1 RF.loadE1
  rw [h.readE, h.readS]
theorem Sim.store (h : Sim D R) (hl : R.leftOk) (n : Int) (e : Nat) (i : Im) : (D.store n e i).1 = (R.store n e i).1 ∧ Sim (D.store n e i).2 (R.store n e i).2 := by
  unfold Dk.store RF.store
  split
  · exact ⟨rfl, h⟩
  · split
    · exact ⟨rfl, h⟩
    · exact h.write hl n e _ _
theorem write_left (R : RF) (hl : R.leftOk) (n : Int) (e : Nat) (at_ : Int) (data : ByteArray) : (R.write n e at_ data).2.leftOk := by
  unfold RF.write
  split
  · exact hl
  split
  · exact hl
  split
  · exact hl
  split
  · exact hl
  split
  · exact (spend_keeps R).2 hl
  · exact (spend_keeps R).2 hl
theorem store_left (R : RF) (hl : R.leftOk) (n : Int) (e : Nat) (i : Im) : (R.store n e i).2.leftOk := by
  unfold RF.store
  split
  · exact hl
  split
  · exact hl
  · exact write_left R hl n e _ _
theorem barrier_left (R : RF) (hl : R.leftOk) (n : Int) (e : Nat) : (R.barrier n e).2.leftOk := by
  unfold RF.barrier
  split
  · exact hl
  split
  · exact (spend_keeps R).2 hl
  · exact (spend_keeps R).2 hl
end
theorem Sim.applyGo {node : Int} {epoch : Nat} : ∀ (l : List Im) (n : Nat) {D : Dk} {R : RF}, Sim D R → R.leftOk →
    (applyGo node epoch l n D).n = (applyGoF node epoch l n R).n ∧ (applyGo node epoch l n D).e = (applyGoF node epoch l n R).e ∧ Sim (applyGo node epoch l n D).D (applyGoF node epoch l n R).R ∧ (applyGoF node epoch l n R).R.leftOk
  | [], n, D, R, h, hl => ⟨rfl, rfl, h, hl⟩
  | i :: l, n, D, R, h, hl => by
    rw [applyGo_cons]
    unfold applyGoF
    rw [h.load]
    obtain ⟨s1, s2⟩ := h.store hl node epoch i
    have s3 := store_left R hl node epoch i
    split
    · exact ⟨rfl, rfl, h, hl⟩
    split
    · exact Sim.applyGo l n h hl
    rw [s1]
    split
    · exact ⟨rfl, rfl, s2, s3⟩
    · exact Sim.applyGo l (n + 1) s2 s3
theorem Sim.apply {D : Dk} {R : RF} (h : Sim D R) (hl : R.leftOk) (node : Int) (epoch : Nat) (l : List Im) :
    (applyR D node epoch l).n = (applyF R node epoch l).n ∧ (applyR D node epoch l).e = (applyF R node epoch l).e ∧ Sim (applyR D node epoch l).D (applyF R node epoch l).R ∧ (applyF R node epoch l).R.leftOk := by
  obtain ⟨a, b, c, d⟩ := Sim.applyGo (node := node) (epoch := epoch) l 0 h hl
  obtain ⟨b1, b2⟩ := c.barrier d node epoch
  have b3 := barrier_left _ d node epoch
  unfold applyR applyF
  rw [a, b, b1]
  split
  · exact ⟨a, b, c, d⟩
  split
  · exact ⟨a, b, c, d⟩
  split
  · exact ⟨rfl, rfl, b2, b3⟩
  · exact ⟨rfl, rfl, b2, b3⟩
end Go.Proofs.YtkhieofknglknaaGreatDoor

/- The document's disk, whole: spend, May, keep, Barrier, Write (not armed; printed by gen/mkrf.py). -/
namespace Go.Proofs.YtkhieofknglknaaGreatDoor
open Go.RowKit

def RF.cells (R : RF) (lv kv : Value) : Array Value :=
  #[.int .i64 R.room, lv, .bool R.off,
    .int .u64 (R.table 0), .int .u64 (R.table 1), .int .u64 (R.table 2), .int .u64 (R.table 3), .int .u64 (R.table 4), .int .u64 (R.table 5), .int .u64 (R.table 6), .int .u64 (R.table 7), .int .u64 (R.table 8), .int .u64 (R.table 9), .int .u64 (R.table 10), .int .u64 (R.table 11), .int .u64 (R.table 12), .int .u64 (R.table 13), .int .u64 (R.table 14), .int .u64 (R.table 15), .int .u64 (R.table 16),
    .int .u64 (R.words 0), .int .u64 (R.words 1), .int .u64 (R.words 2), .int .u64 (R.words 3), .int .u64 (R.words 4), .int .u64 (R.words 5), .int .u64 (R.words 6), .int .u64 (R.words 7), .int .u64 (R.words 8), .int .u64 (R.words 9), .int .u64 (R.words 10), .int .u64 (R.words 11), .int .u64 (R.words 12), .int .u64 (R.words 13), .int .u64 (R.words 14), .int .u64 (R.words 15), .int .u64 (R.words 16),
    .int .u64 R.last, .bool R.armed, .int .i64 R.left, kv]
/-- the document's disk at p, of colour c (its writes: c + 1), but for what stays -/
def RefIn (o : Nat → Nat) (c : Nat) (w : World) (p : Nat) (R : RF) (kv : Value) : Prop := ∃ lv, Blk w p 95 (R.cells lv kv) ∧ o p = c ∧ OwnS o (c + 1) w 185 4 lv R.ws.length (rwcells R.ws)
/-- what stays: colour c + 2 -/
def RFAt (o : Nat → Nat) (c : Nat) (w : World) (p : Nat) (R : RF) : Prop := ∃ kv, RefIn o c w p R kv ∧ OwnW o (c + 2) w 3 1 kv R.keep.length (intcells R.keep)
def RF.of (R : RK) : RF := ⟨R.room, R.ws, false, R.table, R.words, R.last, false, 0, []⟩
def three (c : Nat) : Nat → Prop := fun x => x = c ∨ x = c + 1 ∨ x = c + 2
theorem logL_three (c : Nat) : ∀ x, logL c x → three c x := by unfold logL three; omega
section
variable {o o' : Nat → Nat} {c p : Nat} {C : Nat → Prop} {w w' : World} {R : RF} {kv : Value}
theorem RefIn.step (h : RefIn o c w p R kv) (hs : Step o C w o' w') (h0 : ¬ C c) (h1 : ¬ C (c + 1)) : RefIn o' c w' p R kv := by
  obtain ⟨lv, hb, hc, ho⟩ := h
  exact ⟨lv, hb.step hs (by rw [hc]; exact h0), (hs.old p hb.lt).trans hc, ho.step hs h1⟩
theorem RefIn.below_ (h : RefIn o c w p R kv) (hb : Below w.heap.size w w') : RefIn o c w' p R kv := h.step (Step.of_below o (fun _ => False) hb) id id
theorem RFAt.step (h : RFAt o c w p R) (hs : Step o C w o' w') (h0 : ∀ x, three c x → ¬ C x) : RFAt o' c w' p R := by
  obtain ⟨kv, h1, h2⟩ := h
  exact ⟨kv, h1.step hs (h0 _ (.inl rfl)) (h0 _ (.inr (.inl rfl))), h2.step hs (h0 _ (.inr (.inr rfl)))⟩
theorem RFAt.below_ (h : RFAt o c w p R) (hb : Below w.heap.size w w') : RFAt o c w' p R := h.step (Step.of_below o (fun _ => False) hb) (fun _ _ => id)
theorem RFAt.alloc (h : RFAt o c w p R) (x : Obj) : RFAt o c (w.alloc x) p R := h.below_ ((Below.refl _ _).alloc (Nat.le_refl _) x)
theorem RFAt.of {R : RK} (h : RefAt o c w p R) : RFAt o c w p (RF.of R) := by
  obtain ⟨lv, hb, hc, ho⟩ := h
  exact ⟨.slice none 0 0, ⟨lv, hb, hc, ho⟩, OwnW.nil _ _ _ _ _⟩
theorem RFAt.moved {R2 : RF} (h : OwnW o (c + 2) w 3 1 kv R.keep.length (intcells R.keep)) (hk : R2.keep = R.keep) (h2 : RefIn o' c w' p R2 kv) (hs : Step o (logL c) w o' w') : RFAt o' c w' p R2 :=
  ⟨kv, h2, by rw [hk]; exact h.step hs (by unfold logL; omega)⟩
theorem rf_table (R : RF) (lv kv : Value) (k : Nat) (hk : k ≤ 16) : (R.cells lv kv)[3 + k]? = some (.int .u64 (R.table k)) := by
  rcases k with _ | _ | _ | _ | _ | _ | _ | _ | _ | _ | _ | _ | _ | _ | _ | _ | _ | k <;> first | rfl | omega
theorem rf_word (R : RF) (lv kv : Value) (k : Nat) (hk : k ≤ 16) : (R.cells lv kv)[20 + k]? = some (.int .u64 (R.words k)) := by
  rcases k with _ | _ | _ | _ | _ | _ | _ | _ | _ | _ | _ | _ | _ | _ | _ | _ | _ | k <;> first | rfl | omega
theorem rfnode_any (n : Int) (w : World) : Calls Tryz.prog 145 #[.int .i64 n] w fun e w' => e = .returned (.bool (nodeOk n)) ∧ w = w' := refnode_any n w
theorem rfspend_calm (h : RefIn o c w p R kv) (ha : R.armed = false) : Calls Tryz.prog 146 #[.pointer (some ⟨p, 0, none⟩)] w fun e w' => e = .returned (.int .i64 0) ∧ w = w' := by
  obtain ⟨lv, hb, _, _⟩ := h
  have x38 : w.cell? ⟨p, 38, none⟩ = some (.bool false) := by rw [← ha]; exact hb.cell 38
  clear hb
  go_enter Tryz.func146, Tryz.ntmps146
  go_wp2
  all_goals go_ret
  all_goals exact ⟨rfl, rfl⟩
theorem rfmay_any (h : RefIn o c w p R kv) (n : Int) (e : Nat) : Calls Tryz.prog 147 #[.pointer (some ⟨p, 0, none⟩), .int .i64 n, .int .u64 (e : Int)] w fun r w' => r = .returned (.int .i64 (R.may n e)) ∧ w = w' := by
  obtain ⟨lv, hb, _, _⟩ := h
  have x2 : w.cell? ⟨p, 2, none⟩ = some (.bool R.off) := hb.cell 2
  have ht : ∀ k, k ≤ 16 → w.cell? ⟨p, 3 + k, none⟩ = some (.int .u64 (R.table k : Int)) := fun k hk => by rw [hb.cell, rf_table R lv kv k hk]
  have HT := Lib.hid ht
  clear hb ht
  unfold RF.may
  generalize R.off = b at x2 ⊢
  cases b with
  | true =>
    go_enter Tryz.func147, Tryz.ntmps147
    go_wp2_with fail
    go_ret
    exact ⟨rfl, rfl⟩
  | false =>
    rw [if_neg (by decide)]
    by_cases hn : nodeOk n = false
    · rw [if_pos hn]
      go_enter Tryz.func147, Tryz.ntmps147
      go_wp2_with fail
      refine (rfnode_any n w).mono ?_
      rintro r w1 ⟨rfl, rfl⟩
      rw [hn]
      go_wp2_with fail
      go_ret
      exact ⟨rfl, rfl⟩
    · have hn2 : nodeOk n = true := by simpa using hn
      have hnn : 0 ≤ n ∧ n ≤ 16 := of_decide_eq_true hn2
      obtain ⟨k, rfl⟩ : ∃ k : Nat, n = k := ⟨n.toNat, by omega⟩
      have ct := HT.out k (by omega)
      have hkI : (k : Int) < 17 := by omega
      rw [if_neg hn, Int.toNat_natCast]
      by_cases h0 : e = 0
      · rw [if_pos (.inl h0)]
        have h0I : (e : Int) = 0 := by omega
        go_enter Tryz.func147, Tryz.ntmps147
        go_wp2_with fail
        refine (rfnode_any k w).mono ?_
        rintro r w1 ⟨rfl, rfl⟩
        rw [hn2]
        go_wp2_with fail
        go_ret
        exact ⟨rfl, rfl⟩
      · have h0I : ¬ (e : Int) = 0 := by omega
        by_cases he : e ≠ R.table k
        · rw [if_pos (.inr he)]
          have heI : ((e : Int) != (R.table k : Int)) = true := by simp; omega
          go_enter Tryz.func147, Tryz.ntmps147
          go_wp2_with fail
          refine (rfnode_any k w).mono ?_
          rintro r w1 ⟨rfl, rfl⟩
          rw [hn2]
          go_wp2_with fail
          go_ret
          exact ⟨rfl, rfl⟩
        · have he2 : e = R.table k := by omega
          rw [if_neg (by omega)]
          rw [← he2] at ct
          go_enter Tryz.func147, Tryz.ntmps147
          go_wp2_with fail
          refine (rfnode_any k w).mono ?_
          rintro r w1 ⟨rfl, rfl⟩
          rw [hn2]
          go_wp2_with fail
          go_ret
          exact ⟨rfl, rfl⟩
theorem rfmay_zero (h : RefIn o c w p R kv) (k e : Nat) (hof : R.off = false) (hk : k ≤ 16) (he : R.table k = e) (h0 : e ≠ 0) : Calls Tryz.prog 147 #[.pointer (some ⟨p, 0, none⟩), .int .i64 (k : Int), .int .u64 (e : Int)] w fun r w' => r = .returned (.int .i64 0) ∧ w = w' := by
  have h1 := rfmay_any h (k : Int) e
  have h2 : R.may (k : Int) e = 0 := by
    unfold RF.may
    rw [if_neg (by rw [hof]; decide), if_neg (by unfold nodeOk; simp; omega), if_neg (by rw [Int.toNat_natCast, he]; simp [h0])]
  rw [h2] at h1
  exact h1
theorem RefIn.row (h : RefIn o c w p R kv) : ∃ A cap, Hid (Blk w p 95 (R.cells (.slice A R.ws.length cap) kv)) ∧ Hid (o p = c) ∧ Hid (OwnS o (c + 1) w 185 4 (.slice A R.ws.length cap) R.ws.length (rwcells R.ws)) ∧ w.cell? ⟨p, 1, none⟩ = some (.slice A R.ws.length cap) ∧ w.frozen? ⟨p, 1, none⟩ = false ∧ R.ws.length ≤ cap ∧ cap ≤ maxLen := by
  obtain ⟨lv, hb, hc, ho⟩ := h
  obtain ⟨A, cap, rfl, h1, h2⟩ := own_form' ho
  exact ⟨A, cap, hb, hc, ho, hb.cell 1, hb.frozen 1, h1, h2⟩
set_option maxRecDepth 100000 in
set_option maxHeartbeats 4000000 in
theorem rfkeep_in (h : RefIn o c w p R kv) (k : Int) (hl : R.ws.length ≤ 100000) : Calls Tryz.prog 148 #[.pointer (some ⟨p, 0, none⟩), .int .i64 k] w fun r w' => r = .returned (.tuple #[]) ∧ ∃ o', RefIn o' c w' p (R.settle k) kv ∧ Step o (logL c) w o' w' := by
  obtain ⟨A, cap, HB, HC, HO, x1, f1, hcap, hcm⟩ := h.row
  obtain ⟨i0, hi, hz0, hz1, hz2⟩ := info_parts info_rw
  have HL := Lib.hid hl
  have hcmx : cap ≤ 9223372036854775807 := by unfold maxLen at hcm; omega
  have HCM := Lib.hid hcm
  clear h hcm
  go_enter Tryz.func148, Tryz.ntmps148
  go_wp2_with (at_builtin; refine wpList_append_S _ rfl (.const (.slice none 0 0)) (.tmp 9) 91 rfl 185 i0 _ 4 40 Tryz.underlying91 hi hz0 hz1 hz2 rfl (by omega) (.slice none 0 0) 0 [] rfl (OwnS.nil o (c + 1) _ _ _) A R.ws.length cap (rwcells R.ws) rfl (Reads.of_own HO.out.1) (rw_one R.ws) (by unfold maxLen; omega) (by omega) ?_; intro v7 w7 hown7 hst7 hgr7 hat7; simp only [Nat.zero_add, List.nil_append] at hown7; obtain ⟨A7, cap7, rfl, hq1, hq2⟩ := own_form' hown7; have hb7 := HB.out.step hst7 (by rw [HC.out]; unfold only; omega); have y1 : w7.cell? ⟨p, 1, none⟩ = some (.slice A R.ws.length cap) := hb7.cell 1; have g1 := hb7.frozen 1; have HB7 := Lib.hid hb7; have HO7 := Lib.hid hown7; have HS7 := Lib.hid hst7; clear hown7 hst7 hgr7 hat7 hb7)
  obtain ⟨o7, ho7⟩ : ∃ o7, band o w.heap.size w7.heap.size (c + 1) = o7 := ⟨_, rfl⟩
  rw [ho7] at HO7 HS7
  have hc7 : o7 p = c := (HS7.out.old p HB.out.lt).trans HC.out
  have hr7 : RefIn o7 c (w7.setCell ⟨p, 1, none⟩ (.slice A7 R.ws.length cap7)) p R kv := ⟨.slice A7 R.ws.length cap7, HB7.out.set_ 1 (.slice A7 R.ws.length cap7), hc7, HO7.out.setCell (p := ⟨p, 1, none⟩) (own_blk_ne HO7.out HB7.out (by decide)) _⟩
  have HR7 := Lib.hid hr7
  have HS8 := Lib.hid ((HS7.out.mono (logL_ring c)).setCell (p := ⟨p, 1, none⟩) (.inl hc7) (.slice A7 R.ws.length cap7))
  clear hr7 ho7 y1 g1 x1 f1
  generalize w7.setCell ⟨p, 1, none⟩ (.slice A7 R.ws.length cap7) = W8 at HR7 HS8 ⊢
  go_loopw [4] (fun t4 wr => ∃ j : Nat, j ≤ R.ws.length ∧ t4 = .int .i64 j ∧ RefIn o7 c wr p { R with ws := keepTo k R.ws j } kv ∧ Step o (logL c) w o7 wr) (fun t4 _ => R.ws.length - (intOf t4).toNat)
  case atStart => exact ⟨0, by omega, rfl, HR7.out, HS8.out⟩
  case round =>
    obtain ⟨j, hj, rfl, hr, hs⟩ := hrel
    obtain ⟨A9, cap9, HB9, HC9, HO9, x1, f1, hcap9, hcm9⟩ := hr.row
    have HRR := Lib.hid hr
    have HSS := Lib.hid hs
    clear hr hs
    simp only [keepTo_len] at HO9 HB9 x1 hcap9
    have hcm9' : cap9 ≤ 9223372036854775807 := by unfold maxLen at hcm9; omega
    have HCM9 := Lib.hid hcm9
    clear hcm9
    by_cases hlt : j < R.ws.length
    · have hltI : (j : Int) < (R.ws.length : Int) := by omega
      have HJL := Lib.hid hlt
      have hlI : (R.ws.length : Int) ≤ 100000 := by have := HL.out; omega
      obtain ⟨x, hx⟩ : ∃ x, R.ws[j]? = some x := ⟨_, List.getElem?_eq_getElem hlt⟩
      have hx2 := (keepTo_get (k := k) hlt).trans hx
      obtain ⟨g, cur, rfl, hb, hg, _, hcm2, hsz, htk⟩ := HO9.out.blk (by omega)
      have hc0 := rw_get hx2
      have y0 := blk_row (m := R.ws.length * 4) hb htk (by omega) hc0.1
      have y3 := blk_row (m := R.ws.length * 4) hb htk (by omega) hc0.2
      have g3 := hb.frozen (j * 4 + 3)
      have HBB := Lib.hid hb
      have HGG := Lib.hid hg
      have HSZ := Lib.hid hsz
      have HTK := Lib.hid htk
      have HKS := Lib.hid (keepTo_succ (k := k) hx)
      have HX2 := Lib.hid hx2
      clear hb hg hsz htk hx hx2 hcm2 hc0
      by_cases hk : x.node = k
      · have HK2 := Lib.hid (show keepTo k R.ws (j + 1) = (keepTo k R.ws j).set j { x with lasts := true } by rw [HKS.out]; unfold RW.keep; rw [if_pos hk])
        have hgp : g ≠ p := HBB.out.ne_ HB9.out (by decide)
        go_wp2_with fail
        go_roundw
        case rel =>
          refine ⟨j + 1, by have := HJL.out; omega, by go_num, ⟨_, HB9.out.far (p := ⟨g, j * 4 + 3, none⟩) hgp.symm (.bool true), HC9.out, ?_⟩, HSS.out.setCell (p := ⟨g, j * 4 + 3, none⟩) (.inr HGG.out) (.bool true)⟩
          have hl2 : (keepTo k R.ws (j + 1)).length = R.ws.length := keepTo_len _ _ _
          show OwnS _ _ _ _ _ _ (keepTo k R.ws (j + 1)).length (rwcells (keepTo k R.ws (j + 1)))
          rw [hl2, HK2.out, ← rw_set HX2.out, ← HTK.out]
          exact OwnS.of_blk (HBB.out.set_ (j * 4 + 3) (.bool true)) HGG.out hcap9 HCM9.out (by simp [HSZ.out]) (by simp [List.take_set])
        case measure => have := HJL.out; simp [intOf]; omega
      · have HK2 := Lib.hid (show keepTo k R.ws (j + 1) = keepTo k R.ws j by rw [HKS.out]; unfold RW.keep; rw [if_neg hk]; exact set_self HX2.out)
        go_wp2_with fail
        go_roundw
        case rel => exact ⟨j + 1, by have := HJL.out; omega, by go_num, by rw [HK2.out]; exact HRR.out, HSS.out⟩
        case measure => have := HJL.out; simp [intOf]; omega
    · have hltI : ¬ (j : Int) < (R.ws.length : Int) := by omega
      obtain rfl : j = R.ws.length := by omega
      rw [keepTo_all] at HRR
      go_wp2_with fail
      go_end0
      exact ⟨rfl, o7, HRR.out, HSS.out⟩
theorem rfbarrier_calm (h : RFAt o c w p R) (n : Int) (e : Nat) (ha : R.armed = false) (hl : R.ws.length ≤ 100000) : Calls Tryz.prog 35 #[.pointer (some ⟨p, 0, none⟩), .int .i64 n, .int .u64 (e : Int)] w fun r w' => r = .returned (.int .i64 (R.barrier n e).1) ∧ ∃ o', RFAt o' c w' p (R.barrier n e).2 ∧ Step o (logL c) w o' w' := by
  have H := Lib.hid h
  obtain ⟨kv, h1, h2⟩ := h
  have HI := Lib.hid h1
  have HW := Lib.hid h2
  have HL := Lib.hid hl
  have hsp : R.spend = (0, R) := if_pos ha
  unfold RF.barrier
  rw [hsp]
  clear h1 h2 hl hsp
  by_cases hm : R.may n e = 0
  · rw [if_neg (by omega), if_neg (by simp)]
    go_enter Tryz.func35, Tryz.ntmps35
    go_wp2_with fail
    refine (rfmay_any HI.out n e).mono ?_
    rintro r w1 ⟨rfl, rfl⟩
    rw [hm]
    go_wp2_with fail
    refine (rfspend_calm HI.out ha).mono ?_
    rintro r w1 ⟨rfl, rfl⟩
    go_wp2_with fail
    refine (rfkeep_in HI.out n HL.out).mono ?_
    rintro r w2 ⟨rfl, o2, hr2, hs2⟩
    have HF := Lib.hid (RFAt.moved (R := R) (R2 := R.settle n) HW.out rfl hr2 hs2)
    have HS := Lib.hid hs2
    clear hr2 hs2
    go_wp2_with fail
    go_ret
    exact ⟨rfl, o2, HF.out, HS.out⟩
  · rw [if_pos hm]
    have hmv : ∃ m, R.may n e = m := ⟨_, rfl⟩
    obtain ⟨m, hme⟩ := hmv
    rw [hme] at hm ⊢
    go_enter Tryz.func35, Tryz.ntmps35
    go_wp2_with fail
    refine (rfmay_any HI.out n e).mono ?_
    rintro r w1 ⟨rfl, rfl⟩
    rw [hme]
    go_wp2_with fail
    go_ret
    exact ⟨rfl, o, H.out, Step.refl _ _ _⟩
def RF.wrote (R : RF) (n at_ : Int) (data : ByteArray) (m : Nat) : RF := { R with ws := R.ws ++ rwsN n at_ data m }
set_option maxRecDepth 100000 in
set_option maxHeartbeats 4000000 in
theorem rfwrite_ok (h : RefIn o c w p R kv) (k e : Nat) (at_ : Int) (data : ByteArray) (m : Nat) (hof : R.off = false) (ha : R.armed = false) (hk : k ≤ 16) (he : R.table k = e) (h0 : e ≠ 0) (hd : data.size = m * 64) (h1 : 1 ≤ m) (h2 : m ≤ 16) (h3 : 0 ≤ at_) (h4 : at_ + m ≤ R.room) (hr : R.room ≤ 100000) (hl : R.ws.length ≤ 90000) :
    Calls Tryz.prog 34 #[.pointer (some ⟨p, 0, none⟩), .int .i64 (k : Int), .int .u64 (e : Int), .int .i64 at_, .string data] w fun r w' => r = .returned (.int .i64 0) ∧ ∃ o', RefIn o' c w' p (R.wrote k at_ data m) kv ∧ Step o (logL c) w o' w' := by
  have H := Lib.hid h
  have HL := Lib.hid hl
  have HM := Lib.hid (rfmay_zero h k e hof hk he h0)
  have HDS := Lib.hid hd
  have HM2 := Lib.hid h2
  obtain ⟨lv, hb, hc, ho⟩ := h
  have x0 : w.cell? ⟨p, 0, none⟩ = some (.int .i64 R.room) := hb.cell 0
  have x2 : w.cell? ⟨p, 2, none⟩ = some (.bool false) := by rw [← hof]; exact hb.cell 2
  have hn : nodeOk (k : Int) = true := decide_eq_true (by omega)
  have hq : (data.size : Int).tdiv 64 = (m : Int) := tdiv64 (by omega)
  have hqw : IntKind.i64.wrap (m : Int) = (m : Int) := IntWalk.i64_in _ (by omega)
  have hrem : (data.size : Int).tmod 64 = 0 := tmod64 (r := 0) (by omega)
  have hm1 : ¬ (m : Int) < 1 := by omega
  have hm2 : ¬ 16 < (m : Int) := by omega
  have hm1' : (1 : Int) ≤ (m : Int) := by omega
  have hm2' : (m : Int) ≤ 16 := by omega
  have hsub : IntKind.i64.wrap ((R.room : Int) - (m : Int)) = (R.room : Int) - (m : Int) := IntWalk.i64_in _ (by omega)
  have hat : ¬ (R.room : Int) - (m : Int) < at_ := by omega
  have hat2 : at_ ≤ (R.room : Int) - (m : Int) := by omega
  have hat0 : ¬ at_ < 0 := by omega
  have HAT := Lib.hid h4
  have HRM := Lib.hid hr
  clear hb hc ho hl hk he h0 hd h1 h2 h4 hr hof
  go_enter Tryz.func34, Tryz.ntmps34
  go_wp2_with fail
  refine (rfnode_any k w).mono ?_
  rintro r w1 ⟨rfl, rfl⟩
  rw [hn]
  go_wp2_with fail
  refine HM.out.mono ?_
  rintro r w1 ⟨rfl, rfl⟩
  go_wp2_with fail
  refine (rfspend_calm H.out ha).mono ?_
  rintro r w1 ⟨rfl, rfl⟩
  go_wp2_with fail
  clear x0 x2 hn hq hqw hrem hm1 hm2 hm1' hm2' hsub hat hat2
  have H0 := Lib.hid (show RefIn o c w p (R.wrote k at_ data 0) kv from by rw [show R.wrote k at_ data 0 = R from by unfold RF.wrote rwsN; simp]; exact H.out)
  go_loopw [13] (fun t13 wr => ∃ (i : Nat) (o1 : Nat → Nat), i ≤ m ∧ t13 = .int .i64 i ∧ RefIn o1 c wr p (R.wrote k at_ data i) kv ∧ Step o (logL c) w o1 wr) (fun t13 _ => m - (intOf t13).toNat)
  case atStart => exact ⟨0, o, by omega, rfl, H0.out, Step.refl _ _ _⟩
  case round =>
    obtain ⟨i, o1, hi, rfl, hr, hs⟩ := hrel
    have HRR := Lib.hid hr
    have HSS := Lib.hid hs
    clear hr hs
    by_cases hlt : i < m
    · have hltI : (i : Int) < (m : Int) := by omega
      have HIL := Lib.hid hlt
      obtain ⟨A9, cap9, HB9, HC9, HO9, x1, f1, hcap9, hcm9⟩ := HRR.out.row
      obtain ⟨i0, hi0, hz0, hz1, hz2⟩ := info_parts info_rw
      have hWL : (R.wrote k at_ data i).ws.length = R.ws.length + i := by show (R.ws ++ rwsN k at_ data i).length = _; rw [List.length_append]; unfold rwsN; rw [List.length_map, List.length_range]
      have HWS := Lib.hid (show (R.wrote k at_ data (i + 1)).ws = (R.wrote k at_ data i).ws ++ [⟨k, at_ + i, sect data i, false⟩] by show R.ws ++ rwsN k at_ data (i + 1) = (R.ws ++ rwsN k at_ data i) ++ _; rw [rwsN_succ, List.append_assoc])
      obtain ⟨Q, hQ⟩ : ∃ Q, R.wrote k at_ data i = Q := ⟨_, rfl⟩
      have HQC := Lib.hid (show ∀ lv, (R.wrote k at_ data (i + 1)).cells lv kv = Q.cells lv kv from fun lv => by rw [← hQ]; rfl)
      rw [hQ] at HB9 HO9 x1 hcap9 hWL HWS
      have hWL2 : Q.ws.length ≤ 100000 := by have := HL.out; have := HM2.out; omega
      have hcm9' : cap9 ≤ 9223372036854775807 := by unfold maxLen at hcm9; omega
      have HCM9 := Lib.hid hcm9
      clear hcm9 hWL hQ
      obtain ⟨lo, hlo⟩ : ∃ lo, i * 64 = lo := ⟨_, rfl⟩
      obtain ⟨hi', hhi⟩ : ∃ hi', (i + 1) * 64 = hi' := ⟨_, rfl⟩
      have hhs : hi' ≤ data.size := by have := HDS.out; omega
      have e1 : IntKind.i64.wrap (at_ + (i : Int)) = at_ + i := IntWalk.i64_in _ (by have := HAT.out; have := HRM.out; omega)
      have e2 : IntKind.i64.wrap (64 * (i : Int)) = (lo : Int) := by rw [IntWalk.i64_in _ (by have := HM2.out; omega)]; omega
      have e3 : IntKind.i64.wrap ((lo : Int) + 64) = (hi' : Int) := by rw [IntWalk.i64_in _ (by have := HM2.out; omega)]; omega
      have b0 : (0 : Int) ≤ (lo : Int) := by omega
      have b1 : (lo : Int) ≤ (hi' : Int) := by omega
      have b2 : (hi' : Int) ≤ (data.size : Int) := by omega
      obtain ⟨S, hS⟩ : ∃ S, data.extract lo hi' = S := ⟨_, rfl⟩
      have HSE := Lib.hid (show sect data i = S by unfold sect; rw [hlo, hhi, hS])
      have HO10 := Lib.hid (HO9.out.alloc (.cells #[.int .i64 (k : Int), .int .i64 (at_ + (i : Int)), .string S, .bool false] 185)).drew
      have HB10 := Lib.hid (HB9.out.alloc (.cells #[.int .i64 (k : Int), .int .i64 (at_ + (i : Int)), .string S, .bool false] 185)).drew
      have HSA := Lib.hid (HSS.out.alloc (.cells #[.int .i64 (k : Int), .int .i64 (at_ + (i : Int)), .string S, .bool false] 185)).drew
      have z1 : wr.drew.cell? ⟨p, 1, none⟩ = some (.slice A9 Q.ws.length cap9) := x1
      have z1b : (wr.alloc (.cells #[.int .i64 (k : Int), .int .i64 (at_ + (i : Int)), .string S, .bool false] 185)).cell? ⟨p, 1, none⟩ = some (.slice A9 Q.ws.length cap9) := (HB9.out.alloc (.cells #[.int .i64 (k : Int), .int .i64 (at_ + (i : Int)), .string S, .bool false] 185)).cell 1
      clear hlo hhi hhs
      go_upto_region 17 with (fail)
      go_region_law ((refine step_append_S _ rfl (.tmp 71) (.tmp 84) 91 rfl 185 i0 _ 4 40 Tryz.underlying91 hi0 hz0 hz1 hz2 rfl (by omega) (.slice A9 Q.ws.length cap9) Q.ws.length (rwcells Q.ws) rfl HO10.out (some ⟨wr.heap.size, 0, none⟩) 1 1 [.int .i64 (k : Int), .int .i64 (at_ + (i : Int)), .string S, .bool false] rfl (Reads.newAt wr 185 4 1 _ #[.int .i64 (k : Int), .int .i64 (at_ + (i : Int)), .string S, .bool false] _ rfl rfl rfl).drew (by simp [Value.oneCell']) (by unfold maxLen; omega) (by omega) ?_; intro v7 w7 hown7 hst7 hgr7 hat7; obtain ⟨A7, cap7, rfl, _, _⟩ := own_form' hown7; have hb7 := HB10.out.step hst7 (by rw [HC9.out]; unfold only; omega); have y1 : w7.cell? ⟨p, 1, none⟩ = some (.slice A9 Q.ws.length cap9) := hb7.cell 1; have g1 := hb7.frozen 1; have HB7 := Lib.hid hb7; have HO7 := Lib.hid hown7; have HS7 := Lib.hid hst7; clear hown7 hst7 hgr7 hat7 hb7))
      all_goals
        have hc7 := (HS7.out.old p HB10.out.lt).trans HC9.out
        have hne := own_blk_ne HO7.out HB7.out (by decide)
        have HF := Lib.hid (show ∃ o2, RefIn o2 c (w7.setCell ⟨p, 1, none⟩ (.slice A7 (Q.ws.length + 1) cap7)) p (R.wrote k at_ data (i + 1)) kv ∧ Step o (logL c) w o2 (w7.setCell ⟨p, 1, none⟩ (.slice A7 (Q.ws.length + 1) cap7)) from by
          refine ⟨_, ⟨.slice A7 (Q.ws.length + 1) cap7, ?_, hc7, ?_⟩, (HSA.out.trans (HS7.out.mono (logL_ring c))).setCell (p := ⟨p, 1, none⟩) (.inl hc7) _⟩
          · rw [HQC.out]
            exact HB7.out.set_ 1 (.slice A7 (Q.ws.length + 1) cap7)
          · have h2 := HO7.out.setCell (p := ⟨p, 1, none⟩) hne (.slice A7 (Q.ws.length + 1) cap7)
            rw [HWS.out, rwcells_app, HSE.out, List.length_append]
            exact h2)
        clear hc7 hne HO7 HS7 HB7
        go_wp2_with fail
        go_roundw
        case rel => exact ⟨i + 1, HF.out.choose, by have := HIL.out; omega, by go_num, HF.out.choose_spec.1, HF.out.choose_spec.2⟩
        case measure => have := HIL.out; simp [intOf]; omega
    · have hltI : ¬ (i : Int) < (m : Int) := by omega
      obtain rfl : i = m := by omega
      go_wp2_with fail
      go_ret
      exact ⟨rfl, o1, HRR.out, HSS.out⟩
set_option maxRecDepth 100000 in
set_option maxHeartbeats 2000000 in
theorem rfwrite_calm (h : RFAt o c w p R) (n : Int) (e : Nat) (at_ : Int) (data : ByteArray) (ha : R.armed = false) (hr : R.room ≤ 100000) (hl : R.ws.length ≤ 90000) (hds : data.size ≤ maxLen) :
    Calls Tryz.prog 34 #[.pointer (some ⟨p, 0, none⟩), .int .i64 n, .int .u64 (e : Int), .int .i64 at_, .string data] w fun r w' => r = .returned (.int .i64 (R.write n e at_ data).1) ∧ ∃ o', RFAt o' c w' p (R.write n e at_ data).2 ∧ Step o (logL c) w o' w' := by
  have H := Lib.hid h
  obtain ⟨kv, h1, h2⟩ := h
  have HI := Lib.hid h1
  have HW := Lib.hid h2
  have hsp : R.spend = (0, R) := if_pos ha
  obtain ⟨lv, hb, _, _⟩ := h1
  have x2 : w.cell? ⟨p, 2, none⟩ = some (.bool R.off) := hb.cell 2
  have x0 : w.cell? ⟨p, 0, none⟩ = some (.int .i64 R.room) := hb.cell 0
  clear hb h2
  unfold RF.write
  rw [hsp]
  clear hsp
  obtain ⟨b, hb⟩ : ∃ b, R.off = b := ⟨_, rfl⟩
  rw [hb] at x2 ⊢
  have HOF := Lib.hid hb
  clear hb
  cases b with
  | true =>
    clear x0
    go_enter Tryz.func34, Tryz.ntmps34
    go_wp2_with fail
    go_ret
    exact ⟨rfl, o, H.out, Step.refl _ _ _⟩
  | false =>
    rw [if_neg (by decide)]
    obtain ⟨q, hq⟩ : ∃ q, data.size / 64 = q := ⟨_, rfl⟩
    obtain ⟨rm, hrm⟩ : ∃ rm, data.size % 64 = rm := ⟨_, rfl⟩
    have dq : (data.size : Int).tdiv 64 = (q : Int) := tdiv64 hq
    have dr : (data.size : Int).tmod 64 = (rm : Int) := tmod64 hrm
    have hsz : data.size = q * 64 + rm := by omega
    have hqb : q ≤ 9223372036854775807 := by unfold maxLen at hds; omega
    have dqw : IntKind.i64.wrap (q : Int) = (q : Int) := IntWalk.i64_in _ (by omega)
    rw [hq, hrm]
    have HSZ := Lib.hid hsz
    clear hq hrm hsz hds
    by_cases hn : nodeOk n = false
    · rw [if_pos (.inl hn)]
      clear x0
      go_enter Tryz.func34, Tryz.ntmps34
      go_wp2_with fail
      refine (rfnode_any n w).mono ?_
      rintro r w1 ⟨rfl, rfl⟩
      rw [hn]
      go_wp2_with fail
      go_ret
      exact ⟨rfl, o, H.out, Step.refl _ _ _⟩
    have hn2 : nodeOk n = true := by simpa using hn
    by_cases c1 : rm = 0
    rotate_left
    · rw [if_pos (.inr (.inl c1))]
      have c1I : ¬ (rm : Int) = 0 := by omega
      clear x0
      go_enter Tryz.func34, Tryz.ntmps34
      go_wp2_with fail
      refine (rfnode_any n w).mono ?_
      rintro r w1 ⟨rfl, rfl⟩
      rw [hn2]
      go_wp2_with fail
      go_ret
      exact ⟨rfl, o, H.out, Step.refl _ _ _⟩
    have c1I : (rm : Int) = 0 := by omega
    by_cases c2 : q < 1
    · rw [if_pos (.inr (.inr (.inl c2)))]
      have c2I : (q : Int) < 1 := by omega
      clear x0
      go_enter Tryz.func34, Tryz.ntmps34
      go_wp2_with fail
      refine (rfnode_any n w).mono ?_
      rintro r w1 ⟨rfl, rfl⟩
      rw [hn2]
      go_wp2_with fail
      go_ret
      exact ⟨rfl, o, H.out, Step.refl _ _ _⟩
    have c2I : ¬ (q : Int) < 1 := by omega
    by_cases c3 : 16 < q
    · rw [if_pos (.inr (.inr (.inr c3)))]
      have c3I : 16 < (q : Int) := by omega
      clear x0
      go_enter Tryz.func34, Tryz.ntmps34
      go_wp2_with fail
      refine (rfnode_any n w).mono ?_
      rintro r w1 ⟨rfl, rfl⟩
      rw [hn2]
      go_wp2_with fail
      go_ret
      exact ⟨rfl, o, H.out, Step.refl _ _ _⟩
    have c3I : ¬ 16 < (q : Int) := by omega
    rw [if_neg (show ¬ (nodeOk n = false ∨ rm ≠ 0 ∨ q < 1 ∨ 16 < q) from fun x => by rcases x with x | x | x | x <;> first | exact hn x | omega)]
    by_cases hm : R.may n e = 0
    rotate_left
    · rw [if_pos hm]
      obtain ⟨m, hme⟩ : ∃ m, R.may n e = m := ⟨_, rfl⟩
      rw [hme] at hm ⊢
      clear x0
      go_enter Tryz.func34, Tryz.ntmps34
      go_wp2_with fail
      refine (rfnode_any n w).mono ?_
      rintro r w1 ⟨rfl, rfl⟩
      rw [hn2]
      go_wp2_with fail
      refine (rfmay_any HI.out n e).mono ?_
      rintro r w1 ⟨rfl, rfl⟩
      rw [hme]
      go_wp2_with fail
      go_ret
      exact ⟨rfl, o, H.out, Step.refl _ _ _⟩
    rw [if_neg (show ¬ R.may n e ≠ 0 from fun x => x hm)]
    have wsub : IntKind.i64.wrap ((R.room : Int) - (q : Int)) = (R.room : Int) - (q : Int) := IntWalk.i64_in _ (by omega)
    by_cases c4 : at_ < 0 ∨ (R.room : Int) - (q : Int) < at_
    · rw [if_pos c4]
      by_cases c5 : at_ < 0
      · go_enter Tryz.func34, Tryz.ntmps34
        go_wp2_with fail
        refine (rfnode_any n w).mono ?_
        rintro r w1 ⟨rfl, rfl⟩
        rw [hn2]
        go_wp2_with fail
        refine (rfmay_any HI.out n e).mono ?_
        rintro r w1 ⟨rfl, rfl⟩
        rw [hm]
        go_wp2_with fail
        go_ret
        exact ⟨rfl, o, H.out, Step.refl _ _ _⟩
      · have c6 : (R.room : Int) - (q : Int) < at_ := by omega
        go_enter Tryz.func34, Tryz.ntmps34
        go_wp2_with fail
        refine (rfnode_any n w).mono ?_
        rintro r w1 ⟨rfl, rfl⟩
        rw [hn2]
        go_wp2_with fail
        refine (rfmay_any HI.out n e).mono ?_
        rintro r w1 ⟨rfl, rfl⟩
        rw [hm]
        go_wp2_with fail
        go_ret
        exact ⟨rfl, o, H.out, Step.refl _ _ _⟩
    · rw [if_neg c4, if_neg (by simp)]
      have hnn : 0 ≤ n ∧ n ≤ 16 := of_decide_eq_true hn2
      obtain ⟨k, rfl⟩ : ∃ k : Nat, n = k := ⟨n.toNat, by omega⟩
      have hm2 : R.table k = e ∧ e ≠ 0 := by
        unfold RF.may at hm
        rw [if_neg (by rw [HOF.out]; decide), if_neg (by rw [hn2]; decide), Int.toNat_natCast] at hm
        split at hm
        · omega
        · omega
      refine (rfwrite_ok HI.out k e at_ data q HOF.out ha (by omega) hm2.1 hm2.2 (by have := HSZ.out; omega) (by omega) (by omega) (by omega) (by omega) hr hl).mono ?_
      rintro r w2 ⟨rfl, o2, hr2, hs2⟩
      exact ⟨rfl, o2, RFAt.moved (R := R) (R2 := R.wrote k at_ data q) HW.out rfl hr2 hs2, hs2⟩
end
end Go.Proofs.YtkhieofknglknaaGreatDoor
