/- Messages as plain structures: when one can be, its bytes, the message that bytes are; what is put is got, and bytes that are cut are none. -/
import Derived.Test.YtcmneekdajnnaaaGreatDoorKMapR
import Derived.Test.YtcmneekdajnnaaaGreatDoorKCutA
import Derived.Test.YtcmneekdajnnaaaGreatDoorKSumA
namespace Go.Proofs.YtcmneekdajnnaaaGreatDoor
open Go.RowKit

/-- a lock: from, to, mode -/
structure Lk where
  a : Int
  b : Int
  m : Int
  deriving DecidableEq
/-- a message -/
structure Mg where
  kind : Int
  id : Int
  node : Int
  gen : Int
  stamp : Int
  epoch : Nat
  err : Int
  locks : List Lk
  deriving DecidableEq
def Mg.zero : Mg := ⟨0, 0, 0, 0, 0, 0, 0, []⟩
def Lk.ok (l : Lk) : Prop := 0 ≤ l.a ∧ l.a < l.b ∧ l.b ≤ 4096 ∧ 0 ≤ l.m ∧ l.m ≤ 2
instance (l : Lk) : Decidable l.ok := inferInstanceAs (Decidable (_ ∧ _))
def sm (n : Int) : Prop := 0 ≤ n ∧ n ≤ 2147483647
instance (n : Int) : Decidable (sm n) := inferInstanceAs (Decidable (_ ∧ _))
def Mg.ok (m : Mg) : Prop := (1 ≤ m.kind ∧ m.kind ≤ 15 ∧ m.locks.length ≤ 200) ∧ (sm m.id ∧ sm m.node ∧ sm m.gen ∧ sm m.stamp ∧ sm m.err) ∧ ∀ l ∈ m.locks, l.ok
instance (m : Mg) : Decidable m.ok := inferInstanceAs (Decidable (_ ∧ _))
def Lk.enc (l : Lk) : List UInt8 := le l.a.toNat 4 ++ (le l.b.toNat 4 ++ le l.m.toNat 1)
def Mg.head (m : Mg) : List UInt8 := le m.kind.toNat 1 ++ (le m.id.toNat 4 ++ (le m.node.toNat 4 ++ (le m.gen.toNat 4 ++ (le m.stamp.toNat 4 ++ (le m.err.toNat 4 ++ le m.epoch 8)))))
def Mg.enc (m : Mg) : List UInt8 := m.head ++ (le m.locks.length 2 ++ m.locks.flatMap Lk.enc)
def Mg.putS (m : Mg) : ByteArray := if m.ok then str m.enc else ⟨#[]⟩
def Mg.putE (m : Mg) : Int := if m.ok then 0 else 1

/-- a lock read, and the reader behind it -/
def lkV (R : Rd) : Lk := ⟨R.numV 4, (R.numR 4).numV 4, ((R.numR 4).numR 4).numV 1⟩
def lkR (R : Rd) : Rd := ((R.numR 4).numR 4).numR 1
def lksR (R : Rd) : Nat → Rd
  | 0 => R
  | k + 1 => lkR (lksR R k)
def lksV (R : Rd) : Nat → List Lk
  | 0 => []
  | k + 1 => lksV R k ++ [lkV (lksR R k)]
theorem lksV_len (R : Rd) (k : Nat) : (lksV R k).length = k := by
  induction k with
  | zero => rfl
  | succ k ih => simp [lksV, ih]
/-- the reader behind the head's numbers -/
def hdR (b : ByteArray) : Rd := ((((((((⟨b, 0⟩ : Rd).numR 1).numR 4).numR 4).numR 4).numR 4).numR 4).numR 8)
def getM (b : ByteArray) : Mg :=
  ⟨(⟨b, 0⟩ : Rd).numV 1, ((⟨b, 0⟩ : Rd).numR 1).numV 4, (((⟨b, 0⟩ : Rd).numR 1).numR 4).numV 4, ((((⟨b, 0⟩ : Rd).numR 1).numR 4).numR 4).numV 4, (((((⟨b, 0⟩ : Rd).numR 1).numR 4).numR 4).numR 4).numV 4,
    (((((((⟨b, 0⟩ : Rd).numR 1).numR 4).numR 4).numR 4).numR 4).numR 4).numV 8, ((((((⟨b, 0⟩ : Rd).numR 1).numR 4).numR 4).numR 4).numR 4).numV 4, lksV ((hdR b).countR 200) ((hdR b).countV 200).toNat⟩
def endE (b : ByteArray) : Int := (lksR ((hdR b).countR 200) ((hdR b).countV 200).toNat).endV
def goodM (b : ByteArray) : Prop := (getM b).ok ∧ str (getM b).enc = b
instance (b : ByteArray) : Decidable (goodM b) := inferInstanceAs (Decidable (_ ∧ _))
def gotM (b : ByteArray) : Mg := if endE b = 0 ∧ goodM b then getM b else Mg.zero
def gotE (b : ByteArray) : Int := if endE b ≠ 0 then endE b else if goodM b then 0 else 4

theorem lk_app {l : Lk} (h : l.ok) (m : List UInt8) : lkV ⟨str (l.enc ++ m), 0⟩ = l ∧ lkR ⟨str (l.enc ++ m), 0⟩ = ⟨str m, 0⟩ := by
  obtain ⟨h0, h1, h2, h3, h4⟩ := h
  obtain ⟨a1, b1⟩ := num_app (v := l.a.toNat) (n := 4) ⟨by omega, by omega, by simp; omega⟩ (le l.b.toNat 4 ++ (le l.m.toNat 1 ++ m))
  obtain ⟨a2, b2⟩ := num_app (v := l.b.toNat) (n := 4) ⟨by omega, by omega, by simp; omega⟩ (le l.m.toNat 1 ++ m)
  obtain ⟨a3, b3⟩ := num_app (v := l.m.toNat) (n := 1) ⟨by omega, by omega, by simp; omega⟩ m
  simp only [show (4 : Int).toNat = 4 from rfl, show (1 : Int).toNat = 1 from rfl] at a1 b1 a2 b2 a3 b3
  have e : l.enc ++ m = le l.a.toNat 4 ++ (le l.b.toNat 4 ++ (le l.m.toNat 1 ++ m)) := by simp [Lk.enc]
  unfold lkV lkR
  rw [e, a1, b1, a2, b2, a3, b3]
  refine ⟨?_, rfl⟩
  cases l
  simp at h0 h1 h2 h3 h4 ⊢
  omega
theorem lks_app {ls : List Lk} (h : ∀ l ∈ ls, l.ok) (m : List UInt8) (k : Nat) (hk : k ≤ ls.length) :
    lksV ⟨str (ls.flatMap Lk.enc ++ m), 0⟩ k = ls.take k ∧ lksR ⟨str (ls.flatMap Lk.enc ++ m), 0⟩ k = ⟨str ((ls.drop k).flatMap Lk.enc ++ m), 0⟩ := by
  induction k with
  | zero => exact ⟨by simp [lksV], by simp [lksR]⟩
  | succ k ih =>
    obtain ⟨a, b⟩ := ih (by omega)
    have hd : ls.drop k = ls[k] :: ls.drop (k + 1) := List.drop_eq_getElem_cons (by omega)
    have e : (ls.drop k).flatMap Lk.enc ++ m = ls[k].enc ++ ((ls.drop (k + 1)).flatMap Lk.enc ++ m) := by rw [hd, List.flatMap_cons, List.append_assoc]
    rw [e] at b
    obtain ⟨a2, b2⟩ := lk_app (h ls[k] (List.getElem_mem _)) ((ls.drop (k + 1)).flatMap Lk.enc ++ m)
    refine ⟨?_, ?_⟩
    · rw [lksV, a, b, a2, List.take_succ_eq_append_getElem (by omega)]
    · rw [lksR, b, b2]
theorem sm_ok {n : Int} (h : sm n) : numOk n.toNat 4 := ⟨by omega, by omega, by obtain ⟨h1, h2⟩ := h; simp; omega⟩
theorem sm_nat {n : Int} (h : sm n) : ((n.toNat : Nat) : Int) = n := by obtain ⟨h1, h2⟩ := h; omega
theorem hd_app {m : Mg} (h : m.ok) (he : m.epoch < 18446744073709551616) (r : List UInt8) :
    hdR (str (m.head ++ r)) = ⟨str r, 0⟩ ∧ getM (str (m.head ++ r)) = { m with locks := lksV ((⟨str r, 0⟩ : Rd).countR 200) ((⟨str r, 0⟩ : Rd).countV 200).toNat } := by
  obtain ⟨⟨h1, h2, h3⟩, ⟨g1, g2, g3, g4, g5⟩, h5⟩ := h
  have e : m.head ++ r = le m.kind.toNat 1 ++ (le m.id.toNat 4 ++ (le m.node.toNat 4 ++ (le m.gen.toNat 4 ++ (le m.stamp.toNat 4 ++ (le m.err.toNat 4 ++ (le m.epoch 8 ++ r)))))) := by simp [Mg.head]
  obtain ⟨a1, b1⟩ := num_app (v := m.kind.toNat) (n := 1) ⟨by omega, by omega, by simp; omega⟩ (le m.id.toNat 4 ++ (le m.node.toNat 4 ++ (le m.gen.toNat 4 ++ (le m.stamp.toNat 4 ++ (le m.err.toNat 4 ++ (le m.epoch 8 ++ r))))))
  obtain ⟨a2, b2⟩ := num_app (sm_ok g1) (le m.node.toNat 4 ++ (le m.gen.toNat 4 ++ (le m.stamp.toNat 4 ++ (le m.err.toNat 4 ++ (le m.epoch 8 ++ r)))))
  obtain ⟨a3, b3⟩ := num_app (sm_ok g2) (le m.gen.toNat 4 ++ (le m.stamp.toNat 4 ++ (le m.err.toNat 4 ++ (le m.epoch 8 ++ r))))
  obtain ⟨a4, b4⟩ := num_app (sm_ok g3) (le m.stamp.toNat 4 ++ (le m.err.toNat 4 ++ (le m.epoch 8 ++ r)))
  obtain ⟨a5, b5⟩ := num_app (sm_ok g4) (le m.err.toNat 4 ++ (le m.epoch 8 ++ r))
  obtain ⟨a6, b6⟩ := num_app (sm_ok g5) (le m.epoch 8 ++ r)
  obtain ⟨a7, b7⟩ := num_app (v := m.epoch) (n := 8) ⟨by omega, by omega, by simpa using he⟩ r
  simp only [show (4 : Int).toNat = 4 from rfl, show (1 : Int).toNat = 1 from rfl, show (8 : Int).toNat = 8 from rfl] at a1 b1 a2 b2 a3 b3 a4 b4 a5 b5 a6 b6 a7 b7
  have hh : hdR (str (m.head ++ r)) = ⟨str r, 0⟩ := by unfold hdR; rw [e, b1, b2, b3, b4, b5, b6, b7]
  refine ⟨hh, ?_⟩
  unfold getM
  rw [hh, e, a1, b1, a2, b2, a3, b3, a4, b4, a5, b5, a6, b6, a7, sm_nat g1, sm_nat g2, sm_nat g3, sm_nat g4, sm_nat g5, show ((m.kind.toNat : Nat) : Int) = m.kind by omega]
/-- what is put is got -/
theorem get_put {m : Mg} (h : m.ok) (he : m.epoch < 18446744073709551616) : getM (str m.enc) = m ∧ endE (str m.enc) = 0 := by
  have hl := h.1.2.2
  have hls := h.2.2
  obtain ⟨a, b⟩ := hd_app h he (le m.locks.length 2 ++ m.locks.flatMap Lk.enc)
  obtain ⟨c1, c2⟩ := count_app (v := m.locks.length) (by omega) (m.locks.flatMap Lk.enc) 200
  rw [if_neg (by omega)] at c1 c2
  obtain ⟨d1, d2⟩ := lks_app hls [] m.locks.length (Nat.le_refl _)
  simp only [List.append_nil, List.take_length, List.drop_length, List.flatMap_nil] at d1 d2
  refine ⟨?_, ?_⟩
  · show getM (str (m.head ++ (le m.locks.length 2 ++ m.locks.flatMap Lk.enc))) = m
    rw [b, c1, c2, Int.toNat_natCast, d1]
  · unfold endE
    show (lksR ((hdR (str (m.head ++ (le m.locks.length 2 ++ m.locks.flatMap Lk.enc)))).countR 200) ((hdR (str (m.head ++ (le m.locks.length 2 ++ m.locks.flatMap Lk.enc)))).countV 200).toNat).endV = 0
    rw [a, c1, c2, Int.toNat_natCast, d2, end_nil]
theorem got_put {m : Mg} (h : m.ok) (he : m.epoch < 18446744073709551616) : gotM (str m.enc) = m ∧ gotE (str m.enc) = 0 := by
  obtain ⟨a, b⟩ := get_put h he
  have g : goodM (str m.enc) := by unfold goodM; rw [a]; exact ⟨h, rfl⟩
  unfold gotM gotE
  rw [if_pos ⟨b, g⟩, if_neg (by simpa using b), if_pos g]
  exact ⟨a, rfl⟩
theorem head_len (m : Mg) : m.head.length = 29 := by simp [Mg.head, le_len]
theorem lkenc_len (l : Lk) : l.enc.length = 9 := by simp [Lk.enc, le_len]
theorem lksenc_len (ls : List Lk) : (ls.flatMap Lk.enc).length = 9 * ls.length := by
  induction ls with
  | nil => rfl
  | cons x r ih => simp only [List.flatMap_cons, List.length_append, lkenc_len, ih, List.length_cons]; omega
theorem enc_len (m : Mg) : m.enc.length = 31 + 9 * m.locks.length := by
  simp only [Mg.enc, List.length_append, head_len, le_len, lksenc_len]; omega
/-- no message's bytes begin as another one's, and end ahead of them -/
theorem enc_cut {m x : Mg} (hm : m.ok) (hx : x.ok) {k : Nat} (hk : k < m.enc.length) : x.enc ≠ m.enc.take k := by
  intro e
  have l1 := enc_len m
  have l2 := enc_len x
  have l3 : x.enc.length = k := by rw [e, List.length_take]; omega
  have c : (x.enc.take 31).drop 29 = (m.enc.take 31).drop 29 := by rw [e, List.take_take, Nat.min_eq_left (by omega)]
  have f : ∀ y : Mg, (y.enc.take 31).drop 29 = le y.locks.length 2 := by
    intro y
    have e1 : y.enc = y.head ++ (le y.locks.length 2 ++ y.locks.flatMap Lk.enc) := rfl
    rw [List.drop_take, e1, List.drop_append_of_le_length (by rw [head_len]; exact Nat.le_refl _), List.drop_of_length_le (by rw [head_len]; exact Nat.le_refl _), List.nil_append, List.take_append_of_le_length (by rw [le_len]; exact Nat.le_refl _), List.take_of_length_le (by rw [le_len]; exact Nat.le_refl _)]
  rw [f, f] at c
  have c2 := congrArg lev c
  rw [lev_le, lev_le, Nat.mod_eq_of_lt (by have := hx.1.2.2; simp; omega), Nat.mod_eq_of_lt (by have := hm.1.2.2; simp; omega)] at c2
  omega
theorem got_cut {m : Mg} (hm : m.ok) {k : Nat} (hk : k < m.enc.length) : gotE ((str m.enc).extract 0 k) ≠ 0 := by
  unfold gotE
  split
  · assumption
  · rw [if_neg]
    · decide
    · rintro ⟨h1, h2⟩
      have h3 := congrArg (fun b : ByteArray => b.data.toList) h2
      simp only [str_list, extract_list, List.drop_zero] at h3
      exact enc_cut hm h1 hk h3
end Go.Proofs.YtcmneekdajnnaaaGreatDoor

/- Messages: when one can be (span.Valid, mode.Valid, msg.Valid). -/
namespace Go.Proofs.YtcmneekdajnnaaaGreatDoor
open Go.RowKit

def Lk.cells (l : Lk) : List Value := [.int .i64 l.a, .int .i64 l.b, .int .i64 l.m]
def lkcells (l : List Lk) : List Value := l.flatMap Lk.cells
theorem Lk.cells_len (l : Lk) : l.cells.length = 3 := rfl
theorem Lk.cells_one (l : Lk) : ∀ u ∈ l.cells, u.oneCell' = true := by simp [Lk.cells, Value.oneCell']
def Mg.agg (m : Mg) (A : Option Addr) (cap : Nat) : Value := .agg #[.int .i64 m.kind, .int .i64 m.id, .int .i64 m.node, .int .i64 m.gen, .int .i64 m.stamp, .int .u64 m.epoch, .int .i64 m.err, .slice A m.locks.length cap]
def Mg.row (m : Mg) (A : Option Addr) (cap : Nat) : Array Value := #[.int .i64 m.kind, .int .i64 m.id, .int .i64 m.node, .int .i64 m.gen, .int .i64 m.stamp, .int .u64 m.epoch, .int .i64 m.err, .slice A m.locks.length cap]
theorem Reads.lock {w : World} {A : Option Addr} {l : List Lk} (h : Reads w 3 A l.length (lkcells l)) {k : Nat} {y : Lk} (hy : l[k]? = some y) :
    ∃ ad, A = some ad ∧ w.cell? (ad.add (k * 3)) = some (.int .i64 y.a) ∧ w.cell? ⟨(ad.add (k * 3)).block, (ad.add (k * 3)).off + 1, none⟩ = some (.int .i64 y.b) ∧ w.cell? ⟨(ad.add (k * 3)).block, (ad.add (k * 3)).off + 2, none⟩ = some (.int .i64 y.m) := by
  obtain ⟨ad, rfl, hc⟩ := Reads.row Lk.cells_len h hy
  exact ⟨ad, rfl, hc 0 _ rfl, hc 1 _ rfl, hc 2 _ rfl⟩

/-- the five numbers that are small -/
def Mg.five (m : Mg) : Nat → Int
  | 0 => m.id
  | 1 => m.node
  | 2 => m.gen
  | 3 => m.stamp
  | _ => m.err
theorem Mg.five_ok {m : Mg} (h : m.ok) (k : Nat) : sm (m.five k) := by
  obtain ⟨_, ⟨h1, h2, h3, h4, h5⟩, _⟩ := h
  match k with
  | 0 => exact h1
  | 1 => exact h2
  | 2 => exact h3
  | 3 => exact h4
  | k + 4 => exact h5
theorem five_cell {m : Mg} (w : World) (t : TypeId) {k : Nat} (hk : k < 5) : (w.alloc (.cells #[.int .i64 m.id, .int .i64 m.node, .int .i64 m.gen, .int .i64 m.stamp, .int .i64 m.err] t)).cell? ⟨w.heap.size, k, none⟩ = some (.int .i64 (m.five k)) := by
  rw [(Blk.new w t _).cell k]
  have : k = 0 ∨ k = 1 ∨ k = 2 ∨ k = 3 ∨ k = 4 := by omega
  rcases this with rfl | rfl | rfl | rfl | rfl <;> rfl
end Go.Proofs.YtcmneekdajnnaaaGreatDoor

/- Messages: Put lays one. -/
namespace Go.Proofs.YtcmneekdajnnaaaGreatDoor
open Go.RowKit

/-- a block of the call's own, of colour 0, known whole -/
def Keep (o : Nat → Nat) (w : World) (g : Nat) (t : TypeId) (cs : Array Value) : Prop := Blk w g t cs ∧ o g = 0
section
variable {o o' : Nat → Nat} {C : Nat → Prop} {w w' : World} {g : Nat} {t : TypeId} {cs : Array Value}
theorem Keep.step (h : Keep o w g t cs) (hs : Step o C w o' w') (h0 : ¬ C 0) : Keep o' w' g t cs := ⟨h.1.step hs (by rw [h.2]; exact h0), (hs.old g h.1.lt).trans h.2⟩
theorem Keep.below_ (h : Keep o w g t cs) (hb : Below w.heap.size w w') : Keep o w' g t cs := ⟨h.1.below_ hb, h.2⟩
theorem Keep.alloc (h : Keep o w g t cs) (x : Obj) : Keep o (w.alloc x) g t cs := ⟨h.1.alloc x, h.2⟩
theorem Keep.drewN (h : Keep o w g t cs) (n : Nat) : Keep o (w.drewN n) g t cs := h
theorem Keep.drew (h : Keep o w g t cs) : Keep o w.drew g t cs := h
theorem Keep.new (hf : Fut o w) (t : TypeId) (cs : Array Value) : Keep o (w.alloc (.cells cs t)) w.heap.size t cs := ⟨Blk.new _ _ _, hf.at_⟩
end
theorem Blk.eight {w : World} {g : Nat} {t : TypeId} {c0 c1 c2 c3 c4 c5 c6 c7 : Value} (h : Blk w g t #[c0, c1, c2, c3, c4, c5, c6, c7]) : w.cell? ⟨g, 0, none⟩ = some c0 ∧ w.cell? ⟨g, 1, none⟩ = some c1 ∧ w.cell? ⟨g, 2, none⟩ = some c2 ∧ w.cell? ⟨g, 3, none⟩ = some c3 ∧ w.cell? ⟨g, 4, none⟩ = some c4 ∧ w.cell? ⟨g, 5, none⟩ = some c5 ∧ w.cell? ⟨g, 6, none⟩ = some c6 ∧ w.cell? ⟨g, 7, none⟩ = some c7 :=
  ⟨h.cell 0, h.cell 1, h.cell 2, h.cell 3, h.cell 4, h.cell 5, h.cell 6, h.cell 7⟩
theorem Blk.three {w : World} {g : Nat} {t : TypeId} {c0 c1 c2 : Value} (h : Blk w g t #[c0, c1, c2]) : w.cell? ⟨g, 0, none⟩ = some c0 ∧ w.cell? ⟨g, 1, none⟩ = some c1 ∧ w.cell? ⟨g, 2, none⟩ = some c2 := ⟨h.cell 0, h.cell 1, h.cell 2⟩
/-- a writer under way: its bytes; all is well; what lay before stays -/
structure Wg (o : Nat → Nat) (w0 w : World) (p : Nat) (bs : List UInt8) : Prop where
  wr : WrAt 191 o 1 w p ⟨bs, 0⟩
  env : Env o w0 w
  fut : Fut o w
section
variable {o o' : Nat → Nat} {w0 w w' : World} {p : Nat} {bs bs' : List UInt8}
theorem Wg.next (h : Wg o w0 w p bs) (hw : WrAt 191 o' 1 w' p ⟨bs', 0⟩) (hs : Step o (only 1) w o' w') : Wg o' w0 w' p bs' := ⟨hw, h.env.step hs (by unfold only; omega), h.fut.step hs⟩
theorem Wg.below_ (h : Wg o w0 w p bs) (hb : Below w.heap.size w w') : Wg o w0 w' p bs := ⟨h.wr.below_ hb, h.env.below_ hb, h.fut.below hb⟩
theorem Wg.alloc (h : Wg o w0 w p bs) (x : Obj) : Wg o w0 (w.alloc x) p bs := ⟨h.wr.alloc x, h.env.alloc x, h.fut.alloc x⟩
theorem Wg.drewN (h : Wg o w0 w p bs) (n : Nat) : Wg o w0 (w.drewN n) p bs := ⟨h.wr.drewN n, h.env.drewN n, h.fut.drewN n⟩
theorem Wg.drew (h : Wg o w0 w p bs) : Wg o w0 w.drew p bs := h.drewN 1
theorem Wg.start {w0 w1 : World} (hb : Below w0.heap.size w0 w1) : ∃ o, Wg o w0 (w1.alloc (.cells #[.slice none 0 0, .int .i64 0] 191)) w1.heap.size [] ∧ ∀ C, Step (fun _ => 0) C w1 o (w1.alloc (.cells #[.slice none 0 0, .int .i64 0] 191)) := by
  obtain ⟨o1, h1, hs⟩ := wr_new 191 (fun _ => 0) 1 w1
  exact ⟨o1, ⟨h1, ((Env.start w0).below_ hb).step (hs (fun _ => False)) (by simp), (show Fut (fun _ => 0) w1 from fun _ _ => rfl).step (hs (fun _ => False))⟩, hs⟩
theorem wnum_ok (h : Wg o w0 w p bs) (v : Nat) (n : Int) (hok : numOk v n) (hv : v < 18446744073709551616) (hb : bs.length ≤ 1000000000) :
    Calls Tryz.prog 131 #[.pointer (some ⟨p, 0, none⟩), .int .u64 v, .int .i64 n] w fun r w' => r = .returned (.pointer (some ⟨p, 0, none⟩)) ∧ ∃ o', Wg o' w0 w' p (bs ++ le v n.toNat) ∧ Step o (only 1) w o' w' := by
  refine (wnum_any h.wr v n hv hb).mono ?_
  rintro e w1 ⟨rfl, o1, hw, hs⟩
  rw [Wr.num_ok rfl hok] at hw
  exact ⟨rfl, o1, h.next hw hs, hs⟩
theorem wbytes_ok (h : Wg o w0 w p bs) : Calls Tryz.prog 132 #[.pointer (some ⟨p, 0, none⟩)] w fun r w' => r = .returned (.tuple #[.string (str bs), .int .i64 0]) ∧ Wg o w0 w' p bs := by
  refine (wbytes_any h.wr).mono ?_
  rintro e w1 ⟨rfl, hb⟩
  exact ⟨rfl, h.below_ hb⟩
end
def Mg.pre (m : Mg) (k : Nat) : List UInt8 := le m.kind.toNat 1 ++ (List.range k).flatMap (fun j => le (m.five j).toNat 4)
theorem Mg.pre_succ (m : Mg) (k : Nat) : m.pre (k + 1) = m.pre k ++ le (m.five k).toNat 4 := by simp [Mg.pre, List.range_succ]
theorem Mg.pre_five (m : Mg) : m.pre 5 ++ le m.epoch 8 = m.head := by simp [Mg.pre, Mg.head, List.range_succ, Mg.five]
theorem Mg.pre_len (m : Mg) {k : Nat} (hk : k ≤ 5) : (m.pre k).length ≤ 30 := by
  have : ∀ k, (m.pre k).length = 1 + 4 * k := by
    intro k
    induction k with
    | zero => simp [Mg.pre, le_len]
    | succ k ih => rw [Mg.pre_succ, List.length_append, ih, le_len]; omega
  rw [this]
  omega
theorem sm_toNat {n : Int} (h : sm n) : ∃ v : Nat, n = v ∧ v ≤ 2147483647 ∧ n.toNat = v := by
  obtain ⟨h1, h2⟩ := h
  exact ⟨n.toNat, by omega, by omega, rfl⟩
theorem wrapu_nat {v : Nat} (h : v < 4294967296) : IntKind.u64.wrap (v : Int) = (v : Int) := by rw [IntKind.wrap_u64]; omega
theorem five_get (m : Mg) {k : Nat} (hk : k < 5) : (#[.int .i64 m.id, .int .i64 m.node, .int .i64 m.gen, .int .i64 m.stamp, .int .i64 m.err] : Array Value)[k]? = some (.int .i64 (m.five k)) := by
  have : k = 0 ∨ k = 1 ∨ k = 2 ∨ k = 3 ∨ k = 4 := by omega
  rcases this with rfl | rfl | rfl | rfl | rfl <;> rfl
end Go.Proofs.YtcmneekdajnnaaaGreatDoor

/- Texts sealed with their sums: four, Seal, Open; the document's. -/
namespace Go.Proofs.YtcmneekdajnnaaaGreatDoor
open Go.RowKit

theorem four_any (v : Nat) (hv : v < 4294967296) (w : World) : Calls Tryz.prog 134 #[.int .u32 v] w fun e w' => e = .returned (.string (str (four v))) ∧ Below w.heap.size w w' := by
  obtain ⟨o1, h1, _⟩ := Wg.start (w0 := w) (Below.refl w.heap.size w)
  have H1 := Lib.hid h1
  have HN := Lib.hid (show numOk v 4 from ⟨by omega, by omega, by simpa using hv⟩)
  have H64 := Lib.hid (show v < 18446744073709551616 by omega)
  clear h1
  go_enter Tryz.func134, Tryz.ntmps134
  go_wp2_with fail
  refine (wnum_ok H1.out v 4 HN.out H64.out (by simp)).mono ?_
  rintro e w2 ⟨rfl, o2, h2, s2⟩
  have H2 := Lib.hid h2
  clear h2 s2
  go_wp2_with fail
  refine (wbytes_ok H2.out).mono ?_
  rintro e w3 ⟨rfl, h3⟩
  have H3 := Lib.hid h3
  clear h3
  rw [show ([] : List UInt8) ++ le v (4 : Int).toNat = four v from rfl]
  go_wp2_with fail
  go_ret
  exact ⟨rfl, H3.out.env.low⟩
theorem of_val (s : ByteArray) (v : Nat) (hv : sumOf s.data.toList = v) (w : World) (g : Nat) (hc : w.cell? ⟨g, 0, none⟩ = some (.string s)) (hs : s.size ≤ maxLen) :
    Calls Tryz.prog 135 #[.slice (some ⟨g, 0, none⟩) 1 1] w fun e w' => e = .returned (.int .u32 (v : Int)) ∧ w = w' := hv ▸ of_any s w g hc hs
theorem below_drew' {B : Nat} {w w1 : World} (h : Below B w w1) : Below B w w1.drew := ⟨h.os, h.tape, h.output, h.size, h.block⟩
theorem str_append (l m : List UInt8) : str l ++ str m = str (l ++ m) := by
  refine str_ext ?_
  rw [ByteArray.data_append]
  simp [str]
theorem seal_rest (b : ByteArray) : (b.extract 4 b.size).data.toList = b.data.toList.drop 4 := by
  rw [extract_list, show b.data.toList.take b.size = b.data.toList from List.take_of_length_le (Nat.le_refl b.data.toList.length)]
theorem seal_first (b : ByteArray) : b.extract 0 4 = str (b.data.toList.take 4) := by
  refine str_ext ?_
  rw [extract_list, str_list, List.drop_zero]
theorem str_inj {l m : List UInt8} (h : str l = str m) : l = m := by
  have := congrArg (fun b : ByteArray => b.data.toList) h
  simpa [str_list] using this
def openS (b : ByteArray) : ByteArray := if openE b.data.toList = 0 then b.extract 4 b.size else ⟨#[]⟩
end Go.Proofs.YtcmneekdajnnaaaGreatDoor

/- Sectors with their sum behind: Repeat of bytes 0, Stamp, Read. -/
namespace Go.Proofs.YtcmneekdajnnaaaGreatDoor
open Go.RowKit

theorem repeatL_zero (c : Nat) : Lib.repeatL [0] c = zer c := by
  induction c with
  | zero => rfl
  | succ c ih =>
    show [0] ++ Lib.repeatL [0] c = zer (c + 1)
    rw [ih]
    rfl
theorem rep0_any (k : Int) (h0 : 0 ≤ k) (h1 : k ≤ 1000000) (w : World) : Calls Tryz.prog 74 #[.string ⟨#[0]⟩, .int .i64 k] w fun e w' => e = .returned (.string (str (zer k.toNat))) ∧ Below w.heap.size w w' := by
  obtain ⟨c, rfl⟩ : ∃ c : Nat, k = c := ⟨k.toNat, by omega⟩
  refine (Tryz.strings_Repeat ⟨#[0]⟩ c w (by omega) (by show 1 * c ≤ _; omega)).mono ?_
  rintro e w' ⟨rfl, hb⟩
  refine ⟨?_, hb⟩
  rw [Int.toNat_natCast, ← repeatL_zero]
  rfl
theorem zero_any (k : Int) (h0 : 0 ≤ k) (h1 : k ≤ 1000000) (w : World) : Calls Tryz.prog 121 #[.int .i64 k] w fun e w' => e = .returned (.string (str (zer k.toNat))) ∧ Below w.heap.size w w' := by
  go_enter Tryz.func121, Tryz.ntmps121
  go_wp2_with fail
  refine (rep0_any k h0 h1 w).mono ?_
  rintro e w1 ⟨rfl, hb⟩
  have HB := Lib.hid hb
  clear hb
  go_wp2_with fail
  go_ret
  exact ⟨rfl, HB.out⟩
theorem pad_str (s : ByteArray) (h : s.size ≤ 60) : s ++ str (zer (60 - (s.size : Int)).toNat) = str (padL s.data.toList 64) := by
  have e : (60 - (s.size : Int)).toNat = 64 - 4 - s.data.toList.length := by
    show (60 - (s.size : Int)).toNat = 64 - 4 - s.size
    omega
  rw [e]
  have := str_append s.data.toList (zer (64 - 4 - s.data.toList.length))
  rwa [str_of] at this
set_option maxRecDepth 100000 in
set_option maxHeartbeats 1000000 in
theorem stamp_any (s : ByteArray) (hs : s.size ≤ 60) (w : World) : Calls Tryz.prog 97 #[.string s, .int .i64 64] w fun e w' => e = .returned (.tuple #[.string (str (stampL s.data.toList 64)), .int .i64 0]) ∧ Below w.heap.size w w' := by
  have HP := Lib.hid (pad_str s hs)
  have hI : ¬ (60 : Int) < (s.size : Int) := by omega
  have h0 : (0 : Int) ≤ 60 - (s.size : Int) := by omega
  have h1 : 60 - (s.size : Int) ≤ 1000000 := by omega
  have hsz : (str (padL s.data.toList 64)).size = 60 := by rw [str_size]; exact pad_len (show s.data.toList.length ≤ 64 - 4 by show s.size ≤ 60; omega)
  have HSZ := Lib.hid hsz
  obtain ⟨v, hv⟩ : ∃ v, sumOf (padL s.data.toList 64) = v := ⟨_, rfl⟩
  have hvl : v < 4294967296 := by rw [← hv]; exact sumOf_lt _
  have HV := Lib.hid (show sumOf (str (padL s.data.toList 64)).data.toList = v by rw [str_list]; exact hv)
  have HVL := Lib.hid hvl
  have HE := Lib.hid (show str (padL s.data.toList 64) ++ str (four v) = str (stampL s.data.toList 64) by rw [str_append]; unfold stampL; rw [hv])
  have HML := Lib.hid (show (str (padL s.data.toList 64)).size ≤ maxLen by rw [hsz]; unfold maxLen; omega)
  clear hsz hv hvl hs
  go_enter Tryz.func97, Tryz.ntmps97
  go_wp2_with fail
  refine (rep0_any (60 - (s.size : Int)) h0 h1 w).mono ?_
  rintro e w1 ⟨rfl, hb1⟩
  have HB1 := Lib.hid hb1
  have hz : (str (zer (60 - (s.size : Int)).toNat)).size ≤ 60 := by rw [str_size, zer_len]; omega
  have hcat : s.size + (str (zer (60 - (s.size : Int)).toNat)).size ≤ 9223372036854775807 := by omega
  clear hb1
  generalize hZ : str (zer (60 - (s.size : Int)).toNat) = Z at HP hz hcat ⊢
  clear hZ
  go_wp2_with fail
  rw [HP.out]
  generalize str (padL s.data.toList 64) = P at HV HE HML HSZ ⊢
  refine (of_val P v HV.out _ w1.heap.size ((Blk.new w1 9 #[.string P]).cell 0) HML.out).mono ?_
  rintro e w2 ⟨rfl, rfl⟩
  go_wp2_with fail
  refine (four_any v HVL.out _).mono ?_
  rintro e w3 ⟨rfl, hb3⟩
  have h4 : (str (four v)).size = 4 := by rw [str_size, four_len]
  have hPI : P.size + (str (four v)).size ≤ 9223372036854775807 := by rw [h4]; have := HSZ.out; omega
  have HF := Lib.hid ((HB1.out.alloc (HB1.out.size) (.cells #[.string P] 9)).trans (hb3.mono (by have := HB1.out.size; simp; omega)))
  clear hb3 h4
  generalize str (four v) = F at HE hPI ⊢
  go_wp2_with fail
  go_ret2
  exact ⟨by rw [← HE.out]; rfl, HF.out⟩
theorem read_first (b : ByteArray) (m : Nat) (h : b.size = m + 4) : (b.extract 0 m).data.toList = b.data.toList.take (b.data.toList.length - 4) := by
  rw [extract_list, List.drop_zero]
  congr 1
  show m = b.size - 4
  omega
theorem read_last (b : ByteArray) (m : Nat) (h : b.size = m + 4) : b.extract m b.size = str (b.data.toList.drop (b.data.toList.length - 4)) := by
  refine str_ext ?_
  have e : b.data.toList.length = b.size := rfl
  rw [str_list, extract_list, List.take_of_length_le (by omega), e]
  congr 1
  omega
set_option maxRecDepth 100000 in
set_option maxHeartbeats 1000000 in
theorem sread_any (b : ByteArray) (hs : b.size ≤ 1000000000) (w : World) : Calls Tryz.prog 109 #[.string b] w fun e w' => e = .returned (.tuple #[.string (str (readL b.data.toList)), .int .i64 (readE b.data.toList)]) ∧ Below w.heap.size w w' := by
  have hlen : b.data.toList.length = b.size := rfl
  by_cases h4 : b.size < 4
  · have e1 : readE b.data.toList = 5 := if_pos (by omega)
    have e2 : str (readL b.data.toList) = ⟨#[]⟩ := by unfold readL; rw [if_neg (by rw [e1]; decide)]; rfl
    rw [e1, e2]
    have h4I : (b.size : Int) - 4 < 0 := by omega
    clear e1 e2 hlen h4
    go_enter Tryz.func109, Tryz.ntmps109
    go_wp2_with fail
    go_ret2
    exact ⟨rfl, Below.refl _ _⟩
  · obtain ⟨m, hm⟩ : ∃ m, b.size = m + 4 := ⟨b.size - 4, by omega⟩
    have hmI : (b.size : Int) - 4 = (m : Int) := by omega
    have hmB : (m : Int) ≤ (b.size : Int) := by omega
    have hmN : (0 : Int) ≤ (m : Int) := by omega
    have hr : (b.extract 0 m).size ≤ maxLen := by rw [ByteArray.size_extract]; unfold maxLen; omega
    have HR := Lib.hid hr
    obtain ⟨v, hv⟩ : ∃ v, sumOf (b.extract 0 m).data.toList = v := ⟨_, rfl⟩
    have HV := Lib.hid hv
    have hsl : v < 4294967296 := by rw [← hv]; exact sumOf_lt _
    have HSL := Lib.hid hsl
    have HX := Lib.hid (show (b.extract 0 m).size ≤ 281474976710656 by rw [ByteArray.size_extract]; omega)
    have e0 := read_first b m hm
    have HL := Lib.hid (read_last b m hm)
    rw [e0] at hv
    clear hr hsl
    by_cases hq : b.data.toList.drop (b.data.toList.length - 4) = four (sumOf (b.data.toList.take (b.data.toList.length - 4)))
    · have e1 : readE b.data.toList = 0 := by unfold readE; rw [if_neg (by omega), if_pos hq]
      have e2 : str (readL b.data.toList) = b.extract 0 m := by unfold readL; rw [if_pos e1, ← e0, str_of]
      rw [e1, e2]
      have HQ := Lib.hid (show str (four v) = b.extract m b.size by rw [HL.out, hq, hv])
      clear e1 e2 hq h4 hv e0 hlen hm
      go_enter Tryz.func109, Tryz.ntmps109
      go_upto_region 4 with (fail)
      have HC := Lib.hid (show (w.alloc (.cells #[.string (b.extract 0 m)] 9)).drew.cell? ⟨w.heap.size, 0, none⟩ = some (.string (b.extract 0 m)) from (Blk.new w 9 #[.string (b.extract 0 m)]).cell 0)
      go_region_held3 (fun _ => True) (first | exact trivial)
        (first | (go_at_call 135; ((with_reducible refine (of_val (b.extract 0 m) v HV.out _ _ HC.out HR.out).mono ?_); rintro e w1 ⟨rfl, rfl⟩)) | (go_at_call 134; ((with_reducible refine (four_any v HSL.out _).mono ?_); rintro e w2 ⟨rfl, hb2⟩)))
      have HB2 := Lib.hid ((below_drew' ((Below.refl w.heap.size w).alloc (Nat.le_refl _) (.cells #[.string (b.extract 0 m)] 9))).trans (hb2.mono (by show w.heap.size ≤ (w.alloc (.cells #[.string (b.extract 0 m)] 9)).heap.size; simp)))
      rw [HQ.out]
      clear hb2
      rw [beq_self_eq_true (b.extract m b.size).toList]
      go_wp2_with fail
      refine (clone_any (b.extract 0 m) _ HX.out).mono ?_
      rintro e w3 ⟨rfl, hb3⟩
      go_wp2_with fail
      go_ret2
      exact ⟨rfl, HB2.out.trans (hb3.mono HB2.out.size)⟩
    · have e1 : readE b.data.toList = 6 := by unfold readE; rw [if_neg (by omega), if_neg hq]
      have e2 : str (readL b.data.toList) = ⟨#[]⟩ := by unfold readL; rw [if_neg (by rw [e1]; decide)]; rfl
      rw [e1, e2]
      have HQ := str_neq (show b.extract m b.size ≠ str (four v) from fun e => hq (by
        rw [HL.out, ← hv] at e
        exact str_inj e))
      have HQ2 := Lib.hid HQ
      clear e1 e2 hq h4 HQ hv e0 hlen hm
      go_enter Tryz.func109, Tryz.ntmps109
      go_upto_region 4 with (fail)
      have HC := Lib.hid (show (w.alloc (.cells #[.string (b.extract 0 m)] 9)).drew.cell? ⟨w.heap.size, 0, none⟩ = some (.string (b.extract 0 m)) from (Blk.new w 9 #[.string (b.extract 0 m)]).cell 0)
      go_region_held3 (fun _ => True) (first | exact trivial)
        (first | (go_at_call 135; ((with_reducible refine (of_val (b.extract 0 m) v HV.out _ _ HC.out HR.out).mono ?_); rintro e w1 ⟨rfl, rfl⟩)) | (go_at_call 134; ((with_reducible refine (four_any v HSL.out _).mono ?_); rintro e w2 ⟨rfl, hb2⟩)))
      have HB2 := Lib.hid ((below_drew' ((Below.refl w.heap.size w).alloc (Nat.le_refl _) (.cells #[.string (b.extract 0 m)] 9))).trans (hb2.mono (by show w.heap.size ≤ (w.alloc (.cells #[.string (b.extract 0 m)] 9)).heap.size; simp)))
      have HQ := HQ2.out
      clear hb2
      generalize str (four v) = S at HQ ⊢
      generalize b.extract m b.size = T at HQ ⊢
      rw [HQ]
      clear HQ HQ2
      go_wp2_with fail
      go_ret2
      exact ⟨rfl, HB2.out⟩
end Go.Proofs.YtcmneekdajnnaaaGreatDoor

/- Messages: Get reads one. -/
namespace Go.Proofs.YtcmneekdajnnaaaGreatDoor
open Go.RowKit

/-- a reader under way; what lay before stays -/
structure Gs (T : TypeId) (o : Nat → Nat) (w0 w : World) (p : Nat) (R : Rd) : Prop where
  rd : RdAt T o 1 w p R
  env : Env o w0 w
  fut : Fut o w
section
variable {T : TypeId} {o o' : Nat → Nat} {w0 w w' : World} {p g : Nat} {R R' : Rd}
theorem Gs.next (h : Gs T o w0 w p R) (hw : RdAt T o' 1 w' p R') (hs : Step o (only 1) w o' w') : Gs T o' w0 w' p R' := ⟨hw, h.env.step hs (by unfold only; omega), h.fut.step hs⟩
theorem Gs.below_ (h : Gs T o w0 w p R) (hb : Below w.heap.size w w') : Gs T o w0 w' p R := ⟨h.rd.below_ hb, h.env.below_ hb, h.fut.below hb⟩
theorem Gs.alloc (h : Gs T o w0 w p R) (x : Obj) : Gs T o w0 (w.alloc x) p R := ⟨h.rd.alloc x, h.env.alloc x, h.fut.alloc x⟩
theorem Gs.drewN (h : Gs T o w0 w p R) (n : Nat) : Gs T o w0 (w.drewN n) p R := ⟨h.rd.drewN n, h.env.drewN n, h.fut.drewN n⟩
theorem Gs.drew (h : Gs T o w0 w p R) : Gs T o w0 w.drew p R := h.drewN 1
theorem Gs.setCell (h : Gs T o w0 w p R) (ho : o g = 0) (hg : w0.heap.size ≤ g) (i : Nat) (u : Value) : Gs T o w0 (w.setCell ⟨g, i, none⟩ u) p R := by
  have hne : p ≠ g := by
    rintro rfl
    have := h.rd.2.1
    omega
  exact ⟨⟨h.rd.1.far (p := ⟨g, i, none⟩) hne u, h.rd.2⟩, ⟨h.env.low.setCell (p := ⟨g, i, none⟩) hg u, h.env.old⟩, h.fut.setCell _ _⟩
theorem Gs.own (h : Gs T o w0 w p R) (hs : Step o (only 2) w o' w') : Gs T o' w0 w' p R := ⟨h.rd.step hs (by unfold only; omega), h.env.step hs (by unfold only; omega), h.fut.step hs⟩
theorem rnum_g (h : Gs 214 o w0 w p R) (n : Int) :
    Calls Tryz.prog 126 #[.pointer (some ⟨p, 0, none⟩), .int .i64 n] w fun r w' => r = .returned (.int .u64 (R.numV n)) ∧ ∃ o', Gs 214 o' w0 w' p (R.numR n) ∧ Step o (only 1) w o' w' := by
  refine (rnum_any h.rd n).mono ?_
  rintro e w1 ⟨rfl, o1, h1, hs⟩
  exact ⟨rfl, o1, h.next h1 hs, hs⟩
theorem Keep.set_ {t : TypeId} {cs : Array Value} (h : Keep o w g t cs) (i : Nat) (u : Value) : Keep o (w.setCell ⟨g, i, none⟩ u) g t (cs.setIfInBounds i u) := ⟨h.1.set_ i u, h.2⟩
theorem Keep.far {t : TypeId} {cs : Array Value} {g' : Nat} (h : Keep o w g t cs) (hne : g ≠ g') (i : Nat) (u : Value) : Keep o (w.setCell ⟨g', i, none⟩ u) g t cs := ⟨h.1.far (p := ⟨g', i, none⟩) hne u, h.2⟩
end
/-- the reader behind the kind, and behind k numbers more -/
def rK (b : ByteArray) : Nat → Rd
  | 0 => (⟨b, 0⟩ : Rd).numR 1
  | k + 1 => (rK b k).numR 4
def fld (b : ByteArray) (j k : Nat) : Int := if j < k then ((rK b j).numV 4 : Int) else 0
theorem hdR_rK (b : ByteArray) : hdR b = (rK b 5).numR 8 := rfl
theorem getM_rK (b : ByteArray) : getM b = ⟨(⟨b, 0⟩ : Rd).numV 1, (rK b 0).numV 4, (rK b 1).numV 4, (rK b 2).numV 4, (rK b 3).numV 4, (rK b 5).numV 8, (rK b 4).numV 4, lksV ((hdR b).countR 200) ((hdR b).countV 200).toNat⟩ := rfl
theorem row_set (b : ByteArray) {k : Nat} (hk : k < 4) (kd : Int) (c5 c6 c7 : Value) :
    (#[.int .i64 kd, .int .i64 (fld b 0 k), .int .i64 (fld b 1 k), .int .i64 (fld b 2 k), .int .i64 (fld b 3 k), c5, c6, c7] : Array Value).setIfInBounds (k + 1) (.int .i64 ((rK b k).numV 4 : Int)) =
      #[.int .i64 kd, .int .i64 (fld b 0 (k + 1)), .int .i64 (fld b 1 (k + 1)), .int .i64 (fld b 2 (k + 1)), .int .i64 (fld b 3 (k + 1)), c5, c6, c7] := by
  have : k = 0 ∨ k = 1 ∨ k = 2 ∨ k = 3 := by omega
  rcases this with rfl | rfl | rfl | rfl <;> simp [fld]
theorem row_get (b : ByteArray) {k : Nat} (hk : k < 4) (kd : Int) (c5 c6 c7 : Value) :
    ∃ x, (#[.int .i64 kd, .int .i64 (fld b 0 k), .int .i64 (fld b 1 k), .int .i64 (fld b 2 k), .int .i64 (fld b 3 k), c5, c6, c7] : Array Value)[k + 1]? = some (.int .i64 x) := by
  have : k = 0 ∨ k = 1 ∨ k = 2 ∨ k = 3 := by omega
  rcases this with rfl | rfl | rfl | rfl <;> exact ⟨_, rfl⟩
theorem ptrs_get (g : Nat) {k : Nat} (hk : k < 4) : (#[.pointer (some ⟨g, 1, none⟩), .pointer (some ⟨g, 2, none⟩), .pointer (some ⟨g, 3, none⟩), .pointer (some ⟨g, 4, none⟩)] : Array Value)[k]? = some (.pointer (some ⟨g, k + 1, none⟩)) := by
  have : k = 0 ∨ k = 1 ∨ k = 2 ∨ k = 3 := by omega
  rcases this with rfl | rfl | rfl | rfl <;> rfl
section
variable {T : TypeId} {o : Nat → Nat} {w0 w : World} {p g : Nat} {R : Rd}
theorem Gs.set8 (h : Gs T o w0 w p R) (ho : o g = 0) (hg : w0.heap.size ≤ g) (c0 c1 c2 c3 c4 c5 c6 c7 : Value) : Gs T o w0 ((((((((w.setCell ⟨g, 0, none⟩ c0).setCell ⟨g, 1, none⟩ c1).setCell ⟨g, 2, none⟩ c2).setCell ⟨g, 3, none⟩ c3).setCell ⟨g, 4, none⟩ c4).setCell ⟨g, 5, none⟩ c5).setCell ⟨g, 6, none⟩ c6).setCell ⟨g, 7, none⟩ c7) p R :=
  (((((((h.setCell ho hg 0 c0).setCell ho hg 1 c1).setCell ho hg 2 c2).setCell ho hg 3 c3).setCell ho hg 4 c4).setCell ho hg 5 c5).setCell ho hg 6 c6).setCell ho hg 7 c7
theorem Keep.set8 {t : TypeId} {d0 d1 d2 d3 d4 d5 d6 d7 : Value} (h : Keep o w g t #[d0, d1, d2, d3, d4, d5, d6, d7]) (c0 c1 c2 c3 c4 c5 c6 c7 : Value) : Keep o ((((((((w.setCell ⟨g, 0, none⟩ c0).setCell ⟨g, 1, none⟩ c1).setCell ⟨g, 2, none⟩ c2).setCell ⟨g, 3, none⟩ c3).setCell ⟨g, 4, none⟩ c4).setCell ⟨g, 5, none⟩ c5).setCell ⟨g, 6, none⟩ c6).setCell ⟨g, 7, none⟩ c7) g t #[c0, c1, c2, c3, c4, c5, c6, c7] := by
  have h0 : Keep o (w.setCell ⟨g, 0, none⟩ c0) g t #[c0, d1, d2, d3, d4, d5, d6, d7] := h.set_ 0 c0
  have h1 : Keep o ((w.setCell ⟨g, 0, none⟩ c0).setCell ⟨g, 1, none⟩ c1) g t #[c0, c1, d2, d3, d4, d5, d6, d7] := h0.set_ 1 c1
  have h2 : Keep o (((w.setCell ⟨g, 0, none⟩ c0).setCell ⟨g, 1, none⟩ c1).setCell ⟨g, 2, none⟩ c2) g t #[c0, c1, c2, d3, d4, d5, d6, d7] := h1.set_ 2 c2
  have h3 : Keep o ((((w.setCell ⟨g, 0, none⟩ c0).setCell ⟨g, 1, none⟩ c1).setCell ⟨g, 2, none⟩ c2).setCell ⟨g, 3, none⟩ c3) g t #[c0, c1, c2, c3, d4, d5, d6, d7] := h2.set_ 3 c3
  have h4 : Keep o (((((w.setCell ⟨g, 0, none⟩ c0).setCell ⟨g, 1, none⟩ c1).setCell ⟨g, 2, none⟩ c2).setCell ⟨g, 3, none⟩ c3).setCell ⟨g, 4, none⟩ c4) g t #[c0, c1, c2, c3, c4, d5, d6, d7] := h3.set_ 4 c4
  have h5 : Keep o ((((((w.setCell ⟨g, 0, none⟩ c0).setCell ⟨g, 1, none⟩ c1).setCell ⟨g, 2, none⟩ c2).setCell ⟨g, 3, none⟩ c3).setCell ⟨g, 4, none⟩ c4).setCell ⟨g, 5, none⟩ c5) g t #[c0, c1, c2, c3, c4, c5, d6, d7] := h4.set_ 5 c5
  have h6 : Keep o (((((((w.setCell ⟨g, 0, none⟩ c0).setCell ⟨g, 1, none⟩ c1).setCell ⟨g, 2, none⟩ c2).setCell ⟨g, 3, none⟩ c3).setCell ⟨g, 4, none⟩ c4).setCell ⟨g, 5, none⟩ c5).setCell ⟨g, 6, none⟩ c6) g t #[c0, c1, c2, c3, c4, c5, c6, d7] := h5.set_ 6 c6
  have h7 : Keep o ((((((((w.setCell ⟨g, 0, none⟩ c0).setCell ⟨g, 1, none⟩ c1).setCell ⟨g, 2, none⟩ c2).setCell ⟨g, 3, none⟩ c3).setCell ⟨g, 4, none⟩ c4).setCell ⟨g, 5, none⟩ c5).setCell ⟨g, 6, none⟩ c6).setCell ⟨g, 7, none⟩ c7) g t #[c0, c1, c2, c3, c4, c5, c6, c7] := h6.set_ 7 c7
  exact h7
theorem OwnS.set8 {c size n : Nat} {e : TypeId} {v : Value} {xs : List Value} (h : OwnS o c w e size v n xs) (hv : v.ownBlock ≠ some g) (c0 c1 c2 c3 c4 c5 c6 c7 : Value) : OwnS o c ((((((((w.setCell ⟨g, 0, none⟩ c0).setCell ⟨g, 1, none⟩ c1).setCell ⟨g, 2, none⟩ c2).setCell ⟨g, 3, none⟩ c3).setCell ⟨g, 4, none⟩ c4).setCell ⟨g, 5, none⟩ c5).setCell ⟨g, 6, none⟩ c6).setCell ⟨g, 7, none⟩ c7) e size v n xs :=
  (((((((h.setCell (p := ⟨g, 0, none⟩) hv c0).setCell (p := ⟨g, 1, none⟩) hv c1).setCell (p := ⟨g, 2, none⟩) hv c2).setCell (p := ⟨g, 3, none⟩) hv c3).setCell (p := ⟨g, 4, none⟩) hv c4).setCell (p := ⟨g, 5, none⟩) hv c5).setCell (p := ⟨g, 6, none⟩) hv c6).setCell (p := ⟨g, 7, none⟩) hv c7
end
end Go.Proofs.YtcmneekdajnnaaaGreatDoor

/- Blocks: Right, one sector laid, Put. -/
namespace Go.Proofs.YtcmneekdajnnaaaGreatDoor
open Go.RowKit

theorem fut0 (w : World) : Fut (fun _ => 0) w := fun _ _ => rfl
set_option maxHeartbeats 1000000 in
theorem right_any (i : Im) (w : World) (hd : i.data.size ≤ maxLen) : Calls Tryz.prog 133 #[.agg #[.int .i64 i.block, .int .u64 i.ver, .string i.data]] w fun e w' => e = .returned (.bool (decide i.right)) ∧ Below w.heap.size w w' := by
  obtain ⟨n, v, d⟩ := i
  simp only at hd ⊢
  have HB := Lib.hid ((Below.refl w.heap.size w).alloc (Nat.le_refl _) (.cells #[.int .i64 n, .int .u64 v, .string d] 46))
  unfold maxLen at hd
  by_cases h0 : 0 ≤ n
  · by_cases h1 : n < 4096
    · by_cases h2 : d.size = 96
      · have h2I : ((d.size : Int) == 96) = true := by simp; omega
        rw [decide_eq_true (show Im.right ⟨n, v, d⟩ from ⟨h0, h1, h2⟩)]
        clear h2
        go_enter Tryz.func133, Tryz.ntmps133
        go_wp2_with fail
        go_ret
        exact ⟨rfl, HB.out⟩
      · have h2I : ((d.size : Int) == 96) = false := by simp; omega
        rw [decide_eq_false (show ¬ Im.right ⟨n, v, d⟩ from fun h => h2 h.2.2)]
        clear h2
        go_enter Tryz.func133, Tryz.ntmps133
        go_wp2_with fail
        go_ret
        exact ⟨rfl, HB.out⟩
    · rw [decide_eq_false (show ¬ Im.right ⟨n, v, d⟩ from fun h => h1 h.2.1)]
      go_enter Tryz.func133, Tryz.ntmps133
      go_wp2_with fail
      go_ret
      exact ⟨rfl, HB.out⟩
  · rw [decide_eq_false (show ¬ Im.right ⟨n, v, d⟩ from fun h => h0 h.1)]
    go_enter Tryz.func133, Tryz.ntmps133
    go_wp2_with fail
    go_ret
    exact ⟨rfl, HB.out⟩
theorem Blk.two {w : World} {g : Nat} {t : TypeId} {c0 c1 c2 : Value} (h : Blk w g t #[c0, c1, c2]) : w.cell? ⟨g, 0, none⟩ = some c0 ∧ w.cell? ⟨g, 1, none⟩ = some c1 := ⟨h.cell 0, h.cell 1⟩
theorem wbytes_okb {o : Nat → Nat} {w0 w : World} {p : Nat} {bs : List UInt8} (h : Wg o w0 w p bs) : Calls Tryz.prog 132 #[.pointer (some ⟨p, 0, none⟩)] w fun r w' => r = .returned (.tuple #[.string (str bs), .int .i64 0]) ∧ Wg o w0 w' p bs ∧ Below w.heap.size w w' := by
  refine (wbytes_any h.wr).mono ?_
  rintro e w1 ⟨rfl, hb⟩
  exact ⟨rfl, h.below_ hb, hb⟩
theorem wrapu_n {v : Nat} (h : v ≤ 9223372036854775807) : IntKind.u64.wrap (v : Int) = (v : Int) := by rw [IntKind.wrap_u64]; omega
set_option maxRecDepth 100000 in
set_option maxHeartbeats 2000000 in
theorem sector_any (n v : Nat) (d : ByteArray) (k : Nat) (w : World) (hn : n < 4096) (hv : v < 18446744073709551616) (hd : d.size = 96) (hk : k ≤ 1) :
    Calls Tryz.prog 144 #[.agg #[.int .i64 (n : Int), .int .u64 (v : Int), .string d], .int .i64 (k : Int)] w fun e w' => e = .returned (.tuple #[.string (str (secL ⟨n, v, d⟩ k)), .int .i64 0]) ∧ Below w.heap.size w w' := by
  have HNA := Lib.hid (show numOk n 4 from ⟨by omega, by omega, by simp; omega⟩)
  have HNB := Lib.hid (show numOk v 8 from ⟨by omega, by omega, by simpa using hv⟩)
  have HA6 := Lib.hid (show n < 18446744073709551616 by omega)
  have HB6 := Lib.hid hv
  have wa := wrapu_n (v := n) (by omega)
  have HL0 := Lib.hid (show ([] : List UInt8).length ≤ 1000000000 by simp)
  have HL1 := Lib.hid (show ([] ++ le n (4 : Int).toNat).length ≤ 1000000000 by simp [le_len])
  have HN0 := Lib.hid (show ¬ only 1 0 by unfold only; omega)
  obtain ⟨lo, hlo⟩ : ∃ lo, k * 48 = lo := ⟨_, rfl⟩
  obtain ⟨hi, hhi⟩ : ∃ hi, (k + 1) * 48 = hi := ⟨_, rfl⟩
  have e1 : (k : Int) * 48 = (lo : Int) := by omega
  have e2 : ((k : Int) + 1) * 48 = (hi : Int) := by omega
  have b0 : (0 : Int) ≤ (lo : Int) := by omega
  have b1 : (lo : Int) ≤ (hi : Int) := by omega
  have b2 : (hi : Int) ≤ (d.size : Int) := by omega
  have kI0 : (0 : Int) ≤ (k : Int) := by omega
  have kI1 : (k : Int) ≤ 1 := by omega
  have hxs : (d.extract lo hi).size = 48 := by rw [ByteArray.size_extract]; omega
  have HT := Lib.hid (show d.extract lo hi ++ str (le n 4 ++ le v 8) = str (secT ⟨n, v, d⟩ k) by
    have := str_append (d.extract lo hi).data.toList (le n 4 ++ le v 8)
    rw [str_of] at this
    rw [this]
    unfold secT
    rw [hlo, hhi]
    rfl)
  have hzz : (str (secT ⟨n, v, d⟩ k)).size ≤ 60 := by rw [str_size, secT_len ⟨by simp, by simp; omega, hd⟩ hk]; omega
  have HZZ := Lib.hid hzz
  have HF := Lib.hid (show str (stampL (str (secT ⟨n, v, d⟩ k)).data.toList 64) = str (secL ⟨n, v, d⟩ k) by rw [str_list]; rfl)
  have hcat : (d.extract lo hi).size + (str (le n 4 ++ le v 8)).size ≤ 9223372036854775807 := by rw [hxs, str_size]; simp [le_len]
  have HCAT := Lib.hid hcat
  clear hlo hhi hv hd hk hxs hzz hcat hn
  obtain ⟨o2, hw2, hs2⟩ := Wg.start (w0 := w) ((Below.refl w.heap.size w).alloc (Nat.le_refl _) (.cells #[.int .i64 (n : Int), .int .u64 (v : Int), .string d] 46))
  have hk2 : Keep o2 _ w.heap.size 46 _ := Keep.step (o := fun _ => 0) ⟨Blk.new w 46 #[.int .i64 (n : Int), .int .u64 (v : Int), .string d], rfl⟩ (hs2 (fun _ => False)) (by simp)
  have HW2 := Lib.hid hw2
  have HK2 := Lib.hid hk2
  clear hw2 hs2 hk2
  go_enter Tryz.func144, Tryz.ntmps144
  go_upto_region 2 with (fail)
  rw [show (w.alloc (.cells #[.int .i64 (n : Int), .int .u64 (v : Int), .string d] 46)).heap.size = w.heap.size + 1 by simp] at HW2
  generalize (w.alloc (.cells #[.int .i64 (n : Int), .int .u64 (v : Int), .string d] 46)).alloc (.cells #[.slice none 0 0, .int .i64 0] 191) = W at HW2 HK2 ⊢
  generalize hp : w.heap.size + 1 = p at HW2 ⊢
  generalize hq : w.heap.size = q at HK2 ⊢
  have HP := Lib.hid hp
  have HQ := Lib.hid hq
  clear hp hq
  obtain ⟨x0, x1⟩ := HK2.out.1.two
  go_region_held3 (fun w' => w'.cell? ⟨q, 0, none⟩ = some (.int .i64 (n : Int)) ∧ w'.cell? ⟨q, 1, none⟩ = some (.int .u64 (v : Int)))
    (first | exact ⟨x0, x1⟩ | exact hk5.1.two | exact hk4.1.two | exact hk3.1.two | go_keep)
    (first | (go_at_call 131; ((with_reducible refine (wnum_ok HW2.out.drew n 4 HNA.out HA6.out HL0.out).mono ?_); rintro e3 w3 ⟨rfl, o3, hw3, hs3⟩; have hk3 := HK2.out.drew.step hs3 HN0.out)) | (go_at_call 131; ((with_reducible refine (wnum_ok hw3 v 8 HNB.out HB6.out HL1.out).mono ?_); rintro e4 w4 ⟨rfl, o4, hw4, hs4⟩; have hk4 := hk3.step hs4 HN0.out)) | (go_at_call 132; ((with_reducible refine (wbytes_okb hw4).mono ?_); rintro e5 w5 ⟨rfl, hw5, hb5⟩; have hk5 := hk4.below_ hb5)))
  have HW5 := Lib.hid hw5
  have HK5 := Lib.hid hk5
  clear hw3 hs3 hk3 hw4 hs4 hk4 hw5 hb5 hk5 x0 x1 wa HK2 HW2
  have x2 : w5.cell? ⟨q, 2, none⟩ = some (.string d) := HK5.out.1.cell 2
  have hcat := HCAT.out
  go_wp2_with fail
  rw [HT.out]
  refine (stamp_any (str (secT ⟨n, v, d⟩ k)) HZZ.out _).mono ?_
  rintro e w6 ⟨rfl, hb6⟩
  rw [HF.out]
  have HF6 := Lib.hid (HW5.out.env.low.trans (hb6.mono HW5.out.env.low.size))
  clear hb6 x2
  go_wp2_with fail
  go_ret2
  exact ⟨rfl, HF6.out⟩
end Go.Proofs.YtcmneekdajnnaaaGreatDoor
