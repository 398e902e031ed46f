/- Messages as plain structures: when one can be, its bytes, the message that bytes are; what is put is got, and bytes that are cut are none. -/
import Derived.Test.YtjmgefpdfhfhmaaGreatDoorWireP
namespace Go.Proofs.YtjmgefpdfhfhmaaGreatDoor
open Go.RowKit

/-- a lock: from, to, mode -/
structure Lk where
  a : Int
  b : Int
  m : Int
  deriving DecidableEq
/-- a message -/
structure Mg where
  kind : Int
  id : Int
  node : Int
  gen : Int
  stamp : Int
  epoch : Nat
  err : Int
  locks : List Lk
  deriving DecidableEq
def Mg.zero : Mg := ⟨0, 0, 0, 0, 0, 0, 0, []⟩
def Lk.ok (l : Lk) : Prop := 0 ≤ l.a ∧ l.a < l.b ∧ l.b ≤ 4096 ∧ 0 ≤ l.m ∧ l.m ≤ 2
instance (l : Lk) : Decidable l.ok := inferInstanceAs (Decidable (_ ∧ _))
def sm (n : Int) : Prop := 0 ≤ n ∧ n ≤ 2147483647
instance (n : Int) : Decidable (sm n) := inferInstanceAs (Decidable (_ ∧ _))
def Mg.ok (m : Mg) : Prop := (1 ≤ m.kind ∧ m.kind ≤ 15 ∧ m.locks.length ≤ 200) ∧ (sm m.id ∧ sm m.node ∧ sm m.gen ∧ sm m.stamp ∧ sm m.err) ∧ ∀ l ∈ m.locks, l.ok
instance (m : Mg) : Decidable m.ok := inferInstanceAs (Decidable (_ ∧ _))
def Lk.enc (l : Lk) : List UInt8 := le l.a.toNat 4 ++ (le l.b.toNat 4 ++ le l.m.toNat 1)
def Mg.head (m : Mg) : List UInt8 := le m.kind.toNat 1 ++ (le m.id.toNat 4 ++ (le m.node.toNat 4 ++ (le m.gen.toNat 4 ++ (le m.stamp.toNat 4 ++ (le m.err.toNat 4 ++ le m.epoch 8)))))
def Mg.enc (m : Mg) : List UInt8 := m.head ++ (le m.locks.length 2 ++ m.locks.flatMap Lk.enc)
def Mg.putS (m : Mg) : ByteArray := if m.ok then str m.enc else ⟨#[]⟩
def Mg.putE (m : Mg) : Int := if m.ok then 0 else 1

/-- a lock read, and the reader behind it -/
def lkV (R : Rd) : Lk := ⟨R.numV 4, (R.numR 4).numV 4, ((R.numR 4).numR 4).numV 1⟩
def lkR (R : Rd) : Rd := ((R.numR 4).numR 4).numR 1
def lksR (R : Rd) : Nat → Rd
  | 0 => R
  | k + 1 => lkR (lksR R k)
def lksV (R : Rd) : Nat → List Lk
  | 0 => []
  | k + 1 => lksV R k ++ [lkV (lksR R k)]
theorem lksV_len (R : Rd) (k : Nat) : (lksV R k).length = k := by
  induction k with
  | zero => rfl
  | succ k ih => simp [lksV, ih]
/-- the reader behind the head's numbers -/
def hdR (b : ByteArray) : Rd := ((((((((⟨b, 0⟩ : Rd).numR 1).numR 4).numR 4).numR 4).numR 4).numR 4).numR 8)
def getM (b : ByteArray) : Mg :=
  ⟨(⟨b, 0⟩ : Rd).numV 1, ((⟨b, 0⟩ : Rd).numR 1).numV 4, (((⟨b, 0⟩ : Rd).numR 1).numR 4).numV 4, ((((⟨b, 0⟩ : Rd).numR 1).numR 4).numR 4).numV 4, (((((⟨b, 0⟩ : Rd).numR 1).numR 4).numR 4).numR 4).numV 4,
    (((((((⟨b, 0⟩ : Rd).numR 1).numR 4).numR 4).numR 4).numR 4).numR 4).numV 8, ((((((⟨b, 0⟩ : Rd).numR 1).numR 4).numR 4).numR 4).numR 4).numV 4, lksV ((hdR b).countR 200) ((hdR b).countV 200).toNat⟩
def endE (b : ByteArray) : Int := (lksR ((hdR b).countR 200) ((hdR b).countV 200).toNat).endV
def goodM (b : ByteArray) : Prop := (getM b).ok ∧ str (getM b).enc = b
instance (b : ByteArray) : Decidable (goodM b) := inferInstanceAs (Decidable (_ ∧ _))
def gotM (b : ByteArray) : Mg := if endE b = 0 ∧ goodM b then getM b else Mg.zero
def gotE (b : ByteArray) : Int := if endE b ≠ 0 then endE b else if goodM b then 0 else 4

theorem lk_app {l : Lk} (h : l.ok) (m : List UInt8) : lkV ⟨str (l.enc ++ m), 0⟩ = l ∧ lkR ⟨str (l.enc ++ m), 0⟩ = ⟨str m, 0⟩ := by
  obtain ⟨h0, h1, h2, h3, h4⟩ := h
  obtain ⟨a1, b1⟩ := num_app (v := l.a.toNat) (n := 4) ⟨by omega, by omega, by simp; omega⟩ (le l.b.toNat 4 ++ (le l.m.toNat 1 ++ m))
  obtain ⟨a2, b2⟩ := num_app (v := l.b.toNat) (n := 4) ⟨by omega, by omega, by simp; omega⟩ (le l.m.toNat 1 ++ m)
  obtain ⟨a3, b3⟩ := num_app (v := l.m.toNat) (n := 1) ⟨by omega, by omega, by simp; omega⟩ m
  simp only [show (4 : Int).toNat = 4 from rfl, show (1 : Int).toNat = 1 from rfl] at a1 b1 a2 b2 a3 b3
  have e : l.enc ++ m = le l.a.toNat 4 ++ (le l.b.toNat 4 ++ (le l.m.toNat 1 ++ m)) := by simp [Lk.enc]
  unfold lkV lkR
  rw [e, a1, b1, a2, b2, a3, b3]
  refine ⟨?_, rfl⟩
  cases l
  simp at h0 h1 h2 h3 h4 ⊢
  omega
theorem lks_app {ls : List Lk} (h : ∀ l ∈ ls, l.ok) (m : List UInt8) (k : Nat) (hk : k ≤ ls.length) :
    lksV ⟨str (ls.flatMap Lk.enc ++ m), 0⟩ k = ls.take k ∧ lksR ⟨str (ls.flatMap Lk.enc ++ m), 0⟩ k = ⟨str ((ls.drop k).flatMap Lk.enc ++ m), 0⟩ := by
  induction k with
  | zero => exact ⟨by simp [lksV], by simp [lksR]⟩
  | succ k ih =>
    obtain ⟨a, b⟩ := ih (by omega)
    have hd : ls.drop k = ls[k] :: ls.drop (k + 1) := List.drop_eq_getElem_cons (by omega)
    have e : (ls.drop k).flatMap Lk.enc ++ m = ls[k].enc ++ ((ls.drop (k + 1)).flatMap Lk.enc ++ m) := by rw [hd, List.flatMap_cons, List.append_assoc]
    rw [e] at b
    obtain ⟨a2, b2⟩ := lk_app (h ls[k] (List.getElem_mem _)) ((ls.drop (k + 1)).flatMap Lk.enc ++ m)
    refine ⟨?_, ?_⟩
    · rw [lksV, a, b, a2, List.take_succ_eq_append_getElem (by omega)]
    · rw [lksR, b, b2]
theorem sm_ok {n : Int} (h : sm n) : numOk n.toNat 4 := ⟨by omega, by omega, by obtain ⟨h1, h2⟩ := h; simp; omega⟩
theorem sm_nat {n : Int} (h : sm n) : ((n.toNat : Nat) : Int) = n := by obtain ⟨h1, h2⟩ := h; omega
theorem hd_app {m : Mg} (h : m.ok) (he : m.epoch < 18446744073709551616) (r : List UInt8) :
    hdR (str (m.head ++ r)) = ⟨str r, 0⟩ ∧ getM (str (m.head ++ r)) = { m with locks := lksV ((⟨str r, 0⟩ : Rd).countR 200) ((⟨str r, 0⟩ : Rd).countV 200).toNat } := by
  obtain ⟨⟨h1, h2, h3⟩, ⟨g1, g2, g3, g4, g5⟩, h5⟩ := h
  have e : m.head ++ r = le m.kind.toNat 1 ++ (le m.id.toNat 4 ++ (le m.node.toNat 4 ++ (le m.gen.toNat 4 ++ (le m.stamp.toNat 4 ++ (le m.err.toNat 4 ++ (le m.epoch 8 ++ r)))))) := by simp [Mg.head]
  obtain ⟨a1, b1⟩ := num_app (v := m.kind.toNat) (n := 1) ⟨by omega, by omega, by simp; omega⟩ (le m.id.toNat 4 ++ (le m.node.toNat 4 ++ (le m.gen.toNat 4 ++ (le m.stamp.toNat 4 ++ (le m.err.toNat 4 ++ (le m.epoch 8 ++ r))))))
  obtain ⟨a2, b2⟩ := num_app (sm_ok g1) (le m.node.toNat 4 ++ (le m.gen.toNat 4 ++ (le m.stamp.toNat 4 ++ (le m.err.toNat 4 ++ (le m.epoch 8 ++ r)))))
  obtain ⟨a3, b3⟩ := num_app (sm_ok g2) (le m.gen.toNat 4 ++ (le m.stamp.toNat 4 ++ (le m.err.toNat 4 ++ (le m.epoch 8 ++ r))))
  obtain ⟨a4, b4⟩ := num_app (sm_ok g3) (le m.stamp.toNat 4 ++ (le m.err.toNat 4 ++ (le m.epoch 8 ++ r)))
  obtain ⟨a5, b5⟩ := num_app (sm_ok g4) (le m.err.toNat 4 ++ (le m.epoch 8 ++ r))
  obtain ⟨a6, b6⟩ := num_app (sm_ok g5) (le m.epoch 8 ++ r)
  obtain ⟨a7, b7⟩ := num_app (v := m.epoch) (n := 8) ⟨by omega, by omega, by simpa using he⟩ r
  simp only [show (4 : Int).toNat = 4 from rfl, show (1 : Int).toNat = 1 from rfl, show (8 : Int).toNat = 8 from rfl] at a1 b1 a2 b2 a3 b3 a4 b4 a5 b5 a6 b6 a7 b7
  have hh : hdR (str (m.head ++ r)) = ⟨str r, 0⟩ := by unfold hdR; rw [e, b1, b2, b3, b4, b5, b6, b7]
  refine ⟨hh, ?_⟩
  unfold getM
  rw [hh, e, a1, b1, a2, b2, a3, b3, a4, b4, a5, b5, a6, b6, a7, sm_nat g1, sm_nat g2, sm_nat g3, sm_nat g4, sm_nat g5, show ((m.kind.toNat : Nat) : Int) = m.kind by omega]
/-- what is put is got -/
theorem get_put {m : Mg} (h : m.ok) (he : m.epoch < 18446744073709551616) : getM (str m.enc) = m ∧ endE (str m.enc) = 0 := by
  have hl := h.1.2.2
  have hls := h.2.2
  obtain ⟨a, b⟩ := hd_app h he (le m.locks.length 2 ++ m.locks.flatMap Lk.enc)
  obtain ⟨c1, c2⟩ := count_app (v := m.locks.length) (by omega) (m.locks.flatMap Lk.enc) 200
  rw [if_neg (by omega)] at c1 c2
  obtain ⟨d1, d2⟩ := lks_app hls [] m.locks.length (Nat.le_refl _)
  simp only [List.append_nil, List.take_length, List.drop_length, List.flatMap_nil] at d1 d2
  refine ⟨?_, ?_⟩
  · show getM (str (m.head ++ (le m.locks.length 2 ++ m.locks.flatMap Lk.enc))) = m
    rw [b, c1, c2, Int.toNat_natCast, d1]
  · unfold endE
    show (lksR ((hdR (str (m.head ++ (le m.locks.length 2 ++ m.locks.flatMap Lk.enc)))).countR 200) ((hdR (str (m.head ++ (le m.locks.length 2 ++ m.locks.flatMap Lk.enc)))).countV 200).toNat).endV = 0
    rw [a, c1, c2, Int.toNat_natCast, d2, end_nil]
theorem got_put {m : Mg} (h : m.ok) (he : m.epoch < 18446744073709551616) : gotM (str m.enc) = m ∧ gotE (str m.enc) = 0 := by
  obtain ⟨a, b⟩ := get_put h he
  have g : goodM (str m.enc) := by unfold goodM; rw [a]; exact ⟨h, rfl⟩
  unfold gotM gotE
  rw [if_pos ⟨b, g⟩, if_neg (by simpa using b), if_pos g]
  exact ⟨a, rfl⟩
theorem head_len (m : Mg) : m.head.length = 29 := by simp [Mg.head, le_len]
theorem lkenc_len (l : Lk) : l.enc.length = 9 := by simp [Lk.enc, le_len]
theorem lksenc_len (ls : List Lk) : (ls.flatMap Lk.enc).length = 9 * ls.length := by
  induction ls with
  | nil => rfl
  | cons x r ih => simp only [List.flatMap_cons, List.length_append, lkenc_len, ih, List.length_cons]; omega
theorem enc_len (m : Mg) : m.enc.length = 31 + 9 * m.locks.length := by
  simp only [Mg.enc, List.length_append, head_len, le_len, lksenc_len]; omega
/-- no message's bytes begin as another one's, and end ahead of them -/
theorem enc_cut {m x : Mg} (hm : m.ok) (hx : x.ok) {k : Nat} (hk : k < m.enc.length) : x.enc ≠ m.enc.take k := by
  intro e
  have l1 := enc_len m
  have l2 := enc_len x
  have l3 : x.enc.length = k := by rw [e, List.length_take]; omega
  have c : (x.enc.take 31).drop 29 = (m.enc.take 31).drop 29 := by rw [e, List.take_take, Nat.min_eq_left (by omega)]
  have f : ∀ y : Mg, (y.enc.take 31).drop 29 = le y.locks.length 2 := by
    intro y
    have e1 : y.enc = y.head ++ (le y.locks.length 2 ++ y.locks.flatMap Lk.enc) := rfl
    rw [List.drop_take, e1, List.drop_append_of_le_length (by rw [head_len]; exact Nat.le_refl _), List.drop_of_length_le (by rw [head_len]; exact Nat.le_refl _), List.nil_append, List.take_append_of_le_length (by rw [le_len]; exact Nat.le_refl _), List.take_of_length_le (by rw [le_len]; exact Nat.le_refl _)]
  rw [f, f] at c
  have c2 := congrArg lev c
  rw [lev_le, lev_le, Nat.mod_eq_of_lt (by have := hx.1.2.2; simp; omega), Nat.mod_eq_of_lt (by have := hm.1.2.2; simp; omega)] at c2
  omega
theorem got_cut {m : Mg} (hm : m.ok) {k : Nat} (hk : k < m.enc.length) : gotE ((str m.enc).extract 0 k) ≠ 0 := by
  unfold gotE
  split
  · assumption
  · rw [if_neg]
    · decide
    · rintro ⟨h1, h2⟩
      have h3 := congrArg (fun b : ByteArray => b.data.toList) h2
      simp only [str_list, extract_list, List.drop_zero] at h3
      exact enc_cut hm h1 hk h3
end Go.Proofs.YtjmgefpdfhfhmaaGreatDoor
