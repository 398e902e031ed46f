/- Records of a log, and its head, plain: their bytes, what bytes tell. -/
import Derived.Test.YtianlhigeabehaaGreatDoorKMapR
import Derived.Test.YtianlhigeabehaaGreatDoorKDiskD
namespace Go.Proofs.YtianlhigeabehaaGreatDoor
open Go.RowKit

/-- a record -/
structure Rc where
  epoch : Nat
  lsn : Nat
  images : List Im
deriving DecidableEq
def Rc.zero : Rc := ⟨0, 0, []⟩
/-- how many sectors n images take -/
def secsOf (n : Int) : Nat := if n < 1 ∨ 60 < n then 0 else (108 * n.toNat + 41) / 42
def rise : List Im → Bool
  | [] => true
  | [_] => true
  | a :: b :: r => decide (a.block < b.block) && rise (b :: r)
/-- why a record can't be -/
def Rc.wrongE (r : Rc) : Int := if r.epoch = 0 ∨ r.lsn = 0 ∨ r.images = [] then 1 else if (∃ i ∈ r.images, ¬ i.right) ∨ rise r.images = false then 1 else if 60 < r.images.length then 2 else 0
def imL (i : Im) : List UInt8 := le i.block.toNat 4 ++ (le i.ver 8 ++ i.data.data.toList)
def bodyL (l : List Im) : List UInt8 := l.flatMap imL
def labL (r : Rc) (place : Nat) : List UInt8 := le r.epoch 8 ++ (le r.lsn 8 ++ (le place 1 ++ le r.images.length 1))
def recT (r : Rc) (place : Nat) : List UInt8 := labL r place ++ ((bodyL r.images).take ((place + 1) * 42)).drop (place * 42)
def recS (r : Rc) (place : Nat) : List UInt8 := stampL (recT r place) 64
def recL (r : Rc) : List UInt8 := (List.range (secsOf r.images.length)).flatMap (recS r)
def Rc.putS (r : Rc) : ByteArray := if r.wrongE = 0 then str (recL r) else ⟨#[]⟩
theorem imL_len {i : Im} (h : i.right) : (imL i).length = 108 := by
  unfold imL
  rw [List.length_append, List.length_append, le_len, le_len]
  have : i.data.data.toList.length = i.data.size := rfl
  rw [this, h.2.2]
theorem bodyL_len {l : List Im} (h : ∀ i ∈ l, i.right) : (bodyL l).length = 108 * l.length := by
  unfold bodyL
  induction l with
  | nil => rfl
  | cons i l ih => rw [List.flatMap_cons, List.length_append, imL_len (h i (List.mem_cons_self ..)), ih (fun j hj => h j (List.mem_cons_of_mem _ hj)), List.length_cons]; omega
theorem labL_len (r : Rc) (place : Nat) : (labL r place).length = 18 := by
  unfold labL
  simp [le_len]
theorem recT_len (r : Rc) (place : Nat) : (recT r place).length ≤ 60 := by
  unfold recT
  rw [List.length_append, labL_len, List.length_drop, List.length_take]
  omega
theorem recS_len (r : Rc) (place : Nat) : (recS r place).length = 64 := stamp_len (by have := recT_len r place; omega) (by omega)
theorem recs_len (r : Rc) (n : Nat) : ((List.range n).flatMap (recS r)).length = n * 64 := by
  induction n with
  | zero => rfl
  | succ n ih => rw [List.range_succ, List.flatMap_append, List.length_append, ih]; simp [recS_len]; omega
theorem recL_len (r : Rc) : (recL r).length = secsOf r.images.length * 64 := recs_len r _
theorem wrong_zero {r : Rc} (h : r.wrongE = 0) : r.epoch ≠ 0 ∧ r.lsn ≠ 0 ∧ r.images ≠ [] ∧ (∀ i ∈ r.images, i.right) ∧ rise r.images = true ∧ r.images.length ≤ 60 := by
  unfold Rc.wrongE at h
  split at h
  · omega
  · rename_i h1
    split at h
    · omega
    · rename_i h2
      split at h
      · omega
      · refine ⟨fun e => h1 (.inl e), fun e => h1 (.inr (.inl e)), fun e => h1 (.inr (.inr e)), fun i hi => Classical.byContradiction fun hn => h2 (.inl ⟨i, hi, hn⟩), ?_, by omega⟩
        cases hr : rise r.images with
        | true => rfl
        | false => exact absurd (.inr hr) h2

/-- what the first sector says of itself -/
def firstR (b : ByteArray) : Rd := ⟨str (readL (b.extract 0 64).data.toList), 0⟩
def firstX (b : ByteArray) : Rc := ⟨(firstR b).numV 8, ((firstR b).numR 8).numV 8, []⟩
def firstP (b : ByteArray) : Nat := (((firstR b).numR 8).numR 8).numV 1
def firstN (b : ByteArray) : Nat := ((((firstR b).numR 8).numR 8).numR 1).numV 1
def firstBad (b : ByteArray) : Prop := (firstX b).epoch = 0 ∨ (firstX b).lsn = 0 ∨ firstP b ≠ 0 ∨ secsOf (firstN b) = 0
instance (b : ByteArray) : Decidable (firstBad b) := by unfold firstBad; infer_instance
def firstE (b : ByteArray) : Int := if b.size < 64 then 5 else if readE (b.extract 0 64).data.toList ≠ 0 then readE (b.extract 0 64).data.toList else if firstBad b then 4 else 0
/-- the text of the sector at a place, where its sum is right -/
def placeL (b : ByteArray) (place : Nat) : List UInt8 := (b.extract (place * 64) ((place + 1) * 64)).data.toList
/-- the first n sectors: the error, or 0 -/
def placesE (b : ByteArray) (x : Rc) (cnt : Nat) : Nat → Int
  | 0 => 0
  | n + 1 => if placesE b x cnt n ≠ 0 then placesE b x cnt n else if readE (placeL b n) ≠ 0 then readE (placeL b n) else if (readL (placeL b n)).take 18 = le x.epoch 8 ++ (le x.lsn 8 ++ (le n 1 ++ le cnt 1)) then 0 else 4
def placesL (b : ByteArray) (n : Nat) : List UInt8 := (List.range n).flatMap (fun k => (readL (placeL b k)).drop 18)
/-- one image of a text -/
def imR (t : List UInt8) : Rd := ⟨str t, 0⟩
def imG (t : List UInt8) : Im := ⟨((imR t).numV 4 : Nat), ((imR t).numR 4).numV 8, str (t.drop 12)⟩
def imsG (t : List UInt8) (n : Nat) : List Im := (List.range n).map (fun i => imG ((t.take ((i + 1) * 108)).drop (i * 108)))
/-- what bytes tell: a record, its sectors, the error -/
def getX (b : ByteArray) : Rc := { firstX b with images := imsG (placesL b (secsOf (firstN b))) (firstN b) }
def getE (b : ByteArray) : Int :=
  if firstE b ≠ 0 then firstE b else if b.size < secsOf (firstN b) * 64 then 5 else if placesE b (firstX b) (firstN b) (secsOf (firstN b)) ≠ 0 then placesE b (firstX b) (firstN b) (secsOf (firstN b))
  else if (getX b).wrongE = 0 ∧ (getX b).putS = b.extract 0 (secsOf (firstN b) * 64) then 0 else 4
def getR (b : ByteArray) : Rc := if getE b = 0 then getX b else Rc.zero
def getN (b : ByteArray) : Nat := if getE b = 0 then secsOf (firstN b) else 0

/-- a log's head -/
structure Hd where
  epoch : Nat
  lsn : Nat
  at_ : Int
deriving DecidableEq
def Hd.zero : Hd := ⟨0, 0, 0⟩
def Hd.agg (h : Hd) : Value := .agg #[.int .u64 h.epoch, .int .u64 h.lsn, .int .i64 h.at_]
def Hd.bad (h : Hd) : Prop := h.epoch = 0 ∨ h.lsn = 0 ∨ h.at_ < 0 ∨ 256 < h.at_
instance (h : Hd) : Decidable h.bad := by unfold Hd.bad; infer_instance
def headT (h : Hd) : List UInt8 := [72, 69, 65, 68] ++ (le h.epoch 8 ++ (le h.lsn 8 ++ le h.at_.toNat 4))
def headL (h : Hd) : List UInt8 := stampL (headT h) 64
def Hd.putE (h : Hd) : Int := if h.bad then 1 else 0
def Hd.putS (h : Hd) : ByteArray := if h.bad then ⟨#[]⟩ else str (headL h)
def lhR (b : ByteArray) : Rd := ⟨str ((readL b.data.toList).drop 4), 0⟩
def lhX (b : ByteArray) : Hd := ⟨(lhR b).numV 8, ((lhR b).numR 8).numV 8, ((((lhR b).numR 8).numR 8).numV 4 : Nat)⟩
def lhE (b : ByteArray) : Int := if b.size ≠ 64 then 5 else if readE b.data.toList ≠ 0 then readE b.data.toList else if ¬ (lhX b).bad ∧ (lhX b).putS = b then 0 else 4
def lhG (b : ByteArray) : Hd := if lhE b = 0 then lhX b else Hd.zero
theorem headT_len (h : Hd) : (headT h).length = 24 := by
  unfold headT
  simp [le_len]
theorem headL_len (h : Hd) : (headL h).length = 64 := stamp_len (by rw [headT_len]; omega) (by omega)
theorem num8 {v : Nat} (h : v < 18446744073709551616) (m : List UInt8) : (⟨str (le v 8 ++ m), 0⟩ : Rd).numV 8 = v ∧ (⟨str (le v 8 ++ m), 0⟩ : Rd).numR 8 = ⟨str m, 0⟩ := num_app (n := 8) ⟨by omega, by omega, by simpa using h⟩ m
theorem num4 {v : Nat} (h : v < 4294967296) (m : List UInt8) : (⟨str (le v 4 ++ m), 0⟩ : Rd).numV 4 = v ∧ (⟨str (le v 4 ++ m), 0⟩ : Rd).numR 4 = ⟨str m, 0⟩ := num_app (n := 4) ⟨by omega, by omega, by simpa using h⟩ m
theorem num1 {v : Nat} (h : v < 256) (m : List UInt8) : (⟨str (le v 1 ++ m), 0⟩ : Rd).numV 1 = v ∧ (⟨str (le v 1 ++ m), 0⟩ : Rd).numR 1 = ⟨str m, 0⟩ := num_app (n := 1) ⟨by omega, by omega, by simpa using h⟩ m
theorem hd_put {h : Hd} (hb : ¬ h.bad) (he : h.epoch < 18446744073709551616) (hl : h.lsn < 18446744073709551616) : lhE (str (headL h)) = 0 ∧ lhG (str (headL h)) = h := by
  have hb' := hb
  unfold Hd.bad at hb'
  have hr := read_stamp (l := headT h) (n := 64) (by rw [headT_len]; omega) (by omega)
  have hx : lhX (str (headL h)) = h := by
    have e1 : (readL (str (headL h)).data.toList).drop 4 = le h.epoch 8 ++ (le h.lsn 8 ++ (le h.at_.toNat 4 ++ zer 36)) := by
      rw [str_list]
      unfold headL
      rw [hr.2]
      unfold padL
      rw [headT_len]
      unfold headT
      simp
    unfold lhX lhR
    rw [e1]
    have n1 := num8 (v := h.epoch) (by exact he) (le h.lsn 8 ++ (le h.at_.toNat 4 ++ zer 36))
    have n2 := num8 (v := h.lsn) (by exact hl) (le h.at_.toNat 4 ++ zer 36)
    have n3 := num4 (v := h.at_.toNat) (by omega) (zer 36)
    rw [n1.1, n1.2, n2.1, n2.2, n3.1]
    have : ((h.at_.toNat : Nat) : Int) = h.at_ := by omega
    rw [this]
  have e0 : lhE (str (headL h)) = 0 := by
    unfold lhE
    rw [if_neg (by rw [str_size, headL_len]; simp), str_list, if_neg (by unfold headL; rw [hr.1]; simp), hx, if_pos]
    refine ⟨hb, ?_⟩
    unfold Hd.putS
    rw [if_neg hb]
  refine ⟨e0, ?_⟩
  unfold lhG
  rw [if_pos e0, hx]
theorem rise_tail {i : Im} {l : List Im} (h : rise (i :: l) = true) : rise l = true := by
  cases l with
  | nil => rfl
  | cons j l =>
    simp only [rise, Bool.and_eq_true] at h
    exact h.2
end Go.Proofs.YtianlhigeabehaaGreatDoor

/- What stands on a disk of the shape (2, 10, 8, 4, 32), plain: reading, blocks, a log's head and records, doing a log again. -/
namespace Go.Proofs.YtianlhigeabehaaGreatDoor
open Go.RowKit

def logAt (node : Int) : Int × Int := if node < 1 ∨ 2 < node then (0, 3) else (1 + (node - 1) * 8, 0)
def blockAt (b : Int) : Int × Int := if b < 0 ∨ 9 < b then (0, 30) else (17 + 2 * b, 0)
/-- all sectors have 64 bytes -/
def Dk.wf (D : Dk) : Prop := (∀ k s, D.now k = some s → s.size = 64) ∧ (∀ k x, D.lasts k = some x → x.data.size = 64) ∧ ∀ x ∈ D.waits, x.data.size = 64
def Dk.sec (D : Dk) (k : Int) : ByteArray := (D.now k).getD (str (zer 64))
def Dk.readL (D : Dk) (at_ : Int) (n : Nat) : List UInt8 := (List.range n).flatMap (fun i : Nat => (D.sec (at_ + (i : Int))).data.toList)
def Dk.readE (D : Dk) (at_ n : Int) : Int := if D.on = false then 14 else if n < 1 ∨ 400 < n ∨ D.there at_ n = false then 30 else 0
def Dk.readS (D : Dk) (at_ n : Int) : ByteArray := if D.readE at_ n = 0 then str (D.readL at_ n.toNat) else ⟨#[]⟩
theorem Dk.sec_size {D : Dk} (h : D.wf) (k : Int) : (D.sec k).size = 64 := by
  unfold Dk.sec
  cases e : D.now k with
  | none => rw [Option.getD_none, str_size, zer_len]
  | some s => exact h.1 k s e
theorem Dk.readL_len {D : Dk} (h : D.wf) (at_ : Int) (n : Nat) : (D.readL at_ n).length = n * 64 := by
  induction n with
  | zero => rfl
  | succ n ih =>
    have : D.readL at_ (n + 1) = D.readL at_ n ++ (D.sec (at_ + n)).data.toList := by simp [Dk.readL, List.range_succ]
    rw [this, List.length_append, ih]
    have h1 : (D.sec (at_ + n)).data.toList.length = (D.sec (at_ + n)).size := rfl
    rw [h1, Dk.sec_size h]
    omega

/-- block.Load -/
def Dk.loadE1 (D : Dk) (b : Int) : Int := if (blockAt b).2 ≠ 0 then (blockAt b).2 else D.readE (blockAt b).1 2
def Dk.load (D : Dk) (b : Int) : Im × Int := if D.loadE1 b ≠ 0 then (Im.zero, D.loadE1 b) else getB b (D.readS (blockAt b).1 2)

/-- redo's head -/
def Dk.headE1 (D : Dk) (node : Int) : Int := if (logAt node).2 ≠ 0 then (logAt node).2 else D.readE (logAt node).1 1
def Dk.headB (D : Dk) (node : Int) : ByteArray := D.readS (logAt node).1 1
def allZero (b : ByteArray) : Prop := ∀ x ∈ b.data.toList, x = 0
instance (b : ByteArray) : Decidable (allZero b) := by unfold allZero; infer_instance
def Dk.headE (D : Dk) (node : Int) : Int := if D.headE1 node ≠ 0 then D.headE1 node else if lhE (D.headB node) = 0 then 0 else if allZero (D.headB node) then 0 else 15
def Dk.headH (D : Dk) (node : Int) : Hd := if D.headE1 node = 0 ∧ lhE (D.headB node) = 0 then lhG (D.headB node) else Hd.zero
def Dk.headI (D : Dk) (node : Int) : Bool := decide (D.headE1 node = 0 ∧ lhE (D.headB node) = 0 ∧ (lhG (D.headB node)).at_ < 7)

/-- the records of a text, one behind the other -/
def scanL (epoch : Nat) : Nat → Nat → ByteArray → List Rc
  | 0, _, _ => []
  | f + 1, lsn, b => if getE b ≠ 0 ∨ (getR b).epoch ≠ epoch ∨ (getR b).lsn ≠ lsn then [] else getR b :: scanL epoch f ((lsn + 1) % 18446744073709551616) (b.extract (getN b * 64) b.size)
def rotS (b : ByteArray) (n : Nat) : ByteArray := b.extract n b.size ++ b.extract 0 n
def Dk.scanE (D : Dk) (node : Int) : Int := if D.headE node ≠ 0 then D.headE node else if D.headI node = false then 0 else D.readE ((logAt node).1 + 1) 7
def Dk.scan (D : Dk) (node : Int) : List Rc :=
  if D.headE node ≠ 0 ∨ D.headI node = false ∨ D.readE ((logAt node).1 + 1) 7 ≠ 0 then []
  else scanL (D.headH node).epoch 10 (D.headH node).lsn (rotS (D.readS ((logAt node).1 + 1) 7) ((D.headH node).at_.toNat * 64))

/-- the newest image of each block -/
def bestStep (f : Int → Option Im) (i : Im) : Int → Option Im := match f i.block with
  | none => upd f i.block i
  | some was => if was.ver ≤ i.ver then upd f i.block i else f
def bestOf (l : List Im) : Int → Option Im := l.foldl bestStep (fun _ => none)
def keysOf (l : List Im) : List Int := ((l.map (fun i : Im => i.block)).eraseDups).mergeSort (fun x y => decide (x ≤ y))
def planOf (l : List Rc) : List Im := (keysOf (l.flatMap (·.images))).map (fun k => (bestOf (l.flatMap (·.images)) k).getD Im.zero)

/-- images that are newer are stored: how many, the error, the disk -/
def Dk.store (D : Dk) (node : Int) (epoch : Nat) (i : Im) : Int × Dk := if (blockAt i.block).2 ≠ 0 then ((blockAt i.block).2, D) else if ¬ i.right then (1, D) else D.write node epoch (blockAt i.block).1 (str (blkL i))
end Go.Proofs.YtianlhigeabehaaGreatDoor

/- A node's log in memory, plain: entries, what Add, put, Write, Sync make of it. -/
namespace Go.Proofs.YtianlhigeabehaaGreatDoor
open Go.RowKit

/-- a record that is not free -/
structure En where
  lsn : Nat
  at_ : Nat
  n : Nat
  bytes : ByteArray
  written : Bool
def En.zero : En := ⟨0, 0, 0, ⟨#[]⟩, false⟩
def En.cells (x : En) : List Value := [.int .u64 x.lsn, .int .i64 x.at_, .int .i64 x.n, .string x.bytes, .bool x.written]
def En.agg (x : En) : Value := .agg #[.int .u64 x.lsn, .int .i64 x.at_, .int .i64 x.n, .string x.bytes, .bool x.written]
def encells (l : List En) : List Value := l.flatMap En.cells
/-- a log, beside its disk -/
structure Lg where
  node : Nat
  epoch : Nat
  base : Nat
  next : Nat
  first : Nat
  at_ : Nat
  written : Nat
  synced : Nat
  live : List En
  broken : Bool
def Lg.cells (g : Lg) (p r : Nat) : Array Value :=
  #[.pointer (some ⟨p, 0, none⟩), .int .i64 2, .int .i64 10, .int .i64 8, .int .i64 4, .int .i64 32, .int .i64 g.node, .int .u64 g.epoch, .int .i64 g.base, .int .u64 g.next, .int .u64 g.first, .int .i64 g.at_, .int .u64 g.written, .int .u64 g.synced, .pointer (some ⟨r, 0, none⟩), .bool g.broken]
def Lg.used (g : Lg) : Nat := g.live.foldl (fun n x => n + x.n) 0
def Lg.addE (g : Lg) (l : List Im) : Int := if g.broken then 13 else if (Rc.mk g.epoch g.next l).wrongE ≠ 0 then (Rc.mk g.epoch g.next l).wrongE else if 1 < l.length then 31 else if 7 < secsOf l.length + g.used then 10 else 0
def Lg.entry (g : Lg) (l : List Im) : En := ⟨g.next, g.at_, secsOf l.length, (Rc.mk g.epoch g.next l).putS, false⟩
def Lg.addG (g : Lg) (l : List Im) : Lg := if g.addE l ≠ 0 then g else { g with live := g.live ++ [g.entry l], at_ := (g.at_ + secsOf l.length) % 7, next := (g.next + 1) % 18446744073709551616 }
end Go.Proofs.YtianlhigeabehaaGreatDoor

/- The ring of a log's entries: what each method does to a ring that reads as a list. -/
namespace Go.Proofs.YtianlhigeabehaaGreatDoor
open Go.RowKit

theorem encells_len (l : List En) : (encells l).length = l.length * 5 := by
  unfold encells
  induction l with
  | nil => rfl
  | cons x r ih => simp only [List.flatMap_cons, List.length_append, ih, List.length_cons]; simp [En.cells]; omega
theorem encells_one (l : List En) : ∀ u ∈ encells l, u.oneCell' = true := by
  intro u hu
  unfold encells at hu
  obtain ⟨x, _, hx⟩ := List.mem_flatMap.1 hu
  simp only [En.cells, List.mem_cons, List.mem_nil_iff, or_false] at hx
  rcases hx with rfl | rfl | rfl | rfl | rfl <;> rfl
theorem encells_cons (x : En) (l : List En) : encells (x :: l) = .int .u64 x.lsn :: .int .i64 x.at_ :: .int .i64 x.n :: .string x.bytes :: .bool x.written :: encells l := rfl
theorem encells_app (l m : List En) : encells (l ++ m) = encells l ++ encells m := by simp [encells]
theorem encells_set (x : En) : ∀ (l : List En) (k : Nat), k < l.length → encells (l.set k x) = (((((encells l).set (k * 5) (.int .u64 x.lsn)).set (k * 5 + 1) (.int .i64 x.at_)).set (k * 5 + 2) (.int .i64 x.n)).set (k * 5 + 3) (.string x.bytes)).set (k * 5 + 4) (.bool x.written)
  | y :: l, 0, _ => by simp [encells_cons]
  | y :: l, k + 1, h => by
    have ih := encells_set x l k (by simpa using h)
    simp only [List.set_cons_succ, encells_cons, ih]
    rw [show (k + 1) * 5 = k * 5 + 1 + 1 + 1 + 1 + 1 from by omega]
    simp only [List.set_cons_succ]

/-- the ring at block r reads as the list l, with room for most -/
def EringAt (o : Nat → Nat) (c : Nat) (w : World) (r : Nat) (most : Int) (l : List En) : Prop :=
  ∃ v, Blk w r 128 #[v, .int .i64 most] ∧ o r = c ∧ OwnS o c w 75 5 v l.length (encells l)

theorem EringAt.step {o o' : Nat → Nat} {c : Nat} {D : Nat → Prop} {w w' : World} {r : Nat} {most : Int} {l : List En} (h : EringAt o c w r most l) (hk : Step o D w o' w') (hne : ¬ D c) : EringAt o' c w' r most l := by
  obtain ⟨v, hb, hc, hv⟩ := h
  exact ⟨v, hb.step hk (by rw [hc]; exact hne), (hk.old r hb.lt).trans hc, hv.step hk hne⟩
theorem EringAt.alloc {o : Nat → Nat} {c : Nat} {w : World} {r : Nat} {most : Int} {l : List En} (h : EringAt o c w r most l) (x : Obj) : EringAt o c (w.alloc x) r most l := by
  obtain ⟨v, hb, hc, hv⟩ := h
  exact ⟨v, hb.alloc x, hc, hv.alloc x⟩
theorem EringAt.below_ {o : Nat → Nat} {c : Nat} {w w' : World} {r : Nat} {most : Int} {l : List En} (h : EringAt o c w r most l) (hb : Below w.heap.size w w') : EringAt o c w' r most l := by
  obtain ⟨v, h1, h2, h3⟩ := h
  exact ⟨v, h1.below_ hb, h2, ⟨ownsRow_heap h3.1 (fun g hg => hb.block g (h3.lt g hg)), h3.2⟩⟩
theorem EringAt.lt {o : Nat → Nat} {c : Nat} {w : World} {r : Nat} {most : Int} {l : List En} (h : EringAt o c w r most l) : r < w.heap.size := by
  obtain ⟨v, hb, hc, hv⟩ := h
  exact hb.lt
theorem EringAt.color {o o' : Nat → Nat} {c : Nat} {w : World} {r : Nat} {most : Int} {l : List En} (h : EringAt o c w r most l) (ho : ∀ k, k < w.heap.size → o' k = o k) : EringAt o' c w r most l := by
  obtain ⟨v, hb, hc, hv⟩ := h
  exact ⟨v, hb, (ho r hb.lt).trans hc, hv.color ho⟩
theorem EringAt.drewN {o : Nat → Nat} {c : Nat} {w : World} {r : Nat} {most : Int} {l : List En} (h : EringAt o c w r most l) (n : Nat) : EringAt o c (w.drewN n) r most l := h

theorem eroom_any (n : Int) (w : World) : Calls Tryz.prog 73 #[.int .i64 n] w fun e w' => e = .returned (.int .i64 (min (max n 0) 100000)) ∧ w = w' := by
  by_cases h0 : n < 0
  · go_enter Tryz.func73, Tryz.ntmps73
    go_wp2
    go_ret
    exact ⟨by first | (simp; done) | (simp; omega), rfl⟩
  · by_cases h1 : n < 100000
    · go_enter Tryz.func73, Tryz.ntmps73
      go_wp2
      all_goals go_ret
      all_goals exact ⟨by first | (simp; done) | (simp; omega), rfl⟩
    · go_enter Tryz.func73, Tryz.ntmps73
      go_wp2
      all_goals go_ret
      all_goals exact ⟨by first | (simp; done) | (simp; omega), rfl⟩

theorem own_form_e {o : Nat → Nat} {c : Nat} {w : World} {e : TypeId} {size n : Nat} {v : Value} {xs : List Value} (h : OwnS o c w e size v n xs) : ∃ A cap, v = .slice A n cap ∧ n ≤ cap ∧ cap ≤ maxLen := by
  rcases h.1.2 with ⟨rfl, rfl⟩ | ⟨g, cap, cur, rfl, _, _, h1, h2, _⟩
  · exact ⟨none, 0, rfl, Nat.le_refl _, Nat.zero_le _⟩
  · exact ⟨_, _, rfl, h1, h2⟩

theorem elen_any {o : Nat → Nat} {c : Nat} {w : World} {r : Nat} {most : Int} {l : List En} (h : EringAt o c w r most l) :
    Calls Tryz.prog 121 #[.pointer (some ⟨r, 0, none⟩)] w fun e w' => e = .returned (.int .i64 l.length) ∧ w = w' := by
  obtain ⟨v, hb, hc, hv⟩ := h
  obtain ⟨A, cap, rfl, _, _⟩ := own_form_e hv
  have h0 := hb.cell 0
  have h1 := hb.cell 1
  simp at h0 h1
  clear hb hv
  go_enter Tryz.func121, Tryz.ntmps121
  go_wp2
  go_ret
  exact ⟨rfl, rfl⟩

theorem erroom_any {o : Nat → Nat} {c : Nat} {w : World} {r : Nat} {most : Int} {l : List En} (h : EringAt o c w r most l) (hm : 0 ≤ most) (hm2 : most ≤ 100000) (hl : (l.length : Int) ≤ most) :
    Calls Tryz.prog 81 #[.pointer (some ⟨r, 0, none⟩)] w fun e w' => e = .returned (.int .i64 (most - l.length)) ∧ ∃ n, w' = w.drewN n := by
  obtain ⟨v, hb, hc, hv⟩ := h
  obtain ⟨A, cap, rfl, _, _⟩ := own_form_e hv
  have h0 := hb.cell 0
  have h1 := hb.cell 1
  simp at h0 h1
  clear hb hv
  go_enter Tryz.func81, Tryz.ntmps81
  go_wp2
  go_quiet (fail)
  go_wp2
  go_ret
  exact ⟨rfl, _, rfl⟩

theorem EringAt.open_ {o : Nat → Nat} {c : Nat} {w : World} {r : Nat} {most : Int} {l : List En} (h : EringAt o c w r most l) :
    ∃ A cap, w.cell? ⟨r, 0, none⟩ = some (.slice A l.length cap) ∧ w.cell? ⟨r, 1, none⟩ = some (.int .i64 most) ∧ w.frozen? ⟨r, 0, none⟩ = false ∧ l.length ≤ cap ∧ cap ≤ 9223372036854775807 ∧
      Hid (Blk w r 128 #[.slice A l.length cap, .int .i64 most]) ∧ Hid (OwnS o c w 75 5 (.slice A l.length cap) l.length (encells l)) ∧ Hid (o r = c) ∧ Hid ((Value.slice A l.length cap).ownBlock ≠ some r) := by
  obtain ⟨v, hb, hc, hv⟩ := h
  obtain ⟨A, cap, rfl, h1, h2⟩ := own_form_e hv
  have h0 := hb.cell 0
  have h3 := hb.cell 1
  simp at h0 h3
  unfold maxLen at h2
  exact ⟨A, cap, h0, h3, hb.frozen 0, h1, by omega, hb, hv, hc, own_blk_ne hv hb (by decide)⟩
theorem info_en : (Tryz.prog.info? 75).map (fun i => (i.zero, i.size, i.bytes)) = some (some (.agg #[.int .u64 0, .int .i64 0, .int .i64 0, .string ⟨#[]⟩, .bool false]), 5, 48) := by kernel_rfl
set_option maxRecDepth 100000 in
set_option maxHeartbeats 1000000 in
theorem eset_any {o : Nat → Nat} {c : Nat} {w : World} {r : Nat} {most : Int} {l : List En} (h : EringAt o c w r most l) (k : Nat) (hk : k < l.length) (x : En) :
    Calls Tryz.prog 84 #[.pointer (some ⟨r, 0, none⟩), .int .i64 k, x.agg] w fun e w' => e = .returned (.bool true) ∧ EringAt o c w' r most (l.set k x) ∧ Step o (only c) w o w' := by
  have HR := Lib.hid h
  obtain ⟨A0, cap0, h0, h1, hfz, hc1, hc2, HB, HV, HO, HNE⟩ := h.open_
  clear h
  obtain ⟨g, cur, rfl, hb, hg, _, hcm, hsz, htk⟩ := HV.out.blk (by omega)
  obtain ⟨v0, q0⟩ := hb.cell_some (i := k * 5) (by omega)
  obtain ⟨v1, q1⟩ := hb.cell_some (i := k * 5 + 1) (by omega)
  obtain ⟨v2, q2⟩ := hb.cell_some (i := k * 5 + 2) (by omega)
  obtain ⟨v3, q3⟩ := hb.cell_some (i := k * 5 + 3) (by omega)
  obtain ⟨v4, q4⟩ := hb.cell_some (i := k * 5 + 4) (by omega)
  have f0 := hb.frozen (k * 5)
  have f1 := hb.frozen (k * 5 + 1)
  have f2 := hb.frozen (k * 5 + 2)
  have f3 := hb.frozen (k * 5 + 3)
  have f4 := hb.frozen (k * 5 + 4)
  have hgl := hb.lt
  have HG := Lib.hid hb
  have HGC := Lib.hid hg
  have HSZ := Lib.hid hsz
  have HTK := Lib.hid htk
  have HCM := Lib.hid hcm
  clear hb hg hsz htk hcm
  have hkI : (k : Int) < (l.length : Int) := by omega
  have hlI : (l.length : Int) ≤ 9223372036854775807 := by omega
  have hrl := HB.out.lt
  unfold En.agg
  go_enter Tryz.func84, Tryz.ntmps84
  go_wp2_with (go_at_call 121; refine (elen_any (HR.out.alloc _)).mono ?_; rintro e w' ⟨rfl, rfl⟩)
  go_region
  go_wp2
  go_ret
  have hgr : g ≠ r := HG.out.ne_ HB.out (by decide)
  have B0 := (((((HG.out.set_ (k * 5) (.int .u64 x.lsn)).set_ (k * 5 + 1) (.int .i64 x.at_)).set_ (k * 5 + 2) (.int .i64 x.n)).set_ (k * 5 + 3) (.string x.bytes)).set_ (k * 5 + 4) (.bool x.written))
  have R0 := (((((HB.out.far (p := ⟨g, k * 5, none⟩) hgr.symm (.int .u64 x.lsn)).far (p := ⟨g, k * 5 + 1, none⟩) hgr.symm (.int .i64 x.at_)).far (p := ⟨g, k * 5 + 2, none⟩) hgr.symm (.int .i64 x.n)).far (p := ⟨g, k * 5 + 3, none⟩) hgr.symm (.string x.bytes)).far (p := ⟨g, k * 5 + 4, none⟩) hgr.symm (.bool x.written))
  have S0 := ((((((Step.refl o (only c) w).setCell (p := ⟨g, k * 5, none⟩) HGC.out (.int .u64 x.lsn)).setCell (p := ⟨g, k * 5 + 1, none⟩) HGC.out (.int .i64 x.at_)).setCell (p := ⟨g, k * 5 + 2, none⟩) HGC.out (.int .i64 x.n)).setCell (p := ⟨g, k * 5 + 3, none⟩) HGC.out (.string x.bytes)).setCell (p := ⟨g, k * 5 + 4, none⟩) HGC.out (.bool x.written))
  refine ⟨rfl, ⟨_, (R0.alloc _).drew, HO.out, ?_⟩, (S0.alloc _).drew⟩
  have hl : (l.set k x).length = l.length := by simp
  rw [hl]
  refine (OwnS.of_blk (B0.alloc _).drew HGC.out hc1 HCM.out (by simp [HSZ.out]) ?_)
  rw [encells_set x l k hk, ← HTK.out]
  simp [List.take_set]

set_option maxRecDepth 100000 in
set_option maxHeartbeats 1000000 in
theorem epush_any {o : Nat → Nat} {c : Nat} {w : World} {r : Nat} {most : Int} {l : List En} (h : EringAt o c w r most l) (hm2 : most ≤ 100000) (hl : (l.length : Int) < most)
    (A : Option Addr) (cap : Nat) (x : En) (hr : Reads w 5 A 1 x.cells) (hcap : 1 ≤ cap) (hcap2 : cap ≤ maxLen) :
    Calls Tryz.prog 38 #[.pointer (some ⟨r, 0, none⟩), .slice A 1 cap] w fun e w' => e = .returned (.int .i64 1) ∧ ∃ o', EringAt o' c w' r most (l ++ [x]) ∧ Step o (only c) w o' w' := by
  have HR := Lib.hid h
  obtain ⟨v, hb, hc, hv⟩ := h
  obtain ⟨A0, cap0, rfl, hc1, hc2⟩ := own_form_e hv
  have h0 := hb.cell 0
  have h1 := hb.cell 1
  have hfz := hb.frozen 0
  simp at h0 h1
  have HB := Lib.hid hb
  have HV := Lib.hid hv
  obtain ⟨i0, hi, hz0, hz1, hz2⟩ := info_parts info_en
  clear hb hv
  have hmax : cap ≤ 9223372036854775807 := by unfold maxLen at hcap2; omega
  have hcap2 := Lib.hid hcap2
  have hlen : (l.length : Int) ≤ 100000 := by omega
  have hcapI : (1 : Int) ≤ (cap : Int) := by omega
  have hmin : min (1 : Int) (most - (l.length : Int)) = 1 := by omega
  have HO := Lib.hid hc
  clear hc
  go_enter Tryz.func38, Tryz.ntmps38
  go_wp2_with (go_at_call 81; refine (erroom_any HR.out (by omega) (by omega) (by omega)).mono ?_; rintro e w' ⟨rfl, n, rfl⟩)
  have hrw := (own_blk_ne HV.out HB.out (by decide))
  have HNE := Lib.hid hrw
  clear hrw
  go_region_law (refine step_append_S _ rfl (.tmp 17) (.tmp 20) 126 rfl 75 i0 _ 5 48 Tryz.underlying126 hi hz0 hz1 hz2 rfl (by omega) (.slice A0 l.length cap0) l.length (encells l) rfl (HV.out.drewN n).drew A 1 cap x.cells rfl (hr.drewN n).drew (by simp [En.cells, Value.oneCell']) (by unfold maxLen; omega) (by omega) ?_; intro v' w1 hown hk hg hat; have hb1 : Blk w1 r 128 _ := (hg.block r (HB.out.lt) (fun e => HNE.out e.symm)).trans HB.out; have k0 := hb1.cell 0; have k1 := hb1.frozen 0; simp at k0 k1; obtain ⟨A1, cap1, rfl, _, _⟩ := own_form_e hown; have HB1 := Lib.hid hb1; clear hb1 hg; have HOWN := Lib.hid hown; clear hown; have HAT := Lib.hid hat; clear hat)
  go_wp2
  go_ret
  have hor := (hk.old r HB.out.lt).trans HO.out
  refine ⟨rfl, _, ⟨_, HB1.out.set_ 0 _, hor, ?_⟩, ?_⟩
  · have e1 : encells (l ++ [x]) = encells l ++ x.cells := by simp [encells]
    have h2 := HOWN.out.setCell (p := ⟨r, 0, none⟩) (own_blk_ne HOWN.out HB1.out (by decide)) (Value.slice A1 (l.length + 1) cap1)
    rw [e1]
    simpa using h2
  · exact (Step.of_drewN hk).setCell (p := ⟨r, 0, none⟩) hor _

set_option maxRecDepth 100000 in
set_option maxHeartbeats 1000000 in
theorem elist_any {o : Nat → Nat} {c : Nat} {w : World} {r : Nat} {most : Int} {l : List En} (d : Nat) (h : EringAt o c w r most l) (hm : l.length ≤ 100000) :
    Calls Tryz.prog 82 #[.pointer (some ⟨r, 0, none⟩)] w fun e w' => ∃ A cap, e = .returned (.slice A l.length cap) ∧ OwnS (band o w.heap.size w'.heap.size d) d w' 75 5 (.slice A l.length cap) l.length (encells l) ∧ Below w.heap.size w w' := by
  obtain ⟨A0, cap0, h0, h1, hfz, hc1, hc2, HB, HV, HO, HNE⟩ := h.open_
  clear h
  obtain ⟨i0, hi, hz0, hz1, hz2⟩ := info_parts info_en
  go_enter Tryz.func82, Tryz.ntmps82
  go_wp2_with (at_builtin; refine wpList_append_S _ rfl (.const (.slice none 0 0)) (.tmp 8) 126 rfl 75 i0 _ 5 48 Tryz.underlying126 hi hz0 hz1 hz2 rfl (by omega) (.slice none 0 0) 0 [] rfl (OwnS.nil o d _ _ _) A0 l.length cap0 (encells l) rfl (Reads.of_own HV.out.1) (encells_one l) (by unfold maxLen; omega) (by omega) ?_; intro v' w1 hown hk hg hat; have hbl : Below w.heap.size w w1 := ⟨hg.os, hg.tape, hg.output, hg.size, fun k hk => hg.block k hk (by simp [Value.ownBlock])⟩; simp only [Nat.zero_add, List.nil_append] at hown; obtain ⟨A1, cap1, rfl, _, _⟩ := own_form_e hown; have HOWN := Lib.hid hown; clear hown hk hg hat)
  go_ret
  exact ⟨A1, cap1, rfl, HOWN.out, hbl⟩

set_option maxRecDepth 100000 in
set_option maxHeartbeats 1000000 in
theorem enew_any (o : Nat → Nat) (c : Nat) (n : Int) (h0 : 0 ≤ n) (h1 : n ≤ 100000) (w : World) :
    Calls Tryz.prog 31 #[.int .i64 n] w fun e w' => e = .returned (.pointer (some ⟨w.heap.size, 0, none⟩)) ∧ EringAt (band o w.heap.size w'.heap.size c) c w' w.heap.size n [] ∧ Below w.heap.size w w' := by
  go_enter Tryz.func31, Tryz.ntmps31
  go_wp2_with (go_at_call 73; refine (eroom_any _ _).mono ?_; rintro e w' ⟨rfl, rfl⟩)
  go_ret
  have e1 : min (max n 0) 100000 = n := by omega
  refine ⟨rfl, ⟨_, ?_, band_in (Nat.le_refl _) (by simp), OwnS.nil _ _ _ _ _⟩, (Below.refl _ _).alloc (Nat.le_refl _) _⟩
  rw [e1]
  exact Blk.new _ _ _
end Go.Proofs.YtianlhigeabehaaGreatDoor
