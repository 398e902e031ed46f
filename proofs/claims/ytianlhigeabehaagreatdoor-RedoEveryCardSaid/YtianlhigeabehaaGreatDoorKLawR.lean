/- The law, plain: what Add makes of one image; what Apply makes of images of blocks that rise. -/
import Derived.Test.YtianlhigeabehaaGreatDoorKLawP
namespace Go.Proofs.YtianlhigeabehaaGreatDoor
open Go.RowKit

/-- what a block's sectors hold: nothing, or an image -/
def Holds (D : Dk) (b : Nat) (i : Im) : Prop := D.load b = (i, 0)
/-- Apply at one image whose block holds another -/
theorem apply_one {D : Dk} {node : Int} {epoch : Nat} {i was : Im} (h : D.load i.block = (was, 0)) (l : List Im) (n : Nat) : applyGo node epoch (i :: l) n D = if i.ver ≤ was.ver then applyGo node epoch l n D else if (D.store node epoch i).1 ≠ 0 then ⟨0, (D.store node epoch i).1, (D.store node epoch i).2⟩ else applyGo node epoch l (n + 1) (D.store node epoch i).2 := by
  rw [applyGo_cons, h]
  simp only [tornE]
  by_cases hv : i.ver ≤ was.ver
  · simp [hv]
  · simp [hv]
/-- other sectors are as they were -/
theorem store_sec {D : Dk} {n : Int} {b : Nat} {data : ByteArray} {k : Int} (h : k < 17 + 2 * (b : Int) ∨ 17 + 2 * (b : Int) + 2 ≤ k) : (D.writeN n (17 + 2 * (b : Int)) data 2).sec k = D.sec k := by
  rw [writeN_sec, if_neg (by omega)]
theorem store_load {D : Dk} {k : Nat} (hc : Calm D k) {n e : Nat} (hn : n ≤ 16) (he : D.table n = e) (h0 : e ≠ 0) {i : Im} (hr : i.right) (hv : i.ver < 18446744073709551616) {b : Nat} (hb : b ≤ 9) (hi : i.block = b) : (D.store n e i).2.load b = (i, 0) := by
  obtain ⟨s1, s2⟩ := store_ok hc hn he h0 hr hb hi
  refine load_of s2.live hr hv hb hi ?_ ?_
  · rw [s1, writeN_sec, if_pos (by omega)]
    have : (17 + 2 * (b : Int) - (17 + 2 * (b : Int))).toNat = 0 := by omega
    rw [this]
  · rw [s1, writeN_sec, if_pos (by omega)]
    have : (17 + 2 * (b : Int) + 1 - (17 + 2 * (b : Int))).toNat = 1 := by omega
    rw [this]
theorem load_eq {D : Dk} (hc : Live D) {b : Nat} (hb : b ≤ 9) : D.load b = getB b (str ((D.sec (17 + 2 * (b : Int))).data.toList ++ (D.sec (17 + 2 * (b : Int) + 1)).data.toList)) := by
  have hba : blockAt (b : Int) = (17 + 2 * (b : Int), 0) := if_neg (by omega)
  obtain ⟨r1, r2⟩ := hc.read (at_ := 17 + 2 * (b : Int)) (n := 2) (by omega) (by omega) (by omega)
  have e1 : D.loadE1 b = 0 := by
    unfold Dk.loadE1
    rw [hba]
    exact r1
  unfold Dk.load
  rw [if_neg (by rw [e1]; simp), hba]
  show getB b (D.readS (17 + 2 * (b : Int)) 2) = _
  have r2' : D.readS (17 + 2 * (b : Int)) 2 = str (D.readL (17 + 2 * (b : Int)) 2) := r2
  rw [r2', readL_two]
/-- Load hangs on the block's two sectors alone -/
theorem load_congr {D E : Dk} (hc : Live D) (he : Live E) {b : Nat} (hb : b ≤ 9) (h1 : D.sec (17 + 2 * (b : Int)) = E.sec (17 + 2 * (b : Int))) (h2 : D.sec (17 + 2 * (b : Int) + 1) = E.sec (17 + 2 * (b : Int) + 1)) : D.load b = E.load b := by
  rw [load_eq hc hb, load_eq he hb, h1, h2]
theorem bestOf_nil : bestOf [] = fun _ => none := rfl
theorem plan_nil : planOf [] = [] := by
  rw [plan_eq]
  simp [keysOf]
/-- the plan of one record of one image -/
theorem plan_one (r : Rc) (i : Im) (h : r.images = [i]) : planOf [r] = [i] := by
  have e : ([r] : List Rc).flatMap (·.images) = [i] := by simp [h]
  rw [plan_eq, e]
  have hk : keysOf [i] = [i.block] := by
    unfold keysOf
    simp [List.eraseDups_cons]
  rw [hk]
  show [keyG (bestOf [i]) i.block] = [i]
  have : bestOf [i] i.block = some i := by
    have h1 : bestOf ([] ++ [i]) = bestStep (bestOf []) i := bestOf_add [] i
    rw [List.nil_append] at h1
    rw [h1, best_none (by rfl), upd_same]
  unfold keyG
  rw [this]
  rfl
/-- the plan of two records, of one image each, of blocks that rise -/
theorem plan_two (r t : Rc) (i j : Im) (hr : r.images = [i]) (ht : t.images = [j]) (h : i.block < j.block) : planOf [r, t] = [i, j] := by
  have e : ([r, t] : List Rc).flatMap (·.images) = [i, j] := by simp [hr, ht]
  rw [plan_eq, e]
  have hne : j.block ≠ i.block := by omega
  have hk : keysOf [i, j] = [i.block, j.block] := by
    unfold keysOf
    have h1 : ([i, j].map (fun i : Im => i.block)).eraseDups = [i.block, j.block] := by
      simp [List.eraseDups_cons, hne]
    rw [h1]
    exact List.mergeSort_of_pairwise (by simp; omega)
  rw [hk]
  have h1 : bestOf ([] ++ [i]) = bestStep (bestOf []) i := bestOf_add [] i
  rw [List.nil_append, best_none (by rfl)] at h1
  have h2 : bestOf ([i] ++ [j]) = bestStep (bestOf [i]) j := bestOf_add [i] j
  have h3 : bestOf [i] j.block = none := by rw [h1, upd_other _ _ hne]; rfl
  rw [best_none h3] at h2
  have h4 : bestOf [i, j] = upd (bestOf [i]) j.block j := h2
  show [keyG (bestOf [i, j]) i.block, keyG (bestOf [i, j]) j.block] = [i, j]
  unfold keyG
  rw [h4, upd_same, upd_other _ _ (Ne.symm hne), h1, upd_same]
  rfl
end Go.Proofs.YtianlhigeabehaaGreatDoor

/- The law, plain: a view of the disk, and what each step leaves of it. -/
namespace Go.Proofs.YtianlhigeabehaaGreatDoor
open Go.RowKit

/-- what is told of a disk: whom it admits, its last epoch, the head of log 1, the sectors of its records, and each block -/
structure View (D : Dk) (k t1 t2 ls : Nat) (h l1 l2 l3 : List UInt8) (f : Nat → Im) : Prop where
  calm : Calm D k
  t1 : D.table 1 = t1
  t2 : D.table 2 = t2
  last : D.last = ls
  head : D.sec 1 = str h
  l1 : D.readL 2 3 = l1
  l2 : D.readL 5 3 = l2
  l3 : D.readL 8 1 = l3
  blk : ∀ b : Nat, b ≤ 9 → D.load b = (f b, 0)
theorem readL_add (D : Dk) (a : Int) (m : Nat) : ∀ n : Nat, D.readL a (m + n) = D.readL a m ++ D.readL (a + m) n
  | 0 => by
    show D.readL a m = D.readL a m ++ []
    rw [List.append_nil]
  | n + 1 => by
    have e : a + ((m + n : Nat) : Int) = a + m + n := by omega
    rw [← Nat.add_assoc, readL_succ, readL_succ, readL_add D a m n, List.append_assoc, e]
theorem readL_congr {D E : Dk} {a : Int} {n : Nat} (h : ∀ j, a ≤ j → j < a + n → D.sec j = E.sec j) : D.readL a n = E.readL a n := by
  induction n with
  | zero => rfl
  | succ n ih =>
    rw [readL_succ, readL_succ, ih (fun j h1 h2 => h j h1 (by omega)), h _ (by omega) (by omega)]
theorem readL_wrote (D : Dk) (n a : Int) (data : ByteArray) (m : Nat) (hd : data.size = m * 64) : (D.writeN n a data m).readL a m = data.data.toList := by
  have key : ∀ j : Nat, j ≤ m → (D.writeN n a data m).readL a j = data.data.toList.take (j * 64) := by
    intro j
    induction j with
    | zero => intro _; simp [Dk.readL]
    | succ j ih =>
      intro hj
      rw [readL_succ, ih (by omega), writeN_sec, if_pos (by omega)]
      have : (a + (j : Int) - a).toNat = j := by omega
      rw [this]
      unfold sect
      rw [extract_list]
      have h2 : data.data.toList.take (j * 64) = (data.data.toList.take ((j + 1) * 64)).take (j * 64) := by
        rw [List.take_take]
        congr 1
        omega
      rw [h2]
      exact List.take_append_drop _ _
  rw [key m (Nat.le_refl _), List.take_of_length_le]
  have : data.data.toList.length = data.size := rfl
  omega
section
variable {D E : Dk} {k m t1 t2 u1 u2 ls lt : Nat} {h l1 l2 l3 : List UInt8} {f : Nat → Im}
/-- the same sectors -/
theorem View.sects (v : View D k t1 t2 ls h l1 l2 l3 f) (hc : Calm E m) (h1 : E.table 1 = u1) (h2 : E.table 2 = u2) (h3 : E.last = lt) (hs : ∀ j, E.sec j = D.sec j) : View E m u1 u2 lt h l1 l2 l3 f :=
  ⟨hc, h1, h2, h3, (hs 1).trans v.head, (readL_congr (fun j _ _ => hs j)).trans v.l1, (readL_congr (fun j _ _ => hs j)).trans v.l2, (readL_congr (fun j _ _ => hs j)).trans v.l3, fun b hb => (load_congr hc.live v.calm.live hb (hs _) (hs _)).trans (v.blk b hb)⟩
theorem View.mono (v : View D k t1 t2 ls h l1 l2 l3 f) {j : Nat} (hj : k ≤ j) : View D j t1 t2 ls h l1 l2 l3 f := ⟨v.calm.mono hj, v.t1, v.t2, v.last, v.head, v.l1, v.l2, v.l3, v.blk⟩
theorem View.settle (v : View D k t1 t2 ls h l1 l2 l3 f) (n : Int) : View (D.settle n) k t1 t2 ls h l1 l2 l3 f :=
  v.sects (v.calm.settle n) (by rw [(settle_tab D n).1]; exact v.t1) (by rw [(settle_tab D n).1]; exact v.t2) (by rw [(settle_tab D n).2]; exact v.last) (settle_sec D n)
theorem View.barrier (v : View D k t1 t2 ls h l1 l2 l3 f) {n e : Nat} (hn : n ≤ 16) (he : D.table n = e) (h0 : e ≠ 0) : (D.barrier n e).1 = 0 ∧ View (D.barrier n e).2 k t1 t2 ls h l1 l2 l3 f := by
  obtain ⟨b1, _⟩ := v.calm.barrier hn he h0
  rw [b1]
  exact ⟨rfl, v.settle n⟩
theorem View.fence1 (v : View D k t1 t2 ls h l1 l2 l3 f) : (D.fence (1 : Nat)).1 = 0 ∧ View (D.fence (1 : Nat)).2 k 0 t2 ls h l1 l2 l3 f := by
  obtain ⟨b1, b2⟩ := v.calm.fence (n := 1) (by omega)
  refine ⟨by rw [b1], v.sects b2 (by rw [b1]; rfl) ?_ ?_ ?_⟩
  · rw [b1]
    show (if 2 = 1 then 0 else D.table 2) = t2
    rw [if_neg (by decide)]
    exact v.t2
  · rw [b1]
    exact (settle_tab D (1 : Nat)).2.trans v.last
  · exact sec_congr (fence_now v.calm (by omega))
theorem View.admit2 (v : View D k t1 t2 ls h l1 l2 l3 f) {e : Nat} (he : ls < e) : (D.admit (2 : Nat) e).1 = 0 ∧ View (D.admit (2 : Nat) e).2 k t1 e e h l1 l2 l3 f := by
  obtain ⟨b1, b2⟩ := v.calm.admit (n := 2) (by omega) (e := e) (by rw [v.last]; exact he)
  refine ⟨by rw [b1], v.sects b2 ?_ ?_ ?_ ?_⟩
  · rw [b1]
    show (if 1 = 2 then e else D.table 1) = t1
    rw [if_neg (by decide)]
    exact v.t1
  · rw [b1]
    rfl
  · rw [b1]
  · exact sec_congr (admit_now v.calm (by omega) (by rw [v.last]; exact he))
/-- sectors are written, somewhere -/
theorem View.writes (v : View D k t1 t2 ls h l1 l2 l3 f) {n e : Nat} (hn : n ≤ 16) (he : D.table n = e) (h0 : e ≠ 0) {a : Int} {data : ByteArray} {j : Nat} (hd : data.size = j * 64) (j1 : 1 ≤ j) (j2 : j ≤ 16) (a1 : 0 ≤ a) (a2 : a + j ≤ 37)
    {h' l1' l2' l3' : List UInt8} {f' : Nat → Im} (hh : (D.writeN n a data j).sec 1 = str h') (r1 : (D.writeN n a data j).readL 2 3 = l1') (r2 : (D.writeN n a data j).readL 5 3 = l2') (r3 : (D.writeN n a data j).readL 8 1 = l3')
    (hf : ∀ b : Nat, b ≤ 9 → Calm (D.writeN n a data j) (k + j) → (D.writeN n a data j).load b = (f' b, 0)) :
    D.write n e a data = (0, D.writeN n a data j) ∧ View (D.writeN n a data j) (k + j) t1 t2 ls h' l1' l2' l3' f' := by
  obtain ⟨w1, w2⟩ := v.calm.write hn he h0 hd j1 j2 a1 a2
  rw [w1] at w2
  have s := writeN_same D n a data j
  exact ⟨w1, w2, by rw [s.2.2.2.2.2.1]; exact v.t1, by rw [s.2.2.2.2.2.1]; exact v.t2, by rw [s.2.2.2.1]; exact v.last, hh, r1, r2, r3, fun b hb => hf b hb w2⟩
theorem View.keepL (h : ∀ j, (2 : Int) ≤ j → j < 9 → E.sec j = D.sec j) : E.readL 2 3 = D.readL 2 3 ∧ E.readL 5 3 = D.readL 5 3 ∧ E.readL 8 1 = D.readL 8 1 :=
  ⟨readL_congr (fun j _ _ => h j (by omega) (by omega)), readL_congr (fun j _ _ => h j (by omega) (by omega)), readL_congr (fun j _ _ => h j (by omega) (by omega))⟩
/-- the head is written -/
theorem View.headW (v : View D k t1 t2 ls h l1 l2 l3 f) {n e : Nat} (hn : n ≤ 16) (he : D.table n = e) (h0 : e ≠ 0) {h' : List UInt8} (hl : h'.length = 64) : D.write n e 1 (str h') = (0, D.writeN n 1 (str h') 1) ∧ View (D.writeN n 1 (str h') 1) (k + 1) t1 t2 ls h' l1 l2 l3 f := by
  have hs : ∀ j : Int, j ≠ 1 → (D.writeN n 1 (str h') 1).sec j = D.sec j := fun j hj => by rw [writeN_sec, if_neg (by omega)]
  obtain ⟨q1, q2, q3⟩ := View.keepL (D := D) (E := D.writeN n 1 (str h') 1) (fun j _ _ => hs j (by omega))
  refine v.writes hn he h0 (by rw [str_size, hl]) (by omega) (by omega) (by omega) (by omega) ?_ (q1.trans v.l1) (q2.trans v.l2) (q3.trans v.l3) (fun b hb hc => (load_congr hc.live v.calm.live hb (hs _ (by omega)) (hs _ (by omega))).trans (v.blk b hb))
  rw [writeN_sec, if_pos (by omega)]
  show (str h').extract (0 * 64) ((0 + 1) * 64) = _
  rw [extract_str, List.take_of_length_le (by omega), Nat.zero_mul, List.drop_zero]
/-- the first record is written -/
theorem View.recA (v : View D k t1 t2 ls h l1 l2 l3 f) {n e : Nat} (hn : n ≤ 16) (he : D.table n = e) (h0 : e ≠ 0) {r : List UInt8} (hl : r.length = 192) : View (D.writeN n 2 (str r) 3) (k + 3) t1 t2 ls h r l2 l3 f := by
  have hs : ∀ j : Int, j < 2 ∨ 5 ≤ j → (D.writeN n 2 (str r) 3).sec j = D.sec j := fun j hj => by rw [writeN_sec, if_neg (by omega)]
  refine (v.writes hn he h0 (a := 2) (data := str r) (j := 3) (by rw [str_size, hl]) (by omega) (by omega) (by omega) (by omega) ((hs _ (by omega)).trans v.head) ?_ ((readL_congr (fun j _ _ => hs j (by omega))).trans v.l2) ((readL_congr (fun j _ _ => hs j (by omega))).trans v.l3) (fun b hb hc => (load_congr hc.live v.calm.live hb (hs _ (by omega)) (hs _ (by omega))).trans (v.blk b hb))).2
  rw [readL_wrote _ _ _ _ _ (by rw [str_size, hl]), str_list]
/-- the second record is written -/
theorem View.recB (v : View D k t1 t2 ls h l1 l2 l3 f) {n e : Nat} (hn : n ≤ 16) (he : D.table n = e) (h0 : e ≠ 0) {r : List UInt8} (hl : r.length = 192) : View (D.writeN n 5 (str r) 3) (k + 3) t1 t2 ls h l1 r l3 f := by
  have hs : ∀ j : Int, j < 5 ∨ 8 ≤ j → (D.writeN n 5 (str r) 3).sec j = D.sec j := fun j hj => by rw [writeN_sec, if_neg (by omega)]
  refine (v.writes hn he h0 (a := 5) (data := str r) (j := 3) (by rw [str_size, hl]) (by omega) (by omega) (by omega) (by omega) ((hs _ (by omega)).trans v.head) ((readL_congr (fun j _ _ => hs j (by omega))).trans v.l1) ?_ ((readL_congr (fun j _ _ => hs j (by omega))).trans v.l3) (fun b hb hc => (load_congr hc.live v.calm.live hb (hs _ (by omega)) (hs _ (by omega))).trans (v.blk b hb))).2
  rw [readL_wrote _ _ _ _ _ (by rw [str_size, hl]), str_list]
def setIm (f : Nat → Im) (b : Nat) (i : Im) : Nat → Im := fun x => if x = b then i else f x
/-- a block is stored -/
theorem View.store (v : View D k t1 t2 ls h l1 l2 l3 f) {n e : Nat} (hn : n ≤ 16) (he : D.table n = e) (h0 : e ≠ 0) {i : Im} (hr : i.right) (hv : i.ver < 18446744073709551616) {b : Nat} (hb : b ≤ 9) (hi : i.block = b) : (D.store n e i).1 = 0 ∧ View (D.store n e i).2 (k + 2) t1 t2 ls h l1 l2 l3 (setIm f b i) := by
  obtain ⟨s1, s2⟩ := store_ok v.calm hn he h0 hr hb hi
  have sl := store_load v.calm hn he h0 hr hv hb hi
  rw [s1] at s2 sl ⊢
  have hs : ∀ j : Int, j < 17 + 2 * (b : Int) ∨ 17 + 2 * (b : Int) + 2 ≤ j → (D.writeN n (17 + 2 * (b : Int)) (str (blkL i)) 2).sec j = D.sec j := fun j hj => store_sec hj
  refine ⟨rfl, (v.writes hn he h0 (a := 17 + 2 * (b : Int)) (data := str (blkL i)) (j := 2) (by rw [str_size, blkL_len hr]) (by omega) (by omega) (by omega) (by omega) ((hs _ (by omega)).trans v.head) ((readL_congr (fun j _ _ => hs j (by omega))).trans v.l1) ((readL_congr (fun j _ _ => hs j (by omega))).trans v.l2) ((readL_congr (fun j _ _ => hs j (by omega))).trans v.l3) (fun c hc' hcal => ?_)).2⟩
  unfold setIm
  by_cases hcb : c = b
  · rw [if_pos hcb, hcb]
    exact sl
  · rw [if_neg hcb]
    exact (load_congr hcal.live v.calm.live hc' (hs _ (by omega)) (hs _ (by omega))).trans (v.blk c hc')
end
/-- a block that was never written -/
def blank (b : Nat) : Im := ⟨b, 0, str (zer 96)⟩
theorem readyV : View readyD 49 9 (readyD.table 2) 9 (zer 64) (zer 192) (zer 192) (zer 64) blank := by
  obtain ⟨c, l, t, s⟩ := ready_facts
  generalize readyD = R at c l t s ⊢
  have hs : ∀ j : Int, j ≠ 0 → R.sec j = str (zer 64) := fun j hj => by rw [s, if_neg hj]
  have hz : ∀ (a : Int) (n : Nat), 1 ≤ a → R.readL a n = zer (n * 64) := by
    intro a n ha
    induction n with
    | zero => rfl
    | succ n ih =>
      rw [readL_succ, ih, hs _ (by omega), str_list, zer_app]
      congr 1
      omega
  exact ⟨c, t, rfl, l, hs _ (by omega), hz _ _ (by omega), hz _ _ (by omega), hz _ _ (by omega), fun b hb => load_blank c.live hb (hs _ (by omega)) (hs _ (by omega))⟩
end Go.Proofs.YtianlhigeabehaaGreatDoor
