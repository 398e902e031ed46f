/- The law, plain: what Add makes of one image; what Apply makes of images of blocks that rise. -/
import Derived.Test.YtcmneekdajnnaaaGreatDoorKLawP
namespace Go.Proofs.YtcmneekdajnnaaaGreatDoor
open Go.RowKit

/-- what a block's sectors hold: nothing, or an image -/
def Holds (D : Dk) (b : Nat) (i : Im) : Prop := D.load b = (i, 0)
/-- Apply at one image whose block holds another -/
theorem apply_one {D : Dk} {node : Int} {epoch : Nat} {i was : Im} (h : D.load i.block = (was, 0)) (l : List Im) (n : Nat) : applyGo node epoch (i :: l) n D = if i.ver ≤ was.ver then applyGo node epoch l n D else if (D.store node epoch i).1 ≠ 0 then ⟨0, (D.store node epoch i).1, (D.store node epoch i).2⟩ else applyGo node epoch l (n + 1) (D.store node epoch i).2 := by
  rw [applyGo_cons, h]
  simp only [tornE]
  by_cases hv : i.ver ≤ was.ver
  · simp [hv]
  · simp [hv]
/-- other sectors are as they were -/
theorem store_sec {D : Dk} {n : Int} {b : Nat} {data : ByteArray} {k : Int} (h : k < 17 + 2 * (b : Int) ∨ 17 + 2 * (b : Int) + 2 ≤ k) : (D.writeN n (17 + 2 * (b : Int)) data 2).sec k = D.sec k := by
  rw [writeN_sec, if_neg (by omega)]
theorem store_load {D : Dk} {k : Nat} (hc : Calm D k) {n e : Nat} (hn : n ≤ 16) (he : D.table n = e) (h0 : e ≠ 0) {i : Im} (hr : i.right) (hv : i.ver < 18446744073709551616) {b : Nat} (hb : b ≤ 9) (hi : i.block = b) : (D.store n e i).2.load b = (i, 0) := by
  obtain ⟨s1, s2⟩ := store_ok hc hn he h0 hr hb hi
  refine load_of s2.live hr hv hb hi ?_ ?_
  · rw [s1, writeN_sec, if_pos (by omega)]
    have : (17 + 2 * (b : Int) - (17 + 2 * (b : Int))).toNat = 0 := by omega
    rw [this]
  · rw [s1, writeN_sec, if_pos (by omega)]
    have : (17 + 2 * (b : Int) + 1 - (17 + 2 * (b : Int))).toNat = 1 := by omega
    rw [this]
theorem load_eq {D : Dk} (hc : Live D) {b : Nat} (hb : b ≤ 9) : D.load b = getB b (str ((D.sec (17 + 2 * (b : Int))).data.toList ++ (D.sec (17 + 2 * (b : Int) + 1)).data.toList)) := by
  have hba : blockAt (b : Int) = (17 + 2 * (b : Int), 0) := if_neg (by omega)
  obtain ⟨r1, r2⟩ := hc.read (at_ := 17 + 2 * (b : Int)) (n := 2) (by omega) (by omega) (by omega)
  have e1 : D.loadE1 b = 0 := by
    unfold Dk.loadE1
    rw [hba]
    exact r1
  unfold Dk.load
  rw [if_neg (by rw [e1]; simp), hba]
  show getB b (D.readS (17 + 2 * (b : Int)) 2) = _
  have r2' : D.readS (17 + 2 * (b : Int)) 2 = str (D.readL (17 + 2 * (b : Int)) 2) := r2
  rw [r2', readL_two]
/-- Load hangs on the block's two sectors alone -/
theorem load_congr {D E : Dk} (hc : Live D) (he : Live E) {b : Nat} (hb : b ≤ 9) (h1 : D.sec (17 + 2 * (b : Int)) = E.sec (17 + 2 * (b : Int))) (h2 : D.sec (17 + 2 * (b : Int) + 1) = E.sec (17 + 2 * (b : Int) + 1)) : D.load b = E.load b := by
  rw [load_eq hc hb, load_eq he hb, h1, h2]
theorem bestOf_nil : bestOf [] = fun _ => none := rfl
theorem plan_nil : planOf [] = [] := by
  rw [plan_eq]
  simp [keysOf]
/-- the plan of one record of one image -/
theorem plan_one (r : Rc) (i : Im) (h : r.images = [i]) : planOf [r] = [i] := by
  have e : ([r] : List Rc).flatMap (·.images) = [i] := by simp [h]
  rw [plan_eq, e]
  have hk : keysOf [i] = [i.block] := by
    unfold keysOf
    simp [List.eraseDups_cons]
  rw [hk]
  show [keyG (bestOf [i]) i.block] = [i]
  have : bestOf [i] i.block = some i := by
    have h1 : bestOf ([] ++ [i]) = bestStep (bestOf []) i := bestOf_add [] i
    rw [List.nil_append] at h1
    rw [h1, best_none (by rfl), upd_same]
  unfold keyG
  rw [this]
  rfl
/-- the plan of two records, of one image each, of blocks that rise -/
theorem plan_two (r t : Rc) (i j : Im) (hr : r.images = [i]) (ht : t.images = [j]) (h : i.block < j.block) : planOf [r, t] = [i, j] := by
  have e : ([r, t] : List Rc).flatMap (·.images) = [i, j] := by simp [hr, ht]
  rw [plan_eq, e]
  have hne : j.block ≠ i.block := by omega
  have hk : keysOf [i, j] = [i.block, j.block] := by
    unfold keysOf
    have h1 : ([i, j].map (fun i : Im => i.block)).eraseDups = [i.block, j.block] := by
      simp [List.eraseDups_cons, hne]
    rw [h1]
    exact List.mergeSort_of_pairwise (by simp; omega)
  rw [hk]
  have h1 : bestOf ([] ++ [i]) = bestStep (bestOf []) i := bestOf_add [] i
  rw [List.nil_append, best_none (by rfl)] at h1
  have h2 : bestOf ([i] ++ [j]) = bestStep (bestOf [i]) j := bestOf_add [i] j
  have h3 : bestOf [i] j.block = none := by rw [h1, upd_other _ _ hne]; rfl
  rw [best_none h3] at h2
  have h4 : bestOf [i, j] = upd (bestOf [i]) j.block j := h2
  show [keyG (bestOf [i, j]) i.block, keyG (bestOf [i, j]) j.block] = [i, j]
  unfold keyG
  rw [h4, upd_same, upd_other _ _ (Ne.symm hne), h1, upd_same]
  rfl
end Go.Proofs.YtcmneekdajnnaaaGreatDoor

/- The law, plain: a view of the disk, and what each step leaves of it. -/
namespace Go.Proofs.YtcmneekdajnnaaaGreatDoor
open Go.RowKit

/-- what is told of a disk: whom it admits, its last epoch, the head of log 1, the sectors of its records, and each block -/
structure View (D : Dk) (k t1 t2 ls : Nat) (h l1 l2 l3 : List UInt8) (f : Nat → Im) : Prop where
  calm : Calm D k
  t1 : D.table 1 = t1
  t2 : D.table 2 = t2
  last : D.last = ls
  head : D.sec 1 = str h
  l1 : D.readL 2 3 = l1
  l2 : D.readL 5 3 = l2
  l3 : D.readL 8 1 = l3
  blk : ∀ b : Nat, b ≤ 9 → D.load b = (f b, 0)
theorem readL_add (D : Dk) (a : Int) (m : Nat) : ∀ n : Nat, D.readL a (m + n) = D.readL a m ++ D.readL (a + m) n
  | 0 => by
    show D.readL a m = D.readL a m ++ []
    rw [List.append_nil]
  | n + 1 => by
    have e : a + ((m + n : Nat) : Int) = a + m + n := by omega
    rw [← Nat.add_assoc, readL_succ, readL_succ, readL_add D a m n, List.append_assoc, e]
theorem readL_congr {D E : Dk} {a : Int} {n : Nat} (h : ∀ j, a ≤ j → j < a + n → D.sec j = E.sec j) : D.readL a n = E.readL a n := by
  induction n with
  | zero => rfl
  | succ n ih =>
    rw [readL_succ, readL_succ, ih (fun j h1 h2 => h j h1 (by omega)), h _ (by omega) (by omega)]
theorem readL_wrote (D : Dk) (n a : Int) (data : ByteArray) (m : Nat) (hd : data.size = m * 64) : (D.writeN n a data m).readL a m = data.data.toList := by
  have key : ∀ j : Nat, j ≤ m → (D.writeN n a data m).readL a j = data.data.toList.take (j * 64) := by
    intro j
    induction j with
    | zero => intro _; simp [Dk.readL]
    | succ j ih =>
      intro hj
      rw [readL_succ, ih (by omega), writeN_sec, if_pos (by omega)]
      have : (a + (j : Int) - a).toNat = j := by omega
      rw [this]
      unfold sect
      rw [extract_list]
      have h2 : data.data.toList.take (j * 64) = (data.data.toList.take ((j + 1) * 64)).take (j * 64) := by
        rw [List.take_take]
        congr 1
        omega
      rw [h2]
      exact List.take_append_drop _ _
  rw [key m (Nat.le_refl _), List.take_of_length_le]
  have : data.data.toList.length = data.size := rfl
  omega
section
variable {D E : Dk} {k m t1 t2 u1 u2 ls lt : Nat} {h l1 l2 l3 : List UInt8} {f : Nat → Im}
/-- the same sectors -/
theorem View.sects (v : View D k t1 t2 ls h l1 l2 l3 f) (hc : Calm E m) (h1 : E.table 1 = u1) (h2 : E.table 2 = u2) (h3 : E.last = lt) (hs : ∀ j, E.sec j = D.sec j) : View E m u1 u2 lt h l1 l2 l3 f :=
  ⟨hc, h1, h2, h3, (hs 1).trans v.head, (readL_congr (fun j _ _ => hs j)).trans v.l1, (readL_congr (fun j _ _ => hs j)).trans v.l2, (readL_congr (fun j _ _ => hs j)).trans v.l3, fun b hb => (load_congr hc.live v.calm.live hb (hs _) (hs _)).trans (v.blk b hb)⟩
theorem View.mono (v : View D k t1 t2 ls h l1 l2 l3 f) {j : Nat} (hj : k ≤ j) : View D j t1 t2 ls h l1 l2 l3 f := ⟨v.calm.mono hj, v.t1, v.t2, v.last, v.head, v.l1, v.l2, v.l3, v.blk⟩
theorem View.settle (v : View D k t1 t2 ls h l1 l2 l3 f) (n : Int) : View (D.settle n) k t1 t2 ls h l1 l2 l3 f :=
  v.sects (v.calm.settle n) (by rw [(settle_tab D n).1]; exact v.t1) (by rw [(settle_tab D n).1]; exact v.t2) (by rw [(settle_tab D n).2]; exact v.last) (settle_sec D n)
theorem View.barrier (v : View D k t1 t2 ls h l1 l2 l3 f) {n e : Nat} (hn : n ≤ 16) (he : D.table n = e) (h0 : e ≠ 0) : (D.barrier n e).1 = 0 ∧ View (D.barrier n e).2 k t1 t2 ls h l1 l2 l3 f := by
  obtain ⟨b1, _⟩ := v.calm.barrier hn he h0
  rw [b1]
  exact ⟨rfl, v.settle n⟩
theorem View.fence1 (v : View D k t1 t2 ls h l1 l2 l3 f) : (D.fence (1 : Nat)).1 = 0 ∧ View (D.fence (1 : Nat)).2 k 0 t2 ls h l1 l2 l3 f := by
  obtain ⟨b1, b2⟩ := v.calm.fence (n := 1) (by omega)
  refine ⟨by rw [b1], v.sects b2 (by rw [b1]; rfl) ?_ ?_ ?_⟩
  · rw [b1]
    show (if 2 = 1 then 0 else D.table 2) = t2
    rw [if_neg (by decide)]
    exact v.t2
  · rw [b1]
    exact (settle_tab D (1 : Nat)).2.trans v.last
  · exact sec_congr (fence_now v.calm (by omega))
theorem View.admit2 (v : View D k t1 t2 ls h l1 l2 l3 f) {e : Nat} (he : ls < e) : (D.admit (2 : Nat) e).1 = 0 ∧ View (D.admit (2 : Nat) e).2 k t1 e e h l1 l2 l3 f := by
  obtain ⟨b1, b2⟩ := v.calm.admit (n := 2) (by omega) (e := e) (by rw [v.last]; exact he)
  refine ⟨by rw [b1], v.sects b2 ?_ ?_ ?_ ?_⟩
  · rw [b1]
    show (if 1 = 2 then e else D.table 1) = t1
    rw [if_neg (by decide)]
    exact v.t1
  · rw [b1]
    rfl
  · rw [b1]
  · exact sec_congr (admit_now v.calm (by omega) (by rw [v.last]; exact he))
/-- sectors are written, somewhere -/
theorem View.writes (v : View D k t1 t2 ls h l1 l2 l3 f) {n e : Nat} (hn : n ≤ 16) (he : D.table n = e) (h0 : e ≠ 0) {a : Int} {data : ByteArray} {j : Nat} (hd : data.size = j * 64) (j1 : 1 ≤ j) (j2 : j ≤ 16) (a1 : 0 ≤ a) (a2 : a + j ≤ 37)
    {h' l1' l2' l3' : List UInt8} {f' : Nat → Im} (hh : (D.writeN n a data j).sec 1 = str h') (r1 : (D.writeN n a data j).readL 2 3 = l1') (r2 : (D.writeN n a data j).readL 5 3 = l2') (r3 : (D.writeN n a data j).readL 8 1 = l3')
    (hf : ∀ b : Nat, b ≤ 9 → Calm (D.writeN n a data j) (k + j) → (D.writeN n a data j).load b = (f' b, 0)) :
    D.write n e a data = (0, D.writeN n a data j) ∧ View (D.writeN n a data j) (k + j) t1 t2 ls h' l1' l2' l3' f' := by
  obtain ⟨w1, w2⟩ := v.calm.write hn he h0 hd j1 j2 a1 a2
  rw [w1] at w2
  have s := writeN_same D n a data j
  exact ⟨w1, w2, by rw [s.2.2.2.2.2.1]; exact v.t1, by rw [s.2.2.2.2.2.1]; exact v.t2, by rw [s.2.2.2.1]; exact v.last, hh, r1, r2, r3, fun b hb => hf b hb w2⟩
theorem View.keepL (h : ∀ j, (2 : Int) ≤ j → j < 9 → E.sec j = D.sec j) : E.readL 2 3 = D.readL 2 3 ∧ E.readL 5 3 = D.readL 5 3 ∧ E.readL 8 1 = D.readL 8 1 :=
  ⟨readL_congr (fun j _ _ => h j (by omega) (by omega)), readL_congr (fun j _ _ => h j (by omega) (by omega)), readL_congr (fun j _ _ => h j (by omega) (by omega))⟩
/-- the head is written -/
theorem View.headW (v : View D k t1 t2 ls h l1 l2 l3 f) {n e : Nat} (hn : n ≤ 16) (he : D.table n = e) (h0 : e ≠ 0) {h' : List UInt8} (hl : h'.length = 64) : D.write n e 1 (str h') = (0, D.writeN n 1 (str h') 1) ∧ View (D.writeN n 1 (str h') 1) (k + 1) t1 t2 ls h' l1 l2 l3 f := by
  have hs : ∀ j : Int, j ≠ 1 → (D.writeN n 1 (str h') 1).sec j = D.sec j := fun j hj => by rw [writeN_sec, if_neg (by omega)]
  obtain ⟨q1, q2, q3⟩ := View.keepL (D := D) (E := D.writeN n 1 (str h') 1) (fun j _ _ => hs j (by omega))
  refine v.writes hn he h0 (by rw [str_size, hl]) (by omega) (by omega) (by omega) (by omega) ?_ (q1.trans v.l1) (q2.trans v.l2) (q3.trans v.l3) (fun b hb hc => (load_congr hc.live v.calm.live hb (hs _ (by omega)) (hs _ (by omega))).trans (v.blk b hb))
  rw [writeN_sec, if_pos (by omega)]
  show (str h').extract (0 * 64) ((0 + 1) * 64) = _
  rw [extract_str, List.take_of_length_le (by omega), Nat.zero_mul, List.drop_zero]
/-- the first record is written -/
theorem View.recA (v : View D k t1 t2 ls h l1 l2 l3 f) {n e : Nat} (hn : n ≤ 16) (he : D.table n = e) (h0 : e ≠ 0) {r : List UInt8} (hl : r.length = 192) : View (D.writeN n 2 (str r) 3) (k + 3) t1 t2 ls h r l2 l3 f := by
  have hs : ∀ j : Int, j < 2 ∨ 5 ≤ j → (D.writeN n 2 (str r) 3).sec j = D.sec j := fun j hj => by rw [writeN_sec, if_neg (by omega)]
  refine (v.writes hn he h0 (a := 2) (data := str r) (j := 3) (by rw [str_size, hl]) (by omega) (by omega) (by omega) (by omega) ((hs _ (by omega)).trans v.head) ?_ ((readL_congr (fun j _ _ => hs j (by omega))).trans v.l2) ((readL_congr (fun j _ _ => hs j (by omega))).trans v.l3) (fun b hb hc => (load_congr hc.live v.calm.live hb (hs _ (by omega)) (hs _ (by omega))).trans (v.blk b hb))).2
  rw [readL_wrote _ _ _ _ _ (by rw [str_size, hl]), str_list]
/-- the second record is written -/
theorem View.recB (v : View D k t1 t2 ls h l1 l2 l3 f) {n e : Nat} (hn : n ≤ 16) (he : D.table n = e) (h0 : e ≠ 0) {r : List UInt8} (hl : r.length = 192) : View (D.writeN n 5 (str r) 3) (k + 3) t1 t2 ls h l1 r l3 f := by
  have hs : ∀ j : Int, j < 5 ∨ 8 ≤ j → (D.writeN n 5 (str r) 3).sec j = D.sec j := fun j hj => by rw [writeN_sec, if_neg (by omega)]
  refine (v.writes hn he h0 (a := 5) (data := str r) (j := 3) (by rw [str_size, hl]) (by omega) (by omega) (by omega) (by omega) ((hs _ (by omega)).trans v.head) ((readL_congr (fun j _ _ => hs j (by omega))).trans v.l1) ?_ ((readL_congr (fun j _ _ => hs j (by omega))).trans v.l3) (fun b hb hc => (load_congr hc.live v.calm.live hb (hs _ (by omega)) (hs _ (by omega))).trans (v.blk b hb))).2
  rw [readL_wrote _ _ _ _ _ (by rw [str_size, hl]), str_list]
def setIm (f : Nat → Im) (b : Nat) (i : Im) : Nat → Im := fun x => if x = b then i else f x
/-- a block is stored -/
theorem View.store (v : View D k t1 t2 ls h l1 l2 l3 f) {n e : Nat} (hn : n ≤ 16) (he : D.table n = e) (h0 : e ≠ 0) {i : Im} (hr : i.right) (hv : i.ver < 18446744073709551616) {b : Nat} (hb : b ≤ 9) (hi : i.block = b) : (D.store n e i).1 = 0 ∧ View (D.store n e i).2 (k + 2) t1 t2 ls h l1 l2 l3 (setIm f b i) := by
  obtain ⟨s1, s2⟩ := store_ok v.calm hn he h0 hr hb hi
  have sl := store_load v.calm hn he h0 hr hv hb hi
  rw [s1] at s2 sl ⊢
  have hs : ∀ j : Int, j < 17 + 2 * (b : Int) ∨ 17 + 2 * (b : Int) + 2 ≤ j → (D.writeN n (17 + 2 * (b : Int)) (str (blkL i)) 2).sec j = D.sec j := fun j hj => store_sec hj
  refine ⟨rfl, (v.writes hn he h0 (a := 17 + 2 * (b : Int)) (data := str (blkL i)) (j := 2) (by rw [str_size, blkL_len hr]) (by omega) (by omega) (by omega) (by omega) ((hs _ (by omega)).trans v.head) ((readL_congr (fun j _ _ => hs j (by omega))).trans v.l1) ((readL_congr (fun j _ _ => hs j (by omega))).trans v.l2) ((readL_congr (fun j _ _ => hs j (by omega))).trans v.l3) (fun c hc' hcal => ?_)).2⟩
  unfold setIm
  by_cases hcb : c = b
  · rw [if_pos hcb, hcb]
    exact sl
  · rw [if_neg hcb]
    exact (load_congr hcal.live v.calm.live hc' (hs _ (by omega)) (hs _ (by omega))).trans (v.blk c hc')
end
/-- a block that was never written -/
def blank (b : Nat) : Im := ⟨b, 0, str (zer 96)⟩
theorem readyV : View readyD 49 9 (readyD.table 2) 9 (zer 64) (zer 192) (zer 192) (zer 64) blank := by
  obtain ⟨c, l, t, s⟩ := ready_facts
  generalize readyD = R at c l t s ⊢
  have hs : ∀ j : Int, j ≠ 0 → R.sec j = str (zer 64) := fun j hj => by rw [s, if_neg hj]
  have hz : ∀ (a : Int) (n : Nat), 1 ≤ a → R.readL a n = zer (n * 64) := by
    intro a n ha
    induction n with
    | zero => rfl
    | succ n ih =>
      rw [readL_succ, ih, hs _ (by omega), str_list, zer_app]
      congr 1
      omega
  exact ⟨c, t, rfl, l, hs _ (by omega), hz _ _ (by omega), hz _ _ (by omega), hz _ _ (by omega), fun b hb => load_blank c.live hb (hs _ (by omega)) (hs _ (by omega))⟩
end Go.Proofs.YtcmneekdajnnaaaGreatDoor

/- The law, plain: what Add and Sync leave of one or two records; what Run makes of them. -/
namespace Go.Proofs.YtcmneekdajnnaaaGreatDoor
open Go.RowKit

def oneIm (n v : Nat) : Im := ⟨n, v, str (UInt8.ofNat n :: zer 95)⟩
theorem oneIm_right {n : Nat} (h : n < 4096) (v : Nat) : (oneIm n v).right := by
  refine ⟨?_, ?_, ?_⟩
  · show (0 : Int) ≤ (n : Int)
    omega
  · show (n : Int) < 4096
    omega
  · show (str _).size = 96
    rw [str_size, List.length_cons, zer_len]
def hd9 : List UInt8 := headL ⟨9, 1, 0⟩
theorem hd9_ok : ¬ (⟨9, 1, 0⟩ : Hd).bad := by unfold Hd.bad; decide
/-- one image, as the record k of epoch 9 -/
def rcI (k : Nat) (i : Im) : Rc := ⟨9, k, [i]⟩
def enOf (k at_ : Nat) (i : Im) : En := ⟨k, at_, 3, str (recL (rcI k i)), false⟩
def lg0 : Lg := Lg.new 1 9 1
def lg1 (i : Im) : Lg := { lg0 with live := [enOf 1 0 i], at_ := 3, next := 2 }
def lg2 (i j : Im) : Lg := { lg0 with live := [enOf 1 0 i, enOf 2 3 j], at_ := 6, next := 3 }
theorem wrong_one {ep k : Nat} (he : ep ≠ 0) (hk : k ≠ 0) (i : Im) : (Rc.mk ep k [i]).wrongE = if i.right then 0 else 1 := by
  unfold Rc.wrongE
  rw [if_neg (by simp [he, hk])]
  by_cases hr : i.right
  · rw [if_pos hr, if_neg, if_neg (by simp)]
    simp only [List.mem_singleton, rise]
    rintro (⟨i, rfl, h⟩ | h)
    · exact h hr
    · exact absurd h (by decide)
  · rw [if_neg hr, if_pos (.inl ⟨i, List.mem_singleton.2 rfl, hr⟩)]
theorem rcI_ok {k : Nat} (hk : k ≠ 0) {i : Im} (hr : i.right) : (Rc.mk 9 k [i]).wrongE = 0 := by rw [wrong_one (by decide) hk, if_pos hr]
theorem secs_one : secsOf ((1 : Nat) : Int) = 3 := by rw [secs_pos (by decide) (by decide)]
theorem recL_one (k : Nat) (i : Im) : (recL (rcI k i)).length = 192 := by
  rw [recL_len]
  show secsOf ((1 : Nat) : Int) * 64 = 192
  rw [secs_one]
theorem entry_size (k at_ : Nat) (i : Im) : (enOf k at_ i).bytes.size = 192 := by
  show (str _).size = 192
  rw [str_size, recL_one]
theorem addE_ok {g : Lg} {i : Im} (hb : g.broken = false) (hw : (Rc.mk g.epoch g.next [i]).wrongE = 0) : g.addE [i] = if 7 < 3 + g.used then 10 else 0 := by
  unfold Lg.addE
  rw [hb, if_neg (by decide), hw, if_neg (by decide), if_neg (by show ¬ 1 < 1; decide)]
  show (if 7 < secsOf ((1 : Nat) : Int) + g.used then (10 : Int) else 0) = _
  rw [secs_one]
theorem addG_ok {g : Lg} {i : Im} (hb : g.broken = false) (hw : (Rc.mk g.epoch g.next [i]).wrongE = 0) (hu : ¬ 7 < 3 + g.used) :
    g.addG [i] = { g with live := g.live ++ [⟨g.next, g.at_, 3, str (recL ⟨g.epoch, g.next, [i]⟩), false⟩], at_ := (g.at_ + 3) % 7, next := (g.next + 1) % 18446744073709551616 } := by
  have e := addE_ok hb hw
  rw [if_neg hu] at e
  unfold Lg.addG
  rw [if_neg (by rw [e]; decide)]
  unfold Lg.entry Rc.putS
  rw [if_pos hw]
  have : secsOf (([i] : List Im).length : Int) = 3 := secs_one
  rw [this]
section
variable {i j x : Im} (hi : i.right) (hj : j.right) (hx : x.right)
include hi in
theorem add0 : lg0.addE [i] = 0 ∧ lg0.addG [i] = lg1 i := by
  have hw : (Rc.mk lg0.epoch lg0.next [i]).wrongE = 0 := rcI_ok (k := 1) (by decide) hi
  have hu : ¬ 7 < 3 + lg0.used := show ¬ 7 < 3 + 0 by decide
  have h1 := addE_ok rfl hw
  rw [if_neg hu] at h1
  exact ⟨h1, (addG_ok rfl hw hu).trans rfl⟩
include hj in
theorem add1 : (lg1 i).addE [j] = 0 ∧ (lg1 i).addG [j] = lg2 i j := by
  have hw : (Rc.mk (lg1 i).epoch (lg1 i).next [j]).wrongE = 0 := rcI_ok (k := 2) (by decide) hj
  have hu : ¬ 7 < 3 + (lg1 i).used := show ¬ 7 < 3 + 3 by decide
  have h1 := addE_ok rfl hw
  rw [if_neg hu] at h1
  exact ⟨h1, (addG_ok rfl hw hu).trans rfl⟩
include hx in
theorem add2 : (lg2 i j).addE [x] = 10 ∧ (lg2 i j).addG [x] = lg2 i j := by
  have hw : (Rc.mk (lg2 i j).epoch (lg2 i j).next [x]).wrongE = 0 := rcI_ok (k := 3) (by decide) hx
  have hu : 7 < 3 + (lg2 i j).used := show 7 < 3 + 6 by decide
  have h1 := addE_ok rfl hw
  rw [if_pos hu] at h1
  refine ⟨h1, ?_⟩
  unfold Lg.addG
  rw [if_pos (by rw [h1]; decide)]
end
section
variable {D : Dk} {k t1 t2 ls : Nat} {h l1 l2 l3 : List UInt8} {f : Nat → Im}
theorem View.openV (v : View D k 9 t2 ls h l1 l2 l3 f) : (D.lhead lg0 ⟨9, 1, 0⟩).1 = 0 ∧ View (D.lhead lg0 ⟨9, 1, 0⟩).2 (k + 1) 9 t2 ls hd9 l1 l2 l3 f := by
  have e := (lhead_ok v.calm (g := lg0) (by decide) v.t1 (by decide) (by decide) hd9_ok).1
  rw [e]
  refine ⟨rfl, ?_⟩
  have := (v.headW (n := 1) (by omega) v.t1 (by decide) (h' := hd9) (headL_len _)).2
  exact this.settle (1 : Nat)
theorem ens1 (i : Im) : Ens (lg1 i).live := by
  intro x hx
  rw [List.mem_singleton.1 (show x ∈ [enOf 1 0 i] from hx)]
  exact ⟨show 0 < 7 by decide, show 3 ≤ 7 by decide, fun _ => entry_size 1 0 i⟩
theorem ens2 (i j : Im) : Ens (lg2 i j).live := by
  intro y hy
  rcases List.mem_cons.1 (show y ∈ [enOf 1 0 i, enOf 2 3 j] from hy) with rfl | hy
  · exact ⟨show 0 < 7 by decide, show 3 ≤ 7 by decide, fun _ => entry_size 1 0 i⟩
  · rw [List.mem_singleton.1 hy]
    exact ⟨show 3 < 7 by decide, show 3 ≤ 7 by decide, fun _ => entry_size 2 3 j⟩
theorem View.sync0 (D : Dk) : syncR D lg0 = ⟨0, 0, D, lg0⟩ := rfl
theorem wr_done {D : Dk} {g : Lg} {n : Nat} {k : Nat} : wrGo [] k n D g = ⟨n, 0, D, g⟩ := rfl
theorem View.put1 (v : View D k 9 t2 ls h l1 l2 l3 f) {g : Lg} (h1 : g.node = 1) (h2 : g.epoch = 9) (h3 : g.base = 1) (i : Im) : (D.put_ g (enOf 1 0 i)).1 = 0 ∧ View (D.put_ g (enOf 1 0 i)).2 (k + 3) 9 t2 ls h (recL (rcI 1 i)) l2 l3 f := by
  have e := (put_one v.calm (g := g) (by omega) (by rw [h1, h2]; exact v.t1) (by omega) (by omega) (x := enOf 1 0 i) rfl (Nat.zero_le _) (entry_size 1 0 i)).1
  rw [e, h1, h3]
  exact ⟨rfl, v.recA (n := 1) (by omega) v.t1 (by decide) (recL_one 1 i)⟩
theorem View.put2 (v : View D k 9 t2 ls h l1 l2 l3 f) {g : Lg} (h1 : g.node = 1) (h2 : g.epoch = 9) (h3 : g.base = 1) (j : Im) : (D.put_ g (enOf 2 3 j)).1 = 0 ∧ View (D.put_ g (enOf 2 3 j)).2 (k + 3) 9 t2 ls h l1 (recL (rcI 2 j)) l3 f := by
  have e := (put_one v.calm (g := g) (by omega) (by rw [h1, h2]; exact v.t1) (by omega) (by omega) (x := enOf 2 3 j) rfl (show 3 ≤ 4 by decide) (entry_size 2 3 j)).1
  rw [e, h1, h3]
  exact ⟨rfl, v.recB (n := 1) (by omega) v.t1 (by decide) (recL_one 2 j)⟩
/-- Sync, where Write has written something -/
theorem View.syncW {g G : Lg} {n : Nat} {E : Dk} (hw : writeR D g = ⟨n, 0, E, G⟩) (v : View E k 9 t2 ls h l1 l2 l3 f) (h1 : G.node = 1) (h2 : G.epoch = 9) (h3 : G.synced < G.written) : (syncR D g).e = 0 ∧ View (syncR D g).D k 9 t2 ls h l1 l2 l3 f := by
  obtain ⟨b1, b2⟩ := v.barrier (n := 1) (by omega) v.t1 (by decide)
  have e : syncR D g = ⟨0, 0, (E.barrier (1 : Nat) 9).2, { G with synced := G.written }⟩ := by
    unfold syncR
    rw [hw]
    simp only
    rw [h1, h2, if_neg (by decide), if_neg (by omega), if_neg (by rw [b1]; decide)]
  rw [e]
  exact ⟨rfl, b2⟩
theorem View.sync1 (v : View D k 9 t2 ls h l1 l2 l3 f) (i : Im) : (syncR D (lg1 i)).e = 0 ∧ View (syncR D (lg1 i)).D (k + 3) 9 t2 ls h (recL (rcI 1 i)) l2 l3 f := by
  obtain ⟨p1, p2⟩ := v.put1 (g := lg1 i) rfl rfl rfl i
  have hw : writeR D (lg1 i) = ⟨1, 0, (D.put_ (lg1 i) (enOf 1 0 i)).2, (lg1 i).wrote 0 (enOf 1 0 i)⟩ := by
    show wrGo [enOf 1 0 i] 0 0 D (lg1 i) = _
    rw [wrGo_false rfl, if_neg (by rw [p1]; decide), wr_done]
  exact View.syncW hw p2 rfl rfl (show (0 : Nat) < 1 by decide)
theorem wr_two {D : Dk} {g : Lg} {x y : En} (hl : g.live = [x, y]) (hb : g.broken = false) (hx : x.written = false) (hy : y.written = false) (p1 : (D.put_ g x).1 = 0) (q1 : ((D.put_ g x).2.put_ (g.wrote 0 x) y).1 = 0) :
    writeR D g = ⟨2, 0, ((D.put_ g x).2.put_ (g.wrote 0 x) y).2, (g.wrote 0 x).wrote 1 y⟩ := by
  unfold writeR Lg.mayE
  rw [hb, if_neg (by decide), hl, wrGo_false hx, if_neg (by rw [p1]; decide), wrGo_false hy, if_neg (by rw [q1]; decide), wr_done]
theorem View.sync2 (v : View D k 9 t2 ls h l1 l2 l3 f) (i j : Im) : (syncR D (lg2 i j)).e = 0 ∧ View (syncR D (lg2 i j)).D (k + 6) 9 t2 ls h (recL (rcI 1 i)) (recL (rcI 2 j)) l3 f := by
  have h1 : (lg2 i j).node = 1 := rfl
  have h2 : (lg2 i j).epoch = 9 := rfl
  have h3 : (lg2 i j).base = 1 := rfl
  have h4 : (lg2 i j).live = [enOf 1 0 i, enOf 2 3 j] := rfl
  have h5 : (lg2 i j).broken = false := rfl
  have h6 : (lg2 i j).synced = 0 := rfl
  generalize lg2 i j = g at h1 h2 h3 h4 h5 h6 ⊢
  obtain ⟨p1, p2⟩ := v.put1 h1 h2 h3 i
  have x1 : (g.wrote 0 (enOf 1 0 i)).node = 1 := h1
  have x2 : (g.wrote 0 (enOf 1 0 i)).epoch = 9 := h2
  have x3 : (g.wrote 0 (enOf 1 0 i)).base = 1 := h3
  obtain ⟨q1, q2⟩ := p2.put2 x1 x2 x3 j
  have hw := wr_two h4 h5 rfl rfl p1 q1
  have y1 : ((g.wrote 0 (enOf 1 0 i)).wrote 1 (enOf 2 3 j)).node = 1 := h1
  have y2 : ((g.wrote 0 (enOf 1 0 i)).wrote 1 (enOf 2 3 j)).epoch = 9 := h2
  have y3 : ((g.wrote 0 (enOf 1 0 i)).wrote 1 (enOf 2 3 j)).synced < ((g.wrote 0 (enOf 1 0 i)).wrote 1 (enOf 2 3 j)).written := by
    show g.synced < 2
    omega
  exact View.syncW hw (q2.mono (by omega)) y1 y2 y3
/-- what Scan finds -/
theorem View.scan (v : View D k t1 t2 ls hd9 l1 l2 l3 f) : D.scan 1 = scanL 9 10 1 (str (l1 ++ l2 ++ l3)) ∧ D.scanE 1 = 0 ∧ D.headE 1 = 0 ∧ D.headI 1 = true ∧ (D.headH 1).epoch = 9 := by
  obtain ⟨_, h2, h3, h4⟩ := head_of v.calm.live (h := ⟨9, 1, 0⟩) hd9_ok (by decide) (by decide) (by decide) v.head
  obtain ⟨r1, r2⟩ := v.calm.read (at_ := 2) (n := 7) (by omega) (by omega) (by omega)
  have hl : D.readL 2 7 = l1 ++ l2 ++ l3 := by
    have a1 := readL_add D 2 3 4
    have a2 := readL_add D 5 3 1
    have b2 : D.readL 5 4 = l2 ++ l3 := by rw [← v.l2, ← v.l3]; exact a2
    have b1 : D.readL 2 7 = l1 ++ D.readL 5 4 := by rw [← v.l1]; exact a1
    rw [b1, b2, List.append_assoc]
  have hr : D.readE ((logAt 1).1 + 1) 7 = 0 := r1
  refine ⟨?_, ?_, h4, h3, by rw [h2]⟩
  · unfold Dk.scan
    rw [if_neg (by rw [h4, h3, hr]; decide), h2]
    have e : D.readS ((logAt 1).1 + 1) 7 = str (l1 ++ l2 ++ l3) := by rw [← hl]; exact r2
    rw [e]
    have : rotS (str (l1 ++ l2 ++ l3)) (Int.toNat (⟨9, 1, 0⟩ : Hd).at_ * 64) = str (l1 ++ l2 ++ l3) := by
      show rotS (str (l1 ++ l2 ++ l3)) 0 = _
      unfold rotS
      rw [extract_str, extract_str, str_size, List.drop_zero, List.take_of_length_le (Nat.le_refl _), List.take_zero, List.drop_zero]
      refine ByteArray.ext ?_
      apply Array.toList_inj.1
      simp
      rfl
    rw [this]
  · unfold Dk.scanE
    rw [if_neg (by rw [h4]; decide), if_neg (by rw [h3]; decide)]
    exact hr
end
theorem zer_split (n : Nat) (h : 64 ≤ n) (r : List UInt8) : zer n ++ r = zer 64 ++ (zer (n - 64) ++ r) := by
  rw [← List.append_assoc, zer_app]
  congr 2
  omega
theorem scan_zero (ep lsn f n : Nat) (hn : 64 ≤ n) (r : List UInt8) : scanL ep (f + 1) lsn (str (zer n ++ r)) = [] := by
  rw [zer_split n hn r]
  exact scanL_end (get_zero _)
theorem rcI_Good {k : Nat} (hk : k ≠ 0) (hk2 : k < 100) {i : Im} (hr : i.right) (hv : i.ver < 18446744073709551616) : (rcI k i).Good := ⟨rcI_ok hk hr, show (9 : Nat) < 18446744073709551616 by decide, by show k < _; omega, fun x hx => by rw [List.mem_singleton.1 (show x ∈ [i] from hx)]; exact hv⟩
theorem scan_nil : scanL 9 10 1 (str (zer 192 ++ zer 192 ++ zer 64)) = [] := by
  rw [List.append_assoc]
  exact scan_zero 9 1 9 192 (by decide) _
theorem mod_two : (1 + 1) % 18446744073709551616 = 2 := by decide
theorem mod_three : (2 + 1) % 18446744073709551616 = 3 := by decide
theorem scan_one {i : Im} (hi : i.right) (hv : i.ver < 18446744073709551616) : scanL 9 10 1 (str (recL (rcI 1 i) ++ zer 192 ++ zer 64)) = [rcI 1 i] := by
  rw [List.append_assoc, scanL_one (ep := 9) (lsn := 1) (f := 9) (rcI_Good (k := 1) (by decide) (by decide) hi hv) rfl rfl, mod_two, scan_zero 9 2 8 192 (by decide) _]
theorem scan_two {i j : Im} (hi : i.right) (hv : i.ver < 18446744073709551616) (hj : j.right) (hu : j.ver < 18446744073709551616) : scanL 9 10 1 (str (recL (rcI 1 i) ++ recL (rcI 2 j) ++ zer 64)) = [rcI 1 i, rcI 2 j] := by
  have h0 := scan_zero 9 3 7 64 (by decide) []
  rw [List.append_nil] at h0
  rw [List.append_assoc, scanL_one (ep := 9) (lsn := 1) (f := 9) (rcI_Good (k := 1) (by decide) (by decide) hi hv) rfl rfl, mod_two, scanL_one (ep := 9) (lsn := 2) (f := 8) (rcI_Good (k := 2) (by decide) (by decide) hj hu) rfl rfl, mod_three, h0]
/-- images that are newer are taken -/
def takeIm (f : Nat → Im) (i : Im) : Nat → Im := if i.ver ≤ (f i.block.toNat).ver then f else setIm f i.block.toNat i
def appF (f : Nat → Im) (l : List Im) : Nat → Im := l.foldl takeIm f
def appN : (Nat → Im) → List Im → Nat
  | _, [] => 0
  | f, i :: l => (if i.ver ≤ (f i.block.toNat).ver then 0 else 1) + appN (takeIm f i) l
section
variable {k t1 e ls : Nat} {h l1 l2 l3 : List UInt8}
theorem View.apply (h0 : e ≠ 0) : ∀ (l : List Im) (n k : Nat) (D : Dk) (f : Nat → Im), View D k t1 e ls h l1 l2 l3 f → (∀ i ∈ l, i.right ∧ i.ver < 18446744073709551616 ∧ i.block ≤ 9) →
    (applyGo (2 : Nat) e l n D).e = 0 ∧ (applyGo (2 : Nat) e l n D).n = n + appN f l ∧ View (applyGo (2 : Nat) e l n D).D (k + 2 * l.length) t1 e ls h l1 l2 l3 (appF f l)
  | [], n, k, D, f, v, _ => ⟨rfl, rfl, v⟩
  | i :: l, n, k, D, f, v, hl => by
    obtain ⟨hr, hv, hb⟩ := hl i (List.mem_cons_self ..)
    have hr0 := hr.1
    have hbt : ((i.block.toNat : Nat) : Int) = i.block := by omega
    have hb9 : i.block.toNat ≤ 9 := by omega
    have hld := v.blk i.block.toNat hb9
    rw [hbt] at hld
    rw [apply_one hld]
    by_cases hx : i.ver ≤ (f i.block.toNat).ver
    · obtain ⟨g1, g2, g3⟩ := View.apply h0 l n k D f v (fun j hj => hl j (List.mem_cons_of_mem _ hj))
      rw [if_pos hx]
      have e1 : takeIm f i = f := if_pos hx
      refine ⟨g1, ?_, ?_⟩
      · rw [g2]
        show n + appN f l = n + ((if i.ver ≤ (f i.block.toNat).ver then 0 else 1) + appN (takeIm f i) l)
        rw [if_pos hx, e1, Nat.zero_add]
      · show View _ _ _ _ _ _ _ _ _ (l.foldl takeIm (takeIm f i))
        rw [e1]
        exact g3.mono (by rw [List.length_cons]; omega)
    · obtain ⟨s1, s2⟩ := v.store (n := 2) (by omega) v.t2 h0 hr hv hb9 hbt.symm
      rw [if_neg hx, if_neg (by rw [s1]; decide)]
      obtain ⟨g1, g2, g3⟩ := View.apply h0 l (n + 1) (k + 2) _ _ s2 (fun j hj => hl j (List.mem_cons_of_mem _ hj))
      have e1 : takeIm f i = setIm f i.block.toNat i := if_neg hx
      refine ⟨g1, ?_, ?_⟩
      · rw [g2]
        show n + 1 + appN _ l = n + ((if i.ver ≤ (f i.block.toNat).ver then 0 else 1) + appN (takeIm f i) l)
        rw [if_neg hx, e1]
        omega
      · show View _ _ _ _ _ _ _ _ _ (l.foldl takeIm (takeIm f i))
        rw [e1]
        exact g3.mono (by rw [List.length_cons]; omega)
theorem View.applyAll {D : Dk} {f : Nat → Im} (v : View D k t1 e ls h l1 l2 l3 f) (h0 : e ≠ 0) {l : List Im} (hl : ∀ i ∈ l, i.right ∧ i.ver < 18446744073709551616 ∧ i.block ≤ 9) :
    (applyR D (2 : Nat) e l).e = 0 ∧ (applyR D (2 : Nat) e l).n = appN f l ∧ View (applyR D (2 : Nat) e l).D (k + 2 * l.length) t1 e ls h l1 l2 l3 (appF f l) := by
  obtain ⟨g1, g2, g3⟩ := View.apply h0 l 0 k D f v hl
  rw [Nat.zero_add] at g2
  unfold applyR
  generalize applyGo (2 : Nat) e l 0 D = A at g1 g2 g3
  obtain ⟨n, er, E⟩ := A
  simp only at g1 g2 g3 ⊢
  subst g1 g2
  rw [if_neg (by decide)]
  by_cases hn : appN f l = 0
  · rw [if_pos hn]
    exact ⟨rfl, rfl, g3⟩
  · rw [if_neg hn]
    obtain ⟨b1, b2⟩ := g3.barrier (n := 2) (by omega) g3.t2 h0
    rw [if_neg (by rw [b1]; decide)]
    exact ⟨rfl, rfl, b2⟩
/-- Run, where Plan tells l -/
theorem View.run {D : Dk} {f : Nat → Im} (v : View D k t1 e ls hd9 l1 l2 l3 f) (h0 : e ≠ 0) {l : List Im} (hp : planOf (scanL 9 10 1 (str (l1 ++ l2 ++ l3))) = l) (hl : ∀ i ∈ l, i.right ∧ i.ver < 18446744073709551616 ∧ i.block ≤ 9) :
    (runR D 1 9 (2 : Nat) e).e = 0 ∧ (runR D 1 9 (2 : Nat) e).n = appN f l ∧ View (runR D 1 9 (2 : Nat) e).D (k + 2 * l.length + 1) t1 e ls (zer 64) l1 l2 l3 (appF f l) := by
  obtain ⟨c1, c2, c3, c4, c5⟩ := v.scan
  obtain ⟨a1, a2, a3⟩ := v.applyAll h0 hl
  unfold runR
  rw [c1, hp, c2, c3, c4, c5, if_neg (by decide), if_neg (by decide), if_neg (by decide)]
  generalize applyR D (2 : Nat) e l = A at a1 a2 a3
  obtain ⟨n, er, E⟩ := A
  simp only at a1 a2 a3 ⊢
  subst a1 a2
  rw [if_neg (by decide)]
  obtain ⟨w1, w2⟩ := a3.headW (n := 2) (by omega) a3.t2 h0 (h' := zer 64) (zer_len 64)
  have w1' : E.write (2 : Nat) e (logAt 1).1 (str (zer 64)) = (0, E.writeN (2 : Nat) 1 (str (zer 64)) 1) := w1
  rw [w1', if_neg (by simp)]
  obtain ⟨b1, b2⟩ := w2.barrier (n := 2) (by omega) w2.t2 h0
  rw [if_neg (by rw [b1]; decide)]
  exact ⟨rfl, rfl, b2⟩
end
end Go.Proofs.YtcmneekdajnnaaaGreatDoor

/- A disk whose power may go: what lasts, what waits, what a cut leaves. -/
namespace Go.Proofs.YtcmneekdajnnaaaGreatDoor
open Go.RowKit

/-- writes laid over what lasts -/
def over (f : Int → Option ByteArray) (l : List Ws) : Int → Option ByteArray := l.foldl (fun g x => upd g x.at_ x.data) f
theorem over_add (f : Int → Option ByteArray) (l : List Ws) (x : Ws) : over f (l ++ [x]) = upd (over f l) x.at_ x.data := by
  unfold over
  rw [List.foldl_append]
  rfl
/-- numbers that rise, from s to t -/
def Chain : Int → List Ws → Int → Prop
  | s, [], t => s ≤ t
  | s, x :: l, t => s < x.seq ∧ Chain x.seq l t
theorem Chain.le : ∀ {l : List Ws} {s t : Int}, Chain s l t → s ≤ t ∧ ∀ x ∈ l, x.seq ≤ t
  | [], _, _, h => ⟨h, (fun x hx => by cases hx)⟩
  | x :: l, s, t, h => by
    obtain ⟨h1, h2⟩ := h
    obtain ⟨a, b⟩ := h2.le
    refine ⟨by omega, fun y hy => ?_⟩
    rcases List.mem_cons.1 hy with rfl | hy
    · exact a
    · exact b y hy
theorem Chain.add : ∀ {l : List Ws} {s t : Int} {x : Ws}, Chain s l t → t < x.seq → Chain s (l ++ [x]) x.seq
  | [], _, _, _, h, hx => ⟨Int.lt_of_le_of_lt h hx, Int.le_refl _⟩
  | _ :: _, _, _, _, h, hx => ⟨h.1, h.2.add hx⟩
def lastD (D : Dk) : Int → Option ByteArray := fun k => (D.lasts k).map (fun x : Ws => x.data)
/-- what waits is node n's; what is read is what waits, laid over what lasts; numbers rise -/
structure Sane (D : Dk) (n : Int) : Prop where
  nodes : ∀ x ∈ D.waits, x.node = n
  now : D.now = over (lastD D) D.waits
  chain : ∃ s0 : Int, 0 ≤ s0 ∧ (∀ k x, D.lasts k = some x → x.seq ≤ s0) ∧ Chain s0 D.waits D.seq
theorem keeps_over : ∀ (l : List Ws) (D : Dk) (s t : Int), 0 ≤ s → (∀ k x, D.lasts k = some x → x.seq ≤ s) → Chain s l t →
    lastD (l.foldl Dk.keep D) = over (lastD D) l ∧ ∀ k x, (l.foldl Dk.keep D).lasts k = some x → x.seq ≤ t
  | [], D, s, t, _, hl, hc => ⟨rfl, fun k x h => Int.le_trans (hl k x h) hc⟩
  | x :: l, D, s, t, h0, hl, hc => by
    obtain ⟨h1, h2⟩ := hc
    have hk : D.keep x = { D with lasts := upd D.lasts x.at_ x } := by
      unfold Dk.keep
      rw [if_pos]
      cases hx : D.lasts x.at_ with
      | none => show (0 : Int) < x.seq; omega
      | some y => have := hl _ _ hx; show y.seq < x.seq; omega
    have hd : lastD (D.keep x) = upd (lastD D) x.at_ x.data := by
      rw [hk]
      funext k
      show (upd D.lasts x.at_ x k).map (fun x : Ws => x.data) = _
      unfold upd lastD
      split <;> rfl
    have hl2 : ∀ k y, (D.keep x).lasts k = some y → y.seq ≤ x.seq := by
      rw [hk]
      intro k y hy
      have hy : upd D.lasts x.at_ x k = some y := hy
      unfold upd at hy
      split at hy
      · injection hy with hy
        rw [hy]
        exact Int.le_refl _
      · have := hl k y hy
        omega
    obtain ⟨a, b⟩ := keeps_over l (D.keep x) x.seq t (by omega) hl2 h2
    refine ⟨?_, b⟩
    show lastD (l.foldl Dk.keep (D.keep x)) = over (upd (lastD D) x.at_ x.data) l
    rw [a, hd]
section
variable {D : Dk} {n : Int} {A : Int → ByteArray → Prop}
theorem Sane.settle (h : Sane D n) (m : Int) : Sane (D.settle n) m ∧ (D.settle n).waits = [] ∧ lastD (D.settle n) = D.now := by
  obtain ⟨s0, h0, hl, hc⟩ := h.chain
  have e1 : D.waits.filter (fun x => x.node = n) = D.waits := List.filter_eq_self.2 (fun x hx => decide_eq_true (h.nodes x hx))
  have e2 : D.waits.filter (fun x => ¬ x.node = n) = [] := List.filter_eq_nil_iff.2 (fun x hx => by simp [h.nodes x hx])
  obtain ⟨a, b⟩ := keeps_over D.waits D s0 D.seq h0 hl hc
  have e3 : D.settle n = { D.waits.foldl Dk.keep D with waits := [] } := by
    unfold Dk.settle
    rw [e1, e2]
  have hw : (D.settle n).waits = [] := by rw [e3]
  have hq : (D.settle n).seq = D.seq := (settle_same D n).2.2.2.2.2.2
  have hd : lastD (D.settle n) = D.now := by
    rw [e3]
    exact a.trans h.now.symm
  refine ⟨⟨by rw [hw]; simp, ?_, D.seq, by omega, ?_, ?_⟩, hw, hd⟩
  · rw [settle_now, hw, hd]
    rfl
  · rw [e3]
    exact b
  · rw [hw, hq]
    exact Int.le_refl _
theorem Sane.any (h : Sane D n) (hw : D.waits = []) (m : Int) : Sane D m := ⟨by rw [hw]; simp, h.now, h.chain⟩
theorem Sane.write1 (h : Sane D n) (a : Int) (s : ByteArray) : Sane (D.write1 n a s) n := by
  obtain ⟨s0, h0, hl, hc⟩ := h.chain
  refine ⟨fun x hx => ?_, ?_, s0, h0, hl, ?_⟩
  · have hx : x ∈ D.waits ++ [⟨n, a, (D.seq + 1 : Nat), s⟩] := hx
    rcases List.mem_append.1 hx with hx | hx
    · exact h.nodes x hx
    · rw [List.mem_singleton.1 hx]
  · show upd D.now a s = over (lastD D) (D.waits ++ [⟨n, a, (D.seq + 1 : Nat), s⟩])
    rw [over_add, ← h.now]
  · exact hc.add (x := ⟨n, a, (D.seq + 1 : Nat), s⟩) (show (D.seq : Int) < ((D.seq + 1 : Nat) : Int) by omega)
theorem Sane.writeN (h : Sane D n) (a : Int) (data : ByteArray) : ∀ m, Sane (D.writeN n a data m) n
  | 0 => h
  | m + 1 => (Sane.writeN h a data m).write1 _ _
def lsec (D : Dk) (k : Int) : ByteArray := (lastD D k).getD (str (zer 64))
/-- what lasts, and what waits, is allowed -/
structure Safe (D : Dk) (A : Int → ByteArray → Prop) : Prop where
  last : ∀ k, A k (lsec D k)
  wait : ∀ x ∈ D.waits, A x.at_ x.data
theorem over_safe : ∀ (l : List Ws) (f : Int → Option ByteArray), (∀ k, A k ((f k).getD (str (zer 64)))) → (∀ x ∈ l, A x.at_ x.data) → ∀ k, A k ((over f l k).getD (str (zer 64)))
  | [], _, hf, _ => hf
  | x :: l, f, hf, hl => over_safe l (upd f x.at_ x.data) (fun k => by
      unfold upd
      split
      · rename_i hk
        rw [hk]
        exact hl x (List.mem_cons_self ..)
      · exact hf k) (fun y hy => hl y (List.mem_cons_of_mem _ hy))
theorem Safe.sec (h : Safe D A) (hs : Sane D n) (k : Int) : A k (D.sec k) := by
  unfold Dk.sec
  rw [hs.now]
  exact over_safe D.waits (lastD D) h.last h.wait k
theorem lsec_sec (hs : Sane D n) (hw : D.waits = []) (k : Int) : lsec D k = D.sec k := by
  unfold lsec Dk.sec
  rw [hs.now, hw]
  rfl
theorem safe_of_sec (hs : Sane D n) (hw : D.waits = []) (h : ∀ k, A k (D.sec k)) : Safe D A := ⟨fun k => by rw [lsec_sec hs hw]; exact h k, by rw [hw]; simp⟩
theorem Safe.settle (h : Safe D A) (hs : Sane D n) : Safe (D.settle n) A := by
  obtain ⟨a, b, _⟩ := hs.settle n
  refine safe_of_sec a b (fun k => ?_)
  rw [settle_sec]
  exact h.sec hs k
theorem Safe.write1 (h : Safe D A) {a : Int} {s : ByteArray} (ha : A a s) : Safe (D.write1 n a s) A := by
  refine ⟨h.last, fun x hx => ?_⟩
  have hx : x ∈ D.waits ++ [⟨n, a, (D.seq + 1 : Nat), s⟩] := hx
  rcases List.mem_append.1 hx with hx | hx
  · exact h.wait x hx
  · rw [List.mem_singleton.1 hx]
    exact ha
theorem Safe.writeN (h : Safe D A) {a : Int} {data : ByteArray} : ∀ m : Nat, (∀ j : Nat, j < m → A (a + j) (sect data j)) → Safe (D.writeN n a data m) A
  | 0, _ => h
  | m + 1, hm => (Safe.writeN h m (fun j hj => hm j (by omega))).write1 (hm m (by omega))
theorem cutN_lasts (keep : List Int) (k : Int) (x : Ws) : ∀ m, (D.cutN keep m).lasts k = some x → D.lasts k = some x ∨ (x ∈ D.waits ∧ x.at_ = k)
  | 0, h => .inl h
  | m + 1, h => by
    unfold Dk.cutN at h
    cases hx : D.waits[m]? with
    | none =>
      rw [hx] at h
      exact cutN_lasts keep k x m h
    | some y =>
      rw [hx] at h
      simp only at h
      split at h
      · unfold Dk.keep at h
        split at h
        · have h : upd (D.cutN keep m).lasts y.at_ y k = some x := h
          unfold upd at h
          split at h
          · rename_i hk
            injection h with h
            subst h
            exact .inr ⟨List.mem_of_getElem? hx, hk.symm⟩
          · exact cutN_lasts keep k x m h
        · exact cutN_lasts keep k x m h
      · exact cutN_lasts keep k x m h
theorem cutN_none (keep : List Int) (k : Int) : ∀ m, (D.cutN keep m).lasts k = none → D.lasts k = none
  | 0, h => h
  | m + 1, h => by
    unfold Dk.cutN at h
    cases hx : D.waits[m]? with
    | none =>
      rw [hx] at h
      exact cutN_none keep k m h
    | some y =>
      rw [hx] at h
      simp only at h
      split at h
      · unfold Dk.keep at h
        split at h
        · have h : upd (D.cutN keep m).lasts y.at_ y k = none := h
          unfold upd at h
          split at h
          · cases h
          · exact cutN_none keep k m h
        · exact cutN_none keep k m h
      · exact cutN_none keep k m h
/-- what a cut leaves -/
theorem cut_leaves (h : Sane D n) (hs : Safe D A) (hon : D.on = true) (keep : List Int) (m : Int) : Sane (D.cut keep).2 m ∧ Safe (D.cut keep).2 A ∧ (D.cut keep).2.waits = [] := by
  have e : (D.cut keep).2 = ((D.arm (-1) []).cutN keep D.waits.length).off := by
    unfold Dk.cut
    rw [if_neg (by rw [hon]; decide)]
  obtain ⟨s0, h0, hl, hc⟩ := h.chain
  obtain ⟨c1, c2⟩ := hc.le
  have hq : ((D.arm (-1) []).cutN keep D.waits.length).seq = D.seq := (cutN_same (D.arm (-1) []) keep D.waits.length).2.1
  have hla : ∀ k x, ((D.arm (-1) []).cutN keep D.waits.length).lasts k = some x → D.lasts k = some x ∨ (x ∈ D.waits ∧ x.at_ = k) := fun k x => cutN_lasts (D := D.arm (-1) []) keep k x _
  rw [e]
  have hln : ∀ k, ((D.arm (-1) []).cutN keep D.waits.length).lasts k = none → D.lasts k = none := fun k => cutN_none (D := D.arm (-1) []) keep k _
  generalize (D.arm (-1) []).cutN keep D.waits.length = E at hq hla hln
  have hsa : Sane E.off m := by
    refine ⟨(fun x hx => by cases hx), rfl, D.seq, by omega, fun k x hx => ?_, ?_⟩
    · rcases hla k x hx with hx | ⟨hx, _⟩
      · have := hl k x hx
        omega
      · exact c2 x hx
    · show (D.seq : Int) ≤ (E.seq : Int)
      rw [hq]
      exact Int.le_refl _
  refine ⟨hsa, ⟨fun k => ?_, fun x hx => by cases hx⟩, rfl⟩
  show A k (((E.lasts k).map (fun x : Ws => x.data)).getD (str (zer 64)))
  cases hE : E.lasts k with
  | none =>
    have := hs.last k
    unfold lsec lastD at this
    rw [hln k hE] at this
    exact this
  | some x =>
    rcases hla k x hE with hx | ⟨hx, hk⟩
    · have := hs.last k
      unfold lsec lastD at this
      rw [hx] at this
      exact this
    · have := hs.wait x hx
      rw [hk] at this
      exact this
end
end Go.Proofs.YtcmneekdajnnaaaGreatDoor

/- A log that is done again, wherever the power goes: each sector holds what it held, or what is to be there. -/
namespace Go.Proofs.YtcmneekdajnnaaaGreatDoor
open Go.RowKit

/-- on; node 2 is admitted; what lasts, and what waits, is allowed -/
structure Run2 (D : Dk) (e : Nat) (A : Int → ByteArray → Prop) : Prop where
  on : D.on = true
  sectors : D.sectors = 37
  t2 : D.table 2 = e
  sane : Sane D ((2 : Nat) : Int)
  safe : Safe D A
/-- the power has gone -/
structure Off2 (D : Dk) (e : Nat) (A : Int → ByteArray → Prop) : Prop where
  on : D.on = false
  sectors : D.sectors = 37
  t2 : D.table 2 = e
  sane : Sane D ((2 : Nat) : Int)
  safe : Safe D A
  waits : D.waits = []
section
variable {D : Dk} {e : Nat} {A B : Int → ByteArray → Prop}
theorem Run2.live (h : Run2 D e A) : Live D := ⟨h.on, h.sectors⟩
theorem Run2.left (h : Run2 D e A) (n : Int) : Run2 { D with left := n } e A := ⟨h.on, h.sectors, h.t2, ⟨h.sane.nodes, h.sane.now, h.sane.chain⟩, ⟨h.safe.last, h.safe.wait⟩⟩
theorem Run2.goes (h : Run2 D e A) : (∃ n, D.goes = (false, { D with left := n })) ∨ (D.armed = true ∧ D.goes.1 = true ∧ Off2 D.goes.2 e A) := by
  by_cases ha : D.armed = false
  · exact .inl ⟨D.left, goes_calm ha⟩
  · by_cases hl : 0 < D.left
    · left
      refine ⟨wrap64 (D.left - 1), ?_⟩
      unfold Dk.goes
      rw [if_neg ha, if_pos hl]
    · right
      have eg : D.goes = (true, (D.cut D.stays).2) := by
        unfold Dk.goes
        rw [if_neg ha, if_neg hl]
      obtain ⟨c1, c2, c3⟩ := cut_leaves h.sane h.safe h.on D.stays ((2 : Nat) : Int)
      obtain ⟨d1, _, d3, _, _, _, d7, _⟩ := cut_same D D.stays
      rw [eg]
      exact ⟨by cases hb : D.armed; exact absurd hb ha; rfl, rfl, d7, d1.trans h.sectors, by rw [d3]; exact h.t2, c1, c2, c3⟩
theorem Run2.may (h : Run2 D e A) : D.may ((2 : Nat) : Int) = 0 := by
  unfold Dk.may
  rw [if_neg (by rw [h.on]; decide), if_neg (by omega)]
theorem Run2.write (h : Run2 D e A) (h0 : e ≠ 0) {a : Int} {data : ByteArray} {m : Nat} (hd : data.size = m * 64) (m1 : 1 ≤ m) (m2 : m ≤ 16) (a1 : 0 ≤ a) (a2 : a + m ≤ 37) :
    (D.armed = true ∧ (D.write (2 : Nat) e a data).1 = 14 ∧ Off2 (D.write (2 : Nat) e a data).2 e A) ∨ ∃ n, D.write (2 : Nat) e a data = (0, ({ D with left := n } : Dk).writeN (2 : Nat) a data m) := by
  have hq : data.size / 64 = m := by omega
  have hr : data.size % 64 = 0 := by omega
  have hth : D.there a (data.size / 64 : Nat) = true := by
    unfold Dk.there
    rw [hq, h.sectors]
    exact decide_eq_true ⟨a1, by omega, by omega⟩
  have had : D.admits ((2 : Nat) : Int).toNat e = 0 := by
    unfold Dk.admits
    exact if_neg (by show ¬ (e = 0 ∨ D.table 2 ≠ e); simp [h0, h.t2])
  have ew : D.write (2 : Nat) e a data = if D.goes.1 = true then (14, D.goes.2) else (0, D.goes.2.writeN (2 : Nat) a data m) := by
    unfold Dk.write
    rw [if_neg (by rw [h.may]; simp), if_neg (by omega), if_neg (by rw [had]; simp), if_neg (by rw [hth]; simp), hq]
  rw [ew]
  rcases h.goes with ⟨n, hg⟩ | ⟨g1, g2, g3⟩
  · right
    rw [hg]
    exact ⟨n, if_neg (by simp)⟩
  · left
    rw [if_pos g2]
    exact ⟨g1, rfl, g3⟩
theorem Run2.barrier (h : Run2 D e A) (h0 : e ≠ 0) :
    (D.armed = true ∧ (D.barrier (2 : Nat) e).1 = 14 ∧ Off2 (D.barrier (2 : Nat) e).2 e A) ∨ ∃ n, D.barrier (2 : Nat) e = (0, ({ D with left := n } : Dk).settle (2 : Nat)) := by
  have had : D.admits ((2 : Nat) : Int).toNat e = 0 := by
    unfold Dk.admits
    exact if_neg (by show ¬ (e = 0 ∨ D.table 2 ≠ e); simp [h0, h.t2])
  have ew : D.barrier (2 : Nat) e = if D.goes.1 = true then (14, D.goes.2) else (0, D.goes.2.settle (2 : Nat)) := by
    unfold Dk.barrier
    rw [if_neg (by rw [h.may]; simp), if_neg (by rw [had]; simp)]
  rw [ew]
  rcases h.goes with ⟨n, hg⟩ | ⟨g1, g2, g3⟩
  · right
    rw [hg]
    exact ⟨n, if_neg (by simp)⟩
  · left
    rw [if_pos g2]
    exact ⟨g1, rfl, g3⟩
theorem Run2.settle (h : Run2 D e A) : Run2 (D.settle (2 : Nat)) e A ∧ (D.settle (2 : Nat)).waits = [] := by
  obtain ⟨a, b, _⟩ := h.sane.settle ((2 : Nat) : Int)
  have s := settle_same D ((2 : Nat) : Int)
  exact ⟨⟨s.1.trans h.on, s.2.2.1.trans h.sectors, by rw [(settle_tab D _).1]; exact h.t2, a, h.safe.settle h.sane⟩, b⟩
theorem Run2.wrote (h : Run2 D e A) {a : Int} {data : ByteArray} {m : Nat} (hm : ∀ j : Nat, j < m → A (a + j) (sect data j)) : Run2 (D.writeN (2 : Nat) a data m) e A := by
  have s := writeN_same D ((2 : Nat) : Int) a data m
  exact ⟨s.1.trans h.on, s.2.2.1.trans h.sectors, by rw [s.2.2.2.2.2.1]; exact h.t2, h.sane.writeN a data m, h.safe.writeN m hm⟩
theorem Run2.weak (h : Run2 D e A) (hw : D.waits = []) (hb : ∀ k, B k (D.sec k)) : Run2 D e B := ⟨h.on, h.sectors, h.t2, h.sane, safe_of_sec h.sane hw hb⟩
theorem Off2.weak (h : Off2 D e A) (hb : ∀ k v, A k v → B k v) : Off2 D e B := ⟨h.on, h.sectors, h.t2, h.sane, ⟨fun k => hb _ _ (h.safe.last k), fun x hx => hb _ _ (h.safe.wait x hx)⟩, h.waits⟩
end
/-- the images that are to be there -/
structure Wants (l : List Im) : Prop where
  ok : ∀ i ∈ l, i.right ∧ 0 < i.ver ∧ i.ver < 18446744073709551616 ∧ i.block ≤ 9
  one : l.Pairwise (fun i j => i.block ≠ j.block)
/-- the head is there, and the records; a block's sector has bytes 0, or is what it is to be -/
def A1 (l : List Im) (lg : Int → ByteArray) : Int → ByteArray → Prop := fun k v => (k = 1 → v = str hd9) ∧ (2 ≤ k → k ≤ 8 → v = lg k) ∧ ∀ i ∈ l, (k = 17 + 2 * i.block → v = str (zer 64) ∨ v = str (secL i 0)) ∧ (k = 17 + 2 * i.block + 1 → v = str (zer 64) ∨ v = str (secL i 1))
/-- each block is what it is to be; the head is there, or has bytes 0 -/
def A2 (l : List Im) (lg : Int → ByteArray) : Int → ByteArray → Prop := fun k v => (k = 1 → v = str hd9 ∨ v = str (zer 64)) ∧ (2 ≤ k → k ≤ 8 → v = lg k) ∧ ∀ i ∈ l, (k = 17 + 2 * i.block → v = str (secL i 0)) ∧ (k = 17 + 2 * i.block + 1 → v = str (secL i 1))
theorem half_ne {i : Im} (h : i.right) {k : Nat} (hk : k ≤ 1) : secL i k ≠ zer 64 := by
  intro e
  have h1 := (read_stamp (l := secT i k) (n := 64) (by rw [secT_len h hk]; omega) (by omega)).1
  have h2 : readE (secL i k) = 0 := h1
  rw [e, sum60] at h2
  exact absurd h2 (by decide)
theorem secG_at {x y : List UInt8} (hx : x.length = 64) (hy : y.length = 64) : secG (str (x ++ y)) 0 = (if readE x = 0 then (secI (readL x), 0) else (Im.zero, readE x)) ∧ secG (str (x ++ y)) 1 = (if readE y = 0 then (secI (readL y), 0) else (Im.zero, readE y)) := by
  have e0 : ((str (x ++ y)).extract (0 * 64) ((0 + 1) * 64)).data.toList = x := by
    rw [extract_str, str_list, Nat.zero_mul, List.drop_zero, List.take_append_of_le_length (by omega), List.take_of_length_le (by omega)]
  have e1 : ((str (x ++ y)).extract (1 * 64) ((1 + 1) * 64)).data.toList = y := by
    rw [extract_str, str_list, List.take_of_length_le (by rw [List.length_append]; omega), List.drop_append_of_le_length (by omega), List.drop_of_length_le (by omega), List.nil_append]
  unfold secG
  rw [e0, e1]
  exact ⟨rfl, rfl⟩
/-- a block of which one sector alone was written is torn -/
theorem torn_a {i : Im} (h : i.right) (b : Int) : getB b (str (secL i 0 ++ zer 64)) = (Im.zero, 6) := by
  have hl := secL_len h (k := 0) (by omega)
  obtain ⟨g0, g1⟩ := secG_at hl (zer_len 64)
  have hr : readE (secL i 0) = 0 := (read_stamp (l := secT i 0) (n := 64) (by rw [secT_len h (by omega)]; omega) (by omega)).1
  rw [if_pos hr] at g0
  rw [sum60, if_neg (by decide)] at g1
  unfold getB
  rw [if_neg (by rw [str_size, List.length_append, hl, zer_len]; simp), if_neg, if_neg (by rw [g0]; simp), if_pos (by rw [g1]; decide), g1]
  intro e
  have e := str_inj e
  have : zer 128 = zer 64 ++ zer 64 := (zer_app 64 64).symm
  rw [this] at e
  exact half_ne h (k := 0) (by omega) (List.append_inj_left e (by rw [hl, zer_len]))
theorem torn_b {i : Im} (h : i.right) (b : Int) : getB b (str (zer 64 ++ secL i 1)) = (Im.zero, 6) := by
  have hl := secL_len h (k := 1) (by omega)
  obtain ⟨g0, g1⟩ := secG_at (zer_len 64) hl
  rw [sum60, if_neg (by decide)] at g0
  unfold getB
  rw [if_neg (by rw [str_size, List.length_append, hl, zer_len]; simp), if_neg, if_pos (by rw [g0]; decide), g0]
  intro e
  have e := str_inj e
  have : zer 128 = zer 64 ++ zer 64 := (zer_app 64 64).symm
  rw [this] at e
  exact half_ne h (k := 1) (by omega) (List.append_inj_right e (by rw [zer_len]))
theorem sect_blk {i : Im} (h : i.right) : sect (str (blkL i)) 0 = str (secL i 0) ∧ sect (str (blkL i)) 1 = str (secL i 1) := by
  have h0 := secL_len h (k := 0) (by omega)
  have h1 := secL_len h (k := 1) (by omega)
  unfold sect blkL
  rw [extract_str, extract_str]
  constructor
  · rw [Nat.zero_mul, List.drop_zero, List.take_append_of_le_length (by omega), List.take_of_length_le (by omega)]
  · rw [List.take_of_length_le (by rw [List.length_append]; omega), List.drop_append_of_le_length (by omega), List.drop_of_length_le (by omega), List.nil_append]
end Go.Proofs.YtcmneekdajnnaaaGreatDoor
