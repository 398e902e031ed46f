/- A log that is done again, wherever the power goes: each sector holds what it held, or what is to be there. -/
import Derived.Test.YtdmjkklidnmogaaGreatDoorKEveR
import Derived.Test.YtdmjkklidnmogaaGreatDoorKEveS
namespace Go.Proofs.YtdmjkklidnmogaaGreatDoor
open Go.RowKit

/-- on; node 2 is admitted; what lasts, and what waits, is allowed -/
structure Run2 (D : Dk) (e : Nat) (A : Int → ByteArray → Prop) : Prop where
  on : D.on = true
  sectors : D.sectors = 37
  t2 : D.table 2 = e
  sane : Sane D ((2 : Nat) : Int)
  safe : Safe D A
/-- the power has gone -/
structure Off2 (D : Dk) (e : Nat) (A : Int → ByteArray → Prop) : Prop where
  on : D.on = false
  sectors : D.sectors = 37
  t2 : D.table 2 = e
  sane : Sane D ((2 : Nat) : Int)
  safe : Safe D A
  waits : D.waits = []
section
variable {D : Dk} {e : Nat} {A B : Int → ByteArray → Prop}
theorem Run2.live (h : Run2 D e A) : Live D := ⟨h.on, h.sectors⟩
theorem Run2.left (h : Run2 D e A) (n : Int) : Run2 { D with left := n } e A := ⟨h.on, h.sectors, h.t2, ⟨h.sane.nodes, h.sane.now, h.sane.chain⟩, ⟨h.safe.last, h.safe.wait⟩⟩
theorem Run2.goes (h : Run2 D e A) : (∃ n, D.goes = (false, { D with left := n })) ∨ (D.armed = true ∧ D.goes.1 = true ∧ Off2 D.goes.2 e A) := by
  by_cases ha : D.armed = false
  · exact .inl ⟨D.left, goes_calm ha⟩
  · by_cases hl : 0 < D.left
    · left
      refine ⟨wrap64 (D.left - 1), ?_⟩
      unfold Dk.goes
      rw [if_neg ha, if_pos hl]
    · right
      have eg : D.goes = (true, (D.cut D.stays).2) := by
        unfold Dk.goes
        rw [if_neg ha, if_neg hl]
      obtain ⟨c1, c2, c3⟩ := cut_leaves h.sane h.safe h.on D.stays ((2 : Nat) : Int)
      obtain ⟨d1, _, d3, _, _, _, d7, _⟩ := cut_same D D.stays
      rw [eg]
      exact ⟨by cases hb : D.armed; exact absurd hb ha; rfl, rfl, d7, d1.trans h.sectors, by rw [d3]; exact h.t2, c1, c2, c3⟩
theorem Run2.may (h : Run2 D e A) : D.may ((2 : Nat) : Int) = 0 := by
  unfold Dk.may
  rw [if_neg (by rw [h.on]; decide), if_neg (by omega)]
theorem Run2.write (h : Run2 D e A) (h0 : e ≠ 0) {a : Int} {data : ByteArray} {m : Nat} (hd : data.size = m * 64) (m1 : 1 ≤ m) (m2 : m ≤ 16) (a1 : 0 ≤ a) (a2 : a + m ≤ 37) :
    (D.armed = true ∧ (D.write (2 : Nat) e a data).1 = 14 ∧ Off2 (D.write (2 : Nat) e a data).2 e A) ∨ ∃ n, D.write (2 : Nat) e a data = (0, ({ D with left := n } : Dk).writeN (2 : Nat) a data m) := by
  have hq : data.size / 64 = m := by omega
  have hr : data.size % 64 = 0 := by omega
  have hth : D.there a (data.size / 64 : Nat) = true := by
    unfold Dk.there
    rw [hq, h.sectors]
    exact decide_eq_true ⟨a1, by omega, by omega⟩
  have had : D.admits ((2 : Nat) : Int).toNat e = 0 := by
    unfold Dk.admits
    exact if_neg (by show ¬ (e = 0 ∨ D.table 2 ≠ e); simp [h0, h.t2])
  have ew : D.write (2 : Nat) e a data = if D.goes.1 = true then (14, D.goes.2) else (0, D.goes.2.writeN (2 : Nat) a data m) := by
    unfold Dk.write
    rw [if_neg (by rw [h.may]; simp), if_neg (by omega), if_neg (by rw [had]; simp), if_neg (by rw [hth]; simp), hq]
  rw [ew]
  rcases h.goes with ⟨n, hg⟩ | ⟨g1, g2, g3⟩
  · right
    rw [hg]
    exact ⟨n, if_neg (by simp)⟩
  · left
    rw [if_pos g2]
    exact ⟨g1, rfl, g3⟩
theorem Run2.barrier (h : Run2 D e A) (h0 : e ≠ 0) :
    (D.armed = true ∧ (D.barrier (2 : Nat) e).1 = 14 ∧ Off2 (D.barrier (2 : Nat) e).2 e A) ∨ ∃ n, D.barrier (2 : Nat) e = (0, ({ D with left := n } : Dk).settle (2 : Nat)) := by
  have had : D.admits ((2 : Nat) : Int).toNat e = 0 := by
    unfold Dk.admits
    exact if_neg (by show ¬ (e = 0 ∨ D.table 2 ≠ e); simp [h0, h.t2])
  have ew : D.barrier (2 : Nat) e = if D.goes.1 = true then (14, D.goes.2) else (0, D.goes.2.settle (2 : Nat)) := by
    unfold Dk.barrier
    rw [if_neg (by rw [h.may]; simp), if_neg (by rw [had]; simp)]
  rw [ew]
  rcases h.goes with ⟨n, hg⟩ | ⟨g1, g2, g3⟩
  · right
    rw [hg]
    exact ⟨n, if_neg (by simp)⟩
  · left
    rw [if_pos g2]
    exact ⟨g1, rfl, g3⟩
theorem Run2.settle (h : Run2 D e A) : Run2 (D.settle (2 : Nat)) e A ∧ (D.settle (2 : Nat)).waits = [] := by
  obtain ⟨a, b, _⟩ := h.sane.settle ((2 : Nat) : Int)
  have s := settle_same D ((2 : Nat) : Int)
  exact ⟨⟨s.1.trans h.on, s.2.2.1.trans h.sectors, by rw [(settle_tab D _).1]; exact h.t2, a, h.safe.settle h.sane⟩, b⟩
theorem Run2.wrote (h : Run2 D e A) {a : Int} {data : ByteArray} {m : Nat} (hm : ∀ j : Nat, j < m → A (a + j) (sect data j)) : Run2 (D.writeN (2 : Nat) a data m) e A := by
  have s := writeN_same D ((2 : Nat) : Int) a data m
  exact ⟨s.1.trans h.on, s.2.2.1.trans h.sectors, by rw [s.2.2.2.2.2.1]; exact h.t2, h.sane.writeN a data m, h.safe.writeN m hm⟩
theorem Run2.weak (h : Run2 D e A) (hw : D.waits = []) (hb : ∀ k, B k (D.sec k)) : Run2 D e B := ⟨h.on, h.sectors, h.t2, h.sane, safe_of_sec h.sane hw hb⟩
theorem Off2.weak (h : Off2 D e A) (hb : ∀ k v, A k v → B k v) : Off2 D e B := ⟨h.on, h.sectors, h.t2, h.sane, ⟨fun k => hb _ _ (h.safe.last k), fun x hx => hb _ _ (h.safe.wait x hx)⟩, h.waits⟩
end
/-- the images that are to be there -/
structure Wants (l : List Im) : Prop where
  ok : ∀ i ∈ l, i.right ∧ 0 < i.ver ∧ i.ver < 18446744073709551616 ∧ i.block ≤ 9
  one : l.Pairwise (fun i j => i.block ≠ j.block)
/-- the head is there, and the records; a block's sector has bytes 0, or is what it is to be -/
def A1 (l : List Im) (lg : Int → ByteArray) : Int → ByteArray → Prop := fun k v => (k = 1 → v = str hd9) ∧ (2 ≤ k → k ≤ 8 → v = lg k) ∧ ∀ i ∈ l, (k = 17 + 2 * i.block → v = str (zer 64) ∨ v = str (secL i 0)) ∧ (k = 17 + 2 * i.block + 1 → v = str (zer 64) ∨ v = str (secL i 1))
/-- each block is what it is to be; the head is there, or has bytes 0 -/
def A2 (l : List Im) (lg : Int → ByteArray) : Int → ByteArray → Prop := fun k v => (k = 1 → v = str hd9 ∨ v = str (zer 64)) ∧ (2 ≤ k → k ≤ 8 → v = lg k) ∧ ∀ i ∈ l, (k = 17 + 2 * i.block → v = str (secL i 0)) ∧ (k = 17 + 2 * i.block + 1 → v = str (secL i 1))
theorem half_ne {i : Im} (h : i.right) {k : Nat} (hk : k ≤ 1) : secL i k ≠ zer 64 := by
  intro e
  have h1 := (read_stamp (l := secT i k) (n := 64) (by rw [secT_len h hk]; omega) (by omega)).1
  have h2 : readE (secL i k) = 0 := h1
  rw [e, sum60] at h2
  exact absurd h2 (by decide)
theorem secG_at {x y : List UInt8} (hx : x.length = 64) (hy : y.length = 64) : secG (str (x ++ y)) 0 = (if readE x = 0 then (secI (readL x), 0) else (Im.zero, readE x)) ∧ secG (str (x ++ y)) 1 = (if readE y = 0 then (secI (readL y), 0) else (Im.zero, readE y)) := by
  have e0 : ((str (x ++ y)).extract (0 * 64) ((0 + 1) * 64)).data.toList = x := by
    rw [extract_str, str_list, Nat.zero_mul, List.drop_zero, List.take_append_of_le_length (by omega), List.take_of_length_le (by omega)]
  have e1 : ((str (x ++ y)).extract (1 * 64) ((1 + 1) * 64)).data.toList = y := by
    rw [extract_str, str_list, List.take_of_length_le (by rw [List.length_append]; omega), List.drop_append_of_le_length (by omega), List.drop_of_length_le (by omega), List.nil_append]
  unfold secG
  rw [e0, e1]
  exact ⟨rfl, rfl⟩
/-- a block of which one sector alone was written is torn -/
theorem torn_a {i : Im} (h : i.right) (b : Int) : getB b (str (secL i 0 ++ zer 64)) = (Im.zero, 6) := by
  have hl := secL_len h (k := 0) (by omega)
  obtain ⟨g0, g1⟩ := secG_at hl (zer_len 64)
  have hr : readE (secL i 0) = 0 := (read_stamp (l := secT i 0) (n := 64) (by rw [secT_len h (by omega)]; omega) (by omega)).1
  rw [if_pos hr] at g0
  rw [sum60, if_neg (by decide)] at g1
  unfold getB
  rw [if_neg (by rw [str_size, List.length_append, hl, zer_len]; simp), if_neg, if_neg (by rw [g0]; simp), if_pos (by rw [g1]; decide), g1]
  intro e
  have e := str_inj e
  have : zer 128 = zer 64 ++ zer 64 := (zer_app 64 64).symm
  rw [this] at e
  exact half_ne h (k := 0) (by omega) (List.append_inj_left e (by rw [hl, zer_len]))
theorem torn_b {i : Im} (h : i.right) (b : Int) : getB b (str (zer 64 ++ secL i 1)) = (Im.zero, 6) := by
  have hl := secL_len h (k := 1) (by omega)
  obtain ⟨g0, g1⟩ := secG_at (zer_len 64) hl
  rw [sum60, if_neg (by decide)] at g0
  unfold getB
  rw [if_neg (by rw [str_size, List.length_append, hl, zer_len]; simp), if_neg, if_pos (by rw [g0]; decide), g0]
  intro e
  have e := str_inj e
  have : zer 128 = zer 64 ++ zer 64 := (zer_app 64 64).symm
  rw [this] at e
  exact half_ne h (k := 1) (by omega) (List.append_inj_right e (by rw [zer_len]))
theorem sect_blk {i : Im} (h : i.right) : sect (str (blkL i)) 0 = str (secL i 0) ∧ sect (str (blkL i)) 1 = str (secL i 1) := by
  have h0 := secL_len h (k := 0) (by omega)
  have h1 := secL_len h (k := 1) (by omega)
  unfold sect blkL
  rw [extract_str, extract_str]
  constructor
  · rw [Nat.zero_mul, List.drop_zero, List.take_append_of_le_length (by omega), List.take_of_length_le (by omega)]
  · rw [List.take_of_length_le (by rw [List.length_append]; omega), List.drop_append_of_le_length (by omega), List.drop_of_length_le (by omega), List.nil_append]
end Go.Proofs.YtdmjkklidnmogaaGreatDoor

/- Apply and Run, wherever the power goes. -/
namespace Go.Proofs.YtdmjkklidnmogaaGreatDoor
open Go.RowKit

theorem wants_inj : ∀ {l : List Im}, l.Pairwise (fun i j => i.block ≠ j.block) → ∀ {i j : Im}, i ∈ l → j ∈ l → i.block = j.block → i = j
  | x :: l, hp, i, j, hi, hj, e => by
    have hp' := List.pairwise_cons.1 hp
    rcases List.mem_cons.1 hi with hi1 | hi1
    · rcases List.mem_cons.1 hj with hj1 | hj1
      · rw [hi1, hj1]
      · exact absurd (by rw [← hi1, e]) (hp'.1 j hj1)
    · rcases List.mem_cons.1 hj with hj1 | hj1
      · exact absurd (by rw [← hj1, ← e]) (hp'.1 i hi1)
      · exact wants_inj hp'.2 hi1 hj1 e
theorem apply_skip {D : Dk} {node : Int} {epoch : Nat} {i : Im} (h : D.load i.block = (i, 0)) (l : List Im) (n : Nat) : applyGo node epoch (i :: l) n D = applyGo node epoch l n D := by
  rw [apply_one h, if_pos (Nat.le_refl _)]
theorem apply_put {D : Dk} {node : Int} {epoch : Nat} {i : Im} (h : (∃ was : Im, D.load i.block = (was, 0) ∧ was.ver < i.ver) ∨ D.load i.block = (Im.zero, 6)) (l : List Im) (n : Nat) :
    applyGo node epoch (i :: l) n D = if (D.store node epoch i).1 ≠ 0 then ⟨0, (D.store node epoch i).1, (D.store node epoch i).2⟩ else applyGo node epoch l (n + 1) (D.store node epoch i).2 := by
  rcases h with ⟨was, h1, h2⟩ | h1
  · rw [apply_one h1, if_neg (by omega)]
  · rw [applyGo_cons, h1, if_neg (by simp [tornE]), if_neg (by simp [tornE])]
section
variable {D : Dk} {e : Nat} {l : List Im} {lg : Int → ByteArray}
theorem store_write {i : Im} (hr : i.right) (hb : i.block ≤ 9) (node : Int) : D.store node e i = D.write node e (17 + 2 * i.block) (str (blkL i)) := by
  have h0 := hr.1
  have hba : blockAt i.block = (17 + 2 * i.block, 0) := if_neg (by omega)
  unfold Dk.store
  rw [hba, if_neg (by simp), if_neg (by simp [hr])]
theorem Run2.load3 (h : Run2 D e (A1 l lg)) (hw : Wants l) {i : Im} (hi : i ∈ l) :
    (D.load i.block = (i, 0) ∧ D.sec (17 + 2 * i.block) = str (secL i 0) ∧ D.sec (17 + 2 * i.block + 1) = str (secL i 1)) ∨ ((∃ was : Im, D.load i.block = (was, 0) ∧ was.ver < i.ver) ∨ D.load i.block = (Im.zero, 6)) := by
  obtain ⟨hr, h0, hv, hb⟩ := hw.ok i hi
  have hr0 := hr.1
  have hbt : ((i.block.toNat : Nat) : Int) = i.block := by omega
  have hle := load_eq h.live (b := i.block.toNat) (by omega)
  rw [hbt] at hle
  have s0 := ((h.safe.sec h.sane (17 + 2 * i.block)).2.2 i hi).1 rfl
  have s1 := ((h.safe.sec h.sane (17 + 2 * i.block + 1)).2.2 i hi).2 rfl
  rcases s0 with s0 | s0
  · rcases s1 with s1 | s1
    · rw [s0, s1, str_list, zer_app] at hle
      refine .inr (.inl ⟨⟨i.block, 0, str (zer 96)⟩, hle.trans ?_, h0⟩)
      unfold getB
      rw [if_neg (by rw [str_size, zer_len]; omega), if_pos rfl]
    · rw [s0, s1, str_list, str_list, torn_b hr] at hle
      exact .inr (.inr hle)
  · rcases s1 with s1 | s1
    · rw [s0, s1, str_list, str_list, torn_a hr] at hle
      exact .inr (.inr hle)
    · have e1 : getB i.block (str (secL i 0 ++ secL i 1)) = (i, 0) := getB_put hr hv
      rw [s0, s1, str_list, str_list, e1] at hle
      exact .inl ⟨hle, s0, s1⟩
/-- what Apply leaves, where the power stays -/
structure ApOk (D : Dk) (e : Nat) (A : Int → ByteArray → Prop) (l : List Im) (n : Nat) (R : ApR) : Prop where
  err : R.e = 0
  run : Run2 R.D e A
  armed : R.D.armed = D.armed
  halves : ∀ i ∈ l, R.D.sec (17 + 2 * i.block) = str (secL i 0) ∧ R.D.sec (17 + 2 * i.block + 1) = str (secL i 1)
  other : ∀ k, (∀ i ∈ l, k ≠ 17 + 2 * i.block ∧ k ≠ 17 + 2 * i.block + 1) → R.D.sec k = D.sec k
  cnt : n ≤ R.n
  same : R.n = n → R.D = D
theorem apply_all (hw : Wants l) (h0 : e ≠ 0) : ∀ (m : List Im) (n : Nat) (D : Dk), (∀ i ∈ m, i ∈ l) → m.Pairwise (fun i j => i.block ≠ j.block) → Run2 D e (A1 l lg) →
    (D.armed = true ∧ (applyGo (2 : Nat) e m n D).e ≠ 0 ∧ Off2 (applyGo (2 : Nat) e m n D).D e (A1 l lg)) ∨ ApOk D e (A1 l lg) m n (applyGo (2 : Nat) e m n D)
  | [], n, D, _, _, h => .inr ⟨rfl, h, rfl, (fun i hi => by cases hi), fun _ _ => rfl, Nat.le_refl _, fun _ => rfl⟩
  | i :: m, n, D, hm, hp, h => by
    have hp' := List.pairwise_cons.1 hp
    have hi := hm i (List.mem_cons_self ..)
    have hm' : ∀ j ∈ m, j ∈ l := fun j hj => hm j (List.mem_cons_of_mem _ hj)
    obtain ⟨hr, hv0, hv, hb⟩ := hw.ok i hi
    have hr0 := hr.1
    rcases h.load3 hw hi with ⟨g1, g2, g3⟩ | hput
    · rw [apply_skip g1]
      rcases apply_all hw h0 m n D hm' hp'.2 h with hx | hx
      · exact .inl hx
      · refine .inr ⟨hx.err, hx.run, hx.armed, fun j hj => ?_, fun k hk => hx.other k (fun j hj => hk j (List.mem_cons_of_mem _ hj)), hx.cnt, hx.same⟩
        rcases List.mem_cons.1 hj with rfl | hj
        · refine ⟨(hx.other _ (fun j' hj' => ?_)).trans g2, (hx.other _ (fun j' hj' => ?_)).trans g3⟩
          · have := hp'.1 j' hj'
            omega
          · have := hp'.1 j' hj'
            omega
        · exact hx.halves j hj
    · rw [apply_put hput, store_write hr hb]
      obtain ⟨q0, q1⟩ := sect_blk hr
      rcases h.write h0 (a := 17 + 2 * i.block) (data := str (blkL i)) (m := 2) (by rw [str_size, blkL_len hr]) (by omega) (by omega) (by omega) (by omega) with ⟨w1, w2, w3⟩ | ⟨nl, w1⟩
      · left
        rw [if_pos (by rw [w2]; decide)]
        exact ⟨w1, by rw [w2]; simp, w3⟩
      · rw [w1, if_neg (by simp)]
        have hrun : Run2 (({ D with left := nl } : Dk).writeN (2 : Nat) (17 + 2 * i.block) (str (blkL i)) 2) e (A1 l lg) := by
          refine (h.left nl).wrote (fun j hj => ?_)
          rcases (show j = 0 ∨ j = 1 by omega) with rfl | rfl
          · rw [q0]
            refine ⟨fun hk => by omega, fun _ hk => by omega, fun i' hi' => ⟨fun hk => .inr ?_, fun hk => by omega⟩⟩
            rw [wants_inj hw.one hi hi' (by omega)]
          · rw [q1]
            refine ⟨fun hk => by omega, fun _ hk => by omega, fun i' hi' => ⟨fun hk => by omega, fun hk => .inr ?_⟩⟩
            rw [wants_inj hw.one hi hi' (by omega)]
        have hsec : ∀ k, (({ D with left := nl } : Dk).writeN (2 : Nat) (17 + 2 * i.block) (str (blkL i)) 2).sec k = if 17 + 2 * i.block ≤ k ∧ k < 17 + 2 * i.block + ((2 : Nat) : Int) then sect (str (blkL i)) (k - (17 + 2 * i.block)).toNat else D.sec k := fun k => writeN_sec _ _ _ _ _ _
        have harm : (({ D with left := nl } : Dk).writeN (2 : Nat) (17 + 2 * i.block) (str (blkL i)) 2).armed = D.armed := (writeN_same _ _ _ _ _).2.1
        generalize ({ D with left := nl } : Dk).writeN (2 : Nat) (17 + 2 * i.block) (str (blkL i)) 2 = E at hrun hsec harm
        show (D.armed = true ∧ (applyGo (2 : Nat) e m (n + 1) E).e ≠ 0 ∧ Off2 (applyGo (2 : Nat) e m (n + 1) E).D e (A1 l lg)) ∨ ApOk D e (A1 l lg) (i :: m) n (applyGo (2 : Nat) e m (n + 1) E)
        rcases apply_all hw h0 m (n + 1) E hm' hp'.2 hrun with ⟨x1, x2, x3⟩ | hx
        · exact .inl ⟨harm ▸ x1, x2, x3⟩
        · have hc := hx.cnt
          refine .inr ⟨hx.err, hx.run, hx.armed.trans harm, fun j hj => ?_, fun k hk => ?_, by omega, fun hn => by omega⟩
          · rcases List.mem_cons.1 hj with rfl | hj
            · refine ⟨(hx.other _ (fun j' hj' => ?_)).trans ?_, (hx.other _ (fun j' hj' => ?_)).trans ?_⟩
              · have := hp'.1 j' hj'
                omega
              · rw [hsec, if_pos (by omega)]
                have : (17 + 2 * j.block - (17 + 2 * j.block)).toNat = 0 := by omega
                rw [this, q0]
              · have := hp'.1 j' hj'
                omega
              · rw [hsec, if_pos (by omega)]
                have : (17 + 2 * j.block + 1 - (17 + 2 * j.block)).toNat = 1 := by omega
                rw [this, q1]
            · exact hx.halves j hj
          · rw [hx.other k (fun j hj => hk j (List.mem_cons_of_mem _ hj)), hsec, if_neg]
            have := hk i (List.mem_cons_self ..)
            omega
theorem a2_of {k : Int} {v : ByteArray} (h : A1 l lg k v) (hh : ∀ i ∈ l, (k = 17 + 2 * i.block → v = str (secL i 0)) ∧ (k = 17 + 2 * i.block + 1 → v = str (secL i 1))) : A2 l lg k v := ⟨fun hk => .inl (h.1 hk), h.2.1, hh⟩
theorem a1_of {k : Int} {v : ByteArray} (h : A2 l lg k v) (hh : k = 1 → v = str hd9) : A1 l lg k v := ⟨hh, h.2.1, fun i hi => ⟨fun hk => .inr ((h.2.2 i hi).1 hk), fun hk => .inr ((h.2.2 i hi).2 hk)⟩⟩
theorem halves_at {E : Dk} (hh : ∀ i ∈ l, E.sec (17 + 2 * i.block) = str (secL i 0) ∧ E.sec (17 + 2 * i.block + 1) = str (secL i 1)) (k : Int) : ∀ i ∈ l, (k = 17 + 2 * i.block → E.sec k = str (secL i 0)) ∧ (k = 17 + 2 * i.block + 1 → E.sec k = str (secL i 1)) :=
  fun i hi => ⟨fun hk => by rw [hk]; exact (hh i hi).1, fun hk => by rw [hk]; exact (hh i hi).2⟩
theorem applyR_cut (hw : Wants l) (h0 : e ≠ 0) (h : Run2 D e (A1 l lg)) (hwt : D.waits = []) :
    (D.armed = true ∧ (applyR D (2 : Nat) e l).e ≠ 0 ∧ Off2 (applyR D (2 : Nat) e l).D e (A1 l lg)) ∨
    ((applyR D (2 : Nat) e l).e = 0 ∧ Run2 (applyR D (2 : Nat) e l).D e (A2 l lg) ∧ (applyR D (2 : Nat) e l).D.waits = [] ∧ (applyR D (2 : Nat) e l).D.armed = D.armed ∧ (applyR D (2 : Nat) e l).D.sec 1 = str hd9) := by
  unfold applyR
  rcases apply_all hw h0 l 0 D (fun _ hi => hi) hw.one h with ⟨x1, x2, x3⟩ | hx
  · left
    rw [if_pos x2]
    exact ⟨x1, x2, x3⟩
  · obtain ⟨y1, y2, y3, y4, y5, y6, y7⟩ := hx
    generalize applyGo (2 : Nat) e l 0 D = A at y1 y2 y3 y4 y5 y6 y7
    obtain ⟨n, er, E⟩ := A
    simp only at y1 y2 y3 y4 y5 y6 y7 ⊢
    rw [if_neg (by rw [y1]; decide)]
    have hE1 : E.sec 1 = str hd9 := (y2.safe.sec y2.sane 1).1 rfl
    by_cases hn : n = 0
    · right
      rw [if_pos hn]
      have hED := y7 hn
      refine ⟨y1, y2.weak (by rw [hED]; exact hwt) (fun k => a2_of (y2.safe.sec y2.sane k) (halves_at y4 k)), by rw [hED]; exact hwt, y3, hE1⟩
    · rw [if_neg hn]
      rcases y2.barrier h0 with ⟨w1, w2, w3⟩ | ⟨nl, w1⟩
      · left
        rw [if_pos (by rw [w2]; decide)]
        exact ⟨y3 ▸ w1, by rw [w2]; simp, w3⟩
      · right
        rw [w1, if_neg (by simp)]
        obtain ⟨z1, z2⟩ := (y2.left nl).settle
        have hs : ∀ k, (({ E with left := nl } : Dk).settle (2 : Nat)).sec k = E.sec k := fun k => settle_sec _ _ _
        refine ⟨rfl, z1.weak z2 (fun k => ?_), z2, ?_, (hs 1).trans hE1⟩
        · show A2 l lg k ((({ E with left := nl } : Dk).settle (2 : Nat)).sec k)
          rw [hs]
          exact a2_of (y2.safe.sec y2.sane k) (halves_at y4 k)
        · show (({ E with left := nl } : Dk).settle (2 : Nat)).armed = D.armed
          rw [(settle_same _ _).2.1]
          exact y3
theorem live_scan (h : Live D) (hs : D.sec 1 = str hd9) : D.scan 1 = scanL 9 10 1 (str (D.readL 2 7)) ∧ D.scanE 1 = 0 ∧ D.headE 1 = 0 ∧ D.headI 1 = true ∧ (D.headH 1).epoch = 9 := by
  obtain ⟨_, h2, h3, h4⟩ := head_of h (h := ⟨9, 1, 0⟩) hd9_ok (by decide) (by decide) (by decide) hs
  obtain ⟨r1, r2⟩ := h.read (at_ := 2) (n := 7) (by omega) (by omega) (by omega)
  have hr : D.readE ((logAt 1).1 + 1) 7 = 0 := r1
  refine ⟨?_, ?_, h4, h3, by rw [h2]⟩
  · unfold Dk.scan
    rw [if_neg (by rw [h4, h3, hr]; decide), h2]
    have e : D.readS ((logAt 1).1 + 1) 7 = str (D.readL 2 7) := r2
    rw [e]
    have : rotS (str (D.readL 2 7)) (Int.toNat (⟨9, 1, 0⟩ : Hd).at_ * 64) = str (D.readL 2 7) := by
      show rotS (str (D.readL 2 7)) 0 = _
      unfold rotS
      rw [extract_str, extract_str, str_size, List.drop_zero, List.take_of_length_le (Nat.le_refl _), List.take_zero, List.drop_zero]
      refine ByteArray.ext ?_
      apply Array.toList_inj.1
      simp
      rfl
    rw [this]
  · unfold Dk.scanE
    rw [if_neg (by rw [h4]; decide), if_neg (by rw [h3]; decide)]
    exact hr
theorem run_cut (hw : Wants l) (h0 : e ≠ 0) (h : Run2 D e (A1 l lg)) (hwt : D.waits = []) (hp : planOf (scanL 9 10 1 (str (D.readL 2 7))) = l) :
    (D.armed = true ∧ (runR D 1 9 (2 : Nat) e).e ≠ 0 ∧ (Off2 (runR D 1 9 (2 : Nat) e).D e (A1 l lg) ∨ Off2 (runR D 1 9 (2 : Nat) e).D e (A2 l lg))) ∨
    ((runR D 1 9 (2 : Nat) e).e = 0 ∧ Run2 (runR D 1 9 (2 : Nat) e).D e (A2 l lg) ∧ (runR D 1 9 (2 : Nat) e).D.waits = [] ∧ (runR D 1 9 (2 : Nat) e).D.armed = D.armed ∧ (runR D 1 9 (2 : Nat) e).D.sec 1 = str (zer 64)) := by
  obtain ⟨c1, c2, c3, c4, c5⟩ := live_scan h.live ((h.safe.sec h.sane 1).1 rfl)
  unfold runR
  rw [c1, hp, c2, c3, c4, c5, if_neg (by decide), if_neg (by decide), if_neg (by decide)]
  rcases applyR_cut hw h0 h hwt with ⟨x1, x2, x3⟩ | ⟨y1, y2, y3, y4, y5⟩
  · left
    rw [if_pos x2]
    exact ⟨x1, x2, .inl x3⟩
  · generalize applyR D (2 : Nat) e l = A at y1 y2 y3 y4 y5
    obtain ⟨n, er, E⟩ := A
    simp only at y1 y2 y3 y4 y5 ⊢
    rw [if_neg (by rw [y1]; decide)]
    have hla : (logAt 1).1 = 1 := rfl
    rw [hla]
    have hse : sect (str (zer 64)) 0 = str (zer 64) := sect_zer (by omega)
    rcases y2.write h0 (a := 1) (data := str (zer 64)) (m := 1) (by rw [str_size, zer_len]) (by omega) (by omega) (by omega) (by omega) with ⟨w1, w2, w3⟩ | ⟨nl, w1⟩
    · left
      rw [if_pos (by rw [w2]; decide)]
      exact ⟨y4 ▸ w1, by rw [w2]; simp, .inr w3⟩
    · rw [w1, if_neg (by simp)]
      have hrun : Run2 (({ E with left := nl } : Dk).writeN (2 : Nat) 1 (str (zer 64)) 1) e (A2 l lg) := by
        refine (y2.left nl).wrote (fun j hj => ?_)
        obtain rfl : j = 0 := by omega
        rw [hse]
        refine ⟨fun _ => .inr rfl, fun hk => by omega, fun i hi => ?_⟩
        have := (hw.ok i hi).1.1
        exact ⟨fun hk => by omega, fun hk => by omega⟩
      have hsec : (({ E with left := nl } : Dk).writeN (2 : Nat) 1 (str (zer 64)) 1).sec 1 = str (zer 64) := by
        rw [writeN_sec, if_pos (by omega)]
        exact hse
      have harm : (({ E with left := nl } : Dk).writeN (2 : Nat) 1 (str (zer 64)) 1).armed = E.armed := (writeN_same _ _ _ _ _).2.1
      generalize ({ E with left := nl } : Dk).writeN (2 : Nat) 1 (str (zer 64)) 1 = F at hrun hsec harm
      rcases hrun.barrier h0 with ⟨w1, w2, w3⟩ | ⟨nm, w1⟩
      · left
        rw [if_pos (by rw [w2]; decide)]
        exact ⟨y4 ▸ harm ▸ w1, by rw [w2]; simp, .inr w3⟩
      · right
        rw [w1, if_neg (by simp)]
        obtain ⟨z1, z2⟩ := (hrun.left nm).settle
        refine ⟨rfl, z1, z2, ?_, ?_⟩
        · show (({ F with left := nm } : Dk).settle (2 : Nat)).armed = D.armed
          rw [(settle_same _ _).2.1]
          exact harm.trans y4
        · show (({ F with left := nm } : Dk).settle (2 : Nat)).sec 1 = str (zer 64)
          rw [settle_sec]
          exact hsec
end
end Go.Proofs.YtdmjkklidnmogaaGreatDoor

/- RedoEvery, plain: the disk ahead of all; one more time; the last time. -/
namespace Go.Proofs.YtdmjkklidnmogaaGreatDoor
open Go.RowKit

/-- nothing waits -/
structure Quiet (D : Dk) : Prop where
  sane : Sane D 0
  waits : D.waits = []
section
variable {D E : Dk} {k : Nat}
theorem Quiet.same (h : Quiet D) (h1 : E.waits = D.waits) (h2 : E.now = D.now) (h3 : E.lasts = D.lasts) (h4 : E.seq = D.seq) : Quiet E := by
  have hl : lastD E = lastD D := by
    unfold lastD
    rw [h3]
  obtain ⟨s0, c0, c1, c2⟩ := h.sane.chain
  refine ⟨⟨fun x hx => h.sane.nodes x (h1 ▸ hx), by rw [h2, hl, h1]; exact h.sane.now, s0, c0, fun k x hx => c1 k x (h3 ▸ hx), by rw [h1, h4]; exact c2⟩, h1.trans h.waits⟩
theorem Quiet.wrote (h : Quiet D) (n : Int) (a : Int) (data : ByteArray) (m : Nat) : Quiet ((D.writeN n a data m).settle n) := by
  obtain ⟨a, b, _⟩ := ((h.sane.any h.waits n).writeN a data m).settle 0
  exact ⟨a, b⟩
theorem Quiet.settle (h : Quiet D) (n : Int) : Quiet (D.settle n) := h.wrote n 0 ⟨#[]⟩ 0
theorem Quiet.fence (h : Quiet D) (hc : Calm D k) {n : Nat} (hn : n ≤ 16) : Quiet (D.fence n).2 := by
  rw [(hc.fence hn).1]
  exact (h.settle n).same rfl rfl rfl rfl
theorem Quiet.put (h : Quiet D) (hc : Calm D k) {n : Nat} (hn : n ≤ 16) (v : Nat) : Quiet (D.put n v).2 := by
  rw [(hc.put hn v).1]
  exact h.same rfl rfl rfl rfl
theorem Quiet.admit (h : Quiet D) (hc : Calm D k) {n : Nat} (hn : n ≤ 16) {e : Nat} (he : D.last < e) : Quiet (D.admit n e).2 := by
  rw [(hc.admit hn he).1]
  exact h.same rfl rfl rfl rfl
theorem quiet_fmt (h : Quiet D) (hc : Calm D k) : ∀ j, j ≤ 17 → Quiet (D.fmtN j)
  | 0, _ => h
  | j + 1, hj => ((quiet_fmt h hc j (by omega)).fence (fmt_calm hc j (by omega)).1 (by omega)).put ((fmt_calm hc j (by omega)).1.fence (by omega)).2 (by omega) 0
theorem sane_zeros (h : Sane D 0) : ∀ j, Sane (D.zerosN j) 0
  | 0 => h
  | j + 1 => (sane_zeros h j).writeN _ _ _
theorem quiet_lay (h : Quiet D) : Quiet D.layF := by
  obtain ⟨a, b, _⟩ := (sane_zeros h.sane 3).settle 0
  exact Quiet.wrote ⟨a, b⟩ (0 : Nat) 0 (str superL) 1
end
theorem quiet_fresh : Quiet (Dk.fresh 37) := ⟨⟨(fun x hx => by cases hx), rfl, 0, Int.le_refl _, (fun k x hx => by cases hx), Int.le_refl _⟩, rfl⟩
set_option maxRecDepth 100000 in
theorem quiet_format {D : Dk} (h : Quiet D) (hc : Calm D 0) (hl : D.last = 0) : Quiet D.formatF := by
  obtain ⟨f1, f2, f3⟩ := fmt_calm hc 17 (by omega)
  have f2' : (D.fmtN 17).last < 1 := by rw [f2, hl]; omega
  have q1 := (quiet_fmt h hc 17 (by omega)).admit f1 (n := 0) (by omega) f2'
  obtain ⟨a1, a2⟩ := f1.admit (n := 0) (by omega) (e := 1) f2'
  have e : D.formatF = (((D.fmtN 17).admit (0 : Nat) 1).2.layF.fence (0 : Nat)).2 := by unfold Dk.formatF; rw [hl]; rfl
  rw [e]
  generalize ((D.fmtN 17).admit (0 : Nat) 1).2 = E at q1 a2
  exact (quiet_lay q1).fence (lay_calm a2) (by omega)
set_option maxRecDepth 100000 in
theorem quiet_ready : Quiet readyD := by
  have q := quiet_format quiet_fresh calm_fresh fresh_last
  obtain ⟨f1, f2, _⟩ := format_facts calm_fresh fresh_last
  have e1 : readyD = ((Dk.fresh 37).formatF.admit (1 : Nat) 9).2 := rfl
  have hls : (Dk.fresh 37).formatF.last < 9 := by rw [f2]; omega
  rw [e1]
  generalize (Dk.fresh 37).formatF = F at q f1 hls
  exact q.admit f1 (by omega) hls
section
variable {D : Dk} {k t2 ls : Nat} {h l1 l2 l3 : List UInt8} {f : Nat → Im}
theorem open_form (hc : Calm D k) (ht : D.table 1 = 9) : (D.lhead lg0 ⟨9, 1, 0⟩).2 = (D.writeN (1 : Nat) 1 (str hd9) 1).settle (1 : Nat) := by
  rw [(lhead_ok hc (g := lg0) (by decide) ht (by decide) (by decide) hd9_ok).1]
  rfl
theorem put_form1 (hc : Calm D k) (ht : D.table 1 = 9) {g : Lg} (h1 : g.node = 1) (h2 : g.epoch = 9) (h3 : g.base = 1) (i : Im) : (D.put_ g (enOf 1 0 i)) = (0, D.writeN (1 : Nat) 2 (str (recL (rcI 1 i))) 3) := by
  have e := (put_one hc (g := g) (by omega) (by rw [h1, h2]; exact ht) (by omega) (by omega) (x := enOf 1 0 i) rfl (Nat.zero_le _) (entry_size 1 0 i)).1
  rw [e, h1, h3]
  rfl
theorem put_form2 (hc : Calm D k) (ht : D.table 1 = 9) {g : Lg} (h1 : g.node = 1) (h2 : g.epoch = 9) (h3 : g.base = 1) (i : Im) : (D.put_ g (enOf 2 3 i)) = (0, D.writeN (1 : Nat) 5 (str (recL (rcI 2 i))) 3) := by
  have e := (put_one hc (g := g) (by omega) (by rw [h1, h2]; exact ht) (by omega) (by omega) (x := enOf 2 3 i) rfl (show 3 ≤ 4 by decide) (entry_size 2 3 i)).1
  rw [e, h1, h3]
  rfl
theorem sync_formW {g G : Lg} {n : Nat} {E : Dk} (hw : writeR D g = ⟨n, 0, E, G⟩) (hc : Calm E k) (ht : E.table 1 = 9) (h1 : G.node = 1) (h2 : G.epoch = 9) (h3 : G.synced < G.written) : (syncR D g).D = E.settle (1 : Nat) := by
  have b1 := (hc.barrier (n := 1) (by omega) ht (by omega)).1
  have e : syncR D g = ⟨0, 0, (E.barrier (1 : Nat) 9).2, { G with synced := G.written }⟩ := by
    unfold syncR
    rw [hw]
    simp only
    rw [h1, h2, if_neg (by decide), if_neg (by omega), if_neg (by rw [b1]; simp)]
  rw [e, b1]
theorem sync_form1 (v : View D k 9 t2 ls h l1 l2 l3 f) (i : Im) : (syncR D (lg1 i)).D = (D.writeN (1 : Nat) 2 (str (recL (rcI 1 i))) 3).settle (1 : Nat) := by
  obtain ⟨p1, p2⟩ := v.put1 (g := lg1 i) rfl rfl rfl i
  have e := put_form1 v.calm v.t1 (g := lg1 i) rfl rfl rfl i
  have hw : writeR D (lg1 i) = ⟨1, 0, (D.put_ (lg1 i) (enOf 1 0 i)).2, (lg1 i).wrote 0 (enOf 1 0 i)⟩ := by
    show wrGo [enOf 1 0 i] 0 0 D (lg1 i) = _
    rw [wrGo_false rfl, if_neg (by rw [p1]; decide), wr_done]
  rw [sync_formW hw p2.calm p2.t1 rfl rfl (show (0 : Nat) < 1 by decide), e]
theorem sync_form2 (v : View D k 9 t2 ls h l1 l2 l3 f) (i j : Im) : (syncR D (lg2 i j)).D = ((D.writeN (1 : Nat) 2 (str (recL (rcI 1 i))) 3).writeN (1 : Nat) 5 (str (recL (rcI 2 j))) 3).settle (1 : Nat) := by
  have h1 : (lg2 i j).node = 1 := rfl
  have h2 : (lg2 i j).epoch = 9 := rfl
  have h3 : (lg2 i j).base = 1 := rfl
  have h4 : (lg2 i j).live = [enOf 1 0 i, enOf 2 3 j] := rfl
  have h5 : (lg2 i j).broken = false := rfl
  have h6 : (lg2 i j).synced = 0 := rfl
  generalize lg2 i j = g at h1 h2 h3 h4 h5 h6 ⊢
  obtain ⟨p1, p2⟩ := v.put1 h1 h2 h3 i
  have e1 := put_form1 v.calm v.t1 h1 h2 h3 i
  have x1 : (g.wrote 0 (enOf 1 0 i)).node = 1 := h1
  have x2 : (g.wrote 0 (enOf 1 0 i)).epoch = 9 := h2
  have x3 : (g.wrote 0 (enOf 1 0 i)).base = 1 := h3
  obtain ⟨q1, q2⟩ := p2.put2 x1 x2 x3 j
  have e2 := put_form2 p2.calm p2.t1 x1 x2 x3 j
  have hw := wr_two h4 h5 rfl rfl p1 q1
  have y1 : ((g.wrote 0 (enOf 1 0 i)).wrote 1 (enOf 2 3 j)).node = 1 := h1
  have y2 : ((g.wrote 0 (enOf 1 0 i)).wrote 1 (enOf 2 3 j)).epoch = 9 := h2
  have y3 : ((g.wrote 0 (enOf 1 0 i)).wrote 1 (enOf 2 3 j)).synced < ((g.wrote 0 (enOf 1 0 i)).wrote 1 (enOf 2 3 j)).written := by
    show g.synced < 2
    omega
  rw [sync_formW hw q2.calm q2.t1 y1 y2 y3, e2, e1]
end
/-- from sector 9 on all is bytes 0 -/
def Zeros (D : Dk) : Prop := ∀ k : Int, 9 ≤ k → D.sec k = str (zer 64)
theorem zeros_ready : Zeros readyD := fun k hk => by
  rw [ready_facts.2.2.2 k, if_neg (by omega)]
theorem Zeros.wrote {D : Dk} (h : Zeros D) (n a : Int) (data : ByteArray) (m : Nat) (ha : a + m ≤ 9) : Zeros (D.writeN n a data m) := fun k hk => by
  rw [writeN_sec, if_neg (by omega)]
  exact h k hk
theorem Zeros.settle {D : Dk} (h : Zeros D) (n : Int) : Zeros (D.settle n) := fun k hk => (settle_sec D n k).trans (h k hk)
theorem Zeros.now {D E : Dk} (h : Zeros D) (he : E.now = D.now) : Zeros E := fun k hk => (sec_congr he k).trans (h k hk)
/-- the plan's images -/
theorem best_block (l : List Im) : ∀ k x, bestOf l k = some x → x.block = k := by
  have key : ∀ (l : List Im) (f : Int → Option Im), (∀ k x, f k = some x → x.block = k) → ∀ k x, l.foldl bestStep f k = some x → x.block = k := by
    intro l
    induction l with
    | nil => intro f hf; exact hf
    | cons y l ih =>
      intro f hf
      refine ih _ (fun k x hx => ?_)
      have hu : ∀ k x, upd f y.block y k = some x → x.block = k := by
        intro k x hx
        unfold upd at hx
        split at hx
        · rename_i hk
          injection hx with hx
          rw [← hx, hk]
        · exact hf k x hx
      cases h : f y.block with
      | none => rw [best_none h] at hx; exact hu k x hx
      | some was =>
        rw [best_some h] at hx
        split at hx
        · exact hu k x hx
        · exact hf k x hx
  exact key l (fun _ => none) (fun k x h => by cases h)
theorem plan_wants {rs : List Rc} (h : ∀ i ∈ rs.flatMap (·.images), i.right ∧ 0 < i.ver ∧ i.ver < 18446744073709551616 ∧ i.block ≤ 9) : Wants (planOf rs) := by
  have hk : ∀ k ∈ keysOf (rs.flatMap (·.images)), ∃ x, bestOf (rs.flatMap (·.images)) k = some x := by
    intro k hk
    unfold keysOf at hk
    rw [List.mem_mergeSort, List.mem_eraseDups] at hk
    have := (best_keys (rs.flatMap (·.images)) k).2 hk
    exact Option.isSome_iff_exists.1 this
  have hn : (keysOf (rs.flatMap (·.images))).Nodup := by
    unfold keysOf
    exact (List.mergeSort_perm _ _).nodup_iff.2 (nodup_dups _)
  have hg : ∀ k x, bestOf (rs.flatMap (·.images)) k = some x → keyG (bestOf (rs.flatMap (·.images))) k = x := by
    intro k x hx
    unfold keyG
    rw [hx]
    rfl
  rw [plan_eq]
  refine ⟨fun i hi => ?_, ?_⟩
  · obtain ⟨k, hk1, rfl⟩ := List.mem_map.1 hi
    obtain ⟨x, hx⟩ := hk k hk1
    rw [hg k x hx]
    exact h x (best_mem _ k x hx)
  · rw [List.pairwise_map]
    refine hn.imp_of_mem (fun {a b} ha hb hab => ?_)
    obtain ⟨x, hx⟩ := hk a ha
    obtain ⟨y, hy⟩ := hk b hb
    rw [hg a x hx, hg b y hy, best_block _ a x hx, best_block _ b y hy]
    exact hab
/-- ahead of each time -/
def Ok2 (l : List Im) (lg : Int → ByteArray) (D : Dk) : Prop := D.waits = [] ∧ (Run2 D 20 (A1 l lg) ∨ (Run2 D 20 (A2 l lg) ∧ D.sec 1 = str (zer 64)))
section
variable {D D0 : Dk} {l : List Im} {lg : Int → ByteArray} {A : Int → ByteArray → Prop} {e : Nat}
theorem Run2.arm (h : Run2 D e A) (n : Int) (keep : List Int) : Run2 (D.arm n keep) e A := ⟨h.on, h.sectors, h.t2, ⟨h.sane.nodes, h.sane.now, h.sane.chain⟩, ⟨h.safe.last, h.safe.wait⟩⟩
theorem Run2.again (h : Run2 D e A) : Run2 (D.arm (-1) []).restore e A := ⟨rfl, h.sectors, h.t2, ⟨h.sane.nodes, h.sane.now, h.sane.chain⟩, ⟨h.safe.last, h.safe.wait⟩⟩
theorem Off2.again (h : Off2 D e A) : Run2 (D.arm (-1) []).restore e A := ⟨rfl, h.sectors, h.t2, ⟨h.sane.nodes, h.sane.now, h.sane.chain⟩, ⟨h.safe.last, h.safe.wait⟩⟩
theorem ok2_start {k t1 ls : Nat} {l1 l2 l3 : List UInt8} {f : Nat → Im} (v : View D k t1 20 ls hd9 l1 l2 l3 f) (q : Quiet D) (z : Zeros D) (hw : Wants l) : Ok2 l D.sec D := by
  refine ⟨q.waits, .inl ⟨v.calm.on, v.calm.sectors, v.t2, q.sane.any q.waits _, ?_⟩⟩
  refine safe_of_sec q.sane q.waits (fun k => ⟨fun hk => by rw [hk]; exact v.head, fun _ _ => rfl, fun i hi => ?_⟩)
  have := (hw.ok i hi).1.1
  exact ⟨fun hk => .inl (z k (by omega)), fun hk => .inl (z k (by omega))⟩
theorem log_same (h : Run2 D e (A1 l D0.sec)) : D.readL 2 7 = D0.readL 2 7 :=
  readL_congr (fun j h1 h2 => (h.safe.sec h.sane j).2.1 h1 (by omega))
/-- once more, with a cut in its midst -/
theorem ok2_again (hw : Wants l) (hp : planOf (scanL 9 10 1 (str (D0.readL 2 7))) = l) (h : Ok2 l D0.sec D) (n : Int) (keep : List Int) : Ok2 l D0.sec (((runR (D.arm n keep) 1 9 (2 : Nat) 20).D.arm (-1) []).restore) := by
  obtain ⟨hwt, h | ⟨h, hz⟩⟩ := h
  · have ha := h.arm n keep
    rcases run_cut hw (by omega) ha hwt (by rw [log_same ha]; exact hp) with ⟨_, _, x⟩ | ⟨_, y2, y3, _, y5⟩
    · rcases x with x | x
      · exact ⟨x.waits, .inl x.again⟩
      · have ho := x.again
        have hs1 := (ho.safe.sec ho.sane 1).1 rfl
        refine ⟨x.waits, ?_⟩
        rcases hs1 with hs1 | hs1
        · exact .inl (ho.weak x.waits (fun k => a1_of (ho.safe.sec ho.sane k) (fun hk => by rw [hk]; exact hs1)))
        · exact .inr ⟨ho, hs1⟩
    · exact ⟨y3, .inr ⟨y2.again, y5⟩⟩
  · have ha := h.arm n keep
    have e := (run_none ha.live hz 9 ((2 : Nat) : Int) 20).1
    rw [e]
    exact ⟨hwt, .inr ⟨ha.again, hz⟩⟩
/-- the last time -/
theorem ok2_last (hw : Wants l) (hp : planOf (scanL 9 10 1 (str (D0.readL 2 7))) = l) (h : Ok2 l D0.sec D) (ha : D.armed = false) :
    (runR D 1 9 (2 : Nat) 20).e = 0 ∧ (runR D 1 9 (2 : Nat) 20).D.scan 1 = [] ∧ (runR D 1 9 (2 : Nat) 20).D.scanE 1 = 0 ∧ ∀ i ∈ l, (runR D 1 9 (2 : Nat) 20).D.load i.block = (i, 0) := by
  have key : ∀ E : Dk, Run2 E 20 (A2 l D0.sec) → E.waits = [] → E.sec 1 = str (zer 64) → E.scan 1 = [] ∧ E.scanE 1 = 0 ∧ ∀ i ∈ l, E.load i.block = (i, 0) := by
    intro E hE _ hz
    obtain ⟨_, r2, r3⟩ := run_none hE.live hz 9 ((2 : Nat) : Int) 20
    refine ⟨r2, r3, fun i hi => ?_⟩
    obtain ⟨hr, h0, hv, hb⟩ := hw.ok i hi
    have hr0 := hr.1
    have hbt : ((i.block.toNat : Nat) : Int) = i.block := by omega
    have hle := load_eq hE.live (b := i.block.toNat) (by omega)
    rw [hbt] at hle
    have s0 := ((hE.safe.sec hE.sane (17 + 2 * i.block)).2.2 i hi).1 rfl
    have s1 := ((hE.safe.sec hE.sane (17 + 2 * i.block + 1)).2.2 i hi).2 rfl
    have e1 : getB i.block (str (secL i 0 ++ secL i 1)) = (i, 0) := getB_put hr hv
    rw [s0, s1, str_list, str_list, e1] at hle
    exact hle
  obtain ⟨hwt, h | ⟨h, hz⟩⟩ := h
  · rcases run_cut hw (by omega) h hwt (by rw [log_same h]; exact hp) with ⟨x, _⟩ | ⟨y1, y2, y3, _, y5⟩
    · rw [ha] at x
      cases x
    · exact ⟨y1, key _ y2 y3 y5⟩
  · have e := (run_none h.live hz 9 ((2 : Nat) : Int) 20).1
    rw [e]
    exact ⟨rfl, key D h hwt hz⟩
end
end Go.Proofs.YtdmjkklidnmogaaGreatDoor

/- A log that lives, plain: it begins; one more record; what is found behind a cut. -/
namespace Go.Proofs.YtdmjkklidnmogaaGreatDoor
open Go.RowKit

theorem used_three : ∀ (l : List En) (n : Nat), (∀ x ∈ l, x.n = 3) → l.foldl (fun n x => n + x.n) n = n + 3 * l.length
  | [], n, _ => rfl
  | x :: l, n, h => by
    rw [List.foldl_cons, used_three l _ (fun y hy => h y (List.mem_cons_of_mem _ hy)), h x (List.mem_cons_self ..), List.length_cons]
    omega
section
variable {ims : List Im} {D : Dk} {g : Lg}
theorem Lv.ens (h : Lv ims D g) : Ens g.live ∧ (∀ x ∈ g.live, x.n = 3) := by
  have key : ∀ x ∈ g.live, x.at_ < 7 ∧ x.n = 3 ∧ (x.written = false → x.bytes.size = x.n * 64) := by
    intro x hx
    obtain ⟨t, ht, e⟩ := List.getElem_of_mem hx
    obtain ⟨i, _, e2⟩ := h.live t x (by rw [← e]; exact List.getElem?_eq_getElem ht)
    rw [e2]
    split
    · exact ⟨Nat.mod_lt _ (by omega), rfl, fun e => by cases e⟩
    · exact ⟨Nat.mod_lt _ (by omega), rfl, fun _ => entry_size _ _ _⟩
  exact ⟨fun x hx => ⟨(key x hx).1, by rw [(key x hx).2.1]; omega, (key x hx).2.2⟩, fun x hx => (key x hx).2.1⟩
theorem Lv.used (h : Lv ims D g) : g.used = 3 * g.live.length := by
  unfold Lg.used
  rw [used_three _ _ h.ens.2]
  omega
theorem Lv.add (h : Lv ims D g) (l : List Im) (hv : ∀ i ∈ l, i.ver < 18446744073709551616) (hN : ims.length < 100000) : (g.addE l ≠ 0 ∧ g.addG l = g) ∨ ∃ i, l = [i] ∧ g.addE l = 0 ∧ Lv (ims ++ [i]) D (g.addG l) := by
  by_cases h0 : g.addE l = 0
  · right
    have hg : g.addG l = { g with live := g.live ++ [g.entry l], at_ := (g.at_ + secsOf l.length) % 7, next := (g.next + 1) % 18446744073709551616 } := if_neg (by rw [h0]; decide)
    unfold Lg.addE at h0
    rw [if_neg (by rw [h.whole]; decide)] at h0
    split at h0
    · rename_i h1
      exact absurd h0 h1
    · rename_i h1
      split at h0
      · omega
      · rename_i h2
        split at h0
        · omega
        · rename_i h3
          have h1 : (Rc.mk g.epoch g.next l).wrongE = 0 := Decidable.not_not.1 h1
          obtain ⟨w1, w2, w3, w4, w5, w6⟩ := wrong_zero h1
          have w3 : l ≠ [] := w3
          have w4 : ∀ i ∈ l, i.right := w4
          obtain ⟨i, rfl⟩ : ∃ i, l = [i] := by
            cases l with
            | nil => exact absurd rfl w3
            | cons i t =>
              cases t with
              | nil => exact ⟨i, rfl⟩
              | cons j t => exact absurd (by simp) h2
          · have hfi : Fine i := ⟨w4 i (List.mem_singleton.2 rfl), hv i (List.mem_singleton.2 rfl)⟩
            have hu := h.used
            have e3 : secsOf (([i] : List Im).length : Int) = 3 := secs_one
            rw [e3] at h3 hg
            have len := h.len
            have few := h.few
            have f1 := h.f1
            have f2 := h.f2
            have sw := h.sw
            have wn := h.wn
            have hen : g.entry [i] = enM (ims.length + 1) i := by
              unfold Lg.entry enM enOf Rc.putS
              rw [h.next, h.at_, h.epoch, e3]
              rw [h.next, h.epoch] at h1
              rw [if_pos h1, Nat.add_sub_cancel]
              rfl
            rw [hen] at hg
            have hge : g.addE [i] = 0 := by
              unfold Lg.addE
              rw [if_neg (by rw [h.whole]; decide), if_neg (by rw [h1]; decide), if_neg (by simp), e3, if_neg h3]
            refine ⟨i, rfl, hge, ?_⟩
            rw [hg]
            have htk : (ims ++ [i]).take g.written = ims.take g.written := List.take_append_of_le_length wn
            refine ⟨by show Run1 D 9 (AA ((ims ++ [i]).take g.written) _ g.first g.synced); rw [htk]; exact h.run, h.node, h.epoch, h.base, ?_, ?_, h.whole, f1, f2, sw, ?_, ?_, ?_, ?_, ?_, ?_, ?_, ?_⟩
            · show (g.next + 1) % 18446744073709551616 = _
              rw [h.next, List.length_append, List.length_singleton, Nat.mod_eq_of_lt (by omega)]
            · show (g.at_ + 3) % 7 = _
              rw [h.at_, List.length_append, List.length_singleton]
              omega
            · show g.written ≤ _
              rw [List.length_append]
              omega
            · show _ < g.first + 2
              rw [List.length_append, List.length_singleton]
              omega
            · intro j hj
              rcases List.mem_append.1 hj with hj | hj
              · exact h.fine j hj
              · rw [List.mem_singleton.1 hj]
                exact hfi
            · show (g.live ++ [_]).length = _ + 1 - g.first
              rw [List.length_append, List.length_singleton, List.length_append, List.length_singleton, len]
              omega
            · intro t x hx
              have hx : (g.live ++ [enM (ims.length + 1) i])[t]? = some x := hx
              show ∃ j, (ims ++ [i])[g.first + t - 1]? = some j ∧ x = if g.first + t ≤ g.written then _ else _
              by_cases ht : t < g.live.length
              · rw [List.getElem?_append_left ht] at hx
                obtain ⟨j, j0, j1⟩ := h.live t x hx
                exact ⟨j, by rw [List.getElem?_append_left (List.getElem?_eq_some_iff.1 j0).1]; exact j0, j1⟩
              · have hl := (List.getElem?_eq_some_iff.1 hx).1
                rw [List.length_append, List.length_singleton] at hl
                have et : t = g.live.length := by omega
                subst et
                rw [List.getElem?_append_right (Nat.le_refl _), Nat.sub_self] at hx
                have e9 : g.first + g.live.length = ims.length + 1 := by omega
                rw [e9]
                refine ⟨i, by rw [Nat.add_sub_cancel, List.getElem?_append_right (Nat.le_refl _), Nat.sub_self]; rfl, ?_⟩
                rw [if_neg (by omega)]
                simpa using hx.symm
            · intro m j c m1 m2 mi hc
              have m1 : g.first ≤ m := m1
              have m2 : m ≤ g.written := m2
              rw [List.getElem?_append_left (by omega)] at mi
              exact h.now m j c m1 m2 mi hc
            · rw [List.length_append, List.length_singleton]
              omega
            · exact h.last
  · exact .inl ⟨h0, if_pos h0⟩
end
set_option maxRecDepth 100000 in
/-- a log begins -/
theorem lv_open : Lv [] (readyD.lhead lg0 ⟨9, 1, 0⟩).2 lg0 ∧ (readyD.lhead lg0 ⟨9, 1, 0⟩).1 = 0 ∧ (readyD.lhead lg0 ⟨9, 1, 0⟩).2.armed = false := by
  obtain ⟨c1, c2, c3, c4⟩ := ready_facts
  have hq := quiet_ready
  have e := open_form c1 c3
  have e0 := (lhead_ok c1 (g := lg0) (by decide) c3 (by decide) (by decide) hd9_ok)
  have hsc := writeN_sec readyD ((1 : Nat) : Int) 1 (str hd9) 1
  generalize readyD = D at c1 c2 c3 c4 hq e e0 hsc
  have s1 := writeN_same D ((1 : Nat) : Int) 1 (str hd9) 1
  have s2 := settle_same (D.writeN ((1 : Nat) : Int) 1 (str hd9) 1) ((1 : Nat) : Int)
  have h0 : sect (str hd9) 0 = str hd9 := by
    unfold sect
    rw [extract_str]
    congr 1
    all_goals unfold hd9
    all_goals rw [Nat.zero_mul, List.drop_zero, List.take_of_length_le (by rw [headL_len]; first | done | omega)]
  have hsa : Sane D ((1 : Nat) : Int) := hq.sane.any hq.waits _
  have hst := (hsa.writeN 1 (str hd9) 1).settle ((1 : Nat) : Int)
  refine ⟨?_, by rw [e0.1], ?_⟩
  · rw [e]
    refine ⟨⟨s2.1.trans (s1.1.trans c1.on), s2.2.2.1.trans (s1.2.2.1.trans c1.sectors), by rw [(settle_tab _ _).1, s1.2.2.2.2.2.1]; exact c3, hst.1, safe_of_sec hst.1 hst.2.1 (fun k => ?_)⟩, rfl, rfl, rfl, rfl, rfl, rfl, Nat.le_refl _, Nat.le_refl _, Nat.le_refl _, Nat.le_refl _, by show 0 < 3; decide, (fun i hi => by cases hi), rfl, (fun t x hx => by cases hx), (fun m i c m1 m2 mi => by cases mi), Nat.zero_le _, s2.2.2.2.1.trans (s1.2.2.2.1.trans c2)⟩
    rw [settle_sec, hsc]
    refine ⟨fun e => ⟨1, rfl, ?_⟩, fun j hj e => ⟨zer 64, ?_, .inl rfl⟩, (fun m i c _ _ mi => by cases mi), fun e => by rw [if_neg (by omega), c4, if_neg (by omega)]⟩
    · rw [if_pos (by omega), show (k - 1).toNat = 0 by omega, h0]
      rfl
    · rw [if_neg (by omega), c4, if_neg (by omega)]
  · rw [e]
    exact s2.2.1.trans (s1.2.1.trans c1.armed)
/-- what stands behind a cut -/
structure Fin_ (ims : List Im) (hs : Nat → Prop) (F S : Nat) (D : Dk) : Prop where
  live : Live D
  t1 : D.table 1 = 9
  sane : Sane D ((1 : Nat) : Int)
  waits : D.waits = []
  all : ∀ k, AA ims hs F S k (D.sec k)
  armed : D.armed = false
def finD (D : Dk) (keep : List Int) : Dk := (((D.arm (-1) []).cut keep).2).restore
theorem Run1.fin {ims : List Im} {hs : Nat → Prop} {F S : Nat} {D : Dk} (h : Run1 D 9 (AA ims hs F S)) (keep : List Int) : Fin_ ims hs F S (finD D keep) := by
  have h1 : Run1 (D.arm (-1) []) 9 (AA ims hs F S) := ⟨h.on, h.sectors, h.t1, ⟨h.sane.nodes, h.sane.now, h.sane.chain⟩, ⟨h.safe.last, h.safe.wait⟩⟩
  obtain ⟨a, b, c⟩ := cut_leaves h1.sane h1.safe h1.on keep ((1 : Nat) : Int)
  obtain ⟨d1, d2, d3, d4, d5, d6, d7, d8⟩ := cut_same (D.arm (-1) []) keep
  unfold finD
  generalize ((D.arm (-1) []).cut keep).2 = E at a b c d1 d3 d8
  have hS : Safe E.restore (AA ims hs F S) := ⟨b.last, b.wait⟩
  have hN : Sane E.restore ((1 : Nat) : Int) := ⟨a.nodes, a.now, a.chain⟩
  exact ⟨⟨rfl, d1.trans h1.sectors⟩, by show E.table 1 = 9; rw [d3]; exact h1.t1, hN, c, fun k => hS.sec hN k, d8⟩
theorem Off1.fin {ims : List Im} {hs : Nat → Prop} {F S : Nat} {D : Dk} (h : Off1 D 9 (AA ims hs F S)) (keep : List Int) : Fin_ ims hs F S (finD D keep) := by
  have e : ((D.arm (-1) []).cut keep).2 = (D.arm (-1) []).arm (-1) [] := by
    unfold Dk.cut
    rw [if_pos (show (D.arm (-1) []).on = false from h.on)]
  unfold finD
  rw [e]
  have hN : Sane ((D.arm (-1) []).arm (-1) []).restore ((1 : Nat) : Int) := ⟨h.sane.nodes, h.sane.now, h.sane.chain⟩
  have hS : Safe ((D.arm (-1) []).arm (-1) []).restore (AA ims hs F S) := ⟨h.safe.last, h.safe.wait⟩
  exact ⟨⟨rfl, h.sectors⟩, h.t1, hN, h.waits, fun k => hS.sec hN k, rfl⟩
theorem rot_app (x y : List UInt8) : rotS (str (x ++ y)) x.length = str (y ++ x) := by
  unfold rotS
  rw [extract_str, extract_str, str_size, List.take_of_length_le (Nat.le_refl _), List.drop_left, List.take_left, List.drop_zero]
  refine ByteArray.ext ?_
  apply Array.toList_inj.1
  simp [str]
/-- seven sectors, from one of them on -/
def ring7 (s : Nat → List UInt8) (a : Nat) : List UInt8 := s a ++ (s ((a + 1) % 7) ++ (s ((a + 2) % 7) ++ (s ((a + 3) % 7) ++ (s ((a + 4) % 7) ++ (s ((a + 5) % 7) ++ s ((a + 6) % 7))))))
theorem ring_rot (s : Nat → List UInt8) (h : ∀ j, j < 7 → (s j).length = 64) (a : Nat) (ha : a < 7) : rotS (str (ring7 s 0)) (a * 64) = str (ring7 s a) := by
  have l0 := h 0 (by omega)
  have l1 := h 1 (by omega)
  have l2 := h 2 (by omega)
  have l3 := h 3 (by omega)
  have l4 := h 4 (by omega)
  have l5 := h 5 (by omega)
  have key : ∀ x y : List UInt8, x ++ y = ring7 s 0 → x.length = a * 64 → y ++ x = ring7 s a → rotS (str (ring7 s 0)) (a * 64) = str (ring7 s a) := by
    intro x y e1 e2 e3
    rw [← e1, ← e2, rot_app, e3]
  match a, ha with
  | 0, _ => exact key [] (ring7 s 0) rfl rfl (by simp)
  | 1, _ => exact key (s 0) (s 1 ++ (s 2 ++ (s 3 ++ (s 4 ++ (s 5 ++ s 6))))) rfl (by omega) (by simp [ring7])
  | 2, _ => exact key (s 0 ++ s 1) (s 2 ++ (s 3 ++ (s 4 ++ (s 5 ++ s 6)))) (by simp [ring7]) (by simp; omega) (by simp [ring7])
  | 3, _ => exact key (s 0 ++ (s 1 ++ s 2)) (s 3 ++ (s 4 ++ (s 5 ++ s 6))) (by simp [ring7]) (by simp; omega) (by simp [ring7])
  | 4, _ => exact key (s 0 ++ (s 1 ++ (s 2 ++ s 3))) (s 4 ++ (s 5 ++ s 6)) (by simp [ring7]) (by simp; omega) (by simp [ring7])
  | 5, _ => exact key (s 0 ++ (s 1 ++ (s 2 ++ (s 3 ++ s 4)))) (s 5 ++ s 6) (by simp [ring7]) (by simp; omega) (by simp [ring7])
  | 6, _ => exact key (s 0 ++ (s 1 ++ (s 2 ++ (s 3 ++ (s 4 ++ s 5))))) (s 6) (by simp [ring7]) (by simp; omega) (by simp [ring7])
/-- a head that is right, and its place -/
theorem head_scan {D : Dk} (h : Live D) {H : Nat} (h1 : 1 ≤ H) (h2 : H < 18446744073709551616) (hs : D.sec 1 = hdB H) : D.scan 1 = scanL 9 10 H (rotS (str (D.readL 2 7)) (3 * (H - 1) % 7 * 64)) ∧ D.scanE 1 = 0 ∧ D.headE 1 = 0 ∧ D.headI 1 = true ∧ (D.headH 1).epoch = 9 := by
  obtain ⟨a, ha⟩ : ∃ a, 3 * (H - 1) % 7 = a := ⟨_, rfl⟩
  have hal : a < 7 := by omega
  unfold hdB at hs
  rw [ha] at hs
  obtain ⟨_, e2, e3, e4⟩ := head_of h (h := ⟨9, H, ((a : Nat) : Int)⟩) (hd_ok h1 hal) (show (9 : Nat) < 18446744073709551616 by decide) h2 (by show ((a : Nat) : Int) < 7; omega) hs
  obtain ⟨r1, r2⟩ := h.read (at_ := 2) (n := 7) (by omega) (by omega) (by omega)
  have hr : D.readE ((logAt 1).1 + 1) 7 = 0 := r1
  refine ⟨?_, ?_, e4, e3, by rw [e2]⟩
  · unfold Dk.scan
    rw [if_neg (by rw [e4, e3, hr]; decide), e2]
    have e : D.readS ((logAt 1).1 + 1) 7 = str (D.readL 2 7) := r2
    rw [e, ha]
    show scanL 9 10 H (rotS (str (D.readL 2 7)) (((a : Nat) : Int).toNat * 64)) = _
    rw [Int.toNat_natCast]
  · unfold Dk.scanE
    rw [if_neg (by rw [e4]; decide), if_neg (by rw [e3]; decide)]
    exact hr
theorem read_ring (D : Dk) : D.readL 2 7 = ring7 (fun j => (D.sec (2 + (j : Int))).data.toList) 0 := by
  unfold Dk.readL ring7
  simp [List.range_succ]
/-- what is found -/
theorem Fin_.found {ims : List Im} {hs : Nat → Prop} {F S : Nat} {D : Dk} (h : Fin_ ims hs F S D) (hf : ∀ i ∈ ims, Fine i) (hN : ims.length ≤ 100000) (hF : 1 ≤ F) (hSN : S ≤ ims.length) (hfew : ims.length < F + 2) (hh : ∀ H, hs H → F ≤ H ∧ H ≤ S + 1) :
    D.scanE 1 = 0 ∧ ∃ H, hs H ∧ D.sec 1 = hdB H ∧ Found ims H (D.scan 1) ∧ (D.scan 1).length ≤ 2 ∧ (H ≤ S → S < H + (D.scan 1).length) := by
  obtain ⟨H, hH, eH⟩ := (h.all 1).head rfl
  obtain ⟨b1, b2⟩ := hh H hH
  obtain ⟨a, ha⟩ : ∃ a, 3 * (H - 1) % 7 = a := ⟨_, rfl⟩
  have hal : a < 7 := by omega
  obtain ⟨s1, s2, _⟩ := head_scan h.live (H := H) (by omega) (by omega) eH
  have hsec : ∀ j : Nat, j < 7 → ∃ t, D.sec (2 + (j : Int)) = str t ∧ Sound ims t := fun j hj => (h.all _).ring j hj rfl
  obtain ⟨s, hs'⟩ : ∃ s : Nat → List UInt8, s = fun j => (D.sec (2 + ((j : Nat) : Int))).data.toList := ⟨_, rfl⟩
  have hsnd : ∀ j, j < 7 → Sound ims (s j) := fun j hj => by
    obtain ⟨t, e, ht⟩ := hsec j hj
    rw [hs']
    simp only
    rw [e, str_list]
    exact ht
  have hexa : ∀ (m : Nat) i (c : Nat), F ≤ m → m ≤ S → ims[m - 1]? = some i → c < 3 → s (plc m c) = secR m i c := fun m i c m1 m2 mi hc => by
    rw [hs']
    simp only
    rw [(h.all _).exact_ m i c m1 m2 mi hc rfl, str_list]
  have er : D.readL 2 7 = ring7 s 0 := by rw [read_ring, hs']
  rw [ha, er, ring_rot s (fun j hj => (hsnd j hj).len) a hal] at s1
  clear hs' er hsec
  have hm : ∀ c, (a + c) % 7 < 7 := fun c => Nat.mod_lt _ (by omega)
  obtain ⟨r1, r2, r3⟩ := scan_ring hf (by omega) (H := H) (by omega) (by omega) (hsnd a hal) (hsnd _ (hm 1)) (hsnd _ (hm 2)) (hsnd _ (hm 3)) (hsnd _ (hm 4)) (hsnd _ (hm 5)) (hsnd _ (hm 6)) (D.scan 1) s1.symm
  refine ⟨s2, H, hH, eH, r1, r2, fun hHS => ?_⟩
  have hp : ∀ c, c < 3 → plc H c = (a + c) % 7 := fun c hc => by unfold plc; omega
  obtain ⟨i, hi⟩ : ∃ i, ims[H - 1]? = some i := ⟨_, List.getElem?_eq_getElem (by omega)⟩
  obtain ⟨q1, q2⟩ := r3 i hi (by have := hexa H i 0 b1 hHS hi (by omega); rw [hp 0 (by omega)] at this; rw [show (a + 0) % 7 = a by omega] at this; exact this)
    (by have := hexa H i 1 b1 hHS hi (by omega); rwa [hp 1 (by omega)] at this) (by have := hexa H i 2 b1 hHS hi (by omega); rwa [hp 2 (by omega)] at this)
  by_cases hS2 : S = H
  · omega
  · have hS3 : S = H + 1 := by omega
    obtain ⟨j, hj⟩ : ∃ j, ims[H]? = some j := ⟨_, List.getElem?_eq_getElem (by omega)⟩
    have hp2 : ∀ c, c < 3 → plc (H + 1) c = (a + (3 + c)) % 7 := fun c hc => by unfold plc; omega
    have := q2 j hj (by have := hexa (H + 1) j 0 (by omega) (by omega) (by simpa using hj) (by omega); rwa [hp2 0 (by omega)] at this)
      (by have := hexa (H + 1) j 1 (by omega) (by omega) (by simpa using hj) (by omega); rwa [hp2 1 (by omega)] at this) (by have := hexa (H + 1) j 2 (by omega) (by omega) (by simpa using hj) (by omega); rwa [hp2 2 (by omega)] at this)
    omega
end Go.Proofs.YtdmjkklidnmogaaGreatDoor
