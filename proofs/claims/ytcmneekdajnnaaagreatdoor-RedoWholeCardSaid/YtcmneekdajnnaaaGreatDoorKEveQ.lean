/- Apply and Run, wherever the power goes. -/
import Derived.Test.YtcmneekdajnnaaaGreatDoorKLawV
namespace Go.Proofs.YtcmneekdajnnaaaGreatDoor
open Go.RowKit

theorem wants_inj : ∀ {l : List Im}, l.Pairwise (fun i j => i.block ≠ j.block) → ∀ {i j : Im}, i ∈ l → j ∈ l → i.block = j.block → i = j
  | x :: l, hp, i, j, hi, hj, e => by
    have hp' := List.pairwise_cons.1 hp
    rcases List.mem_cons.1 hi with hi1 | hi1
    · rcases List.mem_cons.1 hj with hj1 | hj1
      · rw [hi1, hj1]
      · exact absurd (by rw [← hi1, e]) (hp'.1 j hj1)
    · rcases List.mem_cons.1 hj with hj1 | hj1
      · exact absurd (by rw [← hj1, ← e]) (hp'.1 i hi1)
      · exact wants_inj hp'.2 hi1 hj1 e
theorem apply_skip {D : Dk} {node : Int} {epoch : Nat} {i : Im} (h : D.load i.block = (i, 0)) (l : List Im) (n : Nat) : applyGo node epoch (i :: l) n D = applyGo node epoch l n D := by
  rw [apply_one h, if_pos (Nat.le_refl _)]
theorem apply_put {D : Dk} {node : Int} {epoch : Nat} {i : Im} (h : (∃ was : Im, D.load i.block = (was, 0) ∧ was.ver < i.ver) ∨ D.load i.block = (Im.zero, 6)) (l : List Im) (n : Nat) :
    applyGo node epoch (i :: l) n D = if (D.store node epoch i).1 ≠ 0 then ⟨0, (D.store node epoch i).1, (D.store node epoch i).2⟩ else applyGo node epoch l (n + 1) (D.store node epoch i).2 := by
  rcases h with ⟨was, h1, h2⟩ | h1
  · rw [apply_one h1, if_neg (by omega)]
  · rw [applyGo_cons, h1, if_neg (by simp [tornE]), if_neg (by simp [tornE])]
section
variable {D : Dk} {e : Nat} {l : List Im} {lg : Int → ByteArray}
theorem store_write {i : Im} (hr : i.right) (hb : i.block ≤ 9) (node : Int) : D.store node e i = D.write node e (17 + 2 * i.block) (str (blkL i)) := by
  have h0 := hr.1
  have hba : blockAt i.block = (17 + 2 * i.block, 0) := if_neg (by omega)
  unfold Dk.store
  rw [hba, if_neg (by simp), if_neg (by simp [hr])]
theorem Run2.load3 (h : Run2 D e (A1 l lg)) (hw : Wants l) {i : Im} (hi : i ∈ l) :
    (D.load i.block = (i, 0) ∧ D.sec (17 + 2 * i.block) = str (secL i 0) ∧ D.sec (17 + 2 * i.block + 1) = str (secL i 1)) ∨ ((∃ was : Im, D.load i.block = (was, 0) ∧ was.ver < i.ver) ∨ D.load i.block = (Im.zero, 6)) := by
  obtain ⟨hr, h0, hv, hb⟩ := hw.ok i hi
  have hr0 := hr.1
  have hbt : ((i.block.toNat : Nat) : Int) = i.block := by omega
  have hle := load_eq h.live (b := i.block.toNat) (by omega)
  rw [hbt] at hle
  have s0 := ((h.safe.sec h.sane (17 + 2 * i.block)).2.2 i hi).1 rfl
  have s1 := ((h.safe.sec h.sane (17 + 2 * i.block + 1)).2.2 i hi).2 rfl
  rcases s0 with s0 | s0
  · rcases s1 with s1 | s1
    · rw [s0, s1, str_list, zer_app] at hle
      refine .inr (.inl ⟨⟨i.block, 0, str (zer 96)⟩, hle.trans ?_, h0⟩)
      unfold getB
      rw [if_neg (by rw [str_size, zer_len]; omega), if_pos rfl]
    · rw [s0, s1, str_list, str_list, torn_b hr] at hle
      exact .inr (.inr hle)
  · rcases s1 with s1 | s1
    · rw [s0, s1, str_list, str_list, torn_a hr] at hle
      exact .inr (.inr hle)
    · have e1 : getB i.block (str (secL i 0 ++ secL i 1)) = (i, 0) := getB_put hr hv
      rw [s0, s1, str_list, str_list, e1] at hle
      exact .inl ⟨hle, s0, s1⟩
/-- what Apply leaves, where the power stays -/
structure ApOk (D : Dk) (e : Nat) (A : Int → ByteArray → Prop) (l : List Im) (n : Nat) (R : ApR) : Prop where
  err : R.e = 0
  run : Run2 R.D e A
  armed : R.D.armed = D.armed
  halves : ∀ i ∈ l, R.D.sec (17 + 2 * i.block) = str (secL i 0) ∧ R.D.sec (17 + 2 * i.block + 1) = str (secL i 1)
  other : ∀ k, (∀ i ∈ l, k ≠ 17 + 2 * i.block ∧ k ≠ 17 + 2 * i.block + 1) → R.D.sec k = D.sec k
  cnt : n ≤ R.n
  same : R.n = n → R.D = D
theorem apply_all (hw : Wants l) (h0 : e ≠ 0) : ∀ (m : List Im) (n : Nat) (D : Dk), (∀ i ∈ m, i ∈ l) → m.Pairwise (fun i j => i.block ≠ j.block) → Run2 D e (A1 l lg) →
    (D.armed = true ∧ (applyGo (2 : Nat) e m n D).e ≠ 0 ∧ Off2 (applyGo (2 : Nat) e m n D).D e (A1 l lg)) ∨ ApOk D e (A1 l lg) m n (applyGo (2 : Nat) e m n D)
  | [], n, D, _, _, h => .inr ⟨rfl, h, rfl, (fun i hi => by cases hi), fun _ _ => rfl, Nat.le_refl _, fun _ => rfl⟩
  | i :: m, n, D, hm, hp, h => by
    have hp' := List.pairwise_cons.1 hp
    have hi := hm i (List.mem_cons_self ..)
    have hm' : ∀ j ∈ m, j ∈ l := fun j hj => hm j (List.mem_cons_of_mem _ hj)
    obtain ⟨hr, hv0, hv, hb⟩ := hw.ok i hi
    have hr0 := hr.1
    rcases h.load3 hw hi with ⟨g1, g2, g3⟩ | hput
    · rw [apply_skip g1]
      rcases apply_all hw h0 m n D hm' hp'.2 h with hx | hx
      · exact .inl hx
      · refine .inr ⟨hx.err, hx.run, hx.armed, fun j hj => ?_, fun k hk => hx.other k (fun j hj => hk j (List.mem_cons_of_mem _ hj)), hx.cnt, hx.same⟩
        rcases List.mem_cons.1 hj with rfl | hj
        · refine ⟨(hx.other _ (fun j' hj' => ?_)).trans g2, (hx.other _ (fun j' hj' => ?_)).trans g3⟩
          · have := hp'.1 j' hj'
            omega
          · have := hp'.1 j' hj'
            omega
        · exact hx.halves j hj
    · rw [apply_put hput, store_write hr hb]
      obtain ⟨q0, q1⟩ := sect_blk hr
      rcases h.write h0 (a := 17 + 2 * i.block) (data := str (blkL i)) (m := 2) (by rw [str_size, blkL_len hr]) (by omega) (by omega) (by omega) (by omega) with ⟨w1, w2, w3⟩ | ⟨nl, w1⟩
      · left
        rw [if_pos (by rw [w2]; decide)]
        exact ⟨w1, by rw [w2]; simp, w3⟩
      · rw [w1, if_neg (by simp)]
        have hrun : Run2 (({ D with left := nl } : Dk).writeN (2 : Nat) (17 + 2 * i.block) (str (blkL i)) 2) e (A1 l lg) := by
          refine (h.left nl).wrote (fun j hj => ?_)
          rcases (show j = 0 ∨ j = 1 by omega) with rfl | rfl
          · rw [q0]
            refine ⟨fun hk => by omega, fun _ hk => by omega, fun i' hi' => ⟨fun hk => .inr ?_, fun hk => by omega⟩⟩
            rw [wants_inj hw.one hi hi' (by omega)]
          · rw [q1]
            refine ⟨fun hk => by omega, fun _ hk => by omega, fun i' hi' => ⟨fun hk => by omega, fun hk => .inr ?_⟩⟩
            rw [wants_inj hw.one hi hi' (by omega)]
        have hsec : ∀ k, (({ D with left := nl } : Dk).writeN (2 : Nat) (17 + 2 * i.block) (str (blkL i)) 2).sec k = if 17 + 2 * i.block ≤ k ∧ k < 17 + 2 * i.block + ((2 : Nat) : Int) then sect (str (blkL i)) (k - (17 + 2 * i.block)).toNat else D.sec k := fun k => writeN_sec _ _ _ _ _ _
        have harm : (({ D with left := nl } : Dk).writeN (2 : Nat) (17 + 2 * i.block) (str (blkL i)) 2).armed = D.armed := (writeN_same _ _ _ _ _).2.1
        generalize ({ D with left := nl } : Dk).writeN (2 : Nat) (17 + 2 * i.block) (str (blkL i)) 2 = E at hrun hsec harm
        show (D.armed = true ∧ (applyGo (2 : Nat) e m (n + 1) E).e ≠ 0 ∧ Off2 (applyGo (2 : Nat) e m (n + 1) E).D e (A1 l lg)) ∨ ApOk D e (A1 l lg) (i :: m) n (applyGo (2 : Nat) e m (n + 1) E)
        rcases apply_all hw h0 m (n + 1) E hm' hp'.2 hrun with ⟨x1, x2, x3⟩ | hx
        · exact .inl ⟨harm ▸ x1, x2, x3⟩
        · have hc := hx.cnt
          refine .inr ⟨hx.err, hx.run, hx.armed.trans harm, fun j hj => ?_, fun k hk => ?_, by omega, fun hn => by omega⟩
          · rcases List.mem_cons.1 hj with rfl | hj
            · refine ⟨(hx.other _ (fun j' hj' => ?_)).trans ?_, (hx.other _ (fun j' hj' => ?_)).trans ?_⟩
              · have := hp'.1 j' hj'
                omega
              · rw [hsec, if_pos (by omega)]
                have : (17 + 2 * j.block - (17 + 2 * j.block)).toNat = 0 := by omega
                rw [this, q0]
              · have := hp'.1 j' hj'
                omega
              · rw [hsec, if_pos (by omega)]
                have : (17 + 2 * j.block + 1 - (17 + 2 * j.block)).toNat = 1 := by omega
                rw [this, q1]
            · exact hx.halves j hj
          · rw [hx.other k (fun j hj => hk j (List.mem_cons_of_mem _ hj)), hsec, if_neg]
            have := hk i (List.mem_cons_self ..)
            omega
theorem a2_of {k : Int} {v : ByteArray} (h : A1 l lg k v) (hh : ∀ i ∈ l, (k = 17 + 2 * i.block → v = str (secL i 0)) ∧ (k = 17 + 2 * i.block + 1 → v = str (secL i 1))) : A2 l lg k v := ⟨fun hk => .inl (h.1 hk), h.2.1, hh⟩
theorem a1_of {k : Int} {v : ByteArray} (h : A2 l lg k v) (hh : k = 1 → v = str hd9) : A1 l lg k v := ⟨hh, h.2.1, fun i hi => ⟨fun hk => .inr ((h.2.2 i hi).1 hk), fun hk => .inr ((h.2.2 i hi).2 hk)⟩⟩
theorem halves_at {E : Dk} (hh : ∀ i ∈ l, E.sec (17 + 2 * i.block) = str (secL i 0) ∧ E.sec (17 + 2 * i.block + 1) = str (secL i 1)) (k : Int) : ∀ i ∈ l, (k = 17 + 2 * i.block → E.sec k = str (secL i 0)) ∧ (k = 17 + 2 * i.block + 1 → E.sec k = str (secL i 1)) :=
  fun i hi => ⟨fun hk => by rw [hk]; exact (hh i hi).1, fun hk => by rw [hk]; exact (hh i hi).2⟩
theorem applyR_cut (hw : Wants l) (h0 : e ≠ 0) (h : Run2 D e (A1 l lg)) (hwt : D.waits = []) :
    (D.armed = true ∧ (applyR D (2 : Nat) e l).e ≠ 0 ∧ Off2 (applyR D (2 : Nat) e l).D e (A1 l lg)) ∨
    ((applyR D (2 : Nat) e l).e = 0 ∧ Run2 (applyR D (2 : Nat) e l).D e (A2 l lg) ∧ (applyR D (2 : Nat) e l).D.waits = [] ∧ (applyR D (2 : Nat) e l).D.armed = D.armed ∧ (applyR D (2 : Nat) e l).D.sec 1 = str hd9) := by
  unfold applyR
  rcases apply_all hw h0 l 0 D (fun _ hi => hi) hw.one h with ⟨x1, x2, x3⟩ | hx
  · left
    rw [if_pos x2]
    exact ⟨x1, x2, x3⟩
  · obtain ⟨y1, y2, y3, y4, y5, y6, y7⟩ := hx
    generalize applyGo (2 : Nat) e l 0 D = A at y1 y2 y3 y4 y5 y6 y7
    obtain ⟨n, er, E⟩ := A
    simp only at y1 y2 y3 y4 y5 y6 y7 ⊢
    rw [if_neg (by rw [y1]; decide)]
    have hE1 : E.sec 1 = str hd9 := (y2.safe.sec y2.sane 1).1 rfl
    by_cases hn : n = 0
    · right
      rw [if_pos hn]
      have hED := y7 hn
      refine ⟨y1, y2.weak (by rw [hED]; exact hwt) (fun k => a2_of (y2.safe.sec y2.sane k) (halves_at y4 k)), by rw [hED]; exact hwt, y3, hE1⟩
    · rw [if_neg hn]
      rcases y2.barrier h0 with ⟨w1, w2, w3⟩ | ⟨nl, w1⟩
      · left
        rw [if_pos (by rw [w2]; decide)]
        exact ⟨y3 ▸ w1, by rw [w2]; simp, w3⟩
      · right
        rw [w1, if_neg (by simp)]
        obtain ⟨z1, z2⟩ := (y2.left nl).settle
        have hs : ∀ k, (({ E with left := nl } : Dk).settle (2 : Nat)).sec k = E.sec k := fun k => settle_sec _ _ _
        refine ⟨rfl, z1.weak z2 (fun k => ?_), z2, ?_, (hs 1).trans hE1⟩
        · show A2 l lg k ((({ E with left := nl } : Dk).settle (2 : Nat)).sec k)
          rw [hs]
          exact a2_of (y2.safe.sec y2.sane k) (halves_at y4 k)
        · show (({ E with left := nl } : Dk).settle (2 : Nat)).armed = D.armed
          rw [(settle_same _ _).2.1]
          exact y3
theorem live_scan (h : Live D) (hs : D.sec 1 = str hd9) : D.scan 1 = scanL 9 10 1 (str (D.readL 2 7)) ∧ D.scanE 1 = 0 ∧ D.headE 1 = 0 ∧ D.headI 1 = true ∧ (D.headH 1).epoch = 9 := by
  obtain ⟨_, h2, h3, h4⟩ := head_of h (h := ⟨9, 1, 0⟩) hd9_ok (by decide) (by decide) (by decide) hs
  obtain ⟨r1, r2⟩ := h.read (at_ := 2) (n := 7) (by omega) (by omega) (by omega)
  have hr : D.readE ((logAt 1).1 + 1) 7 = 0 := r1
  refine ⟨?_, ?_, h4, h3, by rw [h2]⟩
  · unfold Dk.scan
    rw [if_neg (by rw [h4, h3, hr]; decide), h2]
    have e : D.readS ((logAt 1).1 + 1) 7 = str (D.readL 2 7) := r2
    rw [e]
    have : rotS (str (D.readL 2 7)) (Int.toNat (⟨9, 1, 0⟩ : Hd).at_ * 64) = str (D.readL 2 7) := by
      show rotS (str (D.readL 2 7)) 0 = _
      unfold rotS
      rw [extract_str, extract_str, str_size, List.drop_zero, List.take_of_length_le (Nat.le_refl _), List.take_zero, List.drop_zero]
      refine ByteArray.ext ?_
      apply Array.toList_inj.1
      simp
      rfl
    rw [this]
  · unfold Dk.scanE
    rw [if_neg (by rw [h4]; decide), if_neg (by rw [h3]; decide)]
    exact hr
theorem run_cut (hw : Wants l) (h0 : e ≠ 0) (h : Run2 D e (A1 l lg)) (hwt : D.waits = []) (hp : planOf (scanL 9 10 1 (str (D.readL 2 7))) = l) :
    (D.armed = true ∧ (runR D 1 9 (2 : Nat) e).e ≠ 0 ∧ (Off2 (runR D 1 9 (2 : Nat) e).D e (A1 l lg) ∨ Off2 (runR D 1 9 (2 : Nat) e).D e (A2 l lg))) ∨
    ((runR D 1 9 (2 : Nat) e).e = 0 ∧ Run2 (runR D 1 9 (2 : Nat) e).D e (A2 l lg) ∧ (runR D 1 9 (2 : Nat) e).D.waits = [] ∧ (runR D 1 9 (2 : Nat) e).D.armed = D.armed ∧ (runR D 1 9 (2 : Nat) e).D.sec 1 = str (zer 64)) := by
  obtain ⟨c1, c2, c3, c4, c5⟩ := live_scan h.live ((h.safe.sec h.sane 1).1 rfl)
  unfold runR
  rw [c1, hp, c2, c3, c4, c5, if_neg (by decide), if_neg (by decide), if_neg (by decide)]
  rcases applyR_cut hw h0 h hwt with ⟨x1, x2, x3⟩ | ⟨y1, y2, y3, y4, y5⟩
  · left
    rw [if_pos x2]
    exact ⟨x1, x2, .inl x3⟩
  · generalize applyR D (2 : Nat) e l = A at y1 y2 y3 y4 y5
    obtain ⟨n, er, E⟩ := A
    simp only at y1 y2 y3 y4 y5 ⊢
    rw [if_neg (by rw [y1]; decide)]
    have hla : (logAt 1).1 = 1 := rfl
    rw [hla]
    have hse : sect (str (zer 64)) 0 = str (zer 64) := sect_zer (by omega)
    rcases y2.write h0 (a := 1) (data := str (zer 64)) (m := 1) (by rw [str_size, zer_len]) (by omega) (by omega) (by omega) (by omega) with ⟨w1, w2, w3⟩ | ⟨nl, w1⟩
    · left
      rw [if_pos (by rw [w2]; decide)]
      exact ⟨y4 ▸ w1, by rw [w2]; simp, .inr w3⟩
    · rw [w1, if_neg (by simp)]
      have hrun : Run2 (({ E with left := nl } : Dk).writeN (2 : Nat) 1 (str (zer 64)) 1) e (A2 l lg) := by
        refine (y2.left nl).wrote (fun j hj => ?_)
        obtain rfl : j = 0 := by omega
        rw [hse]
        refine ⟨fun _ => .inr rfl, fun hk => by omega, fun i hi => ?_⟩
        have := (hw.ok i hi).1.1
        exact ⟨fun hk => by omega, fun hk => by omega⟩
      have hsec : (({ E with left := nl } : Dk).writeN (2 : Nat) 1 (str (zer 64)) 1).sec 1 = str (zer 64) := by
        rw [writeN_sec, if_pos (by omega)]
        exact hse
      have harm : (({ E with left := nl } : Dk).writeN (2 : Nat) 1 (str (zer 64)) 1).armed = E.armed := (writeN_same _ _ _ _ _).2.1
      generalize ({ E with left := nl } : Dk).writeN (2 : Nat) 1 (str (zer 64)) 1 = F at hrun hsec harm
      rcases hrun.barrier h0 with ⟨w1, w2, w3⟩ | ⟨nm, w1⟩
      · left
        rw [if_pos (by rw [w2]; decide)]
        exact ⟨y4 ▸ harm ▸ w1, by rw [w2]; simp, .inr w3⟩
      · right
        rw [w1, if_neg (by simp)]
        obtain ⟨z1, z2⟩ := (hrun.left nm).settle
        refine ⟨rfl, z1, z2, ?_, ?_⟩
        · show (({ F with left := nm } : Dk).settle (2 : Nat)).armed = D.armed
          rw [(settle_same _ _).2.1]
          exact harm.trans y4
        · show (({ F with left := nm } : Dk).settle (2 : Nat)).sec 1 = str (zer 64)
          rw [settle_sec]
          exact hsec
end
end Go.Proofs.YtcmneekdajnnaaaGreatDoor

/- A log that is done again, wherever the power goes, plain: any head, images of version 0 too. -/
namespace Go.Proofs.YtcmneekdajnnaaaGreatDoor
open Go.RowKit

/-- the images that are to be there -/
structure Want0 (l : List Im) : Prop where
  ok : ∀ i ∈ l, i.right ∧ i.ver < 18446744073709551616 ∧ i.block ≤ 9
  one : l.Pairwise (fun i j => i.block ≠ j.block)
/-- the head is there, and the records; a block's sector has bytes 0, or is what it is to be -/
def B1 (l : List Im) (hd : List UInt8) (lg : Int → ByteArray) : Int → ByteArray → Prop := fun k v => (k = 1 → v = str hd) ∧ (2 ≤ k → k ≤ 8 → v = lg k) ∧ ∀ i ∈ l, (k = 17 + 2 * i.block → v = str (zer 64) ∨ 0 < i.ver ∧ v = str (secL i 0)) ∧ (k = 17 + 2 * i.block + 1 → v = str (zer 64) ∨ 0 < i.ver ∧ v = str (secL i 1))
/-- each block is what it is to be; the head is there, or has bytes 0 -/
def B2 (l : List Im) (hd : List UInt8) (lg : Int → ByteArray) : Int → ByteArray → Prop := fun k v => (k = 1 → v = str hd ∨ v = str (zer 64)) ∧ (2 ≤ k → k ≤ 8 → v = lg k) ∧ ∀ i ∈ l, (k = 17 + 2 * i.block → v = if 0 < i.ver then str (secL i 0) else str (zer 64)) ∧ (k = 17 + 2 * i.block + 1 → v = if 0 < i.ver then str (secL i 1) else str (zer 64))
section
variable {D : Dk} {e : Nat} {l : List Im} {hd : List UInt8} {lg : Int → ByteArray}
def half (i : Im) (k : Nat) : ByteArray := if 0 < i.ver then str (secL i k) else str (zer 64)
theorem Run2.load0 (h : Run2 D e (B1 l hd lg)) (hw : Want0 l) {i : Im} (hi : i ∈ l) :
    ((∃ was : Im, D.load i.block = (was, 0) ∧ i.ver ≤ was.ver) ∧ D.sec (17 + 2 * i.block) = half i 0 ∧ D.sec (17 + 2 * i.block + 1) = half i 1) ∨ (0 < i.ver ∧ ((∃ was : Im, D.load i.block = (was, 0) ∧ was.ver < i.ver) ∨ D.load i.block = (Im.zero, 6))) := by
  obtain ⟨hr, hv, hb⟩ := hw.ok i hi
  have hr0 := hr.1
  have hbt : ((i.block.toNat : Nat) : Int) = i.block := by omega
  have hle := load_eq h.live (b := i.block.toNat) (by omega)
  rw [hbt] at hle
  have s0 := ((h.safe.sec h.sane (17 + 2 * i.block)).2.2 i hi).1 rfl
  have s1 := ((h.safe.sec h.sane (17 + 2 * i.block + 1)).2.2 i hi).2 rfl
  have hz : D.sec (17 + 2 * i.block) = str (zer 64) → D.sec (17 + 2 * i.block + 1) = str (zer 64) → D.load i.block = (⟨i.block, 0, str (zer 96)⟩, 0) := by
    intro s0 s1
    rw [s0, s1, str_list, zer_app] at hle
    refine hle.trans ?_
    unfold getB
    rw [if_neg (by rw [str_size, zer_len]; omega), if_pos rfl]
  by_cases h0 : 0 < i.ver
  · rcases s0 with s0 | ⟨_, s0⟩
    · rcases s1 with s1 | ⟨_, s1⟩
      · exact .inr ⟨h0, .inl ⟨_, hz s0 s1, h0⟩⟩
      · rw [s0, s1, str_list, str_list, torn_b hr] at hle
        exact .inr ⟨h0, .inr hle⟩
    · rcases s1 with s1 | ⟨_, s1⟩
      · rw [s0, s1, str_list, str_list, torn_a hr] at hle
        exact .inr ⟨h0, .inr hle⟩
      · have e1 : getB i.block (str (secL i 0 ++ secL i 1)) = (i, 0) := getB_put hr hv
        rw [s0, s1, str_list, str_list, e1] at hle
        left
        unfold half
        rw [if_pos h0, if_pos h0]
        exact ⟨⟨i, hle, Nat.le_refl _⟩, s0, s1⟩
  · left
    have z0 : D.sec (17 + 2 * i.block) = str (zer 64) := by
      rcases s0 with s0 | ⟨a, _⟩
      · exact s0
      · exact absurd a h0
    have z1 : D.sec (17 + 2 * i.block + 1) = str (zer 64) := by
      rcases s1 with s1 | ⟨a, _⟩
      · exact s1
      · exact absurd a h0
    unfold half
    rw [if_neg h0, if_neg h0]
    exact ⟨⟨_, hz z0 z1, by show i.ver ≤ 0; omega⟩, z0, z1⟩
/-- what Apply leaves, where the power stays -/
structure Ap0 (D : Dk) (e : Nat) (A : Int → ByteArray → Prop) (l : List Im) (n : Nat) (R : ApR) : Prop where
  err : R.e = 0
  run : Run2 R.D e A
  armed : R.D.armed = D.armed
  halves : ∀ i ∈ l, R.D.sec (17 + 2 * i.block) = half i 0 ∧ R.D.sec (17 + 2 * i.block + 1) = half i 1
  other : ∀ k, (∀ i ∈ l, k ≠ 17 + 2 * i.block ∧ k ≠ 17 + 2 * i.block + 1) → R.D.sec k = D.sec k
  cnt : n ≤ R.n
  same : R.n = n → R.D = D
theorem apply_skip0 {D : Dk} {node : Int} {epoch : Nat} {i was : Im} (h : D.load i.block = (was, 0)) (hv : i.ver ≤ was.ver) (l : List Im) (n : Nat) : applyGo node epoch (i :: l) n D = applyGo node epoch l n D := by
  rw [apply_one h, if_pos hv]
theorem apply_all0 (hw : Want0 l) (h0 : e ≠ 0) : ∀ (m : List Im) (n : Nat) (D : Dk), (∀ i ∈ m, i ∈ l) → m.Pairwise (fun i j => i.block ≠ j.block) → Run2 D e (B1 l hd lg) →
    (D.armed = true ∧ (applyGo (2 : Nat) e m n D).e ≠ 0 ∧ Off2 (applyGo (2 : Nat) e m n D).D e (B1 l hd lg)) ∨ Ap0 D e (B1 l hd lg) m n (applyGo (2 : Nat) e m n D)
  | [], n, D, _, _, h => .inr ⟨rfl, h, rfl, (fun i hi => by cases hi), fun _ _ => rfl, Nat.le_refl _, fun _ => rfl⟩
  | i :: m, n, D, hm, hp, h => by
    have hp' := List.pairwise_cons.1 hp
    have hi := hm i (List.mem_cons_self ..)
    have hm' : ∀ j ∈ m, j ∈ l := fun j hj => hm j (List.mem_cons_of_mem _ hj)
    obtain ⟨hr, hv, hb⟩ := hw.ok i hi
    have hr0 := hr.1
    rcases h.load0 hw hi with ⟨⟨was, g1, g0⟩, g2, g3⟩ | ⟨hv0, hput⟩
    · rw [apply_skip0 g1 g0]
      rcases apply_all0 hw h0 m n D hm' hp'.2 h with hx | hx
      · exact .inl hx
      · refine .inr ⟨hx.err, hx.run, hx.armed, fun j hj => ?_, fun k hk => hx.other k (fun j hj => hk j (List.mem_cons_of_mem _ hj)), hx.cnt, hx.same⟩
        rcases List.mem_cons.1 hj with rfl | hj
        · refine ⟨(hx.other _ (fun j' hj' => ?_)).trans g2, (hx.other _ (fun j' hj' => ?_)).trans g3⟩
          · have := hp'.1 j' hj'
            omega
          · have := hp'.1 j' hj'
            omega
        · exact hx.halves j hj
    · rw [apply_put hput, store_write hr hb]
      obtain ⟨q0, q1⟩ := sect_blk hr
      have hf0 : half i 0 = str (secL i 0) := if_pos hv0
      have hf1 : half i 1 = str (secL i 1) := if_pos hv0
      rcases h.write h0 (a := 17 + 2 * i.block) (data := str (blkL i)) (m := 2) (by rw [str_size, blkL_len hr]) (by omega) (by omega) (by omega) (by omega) with ⟨w1, w2, w3⟩ | ⟨nl, w1⟩
      · left
        rw [if_pos (by rw [w2]; decide)]
        exact ⟨w1, by rw [w2]; simp, w3⟩
      · rw [w1, if_neg (by simp)]
        have hrun : Run2 (({ D with left := nl } : Dk).writeN (2 : Nat) (17 + 2 * i.block) (str (blkL i)) 2) e (B1 l hd lg) := by
          refine (h.left nl).wrote (fun j hj => ?_)
          rcases (show j = 0 ∨ j = 1 by omega) with rfl | rfl
          · rw [q0]
            refine ⟨fun hk => by omega, fun _ hk => by omega, fun i' hi' => ⟨fun hk => .inr ?_, fun hk => by omega⟩⟩
            rw [← wants_inj hw.one hi hi' (by omega)]
            exact ⟨hv0, rfl⟩
          · rw [q1]
            refine ⟨fun hk => by omega, fun _ hk => by omega, fun i' hi' => ⟨fun hk => by omega, fun hk => .inr ?_⟩⟩
            rw [← wants_inj hw.one hi hi' (by omega)]
            exact ⟨hv0, rfl⟩
        have hsec : ∀ k, (({ D with left := nl } : Dk).writeN (2 : Nat) (17 + 2 * i.block) (str (blkL i)) 2).sec k = if 17 + 2 * i.block ≤ k ∧ k < 17 + 2 * i.block + ((2 : Nat) : Int) then sect (str (blkL i)) (k - (17 + 2 * i.block)).toNat else D.sec k := fun k => writeN_sec _ _ _ _ _ _
        have harm : (({ D with left := nl } : Dk).writeN (2 : Nat) (17 + 2 * i.block) (str (blkL i)) 2).armed = D.armed := (writeN_same _ _ _ _ _).2.1
        generalize ({ D with left := nl } : Dk).writeN (2 : Nat) (17 + 2 * i.block) (str (blkL i)) 2 = E at hrun hsec harm
        show (D.armed = true ∧ (applyGo (2 : Nat) e m (n + 1) E).e ≠ 0 ∧ Off2 (applyGo (2 : Nat) e m (n + 1) E).D e (B1 l hd lg)) ∨ Ap0 D e (B1 l hd lg) (i :: m) n (applyGo (2 : Nat) e m (n + 1) E)
        rcases apply_all0 hw h0 m (n + 1) E hm' hp'.2 hrun with ⟨x1, x2, x3⟩ | hx
        · exact .inl ⟨harm ▸ x1, x2, x3⟩
        · have hc := hx.cnt
          refine .inr ⟨hx.err, hx.run, hx.armed.trans harm, fun j hj => ?_, fun k hk => ?_, by omega, fun hn => by omega⟩
          · rcases List.mem_cons.1 hj with rfl | hj
            · refine ⟨(hx.other _ (fun j' hj' => ?_)).trans ?_, (hx.other _ (fun j' hj' => ?_)).trans ?_⟩
              · have := hp'.1 j' hj'
                omega
              · rw [hsec, if_pos (by omega)]
                have : (17 + 2 * j.block - (17 + 2 * j.block)).toNat = 0 := by omega
                rw [this, q0, hf0]
              · have := hp'.1 j' hj'
                omega
              · rw [hsec, if_pos (by omega)]
                have : (17 + 2 * j.block + 1 - (17 + 2 * j.block)).toNat = 1 := by omega
                rw [this, q1, hf1]
            · exact hx.halves j hj
          · rw [hx.other k (fun j hj => hk j (List.mem_cons_of_mem _ hj)), hsec, if_neg]
            have := hk i (List.mem_cons_self ..)
            omega
theorem b2_of {k : Int} {v : ByteArray} (h : B1 l hd lg k v) (hh : ∀ i ∈ l, (k = 17 + 2 * i.block → v = half i 0) ∧ (k = 17 + 2 * i.block + 1 → v = half i 1)) : B2 l hd lg k v := ⟨fun hk => .inl (h.1 hk), h.2.1, hh⟩
theorem b1_of {k : Int} {v : ByteArray} (h : B2 l hd lg k v) (hh : k = 1 → v = str hd) : B1 l hd lg k v := by
  refine ⟨hh, h.2.1, fun i hi => ⟨fun hk => ?_, fun hk => ?_⟩⟩
  · have := (h.2.2 i hi).1 hk
    split at this
    · rename_i h1
      exact .inr ⟨h1, this⟩
    · exact .inl this
  · have := (h.2.2 i hi).2 hk
    split at this
    · rename_i h1
      exact .inr ⟨h1, this⟩
    · exact .inl this
theorem halves_at0 {E : Dk} (hh : ∀ i ∈ l, E.sec (17 + 2 * i.block) = half i 0 ∧ E.sec (17 + 2 * i.block + 1) = half i 1) (k : Int) : ∀ i ∈ l, (k = 17 + 2 * i.block → E.sec k = half i 0) ∧ (k = 17 + 2 * i.block + 1 → E.sec k = half i 1) :=
  fun i hi => ⟨fun hk => by rw [hk]; exact (hh i hi).1, fun hk => by rw [hk]; exact (hh i hi).2⟩
theorem applyR_cut0 (hw : Want0 l) (h0 : e ≠ 0) (h : Run2 D e (B1 l hd lg)) (hwt : D.waits = []) :
    (D.armed = true ∧ (applyR D (2 : Nat) e l).e ≠ 0 ∧ Off2 (applyR D (2 : Nat) e l).D e (B1 l hd lg)) ∨
    ((applyR D (2 : Nat) e l).e = 0 ∧ Run2 (applyR D (2 : Nat) e l).D e (B2 l hd lg) ∧ (applyR D (2 : Nat) e l).D.waits = [] ∧ (applyR D (2 : Nat) e l).D.armed = D.armed ∧ (applyR D (2 : Nat) e l).D.sec 1 = str hd) := by
  unfold applyR
  rcases apply_all0 hw h0 l 0 D (fun _ hi => hi) hw.one h with ⟨x1, x2, x3⟩ | hx
  · left
    rw [if_pos x2]
    exact ⟨x1, x2, x3⟩
  · obtain ⟨y1, y2, y3, y4, y5, y6, y7⟩ := hx
    generalize applyGo (2 : Nat) e l 0 D = A at y1 y2 y3 y4 y5 y6 y7
    obtain ⟨n, er, E⟩ := A
    simp only at y1 y2 y3 y4 y5 y6 y7 ⊢
    rw [if_neg (by rw [y1]; decide)]
    have hE1 : E.sec 1 = str hd := (y2.safe.sec y2.sane 1).1 rfl
    by_cases hn : n = 0
    · right
      rw [if_pos hn]
      have hED := y7 hn
      refine ⟨y1, y2.weak (by rw [hED]; exact hwt) (fun k => b2_of (y2.safe.sec y2.sane k) (halves_at0 y4 k)), by rw [hED]; exact hwt, y3, hE1⟩
    · rw [if_neg hn]
      rcases y2.barrier h0 with ⟨w1, w2, w3⟩ | ⟨nl, w1⟩
      · left
        rw [if_pos (by rw [w2]; decide)]
        exact ⟨y3 ▸ w1, by rw [w2]; simp, w3⟩
      · right
        rw [w1, if_neg (by simp)]
        obtain ⟨z1, z2⟩ := (y2.left nl).settle
        have hs : ∀ k, (({ E with left := nl } : Dk).settle (2 : Nat)).sec k = E.sec k := fun k => settle_sec _ _ _
        refine ⟨rfl, z1.weak z2 (fun k => ?_), z2, ?_, (hs 1).trans hE1⟩
        · show B2 l hd lg k ((({ E with left := nl } : Dk).settle (2 : Nat)).sec k)
          rw [hs]
          exact b2_of (y2.safe.sec y2.sane k) (halves_at0 y4 k)
        · show (({ E with left := nl } : Dk).settle (2 : Nat)).armed = D.armed
          rw [(settle_same _ _).2.1]
          exact y3
/-- what the log tells, where head and records stand -/
def Tells (hd : List UInt8) (lg : Int → ByteArray) (rs : List Rc) : Prop := ∀ E : Dk, Live E → E.sec 1 = str hd → (∀ k : Int, 2 ≤ k → k ≤ 8 → E.sec k = lg k) → E.scan 1 = rs ∧ E.scanE 1 = 0 ∧ E.headE 1 = 0 ∧ E.headI 1 = true ∧ (E.headH 1).epoch = 9
theorem run_cut0 {rs : List Rc} (hw : Want0 l) (h0 : e ≠ 0) (h : Run2 D e (B1 l hd lg)) (hwt : D.waits = []) (ht : Tells hd lg rs) (hp : planOf rs = l) :
    (D.armed = true ∧ (runR D 1 9 (2 : Nat) e).e ≠ 0 ∧ (Off2 (runR D 1 9 (2 : Nat) e).D e (B1 l hd lg) ∨ Off2 (runR D 1 9 (2 : Nat) e).D e (B2 l hd lg))) ∨
    ((runR D 1 9 (2 : Nat) e).e = 0 ∧ Run2 (runR D 1 9 (2 : Nat) e).D e (B2 l hd lg) ∧ (runR D 1 9 (2 : Nat) e).D.waits = [] ∧ (runR D 1 9 (2 : Nat) e).D.armed = D.armed ∧ (runR D 1 9 (2 : Nat) e).D.sec 1 = str (zer 64)) := by
  obtain ⟨c1, c2, c3, c4, c5⟩ := ht D h.live ((h.safe.sec h.sane 1).1 rfl) (fun k k1 k2 => (h.safe.sec h.sane k).2.1 k1 k2)
  unfold runR
  rw [c1, hp, c2, c3, c4, c5, if_neg (by decide), if_neg (by decide), if_neg (by decide)]
  rcases applyR_cut0 hw h0 h hwt with ⟨x1, x2, x3⟩ | ⟨y1, y2, y3, y4, y5⟩
  · left
    rw [if_pos x2]
    exact ⟨x1, x2, .inl x3⟩
  · generalize applyR D (2 : Nat) e l = A at y1 y2 y3 y4 y5
    obtain ⟨n, er, E⟩ := A
    simp only at y1 y2 y3 y4 y5 ⊢
    rw [if_neg (by rw [y1]; decide)]
    have hla : (logAt 1).1 = 1 := rfl
    rw [hla]
    have hse : sect (str (zer 64)) 0 = str (zer 64) := sect_zer (by omega)
    rcases y2.write h0 (a := 1) (data := str (zer 64)) (m := 1) (by rw [str_size, zer_len]) (by omega) (by omega) (by omega) (by omega) with ⟨w1, w2, w3⟩ | ⟨nl, w1⟩
    · left
      rw [if_pos (by rw [w2]; decide)]
      exact ⟨y4 ▸ w1, by rw [w2]; simp, .inr w3⟩
    · rw [w1, if_neg (by simp)]
      have hrun : Run2 (({ E with left := nl } : Dk).writeN (2 : Nat) 1 (str (zer 64)) 1) e (B2 l hd lg) := by
        refine (y2.left nl).wrote (fun j hj => ?_)
        obtain rfl : j = 0 := by omega
        rw [hse]
        refine ⟨fun _ => .inr rfl, fun hk => by omega, fun i hi => ?_⟩
        have := (hw.ok i hi).1.1
        exact ⟨fun hk => by omega, fun hk => by omega⟩
      have hsec : (({ E with left := nl } : Dk).writeN (2 : Nat) 1 (str (zer 64)) 1).sec 1 = str (zer 64) := by
        rw [writeN_sec, if_pos (by omega)]
        exact hse
      have harm : (({ E with left := nl } : Dk).writeN (2 : Nat) 1 (str (zer 64)) 1).armed = E.armed := (writeN_same _ _ _ _ _).2.1
      generalize ({ E with left := nl } : Dk).writeN (2 : Nat) 1 (str (zer 64)) 1 = F at hrun hsec harm
      rcases hrun.barrier h0 with ⟨w1, w2, w3⟩ | ⟨nm, w1⟩
      · left
        rw [if_pos (by rw [w2]; decide)]
        exact ⟨y4 ▸ harm ▸ w1, by rw [w2]; simp, .inr w3⟩
      · right
        rw [w1, if_neg (by simp)]
        obtain ⟨z1, z2⟩ := (hrun.left nm).settle
        refine ⟨rfl, z1, z2, ?_, ?_⟩
        · show (({ F with left := nm } : Dk).settle (2 : Nat)).armed = D.armed
          rw [(settle_same _ _).2.1]
          exact harm.trans y4
        · show (({ F with left := nm } : Dk).settle (2 : Nat)).sec 1 = str (zer 64)
          rw [settle_sec]
          exact hsec
end
end Go.Proofs.YtcmneekdajnnaaaGreatDoor

/- Records of one image in a log's ring of sectors, plain: what is found there again. -/
namespace Go.Proofs.YtcmneekdajnnaaaGreatDoor
open Go.RowKit

/-- a sector of a record tells whose it is -/
theorem recS_same {r r' : Rc} {k k' : Nat} (h : recS r k = recS r' k') (h1 : r.epoch < 18446744073709551616) (h2 : r'.epoch < 18446744073709551616) (h3 : r.lsn < 18446744073709551616) (h4 : r'.lsn < 18446744073709551616) (h5 : k < 256) (h6 : k' < 256) (h7 : r.images.length < 256) (h8 : r'.images.length < 256) :
    r.epoch = r'.epoch ∧ r.lsn = r'.lsn ∧ k = k' ∧ r.images.length = r'.images.length := by
  have e := (recS_read r k).2
  have e' := (recS_read r' k').2
  rw [h, e'] at e
  have el := (List.append_inj e (by rw [labL_len, labL_len])).1
  unfold labL at el
  obtain ⟨a1, el⟩ := List.append_inj el (by rw [le_len, le_len])
  obtain ⟨a2, el⟩ := List.append_inj el (by rw [le_len, le_len])
  obtain ⟨a3, a4⟩ := List.append_inj el (by rw [le_len, le_len])
  exact ⟨(le_inj (by simpa using h2) (by simpa using h1) a1).symm, (le_inj (by simpa using h4) (by simpa using h3) a2).symm, (le_inj (by simpa using h6) (by simpa using h5) a3).symm, (le_inj (by simpa using h8) (by simpa using h7) a4).symm⟩
/-- bytes that are a record -/
theorem get_form {b : ByteArray} (h : getE b = 0) : (getR b).wrongE = 0 ∧ ∃ rest, b = str (recL (getR b) ++ rest) := by
  have hr : getR b = getX b := if_pos h
  rw [hr]
  unfold getE at h
  split at h
  · omega
  · split at h
    · omega
    · split at h
      · omega
      · split at h
        · rename_i h1 h2 h3 h4
          obtain ⟨w1, w2⟩ := h4
          refine ⟨w1, b.data.toList.drop (secsOf (firstN b) * 64), ?_⟩
          unfold Rc.putS at w2
          rw [if_pos w1] at w2
          have e : b = str b.data.toList := (str_of b).symm
          have e2 : ∀ k, b.extract 0 k = str (b.data.toList.take k) := fun k => by
            have := extract_str b.data.toList 0 k
            rw [str_of, List.drop_zero] at this
            exact this
          rw [e2] at w2
          have e3 : recL (getX b) = b.data.toList.take (secsOf (firstN b) * 64) := by
            have := congrArg (fun x : ByteArray => x.data.toList) w2
            simpa [str_list] using this
          rw [e3, List.take_append_drop]
          exact e
        · omega
/-- sector k of record m, of the image i -/
def secR (m : Nat) (i : Im) (k : Nat) : List UInt8 := recS (rcI m i) k
theorem secR_len (m : Nat) (i : Im) (k : Nat) : (secR m i k).length = 64 := recS_len _ _
theorem recL_three (m : Nat) (i : Im) : recL (rcI m i) = secR m i 0 ++ (secR m i 1 ++ secR m i 2) := by
  have h : secsOf ((rcI m i).images.length : Int) = 3 := secs_one
  unfold recL
  rw [h]
  show (List.range 3).flatMap _ = _
  simp [List.range_succ, secR]
/-- an image that may be in a record -/
def Fine (i : Im) : Prop := i.right ∧ i.ver < 18446744073709551616
theorem fine_Good {m : Nat} (hm : m ≠ 0) (hm2 : m < 18446744073709551616) {i : Im} (h : Fine i) : (rcI m i).Good := ⟨rcI_ok hm h.1, show (9 : Nat) < 18446744073709551616 by decide, hm2, fun x hx => by rw [List.mem_singleton.1 (show x ∈ [i] from hx)]; exact h.2⟩
/-- what a sector of the ring may have: bytes 0, or a sector of one of the records (from 1 on) -/
def Sound (ims : List Im) (s : List UInt8) : Prop := s = zer 64 ∨ ∃ m i k, 1 ≤ m ∧ ims[m - 1]? = some i ∧ k < 3 ∧ s = secR m i k
theorem Sound.len {ims : List Im} {s : List UInt8} (h : Sound ims s) : s.length = 64 := by
  rcases h with rfl | ⟨m, i, k, _, _, _, rfl⟩
  · exact zer_len 64
  · exact secR_len m i k
section
variable {ims : List Im} {H f : Nat} {t0 t1 t2 rest : List UInt8}
theorem place_at {b : List UInt8} (h0 : t0.length = 64) (h1 : t1.length = 64) (h2 : t2.length = 64) (hb : b = t0 ++ (t1 ++ (t2 ++ rest))) : placeL (str b) 0 = t0 ∧ placeL (str b) 1 = t1 ∧ placeL (str b) 2 = t2 := by
  subst hb
  refine ⟨?_, ?_, ?_⟩
  · unfold placeL
    rw [extract_str, str_list, List.take_append_of_le_length (by omega), List.take_of_length_le (by omega)]
    simp
  · unfold placeL
    rw [extract_str, str_list, ← List.append_assoc, List.take_append_of_le_length (by simp; omega), List.take_of_length_le (by simp; omega), List.drop_append_of_le_length (by omega), List.drop_of_length_le (by omega), List.nil_append]
  · unfold placeL
    rw [extract_str, str_list, ← List.append_assoc, ← List.append_assoc, List.take_append_of_le_length (by simp; omega), List.take_of_length_le (by simp; omega), List.drop_append_of_le_length (by simp; omega), List.drop_of_length_le (by simp; omega), List.nil_append]
/-- the record that is sought is there -/
theorem scan_hit {i : Im} (h : Fine i) (h1 : 1 ≤ H) (h2 : H < 18446744073709551615) : scanL 9 (f + 1) H (str (secR H i 0 ++ (secR H i 1 ++ (secR H i 2 ++ rest)))) = rcI H i :: scanL 9 f (H + 1) (str rest) := by
  have e : secR H i 0 ++ (secR H i 1 ++ (secR H i 2 ++ rest)) = recL (rcI H i) ++ rest := by
    rw [recL_three]
    simp only [List.append_assoc]
  rw [e, scanL_one (ep := 9) (lsn := H) (f := f) (fine_Good (by omega) (by omega) h) rfl rfl, Nat.mod_eq_of_lt (by omega)]
/-- what is found is a record of those, or nothing -/
theorem scan_any (hf : ∀ i ∈ ims, Fine i) (hN : ims.length < 18446744073709551615) (h1 : 1 ≤ H) (h2 : H < 18446744073709551615) (s0 : Sound ims t0) (s1 : Sound ims t1) (s2 : Sound ims t2) :
    scanL 9 (f + 1) H (str (t0 ++ (t1 ++ (t2 ++ rest)))) = [] ∨ ∃ i, ims[H - 1]? = some i ∧ t0 = secR H i 0 ∧ t1 = secR H i 1 ∧ t2 = secR H i 2 ∧ scanL 9 (f + 1) H (str (t0 ++ (t1 ++ (t2 ++ rest)))) = rcI H i :: scanL 9 f (H + 1) (str rest) := by
  obtain ⟨b, hb⟩ : ∃ b, t0 ++ (t1 ++ (t2 ++ rest)) = b := ⟨_, rfl⟩
  obtain ⟨p0, p1, p2⟩ := place_at s0.len s1.len s2.len hb.symm
  by_cases hg : getE (str b) = 0 ∧ (getR (str b)).epoch = 9 ∧ (getR (str b)).lsn = H
  · obtain ⟨g1, g2, g3⟩ := hg
    obtain ⟨w1, rest', e'⟩ := get_form g1
    obtain ⟨v1, v2, v3, v4, v5, v6⟩ := wrong_zero w1
    generalize getR (str b) = r at g2 g3 w1 e' v1 v2 v3 v4 v5 v6
    have hn1 : 1 ≤ r.images.length := List.length_pos_iff.2 v3
    have hsec : 3 ≤ secsOf r.images.length := by rw [secs_pos hn1 v6]; omega
    have q : ∀ k, k < 3 → placeL (str b) k = recS r k := fun k hk => by rw [e']; exact place_rec k (by omega)
    have key : ∀ (t : List UInt8) (k : Nat), k < 3 → Sound ims t → t = recS r k → ∃ i, ims[H - 1]? = some i ∧ t = secR H i k ∧ r.images.length = 1 := by
      intro t k hk ht e
      rcases ht with rfl | ⟨m, i, k', hm, hi, hk', rfl⟩
      · have := (recS_read r k).1
        rw [← e, sum60] at this
        omega
      · have hml := (List.getElem?_eq_some_iff.1 hi).1
        obtain ⟨a1, a2, a3, a4⟩ := recS_same (r := r) (r' := rcI m i) (k := k) (k' := k') (by rw [← e]; rfl) (by omega) (show (9 : Nat) < 18446744073709551616 by decide) (by omega) (show m < _ by omega) (by omega) (by omega) (by omega) (by show 1 < 256; decide)
        have hm2 : m = H := by
          have : r.lsn = m := a2
          omega
        subst hm2 a3
        exact ⟨i, hi, rfl, a4⟩
    obtain ⟨i, i0, i1, i2⟩ := key t0 0 (by omega) s0 (by rw [← p0]; exact q 0 (by omega))
    obtain ⟨j, j0, j1, _⟩ := key t1 1 (by omega) s1 (by rw [← p1]; exact q 1 (by omega))
    obtain ⟨l, l0, l1, _⟩ := key t2 2 (by omega) s2 (by rw [← p2]; exact q 2 (by omega))
    rw [i0] at j0 l0
    injection j0 with j0
    injection l0 with l0
    subst j0 l0
    refine .inr ⟨i, i0, i1, j1, l1, ?_⟩
    rw [i1, j1, l1]
    exact scan_hit (hf i (List.mem_of_getElem? i0)) h1 h2
  · left
    rw [hb]
    refine if_pos ?_
    by_cases g1 : getE (str b) = 0
    · by_cases g2 : (getR (str b)).epoch = 9
      · exact .inr (.inr (fun g3 => hg ⟨g1, g2, g3⟩))
      · exact .inr (.inl g2)
    · exact .inl g1
/-- in two sectors there is none -/
theorem scan_few {t : List UInt8} (h : t.length < 192) : scanL 9 (f + 1) H (str t) = [] := by
  refine scanL_end (fun g1 => ?_)
  obtain ⟨w1, rest', e'⟩ := get_form g1
  obtain ⟨v1, v2, v3, v4, v5, v6⟩ := wrong_zero w1
  generalize getR (str t) = r at w1 e' v1 v2 v3 v4 v5 v6
  have hn1 : 1 ≤ r.images.length := List.length_pos_iff.2 v3
  have hsec : 3 ≤ secsOf r.images.length := by rw [secs_pos hn1 v6]; omega
  have := congrArg ByteArray.size e'
  rw [str_size, str_size, List.length_append, recL_len] at this
  omega
end
/-- what is found in a ring of seven sectors, from record H on -/
structure Found (ims : List Im) (H : Nat) (x : List Rc) : Prop where
  at_ : ∀ (n : Nat) r, x[n]? = some r → ∃ i, ims[H + n - 1]? = some i ∧ r = rcI (H + n) i
theorem scan_ring {ims : List Im} {H : Nat} (hf : ∀ i ∈ ims, Fine i) (hN : ims.length < 18446744073709551614) (h1 : 1 ≤ H) (h2 : H < 18446744073709551614) {t0 t1 t2 t3 t4 t5 t6 : List UInt8} (s0 : Sound ims t0) (s1 : Sound ims t1) (s2 : Sound ims t2) (s3 : Sound ims t3) (s4 : Sound ims t4) (s5 : Sound ims t5) (s6 : Sound ims t6) (x : List Rc)
    (hx : scanL 9 10 H (str (t0 ++ (t1 ++ (t2 ++ (t3 ++ (t4 ++ (t5 ++ t6))))))) = x) :
    Found ims H x ∧ x.length ≤ 2 ∧ (∀ i, ims[H - 1]? = some i → t0 = secR H i 0 → t1 = secR H i 1 → t2 = secR H i 2 → 1 ≤ x.length ∧
      ∀ j, ims[H]? = some j → t3 = secR (H + 1) j 0 → t4 = secR (H + 1) j 1 → t5 = secR (H + 1) j 2 → 2 ≤ x.length) := by
  have l6 := s6.len
  have hend : scanL 9 8 (H + 1 + 1) (str t6) = [] := scan_few (by omega)
  have key : (scanL 9 9 (H + 1) (str (t3 ++ (t4 ++ (t5 ++ t6)))) = [] ∧ ∀ j, ims[H]? = some j → t3 = secR (H + 1) j 0 → t4 = secR (H + 1) j 1 → t5 = secR (H + 1) j 2 → False) ∨
      ∃ j, ims[H]? = some j ∧ scanL 9 9 (H + 1) (str (t3 ++ (t4 ++ (t5 ++ t6)))) = [rcI (H + 1) j] := by
    rcases scan_any (H := H + 1) (f := 8) (rest := t6) hf (by omega) (by omega) (by omega) s3 s4 s5 with e | ⟨j, j0, _, _, _, e⟩
    · left
      refine ⟨e, fun j j0 e3 e4 e5 => ?_⟩
      subst e3 e4 e5
      rw [scan_hit (hf j (List.mem_of_getElem? j0)) (by omega) (by omega)] at e
      cases e
    · right
      refine ⟨j, by simpa using j0, ?_⟩
      rw [e, hend]
  rcases scan_any (H := H) (f := 9) (rest := t3 ++ (t4 ++ (t5 ++ t6))) hf (by omega) h1 (by omega) s0 s1 s2 with e | ⟨i, i0, a0, a1, a2, e⟩
  · rw [e] at hx
    subst hx
    refine ⟨⟨fun n r hr => by simp at hr⟩, by simp, fun i i0 e0 e1 e2 => ?_⟩
    exfalso
    subst e0 e1 e2
    rw [scan_hit (hf i (List.mem_of_getElem? i0)) h1 (by omega)] at e
    cases e
  · rw [e] at hx
    rcases key with ⟨k1, k2⟩ | ⟨j, j0, k1⟩
    · rw [k1] at hx
      subst hx
      refine ⟨⟨fun n r hr => ?_⟩, by simp, fun _ _ _ _ _ => ⟨by simp, fun j b0 b1 b2 b3 => (k2 j b0 b1 b2 b3).elim⟩⟩
      cases n with
      | zero =>
        simp at hr
        exact ⟨i, i0, hr.symm⟩
      | succ n => simp at hr
    · rw [k1] at hx
      subst hx
      refine ⟨⟨fun n r hr => ?_⟩, by simp, fun _ _ _ _ _ => ⟨by simp, fun _ _ _ _ _ => by simp⟩⟩
      match n, hr with
      | 0, hr =>
        simp at hr
        exact ⟨i, i0, hr.symm⟩
      | 1, hr =>
        simp at hr
        exact ⟨j, by simpa using j0, hr.symm⟩
      | n + 2, hr => simp at hr
end Go.Proofs.YtcmneekdajnnaaaGreatDoor

/- What node 1 writes, wherever the power goes (printed by gen/mkever.py). -/
namespace Go.Proofs.YtcmneekdajnnaaaGreatDoor
open Go.RowKit

/-- on; node 1 is admitted; what lasts, and what waits, is allowed -/
structure Run1 (D : Dk) (e : Nat) (A : Int → ByteArray → Prop) : Prop where
  on : D.on = true
  sectors : D.sectors = 37
  t1 : D.table 1 = e
  sane : Sane D ((1 : Nat) : Int)
  safe : Safe D A
/-- the power has gone -/
structure Off1 (D : Dk) (e : Nat) (A : Int → ByteArray → Prop) : Prop where
  on : D.on = false
  sectors : D.sectors = 37
  t1 : D.table 1 = e
  sane : Sane D ((1 : Nat) : Int)
  safe : Safe D A
  waits : D.waits = []
section
variable {D : Dk} {e : Nat} {A B : Int → ByteArray → Prop}
theorem Run1.live (h : Run1 D e A) : Live D := ⟨h.on, h.sectors⟩
theorem Run1.left (h : Run1 D e A) (n : Int) : Run1 { D with left := n } e A := ⟨h.on, h.sectors, h.t1, ⟨h.sane.nodes, h.sane.now, h.sane.chain⟩, ⟨h.safe.last, h.safe.wait⟩⟩
theorem Run1.goes (h : Run1 D e A) : (∃ n, D.goes = (false, { D with left := n })) ∨ (D.armed = true ∧ D.goes.1 = true ∧ Off1 D.goes.2 e A) := by
  by_cases ha : D.armed = false
  · exact .inl ⟨D.left, goes_calm ha⟩
  · by_cases hl : 0 < D.left
    · left
      refine ⟨wrap64 (D.left - 1), ?_⟩
      unfold Dk.goes
      rw [if_neg ha, if_pos hl]
    · right
      have eg : D.goes = (true, (D.cut D.stays).2) := by
        unfold Dk.goes
        rw [if_neg ha, if_neg hl]
      obtain ⟨c1, c2, c3⟩ := cut_leaves h.sane h.safe h.on D.stays ((1 : Nat) : Int)
      obtain ⟨d1, _, d3, _, _, _, d7, _⟩ := cut_same D D.stays
      rw [eg]
      exact ⟨by cases hb : D.armed; exact absurd hb ha; rfl, rfl, d7, d1.trans h.sectors, by rw [d3]; exact h.t1, c1, c2, c3⟩
theorem Run1.may (h : Run1 D e A) : D.may ((1 : Nat) : Int) = 0 := by
  unfold Dk.may
  rw [if_neg (by rw [h.on]; decide), if_neg (by omega)]
theorem Run1.write (h : Run1 D e A) (h0 : e ≠ 0) {a : Int} {data : ByteArray} {m : Nat} (hd : data.size = m * 64) (m1 : 1 ≤ m) (m2 : m ≤ 16) (a1 : 0 ≤ a) (a2 : a + m ≤ 37) :
    (D.armed = true ∧ (D.write (1 : Nat) e a data).1 = 14 ∧ Off1 (D.write (1 : Nat) e a data).2 e A) ∨ ∃ n, D.write (1 : Nat) e a data = (0, ({ D with left := n } : Dk).writeN (1 : Nat) a data m) := by
  have hq : data.size / 64 = m := by omega
  have hr : data.size % 64 = 0 := by omega
  have hth : D.there a (data.size / 64 : Nat) = true := by
    unfold Dk.there
    rw [hq, h.sectors]
    exact decide_eq_true ⟨a1, by omega, by omega⟩
  have had : D.admits ((1 : Nat) : Int).toNat e = 0 := by
    unfold Dk.admits
    exact if_neg (by show ¬ (e = 0 ∨ D.table 1 ≠ e); simp [h0, h.t1])
  have ew : D.write (1 : Nat) e a data = if D.goes.1 = true then (14, D.goes.2) else (0, D.goes.2.writeN (1 : Nat) a data m) := by
    unfold Dk.write
    rw [if_neg (by rw [h.may]; simp), if_neg (by omega), if_neg (by rw [had]; simp), if_neg (by rw [hth]; simp), hq]
  rw [ew]
  rcases h.goes with ⟨n, hg⟩ | ⟨g1, g2, g3⟩
  · right
    rw [hg]
    exact ⟨n, if_neg (by simp)⟩
  · left
    rw [if_pos g2]
    exact ⟨g1, rfl, g3⟩
theorem Run1.barrier (h : Run1 D e A) (h0 : e ≠ 0) :
    (D.armed = true ∧ (D.barrier (1 : Nat) e).1 = 14 ∧ Off1 (D.barrier (1 : Nat) e).2 e A) ∨ ∃ n, D.barrier (1 : Nat) e = (0, ({ D with left := n } : Dk).settle (1 : Nat)) := by
  have had : D.admits ((1 : Nat) : Int).toNat e = 0 := by
    unfold Dk.admits
    exact if_neg (by show ¬ (e = 0 ∨ D.table 1 ≠ e); simp [h0, h.t1])
  have ew : D.barrier (1 : Nat) e = if D.goes.1 = true then (14, D.goes.2) else (0, D.goes.2.settle (1 : Nat)) := by
    unfold Dk.barrier
    rw [if_neg (by rw [h.may]; simp), if_neg (by rw [had]; simp)]
  rw [ew]
  rcases h.goes with ⟨n, hg⟩ | ⟨g1, g2, g3⟩
  · right
    rw [hg]
    exact ⟨n, if_neg (by simp)⟩
  · left
    rw [if_pos g2]
    exact ⟨g1, rfl, g3⟩
theorem Run1.settle (h : Run1 D e A) : Run1 (D.settle (1 : Nat)) e A ∧ (D.settle (1 : Nat)).waits = [] := by
  obtain ⟨a, b, _⟩ := h.sane.settle ((1 : Nat) : Int)
  have s := settle_same D ((1 : Nat) : Int)
  exact ⟨⟨s.1.trans h.on, s.2.2.1.trans h.sectors, by rw [(settle_tab D _).1]; exact h.t1, a, h.safe.settle h.sane⟩, b⟩
theorem Run1.wrote (h : Run1 D e A) {a : Int} {data : ByteArray} {m : Nat} (hm : ∀ j : Nat, j < m → A (a + j) (sect data j)) : Run1 (D.writeN (1 : Nat) a data m) e A := by
  have s := writeN_same D ((1 : Nat) : Int) a data m
  exact ⟨s.1.trans h.on, s.2.2.1.trans h.sectors, by rw [s.2.2.2.2.2.1]; exact h.t1, h.sane.writeN a data m, h.safe.writeN m hm⟩
theorem Run1.weak (h : Run1 D e A) (hw : D.waits = []) (hb : ∀ k, B k (D.sec k)) : Run1 D e B := ⟨h.on, h.sectors, h.t1, h.sane, safe_of_sec h.sane hw hb⟩
theorem Off1.weak (h : Off1 D e A) (hb : ∀ k v, A k v → B k v) : Off1 D e B := ⟨h.on, h.sectors, h.t1, h.sane, ⟨fun k => hb _ _ (h.safe.last k), fun x hx => hb _ _ (h.safe.wait x hx)⟩, h.waits⟩
end
end Go.Proofs.YtcmneekdajnnaaaGreatDoor

/- A log goes round its ring, and the power may go at any time, plain: what stands on the disk. -/
namespace Go.Proofs.YtcmneekdajnnaaaGreatDoor
open Go.RowKit

/-- where sector c of record m stands in the ring -/
def plc (m c : Nat) : Nat := (3 * (m - 1) + c) % 7
def hdB (H : Nat) : ByteArray := str (headL ⟨9, H, ((3 * (H - 1) % 7 : Nat) : Int)⟩)
/-- what may stand on the disk: a head of some, records, and of those from F to S each sector -/
structure AA (ims : List Im) (hs : Nat → Prop) (F S : Nat) (k : Int) (s : ByteArray) : Prop where
  head : k = 1 → ∃ H, hs H ∧ s = hdB H
  ring : ∀ j : Nat, j < 7 → k = 2 + (j : Int) → ∃ t, s = str t ∧ Sound ims t
  exact_ : ∀ (m : Nat) i (c : Nat), F ≤ m → m ≤ S → ims[m - 1]? = some i → c < 3 → k = 2 + ((plc m c : Nat) : Int) → s = str (secR m i c)
  rest : 9 ≤ k → s = str (zer 64)
theorem AA.mono {ims : List Im} {hs hs' : Nat → Prop} {F S F' S' : Nat} {k : Int} {s : ByteArray} (h : AA ims hs F S k s) (hh : ∀ H, hs H → hs' H) (h1 : F ≤ F') (h2 : S' ≤ S) : AA ims hs' F' S' k s :=
  ⟨fun e => by obtain ⟨H, a, b⟩ := h.head e; exact ⟨H, hh H a, b⟩, h.ring, fun m i c a b => h.exact_ m i c (by omega) (by omega), h.rest⟩
theorem Sound.sub {ims ims' : List Im} {s : List UInt8} (h : Sound ims s) (hs : ∀ (j : Nat) x, ims[j]? = some x → ims'[j]? = some x) : Sound ims' s := by
  rcases h with e | ⟨m, i, k, h1, h2, h3, h4⟩
  · exact .inl e
  · exact .inr ⟨m, i, k, h1, hs _ _ h2, h3, h4⟩
theorem AA.sub {ims ims' : List Im} {hs : Nat → Prop} {F S : Nat} {k : Int} {s : ByteArray} (h : AA ims hs F S k s) (hF : 1 ≤ F) (hS : S ≤ ims.length) (hsub : ∀ (j : Nat) x, ims[j]? = some x → ims'[j]? = some x) : AA ims' hs F S k s :=
  ⟨h.head, fun j a b => by obtain ⟨t, e, ht⟩ := h.ring j a b; exact ⟨t, e, ht.sub hsub⟩, fun m i c a b d => by
    obtain ⟨y, hy⟩ : ∃ y, ims[m - 1]? = some y := ⟨_, List.getElem?_eq_getElem (by omega)⟩
    have := hsub _ _ hy
    rw [d] at this
    injection this with this
    subst this
    exact h.exact_ m i c a b hy, h.rest⟩
theorem tk_sub {ims : List Im} {n : Nat} : ∀ (j : Nat) x, (ims.take n)[j]? = some x → ims[j]? = some x := by
  intro j x h
  rw [List.getElem?_take] at h
  split at h
  · exact h
  · cases h
theorem tk_more {ims : List Im} {n n' : Nat} (h : n ≤ n') : ∀ (j : Nat) x, (ims.take n)[j]? = some x → (ims.take n')[j]? = some x := by
  intro j x h1
  rw [List.getElem?_take] at h1 ⊢
  split at h1
  · rw [if_pos (by omega)]
    exact h1
  · cases h1
theorem tk_get {ims : List Im} {n j : Nat} {x : Im} (h : ims[j]? = some x) (hj : j < n) : (ims.take n)[j]? = some x := by
  rw [List.getElem?_take, if_pos hj]
  exact h
theorem Off1.more {ims ims' : List Im} {hs : Nat → Prop} {F S : Nat} {D : Dk} (h : Off1 D 9 (AA ims hs F S)) (hF : 1 ≤ F) (hS : S ≤ ims.length) (hsub : ∀ (j : Nat) x, ims[j]? = some x → ims'[j]? = some x) : Off1 D 9 (AA ims' hs F S) := h.weak (fun _ _ a => a.sub hF hS hsub)
theorem Run1.more {ims ims' : List Im} {hs : Nat → Prop} {F S : Nat} {D : Dk} (h : Run1 D 9 (AA ims hs F S)) (hF : 1 ≤ F) (hS : S ≤ ims.length) (hsub : ∀ (j : Nat) x, ims[j]? = some x → ims'[j]? = some x) : Run1 D 9 (AA ims' hs F S) :=
  ⟨h.on, h.sectors, h.t1, h.sane, ⟨fun k => (h.safe.last k).sub hF hS hsub, fun x hx => (h.safe.wait x hx).sub hF hS hsub⟩⟩
/-- the entry of record m -/
def enM (m : Nat) (i : Im) : En := enOf m (3 * (m - 1) % 7) i
/-- a log that lives -/
structure Lv (ims : List Im) (D : Dk) (g : Lg) : Prop where
  run : Run1 D 9 (AA (ims.take g.written) (fun H => H = g.first) g.first g.synced)
  node : g.node = 1
  epoch : g.epoch = 9
  base : g.base = 1
  next : g.next = ims.length + 1
  at_ : g.at_ = 3 * ims.length % 7
  whole : g.broken = false
  f1 : 1 ≤ g.first
  f2 : g.first ≤ g.synced + 1
  sw : g.synced ≤ g.written
  wn : g.written ≤ ims.length
  few : ims.length < g.first + 2
  fine : ∀ i ∈ ims, Fine i
  len : g.live.length = ims.length + 1 - g.first
  live : ∀ (t : Nat) x, g.live[t]? = some x → ∃ i, ims[g.first + t - 1]? = some i ∧ x = if g.first + t ≤ g.written then (enM (g.first + t) i).done else enM (g.first + t) i
  now : ∀ (m : Nat) i (c : Nat), g.first ≤ m → m ≤ g.written → ims[m - 1]? = some i → c < 3 → D.sec (2 + ((plc m c : Nat) : Int)) = str (secR m i c)
  few60 : ims.length ≤ 100000
  last : D.last = 9
theorem sect_recL (m : Nat) (i : Im) (c n : Nat) (hn : c + n ≤ 3) (j : Nat) (hj : j < n) : sect ((str (recL (rcI m i))).extract (c * 64) ((c + n) * 64)) j = str (secR m i (c + j)) := by
  have h3 : secsOf (((rcI m i).images.length : Nat) : Int) = 3 := secs_one
  have hp := place_rec (r := rcI m i) (rest := []) (c + j) (by rw [h3]; omega)
  rw [List.append_nil] at hp
  unfold placeL at hp
  rw [extract_str, str_list] at hp
  unfold sect
  rw [extract_str, extract_str]
  congr 1
  unfold secR
  rw [← hp, List.take_drop, List.drop_drop, List.take_take]
  congr 1
  · omega
  · congr 1
    omega
theorem ext_size (m : Nat) (i : Im) (c n : Nat) (hn : c + n ≤ 3) : ((str (recL (rcI m i))).extract (c * 64) ((c + n) * 64)).size = n * 64 := by
  rw [ByteArray.size_extract, str_size, recL_one]
  omega
section
variable {ims : List Im} {D : Dk} {g : Lg}
/-- sectors of record m do not lie over those of another one of two that are not free -/
theorem plc_ne {m m' c c' : Nat} (h1 : 1 ≤ m') (h : m = m' + 1) (hc : c < 3) (hc' : c' < 3) : plc m c ≠ plc m' c' := by
  unfold plc
  omega
theorem plc_inj {m c c' : Nat} (hc : c < 3) (hc' : c' < 3) (h : plc m c = plc m c') : c = c' := by
  unfold plc at h
  omega
theorem plc_lt (m c : Nat) : plc m c < 7 := Nat.mod_lt _ (by omega)
/-- a record on its way -/
theorem put_go {hs : Nat → Prop} {F S m : Nat} {im : Im} (hg1 : g.node = 1) (hg2 : g.epoch = 9) (hg3 : g.base = 1) (hF : 1 ≤ F) (hm1 : F ≤ m) (hmS : S < m) (hmF : m < F + 2) (him : ims[m - 1]? = some im) : ∀ (f c : Nat) (D : Dk), 3 ≤ c + f → c ≤ 3 → Run1 D 9 (AA ims hs F S) →
    (D.armed = true ∧ (putGo g (enM m im) f c D).1 = 14 ∧ Off1 (putGo g (enM m im) f c D).2 9 (AA ims hs F S)) ∨
    ((putGo g (enM m im) f c D).1 = 0 ∧ Run1 (putGo g (enM m im) f c D).2 9 (AA ims hs F S) ∧ (putGo g (enM m im) f c D).2.armed = D.armed ∧ (putGo g (enM m im) f c D).2.last = D.last ∧ (∀ d, c ≤ d → d < 3 → (putGo g (enM m im) f c D).2.sec (2 + ((plc m d : Nat) : Int)) = str (secR m im d)) ∧
      ∀ k : Int, (∀ d, c ≤ d → d < 3 → k ≠ 2 + ((plc m d : Nat) : Int)) → (putGo g (enM m im) f c D).2.sec k = D.sec k)
  | 0, c, D, h1, h2, hr => .inr ⟨rfl, hr, rfl, rfl, fun d a b => by omega, fun k _ => rfl⟩
  | f + 1, c, D, h1, h2, hr => by
    by_cases hc : 3 ≤ c
    · rw [show putGo g (enM m im) (f + 1) c D = (0, D) from putGo_le (by show 3 ≤ c; exact hc)]
      exact .inr ⟨rfl, hr, rfl, rfl, fun d a b => by omega, fun k _ => rfl⟩
    · obtain ⟨a, ha⟩ : ∃ a, (3 * (m - 1) % 7 + c) % 7 = a := ⟨_, rfl⟩
      obtain ⟨n, hn⟩ : ∃ n, min (3 - c) (7 - a) = n := ⟨_, rfl⟩
      have hal : a < 7 := by omega
      have hn1 : 1 ≤ n ∧ c + n ≤ 3 ∧ a + n ≤ 7 := by omega
      obtain ⟨data, hdata⟩ : ∃ data, (str (recL (rcI m im))).extract (c * 64) ((c + n) * 64) = data := ⟨_, rfl⟩
      have hds : data.size = n * 64 := by rw [← hdata]; exact ext_size m im c n hn1.2.1
      have hsec : ∀ j, j < n → sect data j = str (secR m im (c + j)) := fun j hj => by rw [← hdata]; exact sect_recL m im c n hn1.2.1 j hj
      have hpl : ∀ j, j < n → a + j = plc m (c + j) := fun j hj => by unfold plc; omega
      have eg : putGo g (enM m im) (f + 1) c D = if (D.write (1 : Nat) 9 ((2 + a : Nat) : Int) data).1 ≠ 0 then D.write (1 : Nat) 9 ((2 + a : Nat) : Int) data else putGo g (enM m im) f (c + n) (D.write (1 : Nat) 9 ((2 + a : Nat) : Int) data).2 := by
        have e0 : putGo g (enM m im) (f + 1) c D = if (enM m im).n ≤ c then (0, D) else
            if (D.write g.node g.epoch ((g.base + 1 + ((enM m im).at_ + c) % 7 : Nat) : Int) ((enM m im).bytes.extract (c * 64) ((c + min ((enM m im).n - c) (7 - ((enM m im).at_ + c) % 7)) * 64))).1 ≠ 0 then D.write g.node g.epoch ((g.base + 1 + ((enM m im).at_ + c) % 7 : Nat) : Int) ((enM m im).bytes.extract (c * 64) ((c + min ((enM m im).n - c) (7 - ((enM m im).at_ + c) % 7)) * 64))
            else putGo g (enM m im) f (c + min ((enM m im).n - c) (7 - ((enM m im).at_ + c) % 7)) (D.write g.node g.epoch ((g.base + 1 + ((enM m im).at_ + c) % 7 : Nat) : Int) ((enM m im).bytes.extract (c * 64) ((c + min ((enM m im).n - c) (7 - ((enM m im).at_ + c) % 7)) * 64))).2 := rfl
        rw [e0, if_neg (show ¬ (enM m im).n ≤ c from hc), show (enM m im).at_ = 3 * (m - 1) % 7 from rfl, show (enM m im).n = 3 from rfl, show (enM m im).bytes = str (recL (rcI m im)) from rfl, ha, hn, hdata, hg1, hg2, hg3]
      have hA : ∀ j : Nat, j < n → AA ims hs F S (((2 + a : Nat) : Int) + (j : Int)) (sect data j) := by
        intro j hj
        rw [hsec j hj]
        refine ⟨fun e => by omega, fun j' _ _ => ⟨_, rfl, .inr ⟨m, im, c + j, by omega, him, by omega, rfl⟩⟩, fun m' i' c' h3 h4 h5 h6 h7 => ?_, fun e => by omega⟩
        exfalso
        have h8 := hpl j hj
        exact plc_ne (m := m) (m' := m') (c := c + j) (c' := c') (by omega) (by omega) (by omega) h6 (by omega)
      rw [eg]
      rcases hr.write (by decide) hds hn1.1 (by omega) (a := ((2 + a : Nat) : Int)) (by omega) (by omega) with ⟨w0, w1, w2⟩ | ⟨l, w1⟩
      · rw [if_pos (by rw [w1]; decide)]
        exact .inl ⟨w0, w1, w2⟩
      · rw [w1, if_neg (by simp)]
        have hr2 := (hr.left l).wrote (m := n) hA
        have harm := (writeN_same ({ D with left := l } : Dk) ((1 : Nat) : Int) ((2 + a : Nat) : Int) data n).2.1
        have hlas := (writeN_same ({ D with left := l } : Dk) ((1 : Nat) : Int) ((2 + a : Nat) : Int) data n).2.2.2.1
        have hsc := writeN_sec ({ D with left := l } : Dk) ((1 : Nat) : Int) ((2 + a : Nat) : Int) data n
        simp only
        generalize (({ D with left := l } : Dk).writeN ((1 : Nat) : Int) ((2 + a : Nat) : Int) data n) = E at hr2 harm hlas hsc ⊢
        have harm : E.armed = D.armed := harm
        have hlas : E.last = D.last := hlas
        have hsc : ∀ k : Int, E.sec k = if ((2 + a : Nat) : Int) ≤ k ∧ k < ((2 + a : Nat) : Int) + (n : Int) then sect data (k - ((2 + a : Nat) : Int)).toNat else D.sec k := hsc
        rcases put_go hg1 hg2 hg3 hF hm1 hmS hmF him f (c + n) E (by omega) (by omega) hr2 with ⟨p0, p1, p2⟩ | ⟨p1, p2, p3, p6, p4, p5⟩
        · exact .inl ⟨by rw [← harm]; exact p0, p1, p2⟩
        · refine .inr ⟨p1, p2, p3.trans harm, p6.trans hlas, fun d d1 d2 => ?_, fun k hk => ?_⟩
          · by_cases hd : c + n ≤ d
            · exact p4 d hd d2
            · have e5 := hpl (d - c) (by omega)
              rw [show c + (d - c) = d by omega] at e5
              rw [p5 _ (fun d' a1 a2 e => by have := plc_inj (m := m) (c := d) (c' := d') d2 a2 (by omega); omega), hsc, if_pos (by omega)]
              rw [show (2 + ((plc m d : Nat) : Int) - ((2 + a : Nat) : Int)).toNat = d - c by omega, hsec (d - c) (by omega), show c + (d - c) = d by omega]
          · rw [p5 k (fun d a1 a2 => hk d (by omega) a2), hsc, if_neg]
            rintro ⟨k1, k2⟩
            have e5 := hpl (k - ((2 + a : Nat) : Int)).toNat (by omega)
            exact hk (c + (k - ((2 + a : Nat) : Int)).toNat) (by omega) (by omega) (by omega)
end
end Go.Proofs.YtcmneekdajnnaaaGreatDoor
