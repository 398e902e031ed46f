/- Apply and Run, wherever the power goes. -/
import Derived.Test.YtianlhigeabehaaGreatDoorKLawV
namespace Go.Proofs.YtianlhigeabehaaGreatDoor
open Go.RowKit

theorem wants_inj : ∀ {l : List Im}, l.Pairwise (fun i j => i.block ≠ j.block) → ∀ {i j : Im}, i ∈ l → j ∈ l → i.block = j.block → i = j
  | x :: l, hp, i, j, hi, hj, e => by
    have hp' := List.pairwise_cons.1 hp
    rcases List.mem_cons.1 hi with hi1 | hi1
    · rcases List.mem_cons.1 hj with hj1 | hj1
      · rw [hi1, hj1]
      · exact absurd (by rw [← hi1, e]) (hp'.1 j hj1)
    · rcases List.mem_cons.1 hj with hj1 | hj1
      · exact absurd (by rw [← hj1, ← e]) (hp'.1 i hi1)
      · exact wants_inj hp'.2 hi1 hj1 e
theorem apply_skip {D : Dk} {node : Int} {epoch : Nat} {i : Im} (h : D.load i.block = (i, 0)) (l : List Im) (n : Nat) : applyGo node epoch (i :: l) n D = applyGo node epoch l n D := by
  rw [apply_one h, if_pos (Nat.le_refl _)]
theorem apply_put {D : Dk} {node : Int} {epoch : Nat} {i : Im} (h : (∃ was : Im, D.load i.block = (was, 0) ∧ was.ver < i.ver) ∨ D.load i.block = (Im.zero, 6)) (l : List Im) (n : Nat) :
    applyGo node epoch (i :: l) n D = if (D.store node epoch i).1 ≠ 0 then ⟨0, (D.store node epoch i).1, (D.store node epoch i).2⟩ else applyGo node epoch l (n + 1) (D.store node epoch i).2 := by
  rcases h with ⟨was, h1, h2⟩ | h1
  · rw [apply_one h1, if_neg (by omega)]
  · rw [applyGo_cons, h1, if_neg (by simp [tornE]), if_neg (by simp [tornE])]
section
variable {D : Dk} {e : Nat} {l : List Im} {lg : Int → ByteArray}
theorem store_write {i : Im} (hr : i.right) (hb : i.block ≤ 9) (node : Int) : D.store node e i = D.write node e (17 + 2 * i.block) (str (blkL i)) := by
  have h0 := hr.1
  have hba : blockAt i.block = (17 + 2 * i.block, 0) := if_neg (by omega)
  unfold Dk.store
  rw [hba, if_neg (by simp), if_neg (by simp [hr])]
theorem Run2.load3 (h : Run2 D e (A1 l lg)) (hw : Wants l) {i : Im} (hi : i ∈ l) :
    (D.load i.block = (i, 0) ∧ D.sec (17 + 2 * i.block) = str (secL i 0) ∧ D.sec (17 + 2 * i.block + 1) = str (secL i 1)) ∨ ((∃ was : Im, D.load i.block = (was, 0) ∧ was.ver < i.ver) ∨ D.load i.block = (Im.zero, 6)) := by
  obtain ⟨hr, h0, hv, hb⟩ := hw.ok i hi
  have hr0 := hr.1
  have hbt : ((i.block.toNat : Nat) : Int) = i.block := by omega
  have hle := load_eq h.live (b := i.block.toNat) (by omega)
  rw [hbt] at hle
  have s0 := ((h.safe.sec h.sane (17 + 2 * i.block)).2.2 i hi).1 rfl
  have s1 := ((h.safe.sec h.sane (17 + 2 * i.block + 1)).2.2 i hi).2 rfl
  rcases s0 with s0 | s0
  · rcases s1 with s1 | s1
    · rw [s0, s1, str_list, zer_app] at hle
      refine .inr (.inl ⟨⟨i.block, 0, str (zer 96)⟩, hle.trans ?_, h0⟩)
      unfold getB
      rw [if_neg (by rw [str_size, zer_len]; omega), if_pos rfl]
    · rw [s0, s1, str_list, str_list, torn_b hr] at hle
      exact .inr (.inr hle)
  · rcases s1 with s1 | s1
    · rw [s0, s1, str_list, str_list, torn_a hr] at hle
      exact .inr (.inr hle)
    · have e1 : getB i.block (str (secL i 0 ++ secL i 1)) = (i, 0) := getB_put hr hv
      rw [s0, s1, str_list, str_list, e1] at hle
      exact .inl ⟨hle, s0, s1⟩
/-- what Apply leaves, where the power stays -/
structure ApOk (D : Dk) (e : Nat) (A : Int → ByteArray → Prop) (l : List Im) (n : Nat) (R : ApR) : Prop where
  err : R.e = 0
  run : Run2 R.D e A
  armed : R.D.armed = D.armed
  halves : ∀ i ∈ l, R.D.sec (17 + 2 * i.block) = str (secL i 0) ∧ R.D.sec (17 + 2 * i.block + 1) = str (secL i 1)
  other : ∀ k, (∀ i ∈ l, k ≠ 17 + 2 * i.block ∧ k ≠ 17 + 2 * i.block + 1) → R.D.sec k = D.sec k
  cnt : n ≤ R.n
  same : R.n = n → R.D = D
theorem apply_all (hw : Wants l) (h0 : e ≠ 0) : ∀ (m : List Im) (n : Nat) (D : Dk), (∀ i ∈ m, i ∈ l) → m.Pairwise (fun i j => i.block ≠ j.block) → Run2 D e (A1 l lg) →
    (D.armed = true ∧ (applyGo (2 : Nat) e m n D).e ≠ 0 ∧ Off2 (applyGo (2 : Nat) e m n D).D e (A1 l lg)) ∨ ApOk D e (A1 l lg) m n (applyGo (2 : Nat) e m n D)
  | [], n, D, _, _, h => .inr ⟨rfl, h, rfl, (fun i hi => by cases hi), fun _ _ => rfl, Nat.le_refl _, fun _ => rfl⟩
  | i :: m, n, D, hm, hp, h => by
    have hp' := List.pairwise_cons.1 hp
    have hi := hm i (List.mem_cons_self ..)
    have hm' : ∀ j ∈ m, j ∈ l := fun j hj => hm j (List.mem_cons_of_mem _ hj)
    obtain ⟨hr, hv0, hv, hb⟩ := hw.ok i hi
    have hr0 := hr.1
    rcases h.load3 hw hi with ⟨g1, g2, g3⟩ | hput
    · rw [apply_skip g1]
      rcases apply_all hw h0 m n D hm' hp'.2 h with hx | hx
      · exact .inl hx
      · refine .inr ⟨hx.err, hx.run, hx.armed, fun j hj => ?_, fun k hk => hx.other k (fun j hj => hk j (List.mem_cons_of_mem _ hj)), hx.cnt, hx.same⟩
        rcases List.mem_cons.1 hj with rfl | hj
        · refine ⟨(hx.other _ (fun j' hj' => ?_)).trans g2, (hx.other _ (fun j' hj' => ?_)).trans g3⟩
          · have := hp'.1 j' hj'
            omega
          · have := hp'.1 j' hj'
            omega
        · exact hx.halves j hj
    · rw [apply_put hput, store_write hr hb]
      obtain ⟨q0, q1⟩ := sect_blk hr
      rcases h.write h0 (a := 17 + 2 * i.block) (data := str (blkL i)) (m := 2) (by rw [str_size, blkL_len hr]) (by omega) (by omega) (by omega) (by omega) with ⟨w1, w2, w3⟩ | ⟨nl, w1⟩
      · left
        rw [if_pos (by rw [w2]; decide)]
        exact ⟨w1, by rw [w2]; simp, w3⟩
      · rw [w1, if_neg (by simp)]
        have hrun : Run2 (({ D with left := nl } : Dk).writeN (2 : Nat) (17 + 2 * i.block) (str (blkL i)) 2) e (A1 l lg) := by
          refine (h.left nl).wrote (fun j hj => ?_)
          rcases (show j = 0 ∨ j = 1 by omega) with rfl | rfl
          · rw [q0]
            refine ⟨fun hk => by omega, fun _ hk => by omega, fun i' hi' => ⟨fun hk => .inr ?_, fun hk => by omega⟩⟩
            rw [wants_inj hw.one hi hi' (by omega)]
          · rw [q1]
            refine ⟨fun hk => by omega, fun _ hk => by omega, fun i' hi' => ⟨fun hk => by omega, fun hk => .inr ?_⟩⟩
            rw [wants_inj hw.one hi hi' (by omega)]
        have hsec : ∀ k, (({ D with left := nl } : Dk).writeN (2 : Nat) (17 + 2 * i.block) (str (blkL i)) 2).sec k = if 17 + 2 * i.block ≤ k ∧ k < 17 + 2 * i.block + ((2 : Nat) : Int) then sect (str (blkL i)) (k - (17 + 2 * i.block)).toNat else D.sec k := fun k => writeN_sec _ _ _ _ _ _
        have harm : (({ D with left := nl } : Dk).writeN (2 : Nat) (17 + 2 * i.block) (str (blkL i)) 2).armed = D.armed := (writeN_same _ _ _ _ _).2.1
        generalize ({ D with left := nl } : Dk).writeN (2 : Nat) (17 + 2 * i.block) (str (blkL i)) 2 = E at hrun hsec harm
        show (D.armed = true ∧ (applyGo (2 : Nat) e m (n + 1) E).e ≠ 0 ∧ Off2 (applyGo (2 : Nat) e m (n + 1) E).D e (A1 l lg)) ∨ ApOk D e (A1 l lg) (i :: m) n (applyGo (2 : Nat) e m (n + 1) E)
        rcases apply_all hw h0 m (n + 1) E hm' hp'.2 hrun with ⟨x1, x2, x3⟩ | hx
        · exact .inl ⟨harm ▸ x1, x2, x3⟩
        · have hc := hx.cnt
          refine .inr ⟨hx.err, hx.run, hx.armed.trans harm, fun j hj => ?_, fun k hk => ?_, by omega, fun hn => by omega⟩
          · rcases List.mem_cons.1 hj with rfl | hj
            · refine ⟨(hx.other _ (fun j' hj' => ?_)).trans ?_, (hx.other _ (fun j' hj' => ?_)).trans ?_⟩
              · have := hp'.1 j' hj'
                omega
              · rw [hsec, if_pos (by omega)]
                have : (17 + 2 * j.block - (17 + 2 * j.block)).toNat = 0 := by omega
                rw [this, q0]
              · have := hp'.1 j' hj'
                omega
              · rw [hsec, if_pos (by omega)]
                have : (17 + 2 * j.block + 1 - (17 + 2 * j.block)).toNat = 1 := by omega
                rw [this, q1]
            · exact hx.halves j hj
          · rw [hx.other k (fun j hj => hk j (List.mem_cons_of_mem _ hj)), hsec, if_neg]
            have := hk i (List.mem_cons_self ..)
            omega
theorem a2_of {k : Int} {v : ByteArray} (h : A1 l lg k v) (hh : ∀ i ∈ l, (k = 17 + 2 * i.block → v = str (secL i 0)) ∧ (k = 17 + 2 * i.block + 1 → v = str (secL i 1))) : A2 l lg k v := ⟨fun hk => .inl (h.1 hk), h.2.1, hh⟩
theorem a1_of {k : Int} {v : ByteArray} (h : A2 l lg k v) (hh : k = 1 → v = str hd9) : A1 l lg k v := ⟨hh, h.2.1, fun i hi => ⟨fun hk => .inr ((h.2.2 i hi).1 hk), fun hk => .inr ((h.2.2 i hi).2 hk)⟩⟩
theorem halves_at {E : Dk} (hh : ∀ i ∈ l, E.sec (17 + 2 * i.block) = str (secL i 0) ∧ E.sec (17 + 2 * i.block + 1) = str (secL i 1)) (k : Int) : ∀ i ∈ l, (k = 17 + 2 * i.block → E.sec k = str (secL i 0)) ∧ (k = 17 + 2 * i.block + 1 → E.sec k = str (secL i 1)) :=
  fun i hi => ⟨fun hk => by rw [hk]; exact (hh i hi).1, fun hk => by rw [hk]; exact (hh i hi).2⟩
theorem applyR_cut (hw : Wants l) (h0 : e ≠ 0) (h : Run2 D e (A1 l lg)) (hwt : D.waits = []) :
    (D.armed = true ∧ (applyR D (2 : Nat) e l).e ≠ 0 ∧ Off2 (applyR D (2 : Nat) e l).D e (A1 l lg)) ∨
    ((applyR D (2 : Nat) e l).e = 0 ∧ Run2 (applyR D (2 : Nat) e l).D e (A2 l lg) ∧ (applyR D (2 : Nat) e l).D.waits = [] ∧ (applyR D (2 : Nat) e l).D.armed = D.armed ∧ (applyR D (2 : Nat) e l).D.sec 1 = str hd9) := by
  unfold applyR
  rcases apply_all hw h0 l 0 D (fun _ hi => hi) hw.one h with ⟨x1, x2, x3⟩ | hx
  · left
    rw [if_pos x2]
    exact ⟨x1, x2, x3⟩
  · obtain ⟨y1, y2, y3, y4, y5, y6, y7⟩ := hx
    generalize applyGo (2 : Nat) e l 0 D = A at y1 y2 y3 y4 y5 y6 y7
    obtain ⟨n, er, E⟩ := A
    simp only at y1 y2 y3 y4 y5 y6 y7 ⊢
    rw [if_neg (by rw [y1]; decide)]
    have hE1 : E.sec 1 = str hd9 := (y2.safe.sec y2.sane 1).1 rfl
    by_cases hn : n = 0
    · right
      rw [if_pos hn]
      have hED := y7 hn
      refine ⟨y1, y2.weak (by rw [hED]; exact hwt) (fun k => a2_of (y2.safe.sec y2.sane k) (halves_at y4 k)), by rw [hED]; exact hwt, y3, hE1⟩
    · rw [if_neg hn]
      rcases y2.barrier h0 with ⟨w1, w2, w3⟩ | ⟨nl, w1⟩
      · left
        rw [if_pos (by rw [w2]; decide)]
        exact ⟨y3 ▸ w1, by rw [w2]; simp, w3⟩
      · right
        rw [w1, if_neg (by simp)]
        obtain ⟨z1, z2⟩ := (y2.left nl).settle
        have hs : ∀ k, (({ E with left := nl } : Dk).settle (2 : Nat)).sec k = E.sec k := fun k => settle_sec _ _ _
        refine ⟨rfl, z1.weak z2 (fun k => ?_), z2, ?_, (hs 1).trans hE1⟩
        · show A2 l lg k ((({ E with left := nl } : Dk).settle (2 : Nat)).sec k)
          rw [hs]
          exact a2_of (y2.safe.sec y2.sane k) (halves_at y4 k)
        · show (({ E with left := nl } : Dk).settle (2 : Nat)).armed = D.armed
          rw [(settle_same _ _).2.1]
          exact y3
theorem live_scan (h : Live D) (hs : D.sec 1 = str hd9) : D.scan 1 = scanL 9 10 1 (str (D.readL 2 7)) ∧ D.scanE 1 = 0 ∧ D.headE 1 = 0 ∧ D.headI 1 = true ∧ (D.headH 1).epoch = 9 := by
  obtain ⟨_, h2, h3, h4⟩ := head_of h (h := ⟨9, 1, 0⟩) hd9_ok (by decide) (by decide) (by decide) hs
  obtain ⟨r1, r2⟩ := h.read (at_ := 2) (n := 7) (by omega) (by omega) (by omega)
  have hr : D.readE ((logAt 1).1 + 1) 7 = 0 := r1
  refine ⟨?_, ?_, h4, h3, by rw [h2]⟩
  · unfold Dk.scan
    rw [if_neg (by rw [h4, h3, hr]; decide), h2]
    have e : D.readS ((logAt 1).1 + 1) 7 = str (D.readL 2 7) := r2
    rw [e]
    have : rotS (str (D.readL 2 7)) (Int.toNat (⟨9, 1, 0⟩ : Hd).at_ * 64) = str (D.readL 2 7) := by
      show rotS (str (D.readL 2 7)) 0 = _
      unfold rotS
      rw [extract_str, extract_str, str_size, List.drop_zero, List.take_of_length_le (Nat.le_refl _), List.take_zero, List.drop_zero]
      refine ByteArray.ext ?_
      apply Array.toList_inj.1
      simp
      rfl
    rw [this]
  · unfold Dk.scanE
    rw [if_neg (by rw [h4]; decide), if_neg (by rw [h3]; decide)]
    exact hr
theorem run_cut (hw : Wants l) (h0 : e ≠ 0) (h : Run2 D e (A1 l lg)) (hwt : D.waits = []) (hp : planOf (scanL 9 10 1 (str (D.readL 2 7))) = l) :
    (D.armed = true ∧ (runR D 1 9 (2 : Nat) e).e ≠ 0 ∧ (Off2 (runR D 1 9 (2 : Nat) e).D e (A1 l lg) ∨ Off2 (runR D 1 9 (2 : Nat) e).D e (A2 l lg))) ∨
    ((runR D 1 9 (2 : Nat) e).e = 0 ∧ Run2 (runR D 1 9 (2 : Nat) e).D e (A2 l lg) ∧ (runR D 1 9 (2 : Nat) e).D.waits = [] ∧ (runR D 1 9 (2 : Nat) e).D.armed = D.armed ∧ (runR D 1 9 (2 : Nat) e).D.sec 1 = str (zer 64)) := by
  obtain ⟨c1, c2, c3, c4, c5⟩ := live_scan h.live ((h.safe.sec h.sane 1).1 rfl)
  unfold runR
  rw [c1, hp, c2, c3, c4, c5, if_neg (by decide), if_neg (by decide), if_neg (by decide)]
  rcases applyR_cut hw h0 h hwt with ⟨x1, x2, x3⟩ | ⟨y1, y2, y3, y4, y5⟩
  · left
    rw [if_pos x2]
    exact ⟨x1, x2, .inl x3⟩
  · generalize applyR D (2 : Nat) e l = A at y1 y2 y3 y4 y5
    obtain ⟨n, er, E⟩ := A
    simp only at y1 y2 y3 y4 y5 ⊢
    rw [if_neg (by rw [y1]; decide)]
    have hla : (logAt 1).1 = 1 := rfl
    rw [hla]
    have hse : sect (str (zer 64)) 0 = str (zer 64) := sect_zer (by omega)
    rcases y2.write h0 (a := 1) (data := str (zer 64)) (m := 1) (by rw [str_size, zer_len]) (by omega) (by omega) (by omega) (by omega) with ⟨w1, w2, w3⟩ | ⟨nl, w1⟩
    · left
      rw [if_pos (by rw [w2]; decide)]
      exact ⟨y4 ▸ w1, by rw [w2]; simp, .inr w3⟩
    · rw [w1, if_neg (by simp)]
      have hrun : Run2 (({ E with left := nl } : Dk).writeN (2 : Nat) 1 (str (zer 64)) 1) e (A2 l lg) := by
        refine (y2.left nl).wrote (fun j hj => ?_)
        obtain rfl : j = 0 := by omega
        rw [hse]
        refine ⟨fun _ => .inr rfl, fun hk => by omega, fun i hi => ?_⟩
        have := (hw.ok i hi).1.1
        exact ⟨fun hk => by omega, fun hk => by omega⟩
      have hsec : (({ E with left := nl } : Dk).writeN (2 : Nat) 1 (str (zer 64)) 1).sec 1 = str (zer 64) := by
        rw [writeN_sec, if_pos (by omega)]
        exact hse
      have harm : (({ E with left := nl } : Dk).writeN (2 : Nat) 1 (str (zer 64)) 1).armed = E.armed := (writeN_same _ _ _ _ _).2.1
      generalize ({ E with left := nl } : Dk).writeN (2 : Nat) 1 (str (zer 64)) 1 = F at hrun hsec harm
      rcases hrun.barrier h0 with ⟨w1, w2, w3⟩ | ⟨nm, w1⟩
      · left
        rw [if_pos (by rw [w2]; decide)]
        exact ⟨y4 ▸ harm ▸ w1, by rw [w2]; simp, .inr w3⟩
      · right
        rw [w1, if_neg (by simp)]
        obtain ⟨z1, z2⟩ := (hrun.left nm).settle
        refine ⟨rfl, z1, z2, ?_, ?_⟩
        · show (({ F with left := nm } : Dk).settle (2 : Nat)).armed = D.armed
          rw [(settle_same _ _).2.1]
          exact harm.trans y4
        · show (({ F with left := nm } : Dk).settle (2 : Nat)).sec 1 = str (zer 64)
          rw [settle_sec]
          exact hsec
end
end Go.Proofs.YtianlhigeabehaaGreatDoor

/- RedoEvery, plain: the disk ahead of all; one more time; the last time. -/
namespace Go.Proofs.YtianlhigeabehaaGreatDoor
open Go.RowKit

/-- nothing waits -/
structure Quiet (D : Dk) : Prop where
  sane : Sane D 0
  waits : D.waits = []
section
variable {D E : Dk} {k : Nat}
theorem Quiet.same (h : Quiet D) (h1 : E.waits = D.waits) (h2 : E.now = D.now) (h3 : E.lasts = D.lasts) (h4 : E.seq = D.seq) : Quiet E := by
  have hl : lastD E = lastD D := by
    unfold lastD
    rw [h3]
  obtain ⟨s0, c0, c1, c2⟩ := h.sane.chain
  refine ⟨⟨fun x hx => h.sane.nodes x (h1 ▸ hx), by rw [h2, hl, h1]; exact h.sane.now, s0, c0, fun k x hx => c1 k x (h3 ▸ hx), by rw [h1, h4]; exact c2⟩, h1.trans h.waits⟩
theorem Quiet.wrote (h : Quiet D) (n : Int) (a : Int) (data : ByteArray) (m : Nat) : Quiet ((D.writeN n a data m).settle n) := by
  obtain ⟨a, b, _⟩ := ((h.sane.any h.waits n).writeN a data m).settle 0
  exact ⟨a, b⟩
theorem Quiet.settle (h : Quiet D) (n : Int) : Quiet (D.settle n) := h.wrote n 0 ⟨#[]⟩ 0
theorem Quiet.fence (h : Quiet D) (hc : Calm D k) {n : Nat} (hn : n ≤ 16) : Quiet (D.fence n).2 := by
  rw [(hc.fence hn).1]
  exact (h.settle n).same rfl rfl rfl rfl
theorem Quiet.put (h : Quiet D) (hc : Calm D k) {n : Nat} (hn : n ≤ 16) (v : Nat) : Quiet (D.put n v).2 := by
  rw [(hc.put hn v).1]
  exact h.same rfl rfl rfl rfl
theorem Quiet.admit (h : Quiet D) (hc : Calm D k) {n : Nat} (hn : n ≤ 16) {e : Nat} (he : D.last < e) : Quiet (D.admit n e).2 := by
  rw [(hc.admit hn he).1]
  exact h.same rfl rfl rfl rfl
theorem quiet_fmt (h : Quiet D) (hc : Calm D k) : ∀ j, j ≤ 17 → Quiet (D.fmtN j)
  | 0, _ => h
  | j + 1, hj => ((quiet_fmt h hc j (by omega)).fence (fmt_calm hc j (by omega)).1 (by omega)).put ((fmt_calm hc j (by omega)).1.fence (by omega)).2 (by omega) 0
theorem sane_zeros (h : Sane D 0) : ∀ j, Sane (D.zerosN j) 0
  | 0 => h
  | j + 1 => (sane_zeros h j).writeN _ _ _
theorem quiet_lay (h : Quiet D) : Quiet D.layF := by
  obtain ⟨a, b, _⟩ := (sane_zeros h.sane 3).settle 0
  exact Quiet.wrote ⟨a, b⟩ (0 : Nat) 0 (str superL) 1
end
theorem quiet_fresh : Quiet (Dk.fresh 37) := ⟨⟨(fun x hx => by cases hx), rfl, 0, Int.le_refl _, (fun k x hx => by cases hx), Int.le_refl _⟩, rfl⟩
set_option maxRecDepth 100000 in
theorem quiet_format {D : Dk} (h : Quiet D) (hc : Calm D 0) (hl : D.last = 0) : Quiet D.formatF := by
  obtain ⟨f1, f2, f3⟩ := fmt_calm hc 17 (by omega)
  have f2' : (D.fmtN 17).last < 1 := by rw [f2, hl]; omega
  have q1 := (quiet_fmt h hc 17 (by omega)).admit f1 (n := 0) (by omega) f2'
  obtain ⟨a1, a2⟩ := f1.admit (n := 0) (by omega) (e := 1) f2'
  have e : D.formatF = (((D.fmtN 17).admit (0 : Nat) 1).2.layF.fence (0 : Nat)).2 := by unfold Dk.formatF; rw [hl]; rfl
  rw [e]
  generalize ((D.fmtN 17).admit (0 : Nat) 1).2 = E at q1 a2
  exact (quiet_lay q1).fence (lay_calm a2) (by omega)
set_option maxRecDepth 100000 in
theorem quiet_ready : Quiet readyD := by
  have q := quiet_format quiet_fresh calm_fresh fresh_last
  obtain ⟨f1, f2, _⟩ := format_facts calm_fresh fresh_last
  have e1 : readyD = ((Dk.fresh 37).formatF.admit (1 : Nat) 9).2 := rfl
  have hls : (Dk.fresh 37).formatF.last < 9 := by rw [f2]; omega
  rw [e1]
  generalize (Dk.fresh 37).formatF = F at q f1 hls
  exact q.admit f1 (by omega) hls
section
variable {D : Dk} {k t2 ls : Nat} {h l1 l2 l3 : List UInt8} {f : Nat → Im}
theorem open_form (hc : Calm D k) (ht : D.table 1 = 9) : (D.lhead lg0 ⟨9, 1, 0⟩).2 = (D.writeN (1 : Nat) 1 (str hd9) 1).settle (1 : Nat) := by
  rw [(lhead_ok hc (g := lg0) (by decide) ht (by decide) (by decide) hd9_ok).1]
  rfl
theorem put_form1 (hc : Calm D k) (ht : D.table 1 = 9) {g : Lg} (h1 : g.node = 1) (h2 : g.epoch = 9) (h3 : g.base = 1) (i : Im) : (D.put_ g (enOf 1 0 i)) = (0, D.writeN (1 : Nat) 2 (str (recL (rcI 1 i))) 3) := by
  have e := (put_one hc (g := g) (by omega) (by rw [h1, h2]; exact ht) (by omega) (by omega) (x := enOf 1 0 i) rfl (Nat.zero_le _) (entry_size 1 0 i)).1
  rw [e, h1, h3]
  rfl
theorem put_form2 (hc : Calm D k) (ht : D.table 1 = 9) {g : Lg} (h1 : g.node = 1) (h2 : g.epoch = 9) (h3 : g.base = 1) (i : Im) : (D.put_ g (enOf 2 3 i)) = (0, D.writeN (1 : Nat) 5 (str (recL (rcI 2 i))) 3) := by
  have e := (put_one hc (g := g) (by omega) (by rw [h1, h2]; exact ht) (by omega) (by omega) (x := enOf 2 3 i) rfl (show 3 ≤ 4 by decide) (entry_size 2 3 i)).1
  rw [e, h1, h3]
  rfl
theorem sync_formW {g G : Lg} {n : Nat} {E : Dk} (hw : writeR D g = ⟨n, 0, E, G⟩) (hc : Calm E k) (ht : E.table 1 = 9) (h1 : G.node = 1) (h2 : G.epoch = 9) (h3 : G.synced < G.written) : (syncR D g).D = E.settle (1 : Nat) := by
  have b1 := (hc.barrier (n := 1) (by omega) ht (by omega)).1
  have e : syncR D g = ⟨0, 0, (E.barrier (1 : Nat) 9).2, { G with synced := G.written }⟩ := by
    unfold syncR
    rw [hw]
    simp only
    rw [h1, h2, if_neg (by decide), if_neg (by omega), if_neg (by rw [b1]; simp)]
  rw [e, b1]
theorem sync_form1 (v : View D k 9 t2 ls h l1 l2 l3 f) (i : Im) : (syncR D (lg1 i)).D = (D.writeN (1 : Nat) 2 (str (recL (rcI 1 i))) 3).settle (1 : Nat) := by
  obtain ⟨p1, p2⟩ := v.put1 (g := lg1 i) rfl rfl rfl i
  have e := put_form1 v.calm v.t1 (g := lg1 i) rfl rfl rfl i
  have hw : writeR D (lg1 i) = ⟨1, 0, (D.put_ (lg1 i) (enOf 1 0 i)).2, (lg1 i).wrote 0 (enOf 1 0 i)⟩ := by
    show wrGo [enOf 1 0 i] 0 0 D (lg1 i) = _
    rw [wrGo_false rfl, if_neg (by rw [p1]; decide), wr_done]
  rw [sync_formW hw p2.calm p2.t1 rfl rfl (show (0 : Nat) < 1 by decide), e]
theorem sync_form2 (v : View D k 9 t2 ls h l1 l2 l3 f) (i j : Im) : (syncR D (lg2 i j)).D = ((D.writeN (1 : Nat) 2 (str (recL (rcI 1 i))) 3).writeN (1 : Nat) 5 (str (recL (rcI 2 j))) 3).settle (1 : Nat) := by
  have h1 : (lg2 i j).node = 1 := rfl
  have h2 : (lg2 i j).epoch = 9 := rfl
  have h3 : (lg2 i j).base = 1 := rfl
  have h4 : (lg2 i j).live = [enOf 1 0 i, enOf 2 3 j] := rfl
  have h5 : (lg2 i j).broken = false := rfl
  have h6 : (lg2 i j).synced = 0 := rfl
  generalize lg2 i j = g at h1 h2 h3 h4 h5 h6 ⊢
  obtain ⟨p1, p2⟩ := v.put1 h1 h2 h3 i
  have e1 := put_form1 v.calm v.t1 h1 h2 h3 i
  have x1 : (g.wrote 0 (enOf 1 0 i)).node = 1 := h1
  have x2 : (g.wrote 0 (enOf 1 0 i)).epoch = 9 := h2
  have x3 : (g.wrote 0 (enOf 1 0 i)).base = 1 := h3
  obtain ⟨q1, q2⟩ := p2.put2 x1 x2 x3 j
  have e2 := put_form2 p2.calm p2.t1 x1 x2 x3 j
  have hw := wr_two h4 h5 rfl rfl p1 q1
  have y1 : ((g.wrote 0 (enOf 1 0 i)).wrote 1 (enOf 2 3 j)).node = 1 := h1
  have y2 : ((g.wrote 0 (enOf 1 0 i)).wrote 1 (enOf 2 3 j)).epoch = 9 := h2
  have y3 : ((g.wrote 0 (enOf 1 0 i)).wrote 1 (enOf 2 3 j)).synced < ((g.wrote 0 (enOf 1 0 i)).wrote 1 (enOf 2 3 j)).written := by
    show g.synced < 2
    omega
  rw [sync_formW hw q2.calm q2.t1 y1 y2 y3, e2, e1]
end
/-- from sector 9 on all is bytes 0 -/
def Zeros (D : Dk) : Prop := ∀ k : Int, 9 ≤ k → D.sec k = str (zer 64)
theorem zeros_ready : Zeros readyD := fun k hk => by
  rw [ready_facts.2.2.2 k, if_neg (by omega)]
theorem Zeros.wrote {D : Dk} (h : Zeros D) (n a : Int) (data : ByteArray) (m : Nat) (ha : a + m ≤ 9) : Zeros (D.writeN n a data m) := fun k hk => by
  rw [writeN_sec, if_neg (by omega)]
  exact h k hk
theorem Zeros.settle {D : Dk} (h : Zeros D) (n : Int) : Zeros (D.settle n) := fun k hk => (settle_sec D n k).trans (h k hk)
theorem Zeros.now {D E : Dk} (h : Zeros D) (he : E.now = D.now) : Zeros E := fun k hk => (sec_congr he k).trans (h k hk)
/-- the plan's images -/
theorem best_block (l : List Im) : ∀ k x, bestOf l k = some x → x.block = k := by
  have key : ∀ (l : List Im) (f : Int → Option Im), (∀ k x, f k = some x → x.block = k) → ∀ k x, l.foldl bestStep f k = some x → x.block = k := by
    intro l
    induction l with
    | nil => intro f hf; exact hf
    | cons y l ih =>
      intro f hf
      refine ih _ (fun k x hx => ?_)
      have hu : ∀ k x, upd f y.block y k = some x → x.block = k := by
        intro k x hx
        unfold upd at hx
        split at hx
        · rename_i hk
          injection hx with hx
          rw [← hx, hk]
        · exact hf k x hx
      cases h : f y.block with
      | none => rw [best_none h] at hx; exact hu k x hx
      | some was =>
        rw [best_some h] at hx
        split at hx
        · exact hu k x hx
        · exact hf k x hx
  exact key l (fun _ => none) (fun k x h => by cases h)
theorem plan_wants {rs : List Rc} (h : ∀ i ∈ rs.flatMap (·.images), i.right ∧ 0 < i.ver ∧ i.ver < 18446744073709551616 ∧ i.block ≤ 9) : Wants (planOf rs) := by
  have hk : ∀ k ∈ keysOf (rs.flatMap (·.images)), ∃ x, bestOf (rs.flatMap (·.images)) k = some x := by
    intro k hk
    unfold keysOf at hk
    rw [List.mem_mergeSort, List.mem_eraseDups] at hk
    have := (best_keys (rs.flatMap (·.images)) k).2 hk
    exact Option.isSome_iff_exists.1 this
  have hn : (keysOf (rs.flatMap (·.images))).Nodup := by
    unfold keysOf
    exact (List.mergeSort_perm _ _).nodup_iff.2 (nodup_dups _)
  have hg : ∀ k x, bestOf (rs.flatMap (·.images)) k = some x → keyG (bestOf (rs.flatMap (·.images))) k = x := by
    intro k x hx
    unfold keyG
    rw [hx]
    rfl
  rw [plan_eq]
  refine ⟨fun i hi => ?_, ?_⟩
  · obtain ⟨k, hk1, rfl⟩ := List.mem_map.1 hi
    obtain ⟨x, hx⟩ := hk k hk1
    rw [hg k x hx]
    exact h x (best_mem _ k x hx)
  · rw [List.pairwise_map]
    refine hn.imp_of_mem (fun {a b} ha hb hab => ?_)
    obtain ⟨x, hx⟩ := hk a ha
    obtain ⟨y, hy⟩ := hk b hb
    rw [hg a x hx, hg b y hy, best_block _ a x hx, best_block _ b y hy]
    exact hab
/-- ahead of each time -/
def Ok2 (l : List Im) (lg : Int → ByteArray) (D : Dk) : Prop := D.waits = [] ∧ (Run2 D 20 (A1 l lg) ∨ (Run2 D 20 (A2 l lg) ∧ D.sec 1 = str (zer 64)))
section
variable {D D0 : Dk} {l : List Im} {lg : Int → ByteArray} {A : Int → ByteArray → Prop} {e : Nat}
theorem Run2.arm (h : Run2 D e A) (n : Int) (keep : List Int) : Run2 (D.arm n keep) e A := ⟨h.on, h.sectors, h.t2, ⟨h.sane.nodes, h.sane.now, h.sane.chain⟩, ⟨h.safe.last, h.safe.wait⟩⟩
theorem Run2.again (h : Run2 D e A) : Run2 (D.arm (-1) []).restore e A := ⟨rfl, h.sectors, h.t2, ⟨h.sane.nodes, h.sane.now, h.sane.chain⟩, ⟨h.safe.last, h.safe.wait⟩⟩
theorem Off2.again (h : Off2 D e A) : Run2 (D.arm (-1) []).restore e A := ⟨rfl, h.sectors, h.t2, ⟨h.sane.nodes, h.sane.now, h.sane.chain⟩, ⟨h.safe.last, h.safe.wait⟩⟩
theorem ok2_start {k t1 ls : Nat} {l1 l2 l3 : List UInt8} {f : Nat → Im} (v : View D k t1 20 ls hd9 l1 l2 l3 f) (q : Quiet D) (z : Zeros D) (hw : Wants l) : Ok2 l D.sec D := by
  refine ⟨q.waits, .inl ⟨v.calm.on, v.calm.sectors, v.t2, q.sane.any q.waits _, ?_⟩⟩
  refine safe_of_sec q.sane q.waits (fun k => ⟨fun hk => by rw [hk]; exact v.head, fun _ _ => rfl, fun i hi => ?_⟩)
  have := (hw.ok i hi).1.1
  exact ⟨fun hk => .inl (z k (by omega)), fun hk => .inl (z k (by omega))⟩
theorem log_same (h : Run2 D e (A1 l D0.sec)) : D.readL 2 7 = D0.readL 2 7 :=
  readL_congr (fun j h1 h2 => (h.safe.sec h.sane j).2.1 h1 (by omega))
/-- once more, with a cut in its midst -/
theorem ok2_again (hw : Wants l) (hp : planOf (scanL 9 10 1 (str (D0.readL 2 7))) = l) (h : Ok2 l D0.sec D) (n : Int) (keep : List Int) : Ok2 l D0.sec (((runR (D.arm n keep) 1 9 (2 : Nat) 20).D.arm (-1) []).restore) := by
  obtain ⟨hwt, h | ⟨h, hz⟩⟩ := h
  · have ha := h.arm n keep
    rcases run_cut hw (by omega) ha hwt (by rw [log_same ha]; exact hp) with ⟨_, _, x⟩ | ⟨_, y2, y3, _, y5⟩
    · rcases x with x | x
      · exact ⟨x.waits, .inl x.again⟩
      · have ho := x.again
        have hs1 := (ho.safe.sec ho.sane 1).1 rfl
        refine ⟨x.waits, ?_⟩
        rcases hs1 with hs1 | hs1
        · exact .inl (ho.weak x.waits (fun k => a1_of (ho.safe.sec ho.sane k) (fun hk => by rw [hk]; exact hs1)))
        · exact .inr ⟨ho, hs1⟩
    · exact ⟨y3, .inr ⟨y2.again, y5⟩⟩
  · have ha := h.arm n keep
    have e := (run_none ha.live hz 9 ((2 : Nat) : Int) 20).1
    rw [e]
    exact ⟨hwt, .inr ⟨ha.again, hz⟩⟩
/-- the last time -/
theorem ok2_last (hw : Wants l) (hp : planOf (scanL 9 10 1 (str (D0.readL 2 7))) = l) (h : Ok2 l D0.sec D) (ha : D.armed = false) :
    (runR D 1 9 (2 : Nat) 20).e = 0 ∧ (runR D 1 9 (2 : Nat) 20).D.scan 1 = [] ∧ (runR D 1 9 (2 : Nat) 20).D.scanE 1 = 0 ∧ ∀ i ∈ l, (runR D 1 9 (2 : Nat) 20).D.load i.block = (i, 0) := by
  have key : ∀ E : Dk, Run2 E 20 (A2 l D0.sec) → E.waits = [] → E.sec 1 = str (zer 64) → E.scan 1 = [] ∧ E.scanE 1 = 0 ∧ ∀ i ∈ l, E.load i.block = (i, 0) := by
    intro E hE _ hz
    obtain ⟨_, r2, r3⟩ := run_none hE.live hz 9 ((2 : Nat) : Int) 20
    refine ⟨r2, r3, fun i hi => ?_⟩
    obtain ⟨hr, h0, hv, hb⟩ := hw.ok i hi
    have hr0 := hr.1
    have hbt : ((i.block.toNat : Nat) : Int) = i.block := by omega
    have hle := load_eq hE.live (b := i.block.toNat) (by omega)
    rw [hbt] at hle
    have s0 := ((hE.safe.sec hE.sane (17 + 2 * i.block)).2.2 i hi).1 rfl
    have s1 := ((hE.safe.sec hE.sane (17 + 2 * i.block + 1)).2.2 i hi).2 rfl
    have e1 : getB i.block (str (secL i 0 ++ secL i 1)) = (i, 0) := getB_put hr hv
    rw [s0, s1, str_list, str_list, e1] at hle
    exact hle
  obtain ⟨hwt, h | ⟨h, hz⟩⟩ := h
  · rcases run_cut hw (by omega) h hwt (by rw [log_same h]; exact hp) with ⟨x, _⟩ | ⟨y1, y2, y3, _, y5⟩
    · rw [ha] at x
      cases x
    · exact ⟨y1, key _ y2 y3 y5⟩
  · have e := (run_none h.live hz 9 ((2 : Nat) : Int) 20).1
    rw [e]
    exact ⟨rfl, key D h hwt hz⟩
end
end Go.Proofs.YtianlhigeabehaaGreatDoor
