/- The document's disk as a plain structure; when it shows what the real one does. -/
import Derived.Test.YtjffjolopoejlaaGreatDoorKShelfC
import Derived.Test.YtjffjolopoejlaaGreatDoorKDiskF
import Derived.Test.YtjffjolopoejlaaGreatDoorKReadyP
import Derived.Test.YtjffjolopoejlaaGreatDoorKOpenRecs
namespace Go.Proofs.YtjffjolopoejlaaGreatDoor
open Go.RowKit

/-- the document's disk, whole -/
structure RF where
  room : Nat
  ws : List RW
  off : Bool
  table : Nat → Nat
  words : Nat → Nat
  last : Nat
  armed : Bool
  left : Int
  keep : List Int
def pickAt (k : Int) (b : Bool) (l : List RW) : Option RW := (l.filter (fun x => decide (x.at_ = k) && (!b || x.lasts))).getLast?
/-- what a sector has -/
def RF.at_ (R : RF) (k : Int) (b : Bool) : ByteArray := match pickAt k b R.ws with
  | some x => x.data
  | none => str (zer 64)
def toW (y : RW × Nat) : Ws := ⟨y.1.node, y.1.at_, (y.2 : Int), y.1.data⟩
/-- the last one of those that last, or that P holds of -/
def lst (P : RW × Nat → Bool) (L : List (RW × Nat)) (k : Int) : Option (RW × Nat) := (L.filter (fun y => decide (y.1.at_ = k) && P y)).getLast?
structure Rows (D : Dk) (ws : List RW) (L : List (RW × Nat)) : Prop where
  rows : L.map Prod.fst = ws
  rise : L.Pairwise (fun a b => a.2 < b.2)
  bound : ∀ y ∈ L, 1 ≤ y.2 ∧ y.2 ≤ D.seq
  waits : D.waits = (L.filter (fun y => !y.1.lasts)).map toW
  now : ∀ k, D.now k = (lst (fun _ => true) L k).map (fun y => y.1.data)
  lasts : ∀ k, D.lasts k = (lst (fun y => y.1.lasts) L k).map toW
/-- sectors of bytes 0 that last: the document has no need to write them -/
def Ghost (G : List RW) : Prop := ∀ x ∈ G, x.lasts = true ∧ x.data = str (zer 64)
/-- but for some sectors of bytes 0 ahead of all, the same writes -/
def GRows (D : Dk) (ws : List RW) : Prop := ∃ G L, Ghost G ∧ Rows D (G ++ ws) L
/-- a real disk shows what the document's does -/
structure Sim (D : Dk) (R : RF) : Prop where
  room : D.sectors = R.room
  on : D.on = !R.off
  table : D.table = R.table
  words : D.words = R.words
  last : D.last = R.last
  armed : D.armed = R.armed
  left : R.armed = true → D.left = R.left ∧ D.stays = R.keep ∧ 0 ≤ R.left
  rows : GRows D R.ws
theorem lst_one {P : RW × Nat → Bool} {L : List (RW × Nat)} (hr : L.Pairwise (fun a b => a.2 < b.2)) {x : RW × Nat} (hx : x ∈ L) (k : Int) :
    lst (fun y => P y || decide (y.2 = x.2)) L k = if x.1.at_ = k then (match lst P L k with
      | none => some x
      | some y => if y.2 < x.2 then some x else some y) else lst P L k := by
  obtain ⟨A, B, rfl⟩ := List.append_of_mem hx
  obtain ⟨hA, hB, hAB⟩ := List.pairwise_append.1 hr
  obtain ⟨hxB, _⟩ := List.pairwise_cons.1 hB
  have ea : A.filter (fun y => decide (y.1.at_ = k) && (P y || decide (y.2 = x.2))) = A.filter (fun y => decide (y.1.at_ = k) && P y) := by
    refine List.filter_congr (fun y hy => ?_)
    have : y.2 ≠ x.2 := Nat.ne_of_lt (hAB y hy x (List.mem_cons_self ..))
    simp [this]
  have eb : B.filter (fun y => decide (y.1.at_ = k) && (P y || decide (y.2 = x.2))) = B.filter (fun y => decide (y.1.at_ = k) && P y) := by
    refine List.filter_congr (fun y hy => ?_)
    have : y.2 ≠ x.2 := Nat.ne_of_gt (hxB y hy)
    simp [this]
  unfold lst
  rw [List.filter_append, List.filter_append, List.filter_cons, List.filter_cons, ea, eb]
  by_cases hk : x.1.at_ = k
  · rw [if_pos hk]
    simp only [hk, decide_true, Bool.true_and, Bool.or_true, if_true]
    generalize hFB : B.filter (fun y => decide (y.1.at_ = k) && P y) = FB
    generalize hFA : A.filter (fun y => decide (y.1.at_ = k) && P y) = FA
    rcases List.eq_nil_or_concat FB with rfl | ⟨FB', z, rfl⟩
    · rw [List.getLast?_append, List.getLast?_singleton, Option.some_or]
      by_cases hp : P x = true
      · rw [if_pos hp, List.getLast?_append, List.getLast?_singleton, Option.some_or]
        simp
      · rw [if_neg hp, List.append_nil]
        cases hl : FA.getLast? with
        | none => rfl
        | some y =>
          have hy : y ∈ FA := List.mem_of_getLast? hl
          rw [← hFA] at hy
          have := hAB y (List.mem_filter.1 hy).1 x (List.mem_cons_self ..)
          simp [this]
    · have hz : z ∈ B := by
        have : z ∈ B.filter (fun y => decide (y.1.at_ = k) && P y) := by rw [hFB]; simp
        exact (List.mem_filter.1 this).1
      have hlt := hxB z hz
      have e1 : ∀ (M : List (RW × Nat)), (FA ++ (M ++ FB'.concat z)).getLast? = some z := fun M => by simp
      have e2 : (FA ++ (x :: FB'.concat z)).getLast? = some z := e1 [x]
      rw [e2]
      by_cases hp : P x = true
      · rw [if_pos hp, e2]
        simp; omega
      · rw [if_neg hp]
        have e3 : (FA ++ FB'.concat z).getLast? = some z := e1 []
        rw [e3]
        have h9 : ¬ z.2 < x.2 := by omega
        simp [h9]
  · simp [hk]
theorem keep_lst {D : Dk} {P : RW × Nat → Bool} {L : List (RW × Nat)} (hr : L.Pairwise (fun a b => a.2 < b.2)) (h1 : ∀ y ∈ L, 1 ≤ y.2) (hl : ∀ k, D.lasts k = (lst P L k).map toW) {x : RW × Nat} (hx : x ∈ L) :
    ∀ k, (D.keep (toW x)).lasts k = (lst (fun y => P y || decide (y.2 = x.2)) L k).map toW := by
  intro k
  have hx1 := h1 x hx
  rw [lst_one hr hx]
  unfold Dk.keep
  have ha : (toW x).at_ = x.1.at_ := rfl
  rw [ha]
  by_cases hk : x.1.at_ = k
  · subst hk
    rw [if_pos rfl, hl]
    cases hq : lst P L x.1.at_ with
    | none =>
      rw [if_pos (show ((Option.map toW none).getD Ws.zero).seq < (toW x).seq from (show (0 : Int) < ((x.2 : Nat) : Int) by omega))]
      show upd D.lasts x.1.at_ (toW x) x.1.at_ = _
      unfold upd
      rw [if_pos rfl]
      rfl
    | some y =>
      by_cases hlt : y.2 < x.2
      · rw [if_pos (show ((Option.map toW (some y)).getD Ws.zero).seq < (toW x).seq from (show ((y.2 : Nat) : Int) < ((x.2 : Nat) : Int) by omega))]
        show upd D.lasts x.1.at_ (toW x) x.1.at_ = (if y.2 < x.2 then some x else some y).map toW
        unfold upd
        rw [if_pos rfl, if_pos hlt]
        rfl
      · rw [if_neg (show ¬ ((Option.map toW (some y)).getD Ws.zero).seq < (toW x).seq from (show ¬ ((y.2 : Nat) : Int) < ((x.2 : Nat) : Int) by omega)), hl, hq]
        show (some y).map toW = (if y.2 < x.2 then some x else some y).map toW
        rw [if_neg hlt]
  · rw [if_neg hk, ← hl]
    split
    · show upd D.lasts x.1.at_ (toW x) k = _
      unfold upd
      rw [if_neg (fun e => hk e.symm)]
    · rfl
theorem keeps_lst {L : List (RW × Nat)} (hr : L.Pairwise (fun a b => a.2 < b.2)) (h1 : ∀ y ∈ L, 1 ≤ y.2) : ∀ (W : List (RW × Nat)) (D : Dk) (P : RW × Nat → Bool), (∀ x ∈ W, x ∈ L) → (∀ k, D.lasts k = (lst P L k).map toW) →
    ∀ k, ((W.map toW).foldl Dk.keep D).lasts k = (lst (fun y => P y || W.any (fun x => decide (y.2 = x.2))) L k).map toW
  | [], D, P, _, hl, k => by
    rw [show (fun y => P y || ([] : List (RW × Nat)).any (fun x => decide (y.2 = x.2))) = P by funext y; simp]
    exact hl k
  | x :: W, D, P, hW, hl, k => by
    have h := keeps_lst hr h1 W (D.keep (toW x)) (fun y => P y || decide (y.2 = x.2)) (fun z hz => hW z (List.mem_cons_of_mem _ hz)) (keep_lst hr h1 hl (hW x (List.mem_cons_self ..))) k
    rw [List.map_cons, List.foldl_cons, h]
    congr 2
    funext y
    simp [Bool.or_assoc]
theorem seq_inj {L : List (RW × Nat)} (hr : L.Pairwise (fun a b => a.2 < b.2)) {x y : RW × Nat} (hx : x ∈ L) (hy : y ∈ L) (h : y.2 = x.2) : y = x := by
  obtain ⟨A, B, rfl⟩ := List.append_of_mem hx
  obtain ⟨_, hB, hAB⟩ := List.pairwise_append.1 hr
  obtain ⟨hxB, _⟩ := List.pairwise_cons.1 hB
  rcases List.mem_append.1 hy with hy | hy
  · have := hAB y hy x (List.mem_cons_self ..)
    omega
  · rcases List.mem_cons.1 hy with rfl | hy
    · rfl
    · have := hxB y hy
      omega
theorem rk_lasts (n : Int) (x : RW) : (x.keep n).lasts = (x.lasts || decide (x.node = n)) := by
  unfold RW.keep
  by_cases h : x.node = n
  · rw [if_pos h]; simp [h]
  · rw [if_neg h]; simp [h]
theorem rk_same (n : Int) (x : RW) : (x.keep n).node = x.node ∧ (x.keep n).at_ = x.at_ ∧ (x.keep n).data = x.data := by
  unfold RW.keep
  split <;> exact ⟨rfl, rfl, rfl⟩
/-- what node n wrote lasts -/
theorem Rows.settle {D : Dk} {ws : List RW} {L : List (RW × Nat)} (h : Rows D ws L) (n : Int) : Rows (D.settle n) (ws.map (RW.keep n)) (L.map (fun y => (y.1.keep n, y.2))) := by
  have hq : (D.settle n).seq = D.seq := (settle_same D n).2.2.2.2.2.2
  have hf : ∀ y : RW × Nat, toW (y.1.keep n, y.2) = toW y := fun y => by
    obtain ⟨a, b, c⟩ := rk_same n y.1
    simp [toW, a, b, c]
  refine ⟨?_, ?_, ?_, ?_, ?_, ?_⟩
  · rw [← h.rows, List.map_map, List.map_map]
    rfl
  · exact List.pairwise_map.2 h.rise
  · intro y hy
    obtain ⟨z, hz, rfl⟩ := List.mem_map.1 hy
    rw [hq]
    exact h.bound z hz
  · show D.waits.filter (fun x => ¬ x.node = n) = _
    rw [h.waits, List.filter_map, List.filter_filter, List.filter_map, List.map_map]
    rw [show (toW ∘ fun y : RW × Nat => (y.1.keep n, y.2)) = toW from funext hf]
    congr 1
    refine List.filter_congr (fun y _ => ?_)
    show (decide (¬ y.1.node = n) && !y.1.lasts) = !(y.1.keep n).lasts
    rw [rk_lasts]
    by_cases hn : y.1.node = n <;> simp [hn]
  · intro k
    rw [settle_now, h.now]
    unfold lst
    rw [List.filter_map, List.getLast?_map, Option.map_map]
    congr 1
    · funext y
      exact ((rk_same n y.1).2.2).symm
    · congr 1
      refine List.filter_congr (fun y _ => ?_)
      show (decide (y.1.at_ = k) && true) = (decide ((y.1.keep n).at_ = k) && true)
      rw [(rk_same n y.1).2.1]
  · intro k
    have hw : D.waits.filter (fun x => x.node = n) = (L.filter (fun y => !y.1.lasts && decide (y.1.node = n))).map toW := by
      rw [h.waits, List.filter_map, List.filter_filter]
      congr 1
      refine List.filter_congr (fun y _ => ?_)
      show (decide (y.1.node = n) && !y.1.lasts) = _
      exact Bool.and_comm _ _
    have hk := keeps_lst h.rise (fun y hy => (h.bound y hy).1) (L.filter (fun y => !y.1.lasts && decide (y.1.node = n))) D (fun y => y.1.lasts) (fun x hx => (List.mem_filter.1 hx).1) h.lasts k
    rw [← hw] at hk
    show ((D.waits.filter (fun x => x.node = n)).foldl Dk.keep D).lasts k = _
    rw [hk]
    unfold lst
    rw [List.filter_map, List.getLast?_map, Option.map_map]
    rw [show (toW ∘ fun y : RW × Nat => (y.1.keep n, y.2)) = toW from funext hf]
    congr 2
    refine List.filter_congr (fun y hy => ?_)
    show (decide (y.1.at_ = k) && (y.1.lasts || _)) = (decide ((y.1.keep n).at_ = k) && (y.1.keep n).lasts)
    rw [(rk_same n y.1).2.1, rk_lasts]
    congr 1
    by_cases hl : y.1.lasts = true
    · simp [hl]
    · have hl : y.1.lasts = false := by simpa using hl
      rw [hl, Bool.false_or, Bool.false_or]
      by_cases hn : y.1.node = n
      · rw [decide_eq_true hn]
        refine List.any_eq_true.2 ⟨y, List.mem_filter.2 ⟨hy, by simp [hl, hn]⟩, by simp⟩
      · rw [decide_eq_false hn]
        refine List.any_eq_false.2 (fun x hx => ?_)
        obtain ⟨hx1, hx2⟩ := List.mem_filter.1 hx
        simp only [decide_eq_true_eq]
        intro e
        have := seq_inj h.rise hx1 hy e
        subst this
        simp [hn] at hx2
theorem Rows.write1 {D : Dk} {ws : List RW} {L : List (RW × Nat)} (h : Rows D ws L) (n a : Int) (s : ByteArray) : Rows (D.write1 n a s) (ws ++ [⟨n, a, s, false⟩]) (L ++ [(⟨n, a, s, false⟩, D.seq + 1)]) := by
  refine ⟨by rw [List.map_append, h.rows]; rfl, ?_, ?_, ?_, ?_, ?_⟩
  · refine List.pairwise_append.2 ⟨h.rise, List.pairwise_singleton .., fun x hx y hy => ?_⟩
    rw [List.mem_singleton.1 hy]
    have := (h.bound x hx).2
    show x.2 < D.seq + 1
    omega
  · intro y hy
    show 1 ≤ y.2 ∧ y.2 ≤ D.seq + 1
    rcases List.mem_append.1 hy with hy | hy
    · have := h.bound y hy
      omega
    · rw [List.mem_singleton.1 hy]
      show 1 ≤ D.seq + 1 ∧ D.seq + 1 ≤ D.seq + 1
      omega
  · show D.waits ++ [_] = _
    rw [List.filter_append, List.map_append, h.waits]
    rfl
  · intro k
    show upd D.now a s k = _
    unfold upd lst
    rw [List.filter_append, List.filter_cons]
    by_cases hk : k = a
    · rw [if_pos hk, hk]
      simp
    · have hk2 : ¬ a = k := fun e => hk e.symm
      rw [if_neg hk]
      simp only [hk2, decide_false, Bool.false_and, List.filter_nil]
      rw [h.now]
      simp [lst]
  · intro k
    show D.lasts k = _
    unfold lst
    rw [List.filter_append, List.filter_cons, h.lasts]
    simp [lst]
theorem Rows.writeN {D : Dk} {ws : List RW} {L : List (RW × Nat)} (h : Rows D ws L) (n a : Int) (data : ByteArray) : ∀ m, ∃ L', Rows (D.writeN n a data m) (ws ++ rwsN n a data m) L'
  | 0 => ⟨L, by
      show Rows D (ws ++ rwsN n a data 0) L
      have e : rwsN n a data 0 = [] := rfl
      rw [e, List.append_nil]
      exact h⟩
  | m + 1 => by
      obtain ⟨L', h'⟩ := Rows.writeN h n a data m
      have h2 := h'.write1 n (a + m) (sect data m)
      rw [List.append_assoc, ← rwsN_succ] at h2
      exact ⟨_, h2⟩
/-- a sector, as either tells it -/
theorem Rows.at_ {D : Dk} {ws : List RW} {L : List (RW × Nat)} (h : Rows D ws L) (k : Int) : pickAt k false ws = (lst (fun _ => true) L k).map Prod.fst := by
  unfold pickAt lst
  rw [← h.rows, List.filter_map, List.getLast?_map]
  rfl
theorem pick_ghost {G : List RW} (hG : Ghost G) (k : Int) (ws : List RW) : ((pickAt k false (G ++ ws)).map (fun y : RW => y.data)).getD (str (zer 64)) = ((pickAt k false ws).map (fun y : RW => y.data)).getD (str (zer 64)) := by
  unfold pickAt
  rw [List.filter_append, List.getLast?_append]
  cases h : (ws.filter (fun x => decide (x.at_ = k) && (!false || x.lasts))).getLast? with
  | some y => rfl
  | none =>
    rw [Option.none_or]
    cases h2 : (G.filter (fun x => decide (x.at_ = k) && (!false || x.lasts))).getLast? with
    | none => rfl
    | some y => exact (hG y (List.mem_filter.1 (List.mem_of_getLast? h2)).1).2
theorem RF.at_get (R : RF) (k : Int) (b : Bool) : R.at_ k b = ((pickAt k b R.ws).map (fun y : RW => y.data)).getD (str (zer 64)) := by
  unfold RF.at_
  cases pickAt k b R.ws <;> rfl
theorem Sim.sec {D : Dk} {R : RF} (h : Sim D R) (k : Int) : D.sec k = R.at_ k false := by
  obtain ⟨G, L, hG, hL⟩ := h.rows
  rw [R.at_get, ← pick_ghost hG, hL.at_]
  unfold Dk.sec
  rw [hL.now, Option.map_map]
  rfl
theorem Ghost.keep {G : List RW} (hG : Ghost G) (n : Int) : Ghost (G.map (RW.keep n)) := by
  intro x hx
  obtain ⟨y, hy, rfl⟩ := List.mem_map.1 hx
  exact ⟨by rw [rk_lasts, (hG y hy).1]; rfl, by rw [(rk_same n y).2.2]; exact (hG y hy).2⟩
theorem GRows.settle {D : Dk} {ws : List RW} (h : GRows D ws) (n : Int) : GRows (D.settle n) (ws.map (RW.keep n)) := by
  obtain ⟨G, L, hG, hL⟩ := h
  refine ⟨G.map (RW.keep n), L.map (fun y => (y.1.keep n, y.2)), hG.keep n, ?_⟩
  rw [← List.map_append]
  exact hL.settle n
theorem GRows.writeN {D : Dk} {ws : List RW} (h : GRows D ws) (n a : Int) (data : ByteArray) (m : Nat) : GRows (D.writeN n a data m) (ws ++ rwsN n a data m) := by
  obtain ⟨G, L, hG, hL⟩ := h
  obtain ⟨L', h'⟩ := hL.writeN n a data m
  rw [List.append_assoc] at h'
  exact ⟨G, L', hG, h'⟩
theorem GRows.same {D E : Dk} {ws : List RW} (h : GRows D ws) (h1 : E.seq = D.seq) (h2 : E.waits = D.waits) (h3 : E.now = D.now) (h4 : E.lasts = D.lasts) : GRows E ws := by
  obtain ⟨G, L, hG, hL⟩ := h
  exact ⟨G, L, hG, hL.rows, hL.rise, by rw [h1]; exact hL.bound, by rw [h2]; exact hL.waits, by rw [h3]; exact hL.now, by rw [h4]; exact hL.lasts⟩
theorem ghost_waits {G : List RW} (hG : Ghost G) (P : RW → Bool) (ws : List RW) : ((G ++ ws).filter (fun x => P x && !x.lasts)) = ws.filter (fun x => P x && !x.lasts) := by
  rw [List.filter_append, List.filter_eq_nil_iff.2 (fun x hx => by simp [(hG x hx).1]), List.nil_append]
end Go.Proofs.YtjffjolopoejlaaGreatDoor

/- The document's disk: what its calls do, plain; the real one's do the same. -/
namespace Go.Proofs.YtjffjolopoejlaaGreatDoor
open Go.RowKit

def cutW (keep : List Int) : Nat → List RW → List RW
  | _, [] => []
  | k, x :: l => if x.lasts = true then x :: cutW keep k l else if stayB keep k = true then { x with lasts := true } :: cutW keep (k + 1) l else cutW keep (k + 1) l
def waitsN (l : List RW) : Nat := (l.filter (fun x => !x.lasts)).length
def RF.cut (R : RF) (keep : List Int) : Nat × RF := if R.off = true then (0, { R with armed := false }) else (waitsN R.ws, { R with ws := cutW keep 0 R.ws, off := true, armed := false })
def RF.spend (R : RF) : Int × RF := if R.armed = false then (0, R) else if R.left = 0 then (14, (R.cut R.keep).2) else (0, { R with left := R.left - 1 })
/-- those that stay -/
def stayA {α : Type} (keep : List Int) : Nat → List α → List α
  | _, [] => []
  | k, x :: l => if stayB keep k = true then x :: stayA keep (k + 1) l else stayA keep (k + 1) l
theorem stayA_map {α β : Type} (f : α → β) (keep : List Int) : ∀ (l : List α) (k : Nat), stayA keep k (l.map f) = (stayA keep k l).map f
  | [], _ => rfl
  | x :: l, k => by
    simp only [List.map_cons, stayA, stayA_map f keep l (k + 1)]
    split <;> rfl
theorem stayA_sub {α : Type} (keep : List Int) : ∀ (l : List α) (k : Nat), ∀ x ∈ stayA keep k l, x ∈ l
  | [], _, x, h => h
  | y :: l, k, x, h => by
    unfold stayA at h
    split at h
    · rcases List.mem_cons.1 h with rfl | h
      · exact List.mem_cons_self ..
      · exact List.mem_cons_of_mem _ (stayA_sub keep l (k + 1) x h)
    · exact List.mem_cons_of_mem _ (stayA_sub keep l (k + 1) x h)
theorem stayA_app {α : Type} (keep : List Int) (x : α) : ∀ (l : List α) (k : Nat), stayA keep k (l ++ [x]) = stayA keep k l ++ (if stayB keep (k + l.length) = true then [x] else [])
  | [], k => by simp [stayA]
  | y :: l, k => by
    have h := stayA_app keep x l (k + 1)
    rw [show k + 1 + l.length = k + (y :: l).length by simp; omega] at h
    show stayA keep k (y :: (l ++ [x])) = _
    unfold stayA
    rw [h]
    split <;> simp
theorem cutN_keeps (D : Dk) (keep : List Int) : ∀ m, m ≤ D.waits.length → D.cutN keep m = (stayA keep 0 (D.waits.take m)).foldl Dk.keep D
  | 0, _ => rfl
  | m + 1, h => by
    have ih := cutN_keeps D keep m (by omega)
    have hx : D.waits[m]? = some (D.waits[m]'(by omega)) := List.getElem?_eq_getElem (by omega)
    rw [List.take_add_one, hx, Option.toList_some, stayA_app, List.foldl_append, ← ih, List.length_take, Nat.min_eq_left (by omega), Nat.zero_add]
    rw [cutN_succ hx]
    split <;> rfl
theorem cutW_eq (keep : List Int) : ∀ (L : List (RW × Nat)) (k : Nat), L.Pairwise (fun a b => a.2 < b.2) →
    cutW keep k (L.map Prod.fst) = (L.filter (fun y => y.1.lasts || (stayA keep k (L.filter (fun y => !y.1.lasts))).any (fun x => decide (y.2 = x.2)))).map (fun y => { y.1 with lasts := true })
  | [], _, _ => rfl
  | y :: L, k, h => by
    obtain ⟨hy, hL⟩ := List.pairwise_cons.1 h
    rw [List.map_cons]
    unfold cutW
    by_cases hl : y.1.lasts = true
    · rw [if_pos hl, cutW_eq keep L k hL]
      have e : (y :: L).filter (fun y => !y.1.lasts) = L.filter (fun y => !y.1.lasts) := by rw [List.filter_cons]; simp [hl]
      rw [e, List.filter_cons]
      simp only [hl, Bool.true_or, if_true, List.map_cons]
      congr 1
      cases hq : y.1
      rw [hq] at hl
      simp only at hl
      rw [hl]
    · have hl2 : y.1.lasts = false := by simpa using hl
      have e : (y :: L).filter (fun y => !y.1.lasts) = y :: L.filter (fun y => !y.1.lasts) := by rw [List.filter_cons]; simp [hl2]
      rw [if_neg hl, e]
      have hno : ∀ z ∈ L, ¬ z.2 = y.2 := fun z hz => by have := hy z hz; omega
      by_cases hs : stayB keep k = true
      · rw [if_pos hs, cutW_eq keep L (k + 1) hL]
        simp only [stayA, if_pos hs]
        rw [List.filter_cons]
        simp only [List.any_cons, decide_true, Bool.true_or, Bool.or_true, if_true, List.map_cons]
        congr 2
        refine List.filter_congr (fun z hz => ?_)
        simp [hno z hz]
      · rw [if_neg hs, cutW_eq keep L (k + 1) hL]
        simp only [stayA, if_neg hs]
        rw [List.filter_cons]
        have hf : (stayA keep (k + 1) (L.filter (fun y => !y.1.lasts))).any (fun x => decide (y.2 = x.2)) = false := by
          refine List.any_eq_false.2 (fun x hx => ?_)
          have := hno x (List.mem_filter.1 (stayA_sub keep _ _ x hx)).1
          simp only [decide_eq_true_eq]
          omega
        rw [hl2, hf]
        simp
theorem Rows.cut {D : Dk} {ws : List RW} {L : List (RW × Nat)} (h : Rows D ws L) (keep : List Int) : ∃ L', Rows (((D.arm (-1) []).cutN keep D.waits.length).off) (cutW keep 0 ws) L' := by
  have hse : (((D.arm (-1) []).cutN keep D.waits.length).off).seq = D.seq := (cutN_same (D.arm (-1) []) keep D.waits.length).2.1
  have hlast : ∀ k, ((D.arm (-1) []).cutN keep D.waits.length).lasts k = (lst (fun y => y.1.lasts || (stayA keep 0 (L.filter (fun y => !y.1.lasts))).any (fun x => decide (y.2 = x.2))) L k).map toW := by
    intro k
    rw [cutN_keeps (D.arm (-1) []) keep D.waits.length (Nat.le_refl _)]
    have e : (D.arm (-1) []).waits.take D.waits.length = (L.filter (fun y => !y.1.lasts)).map toW := by
      show D.waits.take D.waits.length = _
      rw [List.take_length, h.waits]
    rw [e, stayA_map]
    exact keeps_lst h.rise (fun y hy => (h.bound y hy).1) _ (D.arm (-1) []) (fun y => y.1.lasts) (fun x hx => (List.mem_filter.1 (stayA_sub keep _ _ x hx)).1) h.lasts k
  generalize hP : (fun y : RW × Nat => y.1.lasts || (stayA keep 0 (L.filter (fun y => !y.1.lasts))).any (fun x => decide (y.2 = x.2))) = P at hlast
  have hw := cutW_eq keep L 0 h.rise
  rw [hP, h.rows] at hw
  have hl2 : ∀ (k : Int) (Q : RW × Nat → Bool), (∀ y : RW × Nat, Q (({ y.1 with lasts := true } : RW), y.2) = true) → lst Q ((L.filter P).map (fun y : RW × Nat => (({ y.1 with lasts := true } : RW), y.2))) k = (lst P L k).map (fun y : RW × Nat => (({ y.1 with lasts := true } : RW), y.2)) := by
    intro k Q hQ
    unfold lst
    rw [List.filter_map, List.getLast?_map, List.filter_filter]
    congr 2
    refine List.filter_congr (fun y _ => ?_)
    show (decide (y.1.at_ = k) && Q (({ y.1 with lasts := true } : RW), y.2) && P y) = _
    rw [hQ, Bool.and_true]
  refine ⟨(L.filter P).map (fun y : RW × Nat => (({ y.1 with lasts := true } : RW), y.2)), ?_, ?_, ?_, ?_, ?_, ?_⟩
  · rw [hw, List.map_map]
    rfl
  · exact List.pairwise_map.2 (h.rise.filter P)
  · intro y hy
    obtain ⟨z, hz, rfl⟩ := List.mem_map.1 hy
    rw [hse]
    exact h.bound z (List.mem_filter.1 hz).1
  · show ([] : List Ws) = _
    rw [List.filter_map]
    rw [List.filter_eq_nil_iff.2 (fun y _ => by simp)]
    rfl
  · intro k
    show (((D.arm (-1) []).cutN keep D.waits.length).lasts k).map (fun x : Ws => x.data) = _
    rw [hlast, hl2 k _ (fun _ => rfl), Option.map_map, Option.map_map]
    rfl
  · intro k
    show ((D.arm (-1) []).cutN keep D.waits.length).lasts k = _
    rw [hlast, hl2 k _ (fun _ => rfl), Option.map_map]
    rfl
theorem ghost_cut {G : List RW} (hG : Ghost G) (keep : List Int) (ws : List RW) : cutW keep 0 (G ++ ws) = G ++ cutW keep 0 ws := by
  induction G with
  | nil => rfl
  | cons x G ih =>
    rw [List.cons_append, List.cons_append, ← ih (fun y hy => hG y (List.mem_cons_of_mem _ hy))]
    show cutW keep 0 (x :: (G ++ ws)) = _
    unfold cutW
    rw [if_pos (hG x (List.mem_cons_self ..)).1]
    cases G ++ ws <;> rfl
section
variable {D : Dk} {R : RF}
theorem Sim.cut (h : Sim D R) (keep : List Int) : (D.cut keep).1 = (R.cut keep).1 ∧ Sim (D.cut keep).2 (R.cut keep).2 := by
  obtain ⟨G, L, hG, hL⟩ := h.rows
  obtain ⟨c1, c2, c3, c4, c5, c6, c7⟩ := cutN_same (D.arm (-1) []) keep D.waits.length
  unfold Dk.cut RF.cut
  by_cases ho : R.off = true
  · rw [if_pos (show D.on = false by rw [h.on, ho]; rfl), if_pos ho]
    exact ⟨rfl, h.room, h.on, h.table, h.words, h.last, rfl, (fun e => by cases e), G, L, hG, hL.rows, hL.rise, hL.bound, hL.waits, hL.now, hL.lasts⟩
  · have ho2 : R.off = false := by simpa using ho
    rw [if_neg (show ¬ D.on = false by rw [h.on, ho2]; simp), if_neg ho]
    refine ⟨?_, ?_⟩
    · show D.waits.length = waitsN R.ws
      have e := congrArg List.length (ghost_waits hG (fun _ => true) R.ws)
      simp only [Bool.true_and] at e
      unfold waitsN
      rw [hL.waits, List.length_map, ← e, ← hL.rows, List.filter_map, List.length_map]
      rfl
    · obtain ⟨L', h'⟩ := hL.cut keep
      rw [ghost_cut hG] at h'
      exact ⟨c1.trans h.room, rfl, c3.trans h.table, c4.trans h.words, c5.trans h.last, c7, (fun e => by cases e), G, L', hG, h'⟩
theorem Sim.spend (h : Sim D R) (h62 : R.left ≤ 9223372036854775807) : (D.goes.1 = true ↔ R.spend.1 ≠ 0) ∧ (R.spend.1 = 0 ∨ R.spend.1 = 14) ∧ Sim D.goes.2 R.spend.2 := by
  unfold Dk.goes RF.spend
  by_cases ha : R.armed = false
  · rw [if_pos (h.armed.trans ha), if_pos ha]
    exact ⟨by simp, .inl rfl, h⟩
  · have ha2 : R.armed = true := by simpa using ha
    obtain ⟨h1, h2, h3⟩ := h.left ha2
    rw [if_neg (by rw [h.armed]; exact ha), if_neg ha]
    by_cases hl : R.left = 0
    · rw [if_neg (by omega), if_pos hl, h2]
      exact ⟨by simp, .inr rfl, (h.cut _).2⟩
    · rw [if_pos (by omega), if_neg hl]
      have hw : wrap64 (D.left - 1) = D.left - 1 := by
        rw [h1]
        unfold wrap64
        omega
      refine ⟨by simp, .inl rfl, h.room, h.on, h.table, h.words, h.last, h.armed, fun _ => ⟨?_, h2, ?_⟩, h.rows.same rfl rfl rfl rfl⟩
      · show wrap64 (D.left - 1) = R.left - 1
        rw [hw, h1]
      · show 0 ≤ R.left - 1
        omega
end
end Go.Proofs.YtjffjolopoejlaaGreatDoor

/- The law, plain: what stands in the disk's sectors behind writes. -/
namespace Go.Proofs.YtjffjolopoejlaaGreatDoor
open Go.RowKit

theorem writeN_sec (D : Dk) (n a : Int) (data : ByteArray) : ∀ (m : Nat) (k : Int), (D.writeN n a data m).sec k = if a ≤ k ∧ k < a + m then sect data (k - a).toNat else D.sec k
  | 0, k => by
    rw [if_neg (by omega)]
    rfl
  | m + 1, k => by
    show ((D.writeN n a data m).write1 n (a + m) (sect data m)).sec k = _
    rw [sec_write1]
    by_cases h : k = a + m
    · rw [if_pos h, if_pos (by omega)]
      have : (k - a).toNat = m := by omega
      rw [this]
    · rw [if_neg h, writeN_sec D n a data m k]
      by_cases h2 : a ≤ k ∧ k < a + m
      · rw [if_pos h2, if_pos (by omega)]
      · rw [if_neg h2, if_neg (by omega)]
theorem settle_sec (D : Dk) (n k : Int) : (D.settle n).sec k = D.sec k := sec_congr (settle_now D n) k
theorem readL_two (D : Dk) (a : Int) : D.readL a 2 = (D.sec a).data.toList ++ (D.sec (a + 1)).data.toList := by
  rw [readL_succ, readL_one]
  rfl
theorem sect_two {l : List UInt8} (h : l.length = 128) : (sect (str l) 0).data.toList ++ (sect (str l) 1).data.toList = l := by
  unfold sect
  rw [extract_str, extract_str, str_list, str_list]
  have e1 : (l.take ((0 + 1) * 64)).drop (0 * 64) = l.take 64 := by rw [Nat.zero_mul, List.drop_zero]
  have e2 : (l.take ((1 + 1) * 64)).drop (1 * 64) = l.drop 64 := by rw [List.take_of_length_le (by omega)]
  rw [e1, e2]
  exact List.take_append_drop 64 l
/-- what Load tells of a block whose two sectors hold an image -/
theorem load_of {D : Dk} (hc : Live D) {i : Im} (hr : i.right) (hv : i.ver < 18446744073709551616) {b : Nat} (hb : b ≤ 9) (hi : i.block = b) (h1 : D.sec (17 + 2 * (b : Int)) = sect (str (blkL i)) 0) (h2 : D.sec (17 + 2 * (b : Int) + 1) = sect (str (blkL i)) 1) : D.load b = (i, 0) := by
  have hba : blockAt (b : Int) = (17 + 2 * (b : Int), 0) := if_neg (by omega)
  obtain ⟨r1, r2⟩ := hc.read (at_ := 17 + 2 * (b : Int)) (n := 2) (by omega) (by omega) (by omega)
  have e1 : D.loadE1 b = 0 := by
    unfold Dk.loadE1
    rw [hba]
    exact r1
  unfold Dk.load
  rw [if_neg (by rw [e1]; simp), hba]
  show getB b (D.readS (17 + 2 * (b : Int)) 2) = _
  have r2' : D.readS (17 + 2 * (b : Int)) 2 = str (D.readL (17 + 2 * (b : Int)) 2) := r2
  rw [r2', readL_two, h1, h2, sect_two (blkL_len hr), ← hi]
  exact getB_put hr hv
theorem load_blank {D : Dk} (hc : Live D) {b : Nat} (hb : b ≤ 9) (h1 : D.sec (17 + 2 * (b : Int)) = str (zer 64)) (h2 : D.sec (17 + 2 * (b : Int) + 1) = str (zer 64)) : D.load b = (⟨b, 0, str (zer 96)⟩, 0) := by
  have hba : blockAt (b : Int) = (17 + 2 * (b : Int), 0) := if_neg (by omega)
  obtain ⟨r1, r2⟩ := hc.read (at_ := 17 + 2 * (b : Int)) (n := 2) (by omega) (by omega) (by omega)
  have e1 : D.loadE1 b = 0 := by
    unfold Dk.loadE1
    rw [hba]
    exact r1
  unfold Dk.load
  rw [if_neg (by rw [e1]; simp), hba]
  show getB b (D.readS (17 + 2 * (b : Int)) 2) = _
  have r2' : D.readS (17 + 2 * (b : Int)) 2 = str (D.readL (17 + 2 * (b : Int)) 2) := r2
  rw [r2', readL_two, h1, h2, str_list, zer_app]
  unfold getB
  rw [if_neg (by rw [str_size, zer_len]; omega), if_pos rfl]
theorem store_ok {D : Dk} {k : Nat} (hc : Calm D k) {n e : Nat} (hn : n ≤ 16) (he : D.table n = e) (h0 : e ≠ 0) {i : Im} (hr : i.right) {b : Nat} (hb : b ≤ 9) (hi : i.block = b) : D.store n e i = (0, D.writeN n (17 + 2 * (b : Int)) (str (blkL i)) 2) ∧ Calm (D.store n e i).2 (k + 2) := by
  have hba : blockAt i.block = (17 + 2 * (b : Int), 0) := by rw [hi]; exact if_neg (by omega)
  have e1 : D.store n e i = D.write n e (17 + 2 * (b : Int)) (str (blkL i)) := by
    unfold Dk.store
    rw [hba, if_neg (by simp), if_neg (by simp [hr])]
  have h := hc.write hn he h0 (at_ := 17 + 2 * (b : Int)) (data := str (blkL i)) (m := 2) (by rw [str_size, blkL_len hr]) (by omega) (by omega) (by omega) (by omega)
  rw [e1]
  exact h
/-- a record of three sectors that does not go round: one write -/
theorem put_one {D : Dk} {k : Nat} (hc : Calm D k) {g : Lg} (hn : g.node ≤ 16) (he : D.table g.node = g.epoch) (h0 : g.epoch ≠ 0) (hb : g.base ≤ 17) {x : En} (h3 : x.n = 3) (ha : x.at_ ≤ 4) (hs : x.bytes.size = 192) :
    D.put_ g x = (0, D.writeN g.node ((g.base + 1 + x.at_ : Nat) : Int) x.bytes 3) ∧ Calm (D.put_ g x).2 (k + 3) := by
  have hx : x.bytes.extract (0 * 64) ((0 + 3) * 64) = x.bytes := by
    refine ByteArray.ext ?_
    apply Array.toList_inj.1
    rw [extract_list]
    have : x.bytes.data.toList.length = 192 := hs
    rw [Nat.zero_mul, List.drop_zero, List.take_of_length_le (by omega)]
  have hmod : (x.at_ + 0) % 7 = x.at_ := by omega
  have hmin : min (x.n - 0) (7 - x.at_) = 3 := by omega
  have hw := hc.write hn he h0 (at_ := ((g.base + 1 + x.at_ : Nat) : Int)) (data := x.bytes) (m := 3) (by omega) (by omega) (by omega) (by omega) (by omega)
  have e : D.put_ g x = D.write g.node g.epoch ((g.base + 1 + x.at_ : Nat) : Int) x.bytes := by
    unfold Dk.put_
    rw [h3]
    have e1 : putGo g x 3 0 D = if x.n ≤ 0 then (0, D) else
      if (D.write g.node g.epoch ((g.base + 1 + (x.at_ + 0) % 7 : Nat) : Int) (x.bytes.extract (0 * 64) ((0 + min (x.n - 0) (7 - (x.at_ + 0) % 7)) * 64))).1 ≠ 0 then D.write g.node g.epoch ((g.base + 1 + (x.at_ + 0) % 7 : Nat) : Int) (x.bytes.extract (0 * 64) ((0 + min (x.n - 0) (7 - (x.at_ + 0) % 7)) * 64))
      else putGo g x 2 (0 + min (x.n - 0) (7 - (x.at_ + 0) % 7)) (D.write g.node g.epoch ((g.base + 1 + (x.at_ + 0) % 7 : Nat) : Int) (x.bytes.extract (0 * 64) ((0 + min (x.n - 0) (7 - (x.at_ + 0) % 7)) * 64))).2 := rfl
    rw [e1, if_neg (by omega), hmod, hmin, hx, if_neg (by rw [hw.1]; simp), putGo_le (by omega), hw.1]
  rw [e]
  exact hw
/-- the head of a log is laid -/
theorem lhead_ok {D : Dk} {k : Nat} (hc : Calm D k) {g : Lg} (hn : g.node ≤ 16) (he : D.table g.node = g.epoch) (h0 : g.epoch ≠ 0) (hb : g.base ≤ 17) {h : Hd} (hh : ¬ h.bad) :
    D.lhead g h = (0, (D.writeN g.node g.base (str (headL h)) 1).settle g.node) ∧ Calm (D.lhead g h).2 (k + 1) := by
  have e1 : h.putE = 0 := if_neg hh
  have e2 : h.putS = str (headL h) := if_neg hh
  have hw := hc.write hn he h0 (at_ := (g.base : Int)) (data := str (headL h)) (m := 1) (by rw [str_size, headL_len]) (by omega) (by omega) (by omega) (by omega)
  have ht : (D.writeN g.node g.base (str (headL h)) 1).table g.node = g.epoch := by rw [(writeN_same _ _ _ _ _).2.2.2.2.2.1]; exact he
  have hcw : Calm (D.writeN g.node g.base (str (headL h)) 1) (k + 1) := by have := hw.2; rw [hw.1] at this; exact this
  have hba := hcw.barrier hn ht h0
  have e : D.lhead g h = (D.writeN g.node g.base (str (headL h)) 1).barrier g.node g.epoch := by
    unfold Dk.lhead
    rw [e1, e2, if_neg (by simp), hw.1, if_neg (by simp)]
  rw [e]
  exact hba
/-- a record that is found, and what stands behind it -/
theorem scanL_one {r : Rc} (h : r.Good) {ep lsn f : Nat} (he : r.epoch = ep) (hl : r.lsn = lsn) (rest : List UInt8) : scanL ep (f + 1) lsn (str (recL r ++ rest)) = r :: scanL ep f ((lsn + 1) % 18446744073709551616) (str rest) := by
  obtain ⟨g1, g2, g3⟩ := rec_get_put (rest := rest) h
  rw [scanL_succ ep (by rw [g1, g2]; simp [he, hl]), g2, g3, rest_str]
  have : (recL r ++ rest).drop (secsOf r.images.length * 64) = rest := by
    rw [← recL_len r]
    exact List.drop_left
  rw [this]
theorem scanL_end {ep lsn f : Nat} {b : ByteArray} (h : getE b ≠ 0) : scanL ep (f + 1) lsn b = [] := if_pos (.inl h)
/-- a head is there, and is read -/
theorem head_of {D : Dk} (hc : Live D) {h : Hd} (hb : ¬ h.bad) (he : h.epoch < 18446744073709551616) (hl : h.lsn < 18446744073709551616) (ha : h.at_ < 7) (hs : D.sec 1 = str (headL h)) : D.headE1 1 = 0 ∧ D.headH 1 = h ∧ D.headI 1 = true ∧ D.headE 1 = 0 := by
  have hla : logAt 1 = (1, 0) := rfl
  obtain ⟨r1, r2⟩ := hc.read (at_ := 1) (n := 1) (by omega) (by omega) (by omega)
  have e1 : D.headE1 1 = 0 := by
    unfold Dk.headE1
    rw [hla]
    exact r1
  have r2' : D.readS 1 1 = str (D.readL 1 1) := r2
  have hB : D.headB 1 = str (headL h) := by
    unfold Dk.headB
    rw [hla]
    show D.readS 1 1 = _
    rw [r2', readL_one, hs, str_list]
  obtain ⟨p1, p2⟩ := hd_put hb he hl
  have e2 : D.headH 1 = h := by
    unfold Dk.headH
    rw [hB, if_pos ⟨e1, p1⟩, p2]
  refine ⟨e1, e2, ?_, ?_⟩
  · unfold Dk.headI
    rw [hB]
    exact decide_eq_true ⟨e1, p1, by rw [p2]; exact ha⟩
  · unfold Dk.headE
    rw [e1, if_neg (by decide), hB, if_pos p1]
/-- no head: nothing is done, and nothing is found -/
theorem head_none {D : Dk} (hc : Live D) (hs : D.sec 1 = str (zer 64)) : D.headE 1 = 0 ∧ D.headI 1 = false := by
  have hla : logAt 1 = (1, 0) := rfl
  obtain ⟨r1, r2⟩ := hc.read (at_ := 1) (n := 1) (by omega) (by omega) (by omega)
  have e1 : D.headE1 1 = 0 := by
    unfold Dk.headE1
    rw [hla]
    exact r1
  have r2' : D.readS 1 1 = str (D.readL 1 1) := r2
  have hB : D.headB 1 = str (zer 64) := by
    unfold Dk.headB
    rw [hla]
    show D.readS 1 1 = _
    rw [r2', readL_one, hs, str_list]
  refine ⟨?_, ?_⟩
  · unfold Dk.headE
    rw [e1, if_neg (by decide), hB, if_neg (by rw [head_zero]; decide), if_pos]
    intro x hx
    rw [str_list] at hx
    exact List.eq_of_mem_replicate hx
  · unfold Dk.headI
    rw [hB, head_zero]
    simp
theorem run_none {D : Dk} (hc : Live D) (hs : D.sec 1 = str (zer 64)) (of_ : Nat) (by_ : Int) (e : Nat) : runR D 1 of_ by_ e = ⟨0, 0, D⟩ ∧ D.scan 1 = [] ∧ D.scanE 1 = 0 := by
  obtain ⟨h1, h2⟩ := head_none hc hs
  refine ⟨?_, ?_, ?_⟩
  · unfold runR
    rw [h1, h2]
    simp
  · unfold Dk.scan
    rw [h2]
    simp
  · unfold Dk.scanE
    rw [h1, h2]
    simp
end Go.Proofs.YtjffjolopoejlaaGreatDoor

/- The document's disk: Write, Barrier, Admit, Fence, Put, Read, Load, Store, Apply: the real one's do the same. -/
namespace Go.Proofs.YtjffjolopoejlaaGreatDoor
open Go.RowKit

def nodeOk (n : Int) : Bool := decide (0 ≤ n ∧ n ≤ 16)
def RF.may (R : RF) (n : Int) (e : Nat) : Int := if R.off = true then 14 else if nodeOk n = false then 1 else if e = 0 ∨ e ≠ R.table n.toNat then 34 else 0
def RF.write (R : RF) (n : Int) (e : Nat) (at_ : Int) (data : ByteArray) : Int × RF :=
  if R.off = true then (14, R) else if nodeOk n = false ∨ data.size % 64 ≠ 0 ∨ data.size / 64 < 1 ∨ 16 < data.size / 64 then (1, R)
  else if R.may n e ≠ 0 then (R.may n e, R) else if at_ < 0 ∨ (R.room : Int) - ((data.size / 64 : Nat) : Int) < at_ then (30, R)
  else if R.spend.1 ≠ 0 then (R.spend.1, R.spend.2) else (0, { R.spend.2 with ws := R.spend.2.ws ++ rwsN n at_ data (data.size / 64) })
def RF.settle (R : RF) (n : Int) : RF := { R with ws := R.ws.map (RW.keep n) }
def RF.barrier (R : RF) (n : Int) (e : Nat) : Int × RF := if R.may n e ≠ 0 then (R.may n e, R) else if R.spend.1 ≠ 0 then (R.spend.1, R.spend.2) else (0, R.spend.2.settle n)
def RF.fence (R : RF) (n : Int) : Int × RF := if R.off = true then (14, R) else if nodeOk n = false then (1, R) else if R.spend.1 ≠ 0 then (14, R.spend.2) else (0, { R.spend.2.settle n with table := fun j => if j = n.toNat then 0 else R.spend.2.table j })
def RF.put (R : RF) (n : Int) (v : Nat) : Int × RF := if R.off = true then (14, R) else if nodeOk n = false then (1, R) else if R.spend.1 ≠ 0 then (14, R.spend.2) else (0, { R.spend.2 with words := fun j => if j = n.toNat then v else R.spend.2.words j })
/-- what is left till the power goes is an int -/
def RF.leftOk (R : RF) : Prop := R.left ≤ 9223372036854775807
section
variable {D : Dk} {R : RF}
theorem spend_keeps (R : RF) : R.spend.2.room = R.room ∧ (R.leftOk → R.spend.2.leftOk) := by
  unfold RF.spend RF.leftOk
  split
  · exact ⟨rfl, id⟩
  · split
    · unfold RF.cut
      split
      · exact ⟨rfl, id⟩
      · exact ⟨rfl, id⟩
    · exact ⟨rfl, fun h => show R.left - 1 ≤ _ by omega⟩
theorem Sim.may (h : Sim D R) (n : Int) : D.may n = if R.off = true then 14 else if nodeOk n = false then 1 else 0 := by
  unfold Dk.may nodeOk
  rw [h.on]
  cases R.off with
  | true => rfl
  | false =>
    by_cases hn : n < 0 ∨ 16 < n
    · simp only [Bool.not_false, Bool.true_eq_false, if_false, if_pos hn, Bool.false_eq_true]
      rw [if_pos (by simp; omega)]
    · simp only [Bool.not_false, Bool.true_eq_false, if_false, if_neg hn, Bool.false_eq_true]
      rw [if_neg (by simp; omega)]
theorem Sim.admits (h : Sim D R) (n : Int) (e : Nat) : D.admits n.toNat e = if e = 0 ∨ e ≠ R.table n.toNat then 34 else 0 := by
  unfold Dk.admits
  rw [h.table]
  by_cases h1 : e = 0
  · rw [if_pos (.inl h1), if_pos (.inl h1)]
  · by_cases h2 : R.table n.toNat = e
    · rw [if_neg (by simp [h1, h2]), if_neg (by simp [h1, h2])]
    · rw [if_pos (.inr h2), if_pos (.inr (fun x => h2 x.symm))]
theorem Sim.goes (h : Sim D R) (hl : R.leftOk) : (D.goes.1 = true ∧ R.spend.1 = 14 ∨ D.goes.1 = false ∧ R.spend.1 = 0) ∧ Sim D.goes.2 R.spend.2 := by
  obtain ⟨h1, h2, h3⟩ := h.spend hl
  refine ⟨?_, h3⟩
  cases hg : D.goes.1 with
  | true => exact .inl ⟨rfl, by have := h1.1 hg; omega⟩
  | false =>
    refine .inr ⟨rfl, ?_⟩
    by_cases h4 : R.spend.1 = 0
    · exact h4
    · rw [h1.2 h4] at hg
      cases hg
theorem writeN_rest (D : Dk) (n a : Int) (data : ByteArray) : ∀ m, (D.writeN n a data m).table = D.table ∧ (D.writeN n a data m).left = D.left ∧ (D.writeN n a data m).stays = D.stays
  | 0 => ⟨rfl, rfl, rfl⟩
  | m + 1 => writeN_rest D n a data m
theorem keeps_rest : ∀ (l : List Ws) (D : Dk), (l.foldl Dk.keep D).table = D.table ∧ (l.foldl Dk.keep D).left = D.left ∧ (l.foldl Dk.keep D).stays = D.stays
  | [], D => ⟨rfl, rfl, rfl⟩
  | x :: l, D => by
    obtain ⟨a, b, c⟩ := keeps_rest l (D.keep x)
    have h : (D.keep x).table = D.table ∧ (D.keep x).left = D.left ∧ (D.keep x).stays = D.stays := by unfold Dk.keep; split <;> exact ⟨rfl, rfl, rfl⟩
    exact ⟨a.trans h.1, b.trans h.2.1, c.trans h.2.2⟩
theorem settle_rest (D : Dk) (n : Int) : (D.settle n).table = D.table ∧ (D.settle n).left = D.left ∧ (D.settle n).stays = D.stays := keeps_rest _ D
theorem Sim.write (h : Sim D R) (hl : R.leftOk) (n : Int) (e : Nat) (at_ : Int) (data : ByteArray) : (D.write n e at_ data).1 = (R.write n e at_ data).1 ∧ Sim (D.write n e at_ data).2 (R.write n e at_ data).2 := by
  unfold Dk.write RF.write
  rw [h.may]
  by_cases ho : R.off = true
  · rw [if_pos ho, if_pos ho, if_pos (by decide)]
    exact ⟨rfl, h⟩
  rw [if_neg ho, if_neg ho]
  by_cases hn : nodeOk n = false
  · rw [if_pos hn, if_pos (by decide), if_pos (.inl hn)]
    exact ⟨rfl, h⟩
  rw [if_neg hn, if_neg (by decide)]
  by_cases hd : data.size / 64 < 1 ∨ 16 < data.size / 64 ∨ data.size % 64 ≠ 0
  · rw [if_pos hd, if_pos (by omega)]
    exact ⟨rfl, h⟩
  rw [if_neg hd, if_neg (show ¬ (nodeOk n = false ∨ data.size % 64 ≠ 0 ∨ data.size / 64 < 1 ∨ 16 < data.size / 64) from fun x => x.elim hn (fun y => hd (by omega))), h.admits]
  unfold RF.may
  rw [if_neg ho, if_neg hn]
  by_cases he : e = 0 ∨ e ≠ R.table n.toNat
  · rw [if_pos he, if_pos (by decide), if_pos (by decide)]
    exact ⟨rfl, h⟩
  rw [if_neg he]
  simp only [ne_eq, not_true, if_false]
  unfold Dk.there
  rw [h.room]
  by_cases hr : at_ < 0 ∨ (R.room : Int) - ((data.size / 64 : Nat) : Int) < at_
  · rw [if_pos hr, if_pos (by simp only [decide_eq_false_iff_not]; omega)]
    exact ⟨rfl, h⟩
  rw [if_neg hr, if_neg (by simp only [decide_eq_false_iff_not]; omega)]
  obtain ⟨hg, hs⟩ := h.goes hl
  rcases hg with ⟨g1, g2⟩ | ⟨g1, g2⟩
  · rw [if_pos g1, if_pos (show ¬ R.spend.1 = 0 by rw [g2]; decide)]
    exact ⟨g2.symm, hs⟩
  · rw [if_neg (show ¬ D.goes.1 = true by rw [g1]; decide), if_neg (show ¬ ¬ R.spend.1 = 0 from fun x => x g2)]
    obtain ⟨a1, a2, a3, a4, a5, a6, a7, _, _⟩ := writeN_same D.goes.2 n at_ data (data.size / 64)
    refine ⟨rfl, ?_⟩
    have hx := writeN_rest D.goes.2 n at_ data (data.size / 64)
    exact ⟨a3.trans hs.room, a1.trans hs.on, hx.1.trans hs.table, a5.trans hs.words, a4.trans hs.last, a2.trans hs.armed, fun x => by rw [hx.2.1, hx.2.2]; exact hs.left x, hs.rows.writeN n at_ data _⟩
theorem Sim.settle (h : Sim D R) (n : Int) : Sim (D.settle n) (R.settle n) := by
  obtain ⟨r1, r2, r3⟩ := settle_rest D n
  obtain ⟨e1, e2, e3, e4, e5, _, _⟩ := settle_same D n
  exact ⟨e3.trans h.room, e1.trans h.on, r1.trans h.table, e5.trans h.words, e4.trans h.last, e2.trans h.armed, fun x => by rw [r2, r3]; exact h.left x, h.rows.settle n⟩
theorem Sim.barrier (h : Sim D R) (hl : R.leftOk) (n : Int) (e : Nat) : (D.barrier n e).1 = (R.barrier n e).1 ∧ Sim (D.barrier n e).2 (R.barrier n e).2 := by
  unfold Dk.barrier RF.barrier RF.may
  rw [h.may]
  by_cases ho : R.off = true
  · rw [if_pos ho, if_pos ho, if_pos (by decide), if_pos (by decide)]
    exact ⟨rfl, h⟩
  rw [if_neg ho, if_neg ho]
  by_cases hn : nodeOk n = false
  · rw [if_pos hn, if_pos hn, if_pos (by decide), if_pos (by decide)]
    exact ⟨rfl, h⟩
  rw [if_neg hn, if_neg hn, if_neg (by decide), h.admits]
  by_cases he : e = 0 ∨ e ≠ R.table n.toNat
  · rw [if_pos he, if_pos (by decide), if_pos (by decide)]
    exact ⟨rfl, h⟩
  rw [if_neg he]
  simp only [ne_eq, not_true, if_false]
  obtain ⟨hg, hs⟩ := h.goes hl
  rcases hg with ⟨g1, g2⟩ | ⟨g1, g2⟩
  · rw [if_pos g1, if_pos (show ¬ R.spend.1 = 0 by rw [g2]; decide)]
    exact ⟨g2.symm, hs⟩
  · rw [if_neg (show ¬ D.goes.1 = true by rw [g1]; decide), if_neg (show ¬ ¬ R.spend.1 = 0 from fun x => x g2)]
    exact ⟨rfl, hs.settle n⟩
theorem write_left (R : RF) (hl : R.leftOk) (n : Int) (e : Nat) (at_ : Int) (data : ByteArray) : (R.write n e at_ data).2.leftOk := by
  unfold RF.write
  split
  · exact hl
  split
  · exact hl
  split
  · exact hl
  split
  · exact hl
  split
  · exact (spend_keeps R).2 hl
  · exact (spend_keeps R).2 hl
theorem barrier_left (R : RF) (hl : R.leftOk) (n : Int) (e : Nat) : (R.barrier n e).2.leftOk := by
  unfold RF.barrier
  split
  · exact hl
  split
  · exact (spend_keeps R).2 hl
  · exact (spend_keeps R).2 hl
end
end Go.Proofs.YtjffjolopoejlaaGreatDoor
