/- SessLives: what the law's memory holds. -/
import Derived.Test.YtoegkgebmldhaaaRoomWalk
import Derived.Test.YtoegkgebmldhaaaLivesC
import Derived.Test.YtoegkgebmldhaaaSaid
import Derived.Test.YtoegkgebmldhaaaWin
import Derived.Test.YtoegkgebmldhaaaOpenWays
import Derived.Outline
import Derived.Deep.CutRange
namespace Go.Proofs.Ytoegkgebmldhaaa
open Go.RowKit

theorem ycells_get {F : List Wy} {j : Nat} {f : Wy} (h : F[j]? = some f) {i : Nat} {u : Value} (hi : f.cells[i]? = some u) : (ycells F)[j * 3 + i]? = some u := by
  induction F generalizing j with
  | nil => simp at h
  | cons g F ih =>
    have hc : g.cells.length = 3 := rfl
    cases j with
    | zero =>
      simp at h
      subst h
      have hlt : i < g.cells.length := (List.getElem?_eq_some_iff.1 hi).1
      rw [show 0 * 3 + i = i by omega]
      show (g.cells ++ ycells F)[i]? = some u
      rw [List.getElem?_append_left hlt]
      exact hi
    | succ j =>
      simp at h
      show (g.cells ++ ycells F)[(j + 1) * 3 + i]? = some u
      rw [List.getElem?_append_right (by omega), show (j + 1) * 3 + i - g.cells.length = j * 3 + i by omega]
      exact ih h
theorem Reads.at3 {w : World} {A : Option Addr} {l : List Wy} (h : Reads w 3 A l.length (ycells l)) {k : Nat} {y : Wy} (hk : l[k]? = some y) :
    ∃ ad, A = some ad ∧ w.cell? (ad.add (k * 3)) = some (.int .i64 y.kind) ∧ w.cell? ⟨(ad.add (k * 3)).block, (ad.add (k * 3)).off + 1, none⟩ = some (.int .i64 y.k) ∧ w.cell? ⟨(ad.add (k * 3)).block, (ad.add (k * 3)).off + 2, none⟩ = some (.string y.data) := by
  have hlt : k < l.length := (List.getElem?_eq_some_iff.1 hk).1
  obtain ⟨ad, e, hc⟩ := h.2 (by omega)
  have h1 := hc _ _ (ycells_get hk (i := 1) rfl)
  have h2 := hc _ _ (ycells_get hk (i := 2) rfl)
  rw [← add_of_add] at h1 h2
  exact ⟨ad, e, hc _ _ (by have := ycells_get hk (i := 0) rfl; simpa using this), h1, h2⟩

theorem str_one (l : List ByteArray) : ∀ u ∈ l.map Value.string, u.oneCell' = true := by
  intro u hu
  obtain ⟨y, _, rfl⟩ := List.mem_map.1 hu
  rfl
theorem frame_one (f : Fr) : ∀ u ∈ f.cells, u.oneCell' = true := fun u hu => fcells_one [f] u (by simpa [fcells] using hu)
theorem reads_frame (w : World) (f : Fr) : Reads (w.alloc (.cells #[.int .i64 f.From, .int .i64 f.To, .int .i64 f.Mine, .int .i64 f.Yours, .int .i64 f.Seq, .int .i64 f.Ack, .string f.Data, .bool f.Has] 34)) 8 (some ⟨w.heap.size, 0, none⟩) 1 f.cells := Reads.newAt w 34 8 1 f.cells _ w.heap.size rfl rfl rfl
theorem fcells_snoc (F : List Fr) (f : Fr) : fcells (F ++ [f]) = fcells F ++ f.cells := by simp [fcells]
theorem fcells_take (F : List Fr) (q : Nat) : (fcells F).take (q * 8) = fcells (F.take q) := by
  induction F generalizing q with
  | nil => simp [fcells]
  | cons f F ih =>
    cases q with
    | zero => simp [fcells]
    | succ q =>
      show (f.cells ++ fcells F).take ((q + 1) * 8) = f.cells ++ fcells (F.take q)
      have hc : f.cells.length = 8 := rfl
      rw [List.take_append, hc, show (q + 1) * 8 - 8 = q * 8 by omega, ih, List.take_of_length_le (by rw [hc]; omega)]
theorem fcells_drop (F : List Fr) (q : Nat) : (fcells F).drop (q * 8) = fcells (F.drop q) := by
  induction F generalizing q with
  | nil => simp [fcells]
  | cons f F ih =>
    cases q with
    | zero => simp [fcells]
    | succ q =>
      show (f.cells ++ fcells F).drop ((q + 1) * 8) = fcells (F.drop q)
      have hc : f.cells.length = 8 := rfl
      rw [List.drop_append, hc, show (q + 1) * 8 - 8 = q * 8 by omega, ih, List.drop_of_length_le (by rw [hc]; omega), List.nil_append]
theorem Reads.grown0 {w w' : World} {size n : Nat} {A : Option Addr} {xs : List Value} (h : Reads w size A n xs) (hs : 0 < size) (hg : w.grownBy w' none) : Reads w' size A n xs :=
  ⟨h.1, fun hn => by
    obtain ⟨ad, e, hc⟩ := h.2 hn
    have hlt := h.lt hs ad hn e
    exact ⟨ad, e, fun j u hu => (World.cell?_of_block (w := w) (by rw [block_of_add]; exact hg.block _ hlt (by simp))).trans (hc j u hu)⟩⟩
theorem Reads.cutAt {w : World} {size n g off : Nat} {xs : List Value} (h : Reads w size (some ⟨g, off, none⟩) n xs) {k : Nat} (hk : k ≤ n) : Reads w size (some ⟨g, off + k * size, none⟩) (n - k) (xs.drop (k * size)) := by
  refine ⟨by rw [List.length_drop, h.1, Nat.sub_mul], fun hn => ?_⟩
  obtain ⟨ad, e, hc⟩ := h.2 (by omega)
  injection e with e
  subst e
  refine ⟨_, rfl, fun j u hu => ?_⟩
  rw [List.getElem?_drop] at hu
  have := hc _ u hu
  rw [Addr.add_lit] at this ⊢
  rw [Nat.add_assoc]
  exact this
theorem Reads.zero (w : World) (size : Nat) (A : Option Addr) {m : Nat} (h : m = 0) : Reads w size A m [] := by subst h; exact Reads.none_ _ _ _
theorem Blk.after {o o6 : Nat → Nat} {w w5 w6 : World} {g : Nat} {t : TypeId} {cs : Array Value} {m5 : Nat} (h : Blk w g t cs) (hg : w.drew.grownBy w5 (Value.slice none 0 0).ownBlock) (hs : Step (band o w.drew.heap.size m5 20) (only 20) w5 o6 w6) (ho : o g = 0) : Blk w6 g t cs ∧ o6 g = 0 := by
  have h1 : Blk w5 g t cs := (hg.block g h.lt (by simp [Value.ownBlock])).trans h
  have e : band o w.drew.heap.size m5 20 g = 0 := by rw [band_lt (show g < w.drew.heap.size from h.lt)]; exact ho
  exact ⟨h1.step hs (by rw [e]; unfold only; omega), (hs.old g h1.lt).trans e⟩
theorem without_mem {F : List Fr} {q : Nat} : ∀ g ∈ F.take q ++ F.drop (q + 1), g ∈ F := fun g hg => by
  rcases List.mem_append.1 hg with h | h
  · exact List.mem_of_mem_take h
  · exact List.mem_of_mem_drop h
theorem without_len {F : List Fr} {q : Nat} (h : q < F.length) : (F.take q ++ F.drop (q + 1)).length + 1 = F.length := by
  rw [List.length_append, List.length_take, List.length_drop]
  omega
theorem tmod_bd (K : Int) (n : Nat) (hn : 0 < n) : -(n : Int) < K.tmod n ∧ K.tmod n < n := by
  have h1 := Int.tmod_lt_of_pos K (show (0 : Int) < n by omega)
  have h2 := Int.tmod_lt_of_pos (-K) (show (0 : Int) < n by omega)
  rw [Int.neg_tmod] at h2
  omega


/-- two sessions beside what is on the way (20) and what b's lives have said (21, 30 and on) -/
structure Ov (o : Nat → Nat) (w0 w : World) (pa : Nat) (a : St) (pb : Nat) (b : St) (vw : Value) (way : List Fr) (vS : Value) (S : List (List ByteArray)) (vs : List Value) : Prop where
  two : Two o w0 w pa a pb b
  way : OwnW o 20 w 34 8 vw way.length (fcells way)
  said : Said o w vS S vs
section
variable {o o' : Nat → Nat} {w0 w w' : World} {pa pb : Nat} {a b a' b' : St} {vw vS v' : Value} {way way' : List Fr} {S : List (List ByteArray)} {vs : List Value}
theorem Ov.stepA (h : Ov o w0 w pa a pb b vw way vS S vs) (ha : SessAt o' 1 w' pa a') (hs : Step o (trio 1) w o' w') : Ov o' w0 w' pa a' pb b vw way vS S vs :=
  ⟨h.two.stepA ha hs, h.way.step hs (by unfold trio; omega), h.said.step hs (by unfold trio; omega) (by unfold trio; omega)⟩
theorem Ov.stepB (h : Ov o w0 w pa a pb b vw way vS S vs) (ha : SessAt o' 4 w' pb b') (hs : Step o (trio 4) w o' w') : Ov o' w0 w' pa a pb b' vw way vS S vs :=
  ⟨h.two.stepB ha hs, h.way.step hs (by unfold trio; omega), h.said.step hs (by unfold trio; omega) (by unfold trio; omega)⟩
theorem Ov.stepWay (h : Ov o w0 w pa a pb b vw way vS S vs) (ha : OwnW o' 20 w' 34 8 v' way'.length (fcells way')) (hs : Step o (only 20) w o' w') : Ov o' w0 w' pa a pb b v' way' vS S vs :=
  ⟨h.two.stepO hs (by unfold only; omega) (by unfold only; omega), ha, h.said.step hs (by unfold only; omega) (by unfold only; omega)⟩
theorem Ov.stepNone (h : Ov o w0 w pa a pb b vw way vS S vs) (hs : Step o (fun _ => False) w o' w') : Ov o' w0 w' pa a pb b vw way vS S vs :=
  ⟨h.two.stepO hs (by simp) (by simp), h.way.step hs (by simp), h.said.step hs (by simp) (by simp)⟩
theorem Ov.below_ (h : Ov o w0 w pa a pb b vw way vS S vs) (hb : Below w.heap.size w w') : Ov o w0 w' pa a pb b vw way vS S vs := h.stepNone (Step.of_below o _ hb)
theorem Ov.alloc (h : Ov o w0 w pa a pb b vw way vS S vs) (x : Obj) : Ov o w0 (w.alloc x) pa a pb b vw way vS S vs := h.below_ ((Below.refl _ _).alloc (Nat.le_refl _) x)
theorem Ov.drewN (h : Ov o w0 w pa a pb b vw way vS S vs) (n : Nat) : Ov o w0 (w.drewN n) pa a pb b vw way vS S vs := h.stepNone ((Step.refl o _ w).drewN n)
/-- b begins anew -/
theorem Ov.anew {pb' : Nat} (h : Ov o w0 w pa a pb b vw way vS S vs) (hb : SessAt o' 4 w' pb' b') (hs : ∀ C, Step o C w o' w') (hl : Below w.heap.size w w') : Ov o' w0 w' pa a pb' b' vw way vS S vs := by
  have h0 := hs (fun _ => False)
  exact ⟨⟨h.two.sa.step h0 (by simp) (by simp) (by simp), hb, h.two.fut.step h0, h.two.low.trans (hl.mono h.two.low.size), fun k hk => (h0.old k (Nat.lt_of_lt_of_le hk h.two.low.size)).trans (h.two.old k hk)⟩, h.way.step h0 (by simp), h.said.step h0 (by simp) (by simp)⟩
theorem Ov.stepSaid {S' : List (List ByteArray)} {vs' : List Value} {C : Nat → Prop} (h : Ov o w0 w pa a pb b vw way vS S vs) (hd : Said o' w' v' S' vs') (hs : Step o C w o' w') (hC : ∀ c, C c → 21 ≤ c) : Ov o' w0 w' pa a pb b vw way v' S' vs' :=
  ⟨h.two.stepO hs (fun hk => by have := hC _ hk; omega) (fun k _ _ hk => by have := hC _ hk; omega), h.way.step hs (fun h1 => by have := hC _ h1; omega), hd⟩
end

theorem info_ss : (Try.prog.info? 27).map (fun i => (i.zero, i.size, i.bytes)) = some (some (.slice none 0 0), 1, 24) := by kernel_rfl
theorem blk_frozen {w w' : World} {g i : Nat} (h : w'.heap[g]? = w.heap[g]?) : w'.frozen? ⟨g, i, none⟩ = w.frozen? ⟨g, i, none⟩ := by simp [World.frozen?, h]
/-- a frame's box: colour 0, so that no call turns it -/
def Bx (o : Nat → Nat) (w : World) (g : Nat) (f : Fr) : Prop := Blk w g 34 #[.int .i64 f.From, .int .i64 f.To, .int .i64 f.Mine, .int .i64 f.Yours, .int .i64 f.Seq, .int .i64 f.Ack, .string f.Data, .bool f.Has] ∧ o g = 0
theorem Bx.step {o o' : Nat → Nat} {w w' : World} {g : Nat} {f : Fr} {C : Nat → Prop} (h : Bx o w g f) (hs : Step o C w o' w') (hC : ¬ C 0) : Bx o' w' g f := ⟨h.1.step hs (by rw [h.2]; exact hC), (hs.old g h.1.lt).trans h.2⟩
theorem Bx.drewN {o : Nat → Nat} {w : World} {g : Nat} {f : Fr} (h : Bx o w g f) (n : Nat) : Bx o (w.drewN n) g f := h
theorem Ov.removed {o : Nat → Nat} {w0 w w5 w6 : World} {pa pb : Nat} {a b : St} {vw vS v6 : Value} {way : List Fr} {S : List (List ByteArray)} {vs : List Value} {q : Nat} (h : Ov o w0 w pa a pb b vw way vS S vs)
    (hg : w.drew.grownBy w5 (Value.slice none 0 0).ownBlock) (ho : OwnS (band (band o w.drew.heap.size w5.heap.size 20) w5.heap.size w6.heap.size 20) 20 w6 34 8 v6 (0 + q + (way.length - (q + 1))) ([] ++ (fcells way).take (q * 8) ++ (fcells way).drop ((q + 1) * 8)))
    (hs : Step (band o w.drew.heap.size w5.heap.size 20) (only 20) w5 (band (band o w.drew.heap.size w5.heap.size 20) w5.heap.size w6.heap.size 20) w6) (hq : q < way.length) :
    Ov (band (band o w.drew.heap.size w5.heap.size 20) w5.heap.size w6.heap.size 20) w0 w6 pa a pb b v6 (way.take q ++ way.drop (q + 1)) vS S vs := by
  have hb : Below w.drew.heap.size w.drew w5 := ⟨hg.os, hg.tape, hg.output, hg.size, fun k hk => hg.block k hk (by simp [Value.ownBlock])⟩
  have h1 := (h.drewN 1).stepNone (Step.of_below_band o _ 20 hb)
  refine h1.stepWay ?_ hs
  have e1 : (way.take q ++ way.drop (q + 1)).length = 0 + q + (way.length - (q + 1)) := by rw [List.length_append, List.length_take, List.length_drop]; omega
  have e2 : fcells (way.take q ++ way.drop (q + 1)) = [] ++ (fcells way).take (q * 8) ++ (fcells way).drop ((q + 1) * 8) := by rw [fcells_app, fcells_take, fcells_drop]; rfl
  rw [e1, e2]
  exact OwnW.of_own ho
theorem Ov.removed2 {o : Nat → Nat} {w0 w w5 w6 : World} {pa pb : Nat} {a b : St} {vw vS v6 : Value} {way : List Fr} {S : List (List ByteArray)} {vs : List Value} {q m : Nat} (h : Ov o w0 w pa a pb b vw way vS S vs)
    (hg : w.drew.grownBy w5 (Value.slice none 0 0).ownBlock) (ho : OwnS (band (band o w.drew.heap.size w5.heap.size 20) w5.heap.size w6.heap.size 20) 20 w6 34 8 v6 (0 + q + m) ([] ++ (fcells way).take (q * 8) ++ []))
    (hs : Step (band o w.drew.heap.size w5.heap.size 20) (only 20) w5 (band (band o w.drew.heap.size w5.heap.size 20) w5.heap.size w6.heap.size 20) w6) (hm : m = 0) (hq : way.length = q + 1) :
    Ov (band (band o w.drew.heap.size w5.heap.size 20) w5.heap.size w6.heap.size 20) w0 w6 pa a pb b v6 (way.take q ++ way.drop (q + 1)) vS S vs := by
  have e1 : way.length - (q + 1) = 0 := by omega
  have e2 : (fcells way).drop ((q + 1) * 8) = [] := by rw [fcells_drop, List.drop_of_length_le (by omega)]; rfl
  refine h.removed hg ?_ hs (by omega)
  rw [e1, e2]
  subst hm
  exact ho
/-- what holds behind k of the things that happen -/
def LvRel (w0 : World) (pa : Nat) (k : Nat) (t4 t5 t6 t7 t8 t9 : Value) (w : World) : Prop :=
  ∃ (o : Nat → Nat) (pb L y h : Nat) (a b : St) (way : List Fr) (S : List (List ByteArray)) (vs : List Value), t4 = .pointer (some ⟨pb, 0, none⟩) ∧ t5 = .int .i64 L ∧ t8 = .int .i64 h ∧ t9 = .int .i64 y ∧
    Ov o w0 w pa a pb b t6 way t7 S vs ∧ Lv L a b way S k (512 + 128 * k + 128 * L) ∧ a.heard = h ∧ a.yours = y
theorem LvRel.intro_ {w0 w : World} {k : Nat} {o : Nat → Nat} {pa pb L y h : Nat} {a b : St} {way : List Fr} {S : List (List ByteArray)} {vs : List Value} {vw vS : Value} (h1 : Ov o w0 w pa a pb b vw way vS S vs) (h2 : Lv L a b way S k (512 + 128 * k + 128 * L)) (h3 : a.heard = h) (h4 : a.yours = y) :
    LvRel w0 pa k (.pointer (some ⟨pb, 0, none⟩)) (.int .i64 L) vw vS (.int .i64 h) (.int .i64 y) w := ⟨o, pb, L, y, h, a, b, way, S, vs, rfl, rfl, rfl, rfl, h1, h2, h3, h4⟩
/-- behind a's Take: where its life stands, and from where on it is told -/
theorem Mid.nums {L : Int} {a b : St} {f : Fr} {rest : List Fr} {S : List (List ByteArray)} {n y h : Nat} {T : List ByteArray} {a1 : St} (k : Mid L a b f rest S n T a1) (hm : 1 ≤ f.Mine) (hy : a.yours = y) (hh : a.heard = h) :
    ∃ y1 h0 : Nat, a1.yours = y1 ∧ a1.heard = ((h0 + T.length : Nat) : Int) ∧ (if (y : Int) < y1 then (0 : Int) else h) = h0 ∧ y ≤ y1 ∧ (T ≠ [] → f.Mine = y1) ∧ ∀ (i : Nat) d, T[i]? = some d → (sd S y1)[h0 + i]? = some d := by
  have h1 := k.yours
  have h2 : ((y : Int) < a1.yours) ↔ a.yours < f.Mine := by omega
  obtain ⟨y1, hy1⟩ : ∃ y1 : Nat, a1.yours = y1 := ⟨a1.yours.toNat, by omega⟩
  obtain ⟨h0, hh0⟩ : ∃ h0 : Nat, (if a.yours < f.Mine then (0 : Int) else a.heard) = h0 := by
    split
    · exact ⟨0, rfl⟩
    · exact ⟨h, hh⟩
  refine ⟨y1, h0, hy1, ?_, ?_, by omega, fun hT => ?_, fun i d hd => ?_⟩
  · rw [k.heard, hh0]; omega
  · rw [← hy1, ← hh0, hh]
    by_cases h9 : a.yours < f.Mine
    · rw [if_pos h9, if_pos (h2.2 h9)]
    · rw [if_neg h9, if_neg (fun e => h9 (h2.1 e))]
  · cases T with
    | nil => exact absurd rfl hT
    | cons d T => rw [← hy1]; exact (k.told 0 d rfl).1
  · have := (k.told i d hd).2.2
    rw [hh0, hy1] at this
    simp only at this
    rwa [show ((h0 : Int) + (i : Int) + 1 - 1).toNat = h0 + i by omega] at this
end Go.Proofs.Ytoegkgebmldhaaa
