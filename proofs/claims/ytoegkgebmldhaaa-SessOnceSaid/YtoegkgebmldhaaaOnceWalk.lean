/- SessOnce: the law's walk. -/
import Derived.Test.YtoegkgebmldhaaaRoomWalk
import Derived.Test.YtoegkgebmldhaaaOnceF
import Derived.Test.YtoegkgebmldhaaaWin
import Derived.Test.YtoegkgebmldhaaaOpenWays
import Derived.Outline
import Derived.Deep.CutRange
namespace Go.Proofs.Ytoegkgebmldhaaa
open Go.RowKit

theorem ycells_get {F : List Wy} {j : Nat} {f : Wy} (h : F[j]? = some f) {i : Nat} {u : Value} (hi : f.cells[i]? = some u) : (ycells F)[j * 3 + i]? = some u := by
  induction F generalizing j with
  | nil => simp at h
  | cons g F ih =>
    have hc : g.cells.length = 3 := rfl
    cases j with
    | zero =>
      simp at h
      subst h
      have hlt : i < g.cells.length := (List.getElem?_eq_some_iff.1 hi).1
      rw [show 0 * 3 + i = i by omega]
      show (g.cells ++ ycells F)[i]? = some u
      rw [List.getElem?_append_left hlt]
      exact hi
    | succ j =>
      simp at h
      show (g.cells ++ ycells F)[(j + 1) * 3 + i]? = some u
      rw [List.getElem?_append_right (by omega), show (j + 1) * 3 + i - g.cells.length = j * 3 + i by omega]
      exact ih h
theorem Reads.at3 {w : World} {A : Option Addr} {l : List Wy} (h : Reads w 3 A l.length (ycells l)) {k : Nat} {y : Wy} (hk : l[k]? = some y) :
    ∃ ad, A = some ad ∧ w.cell? (ad.add (k * 3)) = some (.int .i64 y.kind) ∧ w.cell? ⟨(ad.add (k * 3)).block, (ad.add (k * 3)).off + 1, none⟩ = some (.int .i64 y.k) ∧ w.cell? ⟨(ad.add (k * 3)).block, (ad.add (k * 3)).off + 2, none⟩ = some (.string y.data) := by
  have hlt : k < l.length := (List.getElem?_eq_some_iff.1 hk).1
  obtain ⟨ad, e, hc⟩ := h.2 (by omega)
  have h1 := hc _ _ (ycells_get hk (i := 1) rfl)
  have h2 := hc _ _ (ycells_get hk (i := 2) rfl)
  rw [← add_of_add] at h1 h2
  exact ⟨ad, e, hc _ _ (by have := ycells_get hk (i := 0) rfl; simpa using this), h1, h2⟩

theorem str_one (l : List ByteArray) : ∀ u ∈ l.map Value.string, u.oneCell' = true := by
  intro u hu
  obtain ⟨y, _, rfl⟩ := List.mem_map.1 hu
  rfl
theorem frame_one (f : Fr) : ∀ u ∈ f.cells, u.oneCell' = true := fun u hu => fcells_one [f] u (by simpa [fcells] using hu)
theorem reads_frame (w : World) (f : Fr) : Reads (w.alloc (.cells #[.int .i64 f.From, .int .i64 f.To, .int .i64 f.Mine, .int .i64 f.Yours, .int .i64 f.Seq, .int .i64 f.Ack, .string f.Data, .bool f.Has] 34)) 8 (some ⟨w.heap.size, 0, none⟩) 1 f.cells := Reads.newAt w 34 8 1 f.cells _ w.heap.size rfl rfl rfl
theorem fcells_snoc (F : List Fr) (f : Fr) : fcells (F ++ [f]) = fcells F ++ f.cells := by simp [fcells]
/-- two sessions beside what is on the way (20), what was sent (21: of b, 23: of a) and told (22, 24) -/
structure Om (o : Nat → Nat) (w0 w : World) (pa : Nat) (a : St) (pb : Nat) (b : St) (vw : Value) (way : List Fr) (vs : Value) (sent : List ByteArray) (vg : Value) (got : List ByteArray) (vd : Value) (down : List ByteArray) (vh : Value) (heard : List ByteArray) : Prop where
  two : Two o w0 w pa a pb b
  way : OwnW o 20 w 34 8 vw way.length (fcells way)
  sent : OwnS o 21 w 9 1 vs sent.length (sent.map Value.string)
  got : OwnS o 22 w 9 1 vg got.length (got.map Value.string)
  down : OwnS o 23 w 9 1 vd down.length (down.map Value.string)
  heard : OwnS o 24 w 9 1 vh heard.length (heard.map Value.string)
section
variable {o o' : Nat → Nat} {w0 w w' : World} {pa pb : Nat} {a b a' b' : St} {vw vs vg vd vh v' : Value} {way way' : List Fr} {sent got down heard G : List ByteArray}
theorem Om.stepA (h : Om o w0 w pa a pb b vw way vs sent vg got vd down vh heard) (ha : SessAt o' 1 w' pa a') (hs : Step o (trio 1) w o' w') : Om o' w0 w' pa a' pb b vw way vs sent vg got vd down vh heard :=
  ⟨h.two.stepA ha hs, h.way.step hs (by unfold trio; omega), h.sent.step hs (by unfold trio; omega), h.got.step hs (by unfold trio; omega), h.down.step hs (by unfold trio; omega), h.heard.step hs (by unfold trio; omega)⟩
theorem Om.stepB (h : Om o w0 w pa a pb b vw way vs sent vg got vd down vh heard) (ha : SessAt o' 4 w' pb b') (hs : Step o (trio 4) w o' w') : Om o' w0 w' pa a pb b' vw way vs sent vg got vd down vh heard :=
  ⟨h.two.stepB ha hs, h.way.step hs (by unfold trio; omega), h.sent.step hs (by unfold trio; omega), h.got.step hs (by unfold trio; omega), h.down.step hs (by unfold trio; omega), h.heard.step hs (by unfold trio; omega)⟩
theorem Om.stepWay (h : Om o w0 w pa a pb b vw way vs sent vg got vd down vh heard) (ha : OwnW o' 20 w' 34 8 v' way'.length (fcells way')) (hs : Step o (only 20) w o' w') : Om o' w0 w' pa a pb b v' way' vs sent vg got vd down vh heard :=
  ⟨h.two.stepO hs (by unfold only; omega) (by unfold only; omega), ha, h.sent.step hs (by unfold only; omega), h.got.step hs (by unfold only; omega), h.down.step hs (by unfold only; omega), h.heard.step hs (by unfold only; omega)⟩
theorem Om.stepSent (h : Om o w0 w pa a pb b vw way vs sent vg got vd down vh heard) (ha : OwnS o' 21 w' 9 1 v' G.length (G.map Value.string)) (hs : Step o (only 21) w o' w') : Om o' w0 w' pa a pb b vw way v' G vg got vd down vh heard :=
  ⟨h.two.stepO hs (by unfold only; omega) (by unfold only; omega), h.way.step hs (by unfold only; omega), ha, h.got.step hs (by unfold only; omega), h.down.step hs (by unfold only; omega), h.heard.step hs (by unfold only; omega)⟩
theorem Om.stepGot (h : Om o w0 w pa a pb b vw way vs sent vg got vd down vh heard) (ha : OwnS o' 22 w' 9 1 v' G.length (G.map Value.string)) (hs : Step o (only 22) w o' w') : Om o' w0 w' pa a pb b vw way vs sent v' G vd down vh heard :=
  ⟨h.two.stepO hs (by unfold only; omega) (by unfold only; omega), h.way.step hs (by unfold only; omega), h.sent.step hs (by unfold only; omega), ha, h.down.step hs (by unfold only; omega), h.heard.step hs (by unfold only; omega)⟩
theorem Om.stepDown (h : Om o w0 w pa a pb b vw way vs sent vg got vd down vh heard) (ha : OwnS o' 23 w' 9 1 v' G.length (G.map Value.string)) (hs : Step o (only 23) w o' w') : Om o' w0 w' pa a pb b vw way vs sent vg got v' G vh heard :=
  ⟨h.two.stepO hs (by unfold only; omega) (by unfold only; omega), h.way.step hs (by unfold only; omega), h.sent.step hs (by unfold only; omega), h.got.step hs (by unfold only; omega), ha, h.heard.step hs (by unfold only; omega)⟩
theorem Om.stepHeard (h : Om o w0 w pa a pb b vw way vs sent vg got vd down vh heard) (ha : OwnS o' 24 w' 9 1 v' G.length (G.map Value.string)) (hs : Step o (only 24) w o' w') : Om o' w0 w' pa a pb b vw way vs sent vg got vd down v' G :=
  ⟨h.two.stepO hs (by unfold only; omega) (by unfold only; omega), h.way.step hs (by unfold only; omega), h.sent.step hs (by unfold only; omega), h.got.step hs (by unfold only; omega), h.down.step hs (by unfold only; omega), ha⟩
theorem Om.below_ (h : Om o w0 w pa a pb b vw way vs sent vg got vd down vh heard) (hb : Below w.heap.size w w') : Om o w0 w' pa a pb b vw way vs sent vg got vd down vh heard :=
  ⟨h.two.stepO (C := fun _ => False) (Step.of_below o _ hb) (by simp) (by simp), h.way.below_ hb, h.sent.below_ hb, h.got.below_ hb, h.down.below_ hb, h.heard.below_ hb⟩
theorem Om.alloc (h : Om o w0 w pa a pb b vw way vs sent vg got vd down vh heard) (x : Obj) : Om o w0 (w.alloc x) pa a pb b vw way vs sent vg got vd down vh heard := h.below_ ((Below.refl _ _).alloc (Nat.le_refl _) x)
theorem Om.drewN (h : Om o w0 w pa a pb b vw way vs sent vg got vd down vh heard) (n : Nat) : Om o w0 (w.drewN n) pa a pb b vw way vs sent vg got vd down vh heard :=
  ⟨h.two.stepO (C := fun _ => False) ((Step.refl o _ w).drewN n) (by simp) (by simp), h.way, h.sent, h.got, h.down, h.heard⟩
end

/-- what holds behind k of the things that happen -/
def OnceRel (w0 : World) (k : Nat) (t3 t4 t5 t6 t7 t8 t9 t10 : Value) (w : World) : Prop :=
  ∃ (o : Nat → Nat) (pa pb : Nat) (L : Int) (a b : St) (way : List Fr) (sent got down heard : List ByteArray), t3 = .pointer (some ⟨pa, 0, none⟩) ∧ t4 = .pointer (some ⟨pb, 0, none⟩) ∧ t5 = .int .i64 L ∧
    Om o w0 w pa a pb b t6 way t7 sent t8 got t9 down t10 heard ∧ Ln L a b way sent got down heard k (512 + 128 * k)
theorem OnceRel.intro_ {w0 w : World} {k : Nat} {o : Nat → Nat} {pa pb : Nat} {L : Int} {a b : St} {way : List Fr} {sent got down heard : List ByteArray} {vw vs vg vd vh : Value} (h : Om o w0 w pa a pb b vw way vs sent vg got vd down vh heard) (hl : Ln L a b way sent got down heard k (512 + 128 * k)) :
    OnceRel w0 k (.pointer (some ⟨pa, 0, none⟩)) (.pointer (some ⟨pb, 0, none⟩)) (.int .i64 L) vw vs vg vd vh w := ⟨o, pa, pb, L, a, b, way, sent, got, down, heard, rfl, rfl, rfl, h, hl⟩
theorem Om.stepNone {o o' : Nat → Nat} {w0 w w' : World} {pa pb : Nat} {a b : St} {vw vs vg vd vh : Value} {way : List Fr} {sent got down heard : List ByteArray} (h : Om o w0 w pa a pb b vw way vs sent vg got vd down vh heard) (hs : Step o (fun _ => False) w o' w') : Om o' w0 w' pa a pb b vw way vs sent vg got vd down vh heard :=
  ⟨h.two.stepO hs (by simp) (by simp), h.way.step hs (by simp), h.sent.step hs (by simp), h.got.step hs (by simp), h.down.step hs (by simp), h.heard.step hs (by simp)⟩
/-- what is on the way, without the frame at q -/
theorem fcells_take (F : List Fr) (q : Nat) : (fcells F).take (q * 8) = fcells (F.take q) := by
  induction F generalizing q with
  | nil => simp [fcells]
  | cons f F ih =>
    cases q with
    | zero => simp [fcells]
    | succ q =>
      show (f.cells ++ fcells F).take ((q + 1) * 8) = f.cells ++ fcells (F.take q)
      have hc : f.cells.length = 8 := rfl
      rw [List.take_append, hc, show (q + 1) * 8 - 8 = q * 8 by omega, ih, List.take_of_length_le (by rw [hc]; omega)]
theorem fcells_drop (F : List Fr) (q : Nat) : (fcells F).drop (q * 8) = fcells (F.drop q) := by
  induction F generalizing q with
  | nil => simp [fcells]
  | cons f F ih =>
    cases q with
    | zero => simp [fcells]
    | succ q =>
      show (f.cells ++ fcells F).drop ((q + 1) * 8) = fcells (F.drop q)
      have hc : f.cells.length = 8 := rfl
      rw [List.drop_append, hc, show (q + 1) * 8 - 8 = q * 8 by omega, ih, List.drop_of_length_le (by rw [hc]; omega), List.nil_append]
theorem Reads.grown0 {w w' : World} {size n : Nat} {A : Option Addr} {xs : List Value} (h : Reads w size A n xs) (hs : 0 < size) (hg : w.grownBy w' none) : Reads w' size A n xs :=
  ⟨h.1, fun hn => by
    obtain ⟨ad, e, hc⟩ := h.2 hn
    have hlt := h.lt hs ad hn e
    exact ⟨ad, e, fun j u hu => (World.cell?_of_block (w := w) (by rw [block_of_add]; exact hg.block _ hlt (by simp))).trans (hc j u hu)⟩⟩
theorem Reads.cutAt {w : World} {size n g off : Nat} {xs : List Value} (h : Reads w size (some ⟨g, off, none⟩) n xs) {k : Nat} (hk : k ≤ n) : Reads w size (some ⟨g, off + k * size, none⟩) (n - k) (xs.drop (k * size)) := by
  refine ⟨by rw [List.length_drop, h.1, Nat.sub_mul], fun hn => ?_⟩
  obtain ⟨ad, e, hc⟩ := h.2 (by omega)
  injection e with e
  subst e
  refine ⟨_, rfl, fun j u hu => ?_⟩
  rw [List.getElem?_drop] at hu
  have := hc _ u hu
  rw [Addr.add_lit] at this ⊢
  rw [Nat.add_assoc]
  exact this
theorem Om.removed {o : Nat → Nat} {w0 w w5 w6 : World} {pa pb : Nat} {a b : St} {vw vs vg vd vh v6 : Value} {way : List Fr} {sent got down heard : List ByteArray} {q : Nat} (h : Om o w0 w pa a pb b vw way vs sent vg got vd down vh heard)
    (hg : w.drew.grownBy w5 (Value.slice none 0 0).ownBlock) (ho : OwnS (band (band o w.drew.heap.size w5.heap.size 20) w5.heap.size w6.heap.size 20) 20 w6 34 8 v6 (0 + q + (way.length - (q + 1))) ([] ++ (fcells way).take (q * 8) ++ (fcells way).drop ((q + 1) * 8)))
    (hs : Step (band o w.drew.heap.size w5.heap.size 20) (only 20) w5 (band (band o w.drew.heap.size w5.heap.size 20) w5.heap.size w6.heap.size 20) w6) (hq : q < way.length) :
    Om (band (band o w.drew.heap.size w5.heap.size 20) w5.heap.size w6.heap.size 20) w0 w6 pa a pb b v6 (way.take q ++ way.drop (q + 1)) vs sent vg got vd down vh heard := by
  have hb : Below w.drew.heap.size w.drew w5 := ⟨hg.os, hg.tape, hg.output, hg.size, fun k hk => hg.block k hk (by simp [Value.ownBlock])⟩
  have h1 := (h.drewN 1).stepNone (Step.of_below_band o _ 20 hb)
  refine h1.stepWay ?_ hs
  have e1 : (way.take q ++ way.drop (q + 1)).length = 0 + q + (way.length - (q + 1)) := by rw [List.length_append, List.length_take, List.length_drop]; omega
  have e2 : fcells (way.take q ++ way.drop (q + 1)) = [] ++ (fcells way).take (q * 8) ++ (fcells way).drop ((q + 1) * 8) := by rw [fcells_app, fcells_take, fcells_drop]; rfl
  rw [e1, e2]
  exact OwnW.of_own ho
theorem Reads.zero (w : World) (size : Nat) (A : Option Addr) {m : Nat} (h : m = 0) : Reads w size A m [] := by subst h; exact Reads.none_ _ _ _
theorem Om.removed2 {o : Nat → Nat} {w0 w w5 w6 : World} {pa pb : Nat} {a b : St} {vw vs vg vd vh v6 : Value} {way : List Fr} {sent got down heard : List ByteArray} {q m : Nat} (h : Om o w0 w pa a pb b vw way vs sent vg got vd down vh heard)
    (hg : w.drew.grownBy w5 (Value.slice none 0 0).ownBlock) (ho : OwnS (band (band o w.drew.heap.size w5.heap.size 20) w5.heap.size w6.heap.size 20) 20 w6 34 8 v6 (0 + q + m) ([] ++ (fcells way).take (q * 8) ++ []))
    (hs : Step (band o w.drew.heap.size w5.heap.size 20) (only 20) w5 (band (band o w.drew.heap.size w5.heap.size 20) w5.heap.size w6.heap.size 20) w6) (hm : m = 0) (hq : way.length = q + 1) :
    Om (band (band o w.drew.heap.size w5.heap.size 20) w5.heap.size w6.heap.size 20) w0 w6 pa a pb b v6 (way.take q ++ way.drop (q + 1)) vs sent vg got vd down vh heard := by
  have e1 : way.length - (q + 1) = 0 := by omega
  have e2 : (fcells way).drop ((q + 1) * 8) = [] := by rw [fcells_drop, List.drop_of_length_le (by omega)]; rfl
  refine h.removed hg ?_ hs (by omega)
  rw [e1, e2]
  subst hm
  exact ho
theorem Blk.after {o o6 : Nat → Nat} {w w5 w6 : World} {g : Nat} {t : TypeId} {cs : Array Value} {m5 : Nat} (h : Blk w g t cs) (hg : w.drew.grownBy w5 (Value.slice none 0 0).ownBlock) (hs : Step (band o w.drew.heap.size m5 20) (only 20) w5 o6 w6) (ho : o g = 0) : Blk w6 g t cs ∧ o6 g = 0 := by
  have h1 : Blk w5 g t cs := (hg.block g h.lt (by simp [Value.ownBlock])).trans h
  have e : band o w.drew.heap.size m5 20 g = 0 := by rw [band_lt (show g < w.drew.heap.size from h.lt)]; exact ho
  exact ⟨h1.step hs (by rw [e]; unfold only; omega), (hs.old g h1.lt).trans e⟩
theorem without_mem {F : List Fr} {q : Nat} : ∀ g ∈ F.take q ++ F.drop (q + 1), g ∈ F := fun g hg => by
  rcases List.mem_append.1 hg with h | h
  · exact List.mem_of_mem_take h
  · exact List.mem_of_mem_drop h
theorem without_len {F : List Fr} {q : Nat} (h : q < F.length) : (F.take q ++ F.drop (q + 1)).length + 1 = F.length := by
  rw [List.length_append, List.length_take, List.length_drop]
  omega
theorem tmod_bd (K : Int) (n : Nat) (hn : 0 < n) : -(n : Int) < K.tmod n ∧ K.tmod n < n := by
  have h1 := Int.tmod_lt_of_pos K (show (0 : Int) < n by omega)
  have h2 := Int.tmod_lt_of_pos (-K) (show (0 : Int) < n by omega)
  rw [Int.neg_tmod] at h2
  omega

set_option maxRecDepth 100000 in
set_option maxHeartbeats 4000000 in
theorem sessOnce_any (w : World) (A : Option Addr) (ca : Nat) (l : List Wy) (ha : Reads w 3 A l.length (ycells l)) (hz : ∀ x ∈ l, x.data.size ≤ maxLen ∧ i64 x.kind ∧ i64 x.k) (hlen : l.length ≤ maxLen) :
    Calls Try.prog 3 #[.slice A l.length ca] w fun e w' => e = .returned (.bool true) ∧ Below w.heap.size w w' := by
  have HA := Lib.hid ha
  have HZ := Lib.hid hz
  clear ha hz
  unfold maxLen at hlen
  by_cases h0 : 150 < l.length
  · have h0I : (150 : Int) < (l.length : Int) := by omega
    go_enter Try.func3, Try.ntmps3
    go_wp2_with (go_at_call 7; refine (alive_any _).mono ?_; rintro x w' ⟨rfl, hb⟩)
    go_ret
    exact ⟨rfl, hb⟩
  · have h0I : ¬ (150 : Int) < (l.length : Int) := by omega
    go_enter Try.func3, Try.ntmps3
    go_wp2_with fail
    refine (snew_any (fun _ => 0) 1 1 2 1 _).mono ?_
    rintro e w2 ⟨pa, o1, rfl, ha, hb2, hs1⟩
    have HA2 := Lib.hid ha
    have HS1 := Lib.hid (hs1 (fun _ => False))
    clear ha hs1
    go_wp2_with fail
    refine (snew_any o1 4 2 1 1 _).mono ?_
    rintro e w3 ⟨pb, o2, rfl, hb, hb3, hs2⟩
    have h2 : Two o2 w w3 pa (St.new 1 2 1) pb (St.new 2 1 1) := by
      have hz := hs2 (fun _ => False)
      exact ⟨HA2.out.step hz (by simp) (by simp) (by simp), hb, ((show Fut (fun _ => 0) w from fun _ _ => rfl).step HS1.out).step hz, hb2.trans (hb3.mono hb2.size), fun k hk => (hz.old k (Nat.lt_of_lt_of_le hk hb2.size)).trans (HS1.out.old k hk)⟩
    have H2 := Lib.hid (show Om o2 w w3 pa (St.new 1 2 1) pb (St.new 2 1 1) (.slice none 0 0) [] (.slice none 0 0) [] (.slice none 0 0) [] (.slice none 0 0) [] (.slice none 0 0) [] from ⟨h2, OwnW.nil _ _ _ _ _, OwnS.nil _ _ _ _ _, OwnS.nil _ _ _ _ _, OwnS.nil _ _ _ _ _, OwnS.nil _ _ _ _ _⟩)
    clear h2 hb hs2 HA2 HS1 hb2 hb3
    go_wp2_with fail
    obtain ⟨i0, hi0, hz0, hz1, hz2⟩ := info_parts info_s
    obtain ⟨i1, hj0, hj1, hj2, hj3⟩ := info_parts info_f
    go_loopg [3, 4, 5, 6, 7, 8, 9, 10, 11] l.length (fun n t3 t4 t5 t6 t7 t8 t9 t10 t11 wr => ∃ (o : Nat → Nat) (k pa pb : Nat) (L : Int) (a b : St) (way : List Fr) (sent got down heard : List ByteArray), n + k = l.length ∧ t3 = .pointer (some ⟨pa, 0, none⟩) ∧ t4 = .pointer (some ⟨pb, 0, none⟩) ∧ t5 = .int .i64 L ∧ t11 = .int .i64 k ∧ Om o w wr pa a pb b t6 way t7 sent t8 got t9 down t10 heard ∧ Ln L a b way sent got down heard k (512 + 128 * k))
    case atStart => exact ⟨o2, 0, pa, pb, 1, _, _, [], [], [], [], [], by omega, rfl, rfl, rfl, rfl, H2.out, Ln.new 1 (by omega) (by omega) 0⟩
    case round =>
      obtain ⟨o3, k, pa, pb, L, a, b, way, sent, got, down, heard, hnk, rfl, rfl, rfl, rfl, hom, hln⟩ := hrel
      by_cases hlt : k < l.length
      · have hltI : (k : Int) < (l.length : Int) := by omega
        obtain ⟨y, hy⟩ : ∃ y, l[k]? = some y := ⟨_, List.getElem?_eq_getElem hlt⟩
        have hcell := (HA.out.keep_ (fun ad had => hom.two.low.block _ (HA.out.lt (by decide) ad (by omega) had))).at3 hy
        obtain ⟨hyd, hyk, hyq⟩ := HZ.out y (List.mem_of_getElem? hy)
        obtain ⟨kd, kk, dt⟩ := y
        simp only at hcell hyd hyk hyq
        obtain ⟨ad, rfl, c0, c1, c2⟩ := hcell
        have hwl : way.length ≤ 5000 := by have := hln.way_le; omega
        obtain ⟨Aw, capw, rfl, _, hcw⟩ := hom.way.form
        unfold maxLen at hyd hcw
        obtain ⟨hyk1, hyk2⟩ := hyk
        obtain ⟨hyq1, hyq2⟩ := hyq
        have HOM := Lib.hid hom
        have HLN := Lib.hid hln
        have HNK := Lib.hid hnk
        clear hom hln hnk hy H2
        have hwI : (way.length : Int) ≤ 5000 := by omega
        by_cases hd : 100 < dt.size
        · have hdI : (100 : Int) < (dt.size : Int) := by omega
          as_aux_lemma => -- @long
            go_wp2_with fail
            refine bodyPost_ret (v := .bool true) (by simp [results, Try.results3, go_sem]) rfl ⟨rfl, ?_⟩
            exact HOM.out.two.low.alloc HOM.out.two.low.size _
        · have hdI : ¬ (100 : Int) < (dt.size : Int) := by omega
          go_upto_if 53 with (fail)
          go_cut [13] from 37 to 224 (fun v wx => ∃ q : Nat, v = .int .i64 q ∧ (q < way.length ∨ way.length = 0 ∧ q = 0) ∧ wx = wr.alloc (.cells #[.int .i64 kd, .int .i64 kk, .string dt] 29))
          case first =>
            as_aux_lemma => -- @k13
              clear c0 c1 c2
              by_cases hw0 : 0 < way.length
              · have hw0I : (0 : Int) < (way.length : Int) := by omega
                by_cases hs0 : 0 ≤ kk
                · have m1 := Int.emod_nonneg kk (show (way.length : Int) ≠ 0 by omega)
                  have m2 := Int.emod_lt_of_pos kk hw0I
                  go_wp2_with fail
                  go_meet
                  case rel => exact ⟨(kk % way.length).toNat, by rw [Int.toNat_of_nonneg m1], .inl (by omega), rfl⟩
                · obtain ⟨m1, m2⟩ := tmod_bd kk way.length hw0
                  by_cases hs : kk.tmod way.length < 0
                  · go_wp2_with fail
                    go_meet
                    case rel => exact ⟨(kk.tmod way.length + way.length).toNat, by rw [Int.toNat_of_nonneg (by omega)], .inl (by omega), rfl⟩
                  · go_wp2_with fail
                    go_meet
                    case rel => exact ⟨(kk.tmod way.length).toNat, by rw [Int.toNat_of_nonneg (by omega)], .inl (by omega), rfl⟩
              · have hw0I : ¬ (0 : Int) < (way.length : Int) := by omega
                go_wp2_with fail
                go_meet
                case rel => exact ⟨0, rfl, .inr ⟨by omega, rfl⟩, rfl⟩
          case rest =>
            obtain ⟨q, rfl, hq, rfl⟩ := hcut
            have hom1 := HOM.out.alloc (.cells #[.int .i64 kd, .int .i64 kk, .string dt] 29)
            have hbx := Blk.new wr 29 #[.int .i64 kd, .int .i64 kk, .string dt]
            have hoB : o3 wr.heap.size = 0 := HOM.out.two.fut.at_
            clear c0 c1 c2
            generalize wr.alloc (.cells #[.int .i64 kd, .int .i64 kk, .string dt] 29) = W at hom1 hbx ⊢
            generalize wr.heap.size = B at hbx hoB ⊢
            have x0 := hbx.cell 0
            have x2 := hbx.cell 2
            simp at x0 x2
            have xB := hbx.lt
            obtain ⟨As, caps, rfl, _, _⟩ := own_form hom1.sent
            obtain ⟨Ag, capg, rfl, _, _⟩ := own_form hom1.got
            obtain ⟨Ad, capd, rfl, _, _⟩ := own_form hom1.down
            obtain ⟨Ah, caph, rfl, _, _⟩ := own_form hom1.heard
            have hln := HLN.out
            obtain ⟨hp1, hp2, _, _⟩ := hln.prefixes
            have hdl : down.length ≤ 150 := hln.sys.nx.1
            have hsl : sent.length ≤ 150 := hln.sys.ny.1
            have hroa : a.out.length ≤ 64 := hln.sys.xy.snd.room
            have hrob : b.out.length ≤ 64 := hln.sys.yx.snd.room
            have hla : 0 ≤ a.last ∧ a.last ≤ 150 := by have := hln.sys.xy.snd.last; omega
            have hlb : 0 ≤ b.last ∧ b.last ≤ 150 := by have := hln.sys.yx.snd.last; omega
            have hL := hln.L1
            have hL2 := hln.L2
            have HOM1 := Lib.hid hom1
            have HBX := Lib.hid hbx
            have HOB := Lib.hid hoB
            clear hom1 hbx hoB hln
            go_upto_block 2 with (fail)
            go_cut [3, 4, 5, 6, 7, 8, 9, 10, 14, 15, 16, 17, 18] from 37 to 224 (fun t3 t4 t5 t6 t7 t8 t9 t10 _ _ _ _ _ wx => OnceRel w (k + 1) t3 t4 t5 t6 t7 t8 t9 t10 wx)
            case first =>
              by_cases k1 : kd = 1
              · subst k1
                by_cases hr : a.out.length < 64
                · as_aux_lemma => -- @sa1
                    go_wp2_with fail
                    refine (send_ok HOM1.out.two.sa dt (by omega) hr ⟨by omega, by omega⟩).mono ?_
                    rintro e w4 ⟨rfl, o4, hs4, hst4⟩
                    have HM4 := Lib.hid (HOM1.out.stepA hs4 hst4)
                    have hb4 := HBX.out.step hst4 (by rw [HOB.out]; unfold trio; omega)
                    have y2 := hb4.cell 2
                    simp at y2
                    clear hs4 hst4 hb4 x0 x2
                    go_wp2_with (at_builtin; refine wpList_append_S _ rfl (.tmp 116) (.tmp 119) 27 rfl 9 i0 _ 1 16 Try.underlying27 hi0 hz0 hz1 hz2 rfl (by omega) (.slice Ad down.length capd) down.length (down.map Value.string) rfl (HM4.out.down.alloc _) (some ⟨w4.heap.size, 0, none⟩) 1 1 [.string dt] rfl (Reads.newAt w4 9 1 1 [.string dt] #[.string dt] w4.heap.size rfl rfl rfl) (by simp [Value.oneCell']) (by unfold maxLen; omega) (by omega) ?_; intro v' w5 hown hst hg hat; have HOWN := Lib.hid hown; have HST := Lib.hid hst; clear hown hst hg hat)
                    go_meet
                    case rel =>
                      have h9 := (HM4.out.alloc (.cells #[.string dt] 9)).stepDown (v' := v') (G := down ++ [dt]) (by simpa using HOWN.out) HST.out
                      exact OnceRel.intro_ h9 ((HLN.out.sendA dt (by omega) hr (by omega)).mono (Nat.le_refl _) (by omega))
                · as_aux_lemma => -- @sa2
                    go_wp2_with fail
                    refine (send_full HOM1.out.two.sa dt (by omega) (by omega)).mono ?_
                    rintro e w4 ⟨rfl, n4, rfl⟩
                    go_wp2_with fail
                    go_meet
                    case rel => exact OnceRel.intro_ (HOM1.out.drewN n4) (HLN.out.mono (by omega) (by omega))
              · have t1 : (kd == 1) = false := by simp [k1]
                by_cases k2 : kd = 2
                · subst k2
                  by_cases hr : b.out.length < 64
                  · as_aux_lemma => -- @sb1
                      go_wp2_with fail
                      refine (send_ok HOM1.out.two.sb dt (by omega) hr ⟨by omega, by omega⟩).mono ?_
                      rintro e w4 ⟨rfl, o4, hs4, hst4⟩
                      have HM4 := Lib.hid (HOM1.out.stepB hs4 hst4)
                      have hb4 := HBX.out.step hst4 (by rw [HOB.out]; unfold trio; omega)
                      have y2 := hb4.cell 2
                      simp at y2
                      clear hs4 hst4 hb4 x0 x2
                      go_wp2_with (at_builtin; refine wpList_append_S _ rfl (.tmp 130) (.tmp 133) 27 rfl 9 i0 _ 1 16 Try.underlying27 hi0 hz0 hz1 hz2 rfl (by omega) (.slice As sent.length caps) sent.length (sent.map Value.string) rfl (HM4.out.sent.alloc _) (some ⟨w4.heap.size, 0, none⟩) 1 1 [.string dt] rfl (Reads.newAt w4 9 1 1 [.string dt] #[.string dt] w4.heap.size rfl rfl rfl) (by simp [Value.oneCell']) (by unfold maxLen; omega) (by omega) ?_; intro v' w5 hown hst hg hat; have HOWN := Lib.hid hown; have HST := Lib.hid hst; clear hown hst hg hat)
                      go_meet
                      case rel =>
                        have h9 := (HM4.out.alloc (.cells #[.string dt] 9)).stepSent (v' := v') (G := sent ++ [dt]) (by simpa using HOWN.out) HST.out
                        exact OnceRel.intro_ h9 ((HLN.out.sendB dt (by omega) hr (by omega)).mono (Nat.le_refl _) (by omega))
                  · as_aux_lemma => -- @sb2
                      go_wp2_with fail
                      refine (send_full HOM1.out.two.sb dt (by omega) (by omega)).mono ?_
                      rintro e w4 ⟨rfl, n4, rfl⟩
                      go_wp2_with fail
                      go_meet
                      case rel => exact OnceRel.intro_ (HOM1.out.drewN n4) (HLN.out.mono (by omega) (by omega))
                · have t2 : (kd == 2) = false := by simp [k2]
                  go_upto_region 36 with (fail)
                  go_cut [135] from 37 to 224 (fun v wx => v = .bool (decide (kd = 7 ∧ L < 20)) ∧ W = wx)
                  case first =>
                    as_aux_lemma => -- @c7
                      by_cases k7 : kd = 7
                      · subst k7
                        by_cases hl20 : L < 20
                        · go_wp2_with fail
                          go_meet
                          case rel => exact ⟨by simp [hl20], rfl⟩
                        · go_wp2_with fail
                          go_meet
                          case rel => exact ⟨by simp [hl20], rfl⟩
                      · have t7 : (kd == 7) = false := by simp [k7]
                        go_wp2_with fail
                        go_meet
                        case rel => exact ⟨by simp [k7], rfl⟩
                  case rest =>
                    obtain ⟨rfl, rfl⟩ := hcut
                    by_cases k7 : kd = 7 ∧ L < 20
                    · rw [decide_eq_true k7]
                      obtain ⟨_, hl20⟩ := k7
                      as_aux_lemma => -- @life
                        go_wp2_with fail
                        refine (snew_any o3 4 2 1 (L + 1) _).mono ?_
                        rintro e w4 ⟨pb4, o4, rfl, hb, hbl4, hst4⟩
                        have HB4 := Lib.hid hb
                        have HS4 := Lib.hid (hst4 (fun _ => False))
                        have HBL4 := Lib.hid hbl4
                        clear hb hst4 hbl4
                        go_wp2_with fail
                        refine (snew_any o4 1 1 2 (L + 1) _).mono ?_
                        rintro e w5 ⟨pa5, o5, rfl, ha, hbl5, hst5⟩
                        have HA5 := Lib.hid ha
                        have HS5 := Lib.hid (hst5 (fun _ => False))
                        have HBL5 := Lib.hid hbl5
                        clear ha hst5 hbl5
                        go_wp2_with fail
                        go_meet
                        case rel =>
                          have h0 := HOM1.out.two
                          have st45 := HS4.out.trans HS5.out
                          have htwo : Two o5 w w5 pa5 (St.new 1 2 (L + 1)) pb4 (St.new 2 1 (L + 1)) :=
                            ⟨HA5.out, HB4.out.step HS5.out (by simp) (by simp) (by simp), h0.fut.step st45, (h0.low.trans (HBL4.out.mono h0.low.size)).trans (HBL5.out.mono (Nat.le_trans h0.low.size HBL4.out.size)), fun i hi => (st45.old i (Nat.lt_of_lt_of_le hi h0.low.size)).trans (h0.old i hi)⟩
                          exact OnceRel.intro_ (way := []) (sent := []) (got := []) (down := []) (heard := []) ⟨htwo, OwnW.nil _ _ _ _ _, OwnS.nil _ _ _ _ _, OwnS.nil _ _ _ _ _, OwnS.nil _ _ _ _ _, OwnS.nil _ _ _ _ _⟩ ((Ln.new (L + 1) (by omega) (by omega) (k + 1)).mono (Nat.le_refl _) (by omega))
                    · rw [decide_eq_false k7]
                      clear k7
                      go_upto_region 43 with (fail)
                      go_cut [149] from 37 to 224 (fun v wx => v = .bool (decide (kd = 6 ∨ way.length = 0)) ∧ W = wx)
                      case first =>
                        as_aux_lemma => -- @c6
                          by_cases k6 : kd = 6
                          · subst k6
                            go_wp2_with fail
                            go_meet
                            case rel => exact ⟨by simp, rfl⟩
                          · have t6 : (kd == 6) = false := by simp [k6]
                            by_cases hw0 : way.length = 0
                            · have t0 : ((way.length : Int) == 0) = true := by rw [hw0]; rfl
                              have e0 : decide (kd = 6 ∨ way.length = 0) = true := decide_eq_true (.inr hw0)
                              have E0 := Lib.hid e0
                              clear hw0 e0 hq
                              go_wp2_with fail
                              go_meet
                              case rel => exact ⟨by rw [E0.out], rfl⟩
                            · have t0 : ((way.length : Int) == 0) = false := beq_eq_false_iff_ne.2 (by omega)
                              have e0 : decide (kd = 6 ∨ way.length = 0) = false := decide_eq_false (by omega)
                              have E0 := Lib.hid e0
                              clear hw0 e0 hq
                              go_wp2_with fail
                              go_meet
                              case rel => exact ⟨by rw [E0.out], rfl⟩
                      case rest =>
                        obtain ⟨rfl, rfl⟩ := hcut
                        by_cases k6 : kd = 6 ∨ way.length = 0
                        · rw [decide_eq_true k6]
                          clear k6
                          as_aux_lemma => -- @tick
                            have hage := HLN.out.sys.xy.snd.age
                            have hage2 := HLN.out.sys.yx.snd.age
                            have HAGE := Lib.hid hage
                            have HAGE2 := Lib.hid hage2
                            clear hage hage2
                            have hlF := outF_le a.tickS (by simpa [St.tickS] using hroa)
                            have hlG := outF_le b.tickS (by simpa [St.tickS] using hrob)
                            go_wp2_with fail
                            refine (tick_as (d := 10) (F := a.tickS.outF) (s' := a.tickS.outS) HOM1.out.two.sa HOM1.out.two.fut (by omega) (by omega) (by omega) hroa (fun x hx => by have := HAGE.out x hx; omega) rfl rfl).mono ?_
                            rintro e w4 ⟨A4, cap4, o4, rfl, hl4, hcap4, hs4, hst4⟩
                            have HM4 := Lib.hid (HOM1.out.stepA hs4 hst4)
                            have HL4 := Lib.hid hl4
                            clear hs4 hst4 hl4
                            go_wp2_with (at_builtin; refine wpList_append_W _ rfl (.tmp 158) (.tmp 160) 26 rfl 34 i1 _ 8 72 Try.underlying26 hj0 hj1 hj2 hj3 rfl (by omega) (.slice Aw way.length capw) way.length (fcells way) rfl HM4.out.way A4 a.tickS.outF.length cap4 (fcells a.tickS.outF) rfl (Reads.of_own HL4.out.1) (fcells_one _) (by unfold maxLen; omega) (by omega) ?_; intro v5 w5 hown hst; have HOWN5 := Lib.hid hown; have HST5 := Lib.hid hst; clear hown hst)
                            have HM5 := Lib.hid (HM4.out.stepWay (v' := v5) (way' := way ++ a.tickS.outF) (by rw [fcells_app, List.length_append]; exact HOWN5.out) HST5.out)
                            refine (tick_as (d := 10) (F := b.tickS.outF) (s' := b.tickS.outS) HM5.out.two.sb HM5.out.two.fut (by omega) (by omega) (by omega) hrob (fun x hx => by have := HAGE2.out x hx; omega) rfl rfl).mono ?_
                            rintro e w6 ⟨A6, cap6, o6, rfl, hl6, hcap6, hs6, hst6⟩
                            have HM6 := Lib.hid (HM5.out.stepB hs6 hst6)
                            have HL6 := Lib.hid hl6
                            clear hs6 hst6 hl6
                            go_wp2_with (at_builtin; refine wpList_append_W _ rfl (.tmp 162) (.tmp 164) 26 rfl 34 i1 _ 8 72 Try.underlying26 hj0 hj1 hj2 hj3 rfl (by omega) v5 (way ++ a.tickS.outF).length (fcells (way ++ a.tickS.outF)) rfl HM6.out.way A6 b.tickS.outF.length cap6 (fcells b.tickS.outF) rfl (Reads.of_own HL6.out.1) (fcells_one _) (by rw [List.length_append]; unfold maxLen; omega) (by rw [List.length_append]; omega) ?_; intro v7 w7 hown hst; have HOWN7 := Lib.hid hown; have HST7 := Lib.hid hst; clear hown hst)
                            go_meet
                            case rel =>
                              have h9 := HM6.out.stepWay (v' := v7) (way' := way ++ a.tickS.outF ++ b.tickS.outF) (by rw [fcells_app, List.length_append]; exact HOWN7.out) HST7.out
                              exact OnceRel.intro_ h9 (HLN.out.tickA.tickB.mono (by omega) (by omega))
                        · rw [decide_eq_false k6]
                          have hq' : q < way.length := by omega
                          clear k6 hq
                          obtain ⟨gw, offw, hAw, hgw, hcgw, hle, hcells⟩ := HOM1.out.way.open_ (by omega)
                          subst hAw
                          obtain ⟨f, hf⟩ : ∃ f, way[q]? = some f := ⟨_, List.getElem?_eq_getElem hq'⟩
                          have z0 := hcells _ _ (fcells_get hf (i := 0) rfl)
                          have z1 := hcells _ _ (fcells_get hf (i := 1) rfl)
                          have z2 := hcells _ _ (fcells_get hf (i := 2) rfl)
                          have z3 := hcells _ _ (fcells_get hf (i := 3) rfl)
                          have z4 := hcells _ _ (fcells_get hf (i := 4) rfl)
                          have z5 := hcells _ _ (fcells_get hf (i := 5) rfl)
                          have z6 := hcells _ _ (fcells_get hf (i := 6) rfl)
                          have z7 := hcells _ _ (fcells_get hf (i := 7) rfl)
                          rw [Nat.add_zero] at z0
                          rw [← Nat.add_assoc] at z1 z2 z3 z4 z5 z6 z7
                          have hqI : (q : Int) < (way.length : Int) := by omega
                          have hleI : (way.length : Int) ≤ (capw : Int) := by omega
                          have HF := Lib.hid hf
                          clear hf hcells
                          go_upto_region 46 with (fail)
                          go_cut [166] from 37 to 224 (fun v wx => v = .bool (decide (kd = 5 ∧ way.length < 200)) ∧ W = wx)
                          case first =>
                            as_aux_lemma => -- @c5
                              by_cases k5 : kd = 5
                              · subst k5
                                by_cases hl2 : way.length < 200
                                · have hl2I : (way.length : Int) < 200 := by omega
                                  go_wp2_with fail
                                  go_meet
                                  case rel => exact ⟨by simp [hl2], rfl⟩
                                · have hl2I : ¬ (way.length : Int) < 200 := by omega
                                  go_wp2_with fail
                                  go_meet
                                  case rel => exact ⟨by simp [hl2], rfl⟩
                              · have t5 : (kd == 5) = false := by simp [k5]
                                go_wp2_with fail
                                go_meet
                                case rel => exact ⟨by simp [k5], rfl⟩
                          case rest =>
                            obtain ⟨rfl, rfl⟩ := hcut
                            by_cases k5 : kd = 5 ∧ way.length < 200
                            · rw [decide_eq_true k5]
                              clear k5
                              focus -- @dup
                                go_upto_region 47 with (fail)
                                have HF1 := Lib.hid (frame_one f)
                                have HRN := Lib.hid (reads_frame W f)
                                have HWA := Lib.hid (HOM1.out.way.alloc (.cells #[.int .i64 f.From, .int .i64 f.To, .int .i64 f.Mine, .int .i64 f.Yours, .int .i64 f.Seq, .int .i64 f.Ack, .string f.Data, .bool f.Has] 34))
                                go_wp2_with (at_builtin; refine wpList_append_W _ rfl (.tmp 175) (.tmp 180) 26 rfl 34 i1 _ 8 72 Try.underlying26 hj0 hj1 hj2 hj3 rfl (by omega) (.slice (some ⟨gw, offw, none⟩) way.length capw) way.length (fcells way) rfl HWA.out (some ⟨W.heap.size, 0, none⟩) 1 1 f.cells rfl HRN.out HF1.out (by unfold maxLen; omega) (by omega) ?_; intro v5 w5 hown hst; have HOWN5 := Lib.hid hown; have HST5 := Lib.hid hst; clear hown hst)
                                go_meet
                                case rel =>
                                  have h9 := (HOM1.out.alloc (.cells #[.int .i64 f.From, .int .i64 f.To, .int .i64 f.Mine, .int .i64 f.Yours, .int .i64 f.Seq, .int .i64 f.Ack, .string f.Data, .bool f.Has] 34)).stepWay (v' := v5) (way' := way ++ [f]) (by have h8 := HOWN5.out; rw [fcells_snoc, List.length_append, List.length_singleton]; exact h8) HST5.out
                                  exact OnceRel.intro_ h9 ((HLN.out.dup (List.mem_of_getElem? HF.out)).mono (by omega) (by omega))
                            · rw [decide_eq_false k5]
                              clear k5
                              by_cases k4 : kd = 4
                              · subst k4
                                focus -- @rem
                                  clear z0 z1 z2 z3 z4 z5 z6 z7
                                  have hcq1 : (q : Int) + 1 ≤ (capw : Int) := by omega
                                  have hcq2 : q ≤ capw := by omega
                                  have hcq3 : q + 1 ≤ way.length := by omega
                                  have HTK := Lib.hid (Reads.take HOM1.out.way.reads.drew (k := q) (by omega))
                                  have HCT := Lib.hid (Reads.cutAt HOM1.out.way.reads.drew (k := q + 1) hcq3)
                                  have hcq4 : (q : Int) + 1 ≤ (way.length : Int) := by omega
                                  have hcq5 : (0 : Int) ≤ (q : Int) + 1 := by omega
                                  have htn : ((q : Int) + 1).toNat = q + 1 := by omega
                                  have hwr : IntKind.i64.wrap ((q : Int) + 1) = (q : Int) + 1 := IntWalk.i64_in _ (by omega)
                                  go_upto_region 49 with (fail)
                                  by_cases hcq : capw = q + 1
                                  · have hlq : way.length ≤ q + 1 := by omega
                                    have hcl : capw ≤ q + 1 := by omega
                                    have hclI : (capw : Int) ≤ (q : Int) + 1 := by omega
                                    clear hcq
                                    go_region_held3 (fun w' => w'.cell? ⟨B, 2, none⟩ = some (.string dt)) (first | exact x2 | exact KX2 | exact KX | go_keep) (first | (refine step_append_S _ rfl (.const (.slice none 0 0)) (.tmp 188) 26 rfl 34 i1 _ 8 72 Try.underlying26 hj0 hj1 hj2 hj3 rfl (by omega) (.slice none 0 0) 0 [] rfl (OwnS.nil o3 20 _ _ _) (some ⟨gw, offw, none⟩) q capw ((fcells way).take (q * 8)) rfl HTK.out (fun u hu => fcells_one way u (List.mem_of_mem_take hu)) (by unfold maxLen; omega) (by omega) ?_; intro v5 w5 hown5 hst5 hg5 hat5; have HO5 := Lib.hid hown5; have HG5 := Lib.hid hg5; have KX := (hg5.cell_far ⟨B, 2, none⟩ (by simpa using xB) (by simp [Value.ownBlock])).trans x2; clear hown5 hst5 hg5 hat5) | (refine step_append_S _ rfl (.tmp 189) (.tmp 193) 26 rfl 34 i1 _ 8 72 Try.underlying26 hj0 hj1 hj2 hj3 rfl (by omega) v5 (0 + q) ([] ++ (fcells way).take (q * 8)) rfl HO5.out _ _ _ [] rfl (Reads.zero _ _ _ (by omega)) (by simp) (by unfold maxLen; omega) (by omega) ?_; intro v6 w6 hown6 hst6 hg6 hat6; have KX2 := (World.cell?_of_block (a := ⟨B, 2, none⟩) (hst6.block B (Nat.lt_of_lt_of_le xB HG5.out.size) (by rw [band_lt (show B < W.drew.heap.size from xB), HOB.out]; unfold only; omega))).trans KX; have HO6 := Lib.hid hown6; have HST6 := Lib.hid hst6; clear hown6 hst6 hg6 hat6))
                                    go_wp2_with fail
                                    go_meet
                                    case rel => exact OnceRel.intro_ (HOM1.out.removed2 HG5.out HO6.out HST6.out (by omega) (by omega)) ((HLN.out.sub without_mem (by have := without_len hq'; omega)).mono (by omega) (by omega))
                                  · go_region_held3 (fun w' => w'.cell? ⟨B, 2, none⟩ = some (.string dt)) (first | exact x2 | exact KX2 | exact KX | go_keep) (first | (refine step_append_S _ rfl (.const (.slice none 0 0)) (.tmp 188) 26 rfl 34 i1 _ 8 72 Try.underlying26 hj0 hj1 hj2 hj3 rfl (by omega) (.slice none 0 0) 0 [] rfl (OwnS.nil o3 20 _ _ _) (some ⟨gw, offw, none⟩) q capw ((fcells way).take (q * 8)) rfl HTK.out (fun u hu => fcells_one way u (List.mem_of_mem_take hu)) (by unfold maxLen; omega) (by omega) ?_; intro v5 w5 hown5 hst5 hg5 hat5; have HO5 := Lib.hid hown5; have HG5 := Lib.hid hg5; have KX := (hg5.cell_far ⟨B, 2, none⟩ (by simpa using xB) (by simp [Value.ownBlock])).trans x2; clear hown5 hst5 hg5 hat5) | (refine step_append_S _ rfl (.tmp 189) (.tmp 193) 26 rfl 34 i1 _ 8 72 Try.underlying26 hj0 hj1 hj2 hj3 rfl (by omega) v5 (0 + q) ([] ++ (fcells way).take (q * 8)) rfl HO5.out (some ⟨gw, offw + (q + 1) * 8, none⟩) (way.length - (q + 1)) (capw - (q + 1)) ((fcells way).drop ((q + 1) * 8)) rfl (HCT.out.grown0 (by omega) HG5.out) (fun u hu => fcells_one way u (List.mem_of_mem_drop hu)) (by unfold maxLen; omega) (by omega) ?_; intro v6 w6 hown6 hst6 hg6 hat6; have KX2 := (World.cell?_of_block (a := ⟨B, 2, none⟩) (hst6.block B (Nat.lt_of_lt_of_le xB HG5.out.size) (by rw [band_lt (show B < W.drew.heap.size from xB), HOB.out]; unfold only; omega))).trans KX; have HO6 := Lib.hid hown6; have HST6 := Lib.hid hst6; clear hown6 hst6 hg6 hat6))
                                    go_wp2_with fail
                                    go_meet
                                    case rel => exact OnceRel.intro_ (HOM1.out.removed HG5.out HO6.out HST6.out hq') ((HLN.out.sub without_mem (by have := without_len hq'; omega)).mono (by omega) (by omega))
                              · have t4 : (kd == 4) = false := by simp [k4]
                                as_aux_lemma => -- @def
                                  go_upto_region 22 with (fail)
                                  have hom2 := HOM1.out.alloc (.cells #[.int .i64 f.From, .int .i64 f.To, .int .i64 f.Mine, .int .i64 f.Yours, .int .i64 f.Seq, .int .i64 f.Ack, .string f.Data, .bool f.Has] 34)
                                  have hbf := Blk.new W 34 #[.int .i64 f.From, .int .i64 f.To, .int .i64 f.Mine, .int .i64 f.Yours, .int .i64 f.Seq, .int .i64 f.Ack, .string f.Data, .bool f.Has]
                                  have hoF0 : o3 W.heap.size = 0 := HOM1.out.two.fut.at_
                                  have hlow2 := HOM1.out.two.low.alloc HOM1.out.two.low.size (.cells #[.int .i64 f.From, .int .i64 f.To, .int .i64 f.Mine, .int .i64 f.Yours, .int .i64 f.Seq, .int .i64 f.Ack, .string f.Data, .bool f.Has] 34)
                                  clear z0 z1 z2 z3 z4 z5 z6 z7 x0 x2
                                  generalize W.alloc (.cells #[.int .i64 f.From, .int .i64 f.To, .int .i64 f.Mine, .int .i64 f.Yours, .int .i64 f.Seq, .int .i64 f.Ack, .string f.Data, .bool f.Has] 34) = V at hom2 hbf hlow2 ⊢
                                  generalize W.heap.size = BF at hbf hoF0 hgw xB ⊢
                                  have HOMV := Lib.hid hom2
                                  have HBF := Lib.hid hbf
                                  have HOF0 := Lib.hid hoF0
                                  clear hom2 hbf hoF0 hlow2
                                  go_cut [6] from 37 to 224 (fun v wx => ∃ o5, Om o5 w wx pa a pb b v (way.take q ++ way.drop (q + 1)) (.slice As sent.length caps) sent (.slice Ag got.length capg) got (.slice Ad down.length capd) down (.slice Ah heard.length caph) heard ∧ Blk wx BF 34 #[.int .i64 f.From, .int .i64 f.To, .int .i64 f.Mine, .int .i64 f.Yours, .int .i64 f.Seq, .int .i64 f.Ack, .string f.Data, .bool f.Has] ∧ o5 BF = 0)
                                  case first =>
                                    focus -- @rem2
                                      have x2F := HBF.out.cell 1
                                      simp at x2F
                                      have xF := HBF.out.lt
                                      have hcq1 : (q : Int) + 1 ≤ (capw : Int) := by omega
                                      have hcq2 : q ≤ capw := by omega
                                      have hcq3 : q + 1 ≤ way.length := by omega
                                      have HTK := Lib.hid (Reads.take HOMV.out.way.reads.drew (k := q) (by omega))
                                      have HCT := Lib.hid (Reads.cutAt HOMV.out.way.reads.drew (k := q + 1) hcq3)
                                      have hcq4 : (q : Int) + 1 ≤ (way.length : Int) := by omega
                                      have hcq5 : (0 : Int) ≤ (q : Int) + 1 := by omega
                                      have htn : ((q : Int) + 1).toNat = q + 1 := by omega
                                      have hwr : IntKind.i64.wrap ((q : Int) + 1) = (q : Int) + 1 := IntWalk.i64_in _ (by omega)
                                      by_cases hcq : capw = q + 1
                                      · have hlq : way.length ≤ q + 1 := by omega
                                        have hcl : capw ≤ q + 1 := by omega
                                        have hclI : (capw : Int) ≤ (q : Int) + 1 := by omega
                                        clear hcq
                                        go_region_held3 (fun w' => w'.cell? ⟨BF, 1, none⟩ = some (.int .i64 f.To)) (first | exact x2F | exact KX2 | exact KX | go_keep) (first | (refine step_append_S _ rfl (.const (.slice none 0 0)) (.tmp 71) 26 rfl 34 i1 _ 8 72 Try.underlying26 hj0 hj1 hj2 hj3 rfl (by omega) (.slice none 0 0) 0 [] rfl (OwnS.nil o3 20 _ _ _) (some ⟨gw, offw, none⟩) q capw ((fcells way).take (q * 8)) rfl HTK.out (fun u hu => fcells_one way u (List.mem_of_mem_take hu)) (by unfold maxLen; omega) (by omega) ?_; intro v5 w5 hown5 hst5 hg5 hat5; have HO5 := Lib.hid hown5; have HG5 := Lib.hid hg5; have KX := (hg5.cell_far ⟨BF, 1, none⟩ (by simpa using xF) (by simp [Value.ownBlock])).trans x2F; clear hown5 hst5 hg5 hat5) | (refine step_append_S _ rfl (.tmp 72) (.tmp 76) 26 rfl 34 i1 _ 8 72 Try.underlying26 hj0 hj1 hj2 hj3 rfl (by omega) v5 (0 + q) ([] ++ (fcells way).take (q * 8)) rfl HO5.out _ _ _ [] rfl (Reads.zero _ _ _ (by omega)) (by simp) (by unfold maxLen; omega) (by omega) ?_; intro v6 w6 hown6 hst6 hg6 hat6; have KX2 := (World.cell?_of_block (a := ⟨BF, 1, none⟩) (hst6.block BF (Nat.lt_of_lt_of_le xF HG5.out.size) (by rw [band_lt (show BF < V.drew.heap.size from xF), HOF0.out]; unfold only; omega))).trans KX; have HO6 := Lib.hid hown6; have HST6 := Lib.hid hst6; clear hown6 hst6 hg6 hat6))
                                        go_wp2_with fail
                                        go_meet
                                        case rel => exact ⟨_, (HOMV.out.removed2 HG5.out HO6.out HST6.out (by omega) (by omega)), HBF.out.after HG5.out HST6.out HOF0.out⟩
                                      · go_region_held3 (fun w' => w'.cell? ⟨BF, 1, none⟩ = some (.int .i64 f.To)) (first | exact x2F | exact KX2 | exact KX | go_keep) (first | (refine step_append_S _ rfl (.const (.slice none 0 0)) (.tmp 71) 26 rfl 34 i1 _ 8 72 Try.underlying26 hj0 hj1 hj2 hj3 rfl (by omega) (.slice none 0 0) 0 [] rfl (OwnS.nil o3 20 _ _ _) (some ⟨gw, offw, none⟩) q capw ((fcells way).take (q * 8)) rfl HTK.out (fun u hu => fcells_one way u (List.mem_of_mem_take hu)) (by unfold maxLen; omega) (by omega) ?_; intro v5 w5 hown5 hst5 hg5 hat5; have HO5 := Lib.hid hown5; have HG5 := Lib.hid hg5; have KX := (hg5.cell_far ⟨BF, 1, none⟩ (by simpa using xF) (by simp [Value.ownBlock])).trans x2F; clear hown5 hst5 hg5 hat5) | (refine step_append_S _ rfl (.tmp 72) (.tmp 76) 26 rfl 34 i1 _ 8 72 Try.underlying26 hj0 hj1 hj2 hj3 rfl (by omega) v5 (0 + q) ([] ++ (fcells way).take (q * 8)) rfl HO5.out (some ⟨gw, offw + (q + 1) * 8, none⟩) (way.length - (q + 1)) (capw - (q + 1)) ((fcells way).drop ((q + 1) * 8)) rfl (HCT.out.grown0 (by omega) HG5.out) (fun u hu => fcells_one way u (List.mem_of_mem_drop hu)) (by unfold maxLen; omega) (by omega) ?_; intro v6 w6 hown6 hst6 hg6 hat6; have KX2 := (World.cell?_of_block (a := ⟨BF, 1, none⟩) (hst6.block BF (Nat.lt_of_lt_of_le xF HG5.out.size) (by rw [band_lt (show BF < V.drew.heap.size from xF), HOF0.out]; unfold only; omega))).trans KX; have HO6 := Lib.hid hown6; have HST6 := Lib.hid hst6; clear hown6 hst6 hg6 hat6))
                                        go_wp2_with fail
                                        go_meet
                                        case rel => exact ⟨_, (HOMV.out.removed HG5.out HO6.out HST6.out hq'), HBF.out.after HG5.out HST6.out HOF0.out⟩
                                  case rest =>
                                    obtain ⟨o5, hom2, hbf, hof⟩ := hcut
                                    have x0 := hbf.cell 0
                                    have x1 := hbf.cell 1
                                    have x2 := hbf.cell 2
                                    have x3 := hbf.cell 3
                                    have x4 := hbf.cell 4
                                    have x5 := hbf.cell 5
                                    have x6 := hbf.cell 6
                                    have x7 := hbf.cell 7
                                    simp at x0 x1 x2 x3 x4 x5 x6 x7
                                    obtain ⟨A6, cap6, rfl, _, _⟩ := hom2.way.form
                                    have HOM2 := Lib.hid hom2
                                    have hmem : f ∈ way := List.mem_of_getElem? HF.out
                                    have hrl : (way.take q ++ way.drop (q + 1)).length + 1 = way.length := without_len hq'
                                    have hrm : ∀ g ∈ way.take q ++ way.drop (q + 1), g ∈ way := without_mem
                                    clear hom2 hbf hof
                                    generalize way.take q ++ way.drop (q + 1) = rest at HOM2 hrl hrm
                                    obtain ⟨T, s1, hts⟩ : ∃ T s', (if f.To = 1 then a.takeF f else b.takeF f) = (T, s') := ⟨_, _, rfl⟩
                                    by_cases ht : f.To = 1
                                    · have t1 : (f.To == 1) = true := by rw [ht]; rfl
                                      rw [if_pos ht] at hts
                                      have hT := HLN.out.sys.okT hmem (ht.trans HLN.out.a1.symm)
                                      have hro := (HLN.out.sys.take hmem (ht.trans HLN.out.a1.symm) (rest := rest) hrm).room
                                      have g1 := HLN.out.takeA hmem ht hrm hrl
                                      simp only [hts] at g1 hro
                                      have hoF := outF_le s1 hro
                                      have htl : got.length + T.length ≤ 150 := by have := g1.prefixes.1; rw [List.length_append] at this; omega
                                      have G1 := Lib.hid g1
                                      have HTS := Lib.hid hts
                                      clear g1 hts hmem ht hrm
                                      go_wp2_with fail
                                      refine (take_as (d := 11) (f := f) (T := T) (s' := s1) HOM2.out.two.sa HOM2.out.two.fut (by omega) (by omega) (by omega) hT.out hT.From hT.To hT.Mine hT.yours hT.Yours hT.Seq hT.heard hT.ahead hT.Data HTS.out).mono ?_
                                      rintro e w8 ⟨A8, cap8, o8, rfl, hl8, hcap8, hs8, hst8⟩
                                      have HM8 := Lib.hid (HOM2.out.stepA hs8 hst8)
                                      have HL8 := Lib.hid hl8
                                      clear hs8 hst8 hl8 x0 x1 x2 x3 x4 x5 x6 x7 hT
                                      go_wp2_with (at_builtin; refine wpList_append_S _ rfl (.tmp 87) (.tmp 88) 27 rfl 9 i0 _ 1 16 Try.underlying27 hi0 hz0 hz1 hz2 rfl (by omega) (.slice Ag got.length capg) got.length (got.map Value.string) rfl HM8.out.got A8 T.length cap8 (T.map Value.string) rfl (Reads.of_own HL8.out.1) (str_one T) (by unfold maxLen; omega) (by omega) ?_; intro v9 w9 hown hst hg hat; have HO9 := Lib.hid hown; have HST9 := Lib.hid hst; clear hown hst hg hat)
                                      have HM9 := Lib.hid (HM8.out.stepGot (v' := v9) (G := got ++ T) (by rw [List.map_append, List.length_append]; exact HO9.out) HST9.out)
                                      refine (out_as (d := 10) (F := s1.outF) (s' := s1.outS) HM9.out.two.sa HM9.out.two.fut (by omega) (by omega) (by omega) hro rfl rfl).mono ?_
                                      rintro e w10 ⟨A10, cap10, o10, rfl, hl10, hcap10, hs10, hst10⟩
                                      have HM10 := Lib.hid (HM9.out.stepA hs10 hst10)
                                      have HL10 := Lib.hid hl10
                                      clear hs10 hst10 hl10
                                      go_wp2_with (at_builtin; refine wpList_append_W _ rfl (.tmp 90) (.tmp 92) 26 rfl 34 i1 _ 8 72 Try.underlying26 hj0 hj1 hj2 hj3 rfl (by omega) (.slice A6 rest.length cap6) rest.length (fcells rest) rfl HM10.out.way A10 s1.outF.length cap10 (fcells s1.outF) rfl (Reads.of_own HL10.out.1) (fcells_one _) (by unfold maxLen; omega) (by omega) ?_; intro v11 w11 hown hst; have HO11 := Lib.hid hown; have HST11 := Lib.hid hst; clear hown hst)
                                      have HM11 := Lib.hid (HM10.out.stepWay (v' := v11) (way' := rest ++ s1.outF) (by rw [fcells_app, List.length_append]; exact HO11.out) HST11.out)
                                      go_meet
                                      case rel => exact OnceRel.intro_ HM11.out (G1.out.mono (by omega) (by omega))
                                    · have t1 : (f.To == 1) = false := beq_eq_false_iff_ne.2 ht
                                      rw [if_neg ht] at hts
                                      have hT := HLN.out.sys.swap.okT hmem (HLN.out.toB hmem ht)
                                      have hro := (HLN.out.sys.swap.take hmem (HLN.out.toB hmem ht) (rest := rest) hrm).room
                                      have g1 := HLN.out.takeB hmem ht hrm hrl
                                      simp only [hts] at g1 hro
                                      have hoF := outF_le s1 hro
                                      have htl : heard.length + T.length ≤ 150 := by have := g1.prefixes.2.1; rw [List.length_append] at this; omega
                                      have G1 := Lib.hid g1
                                      have HTS := Lib.hid hts
                                      clear g1 hts hmem ht hrm
                                      go_wp2_with fail
                                      refine (take_as (d := 11) (f := f) (T := T) (s' := s1) HOM2.out.two.sb HOM2.out.two.fut (by omega) (by omega) (by omega) hT.out hT.From hT.To hT.Mine hT.yours hT.Yours hT.Seq hT.heard hT.ahead hT.Data HTS.out).mono ?_
                                      rintro e w8 ⟨A8, cap8, o8, rfl, hl8, hcap8, hs8, hst8⟩
                                      have HM8 := Lib.hid (HOM2.out.stepB hs8 hst8)
                                      have HL8 := Lib.hid hl8
                                      clear hs8 hst8 hl8 x0 x1 x2 x3 x4 x5 x6 x7 hT
                                      go_wp2_with (at_builtin; refine wpList_append_S _ rfl (.tmp 100) (.tmp 101) 27 rfl 9 i0 _ 1 16 Try.underlying27 hi0 hz0 hz1 hz2 rfl (by omega) (.slice Ah heard.length caph) heard.length (heard.map Value.string) rfl HM8.out.heard A8 T.length cap8 (T.map Value.string) rfl (Reads.of_own HL8.out.1) (str_one T) (by unfold maxLen; omega) (by omega) ?_; intro v9 w9 hown hst hg hat; have HO9 := Lib.hid hown; have HST9 := Lib.hid hst; clear hown hst hg hat)
                                      have HM9 := Lib.hid (HM8.out.stepHeard (v' := v9) (G := heard ++ T) (by rw [List.map_append, List.length_append]; exact HO9.out) HST9.out)
                                      refine (out_as (d := 10) (F := s1.outF) (s' := s1.outS) HM9.out.two.sb HM9.out.two.fut (by omega) (by omega) (by omega) hro rfl rfl).mono ?_
                                      rintro e w10 ⟨A10, cap10, o10, rfl, hl10, hcap10, hs10, hst10⟩
                                      have HM10 := Lib.hid (HM9.out.stepB hs10 hst10)
                                      have HL10 := Lib.hid hl10
                                      clear hs10 hst10 hl10
                                      go_wp2_with (at_builtin; refine wpList_append_W _ rfl (.tmp 103) (.tmp 105) 26 rfl 34 i1 _ 8 72 Try.underlying26 hj0 hj1 hj2 hj3 rfl (by omega) (.slice A6 rest.length cap6) rest.length (fcells rest) rfl HM10.out.way A10 s1.outF.length cap10 (fcells s1.outF) rfl (Reads.of_own HL10.out.1) (fcells_one _) (by unfold maxLen; omega) (by omega) ?_; intro v11 w11 hown hst; have HO11 := Lib.hid hown; have HST11 := Lib.hid hst; clear hown hst)
                                      have HM11 := Lib.hid (HM10.out.stepWay (v' := v11) (way' := rest ++ s1.outF) (by rw [fcells_app, List.length_append]; exact HO11.out) HST11.out)
                                      go_meet
                                      case rel => exact OnceRel.intro_ HM11.out (G1.out.mono (by omega) (by omega))
            case rest =>
              clear x0 x2 xB hp1 hp2 hdl hsl hroa hrob hla hlb hL hL2 hwl hwI
              obtain ⟨o4, pa, pb, L, a, b, way, sent, got, down, heard, rfl, rfl, rfl, hom, hln⟩ := hcut
              as_aux_lemma => -- @end
                obtain ⟨As, caps, rfl, _, _⟩ := own_form hom.sent
                obtain ⟨Ag, capg, rfl, hcg, _⟩ := own_form hom.got
                obtain ⟨Ad, capd, rfl, _, _⟩ := own_form hom.down
                obtain ⟨Ah, caph, rfl, hch, _⟩ := own_form hom.heard
                obtain ⟨hp1, hp2, hp3, hp4⟩ := hln.prefixes
                have hdl : down.length ≤ 150 := hln.sys.nx.1
                have hsl : sent.length ≤ 150 := hln.sys.ny.1
                have hrs : Reads wc 1 As got.length (got.map Value.string) := by
                  have := (Reads.of_own hom.sent.1).take hp1
                  rwa [Nat.mul_one, ← List.map_take, hp3] at this
                have hrd : ∀ n, Reads (wc.drewN n) 1 Ad heard.length (heard.map Value.string) := fun n => by
                  have := (Reads.of_own hom.down.1).take hp2
                  rwa [Nat.mul_one, ← List.map_take, hp4] at this
                have hp1I : (got.length : Int) ≤ (sent.length : Int) := by omega
                have hp2I : (heard.length : Int) ≤ (down.length : Int) := by omega
                have hcs : (sent.length : Int) ≤ (caps : Int) := by omega
                have hcd : (down.length : Int) ≤ (capd : Int) := by omega
                have hcs2 : got.length ≤ caps := by omega
                have hcd2 : heard.length ≤ capd := by omega
                have HOM4 := Lib.hid hom
                have HLN4 := Lib.hid hln
                have HRS := Lib.hid hrs
                have HRD := Lib.hid hrd
                clear hom hln hp3 hp4 hrs hrd
                go_wp2_with fail
                refine (same_yes wc Ag As capg caps got (Reads.of_own HOM4.out.got.1) HRS.out (by omega)).mono ?_
                rintro e w5 ⟨rfl, n5, rfl⟩
                go_wp2_with fail
                refine (same_yes (wc.drewN n5) Ah Ad caph capd heard (Reads.of_own (HOM4.out.drewN n5).heard.1) (HRD.out n5) (by omega)).mono ?_
                rintro e w6 ⟨rfl, n6, rfl⟩
                go_wp2_with fail
                go_roundg (l.length - (k + 1))
                case measure => have := HNK.out; omega
                case rel => exact ⟨o4, k + 1, pa, pb, L, a, b, way, sent, got, down, heard, by omega, rfl, rfl, rfl, by go_num, HOM4.out.drewN (n5 + n6), HLN4.out⟩
      · as_aux_lemma => -- @calm
          have hltI : ¬ (k : Int) < (l.length : Int) := by omega
          obtain ⟨As, caps, rfl, _, _⟩ := own_form hom.sent
          obtain ⟨Ad, capd, rfl, _, _⟩ := own_form hom.down
          have hrel0 : Ln L a b way sent got down heard 150 19712 := hln.mono (by omega) (by omega)
          have HOM := Lib.hid hom
          have HLN := Lib.hid hrel0
          have hsl : sent.length ≤ 150 := hrel0.sys.ny.1
          have hdl : down.length ≤ 150 := hrel0.sys.nx.1
          clear hom hln hrel0 H2 hnk
          go_wp2_with fail
          go_loopg [6, 8, 10, 19] 60 (fun n t6 t8 t10 t19 wr => ∃ (o : Nat → Nat) (j : Nat) (a b : St) (way : List Fr) (got heard : List ByteArray), n + j = 60 ∧ t19 = .int .i64 j ∧ Om o w wr pa a pb b t6 way (.slice As sent.length caps) sent t8 got (.slice Ad down.length capd) down t10 heard ∧ Ln L a b way sent got down heard 150 19712 ∧ Calm j a b way ∧ (j = 0 ∨ way = []))
          case atStart => exact ⟨o3, 0, a, b, way, got, heard, by omega, rfl, HOM.out, HLN.out, ⟨J.start HLN.out.sys.xy.snd, J.start HLN.out.sys.yx.snd⟩, .inl rfl⟩
          case round =>
            clear HOM HLN
            obtain ⟨o3, j, a, b, way, got, heard, hnj, rfl, hom, hln, hcalm, hz0'⟩ := hrel
            have HNJ := Lib.hid hnj
            have HZ0 := Lib.hid hz0'
            obtain ⟨Aw, capw, rfl, _, hcw⟩ := hom.way.form
            obtain ⟨Ag, capg, rfl, _, _⟩ := own_form hom.got
            obtain ⟨Ah, caph, rfl, _, _⟩ := own_form hom.heard
            have hwl : way.length ≤ 5000 := by have := hln.way_le; omega
            have hroa : a.out.length ≤ 64 := hln.sys.xy.snd.room
            have hrob : b.out.length ≤ 64 := hln.sys.yx.snd.room
            have HOM1 := Lib.hid hom
            have HLN := Lib.hid hln
            have HCA := Lib.hid hcalm
            clear hom hln hcalm hnj hz0'
            unfold maxLen at hcw
            by_cases hj : j < 60
            · have hjI : (j : Int) < 60 := by omega
              have hage := HLN.out.sys.xy.snd.age
              have hage2 := HLN.out.sys.yx.snd.age
              have HAGE := Lib.hid hage
              have HAGE2 := Lib.hid hage2
              clear hage hage2
              have hlF := outF_le a.tickS (by simpa [St.tickS] using hroa)
              have hlG := outF_le b.tickS (by simpa [St.tickS] using hrob)
              go_wp2_with fail
              refine (tick_as (d := 10) (F := a.tickS.outF) (s' := a.tickS.outS) HOM1.out.two.sa HOM1.out.two.fut (by omega) (by omega) (by omega) hroa (fun x hx => by have := HAGE.out x hx; omega) rfl rfl).mono ?_
              rintro e w4 ⟨A4, cap4, o4, rfl, hl4, hcap4, hs4, hst4⟩
              have HM4 := Lib.hid (HOM1.out.stepA hs4 hst4)
              have HL4 := Lib.hid hl4
              clear hs4 hst4 hl4
              go_wp2_with (at_builtin; refine wpList_append_W _ rfl (.tmp 229) (.tmp 231) 26 rfl 34 i1 _ 8 72 Try.underlying26 hj0 hj1 hj2 hj3 rfl (by omega) (.slice Aw way.length capw) way.length (fcells way) rfl HM4.out.way A4 a.tickS.outF.length cap4 (fcells a.tickS.outF) rfl (Reads.of_own HL4.out.1) (fcells_one _) (by unfold maxLen; omega) (by omega) ?_; intro v5 w5 hown hst; have HOWN5 := Lib.hid hown; have HST5 := Lib.hid hst; clear hown hst)
              have HM5 := Lib.hid (HM4.out.stepWay (v' := v5) (way' := way ++ a.tickS.outF) (by rw [fcells_app, List.length_append]; exact HOWN5.out) HST5.out)
              refine (tick_as (d := 10) (F := b.tickS.outF) (s' := b.tickS.outS) HM5.out.two.sb HM5.out.two.fut (by omega) (by omega) (by omega) hrob (fun x hx => by have := HAGE2.out x hx; omega) rfl rfl).mono ?_
              rintro e w6 ⟨A6, cap6, o6, rfl, hl6, hcap6, hs6, hst6⟩
              have HM6 := Lib.hid (HM5.out.stepB hs6 hst6)
              have HL6 := Lib.hid hl6
              clear hs6 hst6 hl6
              go_wp2_with (at_builtin; refine wpList_append_W _ rfl (.tmp 233) (.tmp 235) 26 rfl 34 i1 _ 8 72 Try.underlying26 hj0 hj1 hj2 hj3 rfl (by omega) v5 (way ++ a.tickS.outF).length (fcells (way ++ a.tickS.outF)) rfl HM6.out.way A6 b.tickS.outF.length cap6 (fcells b.tickS.outF) rfl (Reads.of_own HL6.out.1) (fcells_one _) (by rw [List.length_append]; unfold maxLen; omega) (by rw [List.length_append]; omega) ?_; intro v7 w7 hown hst; have HOWN7 := Lib.hid hown; have HST7 := Lib.hid hst; clear hown hst)
              have h9 := HM6.out.stepWay (v' := v7) (way' := way ++ a.tickS.outF ++ b.tickS.outF) (by rw [fcells_app, List.length_append]; exact HOWN7.out) HST7.out
              obtain ⟨g9, g8⟩ := HLN.out.calmTick HCA.out
              have H9 := Lib.hid h9
              have G9 := Lib.hid g9
              have G8 := Lib.hid g8
              clear h9 g9 g8
              go_loopg [6, 8, 10] (left L a.tickS.outS b.tickS.outS (way ++ a.tickS.outF ++ b.tickS.outF)) (fun n t6 t8 t10 wr => ∃ (o : Nat → Nat) (a b : St) (way : List Fr) (got heard : List ByteArray), n = left L a b way ∧ Om o w wr pa a pb b t6 way (.slice As sent.length caps) sent t8 got (.slice Ad down.length capd) down t10 heard ∧ Ln L a b way sent got down heard 150 19840 ∧ Calm (j + 1) a b way)
              case atStart => exact ⟨_, _, _, _, got, heard, rfl, H9.out, G9.out, G8.out⟩
              case round =>
                clear HM4 HL4 HOWN5 HST5 HM5 HM6 HL6 HOWN7 HST7 H9 G9 G8 HOM1 HLN HCA HAGE HAGE2 hlF hlG hwl hroa hrob hcw
                obtain ⟨o3, a, b, way, got, heard, hnl, hom, hln, hcalm⟩ := hrel
                obtain ⟨Aw, capw, rfl, hcw0, hcw⟩ := hom.way.form
                obtain ⟨Ag, capg, rfl, _, _⟩ := own_form hom.got
                obtain ⟨Ah, caph, rfl, _, _⟩ := own_form hom.heard
                unfold maxLen at hcw
                have hwl : 4 * way.length ≤ 19840 := hln.way_le
                have HNL := Lib.hid hnl
                have HOM := Lib.hid hom
                have HLN := Lib.hid hln
                have HCA := Lib.hid hcalm
                clear hnl hom hln hcalm
                by_cases hw0 : 0 < way.length
                · have hw0I : (0 : Int) < (way.length : Int) := by omega
                  have hw5I : (way.length : Int) < 5000 := by omega
                  have hleI : (way.length : Int) ≤ (capw : Int) := by omega
                  obtain ⟨gw, offw, hAw, hgw, hcgw, hle, hcells⟩ := HOM.out.way.open_ hw0
                  subst hAw
                  obtain ⟨f, hf⟩ : ∃ f, way[0]? = some f := ⟨_, List.getElem?_eq_getElem hw0⟩
                  have hcons : way = f :: way.drop 1 := by
                    cases way with
                    | nil => simp at hw0
                    | cons g r => simp at hf; subst hf; rfl
                  have z0 := hcells _ _ (fcells_get hf (i := 0) rfl)
                  have z1 := hcells _ _ (fcells_get hf (i := 1) rfl)
                  have z2 := hcells _ _ (fcells_get hf (i := 2) rfl)
                  have z3 := hcells _ _ (fcells_get hf (i := 3) rfl)
                  have z4 := hcells _ _ (fcells_get hf (i := 4) rfl)
                  have z5 := hcells _ _ (fcells_get hf (i := 5) rfl)
                  have z6 := hcells _ _ (fcells_get hf (i := 6) rfl)
                  have z7 := hcells _ _ (fcells_get hf (i := 7) rfl)
                  simp only [Nat.zero_mul, Nat.zero_add, Nat.add_zero] at z0 z1 z2 z3 z4 z5 z6 z7
                  have hrl : (way.drop 1).length + 1 = way.length := by rw [List.length_drop]; omega
                  have hfc : fcells (way.drop 1) = (fcells way).drop 8 := (fcells_drop way 1).symm
                  have HFC := Lib.hid hfc
                  have gln : Ln L a b (f :: way.drop 1) sent got down heard 150 19840 := by rw [← hcons]; exact HLN.out
                  have gca : Calm (j + 1) a b (f :: way.drop 1) := by rw [← hcons]; exact HCA.out
                  have glt : left L a b (f :: way.drop 1) = left L a b way := by rw [← hcons]
                  have GLN := Lib.hid gln
                  have GCA := Lib.hid gca
                  have GLT := Lib.hid glt
                  clear hf hcells hfc gln gca glt hcons
                  go_upto_region 59 with (fail)
                  clear z0 z1 z2 z3 z4 z5 z6 z7
                  have hom1 := HOM.out.alloc (.cells #[.int .i64 f.From, .int .i64 f.To, .int .i64 f.Mine, .int .i64 f.Yours, .int .i64 f.Seq, .int .i64 f.Ack, .string f.Data, .bool f.Has] 34)
                  have hbx := Blk.new wr 34 #[.int .i64 f.From, .int .i64 f.To, .int .i64 f.Mine, .int .i64 f.Yours, .int .i64 f.Seq, .int .i64 f.Ack, .string f.Data, .bool f.Has]
                  have hoB : o3 wr.heap.size = 0 := HOM.out.two.fut.at_
                  generalize wr.alloc (.cells #[.int .i64 f.From, .int .i64 f.To, .int .i64 f.Mine, .int .i64 f.Yours, .int .i64 f.Seq, .int .i64 f.Ack, .string f.Data, .bool f.Has] 34) = W at hom1 hbx ⊢
                  generalize wr.heap.size = B at hbx hoB hgw ⊢
                  have x0 := hbx.cell 0
                  have x1 := hbx.cell 1
                  have x2 := hbx.cell 2
                  have x3 := hbx.cell 3
                  have x4 := hbx.cell 4
                  have x5 := hbx.cell 5
                  have x6 := hbx.cell 6
                  have x7 := hbx.cell 7
                  simp at x0 x1 x2 x3 x4 x5 x6 x7
                  have HOM1 := Lib.hid hom1
                  clear hom1 hbx hoB
                  go_cut [6] from 237 to 278 (fun v wx => OwnW o3 20 wx 34 8 v (way.length - 1) ((fcells way).drop 8) ∧ W = wx)
                  case first =>
                    as_aux_lemma => -- @tl
                      have hown := OwnW.tail HOM1.out.way hw0
                      by_cases hc1 : capw = 1
                      · rw [if_pos hc1] at hown
                        subst hc1
                        have e0 : way.length - 1 = 0 := by omega
                        have hown2 : OwnW o3 20 W 34 8 (.slice (some ⟨gw, offw, none⟩) 0 0) (way.length - 1) ((fcells way).drop 8) := by
                          rw [e0] at hown ⊢
                          exact hown
                        have HO := Lib.hid hown2
                        clear hown hown2 e0 x0 x1 x2 x3 x4 x5 x6 x7
                        go_wp2_with fail
                        go_meet
                        case rel => exact ⟨HO.out, rfl⟩
                      · rw [if_neg hc1] at hown
                        have HO := Lib.hid hown
                        clear hown x0 x1 x2 x3 x4 x5 x6 x7
                        go_wp2_with fail
                        go_meet
                        case rel => exact ⟨HO.out, rfl⟩
                  case rest =>
                    obtain ⟨hv6, rfl⟩ := hcut
                    have hom2 : Om o3 w W pa a pb b u6 (way.drop 1) (.slice As sent.length caps) sent (.slice Ag got.length capg) got (.slice Ad down.length capd) down (.slice Ah heard.length caph) heard :=
                      HOM1.out.stepWay (by rw [List.length_drop, HFC.out]; exact hv6) ((Step.refl o3 (only 20) W))
                    obtain ⟨A6, cap6, rfl, _, _⟩ := hom2.way.form
                    have HOM2 := Lib.hid hom2
                    clear hom2 hv6
                    generalize hrest : way.drop 1 = rest at HOM2 GLN GCA GLT hrl
                    clear hrest
                    obtain ⟨T, s1, hts⟩ : ∃ T s', (if f.To = 1 then a.takeF f else b.takeF f) = (T, s') := ⟨_, _, rfl⟩
                    by_cases ht : f.To = 1
                    · have t1 : (f.To == 1) = true := by rw [ht]; rfl
                      as_aux_lemma => -- @ca
                        rw [if_pos ht] at hts
                        have hmem : f ∈ f :: rest := List.mem_cons_self ..
                        have hT := GLN.out.sys.okT hmem (ht.trans GLN.out.a1.symm)
                        have hro := (GLN.out.sys.take hmem (ht.trans GLN.out.a1.symm) (rest := rest) (fun g hg => List.mem_cons_of_mem _ hg)).room
                        obtain ⟨g1, g2, g3⟩ := GLN.out.calmA GCA.out ht
                        simp only [hts] at g1 g2 g3 hro
                        have hoF := outF_le s1 hro
                        have htl : got.length + T.length ≤ 150 := by have := g1.prefixes.1; rw [List.length_append] at this; omega
                        have G1 := Lib.hid g1
                        have G2 := Lib.hid g2
                        have G3 := Lib.hid g3
                        have HTS := Lib.hid hts
                        clear g1 g2 g3 hts hmem ht
                        go_wp2_with fail
                        refine (take_as (d := 11) (f := f) (T := T) (s' := s1) HOM2.out.two.sa HOM2.out.two.fut (by omega) (by omega) (by omega) hT.out hT.From hT.To hT.Mine hT.yours hT.Yours hT.Seq hT.heard hT.ahead hT.Data HTS.out).mono ?_
                        rintro e w8 ⟨A8, cap8, o8, rfl, hl8, hcap8, hs8, hst8⟩
                        have HM8 := Lib.hid (HOM2.out.stepA hs8 hst8)
                        have HL8 := Lib.hid hl8
                        clear hs8 hst8 hl8 x0 x1 x2 x3 x4 x5 x6 x7 hT
                        go_wp2_with (at_builtin; refine wpList_append_S _ rfl (.tmp 259) (.tmp 260) 27 rfl 9 i0 _ 1 16 Try.underlying27 hi0 hz0 hz1 hz2 rfl (by omega) (.slice Ag got.length capg) got.length (got.map Value.string) rfl HM8.out.got A8 T.length cap8 (T.map Value.string) rfl (Reads.of_own HL8.out.1) (str_one T) (by unfold maxLen; omega) (by omega) ?_; intro v9 w9 hown hst hg hat; have HO9 := Lib.hid hown; have HST9 := Lib.hid hst; clear hown hst hg hat)
                        have HM9 := Lib.hid (HM8.out.stepGot (v' := v9) (G := got ++ T) (by rw [List.map_append, List.length_append]; exact HO9.out) HST9.out)
                        refine (out_as (d := 10) (F := s1.outF) (s' := s1.outS) HM9.out.two.sa HM9.out.two.fut (by omega) (by omega) (by omega) hro rfl rfl).mono ?_
                        rintro e w10 ⟨A10, cap10, o10, rfl, hl10, hcap10, hs10, hst10⟩
                        have HM10 := Lib.hid (HM9.out.stepA hs10 hst10)
                        have HL10 := Lib.hid hl10
                        clear hs10 hst10 hl10
                        go_wp2_with (at_builtin; refine wpList_append_W _ rfl (.tmp 262) (.tmp 264) 26 rfl 34 i1 _ 8 72 Try.underlying26 hj0 hj1 hj2 hj3 rfl (by omega) (.slice A6 rest.length cap6) rest.length (fcells rest) rfl HM10.out.way A10 s1.outF.length cap10 (fcells s1.outF) rfl (Reads.of_own HL10.out.1) (fcells_one _) (by unfold maxLen; omega) (by omega) ?_; intro v11 w11 hown hst; have HO11 := Lib.hid hown; have HST11 := Lib.hid hst; clear hown hst)
                        have HM11 := Lib.hid (HM10.out.stepWay (v' := v11) (way' := rest ++ s1.outF) (by rw [fcells_app, List.length_append]; exact HO11.out) HST11.out)
                        go_roundg (left L s1.outS b (rest ++ s1.outF))
                        case measure => have := G3.out; have := GLT.out; have := HNL.out; omega
                        case rel => exact ⟨_, _, _, _, _, _, rfl, HM11.out, G1.out, G2.out⟩
                    · have t1 : (f.To == 1) = false := beq_eq_false_iff_ne.2 ht
                      as_aux_lemma => -- @cb
                        rw [if_neg ht] at hts
                        have hmem : f ∈ f :: rest := List.mem_cons_self ..
                        have hT := GLN.out.sys.swap.okT hmem (GLN.out.toB hmem ht)
                        have hro := (GLN.out.sys.swap.take hmem (GLN.out.toB hmem ht) (rest := rest) (fun g hg => List.mem_cons_of_mem _ hg)).room
                        obtain ⟨g1, g2, g3⟩ := GLN.out.calmB GCA.out ht
                        simp only [hts] at g1 g2 g3 hro
                        have hoF := outF_le s1 hro
                        have htl : heard.length + T.length ≤ 150 := by have := g1.prefixes.2.1; rw [List.length_append] at this; omega
                        have G1 := Lib.hid g1
                        have G2 := Lib.hid g2
                        have G3 := Lib.hid g3
                        have HTS := Lib.hid hts
                        clear g1 g2 g3 hts hmem ht
                        go_wp2_with fail
                        refine (take_as (d := 11) (f := f) (T := T) (s' := s1) HOM2.out.two.sb HOM2.out.two.fut (by omega) (by omega) (by omega) hT.out hT.From hT.To hT.Mine hT.yours hT.Yours hT.Seq hT.heard hT.ahead hT.Data HTS.out).mono ?_
                        rintro e w8 ⟨A8, cap8, o8, rfl, hl8, hcap8, hs8, hst8⟩
                        have HM8 := Lib.hid (HOM2.out.stepB hs8 hst8)
                        have HL8 := Lib.hid hl8
                        clear hs8 hst8 hl8 x0 x1 x2 x3 x4 x5 x6 x7 hT
                        go_wp2_with (at_builtin; refine wpList_append_S _ rfl (.tmp 272) (.tmp 273) 27 rfl 9 i0 _ 1 16 Try.underlying27 hi0 hz0 hz1 hz2 rfl (by omega) (.slice Ah heard.length caph) heard.length (heard.map Value.string) rfl HM8.out.heard A8 T.length cap8 (T.map Value.string) rfl (Reads.of_own HL8.out.1) (str_one T) (by unfold maxLen; omega) (by omega) ?_; intro v9 w9 hown hst hg hat; have HO9 := Lib.hid hown; have HST9 := Lib.hid hst; clear hown hst hg hat)
                        have HM9 := Lib.hid (HM8.out.stepHeard (v' := v9) (G := heard ++ T) (by rw [List.map_append, List.length_append]; exact HO9.out) HST9.out)
                        refine (out_as (d := 10) (F := s1.outF) (s' := s1.outS) HM9.out.two.sb HM9.out.two.fut (by omega) (by omega) (by omega) hro rfl rfl).mono ?_
                        rintro e w10 ⟨A10, cap10, o10, rfl, hl10, hcap10, hs10, hst10⟩
                        have HM10 := Lib.hid (HM9.out.stepB hs10 hst10)
                        have HL10 := Lib.hid hl10
                        clear hs10 hst10 hl10
                        go_wp2_with (at_builtin; refine wpList_append_W _ rfl (.tmp 275) (.tmp 277) 26 rfl 34 i1 _ 8 72 Try.underlying26 hj0 hj1 hj2 hj3 rfl (by omega) (.slice A6 rest.length cap6) rest.length (fcells rest) rfl HM10.out.way A10 s1.outF.length cap10 (fcells s1.outF) rfl (Reads.of_own HL10.out.1) (fcells_one _) (by unfold maxLen; omega) (by omega) ?_; intro v11 w11 hown hst; have HO11 := Lib.hid hown; have HST11 := Lib.hid hst; clear hown hst)
                        have HM11 := Lib.hid (HM10.out.stepWay (v' := v11) (way' := rest ++ s1.outF) (by rw [fcells_app, List.length_append]; exact HO11.out) HST11.out)
                        go_roundg (left L a s1.outS (rest ++ s1.outF))
                        case measure => have := G3.out; have := GLT.out; have := HNL.out; omega
                        case rel => exact ⟨_, _, _, _, _, _, rfl, HM11.out, G1.out, G2.out⟩
                · have hw0I : ¬ (0 : Int) < (way.length : Int) := by omega
                  have hnil : way = [] := List.eq_nil_of_length_eq_zero (by omega)
                  have HNIL := Lib.hid hnil
                  clear hnil
                  as_aux_lemma => -- @cx
                    go_wp2_with fail
                    go_roundg (60 - (j + 1))
                    case measure => have := HNJ.out; omega
                    case rel =>
                      have h1 := HLN.out
                      rw [HNIL.out] at h1
                      refine ⟨o3, j + 1, a, b, way, got, heard, by omega, by go_num, HOM.out, ?_, HCA.out, .inr HNIL.out⟩
                      rw [HNIL.out]
                      exact h1.empty.mono (Nat.le_refl _) (by omega)
            · have hjI : ¬ (j : Int) < 60 := by omega
              have hwn : way = [] := by
                rcases HZ0.out with h1 | h1
                · omega
                · exact h1
              subst hwn
              obtain ⟨d1, d2, d3, d4, d5, d6⟩ := HLN.out.done HCA.out (by omega)
              have hage := HLN.out.sys.xy.snd.age
              have hage2 := HLN.out.sys.yx.snd.age
              as_aux_lemma => -- @fin
                subst d1 d2
                have HAGE := Lib.hid hage
                have HAGE2 := Lib.hid hage2
                have D3 := Lib.hid d3
                have D4 := Lib.hid d4
                have D5 := Lib.hid d5
                have D6 := Lib.hid d6
                clear hage hage2 d3 d4 d5 d6
                go_wp2_with fail
                refine (alive_any _).mono ?_
                rintro e w5 ⟨rfl, hb5⟩
                have HM5 := Lib.hid (HOM1.out.below_ hb5)
                clear hb5
                go_wp2_with fail
                refine (same_yes _ Ag As capg caps got (Reads.of_own HM5.out.got.1) (Reads.of_own HM5.out.sent.1) (by omega)).mono ?_
                rintro e w6 ⟨rfl, n6, rfl⟩
                go_wp2_with fail
                refine (same_yes _ Ah Ad caph capd heard (Reads.of_own (HM5.out.drewN n6).heard.1) (Reads.of_own (HM5.out.drewN n6).down.1) (by omega)).mono ?_
                rintro e w7 ⟨rfl, n7, rfl⟩
                have HM7 := Lib.hid (HM5.out.drewN (n6 + n7))
                go_wp2_with fail
                refine (waiting_any HM7.out.two.sa).mono ?_
                rintro e w8 ⟨rfl, rfl⟩
                rw [D3.out]
                go_wp2_with fail
                refine (waiting_any HM7.out.two.sb).mono ?_
                rintro e w9 ⟨rfl, rfl⟩
                rw [D4.out]
                go_wp2_with fail
                refine (tick_as (d := 10) (F := []) (s' := a.tickS.outS) HM7.out.two.sa HM7.out.two.fut (by omega) (by omega) (by omega) hroa (fun x hx => by have := HAGE.out x hx; omega) D5.out rfl).mono ?_
                rintro e w10 ⟨A10, cap10, o10, rfl, hl10, hcap10, hs10, hst10⟩
                have HM10 := Lib.hid (HM7.out.stepA hs10 hst10)
                clear hs10 hst10 hl10
                go_wp2_with fail
                refine (tick_as (d := 10) (F := []) (s' := b.tickS.outS) HM10.out.two.sb HM10.out.two.fut (by omega) (by omega) (by omega) hrob (fun x hx => by have := HAGE2.out x hx; omega) D6.out rfl).mono ?_
                rintro e w11 ⟨A11, cap11, o11, rfl, hl11, hcap11, hs11, hst11⟩
                have HM11 := Lib.hid (HM10.out.stepB hs11 hst11)
                clear hs11 hst11 hl11
                go_wp2_with fail
                go_ret
                exact ⟨rfl, HM11.out.two.low⟩
end Go.Proofs.Ytoegkgebmldhaaa
