/- The disk in memory, as a plain structure; what its small methods tell. -/
import Derived.Test.YtianlhigeabehaaGreatDoorKMapR
import Derived.Test.YtianlhigeabehaaGreatDoorKWin
import Derived.Test.YtianlhigeabehaaGreatDoorKCardBase
import Derived.Test.YtianlhigeabehaaGreatDoorKBase
namespace Go.Proofs.YtianlhigeabehaaGreatDoor
open Go.RowKit

/-- a sector that was written -/
structure Ws where
  node : Int
  at_ : Int
  seq : Int
  data : ByteArray
def Ws.cells (x : Ws) : List Value := [.int .i64 x.node, .int .i64 x.at_, .int .i64 x.seq, .string x.data]
def Ws.agg (x : Ws) : Value := .agg #[.int .i64 x.node, .int .i64 x.at_, .int .i64 x.seq, .string x.data]
/-- the disk -/
structure Dk where
  sectors : Nat
  on : Bool
  seq : Nat
  now : Int → Option ByteArray
  lasts : Int → Option Ws
  waits : List Ws
  table : Nat → Nat
  words : Nat → Nat
  last : Nat
  armed : Bool
  left : Int
  stays : List Int
def Dk.cells (D : Dk) (mn ml : Nat) (wv sv : Value) : Array Value :=
  #[.int .i64 D.sectors, .bool D.on, .int .i64 D.seq, .map (some mn), .map (some ml), wv,
    .int .u64 (D.table 0), .int .u64 (D.table 1), .int .u64 (D.table 2), .int .u64 (D.table 3), .int .u64 (D.table 4), .int .u64 (D.table 5), .int .u64 (D.table 6), .int .u64 (D.table 7), .int .u64 (D.table 8), .int .u64 (D.table 9), .int .u64 (D.table 10), .int .u64 (D.table 11), .int .u64 (D.table 12), .int .u64 (D.table 13), .int .u64 (D.table 14), .int .u64 (D.table 15), .int .u64 (D.table 16),
    .int .u64 (D.words 0), .int .u64 (D.words 1), .int .u64 (D.words 2), .int .u64 (D.words 3), .int .u64 (D.words 4), .int .u64 (D.words 5), .int .u64 (D.words 6), .int .u64 (D.words 7), .int .u64 (D.words 8), .int .u64 (D.words 9), .int .u64 (D.words 10), .int .u64 (D.words 11), .int .u64 (D.words 12), .int .u64 (D.words 13), .int .u64 (D.words 14), .int .u64 (D.words 15), .int .u64 (D.words 16),
    .int .u64 D.last, .bool D.armed, .int .i64 D.left, sv]
def intcells (l : List Int) : List Value := l.map (fun n => .int .i64 n)
/-- the disk at block p, of colours c to c + 4 -/
structure DiskIn (o : Nat → Nat) (c : Nat) (w : World) (p : Nat) (D : Dk) (mn ml : Nat) (wv sv : Value) : Prop where
  blk : Blk w p 93 (D.cells mn ml wv sv)
  col : o p = c
  now : MapR o (c + 1) w mn (fun k => (D.now k).map .string)
  lasts : MapR o (c + 2) w ml (fun k => (D.lasts k).map Ws.agg)
  waits : OwnW o (c + 3) w 138 4 wv D.waits.length (D.waits.flatMap Ws.cells)
  stays : OwnW o (c + 4) w 3 1 sv D.stays.length (intcells D.stays)
def DiskAt (o : Nat → Nat) (c : Nat) (w : World) (p : Nat) (D : Dk) : Prop := ∃ mn ml wv sv, DiskIn o c w p D mn ml wv sv
/-- the colours of a disk; c + 5: a row that is under way -/
def six (c : Nat) : Nat → Prop := fun x => c ≤ x ∧ x ≤ c + 5
section
variable {o o' : Nat → Nat} {c p : Nat} {C : Nat → Prop} {w w' : World} {D : Dk} {mn ml : Nat} {wv sv : Value}
theorem DiskIn.step (h : DiskIn o c w p D mn ml wv sv) (hs : Step o C w o' w') (hc : ∀ x, c ≤ x → x ≤ c + 4 → ¬ C x) : DiskIn o' c w' p D mn ml wv sv :=
  ⟨h.blk.step hs (by rw [h.col]; exact hc c (by omega) (by omega)), (hs.old p h.blk.lt).trans h.col, h.now.step hs (hc _ (by omega) (by omega)), h.lasts.step hs (hc _ (by omega) (by omega)), h.waits.step hs (hc _ (by omega) (by omega)), h.stays.step hs (hc _ (by omega) (by omega))⟩
theorem DiskAt.step (h : DiskAt o c w p D) (hs : Step o C w o' w') (hc : ∀ x, c ≤ x → x ≤ c + 4 → ¬ C x) : DiskAt o' c w' p D := by
  obtain ⟨mn, ml, wv, sv, h1⟩ := h
  exact ⟨mn, ml, wv, sv, h1.step hs hc⟩
theorem DiskAt.below_ (h : DiskAt o c w p D) (hb : Below w.heap.size w w') : DiskAt o c w' p D := h.step (Step.of_below o (fun _ => False) hb) (fun _ _ _ => id)
theorem DiskAt.alloc (h : DiskAt o c w p D) (x : Obj) : DiskAt o c (w.alloc x) p D := h.below_ ((Below.refl _ _).alloc (Nat.le_refl _) x)
theorem DiskAt.drewN (h : DiskAt o c w p D) (n : Nat) : DiskAt o c (w.drewN n) p D := h.below_ ⟨rfl, rfl, rfl, Nat.le_refl _, fun _ _ => rfl⟩
theorem DiskAt.drew (h : DiskAt o c w p D) : DiskAt o c w.drew p D := h.below_ ⟨rfl, rfl, rfl, Nat.le_refl _, fun _ _ => rfl⟩
theorem DiskIn.table (h : DiskIn o c w p D mn ml wv sv) (k : Nat) (hk : k ≤ 16) : w.cell? ⟨p, 6 + k, none⟩ = some (.int .u64 (D.table k)) := by
  rw [h.blk.cell]
  rcases k with _ | _ | _ | _ | _ | _ | _ | _ | _ | _ | _ | _ | _ | _ | _ | _ | _ | k <;> first | rfl | omega
theorem DiskIn.word (h : DiskIn o c w p D mn ml wv sv) (k : Nat) (hk : k ≤ 16) : w.cell? ⟨p, 23 + k, none⟩ = some (.int .u64 (D.words k)) := by
  rw [h.blk.cell]
  rcases k with _ | _ | _ | _ | _ | _ | _ | _ | _ | _ | _ | _ | _ | _ | _ | _ | _ | k <;> first | rfl | omega
end
theorem don_any {o : Nat → Nat} {c p : Nat} {w : World} {D : Dk} (h : DiskAt o c w p D) : Calls Tryz.prog 86 #[.pointer (some ⟨p, 0, none⟩)] w fun e w' => e = .returned (.bool D.on) ∧ w = w' := by
  obtain ⟨mn, ml, wv, sv, h1⟩ := h
  have c1 : w.cell? ⟨p, 1, none⟩ = some (.bool D.on) := h1.blk.cell 1
  clear h1
  go_enter Tryz.func86, Tryz.ntmps86
  go_wp2_with fail
  go_ret
  exact ⟨rfl, rfl⟩
theorem don_nil (w : World) : Calls Tryz.prog 86 #[.pointer none] w fun e w' => e = .returned (.bool false) ∧ w = w' := by
  go_enter Tryz.func86, Tryz.ntmps86
  go_wp2_with fail
  go_ret
  exact ⟨rfl, rfl⟩
/-- why a node can do nothing -/
def Dk.may (D : Dk) (node : Int) : Int := if D.on = false then 14 else if node < 0 ∨ 16 < node then 1 else 0
theorem dmay_any {o : Nat → Nat} {c p : Nat} {w : World} {D : Dk} (h : DiskAt o c w p D) (node : Int) : Calls Tryz.prog 43 #[.pointer (some ⟨p, 0, none⟩), .int .i64 node] w fun e w' => e = .returned (.int .i64 (D.may node)) ∧ w = w' := by
  have H := Lib.hid h
  clear h
  go_enter Tryz.func43, Tryz.ntmps43
  go_wp2_with fail
  refine (don_any H.out).mono ?_
  rintro e w1 ⟨rfl, rfl⟩
  cases hon : D.on with
  | false =>
    go_wp2_with fail
    go_ret
    exact ⟨by simp [Dk.may, hon], rfl⟩
  | true =>
    by_cases h0 : node < 0
    · go_wp2_with fail
      go_ret
      exact ⟨by simp [Dk.may, hon, h0], rfl⟩
    · by_cases h1 : 16 < node
      · go_wp2_with fail
        go_ret
        exact ⟨by simp [Dk.may, hon, h1], rfl⟩
      · go_wp2_with fail
        go_ret
        exact ⟨by simp [Dk.may, hon, h0, h1], rfl⟩
/-- are a node's writes admitted? -/
def Dk.admits (D : Dk) (node : Nat) (epoch : Nat) : Int := if epoch = 0 ∨ D.table node ≠ epoch then 34 else 0
theorem dadmits_any {o : Nat → Nat} {c p : Nat} {w : World} {D : Dk} (h : DiskAt o c w p D) (node epoch : Nat) (hn : node ≤ 16) : Calls Tryz.prog 85 #[.pointer (some ⟨p, 0, none⟩), .int .i64 node, .int .u64 epoch] w fun e w' => e = .returned (.int .i64 (D.admits node epoch)) ∧ w = w' := by
  obtain ⟨mn, ml, wv, sv, h1⟩ := h
  have ct := h1.table node hn
  have hnI : (node : Int) < 17 := by omega
  clear h1
  unfold Dk.admits
  generalize D.table node = tn at ct
  by_cases h0 : epoch = 0
  · have h0I : (epoch : Int) = 0 := by omega
    rw [if_pos (.inl h0)]
    go_enter Tryz.func85, Tryz.ntmps85
    go_wp2_with fail
    go_ret
    exact ⟨rfl, rfl⟩
  · have h0I : ¬ (epoch : Int) = 0 := by omega
    by_cases h2 : tn = epoch
    · subst h2
      rw [if_neg (by simp [h0])]
      go_enter Tryz.func85, Tryz.ntmps85
      go_wp2_with fail
      go_ret
      exact ⟨rfl, rfl⟩
    · have h2I : ((tn : Int) != (epoch : Int)) = true := by simp; omega
      rw [if_pos (.inr h2)]
      go_enter Tryz.func85, Tryz.ntmps85
      go_wp2_with fail
      go_ret
      exact ⟨rfl, rfl⟩
theorem dgoes_calm {o : Nat → Nat} {c p : Nat} {w : World} {D : Dk} (h : DiskAt o c w p D) (ha : D.armed = false) : Calls Tryz.prog 44 #[.pointer (some ⟨p, 0, none⟩)] w fun e w' => e = .returned (.bool false) ∧ w = w' := by
  obtain ⟨mn, ml, wv, sv, h1⟩ := h
  have c1 : w.cell? ⟨p, 41, none⟩ = some (.bool D.armed) := h1.blk.cell 41
  rw [ha] at c1
  clear h1
  go_enter Tryz.func44, Tryz.ntmps44
  go_wp2_with fail
  go_ret
  exact ⟨rfl, rfl⟩
theorem dlast_any {o : Nat → Nat} {c p : Nat} {w : World} {D : Dk} (h : DiskAt o c w p D) : Calls Tryz.prog 63 #[.pointer (some ⟨p, 0, none⟩)] w fun e w' => e = .returned (.int .u64 D.last) ∧ w = w' := by
  obtain ⟨mn, ml, wv, sv, h1⟩ := h
  have c1 : w.cell? ⟨p, 40, none⟩ = some (.int .u64 D.last) := h1.blk.cell 40
  clear h1
  go_enter Tryz.func63, Tryz.ntmps63
  go_wp2_with fail
  go_ret
  exact ⟨rfl, rfl⟩
theorem dsectors_any {o : Nat → Nat} {c p : Nat} {w : World} {D : Dk} (h : DiskAt o c w p D) : Calls Tryz.prog 60 #[.pointer (some ⟨p, 0, none⟩)] w fun e w' => e = .returned (.int .i64 D.sectors) ∧ w = w' := by
  obtain ⟨mn, ml, wv, sv, h1⟩ := h
  have c1 : w.cell? ⟨p, 0, none⟩ = some (.int .i64 D.sectors) := h1.blk.cell 0
  clear h1
  go_enter Tryz.func60, Tryz.ntmps60
  go_wp2_with fail
  go_ret
  exact ⟨rfl, rfl⟩
/-- are so many sectors there from one on? -/
def Dk.there (D : Dk) (at_ n : Int) : Bool := decide (0 ≤ at_ ∧ at_ ≤ D.sectors ∧ n ≤ D.sectors - at_)
theorem dthere_any {o : Nat → Nat} {c p : Nat} {w : World} {D : Dk} (h : DiskAt o c w p D) (at_ n : Int) (hs : D.sectors ≤ 20000) : Calls Tryz.prog 91 #[.pointer (some ⟨p, 0, none⟩), .int .i64 at_, .int .i64 n] w fun e w' => e = .returned (.bool (D.there at_ n)) ∧ w = w' := by
  obtain ⟨mn, ml, wv, sv, h1⟩ := h
  have c1 : w.cell? ⟨p, 0, none⟩ = some (.int .i64 D.sectors) := h1.blk.cell 0
  clear h1
  unfold Dk.there
  generalize D.sectors = S at c1 hs
  by_cases h0 : 0 ≤ at_
  · by_cases h1 : at_ ≤ (S : Int)
    · have hw : IntKind.i64.wrap ((S : Int) - at_) = (S : Int) - at_ := IntWalk.i64_in _ (by omega)
      by_cases h2 : n ≤ (S : Int) - at_
      · rw [decide_eq_true ⟨h0, h1, h2⟩]
        go_enter Tryz.func91, Tryz.ntmps91
        go_wp2_with fail
        go_ret
        exact ⟨rfl, rfl⟩
      · rw [decide_eq_false (fun h => h2 h.2.2)]
        go_enter Tryz.func91, Tryz.ntmps91
        go_wp2_with fail
        go_ret
        exact ⟨rfl, rfl⟩
    · rw [decide_eq_false (fun h => h1 h.2.1)]
      go_enter Tryz.func91, Tryz.ntmps91
      go_wp2_with fail
      go_ret
      exact ⟨rfl, rfl⟩
  · rw [decide_eq_false (fun h => h0 h.1)]
    go_enter Tryz.func91, Tryz.ntmps91
    go_wp2_with fail
    go_ret
    exact ⟨rfl, rfl⟩
end Go.Proofs.YtianlhigeabehaaGreatDoor

/- Slices of images, and of ints, that came in, opened. -/
namespace Go.Proofs.YtianlhigeabehaaGreatDoor
open Go.ChangeShapes Go.WideShapes Go.ChangeAt Go.RowKit Go.Joins Go.Deep

theorem leaves_img : leaves Tryz.prog 6 40 = some [.int .i64, .int .u64, .str] := by kernel_rfl
theorem cells_img : Tryz.prog.cellsOf 40 = 3 := by kernel_rfl
theorem leaves_int : leaves Tryz.prog 6 3 = some [.int .i64] := by kernel_rfl
theorem cells_int : Tryz.prog.cellsOf 3 = 1 := by kernel_rfl
theorem ints_flat (l : List Int) : l.flatMap (fun n : Int => [Value.int .i64 n]) = l.map (fun n : Int => Value.int .i64 n) := by
  induction l with
  | nil => rfl
  | cons a l ih => rw [List.flatMap_cons, ih]; rfl
section
variable {H : Type} {enc : TypeId × Value → H} {w : World} {base : Nat} {spare : Nat → Bool} {held : Bool}
set_option maxRecDepth 100000 in
theorem open_imgs {r : Reach} {b0 : Nat} {v : Value} {d : DataW H} {p : List MemPlace} (hv : Value.okWide Tryz.prog w r b0 22 v) (h : DataW.Trod enc Tryz.prog w base spare held 22 v d p) :
    ∃ (l : List Im) (A : Option Addr) (cap : Nat), v = .slice A l.length cap ∧ Reads w 3 A l.length (l.flatMap Im.cells) ∧ l.length ≤ cap ∧ cap ≤ maxLen ∧ ∀ i ∈ l, i.ver < 18446744073709551616 ∧ i.data.size ≤ maxLen ∧ -9223372036854775808 ≤ i.block ∧ i.block ≤ 9223372036854775807 := by
  obtain ⟨fuel, hf⟩ := h
  obtain ⟨A, len, cap, rfl⟩ := okWide_slice Tryz.underlying22 hv
  obtain ⟨L, h1, h2, h3, h4, h5⟩ := open_rows Tryz.underlying22 leaves_img cells_img (by decide) hf
  obtain ⟨l, e1, e2, e3⟩ := rows_list (f := Im.cells) (p := fun i : Im => i.ver < 18446744073709551616 ∧ i.data.size ≤ maxLen ∧ -9223372036854775808 ≤ i.block ∧ i.block ≤ 9223372036854775807) L (fun r hr => by
    obtain ⟨c0, r0, rfl, ⟨a0, rfl, w0⟩, k0⟩ := (h3 r hr).cons
    obtain ⟨c1, r1, rfl, ⟨a1, rfl, w1⟩, k1⟩ := k0.cons
    obtain ⟨c2, r2, rfl, ⟨s2, rfl, w2⟩, k2⟩ := k1.cons
    obtain rfl := k2.nil
    have b0 := wf_i64_in w0
    have b1 := wf_u64_in w1
    refine ⟨⟨a0, a1.toNat, s2⟩, ?_, show a1.toNat < _ by omega, w2, b0.1, b0.2⟩
    show _ = [Value.int .i64 a0, .int .u64 ((a1.toNat : Nat) : Int), .string s2]
    rw [show ((a1.toNat : Nat) : Int) = a1 by omega])
  have e4 : len = l.length := h1.symm.trans e2
  rw [e1] at h2
  subst e4
  exact ⟨l, A, cap, rfl, h2, h4, h5, e3⟩
set_option maxRecDepth 100000 in
theorem open_ints {r : Reach} {b0 : Nat} {v : Value} {d : DataW H} {p : List MemPlace} (hv : Value.okWide Tryz.prog w r b0 23 v) (h : DataW.Trod enc Tryz.prog w base spare held 23 v d p) :
    ∃ (l : List Int) (A : Option Addr) (cap : Nat), v = .slice A l.length cap ∧ Reads w 1 A l.length (intcells l) ∧ l.length ≤ maxLen ∧ ∀ n ∈ l, -9223372036854775808 ≤ n ∧ n ≤ 9223372036854775807 := by
  obtain ⟨fuel, hf⟩ := h
  obtain ⟨A, len, cap, rfl⟩ := okWide_slice Tryz.underlying23 hv
  obtain ⟨L, h1, h2, h3, h4, h5⟩ := open_rows Tryz.underlying23 leaves_int cells_int (by decide) hf
  obtain ⟨l, e1, e2, e3⟩ := rows_list (f := fun n : Int => [Value.int .i64 n]) (p := fun n => -9223372036854775808 ≤ n ∧ n ≤ 9223372036854775807) L (fun r hr => by
    obtain ⟨c0, r0, rfl, ⟨a0, rfl, w0⟩, k0⟩ := (h3 r hr).cons
    obtain rfl := k0.nil
    exact ⟨a0, rfl, wf_i64_in w0⟩)
  have e4 : len = l.length := h1.symm.trans e2
  have e5 : l.flatMap (fun n : Int => [Value.int .i64 n]) = intcells l := by
    unfold intcells
    exact ints_flat l
  rw [e1, e5] at h2
  subst e4
  exact ⟨l, A, cap, rfl, h2, by unfold maxLen at *; omega, e3⟩
end
end Go.Proofs.YtianlhigeabehaaGreatDoor

/- A slice of structs of a fixed number of cells, as a list: where each element's cells lie; two strings that differ. -/
namespace Go.Proofs.YtianlhigeabehaaGreatDoor
open Go.RowKit

theorem flat_len {α : Type} {f : α → List Value} {s : Nat} (hs : ∀ x, (f x).length = s) (l : List α) : (l.flatMap f).length = l.length * s := by
  induction l with
  | nil => simp
  | cons x r ih => rw [List.flatMap_cons, List.length_append, ih, hs, List.length_cons, Nat.add_mul]; omega
theorem flat_at {α : Type} {f : α → List Value} {s : Nat} (hs : ∀ x, (f x).length = s) {l : List α} {k : Nat} {y : α} (h : l[k]? = some y) {j : Nat} (hj : j < s) : (l.flatMap f)[k * s + j]? = (f y)[j]? := by
  induction l generalizing k with
  | nil => simp at h
  | cons x r ih =>
    rw [List.flatMap_cons]
    cases k with
    | zero =>
      simp at h
      subst h
      rw [List.getElem?_append_left (by rw [hs]; omega)]
      simp
    | succ k =>
      have h' : r[k]? = some y := by simpa using h
      have e : (k + 1) * s + j - s = k * s + j := by rw [Nat.add_mul]; omega
      rw [List.getElem?_append_right (by rw [hs, Nat.add_mul]; omega), hs, e]
      exact ih h'
theorem flat_one {α : Type} {f : α → List Value} (hf : ∀ x, ∀ u ∈ f x, u.oneCell' = true) (l : List α) : ∀ u ∈ l.flatMap f, u.oneCell' = true := by
  intro u hu
  obtain ⟨x, _, hx⟩ := List.mem_flatMap.1 hu
  exact hf x u hx
/-- an element's cells -/
theorem Reads.row {α : Type} {f : α → List Value} {s : Nat} (hs : ∀ x, (f x).length = s) {w : World} {A : Option Addr} {l : List α} (h : Reads w s A l.length (l.flatMap f)) {k : Nat} {y : α} (hy : l[k]? = some y) :
    ∃ ad, A = some ad ∧ ∀ j u, (f y)[j]? = some u → w.cell? ((ad.add (k * s)).add j) = some u := by
  have hk : k < l.length := (List.getElem?_eq_some_iff.1 hy).1
  obtain ⟨ad, rfl, hc⟩ := h.2 (by omega)
  refine ⟨ad, rfl, fun j u hu => ?_⟩
  rw [add_of_add]
  have hj : j < s := by have := (List.getElem?_eq_some_iff.1 hu).1; rwa [hs] at this
  exact hc _ u ((flat_at hs hy hj).trans hu)
theorem Reads.below {w w' : World} {A : Option Addr} {s n : Nat} {xs : List Value} (h : Reads w s A n xs) (hs : 0 < s) (hb : Below w.heap.size w w') : Reads w' s A n xs := by
  rcases Nat.eq_zero_or_pos n with h0 | h0
  · exact ⟨h.1, fun h1 => absurd h1 (by omega)⟩
  · exact h.keep_ (fun ad had => hb.block _ (h.lt hs ad h0 had))
theorem Reads.step {o o' : Nat → Nat} {C : Nat → Prop} {w w' : World} {A : Option Addr} {s n : Nat} {xs : List Value} (h : Reads w s A n xs) (hs : 0 < s) (hb : Step o C w o' w') (hc : ∀ ad, A = some ad → ¬ C (o ad.block)) : Reads w' s A n xs := by
  rcases Nat.eq_zero_or_pos n with h0 | h0
  · exact ⟨h.1, fun h1 => absurd h1 (by omega)⟩
  · exact h.keep_ (fun ad had => hb.block _ (h.lt hs ad h0 had) (hc ad had))
theorem toList_loop (b : ByteArray) (i : Nat) (r : List UInt8) : ByteArray.toList.loop b i r = r.reverse ++ b.data.toList.drop i := by
  unfold ByteArray.toList.loop
  split
  · rename_i h
    rw [toList_loop b (i + 1)]
    have h' : i < b.data.toList.length := h
    rw [List.drop_eq_getElem_cons h', List.reverse_cons, List.append_assoc]
    congr 2
    rw [List.singleton_append]
    congr 1
    show b.data[i]! = _
    rw [getElem!_pos b.data i h]
    rfl
  · rename_i h
    rw [List.drop_of_length_le (Nat.le_of_not_lt h), List.append_nil]
termination_by b.size - i
theorem toList_data (b : ByteArray) : b.toList = b.data.toList := by
  unfold ByteArray.toList
  rw [toList_loop]
  simp
theorem str_neq {a b : ByteArray} (h : a ≠ b) : (a.toList == b.toList) = false := by
  refine beq_eq_false_iff_ne.2 (fun e => h ?_)
  rw [toList_data, toList_data] at e
  cases a; cases b
  congr 1
  exact Array.toList_inj.1 e
end Go.Proofs.YtianlhigeabehaaGreatDoor
