/- The document's disk (commonsref8), not armed and on: Admit, Fence, Barrier. -/
import Derived.Test.YtianlhigeabehaaGreatDoorKLogE
namespace Go.Proofs.YtianlhigeabehaaGreatDoor
open Go.RowKit

structure RW where
  node : Int
  at_ : Int
  data : ByteArray
  lasts : Bool
def RW.cells (x : RW) : List Value := [.int .i64 x.node, .int .i64 x.at_, .string x.data, .bool x.lasts]
def rwcells (l : List RW) : List Value := l.flatMap RW.cells
structure RK where
  room : Nat
  ws : List RW
  table : Nat → Nat
  words : Nat → Nat
  last : Nat
def RK.cells (R : RK) (lv : Value) : Array Value :=
  #[.int .i64 R.room, lv, .bool false,
    .int .u64 (R.table 0), .int .u64 (R.table 1), .int .u64 (R.table 2), .int .u64 (R.table 3), .int .u64 (R.table 4), .int .u64 (R.table 5), .int .u64 (R.table 6), .int .u64 (R.table 7), .int .u64 (R.table 8), .int .u64 (R.table 9), .int .u64 (R.table 10), .int .u64 (R.table 11), .int .u64 (R.table 12), .int .u64 (R.table 13), .int .u64 (R.table 14), .int .u64 (R.table 15), .int .u64 (R.table 16),
    .int .u64 (R.words 0), .int .u64 (R.words 1), .int .u64 (R.words 2), .int .u64 (R.words 3), .int .u64 (R.words 4), .int .u64 (R.words 5), .int .u64 (R.words 6), .int .u64 (R.words 7), .int .u64 (R.words 8), .int .u64 (R.words 9), .int .u64 (R.words 10), .int .u64 (R.words 11), .int .u64 (R.words 12), .int .u64 (R.words 13), .int .u64 (R.words 14), .int .u64 (R.words 15), .int .u64 (R.words 16),
    .int .u64 R.last, .bool false, .int .i64 0, .slice none 0 0]
/-- the document's disk at p, of colour c (its writes: c + 1) -/
def RefAt (o : Nat → Nat) (c : Nat) (w : World) (p : Nat) (R : RK) : Prop := ∃ lv, Blk w p 67 (R.cells lv) ∧ o p = c ∧ OwnS o (c + 1) w 124 4 lv R.ws.length (rwcells R.ws)
section
variable {o o' : Nat → Nat} {c p : Nat} {C : Nat → Prop} {w w' : World} {R : RK}
theorem RefAt.step (h : RefAt o c w p R) (hs : Step o C w o' w') (h0 : ¬ C c) (h1 : ¬ C (c + 1)) : RefAt o' c w' p R := by
  obtain ⟨lv, hb, hc, ho⟩ := h
  exact ⟨lv, hb.step hs (by rw [hc]; exact h0), (hs.old p hb.lt).trans hc, ho.step hs h1⟩
theorem RefAt.below_ (h : RefAt o c w p R) (hb : Below w.heap.size w w') : RefAt o c w' p R := h.step (Step.of_below o (fun _ => False) hb) id id
theorem RefAt.alloc (h : RefAt o c w p R) (x : Obj) : RefAt o c (w.alloc x) p R := h.below_ ((Below.refl _ _).alloc (Nat.le_refl _) x)
theorem rk_table (R : RK) (lv : Value) (k : Nat) (hk : k ≤ 16) : (R.cells lv)[3 + k]? = some (.int .u64 (R.table k)) := by
  rcases k with _ | _ | _ | _ | _ | _ | _ | _ | _ | _ | _ | _ | _ | _ | _ | _ | _ | k <;> first | rfl | omega
theorem rk_put (R : RK) (lv : Value) (k : Nat) (hk : k ≤ 16) (v : Nat) : (R.cells lv).setIfInBounds (3 + k) (.int .u64 v) = ({ R with table := fun j => if j = k then v else R.table j } : RK).cells lv := by
  rcases k with _ | _ | _ | _ | _ | _ | _ | _ | _ | _ | _ | _ | _ | _ | _ | _ | _ | k <;> first | rfl | omega
theorem refnode_any (n : Int) (w : World) : Calls Tryz.prog 68 #[.int .i64 n] w fun e w' => e = .returned (.bool (decide (0 ≤ n ∧ n ≤ 16))) ∧ w = w' := by
  by_cases h0 : 0 ≤ n
  · by_cases h1 : n ≤ 16
    · go_enter Tryz.func68, Tryz.ntmps68
      go_wp2_with fail
      go_ret
      exact ⟨by simp [h0, h1], rfl⟩
    · go_enter Tryz.func68, Tryz.ntmps68
      go_wp2_with fail
      go_ret
      exact ⟨by simp [h1], rfl⟩
  · go_enter Tryz.func68, Tryz.ntmps68
    go_wp2_with fail
    go_ret
    exact ⟨by simp; omega, rfl⟩
theorem refspend_any (h : RefAt o c w p R) : Calls Tryz.prog 69 #[.pointer (some ⟨p, 0, none⟩)] w fun e w' => e = .returned (.int .i64 0) ∧ w = w' := by
  obtain ⟨lv, hb, _, _⟩ := h
  have x38 : w.cell? ⟨p, 38, none⟩ = some (.bool false) := hb.cell 38
  clear hb
  go_enter Tryz.func69, Tryz.ntmps69
  go_wp2
  all_goals go_ret
  all_goals exact ⟨rfl, rfl⟩
theorem refmay_ok (h : RefAt o c w p R) (k e : Nat) (hk : k ≤ 16) (he : R.table k = e) (h0 : e ≠ 0) : Calls Tryz.prog 70 #[.pointer (some ⟨p, 0, none⟩), .int .i64 (k : Int), .int .u64 (e : Int)] w fun r w' => r = .returned (.int .i64 0) ∧ w = w' := by
  obtain ⟨lv, hb, _, _⟩ := h
  have x2 : w.cell? ⟨p, 2, none⟩ = some (.bool false) := hb.cell 2
  have ct : w.cell? ⟨p, 3 + k, none⟩ = some (.int .u64 (e : Int)) := by rw [hb.cell, rk_table R lv k hk, he]
  have hd : decide ((0 : Int) ≤ (k : Int) ∧ (k : Int) ≤ 16) = true := decide_eq_true (by omega)
  have h0I : ¬ (e : Int) = 0 := by omega
  have hkI : (k : Int) < 17 := by omega
  clear hb
  go_enter Tryz.func70, Tryz.ntmps70
  go_wp2_with fail
  refine (refnode_any k w).mono ?_
  rintro r w1 ⟨rfl, rfl⟩
  rw [hd]
  go_wp2_with fail
  go_ret
  exact ⟨rfl, rfl⟩
def RK.admit (R : RK) (k e : Nat) : RK := { R with table := fun j => if j = k then e else R.table j, last := e }
set_option maxRecDepth 100000 in
theorem refadmit_ok (h : RefAt o c w p R) (k e : Nat) (hk : k ≤ 16) (he : R.last < e) : Calls Tryz.prog 26 #[.pointer (some ⟨p, 0, none⟩), .int .i64 (k : Int), .int .u64 (e : Int)] w fun r w' => r = .returned (.int .i64 0) ∧ RefAt o c w' p (R.admit k e) ∧ Step o (only c) w o w' := by
  have H := Lib.hid h
  obtain ⟨lv, hb, hc, ho⟩ := h
  have x2 : w.cell? ⟨p, 2, none⟩ = some (.bool false) := hb.cell 2
  have x37 : w.cell? ⟨p, 37, none⟩ = some (.int .u64 R.last) := hb.cell 37
  have ct : w.cell? ⟨p, 3 + k, none⟩ = some (.int .u64 (R.table k : Int)) := by rw [hb.cell, rk_table R lv k hk]
  have ft := hb.frozen (3 + k)
  have f37 := hb.frozen 37
  have hd : decide ((0 : Int) ≤ (k : Int) ∧ (k : Int) ≤ 16) = true := decide_eq_true (by omega)
  have heI : ¬ (e : Int) ≤ (R.last : Int) := by omega
  have hkI : (k : Int) < 17 := by omega
  have hne : ¬ 3 + k = 37 := by omega
  have hb2 := (hb.set_ (3 + k) (.int .u64 e))
  rw [rk_put R lv k hk e] at hb2
  have HB3 := Lib.hid (hb2.set_ 37 (.int .u64 e))
  have S2 := ((Step.refl o (only c) w).setCell (p := ⟨p, 3 + k, none⟩) hc (.int .u64 e)).setCell (p := ⟨p, 37, none⟩) hc (.int .u64 e)
  have HS := Lib.hid S2
  have HO := Lib.hid (ho.step S2 (by unfold only; omega))
  have HC := Lib.hid hc
  have y37 : (w.setCell ⟨p, 3 + k, none⟩ (.int .u64 e)).cell? ⟨p, 37, none⟩ = some (.int .u64 R.last) := hb2.cell 37
  have g37 := hb2.frozen 37
  clear hb hb2 S2 hc ho
  go_enter Tryz.func26, Tryz.ntmps26
  go_wp2_with fail
  refine (refnode_any k w).mono ?_
  rintro r w1 ⟨rfl, rfl⟩
  rw [hd]
  go_wp2_with fail
  refine (refspend_any H.out).mono ?_
  rintro r w1 ⟨rfl, rfl⟩
  go_wp2_with fail
  go_ret
  exact ⟨rfl, ⟨lv, HB3.out, HC.out, HO.out⟩, HS.out⟩
/-- what of node k waits lasts -/
def RW.keep (k : Int) (x : RW) : RW := if x.node = k then { x with lasts := true } else x
theorem rw_get {l : List RW} {k : Nat} {x : RW} (h : l[k]? = some x) : (rwcells l)[k * 4]? = some (.int .i64 x.node) ∧ (rwcells l)[k * 4 + 3]? = some (.bool x.lasts) := by
  induction l generalizing k with
  | nil => simp at h
  | cons y l ih =>
    cases k with
    | zero =>
      simp at h
      subst h
      exact ⟨rfl, rfl⟩
    | succ k =>
      obtain ⟨a, b⟩ := ih (k := k) (by simpa using h)
      rw [show (k + 1) * 4 = k * 4 + 1 + 1 + 1 + 1 from by omega]
      exact ⟨a, b⟩
theorem rw_set {x : RW} : ∀ {l : List RW} {k : Nat}, l[k]? = some x → (rwcells l).set (k * 4 + 3) (.bool true) = rwcells (l.set k { x with lasts := true })
  | y :: l, 0, h => by
    simp at h
    subst h
    rfl
  | y :: l, k + 1, h => by
    have ih := rw_set (l := l) (k := k) (by simpa using h)
    rw [show (k + 1) * 4 + 3 = k * 4 + 3 + 1 + 1 + 1 + 1 from by omega, List.set_cons_succ]
    show _ :: _ :: _ :: _ :: (rwcells l).set (k * 4 + 3) (.bool true) = _
    rw [ih]
    rfl
theorem rw_one (l : List RW) : ∀ u ∈ rwcells l, u.oneCell' = true := by
  intro u hu
  unfold rwcells at hu
  obtain ⟨x, _, hx⟩ := List.mem_flatMap.1 hu
  simp only [RW.cells, List.mem_cons, List.mem_nil_iff, or_false] at hx
  rcases hx with rfl | rfl | rfl | rfl <;> rfl
theorem rw_len (l : List RW) : (rwcells l).length = l.length * 4 := by
  unfold rwcells
  induction l with
  | nil => rfl
  | cons x r ih => simp only [List.flatMap_cons, List.length_append, ih, List.length_cons]; simp [RW.cells]; omega
theorem info_rw : (Tryz.prog.info? 124).map (fun i => (i.zero, i.size, i.bytes)) = some (some (.agg #[.int .i64 0, .int .i64 0, .string ⟨#[]⟩, .bool false]), 4, 40) := by kernel_rfl
/-- the first j have been looked at -/
def keepTo (k : Int) (l : List RW) (j : Nat) : List RW := (l.take j).map (RW.keep k) ++ l.drop j
theorem keepTo_len (k : Int) (l : List RW) (j : Nat) : (keepTo k l j).length = l.length := by
  unfold keepTo
  rw [List.length_append, List.length_map, List.length_take, List.length_drop]
  omega
theorem keepTo_get {k : Int} {l : List RW} {j : Nat} (h : j < l.length) : (keepTo k l j)[j]? = l[j]? := by
  unfold keepTo
  rw [List.getElem?_append_right (by rw [List.length_map, List.length_take]; omega), List.length_map, List.length_take, List.getElem?_drop]
  congr 1
  omega
theorem keepTo_succ {k : Int} {l : List RW} {j : Nat} {x : RW} (h : l[j]? = some x) : keepTo k l (j + 1) = (keepTo k l j).set j (RW.keep k x) := by
  obtain ⟨hj, e⟩ := List.getElem?_eq_some_iff.1 h
  unfold keepTo
  rw [List.set_append_right _ _ (by rw [List.length_map, List.length_take]; omega), List.length_map, List.length_take, List.take_add_one, h, List.drop_eq_getElem_cons hj, e]
  have : j - min j l.length = 0 := by omega
  rw [this]
  simp
end
end Go.Proofs.YtianlhigeabehaaGreatDoor

/- The document's disk: keep, Fence, Barrier. -/
namespace Go.Proofs.YtianlhigeabehaaGreatDoor
open Go.RowKit

def RK.keep (R : RK) (k : Int) : RK := { R with ws := R.ws.map (RW.keep k) }
theorem keepTo_all (k : Int) (l : List RW) : keepTo k l l.length = l.map (RW.keep k) := by
  unfold keepTo
  rw [List.take_length, List.drop_length, List.append_nil]
theorem RefAt.row {o : Nat → Nat} {c p : Nat} {w : World} {R : RK} (h : RefAt o c w p R) : ∃ A cap, Hid (Blk w p 67 (R.cells (.slice A R.ws.length cap))) ∧ Hid (o p = c) ∧ Hid (OwnS o (c + 1) w 124 4 (.slice A R.ws.length cap) R.ws.length (rwcells R.ws)) ∧ w.cell? ⟨p, 1, none⟩ = some (.slice A R.ws.length cap) ∧ w.frozen? ⟨p, 1, none⟩ = false ∧ R.ws.length ≤ cap ∧ cap ≤ maxLen := by
  obtain ⟨lv, hb, hc, ho⟩ := h
  obtain ⟨A, cap, rfl, h1, h2⟩ := own_form' ho
  exact ⟨A, cap, hb, hc, ho, hb.cell 1, hb.frozen 1, h1, h2⟩
theorem set_self {α : Type} {l : List α} {j : Nat} {x : α} (h : l[j]? = some x) : l.set j x = l := by
  obtain ⟨hj, e⟩ := List.getElem?_eq_some_iff.1 h
  rw [← e]
  exact List.set_getElem_self hj
theorem blk_row {w : World} {g i m : Nat} {e : TypeId} {cur : Array Value} {xs : List Value} {u : Value} (hb : Blk w g e cur) (ht : cur.toList.take m = xs) (hi : i < m) (hx : xs[i]? = some u) : w.cell? ⟨g, i, none⟩ = some u := by
  rw [hb.cell, ← Array.getElem?_toList, ← hx, ← ht, List.getElem?_take_of_lt hi]
section
variable {o : Nat → Nat} {c p : Nat} {w : World} {R : RK}
set_option maxRecDepth 100000 in
set_option maxHeartbeats 4000000 in
theorem refkeep_any (h : RefAt o c w p R) (k : Int) (hl : R.ws.length ≤ 100000) : Calls Tryz.prog 71 #[.pointer (some ⟨p, 0, none⟩), .int .i64 k] w fun r w' => r = .returned (.tuple #[]) ∧ ∃ o', RefAt o' c w' p (R.keep k) ∧ Step o (logL c) w o' w' := by
  obtain ⟨A, cap, HB, HC, HO, x1, f1, hcap, hcm⟩ := h.row
  obtain ⟨i0, hi, hz0, hz1, hz2⟩ := info_parts info_rw
  have HL := Lib.hid hl
  have hcmx : cap ≤ 9223372036854775807 := by unfold maxLen at hcm; omega
  have HCM := Lib.hid hcm
  clear h hcm
  go_enter Tryz.func71, Tryz.ntmps71
  go_wp2_with (at_builtin; refine wpList_append_S _ rfl (.const (.slice none 0 0)) (.tmp 9) 64 rfl 124 i0 _ 4 40 Tryz.underlying64 hi hz0 hz1 hz2 rfl (by omega) (.slice none 0 0) 0 [] rfl (OwnS.nil o (c + 1) _ _ _) A R.ws.length cap (rwcells R.ws) rfl (Reads.of_own HO.out.1) (rw_one R.ws) (by unfold maxLen; omega) (by omega) ?_; intro v7 w7 hown7 hst7 hgr7 hat7; simp only [Nat.zero_add, List.nil_append] at hown7; obtain ⟨A7, cap7, rfl, hq1, hq2⟩ := own_form' hown7; have hb7 := HB.out.step hst7 (by rw [HC.out]; unfold only; omega); have y1 : w7.cell? ⟨p, 1, none⟩ = some (.slice A R.ws.length cap) := hb7.cell 1; have g1 := hb7.frozen 1; have HB7 := Lib.hid hb7; have HO7 := Lib.hid hown7; have HS7 := Lib.hid hst7; clear hown7 hst7 hgr7 hat7 hb7)
  obtain ⟨o7, ho7⟩ : ∃ o7, band o w.heap.size w7.heap.size (c + 1) = o7 := ⟨_, rfl⟩
  rw [ho7] at HO7 HS7
  have hc7 : o7 p = c := (HS7.out.old p HB.out.lt).trans HC.out
  have hr7 : RefAt o7 c (w7.setCell ⟨p, 1, none⟩ (.slice A7 R.ws.length cap7)) p R := ⟨.slice A7 R.ws.length cap7, HB7.out.set_ 1 (.slice A7 R.ws.length cap7), hc7, HO7.out.setCell (p := ⟨p, 1, none⟩) (own_blk_ne HO7.out HB7.out (by decide)) _⟩
  have HR7 := Lib.hid hr7
  have HS8 := Lib.hid ((HS7.out.mono (logL_ring c)).setCell (p := ⟨p, 1, none⟩) (.inl hc7) (.slice A7 R.ws.length cap7))
  clear hr7 ho7 y1 g1 x1 f1
  generalize w7.setCell ⟨p, 1, none⟩ (.slice A7 R.ws.length cap7) = W8 at HR7 HS8 ⊢
  go_loopw [4] (fun t4 wr => ∃ j : Nat, j ≤ R.ws.length ∧ t4 = .int .i64 j ∧ RefAt o7 c wr p { R with ws := keepTo k R.ws j } ∧ Step o (logL c) w o7 wr) (fun t4 _ => R.ws.length - (intOf t4).toNat)
  case atStart => exact ⟨0, by omega, rfl, HR7.out, HS8.out⟩
  case round =>
    obtain ⟨j, hj, rfl, hr, hs⟩ := hrel
    obtain ⟨A9, cap9, HB9, HC9, HO9, x1, f1, hcap9, hcm9⟩ := hr.row
    have HRR := Lib.hid hr
    have HSS := Lib.hid hs
    clear hr hs
    simp only [keepTo_len] at HO9 HB9 x1 hcap9
    have hcm9' : cap9 ≤ 9223372036854775807 := by unfold maxLen at hcm9; omega
    have HCM9 := Lib.hid hcm9
    clear hcm9
    by_cases hlt : j < R.ws.length
    · have hltI : (j : Int) < (R.ws.length : Int) := by omega
      have HJL := Lib.hid hlt
      have hlI : (R.ws.length : Int) ≤ 100000 := by have := HL.out; omega
      obtain ⟨x, hx⟩ : ∃ x, R.ws[j]? = some x := ⟨_, List.getElem?_eq_getElem hlt⟩
      have hx2 := (keepTo_get (k := k) hlt).trans hx
      obtain ⟨g, cur, rfl, hb, hg, _, hcm2, hsz, htk⟩ := HO9.out.blk (by omega)
      have hc0 := rw_get hx2
      have y0 := blk_row (m := R.ws.length * 4) hb htk (by omega) hc0.1
      have y3 := blk_row (m := R.ws.length * 4) hb htk (by omega) hc0.2
      have g3 := hb.frozen (j * 4 + 3)
      have HBB := Lib.hid hb
      have HGG := Lib.hid hg
      have HSZ := Lib.hid hsz
      have HTK := Lib.hid htk
      have HKS := Lib.hid (keepTo_succ (k := k) hx)
      have HX2 := Lib.hid hx2
      clear hb hg hsz htk hx hx2 hcm2 hc0
      by_cases hk : x.node = k
      · have HK2 := Lib.hid (show keepTo k R.ws (j + 1) = (keepTo k R.ws j).set j { x with lasts := true } by rw [HKS.out]; unfold RW.keep; rw [if_pos hk])
        have hgp : g ≠ p := HBB.out.ne_ HB9.out (by decide)
        go_wp2_with fail
        go_roundw
        case rel =>
          refine ⟨j + 1, by have := HJL.out; omega, by go_num, ⟨_, HB9.out.far (p := ⟨g, j * 4 + 3, none⟩) hgp.symm (.bool true), HC9.out, ?_⟩, HSS.out.setCell (p := ⟨g, j * 4 + 3, none⟩) (.inr HGG.out) (.bool true)⟩
          have hl2 : (keepTo k R.ws (j + 1)).length = R.ws.length := keepTo_len _ _ _
          show OwnS _ _ _ _ _ _ (keepTo k R.ws (j + 1)).length (rwcells (keepTo k R.ws (j + 1)))
          rw [hl2, HK2.out, ← rw_set HX2.out, ← HTK.out]
          exact OwnS.of_blk (HBB.out.set_ (j * 4 + 3) (.bool true)) HGG.out hcap9 HCM9.out (by simp [HSZ.out]) (by simp [List.take_set])
        case measure => have := HJL.out; simp [intOf]; omega
      · have HK2 := Lib.hid (show keepTo k R.ws (j + 1) = keepTo k R.ws j by rw [HKS.out]; unfold RW.keep; rw [if_neg hk]; exact set_self HX2.out)
        go_wp2_with fail
        go_roundw
        case rel => exact ⟨j + 1, by have := HJL.out; omega, by go_num, by rw [HK2.out]; exact HRR.out, HSS.out⟩
        case measure => have := HJL.out; simp [intOf]; omega
    · have hltI : ¬ (j : Int) < (R.ws.length : Int) := by omega
      obtain rfl : j = R.ws.length := by omega
      rw [keepTo_all] at HRR
      go_wp2_with fail
      go_end0
      exact ⟨rfl, o7, HRR.out, HSS.out⟩
end
end Go.Proofs.YtianlhigeabehaaGreatDoor

/- The document's disk: Fence, Barrier, Write. -/
namespace Go.Proofs.YtianlhigeabehaaGreatDoor
open Go.RowKit

def RK.fence (R : RK) (k : Nat) : RK := { R.keep k with table := fun j => if j = k then 0 else R.table j }
section
variable {o : Nat → Nat} {c p : Nat} {w : World} {R : RK}
theorem reffence_ok (h : RefAt o c w p R) (k : Nat) (hk : k ≤ 16) (hl : R.ws.length ≤ 100000) : Calls Tryz.prog 29 #[.pointer (some ⟨p, 0, none⟩), .int .i64 (k : Int)] w fun r w' => r = .returned (.int .i64 0) ∧ ∃ o', RefAt o' c w' p (R.fence k) ∧ Step o (logL c) w o' w' := by
  have H := Lib.hid h
  have HL := Lib.hid hl
  have HK := Lib.hid hk
  obtain ⟨lv, hb, hc, ho⟩ := h
  have x2 : w.cell? ⟨p, 2, none⟩ = some (.bool false) := hb.cell 2
  have hd : decide ((0 : Int) ≤ (k : Int) ∧ (k : Int) ≤ 16) = true := decide_eq_true (by omega)
  have hkI : (k : Int) < 17 := by omega
  clear hb hc ho hl hk
  go_enter Tryz.func29, Tryz.ntmps29
  go_wp2_with fail
  refine (refnode_any k w).mono ?_
  rintro r w1 ⟨rfl, rfl⟩
  rw [hd]
  go_wp2_with fail
  refine (refspend_any H.out).mono ?_
  rintro r w1 ⟨rfl, rfl⟩
  clear x2
  go_wp2_with fail
  refine (refkeep_any H.out k HL.out).mono ?_
  rintro r w2 ⟨rfl, o2, hr2, hs2⟩
  obtain ⟨lv, hb, hc, ho⟩ := hr2
  have ct : w2.cell? ⟨p, 3 + k, none⟩ = some (.int .u64 ((R.keep k).table k : Int)) := by rw [hb.cell, rk_table (R.keep k) lv k HK.out]
  have ft := hb.frozen (3 + k)
  have hb2 := hb.set_ (3 + k) (.int .u64 (0 : Nat))
  rw [rk_put (R.keep k) lv k HK.out 0] at hb2
  have S2 := (Step.refl o2 (only c) w2).setCell (p := ⟨p, 3 + k, none⟩) hc (.int .u64 (0 : Nat))
  have HF := Lib.hid (show RefAt o2 c (w2.setCell ⟨p, 3 + k, none⟩ (.int .u64 0)) p (R.fence k) from ⟨lv, hb2, hc, ho.step S2 (by unfold only; omega)⟩)
  have HS := Lib.hid (hs2.trans (S2.mono (logL_log c)))
  clear hb hb2 S2 hs2 ho hc
  go_wp2_with fail
  go_ret
  exact ⟨rfl, o2, HF.out, HS.out⟩
theorem refbarrier_ok (h : RefAt o c w p R) (k e : Nat) (hk : k ≤ 16) (he : R.table k = e) (h0 : e ≠ 0) (hl : R.ws.length ≤ 100000) : Calls Tryz.prog 28 #[.pointer (some ⟨p, 0, none⟩), .int .i64 (k : Int), .int .u64 (e : Int)] w fun r w' => r = .returned (.int .i64 0) ∧ ∃ o', RefAt o' c w' p (R.keep k) ∧ Step o (logL c) w o' w' := by
  have H := Lib.hid h
  have HL := Lib.hid hl
  have HM := Lib.hid (refmay_ok h k e hk he h0)
  clear h hl hk he h0
  go_enter Tryz.func28, Tryz.ntmps28
  go_wp2_with fail
  refine HM.out.mono ?_
  rintro r w1 ⟨rfl, rfl⟩
  go_wp2_with fail
  refine (refspend_any H.out).mono ?_
  rintro r w1 ⟨rfl, rfl⟩
  go_wp2_with fail
  refine (refkeep_any H.out k HL.out).mono ?_
  rintro r w2 ⟨rfl, o2, hr2, hs2⟩
  have HF := Lib.hid hr2
  have HS := Lib.hid hs2
  clear hr2 hs2
  go_wp2_with fail
  go_ret
  exact ⟨rfl, o2, HF.out, HS.out⟩
/-- the first i sectors of a text, as writes -/
def rwsN (n at_ : Int) (data : ByteArray) (i : Nat) : List RW := (List.range i).map (fun t : Nat => ⟨n, at_ + t, sect data t, false⟩)
theorem rwsN_succ (n at_ : Int) (data : ByteArray) (i : Nat) : rwsN n at_ data (i + 1) = rwsN n at_ data i ++ [⟨n, at_ + i, sect data i, false⟩] := by
  unfold rwsN
  rw [List.range_succ, List.map_append]
  rfl
theorem rwcells_app (l m : List RW) : rwcells (l ++ m) = rwcells l ++ rwcells m := by simp [rwcells]
def RK.write (R : RK) (n at_ : Int) (data : ByteArray) (m : Nat) : RK := { R with ws := R.ws ++ rwsN n at_ data m }
set_option maxRecDepth 100000 in
set_option maxHeartbeats 4000000 in
theorem refwrite_ok (h : RefAt o c w p R) (k e : Nat) (at_ : Int) (data : ByteArray) (m : Nat) (hk : k ≤ 16) (he : R.table k = e) (h0 : e ≠ 0) (hd : data.size = m * 64) (h1 : 1 ≤ m) (h2 : m ≤ 16) (h3 : 0 ≤ at_) (h4 : at_ + m ≤ R.room) (hr : R.room ≤ 100000) (hl : R.ws.length ≤ 90000) :
    Calls Tryz.prog 27 #[.pointer (some ⟨p, 0, none⟩), .int .i64 (k : Int), .int .u64 (e : Int), .int .i64 at_, .string data] w fun r w' => r = .returned (.int .i64 0) ∧ ∃ o', RefAt o' c w' p (R.write k at_ data m) ∧ Step o (logL c) w o' w' := by
  have H := Lib.hid h
  have HL := Lib.hid hl
  have HM := Lib.hid (refmay_ok h k e hk he h0)
  have HDS := Lib.hid hd
  have HM2 := Lib.hid h2
  obtain ⟨lv, hb, hc, ho⟩ := h
  have x0 : w.cell? ⟨p, 0, none⟩ = some (.int .i64 R.room) := hb.cell 0
  have x2 : w.cell? ⟨p, 2, none⟩ = some (.bool false) := hb.cell 2
  have hn : decide ((0 : Int) ≤ (k : Int) ∧ (k : Int) ≤ 16) = true := decide_eq_true (by omega)
  have hq : (data.size : Int).tdiv 64 = (m : Int) := tdiv64 (by omega)
  have hqw : IntKind.i64.wrap (m : Int) = (m : Int) := IntWalk.i64_in _ (by omega)
  have hrem : (data.size : Int).tmod 64 = 0 := tmod64 (r := 0) (by omega)
  have hm1 : ¬ (m : Int) < 1 := by omega
  have hm2 : ¬ 16 < (m : Int) := by omega
  have hm1' : (1 : Int) ≤ (m : Int) := by omega
  have hm2' : (m : Int) ≤ 16 := by omega
  have hsub : IntKind.i64.wrap ((R.room : Int) - (m : Int)) = (R.room : Int) - (m : Int) := IntWalk.i64_in _ (by omega)
  have hat : ¬ (R.room : Int) - (m : Int) < at_ := by omega
  have hat2 : at_ ≤ (R.room : Int) - (m : Int) := by omega
  have hat0 : ¬ at_ < 0 := by omega
  have HAT := Lib.hid h4
  have HRM := Lib.hid hr
  clear hb hc ho hl hk he h0 hd h1 h2 h4 hr
  go_enter Tryz.func27, Tryz.ntmps27
  go_wp2_with fail
  refine (refnode_any k w).mono ?_
  rintro r w1 ⟨rfl, rfl⟩
  rw [hn]
  go_wp2_with fail
  refine HM.out.mono ?_
  rintro r w1 ⟨rfl, rfl⟩
  go_wp2_with fail
  refine (refspend_any H.out).mono ?_
  rintro r w1 ⟨rfl, rfl⟩
  go_wp2_with fail
  clear x0 x2 hn hq hqw hrem hm1 hm2 hm1' hm2' hsub hat hat2
  have H0 := Lib.hid (show RefAt o c w p (R.write k at_ data 0) by have e : R.write k at_ data 0 = R := by unfold RK.write rwsN; simp
                                                                   rw [e]; exact H.out)
  go_loopw [13] (fun t13 wr => ∃ (i : Nat) (o1 : Nat → Nat), i ≤ m ∧ t13 = .int .i64 i ∧ RefAt o1 c wr p (R.write k at_ data i) ∧ Step o (logL c) w o1 wr) (fun t13 _ => m - (intOf t13).toNat)
  case atStart => exact ⟨0, o, by omega, rfl, H0.out, Step.refl _ _ _⟩
  case round =>
    obtain ⟨i, o1, hi, rfl, hr, hs⟩ := hrel
    have HRR := Lib.hid hr
    have HSS := Lib.hid hs
    clear hr hs
    by_cases hlt : i < m
    · have hltI : (i : Int) < (m : Int) := by omega
      have HIL := Lib.hid hlt
      obtain ⟨A9, cap9, HB9, HC9, HO9, x1, f1, hcap9, hcm9⟩ := HRR.out.row
      obtain ⟨i0, hi0, hz0, hz1, hz2⟩ := info_parts info_rw
      have hWL : (R.write k at_ data i).ws.length = R.ws.length + i := by show (R.ws ++ rwsN k at_ data i).length = _; rw [List.length_append]; unfold rwsN; rw [List.length_map, List.length_range]
      have HWS := Lib.hid (show (R.write k at_ data (i + 1)).ws = (R.write k at_ data i).ws ++ [⟨k, at_ + i, sect data i, false⟩] by show R.ws ++ rwsN k at_ data (i + 1) = (R.ws ++ rwsN k at_ data i) ++ _; rw [rwsN_succ, List.append_assoc])
      obtain ⟨Q, hQ⟩ : ∃ Q, R.write k at_ data i = Q := ⟨_, rfl⟩
      have HQC := Lib.hid (show ∀ lv, (R.write k at_ data (i + 1)).cells lv = Q.cells lv from fun lv => by rw [← hQ]; rfl)
      rw [hQ] at HB9 HO9 x1 hcap9 hWL HWS
      have hWL2 : Q.ws.length ≤ 100000 := by have := HL.out; have := HM2.out; omega
      have hcm9' : cap9 ≤ 9223372036854775807 := by unfold maxLen at hcm9; omega
      have HCM9 := Lib.hid hcm9
      clear hcm9 hWL hQ
      obtain ⟨lo, hlo⟩ : ∃ lo, i * 64 = lo := ⟨_, rfl⟩
      obtain ⟨hi', hhi⟩ : ∃ hi', (i + 1) * 64 = hi' := ⟨_, rfl⟩
      have hhs : hi' ≤ data.size := by have := HDS.out; omega
      have e1 : IntKind.i64.wrap (at_ + (i : Int)) = at_ + i := IntWalk.i64_in _ (by have := HAT.out; have := HRM.out; omega)
      have e2 : IntKind.i64.wrap (64 * (i : Int)) = (lo : Int) := by rw [IntWalk.i64_in _ (by have := HM2.out; omega)]; omega
      have e3 : IntKind.i64.wrap ((lo : Int) + 64) = (hi' : Int) := by rw [IntWalk.i64_in _ (by have := HM2.out; omega)]; omega
      have b0 : (0 : Int) ≤ (lo : Int) := by omega
      have b1 : (lo : Int) ≤ (hi' : Int) := by omega
      have b2 : (hi' : Int) ≤ (data.size : Int) := by omega
      obtain ⟨S, hS⟩ : ∃ S, data.extract lo hi' = S := ⟨_, rfl⟩
      have HSE := Lib.hid (show sect data i = S by unfold sect; rw [hlo, hhi, hS])
      have HO10 := Lib.hid (HO9.out.alloc (.cells #[.int .i64 (k : Int), .int .i64 (at_ + (i : Int)), .string S, .bool false] 124)).drew
      have HB10 := Lib.hid (HB9.out.alloc (.cells #[.int .i64 (k : Int), .int .i64 (at_ + (i : Int)), .string S, .bool false] 124)).drew
      have HSA := Lib.hid (HSS.out.alloc (.cells #[.int .i64 (k : Int), .int .i64 (at_ + (i : Int)), .string S, .bool false] 124)).drew
      have z1 : wr.drew.cell? ⟨p, 1, none⟩ = some (.slice A9 Q.ws.length cap9) := x1
      have z1b : (wr.alloc (.cells #[.int .i64 (k : Int), .int .i64 (at_ + (i : Int)), .string S, .bool false] 124)).cell? ⟨p, 1, none⟩ = some (.slice A9 Q.ws.length cap9) := (HB9.out.alloc (.cells #[.int .i64 (k : Int), .int .i64 (at_ + (i : Int)), .string S, .bool false] 124)).cell 1
      clear hlo hhi hhs
      go_upto_region 17 with (fail)
      go_region_law ((refine step_append_S _ rfl (.tmp 71) (.tmp 84) 64 rfl 124 i0 _ 4 40 Tryz.underlying64 hi0 hz0 hz1 hz2 rfl (by omega) (.slice A9 Q.ws.length cap9) Q.ws.length (rwcells Q.ws) rfl HO10.out (some ⟨wr.heap.size, 0, none⟩) 1 1 [.int .i64 (k : Int), .int .i64 (at_ + (i : Int)), .string S, .bool false] rfl (Reads.newAt wr 124 4 1 _ #[.int .i64 (k : Int), .int .i64 (at_ + (i : Int)), .string S, .bool false] _ rfl rfl rfl).drew (by simp [Value.oneCell']) (by unfold maxLen; omega) (by omega) ?_; intro v7 w7 hown7 hst7 hgr7 hat7; obtain ⟨A7, cap7, rfl, _, _⟩ := own_form' hown7; have hb7 := HB10.out.step hst7 (by rw [HC9.out]; unfold only; omega); have y1 : w7.cell? ⟨p, 1, none⟩ = some (.slice A9 Q.ws.length cap9) := hb7.cell 1; have g1 := hb7.frozen 1; have HB7 := Lib.hid hb7; have HO7 := Lib.hid hown7; have HS7 := Lib.hid hst7; clear hown7 hst7 hgr7 hat7 hb7))
      all_goals
        have hc7 := (HS7.out.old p HB10.out.lt).trans HC9.out
        have hne := own_blk_ne HO7.out HB7.out (by decide)
        have HF := Lib.hid (show ∃ o2, RefAt o2 c (w7.setCell ⟨p, 1, none⟩ (.slice A7 (Q.ws.length + 1) cap7)) p (R.write k at_ data (i + 1)) ∧ Step o (logL c) w o2 (w7.setCell ⟨p, 1, none⟩ (.slice A7 (Q.ws.length + 1) cap7)) from by
          refine ⟨_, ⟨.slice A7 (Q.ws.length + 1) cap7, ?_, hc7, ?_⟩, (HSA.out.trans (HS7.out.mono (logL_ring c))).setCell (p := ⟨p, 1, none⟩) (.inl hc7) _⟩
          · rw [HQC.out]
            exact HB7.out.set_ 1 (.slice A7 (Q.ws.length + 1) cap7)
          · have h2 := HO7.out.setCell (p := ⟨p, 1, none⟩) hne (.slice A7 (Q.ws.length + 1) cap7)
            rw [HWS.out, rwcells_app, HSE.out, List.length_append]
            exact h2)
        clear hc7 hne HO7 HS7 HB7
        go_wp2_with fail
        go_roundw
        case rel => exact ⟨i + 1, HF.out.choose, by have := HIL.out; omega, by go_num, HF.out.choose_spec.1, HF.out.choose_spec.2⟩
        case measure => have := HIL.out; simp [intOf]; omega
    · have hltI : ¬ (i : Int) < (m : Int) := by omega
      obtain rfl : i = m := by omega
      go_wp2_with fail
      go_ret
      exact ⟨rfl, o1, HRR.out, HSS.out⟩
end
end Go.Proofs.YtianlhigeabehaaGreatDoor
