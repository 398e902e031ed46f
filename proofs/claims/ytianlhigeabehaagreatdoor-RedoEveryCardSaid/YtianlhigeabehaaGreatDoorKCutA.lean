/- The disk: Arm, Cut; whether the power goes. -/
import Derived.Test.YtianlhigeabehaaGreatDoorKShelfK
namespace Go.Proofs.YtianlhigeabehaaGreatDoor
open Go.RowKit

/-- a cell of the disk's block is written -/
theorem DiskIn.set_ {o : Nat → Nat} {c p : Nat} {w : World} {D D2 : Dk} {mn ml : Nat} {wv sv : Value} (h : DiskIn o c w p D mn ml wv sv) (i : Nat) (v : Value) (hc : (D.cells mn ml wv sv).setIfInBounds i v = D2.cells mn ml wv sv) (h1 : D2.now = D.now) (h2 : D2.lasts = D.lasts) (h3 : D2.waits = D.waits) (h4 : D2.stays = D.stays) :
    DiskIn o c (w.setCell ⟨p, i, none⟩ v) p D2 mn ml wv sv ∧ Step o (only c) w o (w.setCell ⟨p, i, none⟩ v) := by
  have hs : Step o (only c) w o (w.setCell ⟨p, i, none⟩ v) := (Step.refl o (only c) w).setCell (p := ⟨p, i, none⟩) h.col v
  refine ⟨⟨?_, h.col, ?_, ?_, ?_, ?_⟩, hs⟩
  · rw [← hc]
    exact h.blk.set_ i v
  · rw [h1]
    exact h.now.step hs (by unfold only; omega)
  · rw [h2]
    exact h.lasts.step hs (by unfold only; omega)
  · rw [h3]
    exact h.waits.step hs (by unfold only; omega)
  · rw [h4]
    exact h.stays.step hs (by unfold only; omega)
theorem only_six (c : Nat) : ∀ x, only c x → six c x := by unfold only six; omega
theorem now_upd (f : Int → Option ByteArray) (k : Int) (s : ByteArray) : upd (fun k => (f k).map .string) k (.string s) = fun j => (upd f k s j).map Value.string := by
  funext j
  unfold upd
  split <;> rfl
theorem DiskIn.now_put {o : Nat → Nat} {c p : Nat} {w : World} {D : Dk} {mn ml : Nat} {wv sv : Value} (h : DiskIn o c w p D mn ml wv sv) (k : Int) (s : ByteArray) :
    ∃ w', (Instr.mapUpdate 89 (.map (some mn)) (.int .i64 k) (.string s)).run Tryz.prog w = .ok () w' ∧ DiskIn o c w' p { D with now := upd D.now k s } mn ml wv sv ∧ Step o (only (c + 1)) w o w' ∧ ∀ g t cs, Blk w g t cs → Blk w' g t cs := by
  obtain ⟨w', h1, h2, h3, h4⟩ := h.now.put Tryz.underlying89 Tryz.underlying3 k (.string s)
  rw [now_upd] at h2
  exact ⟨w', h1, ⟨h.blk.step h3 (by rw [h.col]; unfold only; omega), h.col, h2, h.lasts.step h3 (by unfold only; omega), h.waits.step h3 (by unfold only; omega), h.stays.step h3 (by unfold only; omega)⟩, h3, h4⟩
theorem own_from {o : Nat → Nat} {c B n size : Nat} {w : World} {e : TypeId} {v : Value} {xs : List Value} (h : w.ownsRow B e size v n xs) (hz : ∀ g, B ≤ g → o g = c) : OwnS o c w e size v n xs := by
  obtain ⟨h1, h2⟩ := h
  rcases h2 with ⟨rfl, rfl⟩ | ⟨g, cap, cur, rfl, hb, hrest⟩
  · exact ⟨⟨h1, .inl ⟨rfl, rfl⟩⟩, fun g hg => by simp [Value.ownBlock] at hg⟩
  · exact ⟨⟨h1, .inr ⟨g, cap, cur, rfl, Nat.zero_le _, hrest⟩⟩, fun g' hg => by
      simp [Value.ownBlock] at hg
      subst hg
      exact hz _ hb⟩
theorem own_band {o : Nat → Nat} {c n size : Nat} {w w' : World} {e : TypeId} {v : Value} {xs : List Value} (h : w'.ownsRow w.heap.size e size v n xs) : OwnS (band o w.heap.size w'.heap.size c) c w' e size v n xs := by
  have h1 := own_from (o := fun _ => c) (c := c) h (fun _ _ => rfl)
  refine ⟨h1.1, fun g hg => band_in ?_ (h1.lt g hg)⟩
  obtain ⟨_, h2⟩ := h
  rcases h2 with ⟨rfl, _⟩ | ⟨g', cap, cur, rfl, hb, _⟩
  · simp [Value.ownBlock] at hg
  · simp [Value.ownBlock] at hg
    omega
theorem Reads.flat {w : World} {A : Option Addr} {n : Nat} {xs : List Value} (h : Reads w 1 A n xs) (hn : 0 < n) : ∃ b off, A = some ⟨b, off, none⟩ ∧ ∀ j u, xs[j]? = some u → w.cell? ⟨b, off + j, none⟩ = some u := by
  obtain ⟨⟨b, off, sp⟩, rfl, hc⟩ := h.2 hn
  have hl := h.1
  obtain ⟨u, hu⟩ : ∃ u, xs[0]? = some u := ⟨_, List.getElem?_eq_getElem (by omega)⟩
  have h0 := hc 0 u hu
  have e : (⟨b, off, sp⟩ : Addr).add 0 = ⟨b, off, sp⟩ := rfl
  rw [e] at h0
  have hs : sp = none := by
    unfold World.cell? at h0
    split at h0
    · split at h0
      · cases h0
      · rename_i hsp
        cases sp with
        | none => rfl
        | some z => exact absurd rfl hsp
    · cases h0
  subst hs
  refine ⟨b, off, rfl, fun j v hj => ?_⟩
  have := hc j v hj
  unfold Addr.add at this
  split at this
  · rename_i hz
    subst hz
    exact this
  · exact this
theorem intcells_get {l : List Int} {j : Nat} (h : j < l.length) : (intcells l)[j]? = some (.int .i64 (l.getD j 0)) := by
  unfold intcells
  rw [List.getElem?_map, List.getElem?_eq_getElem h, List.getD_eq_getElem?_getD, List.getElem?_eq_getElem h]
  rfl
theorem cloneints_any (o : Nat → Nat) (d : Nat) (w : World) (A : Option Addr) (cap : Nat) (l : List Int) (h : Reads w 1 A l.length (intcells l)) (hl : l.length ≤ 1000000000) :
    Calls Tryz.prog 52 #[.slice A l.length cap] w fun e w' => ∃ v, e = .returned v ∧ OwnW (band o w.heap.size w'.heap.size d) d w' 3 1 v l.length (intcells l) ∧ Below w.heap.size w w' := by
  by_cases h0 : l = []
  · subst h0
    cases A with
    | none =>
      refine (Any.slices_Clone_int_nil Tryz.laysCl 0 cap w).mono ?_
      rintro e w' ⟨rfl, rfl⟩
      exact ⟨_, rfl, OwnW.nil _ _ _ _ _, Below.refl _ _⟩
    | some a =>
      refine (Any.slices_Clone_int_zero Tryz.laysCl a cap w).mono ?_
      rintro e w' ⟨v, rfl, ho, _, hb⟩
      exact ⟨v, rfl, OwnW.of_own (own_band ho), hb⟩
  · have hp : 0 < l.length := List.length_pos_iff.2 h0
    obtain ⟨b, off, rfl, hc⟩ := h.flat hp
    refine (Any.slices_Clone_int Tryz.laysCl b off l.length cap l w (Nat.le_refl _) (by omega) (fun j hj => hc j _ (intcells_get hj))).mono ?_
    rintro e w' ⟨v, rfl, ho, _, hb⟩
    rw [List.take_length] at ho
    exact ⟨v, rfl, OwnW.of_own (own_band ho), hb⟩
/-- the power will go behind n more writes; some of what waits stays -/
def Dk.arm (D : Dk) (n : Int) (keep : List Int) : Dk := { D with armed := decide (0 ≤ n), left := n, stays := keep }
theorem DiskIn.armed_ {o : Nat → Nat} {c p : Nat} {w : World} {D : Dk} {mn ml : Nat} {wv sv : Value} (h : DiskIn o c w p D mn ml wv sv) (n : Int) (keep : List Int) {v : Value} (hv : OwnW o (c + 4) w 3 1 v keep.length (intcells keep)) :
    DiskIn o c (((w.setCell ⟨p, 41, none⟩ (.bool (decide (0 ≤ n)))).setCell ⟨p, 42, none⟩ (.int .i64 n)).setCell ⟨p, 43, none⟩ v) p (D.arm n keep) mn ml wv v ∧ Step o (only c) w o (((w.setCell ⟨p, 41, none⟩ (.bool (decide (0 ≤ n)))).setCell ⟨p, 42, none⟩ (.int .i64 n)).setCell ⟨p, 43, none⟩ v) := by
  have hs : Step o (only c) w o (((w.setCell ⟨p, 41, none⟩ (.bool (decide (0 ≤ n)))).setCell ⟨p, 42, none⟩ (.int .i64 n)).setCell ⟨p, 43, none⟩ v) := (((Step.refl o (only c) w).setCell (p := ⟨p, 41, none⟩) h.col _).setCell (p := ⟨p, 42, none⟩) h.col _).setCell (p := ⟨p, 43, none⟩) h.col _
  refine ⟨⟨((h.blk.set_ 41 _).set_ 42 _).set_ 43 _, h.col, h.now.step hs (by unfold only; omega), h.lasts.step hs (by unfold only; omega), h.waits.step hs (by unfold only; omega), hv.step hs (by unfold only; omega)⟩, hs⟩
set_option maxRecDepth 100000 in
set_option maxHeartbeats 2000000 in
theorem darm_any {o : Nat → Nat} {c p : Nat} {w : World} {D : Dk} (h : DiskAt o c w p D) (n : Int) (keep : List Int) (A : Option Addr) (cap : Nat) (hrd : Reads w 1 A keep.length (intcells keep)) (hk : keep.length ≤ 1000000000) :
    Calls Tryz.prog 14 #[.pointer (some ⟨p, 0, none⟩), .int .i64 n, .slice A keep.length cap] w fun e w' => e = .returned (.tuple #[]) ∧ ∃ o', DiskAt o' c w' p (D.arm n keep) ∧ Step o (only c) w o' w' := by
  obtain ⟨mn, ml, wv, sv, h1⟩ := h
  have H := Lib.hid h1
  have HR := Lib.hid hrd
  clear h1 hrd
  by_cases hn : 0 ≤ n
  · have HN := Lib.hid (show decide (0 ≤ n) = true from decide_eq_true hn)
    go_enter Tryz.func14, Tryz.ntmps14
    go_wp2_with fail
    refine (cloneints_any o (c + 4) w A cap keep HR.out hk).mono ?_
    rintro e w1 ⟨v, rfl, hv, hb⟩
    obtain ⟨A2, cap2, rfl, _, _⟩ := hv.form
    have hs1 : Step o (fun _ => False) w (band o w.heap.size w1.heap.size (c + 4)) w1 := Step.of_below_band o _ (c + 4) hb
    have h2 := H.out.step hs1 (fun _ _ _ => id)
    have f1 := h2.blk.frozen 41
    have f2 := h2.blk.frozen 42
    have f3 := h2.blk.frozen 43
    have c1 : w1.cell? ⟨p, 41, none⟩ = some (.bool D.armed) := h2.blk.cell 41
    have c2 : w1.cell? ⟨p, 42, none⟩ = some (.int .i64 D.left) := h2.blk.cell 42
    have c3 : w1.cell? ⟨p, 43, none⟩ = some sv := h2.blk.cell 43
    obtain ⟨h3, h4⟩ := h2.armed_ n keep hv
    rw [HN.out] at h3 h4
    have HF := Lib.hid (show ∃ o', DiskAt o' c (((w1.setCell ⟨p, 41, none⟩ (.bool true)).setCell ⟨p, 42, none⟩ (.int .i64 n)).setCell ⟨p, 43, none⟩ (.slice A2 keep.length cap2)) p (D.arm n keep) ∧ Step o (only c) w o' (((w1.setCell ⟨p, 41, none⟩ (.bool true)).setCell ⟨p, 42, none⟩ (.int .i64 n)).setCell ⟨p, 43, none⟩ (.slice A2 keep.length cap2)) from ⟨_, ⟨mn, ml, wv, _, h3⟩, (hs1.mono (fun _ h => h.elim)).trans h4⟩)
    clear hs1 h2 h3 h4 hv hb
    go_wp2_with fail
    go_end0
    exact ⟨rfl, HF.out⟩
  · have HN := Lib.hid (show decide (0 ≤ n) = false from decide_eq_false hn)
    go_enter Tryz.func14, Tryz.ntmps14
    go_wp2_with fail
    refine (cloneints_any o (c + 4) w A cap keep HR.out hk).mono ?_
    rintro e w1 ⟨v, rfl, hv, hb⟩
    obtain ⟨A2, cap2, rfl, _, _⟩ := hv.form
    have hs1 : Step o (fun _ => False) w (band o w.heap.size w1.heap.size (c + 4)) w1 := Step.of_below_band o _ (c + 4) hb
    have h2 := H.out.step hs1 (fun _ _ _ => id)
    have f1 := h2.blk.frozen 41
    have f2 := h2.blk.frozen 42
    have f3 := h2.blk.frozen 43
    have c1 : w1.cell? ⟨p, 41, none⟩ = some (.bool D.armed) := h2.blk.cell 41
    have c2 : w1.cell? ⟨p, 42, none⟩ = some (.int .i64 D.left) := h2.blk.cell 42
    have c3 : w1.cell? ⟨p, 43, none⟩ = some sv := h2.blk.cell 43
    obtain ⟨h3, h4⟩ := h2.armed_ n keep hv
    rw [HN.out] at h3 h4
    have HF := Lib.hid (show ∃ o', DiskAt o' c (((w1.setCell ⟨p, 41, none⟩ (.bool false)).setCell ⟨p, 42, none⟩ (.int .i64 n)).setCell ⟨p, 43, none⟩ (.slice A2 keep.length cap2)) p (D.arm n keep) ∧ Step o (only c) w o' (((w1.setCell ⟨p, 41, none⟩ (.bool false)).setCell ⟨p, 42, none⟩ (.int .i64 n)).setCell ⟨p, 43, none⟩ (.slice A2 keep.length cap2)) from ⟨_, ⟨mn, ml, wv, _, h3⟩, (hs1.mono (fun _ h => h.elim)).trans h4⟩)
    clear hs1 h2 h3 h4 hv hb
    go_wp2_with fail
    go_end0
    exact ⟨rfl, HF.out⟩
end Go.Proofs.YtianlhigeabehaaGreatDoor
