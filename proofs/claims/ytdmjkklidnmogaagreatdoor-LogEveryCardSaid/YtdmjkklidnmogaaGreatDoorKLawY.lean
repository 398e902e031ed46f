/- LogEvery: what the walk keeps. -/
import Derived.Test.YtdmjkklidnmogaaGreatDoorKEvKit
import Derived.Test.YtdmjkklidnmogaaGreatDoorKImgA
import Derived.Test.YtdmjkklidnmogaaGreatDoorKEveT
namespace Go.Proofs.YtdmjkklidnmogaaGreatDoor
open Go.RowKit

theorem OpsRd.inz {o' : Nat → Nat} {W w : World} {A : Option Addr} {l : List LOp} {vs : List (Value × Value)} (hs : Step (fun _ => 0) nz W o' w) (h : OpsRd W A l vs) : OpsRd w A l vs := h.below_ (hs.below (fun _ _ h => h rfl) (Nat.le_refl _))
theorem Step.inzE {o' : Nat → Nat} {W w : World} {A : Option Addr} {n : Nat} {xs : List Value} {s : Nat} (hs : Step (fun _ => 0) nz W o' w) (h0 : 0 < s) (h : Reads W s A n xs) : Reads w s A n xs :=
  h.below' h0 (hs.below (fun _ _ h => h rfl) (Nat.le_refl _))
theorem nz_cutC : ∀ x, cutC 1 x → nz x := fun x hx => by unfold cutC at hx; unfold nz; omega
theorem nz_only (c : Nat) (h : 1 ≤ c) : ∀ x, only c x → nz x := fun x hx => by unfold only at hx; unfold nz; omega
theorem add_zero3 (ad : Addr) : ad.add (0 * 3) = ad := by unfold Addr.add; simp
theorem info_imsl : (Tryz.prog.info? 41).map (fun i => (i.zero, i.size, i.bytes)) = some (some (.slice none 0 0), 1, 24) := by kernel_rfl
/-- the lists of images that were added, by their numbers -/
def AddAt (W : World) (o : Nat → Nat) (w : World) (v : Value) (ims : List Im) : Prop := ∃ avs : List Value, avs.length = ims.length ∧ OwnS o 30 w 41 1 v ims.length avs ∧ ∀ (k : Nat) i, ims[k]? = some i → ∃ B cp, avs[k]? = some (.slice B 1 cp) ∧ Reads W 3 B 1 (imcells [i])
section
variable {W w w' : World} {p q gl k k' n cap : Nat} {ad : Addr} {ims : List Im} {D D' : Dk} {g g' : Lg} {v : Value} {o o' : Nat → Nat} {C : Nat → Prop}
theorem AddAt.step (h : AddAt W o w v ims) (hs : Step o C w o' w') (hc : ¬ C 30) : AddAt W o' w' v ims := by
  obtain ⟨avs, h1, h2, h3⟩ := h
  exact ⟨avs, h1, h2.step hs hc, h3⟩
theorem AddAt.form (h : AddAt W o w v ims) : ∃ A cap, v = .slice A ims.length cap := by
  obtain ⟨avs, h1, h2, h3⟩ := h
  obtain ⟨A, cap, e, _, _⟩ := own_form' h2
  exact ⟨A, cap, e⟩
/-- what the loop of steps keeps -/
structure Ev5 (W : World) (p q gl : Nat) (ims : List Im) (D : Dk) (g : Lg) (k : Nat) (v : Value) (o : Nat → Nat) (w : World) : Prop where
  disk : DiskAt o 1 w p D
  log : LogAt o 20 w q g p
  lay : Keep o w gl 31 #[.int .i64 2, .int .i64 10, .int .i64 8, .int .i64 4, .int .i64 32]
  add : AddAt W o w v ims
  fut : Fut o w
  step : Step (fun _ => 0) nz W o w
  tame : Tame D k
theorem Ev5.more (h : Ev5 W p q gl ims D g k v o w) (hk : k ≤ k') : Ev5 W p q gl ims D g k' v o w := { h with tame := h.tame.mono hk }
theorem Ev5.call (h : Ev5 W p q gl ims D g k v o w) (hl : LogAt o' 20 w' q g' p) (hs : Step o (logL 20) w o' w') : Ev5 W p q gl ims D g' k v o' w' :=
  ⟨h.disk.step hs (by unfold logL; omega), hl, h.lay.step hs (by unfold logL; omega), h.add.step hs (by unfold logL; omega), h.fut.step hs, h.step.trans (hs.mono (nz_logL 20 (by omega))), h.tame⟩
theorem Ev5.both (h : Ev5 W p q gl ims D g k v o w) (hd : DiskAt o' 1 w' p D') (hl : LogAt o' 20 w' q g' p) (ht : Tame D' k') (hs : Step o (logC 1 20) w o' w') : Ev5 W p q gl ims D' g' k' v o' w' :=
  ⟨hd, hl, h.lay.step hs (by unfold logC six; omega), h.add.step hs (by unfold logC six; omega), h.fut.step hs, h.step.trans (hs.mono (nz_logC 1 20 (by omega) (by omega))), ht⟩
theorem Ev5.disk_ (h : Ev5 W p q gl ims D g k v o w) (hd : DiskAt o' 1 w' p D') (ht : Tame D' k') (hs : Step o (six 1) w o' w') : Ev5 W p q gl ims D' g k' v o' w' :=
  ⟨hd, h.log.step hs (by unfold six; omega) (by unfold six; omega), h.lay.step hs (no_six (by omega)), h.add.step hs (by unfold six; omega), h.fut.step hs, h.step.trans (hs.mono (nz_six 1 (by omega))), ht⟩
theorem Ev5.start (hd : DiskAt o 1 w p D) (hl : LogAt o 20 w q g p) (hx : Keep o w gl 31 #[.int .i64 2, .int .i64 10, .int .i64 8, .int .i64 4, .int .i64 32]) (hf : Fut o w) (hs : Step (fun _ => 0) nz W o w) (ht : Tame D k) : Ev5 W p q gl [] D g k (.slice none 0 0) o w :=
  ⟨hd, hl, hx, ⟨[], rfl, OwnS.nil _ _ _ _ _, fun k i hk => by simp at hk⟩, hf, hs, ht⟩
theorem Ev5.drew (h : Ev5 W p q gl ims D g k v o w) : Ev5 W p q gl ims D g k v o w.drew := ⟨h.disk.drewN 1, h.log.drew, h.lay.drew, h.add, h.fut, h.step.drewN 1, h.tame⟩
theorem Ev5.alloc (h : Ev5 W p q gl ims D g k v o w) (x : Obj) : Ev5 W p q gl ims D g k v o (w.alloc x) :=
  ⟨h.disk.alloc x, h.log.alloc x, h.lay.alloc x, h.add.step ((Step.refl o (fun _ => False) w).alloc x) id, h.fut.alloc x, h.step.alloc x, h.tame⟩
theorem Ev5.push (h : Ev5 W p q gl ims D g k v o w) {v' : Value} {i : Im} {B : Option Addr} {cp : Nat} (hr : Reads W 3 B 1 (imcells [i])) (hs : Step o (only 30) w o' w') (avs : List Value) (h1 : avs.length = ims.length) (h3 : ∀ (k : Nat) i, ims[k]? = some i → ∃ B cp, avs[k]? = some (.slice B 1 cp) ∧ Reads W 3 B 1 (imcells [i]))
    (ho : OwnS o' 30 w' 41 1 v' (ims.length + 1) (avs ++ [.slice B 1 cp])) : Ev5 W p q gl (ims ++ [i]) D g k v' o' w' := by
  refine ⟨h.disk.step hs (by unfold only; omega), h.log.step hs (by unfold only; omega) (by unfold only; omega), h.lay.step hs (by unfold only; omega), ⟨avs ++ [.slice B 1 cp], by simp [h1], by rw [List.length_append]; exact ho, fun k j hj => ?_⟩, h.fut.step hs, h.step.trans (hs.mono (nz_only 30 (by omega))), h.tame⟩
  by_cases hk : k < ims.length
  · rw [List.getElem?_append_left hk] at hj
    rw [List.getElem?_append_left (by omega)]
    exact h3 k j hj
  · have hkl := (List.getElem?_eq_some_iff.1 hj).1
    rw [List.length_append, List.length_singleton] at hkl
    have ek : k = ims.length := by omega
    subst ek
    rw [List.getElem?_append_right (Nat.le_refl _), Nat.sub_self] at hj
    rw [List.getElem?_append_right (by omega), h1, Nat.sub_self]
    have hj : some i = some j := hj
    injection hj with hj
    subst hj
    exact ⟨B, cp, rfl, hr⟩
theorem Tame.cut (h : Tame D k) (keep : List Int) : Tame (D.cut keep).2 k := by
  obtain ⟨a1, a2, _, _, _, a6, _⟩ := cut_same D keep
  exact ⟨a1.trans h.sectors, Nat.le_trans a6 h.waits, by rw [a2]; exact h.seq, cut_wf h.wf keep⟩
theorem RecsRd.rowE {w : World} {A : Option Addr} {rs : List Rc} {vs : List Value} (h : RecsRd w A rs vs) {k : Nat} {r : Rc} (hk : rs[k]? = some r) :
    ∃ ad B cp, A = some ad ∧ vs[k]? = some (.slice B r.images.length cp) ∧ Reads w 3 B r.images.length (imcells r.images) ∧ w.cell? ⟨(ad.add (k * 3)).block, (ad.add (k * 3)).off + 1, none⟩ = some (.int .u64 r.lsn) ∧ w.cell? ⟨(ad.add (k * 3)).block, (ad.add (k * 3)).off + 2, none⟩ = some (.slice B r.images.length cp) := by
  have hkl := (List.getElem?_eq_some_iff.1 hk).1
  obtain ⟨v, hv⟩ : ∃ v, vs[k]? = some v := ⟨_, List.getElem?_eq_getElem (by rw [h.len]; exact hkl)⟩
  obtain ⟨B, cp, rfl, hr⟩ := h.ims k r v hk hv
  have hz : (rs.zip vs)[k]? = some (r, .slice B r.images.length cp) := by rw [List.getElem?_zip_eq_some]; exact ⟨hk, hv⟩
  have hl : (rs.zip vs).length = rs.length := by rw [List.length_zip, h.len, Nat.min_self]
  have h2 := h.rd
  rw [← hl] at h2
  obtain ⟨ad, rfl, hc⟩ := Reads.row (f := fun x : Rc × Value => [.int .u64 x.1.epoch, .int .u64 x.1.lsn, x.2]) (fun _ => rfl) h2 hz
  exact ⟨ad, B, cp, rfl, hv, hr, hc 1 _ rfl, hc 2 _ rfl⟩
theorem AddAt.cell (h : AddAt W o w (.slice (some ad) n cap) ims) {k : Nat} {i : Im} (hk : ims[k]? = some i) : ∃ B cp, w.cell? (ad.add k) = some (.slice B 1 cp) ∧ Reads W 3 B 1 (imcells [i]) := by
  obtain ⟨avs, h1, h2, h3⟩ := h
  obtain ⟨B, cp, e, hr⟩ := h3 k i hk
  refine ⟨B, cp, ?_, hr⟩
  obtain ⟨A0, cap0, e0, _, _⟩ := own_form' h2
  injection e0 with e1 e2 e3
  subst e2
  have hkl := (List.getElem?_eq_some_iff.1 hk).1
  obtain ⟨ad', ea, hc⟩ := (Reads.of_own h2.1).2 (by omega)
  injection ea with ea
  subst ea
  exact hc _ _ e
theorem AddAt.cell2 {A : Option Addr} (h : AddAt W o w (.slice A n cap) ims) {k : Nat} {i : Im} (hk : ims[k]? = some i) : ∃ ad B cp, A = some ad ∧ w.cell? (ad.add k) = some (.slice B 1 cp) ∧ Reads W 3 B 1 (imcells [i]) := by
  have h' := h
  obtain ⟨avs, h1, h2, h3⟩ := h'
  obtain ⟨A0, cap0, e0, _, _⟩ := own_form' h2
  injection e0 with e1 e2 e3
  subst e1 e2
  have hkl := (List.getElem?_eq_some_iff.1 hk).1
  obtain ⟨ad', ea, hc⟩ := (Reads.of_own h2.1).2 (by omega)
  subst ea
  obtain ⟨B, cp, hb, hr⟩ := h.cell hk
  exact ⟨ad', B, cp, rfl, hb, hr⟩
theorem AddAt.below_ (h : AddAt W o w v ims) (hb : Below w.heap.size w w') : AddAt W o w' v ims := h.step (Step.of_below o (fun _ => False) hb) id
theorem sameone (w : World) (A B : Option Addr) (ca cb : Nat) (i : Im) (ha : Reads w 3 A 1 (imcells [i])) (hb : Reads w 3 B 1 (imcells [i])) :
    Calls Tryz.prog 18 #[.slice A 1 ca, .slice B 1 cb] w fun e w' => e = .returned (.bool true) ∧ ∃ n, w' = w.drewN n := sameimgs_yes w A B ca cb [i] ha hb (show 1 ≤ 1000000000 by decide)
end
end Go.Proofs.YtdmjkklidnmogaaGreatDoor

/- RedoEvery, plain: a log of images that were added; what Sync makes of it. -/
namespace Go.Proofs.YtdmjkklidnmogaaGreatDoor
open Go.RowKit

/-- the log behind the images that were added -/
def gD : List Im → Lg
  | [] => lg0
  | [i] => lg1 i
  | i :: j :: _ => lg2 i j
def lE1 : List Im → List UInt8
  | [] => zer 192
  | i :: _ => recL (rcI 1 i)
def lE2 : List Im → List UInt8
  | _ :: j :: _ => recL (rcI 2 j)
  | _ => zer 192
def rsE : List Im → List Rc
  | [] => []
  | [i] => [rcI 1 i]
  | i :: j :: _ => [rcI 1 i, rcI 2 j]
theorem add_bad {g : Lg} {i : Im} (hb : g.broken = false) (he : g.epoch ≠ 0) (hn : g.next ≠ 0) (hr : ¬ i.right) : g.addE [i] = 1 ∧ g.addG [i] = g := by
  have e : g.addE [i] = 1 := by
    unfold Lg.addE
    rw [hb, if_neg (by decide), wrong_one he hn, if_neg hr, if_pos (by decide)]
  refine ⟨e, ?_⟩
  unfold Lg.addG
  rw [if_pos (by rw [e]; decide)]
theorem gD_add {ds : List Im} (h : ds.length < 2) {i : Im} (hr : i.right) : (gD ds).addE [i] = 0 ∧ (gD ds).addG [i] = gD (ds ++ [i]) := by
  match ds, h with
  | [], _ => exact add0 hr
  | [_], _ => exact add1 hr
theorem gD_full {ds : List Im} (h : ds.length = 2) {i : Im} (hr : i.right) : (gD ds).addE [i] = 10 ∧ (gD ds).addG [i] = gD ds := by
  match ds, h with
  | [_, _], _ => exact add2 hr
theorem gD_bad {ds : List Im} (h : ds.length ≤ 2) {i : Im} (hr : ¬ i.right) : (gD ds).addE [i] = 1 ∧ (gD ds).addG [i] = gD ds := by
  match ds, h with
  | [], _ => exact add_bad rfl (show 9 ≠ 0 by decide) (show 1 ≠ 0 by decide) hr
  | [_], _ => exact add_bad rfl (show 9 ≠ 0 by decide) (show 2 ≠ 0 by decide) hr
  | [_, _], _ => exact add_bad rfl (show 9 ≠ 0 by decide) (show 3 ≠ 0 by decide) hr
theorem gD_facts {ds : List Im} (h : ds.length ≤ 2) : (gD ds).epoch = 9 ∧ (gD ds).next ≤ 3 ∧ (gD ds).live.length ≤ 2 ∧ (gD ds).used ≤ 6 ∧ (gD ds).at_ < 7 ∧ (gD ds).base = 1 ∧ Ens (gD ds).live := by
  match ds, h with
  | [], _ => exact ⟨rfl, show 1 ≤ 3 by decide, show 0 ≤ 2 by decide, show 0 ≤ 6 by decide, show 0 < 7 by decide, rfl, fun x hx => by cases hx⟩
  | [_], _ => exact ⟨rfl, show 2 ≤ 3 by decide, show 1 ≤ 2 by decide, show 3 ≤ 6 by decide, show 3 < 7 by decide, rfl, ens1 _⟩
  | [_, _], _ => exact ⟨rfl, show 3 ≤ 3 by decide, show 2 ≤ 2 by decide, show 6 ≤ 6 by decide, show 6 < 7 by decide, rfl, ens2 _ _⟩
section
variable {D : Dk} {k t2 ls : Nat} {h : List UInt8} {f : Nat → Im}
theorem View.syncD (v : View D k 9 t2 ls h (zer 192) (zer 192) (zer 64) f) {ds : List Im} (hn : ds.length ≤ 2) :
    (syncR D (gD ds)).e = 0 ∧ View (syncR D (gD ds)).D (k + 6) 9 t2 ls h (lE1 ds) (lE2 ds) (zer 64) f ∧ (Quiet D → Quiet (syncR D (gD ds)).D) ∧ (Zeros D → Zeros (syncR D (gD ds)).D) := by
  match ds, hn with
  | [], _ => exact ⟨rfl, v.mono (by omega), id, id⟩
  | [i], _ =>
    obtain ⟨a, b⟩ := v.sync1 i
    refine ⟨a, b.mono (by omega), fun q => ?_, fun z => ?_⟩
    · show Quiet (syncR D (lg1 i)).D
      rw [sync_form1 v i]
      exact q.wrote _ _ _ _
    · show Zeros (syncR D (lg1 i)).D
      rw [sync_form1 v i]
      exact (z.wrote _ _ _ _ (by omega)).settle _
  | [i, j], _ =>
    obtain ⟨a, b⟩ := v.sync2 i j
    refine ⟨a, b, fun q => ?_, fun z => ?_⟩
    · show Quiet (syncR D (lg2 i j)).D
      rw [sync_form2 v i j]
      obtain ⟨x, y, _⟩ := (((q.sane.any q.waits ((1 : Nat) : Int)).writeN 2 (str (recL (rcI 1 i))) 3).writeN 5 (str (recL (rcI 2 j))) 3).settle 0
      exact ⟨x, y⟩
    · show Zeros (syncR D (lg2 i j)).D
      rw [sync_form2 v i j]
      exact ((z.wrote _ _ _ _ (by omega)).wrote _ _ _ _ (by omega)).settle _
theorem View.openD (v : View D k 9 t2 ls h (zer 192) (zer 192) (zer 64) f) : (Quiet D → Quiet (D.lhead lg0 ⟨9, 1, 0⟩).2) ∧ (Zeros D → Zeros (D.lhead lg0 ⟨9, 1, 0⟩).2) := by
  rw [open_form v.calm v.t1]
  exact ⟨fun q => q.wrote _ _ _ _, fun z => (z.wrote _ _ _ _ (by omega)).settle _⟩
end
theorem scan_E {ds : List Im} (hn : ds.length ≤ 2) (hw : ∀ i ∈ ds, i.right ∧ i.ver < 18446744073709551616) : scanL 9 10 1 (str (lE1 ds ++ lE2 ds ++ zer 64)) = rsE ds ∧ (rsE ds).length = ds.length ∧ (rsE ds).flatMap (·.images) = ds := by
  match ds, hn with
  | [], _ => exact ⟨scan_nil, rfl, rfl⟩
  | [i], _ =>
    obtain ⟨a, b⟩ := hw i (by simp)
    exact ⟨scan_one a b, rfl, rfl⟩
  | [i, j], _ =>
    obtain ⟨a, b⟩ := hw i (by simp)
    obtain ⟨c, d⟩ := hw j (by simp)
    exact ⟨scan_two a b c d, rfl, rfl⟩
end Go.Proofs.YtdmjkklidnmogaaGreatDoor
