/- LogEvery: what the walk keeps. -/
import Derived.Test.YtcmneekdajnnaaaGreatDoorKEveU
import Derived.Test.YtcmneekdajnnaaaGreatDoorKEvKit
import Derived.Test.YtcmneekdajnnaaaGreatDoorKImgA
import Derived.Test.YtcmneekdajnnaaaGreatDoorKLawP
import Derived.Shelf.SlMaps.Clone
import Derived.Test.YtcmneekdajnnaaaGreatDoorKCutA
import Derived.Shelf.SlicesE.Clone
import Derived.Test.YtcmneekdajnnaaaGreatDoorKDiskC
import Derived.Deep.WholeRow
namespace Go.Proofs.YtcmneekdajnnaaaGreatDoor
open Go.RowKit

theorem OpsRd.inz {o' : Nat → Nat} {W w : World} {A : Option Addr} {l : List LOp} {vs : List (Value × Value)} (hs : Step (fun _ => 0) nz W o' w) (h : OpsRd W A l vs) : OpsRd w A l vs := h.below_ (hs.below (fun _ _ h => h rfl) (Nat.le_refl _))
theorem Step.inzE {o' : Nat → Nat} {W w : World} {A : Option Addr} {n : Nat} {xs : List Value} {s : Nat} (hs : Step (fun _ => 0) nz W o' w) (h0 : 0 < s) (h : Reads W s A n xs) : Reads w s A n xs :=
  h.below' h0 (hs.below (fun _ _ h => h rfl) (Nat.le_refl _))
theorem nz_cutC : ∀ x, cutC 1 x → nz x := fun x hx => by unfold cutC at hx; unfold nz; omega
theorem nz_only (c : Nat) (h : 1 ≤ c) : ∀ x, only c x → nz x := fun x hx => by unfold only at hx; unfold nz; omega
theorem add_zero3 (ad : Addr) : ad.add (0 * 3) = ad := by unfold Addr.add; simp
theorem info_imsl : (Tryz.prog.info? 40).map (fun i => (i.zero, i.size, i.bytes)) = some (some (.slice none 0 0), 1, 24) := by kernel_rfl
/-- the lists of images that were added, by their numbers -/
def AddAt (W : World) (o : Nat → Nat) (w : World) (v : Value) (ims : List Im) : Prop := ∃ avs : List Value, avs.length = ims.length ∧ OwnS o 30 w 40 1 v ims.length avs ∧ ∀ (k : Nat) i, ims[k]? = some i → ∃ B cp, avs[k]? = some (.slice B 1 cp) ∧ Reads W 3 B 1 (imcells [i])
section
variable {W w w' : World} {p q gl k k' n cap : Nat} {ad : Addr} {ims : List Im} {D D' : Dk} {g g' : Lg} {v : Value} {o o' : Nat → Nat} {C : Nat → Prop}
theorem AddAt.step (h : AddAt W o w v ims) (hs : Step o C w o' w') (hc : ¬ C 30) : AddAt W o' w' v ims := by
  obtain ⟨avs, h1, h2, h3⟩ := h
  exact ⟨avs, h1, h2.step hs hc, h3⟩
theorem AddAt.form (h : AddAt W o w v ims) : ∃ A cap, v = .slice A ims.length cap := by
  obtain ⟨avs, h1, h2, h3⟩ := h
  obtain ⟨A, cap, e, _, _⟩ := own_form' h2
  exact ⟨A, cap, e⟩
/-- what the loop of steps keeps -/
structure Ev5 (W : World) (p q gl : Nat) (ims : List Im) (D : Dk) (g : Lg) (k : Nat) (v : Value) (o : Nat → Nat) (w : World) : Prop where
  disk : DiskAt o 1 w p D
  log : LogAt o 20 w q g p
  lay : Keep o w gl 31 #[.int .i64 2, .int .i64 10, .int .i64 8, .int .i64 4, .int .i64 32]
  add : AddAt W o w v ims
  fut : Fut o w
  step : Step (fun _ => 0) nz W o w
  tame : Tame D k
theorem Ev5.more (h : Ev5 W p q gl ims D g k v o w) (hk : k ≤ k') : Ev5 W p q gl ims D g k' v o w := { h with tame := h.tame.mono hk }
theorem Ev5.call (h : Ev5 W p q gl ims D g k v o w) (hl : LogAt o' 20 w' q g' p) (hs : Step o (logL 20) w o' w') : Ev5 W p q gl ims D g' k v o' w' :=
  ⟨h.disk.step hs (by unfold logL; omega), hl, h.lay.step hs (by unfold logL; omega), h.add.step hs (by unfold logL; omega), h.fut.step hs, h.step.trans (hs.mono (nz_logL 20 (by omega))), h.tame⟩
theorem Ev5.both (h : Ev5 W p q gl ims D g k v o w) (hd : DiskAt o' 1 w' p D') (hl : LogAt o' 20 w' q g' p) (ht : Tame D' k') (hs : Step o (logC 1 20) w o' w') : Ev5 W p q gl ims D' g' k' v o' w' :=
  ⟨hd, hl, h.lay.step hs (by unfold logC six; omega), h.add.step hs (by unfold logC six; omega), h.fut.step hs, h.step.trans (hs.mono (nz_logC 1 20 (by omega) (by omega))), ht⟩
theorem Ev5.disk_ (h : Ev5 W p q gl ims D g k v o w) (hd : DiskAt o' 1 w' p D') (ht : Tame D' k') (hs : Step o (six 1) w o' w') : Ev5 W p q gl ims D' g k' v o' w' :=
  ⟨hd, h.log.step hs (by unfold six; omega) (by unfold six; omega), h.lay.step hs (no_six (by omega)), h.add.step hs (by unfold six; omega), h.fut.step hs, h.step.trans (hs.mono (nz_six 1 (by omega))), ht⟩
theorem Ev5.start (hd : DiskAt o 1 w p D) (hl : LogAt o 20 w q g p) (hx : Keep o w gl 31 #[.int .i64 2, .int .i64 10, .int .i64 8, .int .i64 4, .int .i64 32]) (hf : Fut o w) (hs : Step (fun _ => 0) nz W o w) (ht : Tame D k) : Ev5 W p q gl [] D g k (.slice none 0 0) o w :=
  ⟨hd, hl, hx, ⟨[], rfl, OwnS.nil _ _ _ _ _, fun k i hk => by simp at hk⟩, hf, hs, ht⟩
theorem Ev5.drew (h : Ev5 W p q gl ims D g k v o w) : Ev5 W p q gl ims D g k v o w.drew := ⟨h.disk.drewN 1, h.log.drew, h.lay.drew, h.add, h.fut, h.step.drewN 1, h.tame⟩
theorem Ev5.alloc (h : Ev5 W p q gl ims D g k v o w) (x : Obj) : Ev5 W p q gl ims D g k v o (w.alloc x) :=
  ⟨h.disk.alloc x, h.log.alloc x, h.lay.alloc x, h.add.step ((Step.refl o (fun _ => False) w).alloc x) id, h.fut.alloc x, h.step.alloc x, h.tame⟩
theorem Ev5.push (h : Ev5 W p q gl ims D g k v o w) {v' : Value} {i : Im} {B : Option Addr} {cp : Nat} (hr : Reads W 3 B 1 (imcells [i])) (hs : Step o (only 30) w o' w') (avs : List Value) (h1 : avs.length = ims.length) (h3 : ∀ (k : Nat) i, ims[k]? = some i → ∃ B cp, avs[k]? = some (.slice B 1 cp) ∧ Reads W 3 B 1 (imcells [i]))
    (ho : OwnS o' 30 w' 40 1 v' (ims.length + 1) (avs ++ [.slice B 1 cp])) : Ev5 W p q gl (ims ++ [i]) D g k v' o' w' := by
  refine ⟨h.disk.step hs (by unfold only; omega), h.log.step hs (by unfold only; omega) (by unfold only; omega), h.lay.step hs (by unfold only; omega), ⟨avs ++ [.slice B 1 cp], by simp [h1], by rw [List.length_append]; exact ho, fun k j hj => ?_⟩, h.fut.step hs, h.step.trans (hs.mono (nz_only 30 (by omega))), h.tame⟩
  by_cases hk : k < ims.length
  · rw [List.getElem?_append_left hk] at hj
    rw [List.getElem?_append_left (by omega)]
    exact h3 k j hj
  · have hkl := (List.getElem?_eq_some_iff.1 hj).1
    rw [List.length_append, List.length_singleton] at hkl
    have ek : k = ims.length := by omega
    subst ek
    rw [List.getElem?_append_right (Nat.le_refl _), Nat.sub_self] at hj
    rw [List.getElem?_append_right (by omega), h1, Nat.sub_self]
    have hj : some i = some j := hj
    injection hj with hj
    subst hj
    exact ⟨B, cp, rfl, hr⟩
theorem Tame.cut (h : Tame D k) (keep : List Int) : Tame (D.cut keep).2 k := by
  obtain ⟨a1, a2, _, _, _, a6, _⟩ := cut_same D keep
  exact ⟨a1.trans h.sectors, Nat.le_trans a6 h.waits, by rw [a2]; exact h.seq, cut_wf h.wf keep⟩
theorem RecsRd.rowE {w : World} {A : Option Addr} {rs : List Rc} {vs : List Value} (h : RecsRd w A rs vs) {k : Nat} {r : Rc} (hk : rs[k]? = some r) :
    ∃ ad B cp, A = some ad ∧ vs[k]? = some (.slice B r.images.length cp) ∧ Reads w 3 B r.images.length (imcells r.images) ∧ w.cell? ⟨(ad.add (k * 3)).block, (ad.add (k * 3)).off + 1, none⟩ = some (.int .u64 r.lsn) ∧ w.cell? ⟨(ad.add (k * 3)).block, (ad.add (k * 3)).off + 2, none⟩ = some (.slice B r.images.length cp) := by
  have hkl := (List.getElem?_eq_some_iff.1 hk).1
  obtain ⟨v, hv⟩ : ∃ v, vs[k]? = some v := ⟨_, List.getElem?_eq_getElem (by rw [h.len]; exact hkl)⟩
  obtain ⟨B, cp, rfl, hr⟩ := h.ims k r v hk hv
  have hz : (rs.zip vs)[k]? = some (r, .slice B r.images.length cp) := by rw [List.getElem?_zip_eq_some]; exact ⟨hk, hv⟩
  have hl : (rs.zip vs).length = rs.length := by rw [List.length_zip, h.len, Nat.min_self]
  have h2 := h.rd
  rw [← hl] at h2
  obtain ⟨ad, rfl, hc⟩ := Reads.row (f := fun x : Rc × Value => [.int .u64 x.1.epoch, .int .u64 x.1.lsn, x.2]) (fun _ => rfl) h2 hz
  exact ⟨ad, B, cp, rfl, hv, hr, hc 1 _ rfl, hc 2 _ rfl⟩
theorem AddAt.cell (h : AddAt W o w (.slice (some ad) n cap) ims) {k : Nat} {i : Im} (hk : ims[k]? = some i) : ∃ B cp, w.cell? (ad.add k) = some (.slice B 1 cp) ∧ Reads W 3 B 1 (imcells [i]) := by
  obtain ⟨avs, h1, h2, h3⟩ := h
  obtain ⟨B, cp, e, hr⟩ := h3 k i hk
  refine ⟨B, cp, ?_, hr⟩
  obtain ⟨A0, cap0, e0, _, _⟩ := own_form' h2
  injection e0 with e1 e2 e3
  subst e2
  have hkl := (List.getElem?_eq_some_iff.1 hk).1
  obtain ⟨ad', ea, hc⟩ := (Reads.of_own h2.1).2 (by omega)
  injection ea with ea
  subst ea
  exact hc _ _ e
theorem AddAt.cell2 {A : Option Addr} (h : AddAt W o w (.slice A n cap) ims) {k : Nat} {i : Im} (hk : ims[k]? = some i) : ∃ ad B cp, A = some ad ∧ w.cell? (ad.add k) = some (.slice B 1 cp) ∧ Reads W 3 B 1 (imcells [i]) := by
  have h' := h
  obtain ⟨avs, h1, h2, h3⟩ := h'
  obtain ⟨A0, cap0, e0, _, _⟩ := own_form' h2
  injection e0 with e1 e2 e3
  subst e1 e2
  have hkl := (List.getElem?_eq_some_iff.1 hk).1
  obtain ⟨ad', ea, hc⟩ := (Reads.of_own h2.1).2 (by omega)
  subst ea
  obtain ⟨B, cp, hb, hr⟩ := h.cell hk
  exact ⟨ad', B, cp, rfl, hb, hr⟩
theorem AddAt.below_ (h : AddAt W o w v ims) (hb : Below w.heap.size w w') : AddAt W o w' v ims := h.step (Step.of_below o (fun _ => False) hb) id
theorem sameone (w : World) (A B : Option Addr) (ca cb : Nat) (i : Im) (ha : Reads w 3 A 1 (imcells [i])) (hb : Reads w 3 B 1 (imcells [i])) :
    Calls Tryz.prog 18 #[.slice A 1 ca, .slice B 1 cb] w fun e w' => e = .returned (.bool true) ∧ ∃ n, w' = w.drewN n := sameimgs_yes w A B ca cb [i] ha hb (show 1 ≤ 1000000000 by decide)
end
end Go.Proofs.YtcmneekdajnnaaaGreatDoor

/- RedoWhole, plain: a log's steps while the power stays. -/
namespace Go.Proofs.YtcmneekdajnnaaaGreatDoor
open Go.RowKit

section
variable {ims : List Im} {D : Dk} {g : Lg}
/-- a log that lives, on a disk that is not armed; its images lie in the first ten blocks -/
def Lw (ims : List Im) (D : Dk) (g : Lg) : Prop := Lv ims D g ∧ D.armed = false ∧ ∀ i ∈ ims, i.block ≤ 9
theorem Lw.write (h : Lw ims D g) : Lw ims (writeR D g).D (writeR D g).g := by
  obtain ⟨h1, h2, h3⟩ := h
  rcases h1.write with ⟨a, _⟩ | ⟨a, _⟩
  · rw [h2] at a
    cases a
  · exact ⟨a.lv, a.armed.trans h2, h3⟩
theorem Lw.sync (h : Lw ims D g) : Lw ims (syncR D g).D (syncR D g).g := by
  obtain ⟨h1, h2, h3⟩ := h
  rcases h1.sync with ⟨a, _⟩ | ⟨a, _⟩
  · rw [h2] at a
    cases a
  · exact ⟨a.lv, a.armed.trans h2, h3⟩
theorem Lw.free (h : Lw ims D g) (b : Nat) : Lw ims (freeR D g b).D (freeR D g b).g := by
  obtain ⟨h1, h2, h3⟩ := h
  rcases h1.free b with ⟨a, _⟩ | a | ⟨_, a, b, _⟩
  · rw [h2] at a
    cases a
  · rw [a]
    exact ⟨h1, h2, h3⟩
  · exact ⟨a, b.trans h2, h3⟩
theorem Lw.add (h : Lw ims D g) (l : List Im) (hv : ∀ i ∈ l, i.ver < 18446744073709551616) (hb : ∀ i ∈ l, i.block ≤ 9) (hN : ims.length < 100000) : (g.addE l ≠ 0 ∧ Lw ims D (g.addG l)) ∨ ∃ i, l = [i] ∧ g.addE l = 0 ∧ Lw (ims ++ [i]) D (g.addG l) := by
  obtain ⟨h1, h2, h3⟩ := h
  rcases h1.add l hv hN with ⟨a, b⟩ | ⟨i, e, a, b⟩
  · rw [b]
    exact .inl ⟨a, h1, h2, h3⟩
  · refine .inr ⟨i, e, a, b, h2, fun j hj => ?_⟩
    rcases List.mem_append.1 hj with hj | hj
    · exact h3 j hj
    · rw [List.mem_singleton.1 hj]
      exact hb i (by rw [e]; exact List.mem_singleton.2 rfl)
end
end Go.Proofs.YtcmneekdajnnaaaGreatDoor

/- RedoWhole: what the walk keeps behind the scan. -/
namespace Go.Proofs.YtcmneekdajnnaaaGreatDoor
open Go.RowKit

/-- records in memory, of colours c1 (rows) and c2 (images) -/
structure RecsC (c1 c2 : Nat) (o : Nat → Nat) (w : World) (V : Value) (rs : List Rc) (vs : List Value) : Prop where
  len : vs.length = rs.length
  own : OwnS o c1 w 59 3 V rs.length ((rs.zip vs).flatMap rcells)
  ims : ∀ (k : Nat) (r : Rc) (v : Value), rs[k]? = some r → vs[k]? = some v → ∃ B cp, v = .slice B r.images.length cp ∧ OwnS o c2 w 46 3 v r.images.length (imcells r.images)
section
variable {c1 c2 : Nat} {o o' o8 : Nat → Nat} {C : Nat → Prop} {w w' : World} {V : Value} {rs : List Rc} {vs : List Value}
theorem RecsC.step (h : RecsC c1 c2 o w V rs vs) (hs : Step o C w o' w') (h1 : ¬ C c1) (h2 : ¬ C c2) : RecsC c1 c2 o' w' V rs vs :=
  ⟨h.len, h.own.step hs h1, fun k r v hr hv => by obtain ⟨B, cp, e, hown⟩ := h.ims k r v hr hv; exact ⟨B, cp, e, hown.step hs h2⟩⟩
theorem RecsC.rd {A : Option Addr} {cap : Nat} (h : RecsC c1 c2 o w (.slice A rs.length cap) rs vs) : RecsRd w A rs vs :=
  ⟨h.len, Reads.of_own h.own.1, fun k r v hr hv => by obtain ⟨B, cp, e, ho⟩ := h.ims k r v hr hv; subst e; exact ⟨B, cp, rfl, Reads.of_own ho.1⟩⟩
/-- what a scan has made, in the walk's colours -/
theorem RecsAt.mine (h : RecsAt o8 w w' V rs vs) (o : Nat → Nat) : ∃ o9, Step o (fun _ => False) w o9 w' ∧ RecsC 51 52 o9 w' V rs vs := by
  have hb := h.env.low
  have ho := h.env.old
  refine ⟨fun k => if k < w.heap.size then o k else if k < w'.heap.size then o8 k + 50 else o k, ⟨hb.os, hb.tape, hb.output, hb.size, fun k hk => if_pos hk, fun k hk => ?_, fun k hk _ => hb.block k hk⟩, h.len, ⟨h.own.1, fun g hg => ?_⟩, fun k r v hr hv => ?_⟩
  · rw [if_neg (by have := hb.size; omega), if_neg (by omega)]
  · have h1 := h.own.2 g hg
    have h2 := h.own.lt g hg
    show (if g < w.heap.size then o g else if g < w'.heap.size then o8 g + 50 else o g) = _
    rw [if_neg (fun e => by have := ho g e; omega), if_pos h2, h1]
  · obtain ⟨B, cp, e, hown⟩ := h.ims k r v hr hv
    refine ⟨B, cp, e, hown.1, fun g hg => ?_⟩
    have h1 := hown.2 g hg
    have h2 := hown.lt g hg
    show (if g < w.heap.size then o g else if g < w'.heap.size then o8 g + 50 else o g) = _
    rw [if_neg (fun e => by have := ho g e; omega), if_pos h2, h1]
theorem Ev5.idle {W : World} {p q gl k : Nat} {ims : List Im} {D : Dk} {g : Lg} {v : Value} (h : Ev5 W p q gl ims D g k v o w) (hs : Step o (fun _ => False) w o' w') : Ev5 W p q gl ims D g k v o' w' :=
  ⟨h.disk.step hs (fun _ _ _ => id), h.log.step hs id id, h.lay.step hs id, h.add.step hs id, h.fut.step hs, h.step.trans (hs.mono (fun _ h => h.elim)), h.tame⟩
/-- what the walk keeps behind the twin -/
structure Ev6 (W : World) (p gl : Nat) (D : Dk) (k : Nat) (V : Value) (rs : List Rc) (vs : List Value) (o : Nat → Nat) (w : World) : Prop where
  disk : DiskAt o 1 w p D
  lay : Keep o w gl 31 #[.int .i64 2, .int .i64 10, .int .i64 8, .int .i64 4, .int .i64 32]
  recs : RecsC 51 52 o w V rs vs
  fut : Fut o w
  step : Step (fun _ => 0) nz W o w
  tame : Tame D k
variable {W : World} {p gl k k' : Nat} {D D' : Dk}
theorem Ev6.disk_ (h : Ev6 W p gl D k V rs vs o w) (hd : DiskAt o' 1 w' p D') (ht : Tame D' k') (hs : Step o (six 1) w o' w') : Ev6 W p gl D' k' V rs vs o' w' :=
  ⟨hd, h.lay.step hs (no_six (by omega)), h.recs.step hs (by unfold six; omega) (by unfold six; omega), h.fut.step hs, h.step.trans (hs.mono (nz_six 1 (by omega))), ht⟩
theorem Ev6.idle (h : Ev6 W p gl D k V rs vs o w) (hs : Step o (fun _ => False) w o' w') : Ev6 W p gl D k V rs vs o' w' :=
  ⟨h.disk.step hs (fun _ _ _ => id), h.lay.step hs id, h.recs.step hs id id, h.fut.step hs, h.step.trans (hs.mono (fun _ h => h.elim)), h.tame⟩
end
theorem Tame.admit {D : Dk} {k : Nat} (h : Tame D k) (n : Int) (e : Nat) : Tame (D.admit n e).2 k := by
  unfold Dk.admit
  split
  · exact h
  · split
    · exact h
    · split
      · exact h.goes
      · have hg := h.goes
        exact ⟨hg.sectors, hg.waits, hg.seq, hg.wf⟩
theorem flat_lenW {α β : Type} (f : α → List β) (k : Nat) : ∀ l : List α, (∀ x ∈ l, (f x).length ≤ k) → (l.flatMap f).length ≤ l.length * k
  | [], _ => by simp
  | x :: l, h => by
    rw [List.flatMap_cons, List.length_append, List.length_cons, Nat.add_mul]
    have h1 := h x (List.mem_cons_self ..)
    have h2 := flat_lenW f k l (fun y hy => h y (List.mem_cons_of_mem _ hy))
    omega
theorem plan_lenW {rs : List Rc} {k : Nat} (h : ∀ r ∈ rs, r.images.length ≤ k) : (planOf rs).length ≤ rs.length * k := by
  unfold planOf keysOf
  rw [List.length_map, List.length_mergeSort]
  refine Nat.le_trans (dups_len _) ?_
  rw [List.length_map]
  exact flat_lenW _ k rs h
theorem rcs_fit {ims : List Im} {rs : List Rc} {F T : Nat} (hf : ∀ i ∈ ims, Fine i) (hat : ∀ (n : Nat) r, rs[n]? = some r → ∃ i, ims[F + n - 1]? = some i ∧ r = rcI (F + n) i ∧ F + n ≤ T) (h2 : rs.length ≤ 2) :
    (rs.length ≤ 1000 ∧ ∀ r ∈ rs, r.images.length ≤ 100 ∧ ∀ i ∈ r.images, i.data.size ≤ 281474976710656 ∧ iRange i.block) ∧ (planOf rs).length ≤ 2 := by
  have key : ∀ r ∈ rs, r.images.length = 1 ∧ ∀ i ∈ r.images, i.right := fun r hr => by
    obtain ⟨n, hn, e⟩ := List.mem_iff_getElem.1 hr
    obtain ⟨i, i0, i1, _⟩ := hat n r (by rw [List.getElem?_eq_getElem hn, e])
    rw [i1]
    exact ⟨rfl, fun j hj => by rw [List.mem_singleton.1 (show j ∈ [i] from hj)]; exact (hf i (List.mem_of_getElem? i0)).1⟩
  refine ⟨⟨by omega, fun r hr => ⟨by rw [(key r hr).1]; omega, fun i hi => ?_⟩⟩, ?_⟩
  · obtain ⟨a, b, c⟩ := (key r hr).2 i hi
    exact ⟨by omega, by unfold iRange; omega⟩
  · have := plan_lenW (k := 1) (rs := rs) (fun r hr => by rw [(key r hr).1]; exact Nat.le_refl _)
    omega
end Go.Proofs.YtcmneekdajnnaaaGreatDoor

/- RedoWhole: what the walk's last loop keeps (as in EvA). -/
namespace Go.Proofs.YtcmneekdajnnaaaGreatDoor
open Go.RowKit

/-- what the last loop keeps -/
structure Ev3 (W : World) (p g : Nat) (D : Dk) (V : Value) (l2 : List Im) (o : Nat → Nat) (w : World) : Prop where
  disk : DiskAt o 1 w p D
  own : OwnS o 31 w 46 3 V l2.length (imcells l2)
  lay : Keep o w g 31 #[.int .i64 2, .int .i64 10, .int .i64 8, .int .i64 4, .int .i64 32]
  fut : Fut o w
  step : Step (fun _ => 0) nz W o w
section
variable {W w w' w5 : World} {p g : Nat} {D : Dk} {V : Value} {l2 : List Im} {o o' : Nat → Nat} {C : Nat → Prop}
theorem Ev3.move (h : Ev3 W p g D V l2 o w) (hs : Step o C w o' w') (hc : ∀ x, C x → x = 32) : Ev3 W p g D V l2 o' w' :=
  ⟨h.disk.step hs (fun x h1 h2 h3 => by have := hc x h3; omega), h.own.step hs (fun h3 => by have := hc _ h3; omega), h.lay.step hs (fun h3 => by have := hc _ h3; omega), h.fut.step hs, h.step.trans (hs.mono (fun x h3 => by have := hc x h3; unfold nz; omega))⟩
theorem undrew {a b : World} (hb : Below a.drew.heap.size a.drew b) : Below a.heap.size a b := ⟨hb.os, hb.tape, hb.output, hb.size, hb.block⟩
theorem Ev3.below_ (h : Ev3 W p g D V l2 o w) (hb : Below w.heap.size w w') : Ev3 W p g D V l2 o w' := h.move (Step.of_below o (fun _ => False) hb) (fun _ h => h.elim)
theorem ev_late (h : Ev3 W p g D V l2 o w) (hb : Below w.drew.heap.size w.drew w5) (cs : Array Value) : ∃ o6, Ev3 W p g D V l2 o6 (w5.alloc (.cells cs 46)) ∧ Blk (w5.alloc (.cells cs 46)) w5.heap.size 46 cs :=
  ⟨o, (h.below_ (undrew hb)).move ((Step.refl o (fun _ => False) w5).alloc _) (fun _ h => h.elim), Blk.new _ _ _⟩
theorem ev_early (h : Ev3 W p g D V l2 o w) (hb : Below (w.alloc (.cells #[.int .i64 0, .int .u64 0, .string ⟨#[]⟩] 46)).drew.heap.size (w.alloc (.cells #[.int .i64 0, .int .u64 0, .string ⟨#[]⟩] 46)).drew w5) (a b c : Value) :
    ∃ o6, Ev3 W p g D V l2 o6 (((w5.setCell ⟨w.heap.size, 0, none⟩ a).setCell ⟨w.heap.size, 1, none⟩ b).setCell ⟨w.heap.size, 2, none⟩ c) ∧ Blk (((w5.setCell ⟨w.heap.size, 0, none⟩ a).setCell ⟨w.heap.size, 1, none⟩ b).setCell ⟨w.heap.size, 2, none⟩ c) w.heap.size 46 #[a, b, c] := by
  obtain ⟨o2, h0, hs2⟩ := alloc_as o w (.cells #[.int .i64 0, .int .u64 0, .string ⟨#[]⟩] 46) 32
  have h1 := (h.move hs2 (fun _ h => h.elim)).below_ (undrew hb)
  have b5 := (Blk.new w 46 #[.int .i64 0, .int .u64 0, .string ⟨#[]⟩]).below_ (undrew hb)
  have st : Step o2 (only 32) w5 o2 (((w5.setCell ⟨w.heap.size, 0, none⟩ a).setCell ⟨w.heap.size, 1, none⟩ b).setCell ⟨w.heap.size, 2, none⟩ c) :=
    (((Step.refl o2 (only 32) w5).setCell (p := ⟨w.heap.size, 0, none⟩) h0 _).setCell (p := ⟨w.heap.size, 1, none⟩) h0 _).setCell (p := ⟨w.heap.size, 2, none⟩) h0 _
  exact ⟨o2, h1.move st (fun x hx => hx), ((b5.set_ 0 a).set_ 1 b).set_ 2 c⟩
theorem early_below (hb : Below (w.alloc (.cells #[.int .i64 0, .int .u64 0, .string ⟨#[]⟩] 46)).drew.heap.size (w.alloc (.cells #[.int .i64 0, .int .u64 0, .string ⟨#[]⟩] 46)).drew w5) : Below w.heap.size w w5 := by
  have h1 := (Below.refl w.heap.size w).alloc (Nat.le_refl _) (.cells #[.int .i64 0, .int .u64 0, .string ⟨#[]⟩] 46)
  exact h1.trans ((undrew hb).mono h1.size)
theorem new_row3 (w w5 : World) (hb : Below (w.alloc (.cells #[.int .i64 0, .int .u64 0, .string ⟨#[]⟩] 46)).drew.heap.size (w.alloc (.cells #[.int .i64 0, .int .u64 0, .string ⟨#[]⟩] 46)).drew w5) :
    (w5.cell? ⟨w.heap.size, 0, none⟩ = some (.int .i64 0) ∧ w5.cell? ⟨w.heap.size, 1, none⟩ = some (.int .u64 0) ∧ w5.cell? ⟨w.heap.size, 2, none⟩ = some (.string ⟨#[]⟩)) ∧ w5.frozen? ⟨w.heap.size, 0, none⟩ = false ∧ w5.frozen? ⟨w.heap.size, 1, none⟩ = false ∧ w5.frozen? ⟨w.heap.size, 2, none⟩ = false := by
  have h := (Blk.new w 46 #[.int .i64 0, .int .u64 0, .string ⟨#[]⟩]).below_ (undrew hb)
  exact ⟨⟨h.cell 0, h.cell 1, h.cell 2⟩, h.frozen 0, h.frozen 1, h.frozen 2⟩
end
theorem bytes_inj {a b : ByteArray} (h : a.toList = b.toList) : a = b := by
  simp only [ByteArray.toList_eq] at h
  exact ByteArray.ext (Array.toList_inj.1 h)
theorem Ev6.drew {W w : World} {p gl k : Nat} {D : Dk} {V : Value} {rs : List Rc} {vs : List Value} {o : Nat → Nat} (h : Ev6 W p gl D k V rs vs o w) : Ev6 W p gl D k V rs vs o w.drew :=
  h.idle ⟨rfl, rfl, rfl, Nat.le_refl _, fun _ _ => rfl, fun _ _ => rfl, fun _ _ _ => rfl⟩
theorem Ev6.below_ {W w w' : World} {p gl k : Nat} {D : Dk} {V : Value} {rs : List Rc} {vs : List Value} {o : Nat → Nat} (h : Ev6 W p gl D k V rs vs o w) (hb : Below w.heap.size w w') : Ev6 W p gl D k V rs vs o w' := h.idle (Step.of_below o (fun _ => False) hb)
end Go.Proofs.YtcmneekdajnnaaaGreatDoor

/- RedoEvery, plain: a log of images that were added; what Sync makes of it. -/
namespace Go.Proofs.YtcmneekdajnnaaaGreatDoor
open Go.RowKit

/-- the log behind the images that were added -/
def gD : List Im → Lg
  | [] => lg0
  | [i] => lg1 i
  | i :: j :: _ => lg2 i j
def lE1 : List Im → List UInt8
  | [] => zer 192
  | i :: _ => recL (rcI 1 i)
def lE2 : List Im → List UInt8
  | _ :: j :: _ => recL (rcI 2 j)
  | _ => zer 192
def rsE : List Im → List Rc
  | [] => []
  | [i] => [rcI 1 i]
  | i :: j :: _ => [rcI 1 i, rcI 2 j]
theorem add_bad {g : Lg} {i : Im} (hb : g.broken = false) (he : g.epoch ≠ 0) (hn : g.next ≠ 0) (hr : ¬ i.right) : g.addE [i] = 1 ∧ g.addG [i] = g := by
  have e : g.addE [i] = 1 := by
    unfold Lg.addE
    rw [hb, if_neg (by decide), wrong_one he hn, if_neg hr, if_pos (by decide)]
  refine ⟨e, ?_⟩
  unfold Lg.addG
  rw [if_pos (by rw [e]; decide)]
theorem gD_add {ds : List Im} (h : ds.length < 2) {i : Im} (hr : i.right) : (gD ds).addE [i] = 0 ∧ (gD ds).addG [i] = gD (ds ++ [i]) := by
  match ds, h with
  | [], _ => exact add0 hr
  | [_], _ => exact add1 hr
theorem gD_full {ds : List Im} (h : ds.length = 2) {i : Im} (hr : i.right) : (gD ds).addE [i] = 10 ∧ (gD ds).addG [i] = gD ds := by
  match ds, h with
  | [_, _], _ => exact add2 hr
theorem gD_bad {ds : List Im} (h : ds.length ≤ 2) {i : Im} (hr : ¬ i.right) : (gD ds).addE [i] = 1 ∧ (gD ds).addG [i] = gD ds := by
  match ds, h with
  | [], _ => exact add_bad rfl (show 9 ≠ 0 by decide) (show 1 ≠ 0 by decide) hr
  | [_], _ => exact add_bad rfl (show 9 ≠ 0 by decide) (show 2 ≠ 0 by decide) hr
  | [_, _], _ => exact add_bad rfl (show 9 ≠ 0 by decide) (show 3 ≠ 0 by decide) hr
theorem gD_facts {ds : List Im} (h : ds.length ≤ 2) : (gD ds).epoch = 9 ∧ (gD ds).next ≤ 3 ∧ (gD ds).live.length ≤ 2 ∧ (gD ds).used ≤ 6 ∧ (gD ds).at_ < 7 ∧ (gD ds).base = 1 ∧ Ens (gD ds).live := by
  match ds, h with
  | [], _ => exact ⟨rfl, show 1 ≤ 3 by decide, show 0 ≤ 2 by decide, show 0 ≤ 6 by decide, show 0 < 7 by decide, rfl, fun x hx => by cases hx⟩
  | [_], _ => exact ⟨rfl, show 2 ≤ 3 by decide, show 1 ≤ 2 by decide, show 3 ≤ 6 by decide, show 3 < 7 by decide, rfl, ens1 _⟩
  | [_, _], _ => exact ⟨rfl, show 3 ≤ 3 by decide, show 2 ≤ 2 by decide, show 6 ≤ 6 by decide, show 6 < 7 by decide, rfl, ens2 _ _⟩
section
variable {D : Dk} {k t2 ls : Nat} {h : List UInt8} {f : Nat → Im}
theorem View.syncD (v : View D k 9 t2 ls h (zer 192) (zer 192) (zer 64) f) {ds : List Im} (hn : ds.length ≤ 2) :
    (syncR D (gD ds)).e = 0 ∧ View (syncR D (gD ds)).D (k + 6) 9 t2 ls h (lE1 ds) (lE2 ds) (zer 64) f ∧ (Quiet D → Quiet (syncR D (gD ds)).D) ∧ (Zeros D → Zeros (syncR D (gD ds)).D) := by
  match ds, hn with
  | [], _ => exact ⟨rfl, v.mono (by omega), id, id⟩
  | [i], _ =>
    obtain ⟨a, b⟩ := v.sync1 i
    refine ⟨a, b.mono (by omega), fun q => ?_, fun z => ?_⟩
    · show Quiet (syncR D (lg1 i)).D
      rw [sync_form1 v i]
      exact q.wrote _ _ _ _
    · show Zeros (syncR D (lg1 i)).D
      rw [sync_form1 v i]
      exact (z.wrote _ _ _ _ (by omega)).settle _
  | [i, j], _ =>
    obtain ⟨a, b⟩ := v.sync2 i j
    refine ⟨a, b, fun q => ?_, fun z => ?_⟩
    · show Quiet (syncR D (lg2 i j)).D
      rw [sync_form2 v i j]
      obtain ⟨x, y, _⟩ := (((q.sane.any q.waits ((1 : Nat) : Int)).writeN 2 (str (recL (rcI 1 i))) 3).writeN 5 (str (recL (rcI 2 j))) 3).settle 0
      exact ⟨x, y⟩
    · show Zeros (syncR D (lg2 i j)).D
      rw [sync_form2 v i j]
      exact ((z.wrote _ _ _ _ (by omega)).wrote _ _ _ _ (by omega)).settle _
theorem View.openD (v : View D k 9 t2 ls h (zer 192) (zer 192) (zer 64) f) : (Quiet D → Quiet (D.lhead lg0 ⟨9, 1, 0⟩).2) ∧ (Zeros D → Zeros (D.lhead lg0 ⟨9, 1, 0⟩).2) := by
  rw [open_form v.calm v.t1]
  exact ⟨fun q => q.wrote _ _ _ _, fun z => (z.wrote _ _ _ _ (by omega)).settle _⟩
end
theorem scan_E {ds : List Im} (hn : ds.length ≤ 2) (hw : ∀ i ∈ ds, i.right ∧ i.ver < 18446744073709551616) : scanL 9 10 1 (str (lE1 ds ++ lE2 ds ++ zer 64)) = rsE ds ∧ (rsE ds).length = ds.length ∧ (rsE ds).flatMap (·.images) = ds := by
  match ds, hn with
  | [], _ => exact ⟨scan_nil, rfl, rfl⟩
  | [i], _ =>
    obtain ⟨a, b⟩ := hw i (by simp)
    exact ⟨scan_one a b, rfl, rfl⟩
  | [i, j], _ =>
    obtain ⟨a, b⟩ := hw i (by simp)
    obtain ⟨c, d⟩ := hw j (by simp)
    exact ⟨scan_two a b c d, rfl, rfl⟩
end Go.Proofs.YtcmneekdajnnaaaGreatDoor

/- maps.Clone at the disk's two maps, laid out of the shelf. -/
namespace Go.Proofs
open Go.Shelf
def Tryz.laysMc1_ren : Go.Shelf.Ren := ⟨fun | 5 => 64 | 7 => 111 | n => n, fun | 23 => 107 | 25 => 3 | 3 => 9 | 4 => 4 | 20 => 20 | n => n, fun | n => n⟩
theorem Tryz.laysMc1 : Go.Proofs.SlLaysW.n5 Tryz.prog Tryz.laysMc1_ren := {
  mixed := by kernel_rfl
  f5 := ⟨Tryz.f64.name, by decide, Tryz.func64.trans (congrArg some (by kernel_rfl))⟩
  f7 := Tryz.func111.trans (congrArg some (by kernel_rfl))
  t4 := Tryz.underlying4
  a4 := Tryz.isAgg4
  z4 := Tryz.sizeOf4
  v4 := Tryz.zeroValue4
  t20 := Tryz.underlying20
  a20 := Tryz.isAgg20
  z20 := Tryz.sizeOf20
  v20 := Tryz.zeroValue20
  t23 := Tryz.underlying107
  a23 := Tryz.isAgg107
  z23 := Tryz.sizeOf107
  v23 := Tryz.zeroValue107 }
def Tryz.laysMc2_ren : Go.Shelf.Ren := ⟨fun | 5 => 65 | 7 => 111 | n => n, fun | 23 => 108 | 25 => 3 | 3 => 113 | 4 => 4 | 20 => 20 | n => n, fun | n => n⟩
theorem Tryz.laysMc2 : Go.Proofs.SlLaysW.n5 Tryz.prog Tryz.laysMc2_ren := {
  mixed := by kernel_rfl
  f5 := ⟨Tryz.f65.name, by decide, Tryz.func65.trans (congrArg some (by kernel_rfl))⟩
  f7 := Tryz.func111.trans (congrArg some (by kernel_rfl))
  t4 := Tryz.underlying4
  a4 := Tryz.isAgg4
  z4 := Tryz.sizeOf4
  v4 := Tryz.zeroValue4
  t20 := Tryz.underlying20
  a20 := Tryz.isAgg20
  z20 := Tryz.sizeOf20
  v20 := Tryz.zeroValue20
  t23 := Tryz.underlying108
  a23 := Tryz.isAgg108
  z23 := Tryz.sizeOf108
  v23 := Tryz.zeroValue108 }
namespace YtcmneekdajnnaaaGreatDoor
open Go.RowKit
/-- a map is copied: a new block, of a colour that the caller chooses -/
theorem mclone1_any {o : Nat → Nat} {c : Nat} {w : World} {m : Nat} {f : Int → Option Value} (d : Nat) (h : MapR o c w m f) :
    Calls Tryz.prog 64 #[.map (some m)] w fun e w' => ∃ m', e = .returned (.map (some m')) ∧ ∃ o', MapR o' d w' m' f ∧ Step o (fun _ => False) w o' w' := by
  obtain ⟨_, es, clock, hb, h1, h2, h3⟩ := h
  refine (AnyW.maps_Clone Tryz.laysMc1 m es clock w hb).mono ?_
  rintro e w' ⟨rfl, rfl⟩
  obtain ⟨o', ho, hs⟩ := alloc_as o w (.map es clock) d
  exact ⟨_, rfl, o', ⟨ho, es, clock, (MapKept.heap_alloc w _).1, h1, h2, h3⟩, hs⟩
theorem mclone2_any {o : Nat → Nat} {c : Nat} {w : World} {m : Nat} {f : Int → Option Value} (d : Nat) (h : MapR o c w m f) :
    Calls Tryz.prog 65 #[.map (some m)] w fun e w' => ∃ m', e = .returned (.map (some m')) ∧ ∃ o', MapR o' d w' m' f ∧ Step o (fun _ => False) w o' w' := by
  obtain ⟨_, es, clock, hb, h1, h2, h3⟩ := h
  refine (AnyW.maps_Clone Tryz.laysMc2 m es clock w hb).mono ?_
  rintro e w' ⟨rfl, rfl⟩
  obtain ⟨o', ho, hs⟩ := alloc_as o w (.map es clock) d
  exact ⟨_, rfl, o', ⟨ho, es, clock, (MapKept.heap_alloc w _).1, h1, h2, h3⟩, hs⟩
end YtcmneekdajnnaaaGreatDoor
end Go.Proofs

/- slices.Clone at the disk's writes that wait. -/
namespace Go.Proofs
open Go.Shelf
def Tryz.laysSc_ren : Go.Shelf.Ren := ⟨fun | 41 => 66 | n => n, fun | 22 => 109 | 23 => 113 | 4 => 4 | n => n, fun | n => n⟩
theorem Tryz.laysSc : Go.Proofs.SlLaysE0.n41 Tryz.prog Tryz.laysSc_ren := {
  mixed := by kernel_rfl
  f41 := ⟨Tryz.f66.name, by decide, Tryz.func66.trans (congrArg some (by kernel_rfl))⟩
  t4 := Tryz.underlying4
  a4 := Tryz.isAgg4
  z4 := Tryz.sizeOf4
  v4 := Tryz.zeroValue4
  t22 := Tryz.underlying109
  a22 := Tryz.isAgg109
  z22 := Tryz.sizeOf109
  v22 := Tryz.zeroValue109 }
namespace YtcmneekdajnnaaaGreatDoor
open Go.RowKit
/-- the writes that wait are copied: a row of a colour that the caller chooses -/
theorem sclone_any {o : Nat → Nat} {c : Nat} {w : World} {v : Value} {l : List Ws} (d : Nat) (hv : OwnW o c w 113 4 v l.length (l.flatMap Ws.cells)) (hl : l.length ≤ 1000000) :
    Calls Tryz.prog 66 #[v] w fun e w' => ∃ v', e = .returned v' ∧ OwnW (band o w.heap.size w'.heap.size d) d w' 113 4 v' l.length (l.flatMap Ws.cells) ∧ Below w.heap.size w w' := by
  obtain ⟨i0, hi, hz0, hz1, hz2⟩ := info_parts info_ws
  rcases hv.2 with ⟨rfl, h0⟩ | ⟨g, off, cap, cur, rfl, hb, _, h1, h2, h3, h4⟩
  · obtain rfl : l = [] := List.eq_nil_of_length_eq_zero h0
    refine (AnyE.slices_Clone_nil Tryz.laysSc 0 0 w).mono ?_
    rintro e w' ⟨rfl, rfl⟩
    exact ⟨_, rfl, OwnW.nil _ _ _ _ _, Below.refl _ _⟩
  · refine (AnyE.slices_Clone Tryz.laysSc i0 _ 4 40 hi hz0 hz1 hz2 (by rfl) (by omega) Tryz.sizeOf113 g off l.length cap (l.flatMap Ws.cells) w hv.1 (by unfold maxLen; omega) (by omega) (fun j u hu => ?_) (ws_one l)).mono ?_
    · rw [hb.cell]
      have := drop_take_get h4 hu
      simpa using this
    · rintro e w' ⟨v', rfl, ho, _, hb⟩
      exact ⟨v', rfl, OwnW.of_own (own_band ho), hb⟩
end YtcmneekdajnnaaaGreatDoor
end Go.Proofs

/- The disk's Twin. -/
namespace Go.Proofs.YtcmneekdajnnaaaGreatDoor
open Go.RowKit

set_option maxRecDepth 100000 in
set_option maxHeartbeats 4000000 in
theorem dtwin_any {o : Nat → Nat} {c p : Nat} {w : World} {D : Dk} (h : DiskAt o c w p D) (hwl : D.waits.length ≤ 1000000) : Calls Tryz.prog 19 #[.pointer (some ⟨p, 0, none⟩)] w fun e w' => ∃ t, e = .returned (.pointer (some ⟨t, 0, none⟩)) ∧ ∃ o', DiskAt o' c w' t D ∧ Step o (fun _ => False) w o' w' := by
  obtain ⟨mn, ml, wv, sv, h1⟩ := h
  have H := Lib.hid h1
  have HL := Lib.hid hwl
  clear h1 hwl
  obtain ⟨CS, hCS⟩ : ∃ CS, D.cells mn ml wv sv = CS := ⟨_, rfl⟩
  have hsz : CS.size = 44 := by rw [← hCS]; rfl
  have hb : Blk w p 111 CS := by rw [← hCS]; exact H.out.blk
  have HI := Lib.hid (show (Tryz.prog.info? 111).map (·.size) = some CS.size by rw [hsz]; kernel_rfl)
  have H1 := Lib.hid (show CS.all (·.oneCell') = true by rw [← hCS]; obtain ⟨A, cap, rfl, _, _⟩ := H.out.waits.form; obtain ⟨A2, cap2, rfl, _, _⟩ := H.out.stays.form; simp [Dk.cells, Value.oneCell'])
  have HB := Lib.hid hb
  have HSZ := Lib.hid hsz
  clear hb hsz
  go_enter Tryz.func19, Tryz.ntmps19
  go_upto_region 3 with (fail)
  go_wp2_with (first | (refine wpList_load_row rfl 111 (.tmp 7) rfl p rfl 111 CS (0, 0) _ HB.out Tryz.underlying111 rfl HI.out ?_) | (refine wpList_store_row rfl 111 (.tmp 3) (.tmp 8) rfl w.heap.size CS rfl rfl 111 _ (heap_alloc_new w _) HI.out (by rw [HSZ.out]; rfl) H1.out ?_))
  rw [World.setRow_alloc_new]
  obtain ⟨o1, ho1, hs1⟩ := alloc_as o w (.cells CS 111) c
  have HT := Lib.hid (Blk.new w 111 CS)
  have HD := Lib.hid (H.out.step hs1 (fun _ _ _ => id))
  have hne : w.heap.size ≠ p := by have := HB.out.lt; omega
  have HS := Lib.hid hs1
  have HO := Lib.hid ho1
  have HF := Lib.hid (show p < w.heap.size from HB.out.lt)
  clear hs1 ho1 H HB HI H1
  generalize hW : w.alloc (.cells CS 111) = W1 at HT HD HS ⊢
  generalize htt : w.heap.size = t at HT HO hne HF ⊢
  clear hW
  obtain ⟨A, cap, rfl, _, _⟩ := HD.out.waits.form
  have d3 : W1.cell? ⟨p, 3, none⟩ = some (.map (some mn)) := HD.out.blk.cell 3
  have d4 : W1.cell? ⟨p, 4, none⟩ = some (.map (some ml)) := HD.out.blk.cell 4
  have d5 : W1.cell? ⟨p, 5, none⟩ = some (.slice A D.waits.length cap) := HD.out.blk.cell 5
  go_upto_region 4 with (fail)
  go_region_held3 (fun w' => w'.cell? ⟨p, 3, none⟩ = some (.map (some mn)) ∧ w'.cell? ⟨p, 4, none⟩ = some (.map (some ml)) ∧ w'.cell? ⟨p, 5, none⟩ = some (.slice A D.waits.length cap))
    (first | exact ⟨d3, d4, d5⟩ | exact ⟨e3, e4, e5⟩ | exact ⟨f3, f4, f5⟩ | exact ⟨k3, k4, k5⟩ | go_keep)
    (first
      | (go_at_call 64; refine (mclone1_any (c + 1) HD.out.now.drew).mono ?_; rintro e w2 ⟨m1, rfl, o2, hm1, hs2⟩
         have hd2 := HD.out.drew.step hs2 (fun _ _ _ => id)
         have e3 : w2.cell? ⟨p, 3, none⟩ = some (.map (some mn)) := hd2.blk.cell 3
         have e4 : w2.cell? ⟨p, 4, none⟩ = some (.map (some ml)) := hd2.blk.cell 4
         have e5 : w2.cell? ⟨p, 5, none⟩ = some (.slice A D.waits.length cap) := hd2.blk.cell 5
         have HD2 := Lib.hid hd2
         have HM1 := Lib.hid hm1
         have HS2 := Lib.hid hs2
         clear hd2 hm1 hs2)
      | (go_at_call 65; refine (mclone2_any (c + 2) HD2.out.lasts).mono ?_; rintro e w3 ⟨m2, rfl, o3, hm2, hs3⟩
         have hd3 := HD2.out.step hs3 (fun _ _ _ => id)
         have f3 : w3.cell? ⟨p, 3, none⟩ = some (.map (some mn)) := hd3.blk.cell 3
         have f4 : w3.cell? ⟨p, 4, none⟩ = some (.map (some ml)) := hd3.blk.cell 4
         have f5 : w3.cell? ⟨p, 5, none⟩ = some (.slice A D.waits.length cap) := hd3.blk.cell 5
         have HD3 := Lib.hid hd3
         have HM2 := Lib.hid hm2
         have HS3 := Lib.hid hs3
         clear hd3 hm2 hs3)
      | (go_at_call 66; refine (sclone_any (c + 3) HD3.out.waits HL.out).mono ?_; rintro e w4 ⟨v4, rfl, hv4, hb4⟩
         have hs4 := Step.of_below_band o3 (fun _ => False) (c + 3) hb4
         have hd4 := HD3.out.step hs4 (fun _ _ _ => id)
         have k3 : w4.cell? ⟨p, 3, none⟩ = some (.map (some mn)) := hd4.blk.cell 3
         have k4 : w4.cell? ⟨p, 4, none⟩ = some (.map (some ml)) := hd4.blk.cell 4
         have k5 : w4.cell? ⟨p, 5, none⟩ = some (.slice A D.waits.length cap) := hd4.blk.cell 5
         have ht4 := ((HT.out.drew.step HS2.out id).step HS3.out id).step hs4 id
         obtain ⟨A4, cap4, rfl, _, _⟩ := hv4.form
         have y3 : w4.cell? ⟨t, 3, none⟩ = some (.map (some mn)) := (ht4.cell 3).trans (by rw [← hCS]; rfl)
         have y4 : w4.cell? ⟨t, 4, none⟩ = some (.map (some ml)) := (ht4.cell 4).trans (by rw [← hCS]; rfl)
         have y5 : w4.cell? ⟨t, 5, none⟩ = some (.slice A D.waits.length cap) := (ht4.cell 5).trans (by rw [← hCS]; rfl)
         have g3 := ht4.frozen 3
         have g4 := ht4.frozen 4
         have g5 := ht4.frozen 5
         have HD4 := Lib.hid hd4
         have HV4 := Lib.hid hv4
         have HS4 := Lib.hid hs4
         have HT4 := Lib.hid ht4
         clear hd4 hv4 hs4 ht4 hb4))
  have hs14 := HS2.out.of_drew.trans (HS3.out.trans HS4.out)
  have hs04 := HS.out.trans hs14
  obtain ⟨o4, ho4⟩ : ∃ o4, band o3 w3.heap.size w4.heap.size (c + 3) = o4 := ⟨_, rfl⟩
  rw [ho4] at hs14 hs04 HV4 HD4
  have hc4 : o4 t = c := (hs14.old t HT.out.lt).trans HO.out
  have hq : Step o4 (only c) w4 o4 (((w4.setCell ⟨t, 3, none⟩ (.map (some m1))).setCell ⟨t, 4, none⟩ (.map (some m2))).setCell ⟨t, 5, none⟩ (.slice A4 D.waits.length cap4)) := (((Step.refl o4 (only c) w4).setCell (p := ⟨t, 3, none⟩) hc4 _).setCell (p := ⟨t, 4, none⟩) hc4 _).setCell (p := ⟨t, 5, none⟩) hc4 _
  have hb5 := ((HT4.out.set_ 3 (.map (some m1))).set_ 4 (.map (some m2))).set_ 5 (.slice A4 D.waits.length cap4)
  rw [← hCS] at hb5
  have hs34 := HS3.out.trans HS4.out
  have hs4 := HS4.out
  rw [ho4] at hs34 hs4
  have HFIN := Lib.hid (show DiskAt o4 c (((w4.setCell ⟨t, 3, none⟩ (.map (some m1))).setCell ⟨t, 4, none⟩ (.map (some m2))).setCell ⟨t, 5, none⟩ (.slice A4 D.waits.length cap4)) t D ∧ Step o (fun _ => False) w o4 (((w4.setCell ⟨t, 3, none⟩ (.map (some m1))).setCell ⟨t, 4, none⟩ (.map (some m2))).setCell ⟨t, 5, none⟩ (.slice A4 D.waits.length cap4)) from
    ⟨⟨m1, m2, _, sv, hb5, hc4, (HM1.out.step hs34 id).step hq (by unfold only; omega), (HM2.out.step hs4 id).step hq (by unfold only; omega), HV4.out.step hq (by unfold only; omega), HD4.out.stays.step hq (by unfold only; omega)⟩,
      ((hs04.setNew (p := ⟨t, 3, none⟩) (Nat.le_of_eq htt) _).setNew (p := ⟨t, 4, none⟩) (Nat.le_of_eq htt) _).setNew (p := ⟨t, 5, none⟩) (Nat.le_of_eq htt) _⟩)
  clear hq hb5 hs34 hs4 hs14 hs04 y3 y4 y5 g3 g4 g5 k3 k4 k5 f3 f4 f5 e3 e4 e5 d3 d4 d5
  go_wp2_with fail
  go_ret
  exact ⟨t, rfl, o4, HFIN.out.1, HFIN.out.2⟩
end Go.Proofs.YtcmneekdajnnaaaGreatDoor
