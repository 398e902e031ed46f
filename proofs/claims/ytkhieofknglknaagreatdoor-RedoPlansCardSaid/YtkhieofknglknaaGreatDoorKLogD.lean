/- A node's log: none, may, size, fail, Used, Fits. -/
import Derived.Test.YtkhieofknglknaaGreatDoorKRedoA
import Derived.Test.YtkhieofknglknaaGreatDoorKBlkD
namespace Go.Proofs.YtkhieofknglknaaGreatDoor
open Go.RowKit

/-- the log at block q, of colour c (its ring: c + 1), of the disk at p -/
def LogAt (o : Nat → Nat) (c : Nat) (w : World) (q : Nat) (g : Lg) (p : Nat) : Prop := ∃ r, Blk w q 159 (g.cells p r) ∧ o q = c ∧ EringAt o (c + 1) w r 100000 g.live
section
variable {o o' : Nat → Nat} {c p q : Nat} {C : Nat → Prop} {w w' : World} {g : Lg}
theorem LogAt.step (h : LogAt o c w q g p) (hk : Step o C w o' w') (h0 : ¬ C c) (h1 : ¬ C (c + 1)) : LogAt o' c w' q g p := by
  obtain ⟨r, hb, hc, hv⟩ := h
  exact ⟨r, hb.step hk (by rw [hc]; exact h0), (hk.old q hb.lt).trans hc, hv.step hk h1⟩
theorem LogAt.alloc (h : LogAt o c w q g p) (x : Obj) : LogAt o c (w.alloc x) q g p := by
  obtain ⟨r, hb, hc, hv⟩ := h
  exact ⟨r, hb.alloc x, hc, hv.alloc x⟩
theorem LogAt.below_ (h : LogAt o c w q g p) (hb : Below w.heap.size w w') : LogAt o c w' q g p := by
  obtain ⟨r, h1, h2, h3⟩ := h
  exact ⟨r, h1.below_ hb, h2, h3.below_ hb⟩
theorem LogAt.lt (h : LogAt o c w q g p) : q < w.heap.size := by
  obtain ⟨r, h1, h2, h3⟩ := h
  exact h1.lt
theorem LogAt.drew (h : LogAt o c w q g p) : LogAt o c w.drew q g p := h
theorem LogAt.drewN (h : LogAt o c w q g p) (n : Nat) : LogAt o c (w.drewN n) q g p := h
theorem LogAt.color (h : LogAt o c w q g p) (ho : ∀ k, k < w.heap.size → o' k = o k) : LogAt o' c w q g p := by
  obtain ⟨r, h1, h2, h3⟩ := h
  exact ⟨r, h1, (ho q h1.lt).trans h2, h3.color ho⟩

theorem gnone_any (h : LogAt o c w q g p) : Calls Tryz.prog 200 #[.pointer (some ⟨q, 0, none⟩)] w fun e w' => e = .returned (.bool false) ∧ w = w' := by
  obtain ⟨r, hb, _, _⟩ := h
  have x0 : w.cell? ⟨q, 0, none⟩ = some (.pointer (some ⟨p, 0, none⟩)) := hb.cell 0
  clear hb
  go_enter Tryz.func200, Tryz.ntmps200
  go_wp2
  go_ret
  exact ⟨rfl, rfl⟩
def Lg.mayE (g : Lg) : Int := if g.broken then 13 else 0
theorem gmay_any (h : LogAt o c w q g p) : Calls Tryz.prog 121 #[.pointer (some ⟨q, 0, none⟩)] w fun e w' => e = .returned (.int .i64 g.mayE) ∧ w = w' := by
  have H := Lib.hid h
  obtain ⟨r, hb, _, _⟩ := h
  have x11 : w.cell? ⟨q, 15, none⟩ = some (.bool g.broken) := hb.cell 15
  clear hb
  have HM := Lib.hid (show g.mayE = if g.broken then 13 else 0 from rfl)
  generalize g.mayE = E at HM ⊢
  go_enter Tryz.func121, Tryz.ntmps121
  go_wp2_with fail
  refine (gnone_any H.out).mono ?_
  rintro e w1 ⟨rfl, rfl⟩
  cases hg : g.broken with
  | true =>
    rw [hg] at x11
    have HE := Lib.hid (show E = 13 by rw [HM.out, hg]; rfl)
    clear hg
    go_wp2_with fail
    go_ret
    exact ⟨by rw [HE.out]; rfl, rfl⟩
  | false =>
    rw [hg] at x11
    have HE := Lib.hid (show E = 0 by rw [HM.out, hg]; rfl)
    clear hg
    go_wp2_with fail
    go_ret
    exact ⟨by rw [HE.out]; rfl, rfl⟩
theorem gsize_any (h : LogAt o c w q g p) : Calls Tryz.prog 127 #[.pointer (some ⟨q, 0, none⟩)] w fun e w' => e = .returned (.int .i64 7) ∧ w = w' := by
  obtain ⟨r, hb, _, _⟩ := h
  have x3 : w.cell? ⟨q, 3, none⟩ = some (.int .i64 8) := hb.cell 3
  have hw7 : IntKind.i64.wrap 7 = 7 := by rw [IntKind.wrap_i64]; decide
  clear hb
  go_enter Tryz.func127, Tryz.ntmps127
  go_wp2
  go_ret
  exact ⟨rfl, rfl⟩
def Lg.failG (g : Lg) (e : Int) : Lg := if e ≠ 0 then { g with broken := true } else g
theorem gfail_any (h : LogAt o c w q g p) (e : Int) : Calls Tryz.prog 129 #[.pointer (some ⟨q, 0, none⟩), .int .i64 e] w fun r w' => r = .returned (.int .i64 e) ∧ LogAt o c w' q (g.failG e) p ∧ Step o (only c) w o w' := by
  obtain ⟨r, hb, hc, hr⟩ := h
  have x11 : w.cell? ⟨q, 15, none⟩ = some (.bool g.broken) := hb.cell 15
  have f11 := hb.frozen 15
  have HB := Lib.hid hb
  have HC := Lib.hid hc
  have HR := Lib.hid hr
  clear hb hc hr
  by_cases he : e = 0
  · subst he
    go_enter Tryz.func129, Tryz.ntmps129
    go_wp2_with fail
    go_ret
    exact ⟨rfl, ⟨r, HB.out, HC.out, HR.out⟩, Step.refl _ _ _⟩
  · have t1 : (e != 0) = true := bne_iff_ne.2 he
    have HG := Lib.hid (show g.failG e = { g with broken := true } from if_pos he)
    clear he
    go_enter Tryz.func129, Tryz.ntmps129
    go_wp2_with fail
    go_ret
    have S := (Step.refl o (only c) w).setCell (p := ⟨q, 15, none⟩) HC.out (.bool true)
    refine ⟨rfl, ?_, S⟩
    rw [HG.out]
    exact ⟨r, HB.out.set_ 15 (.bool true), HC.out, HR.out.step S (by simp [only])⟩
/-- the sum of the first k entries' sectors -/
def usedN (l : List En) (k : Nat) : Nat := (l.take k).foldl (fun n x => n + x.n) 0
theorem usedN_succ {l : List En} {k : Nat} {x : En} (h : l[k]? = some x) : usedN l (k + 1) = usedN l k + x.n := by
  unfold usedN
  rw [List.take_add_one, h]
  simp [List.foldl_append]
theorem foldl_ge (l : List En) : ∀ a : Nat, a ≤ l.foldl (fun n x => n + x.n) a := by
  induction l with
  | nil => exact fun a => Nat.le_refl _
  | cons x l ih => exact fun a => Nat.le_trans (Nat.le_add_right a x.n) (ih (a + x.n))
theorem usedN_le (l : List En) (k : Nat) : usedN l k ≤ usedN l l.length := by
  unfold usedN
  rw [List.take_length]
  conv => rhs; rw [← List.take_append_drop k l]
  rw [List.foldl_append]
  exact foldl_ge _ _
theorem Reads.enrow {w : World} {A : Option Addr} {l : List En} (h : Reads w 5 A l.length (encells l)) {k : Nat} {x : En} (hx : l[k]? = some x) :
    ∃ ad, A = some ad ∧ w.cell? (ad.add (k * 5)) = some (.int .u64 x.lsn) ∧ w.cell? ⟨(ad.add (k * 5)).block, (ad.add (k * 5)).off + 1, none⟩ = some (.int .i64 x.at_) ∧ w.cell? ⟨(ad.add (k * 5)).block, (ad.add (k * 5)).off + 2, none⟩ = some (.int .i64 x.n) ∧ w.cell? ⟨(ad.add (k * 5)).block, (ad.add (k * 5)).off + 3, none⟩ = some (.string x.bytes) ∧ w.cell? ⟨(ad.add (k * 5)).block, (ad.add (k * 5)).off + 4, none⟩ = some (.bool x.written) := by
  obtain ⟨ad, rfl, hc⟩ := Reads.row (f := En.cells) (fun _ => rfl) h hx
  exact ⟨ad, rfl, hc 0 _ rfl, hc 1 _ rfl, hc 2 _ rfl, hc 3 _ rfl, hc 4 _ rfl⟩
end
section
variable {o : Nat → Nat} {c p q : Nat} {w : World} {g : Lg}
set_option maxRecDepth 100000 in
set_option maxHeartbeats 2000000 in
theorem gused_any (h : LogAt o c w q g p) (hl : g.live.length ≤ 100000) (hu : g.used ≤ 1000000) : Calls Tryz.prog 204 #[.pointer (some ⟨q, 0, none⟩)] w fun e w' => e = .returned (.int .i64 g.used) ∧ Below w.heap.size w w' := by
  have H := Lib.hid h
  obtain ⟨r, hb, _, hr⟩ := h
  have x14 : w.cell? ⟨q, 14, none⟩ = some (.pointer (some ⟨r, 0, none⟩)) := hb.cell 14
  have HR := Lib.hid hr
  have hlI : (g.live.length : Int) ≤ 100000 := by omega
  have HU := Lib.hid hu
  have HL := Lib.hid hl
  have HUE := Lib.hid (show usedN g.live g.live.length = g.used by unfold usedN Lg.used; rw [List.take_length])
  clear hb hr
  go_enter Tryz.func204, Tryz.ntmps204
  go_wp2_with fail
  refine (gnone_any H.out).mono ?_
  rintro e w1 ⟨rfl, rfl⟩
  go_wp2_with fail
  refine (elist_any 0 HR.out HL.out).mono ?_
  rintro e w1 ⟨A, cap, rfl, hv, hb1⟩
  have HV := Lib.hid (Reads.of_own hv.1)
  have HB1 := Lib.hid hb1
  clear hv hb1
  go_wp2_with fail
  go_loopw [3, 14] (fun t3 t14 wr => ∃ k : Nat, k ≤ g.live.length ∧ t3 = .int .i64 (usedN g.live k) ∧ t14 = .int .i64 k ∧ Below w1.heap.size w1 wr) (fun _ t14 _ => g.live.length - (intOf t14).toNat)
  case atStart => exact ⟨0, by omega, rfl, rfl, Below.refl _ _⟩
  case round =>
    obtain ⟨k, hk, rfl, rfl, hwr⟩ := hrel
    have HWR := Lib.hid hwr
    by_cases hlt : k < g.live.length
    · have hltI : (k : Int) < (g.live.length : Int) := by omega
      obtain ⟨x, hx⟩ : ∃ x, g.live[k]? = some x := ⟨_, List.getElem?_eq_getElem hlt⟩
      obtain ⟨ad, rfl, y0, y1, y2, y3, y4⟩ := (HV.out.below' (by omega) hwr).enrow hx
      have HUS := Lib.hid (usedN_succ hx)
      have HUB := Lib.hid (show usedN g.live (k + 1) ≤ 1000000 from Nat.le_trans (usedN_le _ _) (by rw [HUE.out]; exact HU.out))
      have HWR2 := Lib.hid (hwr.alloc hwr.size (.cells #[.int .u64 x.lsn, .int .i64 x.at_, .int .i64 x.n, .string x.bytes, .bool x.written] 157))
      have hw0 : IntKind.i64.wrap ((usedN g.live k : Int) + (x.n : Int)) = ((usedN g.live k + x.n : Nat) : Int) := by rw [IntWalk.i64_in _ (by have := HUS.out; have := HUB.out; omega)]; omega
      clear hx hwr
      go_wp2_with fail
      go_roundw
      case rel => exact ⟨k + 1, by omega, by rw [HUS.out, ← hw0]; go_num, by go_num, HWR2.out⟩
      case measure => simp [intOf]; omega
    · have hltI : ¬ (k : Int) < (g.live.length : Int) := by omega
      obtain rfl : k = g.live.length := by omega
      go_wp2_with fail
      go_ret
      exact ⟨by rw [HUE.out]; rfl, HB1.out.trans (HWR.out.mono HB1.out.size)⟩
set_option maxRecDepth 100000 in
theorem most_eight (w : World) : Calls Tryz.prog 123 #[.int .i64 8] w fun e w' => e = .returned (.int .i64 1) ∧ w = w' := by
  have hs1 : secsOf 1 = 3 := by decide
  have hs2 : secsOf 2 = 6 := by decide
  go_enter Tryz.func123, Tryz.ntmps123
  go_wp2_with fail
  go_loopw [3] (fun t3 wr => ∃ j : Nat, j ≤ 1 ∧ t3 = .int .i64 j ∧ w = wr) (fun t3 _ => 1 - (intOf t3).toNat)
  case atStart => exact ⟨0, by omega, rfl, rfl⟩
  case round =>
    obtain ⟨j, hj, rfl, rfl⟩ := hrel
    by_cases h0 : j = 0
    · subst h0
      go_wp2_with fail
      refine (secs_any _ _).mono ?_
      rintro e w1 ⟨rfl, rfl⟩
      rw [hs1]
      go_wp2_with fail
      go_roundw
      case rel => exact ⟨1, by omega, by go_num, by first | rfl | trivial⟩
      case measure => simp [intOf]
    · obtain rfl : j = 1 := by omega
      go_wp2_with fail
      refine (secs_any _ _).mono ?_
      rintro e w1 ⟨rfl, rfl⟩
      rw [hs2]
      go_wp2_with fail
      go_ret
      exact ⟨rfl, rfl⟩
def Lg.fits (g : Lg) (n : Int) : Bool := decide (g.mayE = 0 ∧ n = 1 ∧ 3 + g.used ≤ 7)
set_option maxRecDepth 100000 in
set_option maxHeartbeats 2000000 in
theorem gfits_any (h : LogAt o c w q g p) (hl : g.live.length ≤ 100000) (hu : g.used ≤ 1000000) (n : Int) : Calls Tryz.prog 124 #[.pointer (some ⟨q, 0, none⟩), .int .i64 n] w fun e w' => e = .returned (.bool (g.fits n)) ∧ Below w.heap.size w w' := by
  have H := Lib.hid h
  obtain ⟨r, hb, _, hr⟩ := h
  have x3 : w.cell? ⟨q, 3, none⟩ = some (.int .i64 8) := hb.cell 3
  have HU := Lib.hid hu
  have HF := Lib.hid (show g.fits n = decide (g.mayE = 0 ∧ n = 1 ∧ 3 + g.used ≤ 7) from rfl)
  generalize g.fits n = F at HF ⊢
  clear hb hr
  by_cases h0 : g.mayE = 0
  · by_cases h1 : n < 1
    · have HE := Lib.hid (show F = false by rw [HF.out]; exact decide_eq_false (by omega))
      go_enter Tryz.func124, Tryz.ntmps124
      go_wp2_with fail
      refine (gmay_any H.out).mono ?_
      rintro e w1 ⟨rfl, rfl⟩
      rw [h0]
      go_wp2_with fail
      go_ret
      exact ⟨by rw [HE.out]; rfl, Below.refl _ _⟩
    · by_cases h2 : 1 < n
      · have HE := Lib.hid (show F = false by rw [HF.out]; exact decide_eq_false (by omega))
        go_enter Tryz.func124, Tryz.ntmps124
        go_wp2_with fail
        refine (gmay_any H.out).mono ?_
        rintro e w1 ⟨rfl, rfl⟩
        rw [h0]
        go_wp2_with fail
        refine (most_eight _).mono ?_
        rintro e w1 ⟨rfl, rfl⟩
        go_wp2_with fail
        go_ret
        exact ⟨by rw [HE.out]; rfl, Below.refl _ _⟩
      · obtain rfl : n = 1 := by omega
        have hsub : IntKind.i64.wrap (7 - (g.used : Int)) = 7 - (g.used : Int) := IntWalk.i64_in _ (by omega)
        have hs1 : secsOf 1 = 3 := by decide
        clear h1 h2
        go_enter Tryz.func124, Tryz.ntmps124
        go_wp2_with fail
        refine (gmay_any H.out).mono ?_
        rintro e w1 ⟨rfl, rfl⟩
        rw [h0]
        go_wp2_with fail
        refine (most_eight _).mono ?_
        rintro e w1 ⟨rfl, rfl⟩
        go_wp2_with fail
        refine (secs_any 1 _).mono ?_
        rintro e w1 ⟨rfl, rfl⟩
        rw [hs1]
        go_wp2_with fail
        refine (gsize_any H.out).mono ?_
        rintro e w1 ⟨rfl, rfl⟩
        go_wp2_with fail
        refine (gused_any H.out hl HU.out).mono ?_
        rintro e w1 ⟨rfl, hb1⟩
        have HB1 := Lib.hid hb1
        clear hb1
        have HE := Lib.hid (show F = decide ((3 : Int) ≤ 7 - (g.used : Int)) by rw [HF.out]; by_cases hq : 3 + g.used ≤ 7 <;> simp [h0, hq] <;> omega)
        go_wp2_with fail
        go_ret
        exact ⟨by rw [HE.out]; rfl, HB1.out⟩
  · have t1 : (g.mayE != 0) = true := bne_iff_ne.2 h0
    have HE := Lib.hid (show F = false by rw [HF.out]; exact decide_eq_false (by omega))
    clear h0
    go_enter Tryz.func124, Tryz.ntmps124
    go_wp2_with fail
    refine (gmay_any H.out).mono ?_
    rintro e w1 ⟨rfl, rfl⟩
    go_wp2_with fail
    go_ret
    exact ⟨by rw [HE.out]; rfl, Below.refl _ _⟩
end
end Go.Proofs.YtkhieofknglknaaGreatDoor

/- A node's log: the head, a record's way to the disk. -/
namespace Go.Proofs.YtkhieofknglknaaGreatDoor
open Go.RowKit

/-- of 37 sectors; no more than k sectors were written (armed or not) -/
structure Tame (D : Dk) (k : Nat) : Prop where
  sectors : D.sectors = 37
  waits : D.waits.length ≤ k
  seq : D.seq ≤ k
  wf : D.wf
theorem Calm.tame {D : Dk} {k : Nat} (h : Calm D k) : Tame D k := ⟨h.sectors, h.waits, h.seq, h.wf⟩
section
variable {D : Dk} {k : Nat}
theorem Tame.mono (h : Tame D k) {m : Nat} (hm : k ≤ m) : Tame D m := ⟨h.sectors, Nat.le_trans h.waits hm, Nat.le_trans h.seq hm, h.wf⟩
theorem Tame.settle (h : Tame D k) (n : Int) : Tame (D.settle n) k := by
  obtain ⟨a1, a2, a3, a4, a5, a6, a7⟩ := settle_same D n
  exact ⟨a3.trans h.sectors, Nat.le_trans (settle_waits D n) h.waits, a7 ▸ h.seq, settle_wf h.wf n⟩
theorem Tame.goes (h : Tame D k) : Tame D.goes.2 k := by
  obtain ⟨a1, a2, _, _, _, a6⟩ := goes_keeps D
  exact ⟨a1.trans h.sectors, Nat.le_trans a6 h.waits, by rw [a2]; exact h.seq, goes_wf h.wf⟩
theorem Tame.barrier (h : Tame D k) (n : Int) (e : Nat) : Tame (D.barrier n e).2 k := by
  unfold Dk.barrier
  split
  · exact h
  · split
    · exact h
    · split
      · exact h.goes
      · exact h.goes.settle n
theorem Tame.write (h : Tame D k) (n : Int) (e : Nat) (at_ : Int) (data : ByteArray) : Tame (D.write n e at_ data).2 (k + data.size / 64) := by
  unfold Dk.write
  split
  · exact h.mono (by omega)
  · split
    · exact h.mono (by omega)
    · split
      · exact h.mono (by omega)
      · split
        · exact h.mono (by omega)
        · split
          · exact h.goes.mono (by omega)
          · have hg := h.goes
            obtain ⟨a1, a2, a3, _, _, _, _, a8, a9⟩ := writeN_same D.goes.2 n at_ data (data.size / 64)
            exact ⟨a3.trans hg.sectors, by have := hg.waits; simp only; omega, by have := hg.seq; simp only; omega, writeN_wf hg.wf n at_ data _ (by omega)⟩
end
/-- the head of a log is laid -/
def Dk.lhead (D : Dk) (g : Lg) (h : Hd) : Int × Dk := if h.putE ≠ 0 then (h.putE, D) else if (D.write g.node g.epoch g.base h.putS).1 ≠ 0 then D.write g.node g.epoch g.base h.putS else (D.write g.node g.epoch g.base h.putS).2.barrier g.node g.epoch
theorem puts_size (h : Hd) : h.putS.size ≤ 64 := by
  unfold Hd.putS
  split
  · exact Nat.zero_le _
  · rw [str_size, headL_len]
    omega
theorem Tame.lhead {D : Dk} {k : Nat} (ht : Tame D k) (g : Lg) (h : Hd) : Tame (D.lhead g h).2 (k + 1) := by
  have hs := puts_size h
  unfold Dk.lhead
  split
  · exact ht.mono (by omega)
  · split
    · exact (ht.write _ _ _ _).mono (by omega)
    · exact ((ht.write _ _ _ _).barrier _ _).mono (by omega)
/-- a record on its way to the disk, from its sector i on -/
def putGo (g : Lg) (x : En) : Nat → Nat → Dk → Int × Dk
  | 0, _, D => (0, D)
  | f + 1, i, D => if x.n ≤ i then (0, D) else
      if (D.write g.node g.epoch ((g.base + 1 + (x.at_ + i) % 7 : Nat) : Int) (x.bytes.extract (i * 64) ((i + min (x.n - i) (7 - (x.at_ + i) % 7)) * 64))).1 ≠ 0 then D.write g.node g.epoch ((g.base + 1 + (x.at_ + i) % 7 : Nat) : Int) (x.bytes.extract (i * 64) ((i + min (x.n - i) (7 - (x.at_ + i) % 7)) * 64))
      else putGo g x f (i + min (x.n - i) (7 - (x.at_ + i) % 7)) (D.write g.node g.epoch ((g.base + 1 + (x.at_ + i) % 7 : Nat) : Int) (x.bytes.extract (i * 64) ((i + min (x.n - i) (7 - (x.at_ + i) % 7)) * 64))).2
def Dk.put_ (D : Dk) (g : Lg) (x : En) : Int × Dk := putGo g x x.n 0 D
theorem LogAt.four {o : Nat → Nat} {c p q : Nat} {w : World} {g : Lg} (h : LogAt o c w q g p) : w.cell? ⟨q, 0, none⟩ = some (.pointer (some ⟨p, 0, none⟩)) ∧ w.cell? ⟨q, 6, none⟩ = some (.int .i64 g.node) ∧ w.cell? ⟨q, 7, none⟩ = some (.int .u64 g.epoch) ∧ w.cell? ⟨q, 8, none⟩ = some (.int .i64 g.base) := by
  obtain ⟨r, hb, _, _⟩ := h
  exact ⟨hb.cell 0, hb.cell 6, hb.cell 7, hb.cell 8⟩
theorem LogAt.three {o : Nat → Nat} {c p q : Nat} {w : World} {g : Lg} (h : LogAt o c w q g p) : w.cell? ⟨q, 0, none⟩ = some (.pointer (some ⟨p, 0, none⟩)) ∧ w.cell? ⟨q, 6, none⟩ = some (.int .i64 g.node) ∧ w.cell? ⟨q, 7, none⟩ = some (.int .u64 g.epoch) := ⟨h.four.1, h.four.2.1, h.four.2.2.1⟩
section
variable {o : Nat → Nat} {c cd p q k : Nat} {w : World} {g : Lg} {D : Dk}
set_option maxRecDepth 100000 in
set_option maxHeartbeats 4000000 in
theorem ghead_any (h : LogAt o c w q g p) (hd : DiskAt o cd w p D) (ht : Tame D k) (hk : k ≤ 800000) (hcd : 1 ≤ cd) (hc : cd + 5 < c) (he : g.epoch < 18446744073709551616) (lsn : Nat) (hl : lsn < 18446744073709551616) (at_ : Int) :
    Calls Tryz.prog 120 #[.pointer (some ⟨q, 0, none⟩), .int .u64 lsn, .int .i64 at_] w fun e w' => e = .returned (.int .i64 (D.lhead g ⟨g.epoch, lsn, at_⟩).1) ∧ ∃ o', DiskAt o' cd w' p (D.lhead g ⟨g.epoch, lsn, at_⟩).2 ∧ Step o (six cd) w o' w' := by
  have H := Lib.hid h
  have HD := Lib.hid hd
  have HT := Lib.hid ht
  obtain ⟨x0, x6, x7, x8⟩ := h.four
  have HN1 := Lib.hid (show ¬ six cd c by unfold six; omega)
  have HN2 := Lib.hid (show ¬ six cd (c + 1) by unfold six; omega)
  have HK := Lib.hid hk
  have HCD := Lib.hid hcd
  have HE := Lib.hid he
  have HL := Lib.hid hl
  have HDE := Lib.hid (show D.lhead g ⟨g.epoch, lsn, at_⟩ = if (Hd.mk g.epoch lsn at_).putE ≠ 0 then ((Hd.mk g.epoch lsn at_).putE, D) else if (D.write g.node g.epoch g.base (Hd.mk g.epoch lsn at_).putS).1 ≠ 0 then D.write g.node g.epoch g.base (Hd.mk g.epoch lsn at_).putS else (D.write g.node g.epoch g.base (Hd.mk g.epoch lsn at_).putS).2.barrier g.node g.epoch from rfl)
  have HPS := Lib.hid (puts_size ⟨g.epoch, lsn, at_⟩)
  clear h hd ht hk hcd hc he hl
  go_enter Tryz.func120, Tryz.ntmps120
  go_wp2_with fail
  refine (puthead_any ⟨g.epoch, lsn, at_⟩ _ HE.out HL.out).mono ?_
  rintro e w1 ⟨rfl, hb1⟩
  have H1 := Lib.hid (H.out.below_ hb1)
  have HD1 := Lib.hid (HD.out.below_ hb1)
  have HS1 := Lib.hid (Step.of_below o (six cd) hb1)
  clear hb1 x0 x6 x7 x8
  obtain ⟨E, hE⟩ : ∃ E, (Hd.mk g.epoch lsn at_).putE = E := ⟨_, rfl⟩
  obtain ⟨S, hS⟩ : ∃ S, (Hd.mk g.epoch lsn at_).putS = S := ⟨_, rfl⟩
  rw [hE, hS] at HDE
  rw [hS] at HPS
  rw [hE, hS]
  clear hE hS
  by_cases h0 : E = 0
  · subst h0
    have HD2 := Lib.hid (show D.lhead g ⟨g.epoch, lsn, at_⟩ = if (D.write g.node g.epoch g.base S).1 ≠ 0 then D.write g.node g.epoch g.base S else (D.write g.node g.epoch g.base S).2.barrier g.node g.epoch by rw [HDE.out]; rfl)
    clear HDE
    go_upto_region 4 with (fail)
    have x4 := H1.out.drew.four
    go_region_held3 (fun w' => w'.cell? ⟨q, 0, none⟩ = some (.pointer (some ⟨p, 0, none⟩)) ∧ w'.cell? ⟨q, 6, none⟩ = some (.int .i64 g.node) ∧ w'.cell? ⟨q, 7, none⟩ = some (.int .u64 g.epoch) ∧ w'.cell? ⟨q, 8, none⟩ = some (.int .i64 g.base))
      (first | exact x4 | exact hx2.four | go_keep)
      (first | (go_at_call 133; ((with_reducible refine (dwrite_calm HD1.out.drew g.node g.epoch g.base S (by have := HT.out.waits; have := HK.out; omega) (by rw [HT.out.sectors]; omega) (by have := HT.out.seq; have := HK.out; omega) (by have := HPS.out; omega) HCD.out).mono ?_); rintro e2 w2 ⟨rfl, o2, hd2, hs2⟩; have hx2 := H1.out.drew.step hs2 HN1.out HN2.out)))
    have H2 := Lib.hid hx2
    have HD2' := Lib.hid hd2
    have HS2 := Lib.hid (HS1.out.trans (hs2.of_drew))
    have HT2 := Lib.hid (HT.out.write g.node g.epoch g.base S)
    clear hx2 hd2 hs2 x4
    obtain ⟨F, hF⟩ : ∃ F, D.write g.node g.epoch g.base S = F := ⟨_, rfl⟩
    rw [hF] at HD2 HD2' HT2 ⊢
    obtain ⟨F, D2⟩ := F
    simp only at HD2' HT2 ⊢
    clear hF
    by_cases h1 : F = 0
    · subst h1
      have HR := Lib.hid (show D.lhead g ⟨g.epoch, lsn, at_⟩ = D2.barrier g.node g.epoch by rw [HD2.out]; simp)
      clear HD2
      go_upto_region 7 with (fail)
      have x3 := H2.out.drew.three
      go_region_held3 (fun w' => w'.cell? ⟨q, 0, none⟩ = some (.pointer (some ⟨p, 0, none⟩)) ∧ w'.cell? ⟨q, 6, none⟩ = some (.int .i64 g.node) ∧ w'.cell? ⟨q, 7, none⟩ = some (.int .u64 g.epoch))
        (first | exact x3 | exact hx3.three | go_keep)
        (first | (go_at_call 42; ((with_reducible refine (dbarrier_calm HD2'.out.drew g.node g.epoch (by have := HT2.out.waits; have := HK.out; have := HPS.out; omega)).mono ?_); rintro e3 w3 ⟨rfl, o3, hd3, hs3⟩; have hx3 := H2.out.drew.step hs3 HN1.out HN2.out)))
      have HD3 := Lib.hid hd3
      have HS3 := Lib.hid (HS2.out.trans hs3.of_drew)
      clear hx3 hd3 hs3 x3
      go_wp2_with fail
      go_ret
      exact ⟨by rw [HR.out]; rfl, o3, by rw [HR.out]; exact HD3.out, HS3.out⟩
    · have t1 : (F != 0) = true := bne_iff_ne.2 h1
      have HR := Lib.hid (show D.lhead g ⟨g.epoch, lsn, at_⟩ = (F, D2) by rw [HD2.out, if_pos h1])
      clear h1
      go_wp2_with fail
      go_ret
      exact ⟨by rw [HR.out]; rfl, o2, by rw [HR.out]; exact HD2'.out, HS2.out⟩
  · have t1 : (E != 0) = true := bne_iff_ne.2 h0
    have HR := Lib.hid (show D.lhead g ⟨g.epoch, lsn, at_⟩ = (E, D) by rw [HDE.out, if_pos h0])
    clear h0
    go_wp2_with fail
    go_ret
    exact ⟨by rw [HR.out]; rfl, o, by rw [HR.out]; exact HD1.out, HS1.out⟩
theorem putGo_le {g : Lg} {x : En} {f i : Nat} {D : Dk} (h : x.n ≤ i) : putGo g x f i D = (0, D) := by
  cases f with
  | zero => rfl
  | succ f => exact if_pos h
set_option maxRecDepth 100000 in
set_option maxHeartbeats 4000000 in
theorem gput_any (h : LogAt o c w q g p) (hd : DiskAt o cd w p D) (ht : Tame D k) (hk : k ≤ 700000) (hcd : 1 ≤ cd) (hc : cd + 5 < c) (hf : Fut o w) (hb : g.base ≤ 1000) (x : En) (ha : x.at_ < 7) (hn : x.n ≤ 7) (hs : x.bytes.size = x.n * 64) :
    Calls Tryz.prog 207 #[.pointer (some ⟨q, 0, none⟩), x.agg] w fun e w' => e = .returned (.int .i64 (D.put_ g x).1) ∧ ∃ o', DiskAt o' cd w' p (D.put_ g x).2 ∧ Tame (D.put_ g x).2 (k + x.n) ∧ Step o (six cd) w o' w' := by
  have H := Lib.hid (h.alloc (.cells #[.int .u64 x.lsn, .int .i64 x.at_, .int .i64 x.n, .string x.bytes, .bool x.written] 157))
  have HD := Lib.hid (hd.alloc (.cells #[.int .u64 x.lsn, .int .i64 x.at_, .int .i64 x.n, .string x.bytes, .bool x.written] 157))
  have HX := Lib.hid (Keep.new hf 157 #[.int .u64 x.lsn, .int .i64 x.at_, .int .i64 x.n, .string x.bytes, .bool x.written])
  have HS := Lib.hid ((Step.refl o (six cd) w).alloc (.cells #[.int .u64 x.lsn, .int .i64 x.at_, .int .i64 x.n, .string x.bytes, .bool x.written] 157))
  have HT := Lib.hid ht
  have HN0 := Lib.hid (no_six hcd)
  have HN1 := Lib.hid (show ¬ six cd c by unfold six; omega)
  have HN2 := Lib.hid (show ¬ six cd (c + 1) by unfold six; omega)
  have HK := Lib.hid hk
  have HCD := Lib.hid hcd
  have HBA := Lib.hid hb
  have HA := Lib.hid ha
  have HN := Lib.hid hn
  have HSZ := Lib.hid hs
  have HPE := Lib.hid (show D.put_ g x = putGo g x x.n 0 D from rfl)
  generalize D.put_ g x = R at HPE ⊢
  unfold En.agg
  clear h hd ht hk hcd hc hb ha hn hs hf
  go_enter Tryz.func207, Tryz.ntmps207
  go_wp2_with fail
  generalize w.alloc (.cells #[.int .u64 x.lsn, .int .i64 x.at_, .int .i64 x.n, .string x.bytes, .bool x.written] 157) = W at H HD HX HS ⊢
  generalize w.heap.size = X at HX ⊢
  go_loopw [5] (fun t5 wr => ∃ (i f : Nat) (D1 : Dk) (o1 : Nat → Nat), i ≤ x.n ∧ t5 = .int .i64 i ∧ DiskAt o1 cd wr p D1 ∧ Tame D1 (k + i) ∧ Step o (six cd) w o1 wr ∧ LogAt o1 c wr q g p ∧ Keep o1 wr X 157 #[.int .u64 x.lsn, .int .i64 x.at_, .int .i64 x.n, .string x.bytes, .bool x.written] ∧ x.n ≤ i + f ∧ R = putGo g x f i D1) (fun t5 _ => x.n - (intOf t5).toNat)
  case atStart => exact ⟨0, x.n, D, o, by omega, rfl, HD.out, HT.out, HS.out, H.out, HX.out, by omega, HPE.out⟩
  case round =>
    obtain ⟨i, f, D1, o1, hi, rfl, hd, ht, hs, hh, hx, hf, hr⟩ := hrel
    have HD1 := Lib.hid hd
    have HT1 := Lib.hid ht
    have HS1 := Lib.hid hs
    have H1 := Lib.hid hh
    have HX1 := Lib.hid hx
    have HF := Lib.hid hf
    have HR := Lib.hid hr
    have y1 : wr.cell? ⟨X, 1, none⟩ = some (.int .i64 x.at_) := hx.1.cell 1
    have y2 : wr.cell? ⟨X, 2, none⟩ = some (.int .i64 x.n) := hx.1.cell 2
    have y3 : wr.cell? ⟨X, 3, none⟩ = some (.string x.bytes) := hx.1.cell 3
    clear hd ht hs hh hx hf hr
    by_cases hlt : i < x.n
    · have hltI : (i : Int) < (x.n : Int) := by omega
      obtain ⟨s, hs⟩ : ∃ s, x.at_ + i = s := ⟨_, rfl⟩
      obtain ⟨a, ha⟩ : ∃ a, s % 7 = a := ⟨_, rfl⟩
      have e1 : IntKind.i64.wrap ((x.at_ : Int) + (i : Int)) = (s : Int) := by rw [IntWalk.i64_in _ (by have := HA.out; have := HN.out; omega)]; omega
      have e2 : ((s : Int)).tmod 7 = (a : Int) := by rw [Int.tmod_eq_emod_of_nonneg (by omega)]; omega
      have ea : IntKind.i64.wrap (a : Int) = (a : Int) := IntWalk.i64_in _ (by omega)
      have hal : a < 7 := by omega
      obtain ⟨rr, hrr⟩ : ∃ rr, x.n - i = rr := ⟨_, rfl⟩
      obtain ⟨b, hbb⟩ : ∃ b, 7 - a = b := ⟨_, rfl⟩
      have e3 : IntKind.i64.wrap ((x.n : Int) - (i : Int)) = (rr : Int) := by rw [IntWalk.i64_in _ (by have := HN.out; omega)]; omega
      have e4 : IntKind.i64.wrap (7 - (a : Int)) = (b : Int) := by rw [IntWalk.i64_in _ (by omega)]; omega
      obtain ⟨n, hn⟩ : ∃ n, min rr b = n := ⟨_, rfl⟩
      have e5 : min (min 16 (rr : Int)) (b : Int) = (n : Int) := by have := HN.out; omega
      have e6 : (if (b : Int) < if (rr : Int) < 16 then (rr : Int) else 16 then (b : Int) else if (rr : Int) < 16 then (rr : Int) else 16) = (n : Int) := by
        have := HN.out
        rw [if_pos (show (rr : Int) < 16 by omega)]
        split <;> omega
      have HAA := Lib.hid ha
      have HAS := Lib.hid hs
      have HRR := Lib.hid hrr
      have HB_ := Lib.hid hbb
      have HNN := Lib.hid hn
      have HAL := Lib.hid hal
      clear ha hs hrr hbb hn hal
      go_upto_region 3 with (fail)
      have z1 : wr.drew.cell? ⟨X, 1, none⟩ = some (.int .i64 x.at_) := y1
      go_region_held3 (fun w' => w'.cell? ⟨X, 1, none⟩ = some (.int .i64 x.at_)) (first | exact z1 | go_keep) (first | (go_at_call 127; ((with_reducible refine (gsize_any H1.out.drew).mono ?_); rintro e2 w2 ⟨rfl, rfl⟩)))
      go_upto_region 4 with (fail)
      have z2 : wr.drew.drew.cell? ⟨X, 2, none⟩ = some (.int .i64 x.n) := y2
      go_region_held3 (fun w' => w'.cell? ⟨X, 2, none⟩ = some (.int .i64 x.n)) (first | exact z2 | go_keep) (first | (go_at_call 127; ((with_reducible refine (gsize_any H1.out.drew.drew).mono ?_); rintro e2 w2 ⟨rfl, rfl⟩)))
      clear e1 e2 e3 e4 e5 e6 ea y1 y2 z1 z2
      obtain ⟨lo, hlo⟩ : ∃ lo, i * 64 = lo := ⟨_, rfl⟩
      obtain ⟨hi', hhi⟩ : ∃ hi', (i + n) * 64 = hi' := ⟨_, rfl⟩
      obtain ⟨m, hm⟩ : ∃ m, i + n = m := ⟨_, rfl⟩
      obtain ⟨B, hB⟩ : ∃ B, g.base + 1 + a = B := ⟨_, rfl⟩
      have hmn : m ≤ x.n := by have := HNN.out; have := HRR.out; omega
      have b0 : (0 : Int) ≤ (lo : Int) := by omega
      have b1 : (lo : Int) ≤ (hi' : Int) := by omega
      have b2 : (hi' : Int) ≤ (x.bytes.size : Int) := by have := HSZ.out; omega
      have w1 : IntKind.i64.wrap ((i : Int) * 64) = (lo : Int) := by rw [IntWalk.i64_in _ (by have := HN.out; omega)]; omega
      have w2 : IntKind.i64.wrap ((i : Int) + (n : Int)) = (m : Int) := by rw [IntWalk.i64_in _ (by have := HN.out; omega)]; omega
      have w3 : IntKind.i64.wrap ((m : Int) * 64) = (hi' : Int) := by rw [IntWalk.i64_in _ (by have := HN.out; omega)]; omega
      have w4 : IntKind.i64.wrap ((g.base : Int) + 1) = (g.base : Int) + 1 := IntWalk.i64_in _ (by have := HBA.out; omega)
      have w5 : IntKind.i64.wrap ((g.base : Int) + 1 + (a : Int)) = (B : Int) := by rw [IntWalk.i64_in _ (by have := HBA.out; have := HAL.out; omega)]; omega
      have HMN := Lib.hid hmn
      have HMI := Lib.hid (show i < m by have := HNN.out; have := HRR.out; have := HB_.out; have := HAL.out; omega)
      have hds : (x.bytes.extract lo hi').size = n * 64 := by rw [ByteArray.size_extract]; have := HSZ.out; omega
      obtain ⟨S, hS⟩ : ∃ S, x.bytes.extract lo hi' = S := ⟨_, rfl⟩
      rw [hS] at hds
      obtain ⟨f', hf'⟩ : ∃ f', f = f' + 1 := ⟨f - 1, by have := HF.out; omega⟩
      have HRS := Lib.hid (show R = if (D1.write g.node g.epoch (B : Int) S).1 ≠ 0 then D1.write g.node g.epoch (B : Int) S else putGo g x f' m (D1.write g.node g.epoch (B : Int) S).2 by
        have h1 := HR.out
        rw [hf'] at h1
        have h2 : putGo g x (f' + 1) i D1 = if x.n ≤ i then (0, D1) else if (D1.write g.node g.epoch ((g.base + 1 + (x.at_ + i) % 7 : Nat) : Int) (x.bytes.extract (i * 64) ((i + min (x.n - i) (7 - (x.at_ + i) % 7)) * 64))).1 ≠ 0 then D1.write g.node g.epoch ((g.base + 1 + (x.at_ + i) % 7 : Nat) : Int) (x.bytes.extract (i * 64) ((i + min (x.n - i) (7 - (x.at_ + i) % 7)) * 64))
          else putGo g x f' (i + min (x.n - i) (7 - (x.at_ + i) % 7)) (D1.write g.node g.epoch ((g.base + 1 + (x.at_ + i) % 7 : Nat) : Int) (x.bytes.extract (i * 64) ((i + min (x.n - i) (7 - (x.at_ + i) % 7)) * 64))).2 := rfl
        rw [h2, if_neg (by omega), HAS.out, HAA.out, HRR.out, HB_.out, HNN.out, hB, hlo, hhi, hS, hm] at h1
        exact h1)
      have HFF := Lib.hid (show x.n ≤ m + f' by have := HF.out; have := HMI.out; omega)
      have HDS := Lib.hid hds
      have HME := Lib.hid hm
      clear hlo hhi hm hB hmn hds hf'
      have x4 := H1.out.drew.drew.drew.four
      have z3 : wr.drew.drew.drew.cell? ⟨X, 3, none⟩ = some (.string x.bytes) := y3
      clear y3
      go_upto_region 5 with (fail)
      go_region_held3 (fun w' => w'.cell? ⟨q, 0, none⟩ = some (.pointer (some ⟨p, 0, none⟩)) ∧ w'.cell? ⟨q, 6, none⟩ = some (.int .i64 g.node) ∧ w'.cell? ⟨q, 7, none⟩ = some (.int .u64 g.epoch) ∧ w'.cell? ⟨q, 8, none⟩ = some (.int .i64 g.base) ∧ w'.cell? ⟨X, 3, none⟩ = some (.string x.bytes))
        (first | exact ⟨x4.1, x4.2.1, x4.2.2.1, x4.2.2.2, z3⟩ | exact ⟨hx2.four.1, hx2.four.2.1, hx2.four.2.2.1, hx2.four.2.2.2, hk2.1.cell 3⟩ | go_keep)
        (first | (go_at_call 133; ((with_reducible refine (dwrite_calm HD1.out.drew.drew.drew g.node g.epoch (B : Int) S (by have := HT1.out.waits; have := HK.out; have := HN.out; omega) (by rw [HT1.out.sectors]; omega) (by have := HT1.out.seq; have := HK.out; have := HN.out; omega) (by have := HDS.out; have := HN.out; have := HMN.out; have := HNN.out; have := HRR.out; omega) HCD.out).mono ?_); rintro e2 w2 ⟨rfl, o2, hd2, hs2⟩; have hx2 := H1.out.drew.drew.drew.step hs2 HN1.out HN2.out; have hk2 := HX1.out.drew.drew.drew.step hs2 HN0.out)))
      have H2 := Lib.hid hx2
      have HX2 := Lib.hid hk2
      have HD2 := Lib.hid hd2
      have HS2 := Lib.hid (HS1.out.trans (hs2.of_drewN (n := 3)))
      have HT2 := Lib.hid ((HT1.out.write g.node g.epoch (B : Int) S).mono (m := k + m) (by rw [HDS.out, Nat.mul_div_cancel _ (by omega), ← HME.out]; omega))
      clear hx2 hk2 hd2 hs2 x4 z3 w1 w3 w4 w5 b0 b1 b2 hS
      obtain ⟨F, hF⟩ : ∃ F, D1.write g.node g.epoch (B : Int) S = F := ⟨_, rfl⟩
      rw [hF] at HRS HD2 HT2 ⊢
      obtain ⟨F, D2⟩ := F
      simp only at HD2 HT2 ⊢
      clear hF
      by_cases h1 : F = 0
      · subst h1
        have HR2 := Lib.hid (show R = putGo g x f' m D2 by rw [HRS.out]; simp)
        clear HRS
        go_wp2_with fail
        go_roundw
        case rel => exact ⟨m, f', D2, o2, HMN.out, by go_num, HD2.out, HT2.out, HS2.out, H2.out, HX2.out, HFF.out, HR2.out⟩
        case measure => have := HMI.out; have := HMN.out; simp [intOf]; omega
      · have t1 : (F != 0) = true := bne_iff_ne.2 h1
        have HR2 := Lib.hid (show R = (F, D2) by rw [HRS.out, if_pos h1])
        clear h1 HRS
        go_wp2_with fail
        go_ret
        exact ⟨by rw [HR2.out]; rfl, o2, by rw [HR2.out]; exact HD2.out, by rw [HR2.out]; exact HT2.out.mono (by have := HMN.out; omega), HS2.out⟩
    · have hltI : ¬ (i : Int) < (x.n : Int) := by omega
      have HR2 := Lib.hid (show R = (0, D1) by rw [HR.out, putGo_le (by omega)])
      go_wp2_with fail
      go_ret
      exact ⟨by rw [HR2.out]; rfl, o1, by rw [HR2.out]; exact HD1.out, by rw [HR2.out]; exact HT1.out.mono (by omega), HS1.out⟩
end
end Go.Proofs.YtkhieofknglknaaGreatDoor

/- A node's log: Write, Sync. -/
namespace Go.Proofs.YtkhieofknglknaaGreatDoor
open Go.RowKit

/-- the disk's colours, and the log's -/
def logC (cd c : Nat) : Nat → Prop := fun x => six cd x ∨ x = c ∨ x = c + 1
theorem logC_six (cd c : Nat) : ∀ x, six cd x → logC cd c x := fun _ h => .inl h
theorem logC_log (cd c : Nat) : ∀ x, only c x → logC cd c x := fun _ h => .inr (.inl h)
theorem logC_ring (cd c : Nat) : ∀ x, only (c + 1) x → logC cd c x := fun _ h => .inr (.inr h)
/-- what a call tells: how many, the error; the disk, and the log, behind it -/
structure LgR where
  n : Nat
  e : Int
  D : Dk
  g : Lg
def En.done (x : En) : En := { x with written := true, bytes := ⟨#[]⟩ }
def Lg.wrote (g : Lg) (k : Nat) (x : En) : Lg := { g with live := g.live.set k x.done, written := x.lsn }
def wrGo : List En → Nat → Nat → Dk → Lg → LgR
  | [], _, n, D, g => ⟨n, 0, D, g⟩
  | x :: l, k, n, D, g => if x.written then wrGo l (k + 1) n D g else if (D.put_ g x).1 ≠ 0 then ⟨0, (D.put_ g x).1, (D.put_ g x).2, g.failG (D.put_ g x).1⟩ else wrGo l (k + 1) (n + 1) (D.put_ g x).2 (g.wrote k x)
def writeR (D : Dk) (g : Lg) : LgR := if g.mayE ≠ 0 then ⟨0, g.mayE, D, g⟩ else wrGo g.live 0 0 D g
/-- entries that may be put -/
def Ens (l : List En) : Prop := ∀ x ∈ l, x.at_ < 7 ∧ x.n ≤ 7 ∧ (x.written = false → x.bytes.size = x.n * 64)
theorem Fut.band0 {o : Nat → Nat} {w : World} (hf : Fut o w) (m : Nat) : band o w.heap.size m 0 = o := by
  funext k
  unfold band
  split
  · exact (hf k (by omega)).symm
  · rfl
theorem wrGo_drop {l : List En} {k : Nat} {x : En} (h : l[k]? = some x) : l.drop k = x :: l.drop (k + 1) := by
  obtain ⟨hk, e⟩ := List.getElem?_eq_some_iff.1 h
  rw [← e]
  exact List.drop_eq_getElem_cons hk
theorem wrGo_true {x : En} (h : x.written = true) (l : List En) (k n : Nat) (D : Dk) (g : Lg) : wrGo (x :: l) k n D g = wrGo l (k + 1) n D g := by
  show (if x.written = true then _ else _) = _
  rw [if_pos h]
theorem wrGo_false {x : En} (h : x.written = false) (l : List En) (k n : Nat) (D : Dk) (g : Lg) : wrGo (x :: l) k n D g = if (D.put_ g x).1 ≠ 0 then ⟨0, (D.put_ g x).1, (D.put_ g x).2, g.failG (D.put_ g x).1⟩ else wrGo l (k + 1) (n + 1) (D.put_ g x).2 (g.wrote k x) := by
  show (if x.written = true then _ else _) = _
  rw [if_neg (by rw [h]; decide)]
theorem LogAt.out_ {o : Nat → Nat} {c p q : Nat} {w : World} {g : Lg} (h : LogAt o c w q g p) : ∃ r, Hid (Blk w q 159 (g.cells p r)) ∧ Hid (o q = c) ∧ Hid (EringAt o (c + 1) w r 100000 g.live) ∧ w.cell? ⟨q, 14, none⟩ = some (.pointer (some ⟨r, 0, none⟩)) ∧ w.frozen? ⟨q, 12, none⟩ = false := by
  obtain ⟨r, h1, h2, h3⟩ := h
  exact ⟨r, h1, h2, h3, h1.cell 14, h1.frozen 12⟩
theorem EringAt.drew {o : Nat → Nat} {c : Nat} {w : World} {r : Nat} {most : Int} {l : List En} (h : EringAt o c w r most l) : EringAt o c w.drew r most l := h
theorem eset_done {o : Nat → Nat} {c : Nat} {w : World} {r : Nat} {most : Int} {l : List En} (h : EringAt o c w r most l) (k : Nat) (hk : k < l.length) (x : En) :
    Calls Tryz.prog 208 #[.pointer (some ⟨r, 0, none⟩), .int .i64 k, .agg #[.int .u64 x.lsn, .int .i64 x.at_, .int .i64 x.n, .string ⟨#[]⟩, .bool true]] w fun e w' => e = .returned (.bool true) ∧ EringAt o c w' r most (l.set k x.done) ∧ Step o (only c) w o w' := eset_any h k hk x.done
section
variable {o : Nat → Nat} {c cd p q k : Nat} {w : World} {g : Lg} {D : Dk}
set_option maxRecDepth 100000 in
set_option maxHeartbeats 8000000 in
theorem gwrite_any (h : LogAt o c w q g p) (hd : DiskAt o cd w p D) (ht : Tame D k) (hk : k ≤ 600000) (hcd : 1 ≤ cd) (hc : cd + 5 < c) (hf : Fut o w) (hb : g.base ≤ 1000) (hl : g.live.length ≤ 1000) (hen : Ens g.live) :
    Calls Tryz.prog 128 #[.pointer (some ⟨q, 0, none⟩)] w fun e w' => e = .returned (.tuple #[.int .i64 (writeR D g).n, .int .i64 (writeR D g).e]) ∧ ∃ o', DiskAt o' cd w' p (writeR D g).D ∧ LogAt o' c w' q (writeR D g).g p ∧ Tame (writeR D g).D (k + 7 * g.live.length) ∧ Step o (logC cd c) w o' w' := by
  have H := Lib.hid h
  have HD := Lib.hid hd
  have HT := Lib.hid ht
  have HN0 := Lib.hid (show ¬ logC cd c 0 by unfold logC six; omega)
  have HN1 := Lib.hid (show ¬ six cd c by unfold six; omega)
  have HN2 := Lib.hid (show ¬ six cd (c + 1) by unfold six; omega)
  have HCX := Lib.hid hc
  have HNS := Lib.hid (no_six hcd)
  have HK := Lib.hid hk
  have HCD := Lib.hid hcd
  have HBA := Lib.hid hb
  have HL := Lib.hid hl
  have HEN := Lib.hid hen
  have HFU := Lib.hid hf
  have HWE := Lib.hid (show writeR D g = if g.mayE ≠ 0 then ⟨0, g.mayE, D, g⟩ else wrGo g.live 0 0 D g from rfl)
  generalize writeR D g = R at HWE ⊢
  obtain ⟨M, hM⟩ : ∃ M, g.mayE = M := ⟨_, rfl⟩
  rw [hM] at HWE
  have HMM := Lib.hid hM
  obtain ⟨r, hb', hc', hr⟩ := h
  have x14 : w.cell? ⟨q, 14, none⟩ = some (.pointer (some ⟨r, 0, none⟩)) := hb'.cell 14
  have HR := Lib.hid hr
  clear hd ht hk hcd hc hb hl hen hf hM hb' hc' hr
  by_cases h0 : M = 0
  · subst h0
    have HW2 := Lib.hid (show R = wrGo g.live 0 0 D g by rw [HWE.out]; simp)
    clear HWE
    go_enter Tryz.func128, Tryz.ntmps128
    go_wp2_with fail
    refine (gmay_any H.out).mono ?_
    rintro e w1 ⟨rfl, rfl⟩
    rw [HMM.out]
    go_wp2_with fail
    refine (elist_any 0 HR.out (by have := HL.out; omega)).mono ?_
    rintro e w1 ⟨A, cap, rfl, hv, hb1⟩
    rw [HFU.out.band0] at hv
    have HV := Lib.hid hv
    have HS1 := Lib.hid (Step.of_below o (logC cd c) hb1)
    have H1 := Lib.hid (H.out.below_ hb1)
    have HD1 := Lib.hid (HD.out.below_ hb1)
    have HF1 := Lib.hid (HFU.out.below hb1)
    obtain ⟨N, hN⟩ : ∃ N, g.live.length = N := ⟨_, rfl⟩
    have HN := Lib.hid hN
    have hNI : (N : Int) ≤ 1000 := by have := HL.out; omega
    rw [hN]
    clear hv hb1 x14 hN
    go_wp2_with fail
    go_loopw [5, 20] (fun t5 t20 wr => ∃ (j n : Nat) (D1 : Dk) (g1 : Lg) (o1 : Nat → Nat), j ≤ N ∧ n ≤ j ∧ t5 = .int .i64 n ∧ t20 = .int .i64 j ∧ DiskAt o1 cd wr p D1 ∧ Tame D1 (k + 7 * j) ∧ Step o (logC cd c) w o1 wr ∧ LogAt o1 c wr q g1 p ∧ Fut o1 wr ∧ OwnS o1 0 wr 157 5 (.slice A N cap) N (encells g.live) ∧ R = wrGo (g.live.drop j) j n D1 g1 ∧ g1.base = g.base ∧ g1.live.length = N) (fun _ t20 _ => N - (intOf t20).toNat)
    case atStart => exact ⟨0, 0, D, g, o, by omega, by omega, rfl, rfl, HD1.out, HT.out, HS1.out, H1.out, HF1.out, by have h := HV.out; rw [HN.out] at h; exact h, HW2.out, rfl, HN.out⟩
    case round =>
      obtain ⟨j, n, D1, g1, o1, hj, hn, rfl, rfl, hd, ht, hs, hh, hf, hv, hr, hg1, hg2⟩ := hrel
      have HDr := Lib.hid hd
      have HTr := Lib.hid ht
      have HSr := Lib.hid hs
      have Hr := Lib.hid hh
      have HFr := Lib.hid hf
      have HVr := Lib.hid hv
      have HRr := Lib.hid hr
      have HG1 := Lib.hid hg1
      have HG2 := Lib.hid hg2
      have HNJ := Lib.hid hn
      clear hd ht hs hh hf hv hr hg1 hg2 hn
      by_cases hlt : j < N
      · have hltI : (j : Int) < (N : Int) := by omega
        obtain ⟨x, hx⟩ : ∃ x, g.live[j]? = some x := ⟨_, List.getElem?_eq_getElem (by rw [HN.out]; exact hlt)⟩
        have HDR := Lib.hid (wrGo_drop hx)
        have HX := Lib.hid (HEN.out x (List.mem_of_getElem? hx))
        obtain ⟨ad, rfl, y0, y1, y2, y3, y4⟩ := Reads.enrow (l := g.live) (A := A) (w := wr) (by rw [HN.out]; exact Reads.of_own HVr.out.1) hx
        have HE := Lib.hid (Keep.new HFr.out 157 #[.int .u64 x.lsn, .int .i64 x.at_, .int .i64 x.n, .string x.bytes, .bool x.written])
        have HD2 := Lib.hid (HDr.out.alloc (.cells #[.int .u64 x.lsn, .int .i64 x.at_, .int .i64 x.n, .string x.bytes, .bool x.written] 157))
        have HS2 := Lib.hid (HSr.out.alloc (.cells #[.int .u64 x.lsn, .int .i64 x.at_, .int .i64 x.n, .string x.bytes, .bool x.written] 157))
        have H2 := Lib.hid (Hr.out.alloc (.cells #[.int .u64 x.lsn, .int .i64 x.at_, .int .i64 x.n, .string x.bytes, .bool x.written] 157))
        have HF2 := Lib.hid (HFr.out.alloc (.cells #[.int .u64 x.lsn, .int .i64 x.at_, .int .i64 x.n, .string x.bytes, .bool x.written] 157))
        have HV2 := Lib.hid (HVr.out.alloc (.cells #[.int .u64 x.lsn, .int .i64 x.at_, .int .i64 x.n, .string x.bytes, .bool x.written] 157))
        have HJ := Lib.hid hj
        have HJL := Lib.hid hlt
        clear hx
        cases hw : x.written with
        | true =>
          rw [hw] at y4
          have HR2 := Lib.hid (show R = wrGo (g.live.drop (j + 1)) (j + 1) n D1 g1 by rw [HRr.out, HDR.out, wrGo_true hw])
          rw [hw] at HD2 HS2 H2 HF2 HV2
          clear hw
          go_wp2_with fail
          go_roundw
          case rel => exact ⟨j + 1, n, D1, g1, o1, by omega, by have := HNJ.out; omega, by go_num, by go_num, HD2.out, HTr.out.mono (by omega), HS2.out, H2.out, HF2.out, HV2.out, HR2.out, HG1.out, HG2.out⟩
          case measure => simp [intOf]; omega
        | false =>
          have HXS := Lib.hid (HX.out.2.2 hw)
          have HR2 := Lib.hid (show R = if (D1.put_ g1 x).1 ≠ 0 then ⟨0, (D1.put_ g1 x).1, (D1.put_ g1 x).2, g1.failG (D1.put_ g1 x).1⟩ else wrGo (g.live.drop (j + 1)) (j + 1) (n + 1) (D1.put_ g1 x).2 (g1.wrote j x) by
            rw [HRr.out, HDR.out, wrGo_false hw])
          rw [hw] at y4 HE HD2 HS2 H2 HF2 HV2
          have HWF := Lib.hid hw
          clear hw
          go_upto_region 9 with (fail)
          generalize wr.alloc (.cells #[.int .u64 x.lsn, .int .i64 x.at_, .int .i64 x.n, .string x.bytes, .bool false] 157) = W at HE HD2 HS2 H2 HF2 HV2 ⊢
          have HVN := Lib.hid (show ∀ g, (Value.slice (some ad) N cap).ownBlock = some g → g ≠ wr.heap.size from fun g hg => Nat.ne_of_lt (HVr.out.lt g hg))
          have HXW := Lib.hid (show w.heap.size ≤ wr.heap.size from HSr.out.size)
          generalize wr.heap.size = X at HE HVN HXW ⊢
          clear y0 y1 y2 y3 y4
          obtain ⟨z0, z1, z2, z3, z4⟩ := HE.out.1.five
          go_wp2_with fail
          have hput := gput_any H2.out HD2.out HTr.out (by have := HK.out; have := HL.out; have := HJ.out; have := HN.out; omega) HCD.out HCX.out HF2.out (by rw [HG1.out]; exact HBA.out) x HX.out.1 HX.out.2.1 HXS.out
          rw [show x.agg = .agg #[.int .u64 x.lsn, .int .i64 x.at_, .int .i64 x.n, .string x.bytes, .bool false] by unfold En.agg; rw [HWF.out]] at hput
          refine hput.mono ?_
          clear hput
          rintro e w2 ⟨rfl, o2, hd2, ht2, hs2⟩
          have HD3 := Lib.hid hd2
          have HT3 := Lib.hid (ht2.mono (m := k + 7 * (j + 1)) (by have := HX.out.2.1; omega))
          have HE3 := Lib.hid (HE.out.step hs2 HNS.out)
          have HS3 := Lib.hid (HS2.out.trans (hs2.mono (logC_six cd c)))
          have H3 := Lib.hid (H2.out.step hs2 HN1.out HN2.out)
          have HF3 := Lib.hid (HF2.out.step hs2)
          have HV3 := Lib.hid (HV2.out.step hs2 HNS.out)
          clear hd2 ht2 hs2 z0 z1 z2 z3 z4
          obtain ⟨F, hF⟩ : ∃ F, D1.put_ g1 x = F := ⟨_, rfl⟩
          rw [hF] at HR2 HD3 HT3 ⊢
          obtain ⟨F, D3⟩ := F
          simp only at HD3 HT3 HR2 ⊢
          clear hF
          by_cases h1 : F = 0
          · subst h1
            have HR3 := Lib.hid (show R = wrGo (g.live.drop (j + 1)) (j + 1) (n + 1) D3 (g1.wrote j x) by rw [HR2.out]; simp)
            clear HR2
            obtain ⟨z0, z1, z2, z3, z4⟩ := HE3.out.1.five
            have f3 := HE3.out.1.frozen 3
            have f4 := HE3.out.1.frozen 4
            go_upto_region 13 with (fail)
            have HE4 := Lib.hid ((HE3.out.set_ 4 (.bool true)).set_ 3 (.string ⟨#[]⟩))
            have S4 := ((Step.refl o2 (only 0) w2).setCell (p := ⟨X, 4, none⟩) HE3.out.2 (.bool true)).setCell (p := ⟨X, 3, none⟩) HE3.out.2 (.string ⟨#[]⟩)
            have HD4 := Lib.hid (HD3.out.step S4 (by have := HCD.out; unfold only; omega))
            have H4 := Lib.hid (H3.out.step S4 (by have := HCX.out; unfold only; omega) (by unfold only; omega))
            have HS4 := Lib.hid ((HS3.out.setNew (p := ⟨X, 4, none⟩) HXW.out (.bool true)).setNew (p := ⟨X, 3, none⟩) HXW.out (.string ⟨#[]⟩))
            have HV4 := Lib.hid ((HV3.out.setCell (p := ⟨X, 4, none⟩) (fun e => HVN.out X e rfl) (.bool true)).setCell (p := ⟨X, 3, none⟩) (fun e => HVN.out X e rfl) (.string ⟨#[]⟩))
            have HF4 := Lib.hid ((HF3.out.setCell ⟨X, 4, none⟩ (.bool true)).setCell ⟨X, 3, none⟩ (.string ⟨#[]⟩))
            clear S4 z0 z1 z2 z3 z4 f3 f4
            generalize (w2.setCell ⟨X, 4, none⟩ (.bool true)).setCell ⟨X, 3, none⟩ (.string ⟨#[]⟩) = W4 at HE4 HD4 H4 HS4 HV4 HF4 ⊢
            obtain ⟨r4, HB4, HC4, HR4, v14, _⟩ := H4.out.out_
            have z14 : W4.drew.cell? ⟨q, 14, none⟩ = some (.pointer (some ⟨r4, 0, none⟩)) := v14
            have z5 := HE4.out.drew.1.five
            go_region_held3 (fun w' => w'.cell? ⟨q, 14, none⟩ = some (.pointer (some ⟨r4, 0, none⟩)) ∧ w'.cell? ⟨X, 0, none⟩ = some (.int .u64 x.lsn) ∧ w'.cell? ⟨X, 1, none⟩ = some (.int .i64 x.at_) ∧ w'.cell? ⟨X, 2, none⟩ = some (.int .i64 x.n) ∧ w'.cell? ⟨X, 3, none⟩ = some (.string ⟨#[]⟩) ∧ w'.cell? ⟨X, 4, none⟩ = some (.bool true))
              (first | exact ⟨z14, z5.1, z5.2.1, z5.2.2.1, z5.2.2.2.1, z5.2.2.2.2⟩ | exact ⟨hb5.cell 14, hk5.1.cell 0, hk5.1.cell 1, hk5.1.cell 2, hk5.1.cell 3, hk5.1.cell 4⟩ | go_keep)
              (first | (go_at_call 208; ((with_reducible refine (eset_done HR4.out.drew j (by rw [HG2.out]; exact HJL.out) x).mono ?_); rintro e5 w5 ⟨rfl, hr5, hs5⟩; have hb5 := HB4.out.drew.step hs5 (by rw [HC4.out]; unfold only; omega); have hk5 := HE4.out.drew.step hs5 (by unfold only; omega))))
            have g12 := hb5.frozen 12
            have y12 : w5.cell? ⟨q, 12, none⟩ = some (.int .u64 g1.written) := hb5.cell 12
            have hc5 : o2 q = c := HC4.out
            have S6 := (Step.refl o2 (only c) w5).setCell (p := ⟨q, 12, none⟩) hc5 (.int .u64 x.lsn)
            have H6 := Lib.hid (show LogAt o2 c (w5.setCell ⟨q, 12, none⟩ (.int .u64 x.lsn)) q (g1.wrote j x) p from ⟨r4, hb5.set_ 12 (.int .u64 x.lsn), hc5, hr5.step S6 (by unfold only; omega)⟩)
            have HS6 := Lib.hid ((HS4.out.trans (hs5.of_drew.mono (logC_ring cd c))).trans (S6.mono (logC_log cd c)))
            have HD6 := Lib.hid ((HD4.out.step hs5.of_drew (by have := HCX.out; unfold only; omega)).step S6 (by have := HCX.out; unfold only; omega))
            have HF6 := Lib.hid ((HF4.out.step hs5.of_drew).step S6)
            have HV6 := Lib.hid ((HV4.out.step hs5.of_drew (by unfold only; omega)).step S6 (by have := HCX.out; unfold only; omega))
            have y0 : w5.cell? ⟨X, 0, none⟩ = some (.int .u64 x.lsn) := hk5.1.cell 0
            have hw1 : IntKind.i64.wrap ((n : Int) + 1) = ((n + 1 : Nat) : Int) := by rw [IntWalk.i64_in _ (by have := HNJ.out; omega)]; omega
            clear hb5 hk5 hr5 hs5 S6 hc5 z14 z5 v14
            go_wp2_with fail
            go_roundw
            case rel => exact ⟨j + 1, n + 1, D3, g1.wrote j x, o2, by omega, by have := HNJ.out; omega, by go_num, by go_num, HD6.out, HT3.out, HS6.out, H6.out, HF6.out, HV6.out, HR3.out, HG1.out, by show (g1.live.set j x.done).length = N; rw [List.length_set]; exact HG2.out⟩
            case measure => simp [intOf]; omega
          · have t1 : (F != 0) = true := bne_iff_ne.2 h1
            have HR3 := Lib.hid (show R = ⟨0, F, D3, g1.failG F⟩ by rw [HR2.out, if_pos h1])
            clear HR2 h1
            go_wp2_with fail
            refine (gfail_any H3.out F).mono ?_
            rintro e w4 ⟨rfl, hl4, hs4⟩
            have HL4 := Lib.hid hl4
            have HS4 := Lib.hid (HS3.out.trans (hs4.mono (logC_log cd c)))
            have HD4 := Lib.hid (HD3.out.step hs4 (by have := HCX.out; unfold only; omega))
            clear hl4 hs4
            go_wp2_with fail
            go_ret2
            exact ⟨by rw [HR3.out]; rfl, o2, by rw [HR3.out]; exact HD4.out, by rw [HR3.out]; exact HL4.out, by rw [HR3.out]; exact HT3.out.mono (by have := HJ.out; have := HN.out; have := HJL.out; omega), HS4.out⟩
      · have hltI : ¬ (j : Int) < (N : Int) := by omega
        obtain rfl : j = N := by omega
        have HR2 := Lib.hid (show R = ⟨n, 0, D1, g1⟩ by rw [HRr.out, ← HN.out, List.drop_length]; rfl)
        go_wp2_with fail
        go_ret2
        exact ⟨by rw [HR2.out]; rfl, o1, by rw [HR2.out]; exact HDr.out, by rw [HR2.out]; exact Hr.out, by rw [HR2.out]; exact HN.out ▸ HTr.out, HSr.out⟩
  · have HR2 := Lib.hid (show R = ⟨0, M, D, g⟩ by rw [HWE.out, if_pos h0])
    have t1 : (M != 0) = true := bne_iff_ne.2 h0
    clear HWE h0
    go_enter Tryz.func128, Tryz.ntmps128
    go_wp2_with fail
    refine (gmay_any H.out).mono ?_
    rintro e w1 ⟨rfl, rfl⟩
    rw [HMM.out]
    go_wp2_with fail
    go_ret2
    exact ⟨by rw [HR2.out]; rfl, o, by rw [HR2.out]; exact HD.out, by rw [HR2.out]; exact H.out, by rw [HR2.out]; exact HT.out.mono (by omega), Step.refl _ _ _⟩
end
end Go.Proofs.YtkhieofknglknaaGreatDoor

/- A node's log: Sync. -/
namespace Go.Proofs.YtkhieofknglknaaGreatDoor
open Go.RowKit

def syncR (D : Dk) (g : Lg) : LgR := if (writeR D g).e ≠ 0 then writeR D g else if (writeR D g).g.written ≤ (writeR D g).g.synced then writeR D g
  else if ((writeR D g).D.barrier (writeR D g).g.node (writeR D g).g.epoch).1 ≠ 0 then ⟨0, ((writeR D g).D.barrier (writeR D g).g.node (writeR D g).g.epoch).1, ((writeR D g).D.barrier (writeR D g).g.node (writeR D g).g.epoch).2, (writeR D g).g.failG ((writeR D g).D.barrier (writeR D g).g.node (writeR D g).g.epoch).1⟩
  else ⟨0, 0, ((writeR D g).D.barrier (writeR D g).g.node (writeR D g).g.epoch).2, { (writeR D g).g with synced := (writeR D g).g.written }⟩
section
variable {o : Nat → Nat} {c cd p q k : Nat} {w : World} {g : Lg} {D : Dk}
set_option maxRecDepth 100000 in
set_option maxHeartbeats 8000000 in
theorem gsync_any (h : LogAt o c w q g p) (hd : DiskAt o cd w p D) (ht : Tame D k) (hk : k ≤ 600000) (hcd : 1 ≤ cd) (hc : cd + 5 < c) (hf : Fut o w) (hb : g.base ≤ 1000) (hl : g.live.length ≤ 1000) (hen : Ens g.live) :
    Calls Tryz.prog 22 #[.pointer (some ⟨q, 0, none⟩)] w fun e w' => e = .returned (.int .i64 (syncR D g).e) ∧ ∃ o', DiskAt o' cd w' p (syncR D g).D ∧ LogAt o' c w' q (syncR D g).g p ∧ Tame (syncR D g).D (k + 7 * g.live.length) ∧ Step o (logC cd c) w o' w' := by
  have HS := Lib.hid (show syncR D g = if (writeR D g).e ≠ 0 then writeR D g else if (writeR D g).g.written ≤ (writeR D g).g.synced then writeR D g
    else if ((writeR D g).D.barrier (writeR D g).g.node (writeR D g).g.epoch).1 ≠ 0 then ⟨0, ((writeR D g).D.barrier (writeR D g).g.node (writeR D g).g.epoch).1, ((writeR D g).D.barrier (writeR D g).g.node (writeR D g).g.epoch).2, (writeR D g).g.failG ((writeR D g).D.barrier (writeR D g).g.node (writeR D g).g.epoch).1⟩
    else ⟨0, 0, ((writeR D g).D.barrier (writeR D g).g.node (writeR D g).g.epoch).2, { (writeR D g).g with synced := (writeR D g).g.written }⟩ from rfl)
  generalize syncR D g = S at HS ⊢
  have HW := Lib.hid (gwrite_any h hd ht hk hcd hc hf hb hl hen)
  have HL := Lib.hid hl
  have HK := Lib.hid hk
  have HCX := Lib.hid hc
  have HCD := Lib.hid hcd
  have HN1 := Lib.hid (show ¬ six cd c by unfold six; omega)
  have HN2 := Lib.hid (show ¬ six cd (c + 1) by unfold six; omega)
  clear h hd ht hk hcd hc hf hb hl hen
  generalize writeR D g = R at HS HW
  obtain ⟨n1, e1, D1, g1⟩ := R
  simp only at HS HW
  go_enter Tryz.func22, Tryz.ntmps22
  go_wp2_with fail
  refine HW.out.mono ?_
  rintro e w1 ⟨rfl, o1, hd1, hg1, ht1, hs1⟩
  have HD1 := Lib.hid hd1
  have H1 := Lib.hid hg1
  have HT1 := Lib.hid ht1
  have HS1 := Lib.hid hs1
  clear hd1 hg1 ht1 hs1 HW
  by_cases h0 : e1 = 0
  · subst h0
    obtain ⟨r1, HB1, HC1, HR1, _, _⟩ := H1.out.out_
    have x12 : w1.cell? ⟨q, 12, none⟩ = some (.int .u64 g1.written) := HB1.out.cell 12
    have x13 : w1.cell? ⟨q, 13, none⟩ = some (.int .u64 g1.synced) := HB1.out.cell 13
    by_cases h2 : g1.written ≤ g1.synced
    · have HR := Lib.hid (show S = ⟨n1, 0, D1, g1⟩ by rw [HS.out]; simp [h2])
      have h2I : ¬ (g1.synced : Int) < (g1.written : Int) := by omega
      clear HS h2
      go_wp2_with fail
      go_quiet (fail)
      go_wp2_with fail
      go_ret
      exact ⟨by rw [HR.out]; rfl, o1, by rw [HR.out]; exact HD1.out.drewN nq, by rw [HR.out]; exact H1.out.drewN nq, by rw [HR.out]; exact HT1.out, HS1.out.drewN nq⟩
    · have HS2 := Lib.hid (show S = if (D1.barrier g1.node g1.epoch).1 ≠ 0 then ⟨0, (D1.barrier g1.node g1.epoch).1, (D1.barrier g1.node g1.epoch).2, g1.failG (D1.barrier g1.node g1.epoch).1⟩ else ⟨0, 0, (D1.barrier g1.node g1.epoch).2, { g1 with synced := g1.written }⟩ by rw [HS.out]; simp [h2])
      have h2I : (g1.synced : Int) < (g1.written : Int) := by omega
      clear HS h2
      go_upto_region 4 with (fail)
      go_quiet (fail)
      have HD2 := Lib.hid (HD1.out.drewN nq)
      have H2 := Lib.hid (H1.out.drewN nq)
      have HS3 := Lib.hid (HS1.out.drewN nq)
      generalize w1.drewN nq = W2 at HD2 H2 HS3 ⊢
      clear x12 x13 HB1 HC1 HR1
      go_upto_region 5 with (fail)
      have x3 := H2.out.drew.three
      go_region_held3 (fun w' => w'.cell? ⟨q, 0, none⟩ = some (.pointer (some ⟨p, 0, none⟩)) ∧ w'.cell? ⟨q, 6, none⟩ = some (.int .i64 g1.node) ∧ w'.cell? ⟨q, 7, none⟩ = some (.int .u64 g1.epoch))
        (first | exact x3 | exact hx3.three | go_keep)
        (first | (go_at_call 42; ((with_reducible refine (dbarrier_calm HD2.out.drew g1.node g1.epoch (by have := HT1.out.waits; have := HK.out; have := HL.out; omega)).mono ?_); rintro e3 w3 ⟨rfl, o3, hd3, hs3⟩; have hx3 := H2.out.drew.step hs3 HN1.out HN2.out)))
      have HD3 := Lib.hid hd3
      have H3 := Lib.hid hx3
      have HS4 := Lib.hid (HS3.out.trans (hs3.of_drew.mono (logC_six cd c)))
      have HT3 := Lib.hid (HT1.out.barrier g1.node g1.epoch)
      clear hx3 hd3 hs3 x3
      obtain ⟨F, hF⟩ : ∃ F, D1.barrier g1.node g1.epoch = F := ⟨_, rfl⟩
      rw [hF] at HS2 HD3 HT3 ⊢
      obtain ⟨F, D3⟩ := F
      simp only at HD3 HT3 HS2 ⊢
      clear hF
      obtain ⟨r3, HB3, HC3, HR3, _, _⟩ := H3.out.out_
      by_cases h1 : F = 0
      · subst h1
        have HR := Lib.hid (show S = ⟨0, 0, D3, { g1 with synced := g1.written }⟩ by rw [HS2.out]; simp)
        clear HS2
        have x12 : w3.cell? ⟨q, 12, none⟩ = some (.int .u64 g1.written) := HB3.out.cell 12
        have x13 : w3.cell? ⟨q, 13, none⟩ = some (.int .u64 g1.synced) := HB3.out.cell 13
        have f13 := HB3.out.frozen 13
        have S6 := (Step.refl o3 (only c) w3).setCell (p := ⟨q, 13, none⟩) HC3.out (.int .u64 g1.written)
        have H6 := Lib.hid (show LogAt o3 c (w3.setCell ⟨q, 13, none⟩ (.int .u64 g1.written)) q { g1 with synced := g1.written } p from ⟨r3, HB3.out.set_ 13 (.int .u64 g1.written), HC3.out, HR3.out.step S6 (by unfold only; omega)⟩)
        have HS6 := Lib.hid (HS4.out.trans (S6.mono (logC_log cd c)))
        have HD6 := Lib.hid (HD3.out.step S6 (by have := HCX.out; unfold only; omega))
        clear S6
        go_wp2_with fail
        go_ret
        exact ⟨by rw [HR.out]; rfl, o3, by rw [HR.out]; exact HD6.out, by rw [HR.out]; exact H6.out, by rw [HR.out]; exact HT3.out, HS6.out⟩
      · have t1 : (F != 0) = true := bne_iff_ne.2 h1
        have HR := Lib.hid (show S = ⟨0, F, D3, g1.failG F⟩ by rw [HS2.out, if_pos h1])
        clear HS2 h1
        go_wp2_with fail
        refine (gfail_any H3.out F).mono ?_
        rintro e w4 ⟨rfl, hl4, hs4⟩
        have HL4 := Lib.hid hl4
        have HS5 := Lib.hid (HS4.out.trans (hs4.mono (logC_log cd c)))
        have HD4 := Lib.hid (HD3.out.step hs4 (by have := HCX.out; unfold only; omega))
        clear hl4 hs4
        go_wp2_with fail
        go_ret
        exact ⟨by rw [HR.out]; rfl, o3, by rw [HR.out]; exact HD4.out, by rw [HR.out]; exact HL4.out, by rw [HR.out]; exact HT3.out, HS5.out⟩
  · have t1 : (e1 != 0) = true := bne_iff_ne.2 h0
    have HR := Lib.hid (show S = ⟨n1, e1, D1, g1⟩ by rw [HS.out, if_pos h0])
    clear HS h0
    go_wp2_with fail
    go_ret
    exact ⟨by rw [HR.out]; rfl, o1, by rw [HR.out]; exact HD1.out, by rw [HR.out]; exact H1.out, by rw [HR.out]; exact HT1.out, HS1.out⟩
end
end Go.Proofs.YtkhieofknglknaaGreatDoor
