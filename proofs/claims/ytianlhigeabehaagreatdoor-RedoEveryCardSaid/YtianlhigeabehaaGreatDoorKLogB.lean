/- A node's log: the head, a record's way to the disk. -/
import Derived.Test.YtianlhigeabehaaGreatDoorKLogA
namespace Go.Proofs.YtianlhigeabehaaGreatDoor
open Go.RowKit

/-- of 37 sectors; no more than k sectors were written (armed or not) -/
structure Tame (D : Dk) (k : Nat) : Prop where
  sectors : D.sectors = 37
  waits : D.waits.length ≤ k
  seq : D.seq ≤ k
  wf : D.wf
theorem Calm.tame {D : Dk} {k : Nat} (h : Calm D k) : Tame D k := ⟨h.sectors, h.waits, h.seq, h.wf⟩
section
variable {D : Dk} {k : Nat}
theorem Tame.mono (h : Tame D k) {m : Nat} (hm : k ≤ m) : Tame D m := ⟨h.sectors, Nat.le_trans h.waits hm, Nat.le_trans h.seq hm, h.wf⟩
theorem Tame.settle (h : Tame D k) (n : Int) : Tame (D.settle n) k := by
  obtain ⟨a1, a2, a3, a4, a5, a6, a7⟩ := settle_same D n
  exact ⟨a3.trans h.sectors, Nat.le_trans (settle_waits D n) h.waits, a7 ▸ h.seq, settle_wf h.wf n⟩
theorem Tame.goes (h : Tame D k) : Tame D.goes.2 k := by
  obtain ⟨a1, a2, _, _, _, a6⟩ := goes_keeps D
  exact ⟨a1.trans h.sectors, Nat.le_trans a6 h.waits, by rw [a2]; exact h.seq, goes_wf h.wf⟩
theorem Tame.barrier (h : Tame D k) (n : Int) (e : Nat) : Tame (D.barrier n e).2 k := by
  unfold Dk.barrier
  split
  · exact h
  · split
    · exact h
    · split
      · exact h.goes
      · exact h.goes.settle n
theorem Tame.write (h : Tame D k) (n : Int) (e : Nat) (at_ : Int) (data : ByteArray) : Tame (D.write n e at_ data).2 (k + data.size / 64) := by
  unfold Dk.write
  split
  · exact h.mono (by omega)
  · split
    · exact h.mono (by omega)
    · split
      · exact h.mono (by omega)
      · split
        · exact h.mono (by omega)
        · split
          · exact h.goes.mono (by omega)
          · have hg := h.goes
            obtain ⟨a1, a2, a3, _, _, _, _, a8, a9⟩ := writeN_same D.goes.2 n at_ data (data.size / 64)
            exact ⟨a3.trans hg.sectors, by have := hg.waits; simp only; omega, by have := hg.seq; simp only; omega, writeN_wf hg.wf n at_ data _ (by omega)⟩
end
/-- the head of a log is laid -/
def Dk.lhead (D : Dk) (g : Lg) (h : Hd) : Int × Dk := if h.putE ≠ 0 then (h.putE, D) else if (D.write g.node g.epoch g.base h.putS).1 ≠ 0 then D.write g.node g.epoch g.base h.putS else (D.write g.node g.epoch g.base h.putS).2.barrier g.node g.epoch
theorem puts_size (h : Hd) : h.putS.size ≤ 64 := by
  unfold Hd.putS
  split
  · exact Nat.zero_le _
  · rw [str_size, headL_len]
    omega
theorem Tame.lhead {D : Dk} {k : Nat} (ht : Tame D k) (g : Lg) (h : Hd) : Tame (D.lhead g h).2 (k + 1) := by
  have hs := puts_size h
  unfold Dk.lhead
  split
  · exact ht.mono (by omega)
  · split
    · exact (ht.write _ _ _ _).mono (by omega)
    · exact ((ht.write _ _ _ _).barrier _ _).mono (by omega)
/-- a record on its way to the disk, from its sector i on -/
def putGo (g : Lg) (x : En) : Nat → Nat → Dk → Int × Dk
  | 0, _, D => (0, D)
  | f + 1, i, D => if x.n ≤ i then (0, D) else
      if (D.write g.node g.epoch ((g.base + 1 + (x.at_ + i) % 7 : Nat) : Int) (x.bytes.extract (i * 64) ((i + min (x.n - i) (7 - (x.at_ + i) % 7)) * 64))).1 ≠ 0 then D.write g.node g.epoch ((g.base + 1 + (x.at_ + i) % 7 : Nat) : Int) (x.bytes.extract (i * 64) ((i + min (x.n - i) (7 - (x.at_ + i) % 7)) * 64))
      else putGo g x f (i + min (x.n - i) (7 - (x.at_ + i) % 7)) (D.write g.node g.epoch ((g.base + 1 + (x.at_ + i) % 7 : Nat) : Int) (x.bytes.extract (i * 64) ((i + min (x.n - i) (7 - (x.at_ + i) % 7)) * 64))).2
def Dk.put_ (D : Dk) (g : Lg) (x : En) : Int × Dk := putGo g x x.n 0 D
theorem LogAt.four {o : Nat → Nat} {c p q : Nat} {w : World} {g : Lg} (h : LogAt o c w q g p) : w.cell? ⟨q, 0, none⟩ = some (.pointer (some ⟨p, 0, none⟩)) ∧ w.cell? ⟨q, 6, none⟩ = some (.int .i64 g.node) ∧ w.cell? ⟨q, 7, none⟩ = some (.int .u64 g.epoch) ∧ w.cell? ⟨q, 8, none⟩ = some (.int .i64 g.base) := by
  obtain ⟨r, hb, _, _⟩ := h
  exact ⟨hb.cell 0, hb.cell 6, hb.cell 7, hb.cell 8⟩
theorem LogAt.three {o : Nat → Nat} {c p q : Nat} {w : World} {g : Lg} (h : LogAt o c w q g p) : w.cell? ⟨q, 0, none⟩ = some (.pointer (some ⟨p, 0, none⟩)) ∧ w.cell? ⟨q, 6, none⟩ = some (.int .i64 g.node) ∧ w.cell? ⟨q, 7, none⟩ = some (.int .u64 g.epoch) := ⟨h.four.1, h.four.2.1, h.four.2.2.1⟩
section
variable {o : Nat → Nat} {c cd p q k : Nat} {w : World} {g : Lg} {D : Dk}
set_option maxRecDepth 100000 in
set_option maxHeartbeats 4000000 in
theorem ghead_any (h : LogAt o c w q g p) (hd : DiskAt o cd w p D) (ht : Tame D k) (hk : k ≤ 800000) (hcd : 1 ≤ cd) (hc : cd + 5 < c) (he : g.epoch < 18446744073709551616) (lsn : Nat) (hl : lsn < 18446744073709551616) (at_ : Int) :
    Calls Tryz.prog 32 #[.pointer (some ⟨q, 0, none⟩), .int .u64 lsn, .int .i64 at_] w fun e w' => e = .returned (.int .i64 (D.lhead g ⟨g.epoch, lsn, at_⟩).1) ∧ ∃ o', DiskAt o' cd w' p (D.lhead g ⟨g.epoch, lsn, at_⟩).2 ∧ Step o (six cd) w o' w' := by
  have H := Lib.hid h
  have HD := Lib.hid hd
  have HT := Lib.hid ht
  obtain ⟨x0, x6, x7, x8⟩ := h.four
  have HN1 := Lib.hid (show ¬ six cd c by unfold six; omega)
  have HN2 := Lib.hid (show ¬ six cd (c + 1) by unfold six; omega)
  have HK := Lib.hid hk
  have HCD := Lib.hid hcd
  have HE := Lib.hid he
  have HL := Lib.hid hl
  have HDE := Lib.hid (show D.lhead g ⟨g.epoch, lsn, at_⟩ = if (Hd.mk g.epoch lsn at_).putE ≠ 0 then ((Hd.mk g.epoch lsn at_).putE, D) else if (D.write g.node g.epoch g.base (Hd.mk g.epoch lsn at_).putS).1 ≠ 0 then D.write g.node g.epoch g.base (Hd.mk g.epoch lsn at_).putS else (D.write g.node g.epoch g.base (Hd.mk g.epoch lsn at_).putS).2.barrier g.node g.epoch from rfl)
  have HPS := Lib.hid (puts_size ⟨g.epoch, lsn, at_⟩)
  clear h hd ht hk hcd hc he hl
  go_enter Tryz.func32, Tryz.ntmps32
  go_wp2_with fail
  refine (puthead_any ⟨g.epoch, lsn, at_⟩ _ HE.out HL.out).mono ?_
  rintro e w1 ⟨rfl, hb1⟩
  have H1 := Lib.hid (H.out.below_ hb1)
  have HD1 := Lib.hid (HD.out.below_ hb1)
  have HS1 := Lib.hid (Step.of_below o (six cd) hb1)
  clear hb1 x0 x6 x7 x8
  obtain ⟨E, hE⟩ : ∃ E, (Hd.mk g.epoch lsn at_).putE = E := ⟨_, rfl⟩
  obtain ⟨S, hS⟩ : ∃ S, (Hd.mk g.epoch lsn at_).putS = S := ⟨_, rfl⟩
  rw [hE, hS] at HDE
  rw [hS] at HPS
  rw [hE, hS]
  clear hE hS
  by_cases h0 : E = 0
  · subst h0
    have HD2 := Lib.hid (show D.lhead g ⟨g.epoch, lsn, at_⟩ = if (D.write g.node g.epoch g.base S).1 ≠ 0 then D.write g.node g.epoch g.base S else (D.write g.node g.epoch g.base S).2.barrier g.node g.epoch by rw [HDE.out]; rfl)
    clear HDE
    go_upto_region 4 with (fail)
    have x4 := H1.out.drew.four
    go_region_held3 (fun w' => w'.cell? ⟨q, 0, none⟩ = some (.pointer (some ⟨p, 0, none⟩)) ∧ w'.cell? ⟨q, 6, none⟩ = some (.int .i64 g.node) ∧ w'.cell? ⟨q, 7, none⟩ = some (.int .u64 g.epoch) ∧ w'.cell? ⟨q, 8, none⟩ = some (.int .i64 g.base))
      (first | exact x4 | exact hx2.four | go_keep)
      (first | (go_at_call 54; ((with_reducible refine (dwrite_calm HD1.out.drew g.node g.epoch g.base S (by have := HT.out.waits; have := HK.out; omega) (by rw [HT.out.sectors]; omega) (by have := HT.out.seq; have := HK.out; omega) (by have := HPS.out; omega) HCD.out).mono ?_); rintro e2 w2 ⟨rfl, o2, hd2, hs2⟩; have hx2 := H1.out.drew.step hs2 HN1.out HN2.out)))
    have H2 := Lib.hid hx2
    have HD2' := Lib.hid hd2
    have HS2 := Lib.hid (HS1.out.trans (hs2.of_drew))
    have HT2 := Lib.hid (HT.out.write g.node g.epoch g.base S)
    clear hx2 hd2 hs2 x4
    obtain ⟨F, hF⟩ : ∃ F, D.write g.node g.epoch g.base S = F := ⟨_, rfl⟩
    rw [hF] at HD2 HD2' HT2 ⊢
    obtain ⟨F, D2⟩ := F
    simp only at HD2' HT2 ⊢
    clear hF
    by_cases h1 : F = 0
    · subst h1
      have HR := Lib.hid (show D.lhead g ⟨g.epoch, lsn, at_⟩ = D2.barrier g.node g.epoch by rw [HD2.out]; simp)
      clear HD2
      go_upto_region 7 with (fail)
      have x3 := H2.out.drew.three
      go_region_held3 (fun w' => w'.cell? ⟨q, 0, none⟩ = some (.pointer (some ⟨p, 0, none⟩)) ∧ w'.cell? ⟨q, 6, none⟩ = some (.int .i64 g.node) ∧ w'.cell? ⟨q, 7, none⟩ = some (.int .u64 g.epoch))
        (first | exact x3 | exact hx3.three | go_keep)
        (first | (go_at_call 41; ((with_reducible refine (dbarrier_calm HD2'.out.drew g.node g.epoch (by have := HT2.out.waits; have := HK.out; have := HPS.out; omega)).mono ?_); rintro e3 w3 ⟨rfl, o3, hd3, hs3⟩; have hx3 := H2.out.drew.step hs3 HN1.out HN2.out)))
      have HD3 := Lib.hid hd3
      have HS3 := Lib.hid (HS2.out.trans hs3.of_drew)
      clear hx3 hd3 hs3 x3
      go_wp2_with fail
      go_ret
      exact ⟨by rw [HR.out]; rfl, o3, by rw [HR.out]; exact HD3.out, HS3.out⟩
    · have t1 : (F != 0) = true := bne_iff_ne.2 h1
      have HR := Lib.hid (show D.lhead g ⟨g.epoch, lsn, at_⟩ = (F, D2) by rw [HD2.out, if_pos h1])
      clear h1
      go_wp2_with fail
      go_ret
      exact ⟨by rw [HR.out]; rfl, o2, by rw [HR.out]; exact HD2'.out, HS2.out⟩
  · have t1 : (E != 0) = true := bne_iff_ne.2 h0
    have HR := Lib.hid (show D.lhead g ⟨g.epoch, lsn, at_⟩ = (E, D) by rw [HDE.out, if_pos h0])
    clear h0
    go_wp2_with fail
    go_ret
    exact ⟨by rw [HR.out]; rfl, o, by rw [HR.out]; exact HD1.out, HS1.out⟩
theorem putGo_le {g : Lg} {x : En} {f i : Nat} {D : Dk} (h : x.n ≤ i) : putGo g x f i D = (0, D) := by
  cases f with
  | zero => rfl
  | succ f => exact if_pos h
set_option maxRecDepth 100000 in
set_option maxHeartbeats 4000000 in
theorem gput_any (h : LogAt o c w q g p) (hd : DiskAt o cd w p D) (ht : Tame D k) (hk : k ≤ 700000) (hcd : 1 ≤ cd) (hc : cd + 5 < c) (hf : Fut o w) (hb : g.base ≤ 1000) (x : En) (ha : x.at_ < 7) (hn : x.n ≤ 7) (hs : x.bytes.size = x.n * 64) :
    Calls Tryz.prog 83 #[.pointer (some ⟨q, 0, none⟩), x.agg] w fun e w' => e = .returned (.int .i64 (D.put_ g x).1) ∧ ∃ o', DiskAt o' cd w' p (D.put_ g x).2 ∧ Tame (D.put_ g x).2 (k + x.n) ∧ Step o (six cd) w o' w' := by
  have H := Lib.hid (h.alloc (.cells #[.int .u64 x.lsn, .int .i64 x.at_, .int .i64 x.n, .string x.bytes, .bool x.written] 75))
  have HD := Lib.hid (hd.alloc (.cells #[.int .u64 x.lsn, .int .i64 x.at_, .int .i64 x.n, .string x.bytes, .bool x.written] 75))
  have HX := Lib.hid (Keep.new hf 75 #[.int .u64 x.lsn, .int .i64 x.at_, .int .i64 x.n, .string x.bytes, .bool x.written])
  have HS := Lib.hid ((Step.refl o (six cd) w).alloc (.cells #[.int .u64 x.lsn, .int .i64 x.at_, .int .i64 x.n, .string x.bytes, .bool x.written] 75))
  have HT := Lib.hid ht
  have HN0 := Lib.hid (no_six hcd)
  have HN1 := Lib.hid (show ¬ six cd c by unfold six; omega)
  have HN2 := Lib.hid (show ¬ six cd (c + 1) by unfold six; omega)
  have HK := Lib.hid hk
  have HCD := Lib.hid hcd
  have HBA := Lib.hid hb
  have HA := Lib.hid ha
  have HN := Lib.hid hn
  have HSZ := Lib.hid hs
  have HPE := Lib.hid (show D.put_ g x = putGo g x x.n 0 D from rfl)
  generalize D.put_ g x = R at HPE ⊢
  unfold En.agg
  clear h hd ht hk hcd hc hb ha hn hs hf
  go_enter Tryz.func83, Tryz.ntmps83
  go_wp2_with fail
  generalize w.alloc (.cells #[.int .u64 x.lsn, .int .i64 x.at_, .int .i64 x.n, .string x.bytes, .bool x.written] 75) = W at H HD HX HS ⊢
  generalize w.heap.size = X at HX ⊢
  go_loopw [5] (fun t5 wr => ∃ (i f : Nat) (D1 : Dk) (o1 : Nat → Nat), i ≤ x.n ∧ t5 = .int .i64 i ∧ DiskAt o1 cd wr p D1 ∧ Tame D1 (k + i) ∧ Step o (six cd) w o1 wr ∧ LogAt o1 c wr q g p ∧ Keep o1 wr X 75 #[.int .u64 x.lsn, .int .i64 x.at_, .int .i64 x.n, .string x.bytes, .bool x.written] ∧ x.n ≤ i + f ∧ R = putGo g x f i D1) (fun t5 _ => x.n - (intOf t5).toNat)
  case atStart => exact ⟨0, x.n, D, o, by omega, rfl, HD.out, HT.out, HS.out, H.out, HX.out, by omega, HPE.out⟩
  case round =>
    obtain ⟨i, f, D1, o1, hi, rfl, hd, ht, hs, hh, hx, hf, hr⟩ := hrel
    have HD1 := Lib.hid hd
    have HT1 := Lib.hid ht
    have HS1 := Lib.hid hs
    have H1 := Lib.hid hh
    have HX1 := Lib.hid hx
    have HF := Lib.hid hf
    have HR := Lib.hid hr
    have y1 : wr.cell? ⟨X, 1, none⟩ = some (.int .i64 x.at_) := hx.1.cell 1
    have y2 : wr.cell? ⟨X, 2, none⟩ = some (.int .i64 x.n) := hx.1.cell 2
    have y3 : wr.cell? ⟨X, 3, none⟩ = some (.string x.bytes) := hx.1.cell 3
    clear hd ht hs hh hx hf hr
    by_cases hlt : i < x.n
    · have hltI : (i : Int) < (x.n : Int) := by omega
      obtain ⟨s, hs⟩ : ∃ s, x.at_ + i = s := ⟨_, rfl⟩
      obtain ⟨a, ha⟩ : ∃ a, s % 7 = a := ⟨_, rfl⟩
      have e1 : IntKind.i64.wrap ((x.at_ : Int) + (i : Int)) = (s : Int) := by rw [IntWalk.i64_in _ (by have := HA.out; have := HN.out; omega)]; omega
      have e2 : ((s : Int)).tmod 7 = (a : Int) := by rw [Int.tmod_eq_emod_of_nonneg (by omega)]; omega
      have ea : IntKind.i64.wrap (a : Int) = (a : Int) := IntWalk.i64_in _ (by omega)
      have hal : a < 7 := by omega
      obtain ⟨rr, hrr⟩ : ∃ rr, x.n - i = rr := ⟨_, rfl⟩
      obtain ⟨b, hbb⟩ : ∃ b, 7 - a = b := ⟨_, rfl⟩
      have e3 : IntKind.i64.wrap ((x.n : Int) - (i : Int)) = (rr : Int) := by rw [IntWalk.i64_in _ (by have := HN.out; omega)]; omega
      have e4 : IntKind.i64.wrap (7 - (a : Int)) = (b : Int) := by rw [IntWalk.i64_in _ (by omega)]; omega
      obtain ⟨n, hn⟩ : ∃ n, min rr b = n := ⟨_, rfl⟩
      have e5 : min (min 16 (rr : Int)) (b : Int) = (n : Int) := by have := HN.out; omega
      have e6 : (if (b : Int) < if (rr : Int) < 16 then (rr : Int) else 16 then (b : Int) else if (rr : Int) < 16 then (rr : Int) else 16) = (n : Int) := by
        have := HN.out
        rw [if_pos (show (rr : Int) < 16 by omega)]
        split <;> omega
      have HAA := Lib.hid ha
      have HAS := Lib.hid hs
      have HRR := Lib.hid hrr
      have HB_ := Lib.hid hbb
      have HNN := Lib.hid hn
      have HAL := Lib.hid hal
      clear ha hs hrr hbb hn hal
      go_upto_region 3 with (fail)
      have z1 : wr.drew.cell? ⟨X, 1, none⟩ = some (.int .i64 x.at_) := y1
      go_region_held3 (fun w' => w'.cell? ⟨X, 1, none⟩ = some (.int .i64 x.at_)) (first | exact z1 | go_keep) (first | (go_at_call 39; ((with_reducible refine (gsize_any H1.out.drew).mono ?_); rintro e2 w2 ⟨rfl, rfl⟩)))
      go_upto_region 4 with (fail)
      have z2 : wr.drew.drew.cell? ⟨X, 2, none⟩ = some (.int .i64 x.n) := y2
      go_region_held3 (fun w' => w'.cell? ⟨X, 2, none⟩ = some (.int .i64 x.n)) (first | exact z2 | go_keep) (first | (go_at_call 39; ((with_reducible refine (gsize_any H1.out.drew.drew).mono ?_); rintro e2 w2 ⟨rfl, rfl⟩)))
      clear e1 e2 e3 e4 e5 e6 ea y1 y2 z1 z2
      obtain ⟨lo, hlo⟩ : ∃ lo, i * 64 = lo := ⟨_, rfl⟩
      obtain ⟨hi', hhi⟩ : ∃ hi', (i + n) * 64 = hi' := ⟨_, rfl⟩
      obtain ⟨m, hm⟩ : ∃ m, i + n = m := ⟨_, rfl⟩
      obtain ⟨B, hB⟩ : ∃ B, g.base + 1 + a = B := ⟨_, rfl⟩
      have hmn : m ≤ x.n := by have := HNN.out; have := HRR.out; omega
      have b0 : (0 : Int) ≤ (lo : Int) := by omega
      have b1 : (lo : Int) ≤ (hi' : Int) := by omega
      have b2 : (hi' : Int) ≤ (x.bytes.size : Int) := by have := HSZ.out; omega
      have w1 : IntKind.i64.wrap ((i : Int) * 64) = (lo : Int) := by rw [IntWalk.i64_in _ (by have := HN.out; omega)]; omega
      have w2 : IntKind.i64.wrap ((i : Int) + (n : Int)) = (m : Int) := by rw [IntWalk.i64_in _ (by have := HN.out; omega)]; omega
      have w3 : IntKind.i64.wrap ((m : Int) * 64) = (hi' : Int) := by rw [IntWalk.i64_in _ (by have := HN.out; omega)]; omega
      have w4 : IntKind.i64.wrap ((g.base : Int) + 1) = (g.base : Int) + 1 := IntWalk.i64_in _ (by have := HBA.out; omega)
      have w5 : IntKind.i64.wrap ((g.base : Int) + 1 + (a : Int)) = (B : Int) := by rw [IntWalk.i64_in _ (by have := HBA.out; have := HAL.out; omega)]; omega
      have HMN := Lib.hid hmn
      have HMI := Lib.hid (show i < m by have := HNN.out; have := HRR.out; have := HB_.out; have := HAL.out; omega)
      have hds : (x.bytes.extract lo hi').size = n * 64 := by rw [ByteArray.size_extract]; have := HSZ.out; omega
      obtain ⟨S, hS⟩ : ∃ S, x.bytes.extract lo hi' = S := ⟨_, rfl⟩
      rw [hS] at hds
      obtain ⟨f', hf'⟩ : ∃ f', f = f' + 1 := ⟨f - 1, by have := HF.out; omega⟩
      have HRS := Lib.hid (show R = if (D1.write g.node g.epoch (B : Int) S).1 ≠ 0 then D1.write g.node g.epoch (B : Int) S else putGo g x f' m (D1.write g.node g.epoch (B : Int) S).2 by
        have h1 := HR.out
        rw [hf'] at h1
        have h2 : putGo g x (f' + 1) i D1 = if x.n ≤ i then (0, D1) else if (D1.write g.node g.epoch ((g.base + 1 + (x.at_ + i) % 7 : Nat) : Int) (x.bytes.extract (i * 64) ((i + min (x.n - i) (7 - (x.at_ + i) % 7)) * 64))).1 ≠ 0 then D1.write g.node g.epoch ((g.base + 1 + (x.at_ + i) % 7 : Nat) : Int) (x.bytes.extract (i * 64) ((i + min (x.n - i) (7 - (x.at_ + i) % 7)) * 64))
          else putGo g x f' (i + min (x.n - i) (7 - (x.at_ + i) % 7)) (D1.write g.node g.epoch ((g.base + 1 + (x.at_ + i) % 7 : Nat) : Int) (x.bytes.extract (i * 64) ((i + min (x.n - i) (7 - (x.at_ + i) % 7)) * 64))).2 := rfl
        rw [h2, if_neg (by omega), HAS.out, HAA.out, HRR.out, HB_.out, HNN.out, hB, hlo, hhi, hS, hm] at h1
        exact h1)
      have HFF := Lib.hid (show x.n ≤ m + f' by have := HF.out; have := HMI.out; omega)
      have HDS := Lib.hid hds
      have HME := Lib.hid hm
      clear hlo hhi hm hB hmn hds hf'
      have x4 := H1.out.drew.drew.drew.four
      have z3 : wr.drew.drew.drew.cell? ⟨X, 3, none⟩ = some (.string x.bytes) := y3
      clear y3
      go_upto_region 5 with (fail)
      go_region_held3 (fun w' => w'.cell? ⟨q, 0, none⟩ = some (.pointer (some ⟨p, 0, none⟩)) ∧ w'.cell? ⟨q, 6, none⟩ = some (.int .i64 g.node) ∧ w'.cell? ⟨q, 7, none⟩ = some (.int .u64 g.epoch) ∧ w'.cell? ⟨q, 8, none⟩ = some (.int .i64 g.base) ∧ w'.cell? ⟨X, 3, none⟩ = some (.string x.bytes))
        (first | exact ⟨x4.1, x4.2.1, x4.2.2.1, x4.2.2.2, z3⟩ | exact ⟨hx2.four.1, hx2.four.2.1, hx2.four.2.2.1, hx2.four.2.2.2, hk2.1.cell 3⟩ | go_keep)
        (first | (go_at_call 54; ((with_reducible refine (dwrite_calm HD1.out.drew.drew.drew g.node g.epoch (B : Int) S (by have := HT1.out.waits; have := HK.out; have := HN.out; omega) (by rw [HT1.out.sectors]; omega) (by have := HT1.out.seq; have := HK.out; have := HN.out; omega) (by have := HDS.out; have := HN.out; have := HMN.out; have := HNN.out; have := HRR.out; omega) HCD.out).mono ?_); rintro e2 w2 ⟨rfl, o2, hd2, hs2⟩; have hx2 := H1.out.drew.drew.drew.step hs2 HN1.out HN2.out; have hk2 := HX1.out.drew.drew.drew.step hs2 HN0.out)))
      have H2 := Lib.hid hx2
      have HX2 := Lib.hid hk2
      have HD2 := Lib.hid hd2
      have HS2 := Lib.hid (HS1.out.trans (hs2.of_drewN (n := 3)))
      have HT2 := Lib.hid ((HT1.out.write g.node g.epoch (B : Int) S).mono (m := k + m) (by rw [HDS.out, Nat.mul_div_cancel _ (by omega), ← HME.out]; omega))
      clear hx2 hk2 hd2 hs2 x4 z3 w1 w3 w4 w5 b0 b1 b2 hS
      obtain ⟨F, hF⟩ : ∃ F, D1.write g.node g.epoch (B : Int) S = F := ⟨_, rfl⟩
      rw [hF] at HRS HD2 HT2 ⊢
      obtain ⟨F, D2⟩ := F
      simp only at HD2 HT2 ⊢
      clear hF
      by_cases h1 : F = 0
      · subst h1
        have HR2 := Lib.hid (show R = putGo g x f' m D2 by rw [HRS.out]; simp)
        clear HRS
        go_wp2_with fail
        go_roundw
        case rel => exact ⟨m, f', D2, o2, HMN.out, by go_num, HD2.out, HT2.out, HS2.out, H2.out, HX2.out, HFF.out, HR2.out⟩
        case measure => have := HMI.out; have := HMN.out; simp [intOf]; omega
      · have t1 : (F != 0) = true := bne_iff_ne.2 h1
        have HR2 := Lib.hid (show R = (F, D2) by rw [HRS.out, if_pos h1])
        clear h1 HRS
        go_wp2_with fail
        go_ret
        exact ⟨by rw [HR2.out]; rfl, o2, by rw [HR2.out]; exact HD2.out, by rw [HR2.out]; exact HT2.out.mono (by have := HMN.out; omega), HS2.out⟩
    · have hltI : ¬ (i : Int) < (x.n : Int) := by omega
      have HR2 := Lib.hid (show R = (0, D1) by rw [HR.out, putGo_le (by omega)])
      go_wp2_with fail
      go_ret
      exact ⟨by rw [HR2.out]; rfl, o1, by rw [HR2.out]; exact HD1.out, by rw [HR2.out]; exact HT1.out.mono (by omega), HS1.out⟩
end
end Go.Proofs.YtianlhigeabehaaGreatDoor
