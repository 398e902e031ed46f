/- The disk: Epoch, Word, Waiting, Table. -/
import Derived.Test.YtkhieofknglknaaGreatDoorKDiskF
import Derived.Test.YtkhieofknglknaaGreatDoorKCutA
import Derived.Test.YtkhieofknglknaaGreatDoorKGrow
import Derived.Test.YtkhieofknglknaaGreatDoorKLogP
import Derived.Lib.SliceRun
import Derived.Test.YtkhieofknglknaaGreatDoorKRefK
namespace Go.Proofs.YtkhieofknglknaaGreatDoor
open Go.RowKit

section
variable {o : Nat → Nat} {c p : Nat} {w : World} {D : Dk}
theorem depoch_any (h : DiskAt o c w p D) (k : Nat) (hk : k ≤ 16) : Calls Tryz.prog 50 #[.pointer (some ⟨p, 0, none⟩), .int .i64 (k : Int)] w fun e w' => e = .returned (.int .u64 (D.table k)) ∧ w = w' := by
  obtain ⟨mn, ml, wv, sv, h1⟩ := h
  have ct := h1.table k hk
  have hkI : (k : Int) < 17 := by omega
  have hkI2 : ¬ 16 < (k : Int) := by omega
  clear h1
  go_enter Tryz.func50, Tryz.ntmps50
  go_wp2_with fail
  go_ret
  exact ⟨rfl, rfl⟩
theorem dword_any (h : DiskAt o c w p D) (k : Nat) (hk : k ≤ 16) : Calls Tryz.prog 51 #[.pointer (some ⟨p, 0, none⟩), .int .i64 (k : Int)] w fun e w' => e = .returned (.int .u64 (D.words k)) ∧ w = w' := by
  obtain ⟨mn, ml, wv, sv, h1⟩ := h
  have ct := h1.word k hk
  have hkI : (k : Int) < 17 := by omega
  have hkI2 : ¬ 16 < (k : Int) := by omega
  clear h1
  go_enter Tryz.func51, Tryz.ntmps51
  go_wp2_with fail
  go_ret
  exact ⟨rfl, rfl⟩
def Dk.waiting (D : Dk) (n : Int) : Nat := if D.on = false then 0 else (D.waits.filter (fun x => decide (x.node = n))).length
set_option maxRecDepth 100000 in
set_option maxHeartbeats 4000000 in
theorem dwaiting_any (h : DiskAt o c w p D) (n : Int) (hl : D.waits.length ≤ 1000000) : Calls Tryz.prog 52 #[.pointer (some ⟨p, 0, none⟩), .int .i64 n] w fun e w' => e = .returned (.int .i64 (D.waiting n)) ∧ Below w.heap.size w w' := by
  have HON := Lib.hid (don_any h)
  obtain ⟨mn, ml, wv, sv, h1⟩ := h
  have x5 : w.cell? ⟨p, 5, none⟩ = some wv := h1.blk.cell 5
  have hw := h1.waits
  obtain ⟨A, cap, rfl, _, _⟩ := hw.form
  have hrd := hw.reads
  have HR := Lib.hid hrd
  have hlI : (D.waits.length : Int) ≤ 1000000 := by omega
  clear h1 hw hrd
  obtain ⟨b, hb⟩ : ∃ b, D.on = b := ⟨_, rfl⟩
  have HOF := Lib.hid hb
  rw [hb] at HON
  clear hb
  cases b with
  | false =>
    rw [show D.waiting n = 0 from by unfold Dk.waiting; rw [if_pos HOF.out]]
    go_enter Tryz.func52, Tryz.ntmps52
    go_wp2_with fail
    refine HON.out.mono ?_
    rintro r w1 ⟨rfl, rfl⟩
    go_wp2_with fail
    go_ret
    exact ⟨rfl, Below.refl _ _⟩
  | true =>
    rw [show D.waiting n = (D.waits.filter (fun x => decide (x.node = n))).length from by unfold Dk.waiting; rw [if_neg (by rw [HOF.out]; decide)]]
    go_enter Tryz.func52, Tryz.ntmps52
    go_wp2_with fail
    refine HON.out.mono ?_
    rintro r w1 ⟨rfl, rfl⟩
    go_wp2_with fail
    go_loopw [5, 16] (fun t5 t16 wr => ∃ i : Nat, i ≤ D.waits.length ∧ t5 = .int .i64 ((((D.waits.take i).filter (fun x => decide (x.node = n))).length : Nat) : Int) ∧ t16 = .int .i64 i ∧ Below w.heap.size w wr) (fun _ t16 _ => D.waits.length - (intOf t16).toNat)
    case atStart => exact ⟨0, by omega, rfl, rfl, Below.refl _ _⟩
    case round =>
      obtain ⟨i, hi, rfl, rfl, hbw⟩ := hrel
      by_cases hlt : i < D.waits.length
      · have hltI : (i : Int) < (D.waits.length : Int) := by omega
        obtain ⟨x, hx⟩ : ∃ x, D.waits[i]? = some x := ⟨_, List.getElem?_eq_getElem hlt⟩
        have ht : (D.waits.take (i + 1)).filter (fun x => decide (x.node = n)) = (D.waits.take i).filter (fun x => decide (x.node = n)) ++ (if decide (x.node = n) = true then [x] else []) := by
          rw [List.take_add_one, hx, Option.toList_some, List.filter_append, List.filter_cons, List.filter_nil]
        have HT := Lib.hid ht
        have HQ := Lib.hid (show ((D.waits.take i).filter (fun x => decide (x.node = n))).length ≤ i from Nat.le_trans (List.length_filter_le _ _) (by rw [List.length_take]; omega))
        clear ht
        obtain ⟨q, hq⟩ : ∃ q, ((D.waits.take i).filter (fun x => decide (x.node = n))).length = q := ⟨_, rfl⟩
        have HQE := Lib.hid hq
        rw [hq] at HQ
        rw [hq]
        have hqI : q ≤ i := HQ.out
        clear hq
        obtain ⟨ad, rfl, hc⟩ := Reads.row (f := Ws.cells) (fun _ => rfl) HR.out hx
        have y0 : wr.cell? (ad.add (i * 4)) = some (.int .i64 x.node) := cell_below (hc 0 _ rfl) hbw
        have y1 : wr.cell? ⟨(ad.add (i * 4)).block, (ad.add (i * 4)).off + 1, none⟩ = some (.int .i64 x.at_) := cell_below (hc 1 _ rfl) hbw
        have y2 : wr.cell? ⟨(ad.add (i * 4)).block, (ad.add (i * 4)).off + 2, none⟩ = some (.int .i64 x.seq) := cell_below (hc 2 _ rfl) hbw
        have y3 : wr.cell? ⟨(ad.add (i * 4)).block, (ad.add (i * 4)).off + 3, none⟩ = some (.string x.data) := cell_below (hc 3 _ rfl) hbw
        have HBW := Lib.hid (hbw.alloc hbw.size (.cells #[.int .i64 x.node, .int .i64 x.at_, .int .i64 x.seq, .string x.data] 191))
        have HX := Lib.hid (Blk.new wr 191 #[.int .i64 x.node, .int .i64 x.at_, .int .i64 x.seq, .string x.data])
        clear hx hc hbw
        go_upto_region 7 with (fail)
        generalize wr.alloc (.cells #[.int .i64 x.node, .int .i64 x.at_, .int .i64 x.seq, .string x.data] 191) = W3 at HBW HX ⊢
        generalize wr.heap.size = X at HX ⊢
        have z0 : W3.cell? ⟨X, 0, none⟩ = some (.int .i64 x.node) := HX.out.cell 0
        clear y0 y1 y2 y3
        by_cases hn : x.node = n
        · have HF := Lib.hid (show ((D.waits.take (i + 1)).filter (fun x => decide (x.node = n))).length = q + 1 by rw [HT.out, List.length_append, HQE.out]; simp [hn])
          go_wp2_with fail
          go_roundw
          case rel => exact ⟨i + 1, by omega, by rw [HF.out]; go_num, by go_num, HBW.out⟩
          case measure => simp [intOf]; omega
        · have HF := Lib.hid (show ((D.waits.take (i + 1)).filter (fun x => decide (x.node = n))).length = q by rw [HT.out, List.length_append, HQE.out]; simp [hn])
          go_wp2_with fail
          go_roundw
          case rel => exact ⟨i + 1, by omega, by rw [HF.out], by go_num, HBW.out⟩
          case measure => simp [intOf]; omega
      · have hltI : ¬ (i : Int) < (D.waits.length : Int) := by omega
        obtain rfl : i = D.waits.length := by omega
        rw [List.take_length]
        go_wp2_with fail
        go_ret
        exact ⟨rfl, hbw⟩
theorem eql_slice_some {P : Program} (w : World) (t e : TypeId) (a : Addr) (n c : Nat) (h : P.underlying t = some (.slice e)) : (binOp .eql t (.slice (some a) n c) (.slice none 0 0)).run P w = .ok (.bool false) w := by
  have h1 := Lib.run_eql_slice_nil w t e (some a) n c 0 0 h
  exact h1
theorem info_u64 : (Tryz.prog.info? 27).map (fun i => (i.zero, i.size, i.bytes)) = some (some (.int .u64 0), 1, 8) := by kernel_rfl
set_option maxRecDepth 100000 in
set_option maxHeartbeats 4000000 in
theorem clonenums_any (o : Nat → Nat) (d : Nat) (w : World) (a : Addr) (m cap : Nat) (xs : List Value) (h : Reads w 1 (some a) m xs) (h1 : ∀ u ∈ xs, u.oneCell' = true) (hm : m ≤ 1000000) :
    Calls Tryz.prog 158 #[.slice (some a) m cap] w fun e w' => ∃ v, e = .returned v ∧ OwnS (band o w.heap.size w'.heap.size d) d w' 27 1 v m xs ∧ Below w.heap.size w w' := by
  obtain ⟨i0, hi0, hz0, hz1, hz2⟩ := info_parts info_u64
  have HO := Lib.hid (show OwnS (band o w.heap.size (w.heap.size + 1) d) d (w.alloc (.cells #[] 27)) 27 1 (.slice (some ⟨w.heap.size, 0, none⟩) 0 0) 0 [] from OwnS.of_blk (Blk.new w 27 #[]) (band_in (Nat.le_refl _) (by omega)) (Nat.le_refl _) (by unfold maxLen; omega) rfl rfl)
  have HR := Lib.hid (Reads.alloc' h (by omega) (.cells #[] 27))
  clear h
  have hq := fun w : World => eql_slice_some (P := Tryz.prog) w 109 27 a m cap Tryz.underlying109
  go_enter Tryz.func158, Tryz.ntmps158
  go_wp2_with (at_builtin; refine wpList_append_S _ rfl (.tmp 5) (.tmp 6) 109 rfl 27 i0 _ 1 8 Tryz.underlying109 hi0 hz0 hz1 hz2 rfl (by omega) (.slice (some ⟨w.heap.size, 0, none⟩) 0 0) 0 [] rfl HO.out (some a) m cap xs rfl HR.out h1 (by unfold maxLen; omega) (by omega) ?_; intro v7 w7 hown7 hst7 hgr7 hat7)
  obtain ⟨A7, cap7, rfl, _, _⟩ := own_form' hown7
  have hb7 : Below w.heap.size w w7 := by
    have hb0 := (Below.refl w.heap.size w).alloc (Nat.le_refl _) (.cells #[] 27)
    have hz := hgr7.size
    refine ⟨hgr7.os, hgr7.tape, hgr7.output, Nat.le_trans hb0.size hz, fun k hk => (hgr7.block k (Nat.lt_of_lt_of_le hk hb0.size) (by simp [Value.ownBlock]; omega)).trans (hb0.block k hk)⟩
  have hnew : ∀ g, (Value.slice A7 (0 + m) cap7).ownBlock = some g → w.heap.size ≤ g := by
    intro g hg
    rcases hat7 with h2 | h2
    · rw [h2] at hg
      simp [Value.ownBlock] at hg
      omega
    · rw [h2] at hg
      simp at hg
      omega
  have HF := Lib.hid (show OwnS (band o w.heap.size w7.heap.size d) d w7 27 1 (.slice A7 (0 + m) cap7) (0 + m) ([] ++ xs) from ⟨hown7.1, fun g hg => band_in (hnew g hg) (hown7.lt g hg)⟩)
  clear hnew
  simp only [Nat.zero_add, List.nil_append] at HF ⊢
  clear hown7 hst7 hgr7 hat7
  go_wp2_with fail
  go_ret
  exact ⟨_, rfl, HF.out, hb7⟩
def numcells (f : Nat → Nat) : List Value := (List.range 17).map (fun k => .int .u64 (f k))
theorem numcells_get {f : Nat → Nat} {j : Nat} {u : Value} (h : (numcells f)[j]? = some u) : j ≤ 16 ∧ u = .int .u64 (f j) := by
  unfold numcells at h
  rw [List.getElem?_map] at h
  by_cases hj : j < 17
  · rw [List.getElem?_range hj] at h
    injection h with h
    exact ⟨by omega, h.symm⟩
  · rw [List.getElem?_eq_none (by simp; omega)] at h
    cases h
theorem numcells_one (f : Nat → Nat) : ∀ u ∈ numcells f, u.oneCell' = true := by
  intro u hu
  obtain ⟨k, _, rfl⟩ := List.mem_map.1 hu
  rfl
theorem DiskIn.nums {mn ml : Nat} {wv sv : Value} (h : DiskIn o c w p D mn ml wv sv) : Reads w 1 (some ⟨p, 6, none⟩) 17 (numcells D.table) := by
  refine ⟨by simp [numcells], fun _ => ⟨_, rfl, fun j u hu => ?_⟩⟩
  obtain ⟨hj, rfl⟩ := numcells_get hu
  have := h.table j hj
  unfold Addr.add
  split
  · subst_vars; exact this
  · exact this
theorem dtable_any (oo : Nat → Nat) (d : Nat) (h : DiskAt o c w p D) : Calls Tryz.prog 45 #[.pointer (some ⟨p, 0, none⟩)] w fun e w' => ∃ v, e = .returned v ∧ OwnS (band oo w.heap.size w'.heap.size d) d w' 27 1 v 17 (numcells D.table) ∧ Below w.heap.size w w' := by
  obtain ⟨mn, ml, wv, sv, h1⟩ := h
  have HN := Lib.hid h1.nums
  clear h1
  go_enter Tryz.func45, Tryz.ntmps45
  go_wp2_with fail
  refine (clonenums_any oo d w ⟨p, 6, none⟩ 17 17 _ HN.out (numcells_one _) (by omega)).mono ?_
  rintro e w1 ⟨v, rfl, ho, hb⟩
  have HO := Lib.hid ho
  have HB := Lib.hid hb
  obtain ⟨A7, cap7, rfl, _, _⟩ := own_form' ho
  clear ho hb
  go_wp2_with fail
  go_ret
  exact ⟨_, rfl, HO.out, HB.out⟩
set_option maxRecDepth 100000 in
set_option maxHeartbeats 4000000 in
theorem samenums_yes (f : Nat → Nat) (a b : Addr) (ca cb : Nat) (w : World) (ha : Reads w 1 (some a) 17 (numcells f)) (hb : Reads w 1 (some b) 17 (numcells f)) :
    Calls Tryz.prog 46 #[.slice (some a) 17 ca, .slice (some b) 17 cb] w fun e w' => e = .returned (.bool true) ∧ Below w.heap.size w w' := by
  have HA := Lib.hid ha
  have HB := Lib.hid hb
  clear ha hb
  go_enter Tryz.func46, Tryz.ntmps46
  go_wp2_with fail
  go_loopw [5] (fun t5 wr => ∃ i : Nat, i ≤ 17 ∧ t5 = .int .i64 i ∧ Below w.heap.size w wr) (fun t5 _ => 17 - (intOf t5).toNat)
  case atStart => exact ⟨0, by omega, rfl, Below.refl _ _⟩
  case round =>
    obtain ⟨i, hi, rfl, hbw⟩ := hrel
    by_cases hlt : i < 17
    · have hltI : (i : Int) < 17 := by omega
      have hx : (numcells f)[i]? = some (.int .u64 (f i)) := by unfold numcells; rw [List.getElem?_map, List.getElem?_range hlt]; rfl
      obtain ⟨_, e1, c1⟩ := HA.out.2 (by omega)
      obtain ⟨_, e2, c2⟩ := HB.out.2 (by omega)
      injection e1 with e1
      injection e2 with e2
      subst e1 e2
      have y1 := cell_below (c1 i _ hx) hbw
      have y2 := cell_below (c2 i _ hx) hbw
      have HBW := Lib.hid hbw
      clear hbw hx c1 c2
      go_upto_region 6 with (fail)
      go_quiet (fail)
      go_wp2_with fail
      go_roundw
      case rel => exact ⟨i + 1, by omega, by go_num, HBW.out.trans ⟨rfl, rfl, rfl, Nat.le_refl _, fun _ _ => rfl⟩⟩
      case measure => simp [intOf]; omega
    · have hltI : ¬ (i : Int) < 17 := by omega
      go_wp2_with fail
      go_ret
      exact ⟨rfl, hbw⟩
end
end Go.Proofs.YtkhieofknglknaaGreatDoor

/- A real disk and the document's, shown side by side: Same tells true where the one is the other. -/
namespace Go.Proofs.YtkhieofknglknaaGreatDoor
open Go.RowKit

section
variable {o : Nat → Nat} {c cr p q : Nat} {w : World} {D : Dk} {R : RF} {kv : Value}
theorem RefIn.nums (h : RefIn o c w q R kv) : Reads w 1 (some ⟨q, 3, none⟩) 17 (numcells R.table) := by
  obtain ⟨lv, hb, _, _⟩ := h
  refine ⟨by simp [numcells], fun _ => ⟨_, rfl, fun j u hu => ?_⟩⟩
  obtain ⟨hj, rfl⟩ := numcells_get hu
  have := (hb.cell (3 + j)).trans (rf_table R lv kv j hj)
  unfold Addr.add
  split
  · subst_vars; exact this
  · exact this
theorem Sim.waits_ (h : Sim D R) (n : Int) : D.waiting n = R.waiting n := by
  unfold Dk.waiting RF.waiting
  rw [h.waiting n, h.on]
  cases R.off <;> rfl
theorem RefIn.drew (h : RefIn o c w q R kv) : RefIn o c w.drew q R kv := h.below_ ⟨rfl, rfl, rfl, Nat.le_refl _, fun _ _ => rfl⟩
/-- what stays as it is while both are read -/
structure Both (o : Nat → Nat) (c cr : Nat) (w wr : World) (p q : Nat) (D : Dk) (R : RF) (kv : Value) : Prop where
  disk : DiskAt o c wr p D
  ref : RefIn o cr wr q R kv
  below : Below w.heap.size w wr
theorem Both.more {wr w' : World} (h : Both o c cr w wr p q D R kv) (hb : Below wr.heap.size wr w') : Both o c cr w w' p q D R kv :=
  ⟨h.disk.below_ hb, h.ref.below_ hb, h.below.trans (hb.mono h.below.size)⟩
theorem Both.cells {wr : World} (h : Both o c cr w wr p q D R kv) : wr.cell? ⟨q, 0, none⟩ = some (.int .i64 R.room) ∧ wr.cell? ⟨q, 2, none⟩ = some (.bool R.off) ∧ wr.cell? ⟨q, 37, none⟩ = some (.int .u64 R.last) := by
  obtain ⟨lv, hb, _, _⟩ := h.ref
  exact ⟨hb.cell 0, hb.cell 2, hb.cell 37⟩
theorem Both.two {wr : World} (h : Both o c cr w wr p q D R kv) (k : Nat) (hk : k ≤ 16) : wr.cell? ⟨q, 3 + k, none⟩ = some (.int .u64 (R.table k)) ∧ wr.cell? ⟨q, 20 + k, none⟩ = some (.int .u64 (R.words k)) := by
  obtain ⟨lv, hb, _, _⟩ := h.ref
  exact ⟨(hb.cell _).trans (rf_table R lv kv k hk), (hb.cell _).trans (rf_word R lv kv k hk)⟩
theorem drewB (w : World) : Below w.heap.size w w.drew := ⟨rfl, rfl, rfl, Nat.le_refl _, fun _ _ => rfl⟩
theorem off_eq (b : Bool) : ((!b) == b) = false := by cases b <;> rfl
set_option maxRecDepth 100000 in
set_option maxHeartbeats 16000000 in
theorem same8_any (h : DiskAt o c w p D) (hr : RefIn o cr w q R kv) (hs : Sim D R) (hwf : D.wf) (hrw : ∀ x ∈ R.ws, x.data.size = 64) (hroom : R.room ≤ 20000) (hw : D.waits.length ≤ 1000000) (hl : R.ws.length ≤ 1000000) :
    Calls Tryz.prog 14 #[.pointer (some ⟨p, 0, none⟩), .pointer (some ⟨q, 0, none⟩)] w fun e w' => e = .returned (.bool true) ∧ Below w.heap.size w w' := by
  have HB := Lib.hid (show Both o c cr w w p q D R kv from ⟨h, hr, Below.refl _ _⟩)
  have HWF := Lib.hid hwf
  have HRW := Lib.hid hrw
  have HS := Lib.hid hs
  have HW := Lib.hid hw
  have HL := Lib.hid hl
  have HDS := Lib.hid (show D.sectors ≤ 20000 by rw [hs.room]; exact hroom)
  have HRR := Lib.hid hroom
  have hroomI : (R.room : Int) ≤ 20000 := by omega
  have HON := Lib.hid (fun (W : World) (hb : Both o c cr w W p q D R kv) => (show Calls Tryz.prog 47 #[.pointer (some ⟨p, 0, none⟩)] W fun e w' => e = .returned (.bool (!R.off)) ∧ W = w' from by rw [← hs.on]; exact don_any hb.disk))
  have HLA := Lib.hid (fun (W : World) (hb : Both o c cr w W p q D R kv) => (show Calls Tryz.prog 48 #[.pointer (some ⟨p, 0, none⟩)] W fun e w' => e = .returned (.int .u64 R.last) ∧ W = w' from by rw [← hs.last]; exact dlast_any hb.disk))
  have HSE := Lib.hid (fun (W : World) (hb : Both o c cr w W p q D R kv) => (show Calls Tryz.prog 49 #[.pointer (some ⟨p, 0, none⟩)] W fun e w' => e = .returned (.int .i64 R.room) ∧ W = w' from by rw [← hs.room]; exact dsectors_any hb.disk))
  have HEP := Lib.hid (fun (W : World) (hb : Both o c cr w W p q D R kv) (k : Nat) (hk : k ≤ 16) => (show Calls Tryz.prog 50 #[.pointer (some ⟨p, 0, none⟩), .int .i64 (k : Int)] W fun e w' => e = .returned (.int .u64 (R.table k)) ∧ W = w' from by rw [← hs.table]; exact depoch_any hb.disk k hk))
  have HWO := Lib.hid (fun (W : World) (hb : Both o c cr w W p q D R kv) (k : Nat) (hk : k ≤ 16) => (show Calls Tryz.prog 51 #[.pointer (some ⟨p, 0, none⟩), .int .i64 (k : Int)] W fun e w' => e = .returned (.int .u64 (R.words k)) ∧ W = w' from by rw [← hs.words]; exact dword_any hb.disk k hk))
  have HWA := Lib.hid (fun (W : World) (hb : Both o c cr w W p q D R kv) (k : Int) => (show Calls Tryz.prog 52 #[.pointer (some ⟨p, 0, none⟩), .int .i64 k] W fun e w' => e = .returned (.int .i64 (R.waiting k)) ∧ Below W.heap.size W w' from by rw [← hs.waits_]; exact dwaiting_any hb.disk k HW.out))
  have HRWA := Lib.hid (fun (W : World) (hb : Both o c cr w W p q D R kv) (k : Int) => rfwaiting_any hb.ref k HL.out)
  have HRD := Lib.hid (fun (W : World) (hb : Both o c cr w W p q D R kv) (a n : Int) => (show Calls Tryz.prog 54 #[.pointer (some ⟨p, 0, none⟩), .int .i64 a, .int .i64 n] W fun e w' => e = .returned (.tuple #[.string (R.readS a n), .int .i64 (R.readE a n)]) ∧ Below W.heap.size W w' from by rw [← hs.readS, ← hs.readE]; exact dread_any hb.disk a n HDS.out HWF.out))
  have HRRD := Lib.hid (fun (W : World) (hb : Both o c cr w W p q D R kv) (a n : Int) => rfread_any hb.ref a n HL.out HRW.out (by have := HRR.out; omega))
  have HOE := Lib.hid (off_eq R.off)
  have HTB := Lib.hid (dtable_any (p := p) (fun _ => 0) 1 h)
  have HTE := Lib.hid hs.table
  clear h hr hs hwf hrw hroom hw hl
  go_enter Tryz.func14, Tryz.ntmps14
  go_wp2_with fail
  refine HTB.out.mono ?_
  rintro e w1 ⟨v, rfl, ho, hb⟩
  have HB1 := Lib.hid (HB.out.more hb)
  rw [HTE.out] at ho
  obtain ⟨A1, cap1, rfl, _, _⟩ := own_form' ho
  obtain ⟨g1, rfl, _, _⟩ := ho.addr (by omega)
  have HO1 := Lib.hid (Reads.of_own ho.1)
  clear ho hb HTB HTE
  go_upto_region 2 with (fail)
  obtain ⟨y0, y2, y37⟩ := (HB1.out.more (drewB _)).cells
  have off_ := HOE.out
  go_region_held3 (fun w' => w'.cell? ⟨q, 0, none⟩ = some (.int .i64 R.room) ∧ w'.cell? ⟨q, 2, none⟩ = some (.bool R.off) ∧ w'.cell? ⟨q, 37, none⟩ = some (.int .u64 R.last))
    (first | exact ⟨y0, y2, y37⟩ | exact hcl | go_keep)
    (first
      | (go_at_call 46; ((with_reducible refine (samenums_yes R.table ⟨g1, 0, none⟩ ⟨q, 3, none⟩ cap1 17 w1.drew HO1.out.drew HB1.out.ref.nums.drew).mono ?_); rintro e5 w5 ⟨rfl, hb5⟩; have hB5 := (HB1.out.more (drewB _)).more hb5; have hcl := hB5.cells))
      | (go_at_call 47; ((with_reducible refine (HON.out w5 hB5).mono ?_); rintro e6 w6 ⟨rfl, rfl⟩))
      | (go_at_call 48; ((with_reducible refine (HLA.out w5 hB5).mono ?_); rintro e6 w6 ⟨rfl, rfl⟩))
      | (go_at_call 49; ((with_reducible refine (HSE.out w5 hB5).mono ?_); rintro e6 w6 ⟨rfl, rfl⟩)))
  have HB5 := Lib.hid hB5
  clear hB5 hcl hb5 y0 y2 y37 off_ HON HLA HSE HO1
  go_wp2_with fail
  go_loopw [6] (fun t6 wr => ∃ i : Nat, i ≤ 17 ∧ t6 = .int .i64 i ∧ Both o c cr w wr p q D R kv) (fun t6 _ => 17 - (intOf t6).toNat)
  case atStart => exact ⟨0, by omega, rfl, HB5.out⟩
  case round =>
    obtain ⟨i, hi, rfl, hb⟩ := hrel
    have HBi := Lib.hid hb
    clear hb
    by_cases hlt : i < 17
    · have hltI : (i : Int) ≤ 16 := by omega
      have hltI2 : (i : Int) < 17 := by omega
      have HI16 := Lib.hid (show i ≤ 16 by omega)
      have HIL := Lib.hid hlt
      go_upto_region 7 with (fail)
      obtain ⟨t0, t1⟩ := (HBi.out.more (drewB _)).two i HI16.out
      go_region_held3 (fun w' => w'.cell? ⟨q, 3 + i, none⟩ = some (.int .u64 (R.table i)) ∧ w'.cell? ⟨q, 20 + i, none⟩ = some (.int .u64 (R.words i)))
        (first | exact ⟨t0, t1⟩ | exact hcl | go_keep)
        (first
          | (go_at_call 50; ((with_reducible refine (HEP.out wr.drew (HBi.out.more (drewB _)) i HI16.out).mono ?_); rintro e6 w6 ⟨rfl, rfl⟩))
          | (go_at_call 51; ((with_reducible refine (HWO.out wr.drew (HBi.out.more (drewB _)) i HI16.out).mono ?_); rintro e6 w6 ⟨rfl, rfl⟩))
          | (go_at_call 52; ((with_reducible refine (HWA.out wr.drew (HBi.out.more (drewB _)) i).mono ?_); rintro e6 w6 ⟨rfl, hb6⟩; have hB6 := (HBi.out.more (drewB _)).more hb6; have hcl := hB6.two i HI16.out))
          | (go_at_call 53; ((with_reducible refine (HRWA.out w6 hB6 i).mono ?_); rintro e7 w7 ⟨rfl, rfl⟩)))
      have HB6 := Lib.hid hB6
      clear hB6 hcl hb6 t0 t1
      go_wp2_with fail
      go_roundw
      case rel => exact ⟨i + 1, by have := HIL.out; omega, by go_num, HB6.out⟩
      case measure => have := HIL.out; simp [intOf]; omega
    · have hltI : ¬ (i : Int) ≤ 16 := by omega
      clear hltI
      obtain rfl : i = 17 := by omega
      rw [show ((17 : Nat) : Int) = (17 : Int) from rfl]
      clear HEP HWO HWA HRWA hlt hi
      obtain ⟨y0, _, _⟩ := HBi.out.cells
      go_wp2_with fail
      clear y0
      go_loopw [7] (fun t7 wr => ∃ a : Nat, a ≤ R.room + 40 ∧ t7 = .int .i64 a ∧ Both o c cr w wr p q D R kv) (fun t7 _ => R.room + 40 - (intOf t7).toNat)
      case atStart => exact ⟨0, by omega, rfl, HBi.out⟩
      case round =>
        obtain ⟨a, ha, rfl, hb⟩ := hrel
        have HBa := Lib.hid hb
        clear hb
        obtain ⟨y0, _, _⟩ := HBa.out.cells
        by_cases hlt : a < R.room
        · have hltI : (a : Int) < (R.room : Int) := by omega
          have HAL := Lib.hid hlt
          have wsub : IntKind.i64.wrap ((R.room : Int) - (a : Int)) = (R.room : Int) - (a : Int) := IntWalk.i64_in _ (by omega)
          obtain ⟨n, hn⟩ : ∃ n : Int, min 40 ((R.room : Int) - (a : Int)) = n := ⟨_, rfl⟩
          go_upto_region 13 with (fail)
          clear y0 wsub
          have wadd : IntKind.i64.wrap ((a : Int) + 40) = ((a + 40 : Nat) : Int) := by rw [IntWalk.i64_in _ (by omega)]; omega
          have HWADD := Lib.hid wadd
          clear wadd
          clear hn
          obtain ⟨S, hS⟩ : ∃ S, R.readS (a : Int) n = S := ⟨_, rfl⟩
          obtain ⟨E, hE⟩ : ∃ E, R.readE (a : Int) n = E := ⟨_, rfl⟩
          have h1 := HRD.out wr HBa.out a n
          have h2 := fun (W : World) (hb : Both o c cr w W p q D R kv) => HRRD.out W hb a n
          rw [hS, hE] at h1
          simp only [hS, hE] at h2
          have H1 := Lib.hid h1
          have H2 := Lib.hid h2
          clear h1 h2 hS hE
          go_wp2_with fail
          refine H1.out.mono ?_
          rintro e w5 ⟨rfl, hb5⟩
          have HB6 := Lib.hid (HBa.out.more hb5)
          clear hb5
          go_wp2_with fail
          refine (H2.out w5 HB6.out).mono ?_
          rintro e w6 ⟨rfl, hb6⟩
          have HB7 := Lib.hid (HB6.out.more hb6)
          clear hb6
          go_wp2_with fail
          go_roundw
          case rel => exact ⟨a + 40, by have := HAL.out; omega, by first | rfl | go_num, HB7.out⟩
          case measure => have := HAL.out; simp [intOf]; omega
        · have hltI : ¬ (a : Int) < (R.room : Int) := by omega
          go_wp2_with fail
          go_ret
          exact ⟨rfl, HBa.out.below⟩
end
end Go.Proofs.YtkhieofknglknaaGreatDoor
