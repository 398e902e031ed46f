/- RedoEvery, plain: a log of images that were added; what Sync makes of it. -/
import Derived.Test.YtianlhigeabehaaGreatDoorKLawX
import Derived.Test.YtianlhigeabehaaGreatDoorKBase
import Derived.Test.YtianlhigeabehaaGreatDoorKCutB
import Derived.Test.YtianlhigeabehaaGreatDoorKRecA
namespace Go.Proofs.YtianlhigeabehaaGreatDoor
open Go.RowKit

/-- the log behind the images that were added -/
def gD : List Im → Lg
  | [] => lg0
  | [i] => lg1 i
  | i :: j :: _ => lg2 i j
def lE1 : List Im → List UInt8
  | [] => zer 192
  | i :: _ => recL (rcI 1 i)
def lE2 : List Im → List UInt8
  | _ :: j :: _ => recL (rcI 2 j)
  | _ => zer 192
def rsE : List Im → List Rc
  | [] => []
  | [i] => [rcI 1 i]
  | i :: j :: _ => [rcI 1 i, rcI 2 j]
theorem add_bad {g : Lg} {i : Im} (hb : g.broken = false) (he : g.epoch ≠ 0) (hn : g.next ≠ 0) (hr : ¬ i.right) : g.addE [i] = 1 ∧ g.addG [i] = g := by
  have e : g.addE [i] = 1 := by
    unfold Lg.addE
    rw [hb, if_neg (by decide), wrong_one he hn, if_neg hr, if_pos (by decide)]
  refine ⟨e, ?_⟩
  unfold Lg.addG
  rw [if_pos (by rw [e]; decide)]
theorem gD_add {ds : List Im} (h : ds.length < 2) {i : Im} (hr : i.right) : (gD ds).addE [i] = 0 ∧ (gD ds).addG [i] = gD (ds ++ [i]) := by
  match ds, h with
  | [], _ => exact add0 hr
  | [_], _ => exact add1 hr
theorem gD_full {ds : List Im} (h : ds.length = 2) {i : Im} (hr : i.right) : (gD ds).addE [i] = 10 ∧ (gD ds).addG [i] = gD ds := by
  match ds, h with
  | [_, _], _ => exact add2 hr
theorem gD_bad {ds : List Im} (h : ds.length ≤ 2) {i : Im} (hr : ¬ i.right) : (gD ds).addE [i] = 1 ∧ (gD ds).addG [i] = gD ds := by
  match ds, h with
  | [], _ => exact add_bad rfl (show 9 ≠ 0 by decide) (show 1 ≠ 0 by decide) hr
  | [_], _ => exact add_bad rfl (show 9 ≠ 0 by decide) (show 2 ≠ 0 by decide) hr
  | [_, _], _ => exact add_bad rfl (show 9 ≠ 0 by decide) (show 3 ≠ 0 by decide) hr
theorem gD_facts {ds : List Im} (h : ds.length ≤ 2) : (gD ds).epoch = 9 ∧ (gD ds).next ≤ 3 ∧ (gD ds).live.length ≤ 2 ∧ (gD ds).used ≤ 6 ∧ (gD ds).at_ < 7 ∧ (gD ds).base = 1 ∧ Ens (gD ds).live := by
  match ds, h with
  | [], _ => exact ⟨rfl, show 1 ≤ 3 by decide, show 0 ≤ 2 by decide, show 0 ≤ 6 by decide, show 0 < 7 by decide, rfl, fun x hx => by cases hx⟩
  | [_], _ => exact ⟨rfl, show 2 ≤ 3 by decide, show 1 ≤ 2 by decide, show 3 ≤ 6 by decide, show 3 < 7 by decide, rfl, ens1 _⟩
  | [_, _], _ => exact ⟨rfl, show 3 ≤ 3 by decide, show 2 ≤ 2 by decide, show 6 ≤ 6 by decide, show 6 < 7 by decide, rfl, ens2 _ _⟩
section
variable {D : Dk} {k t2 ls : Nat} {h : List UInt8} {f : Nat → Im}
theorem View.syncD (v : View D k 9 t2 ls h (zer 192) (zer 192) (zer 64) f) {ds : List Im} (hn : ds.length ≤ 2) :
    (syncR D (gD ds)).e = 0 ∧ View (syncR D (gD ds)).D (k + 6) 9 t2 ls h (lE1 ds) (lE2 ds) (zer 64) f ∧ (Quiet D → Quiet (syncR D (gD ds)).D) ∧ (Zeros D → Zeros (syncR D (gD ds)).D) := by
  match ds, hn with
  | [], _ => exact ⟨rfl, v.mono (by omega), id, id⟩
  | [i], _ =>
    obtain ⟨a, b⟩ := v.sync1 i
    refine ⟨a, b.mono (by omega), fun q => ?_, fun z => ?_⟩
    · show Quiet (syncR D (lg1 i)).D
      rw [sync_form1 v i]
      exact q.wrote _ _ _ _
    · show Zeros (syncR D (lg1 i)).D
      rw [sync_form1 v i]
      exact (z.wrote _ _ _ _ (by omega)).settle _
  | [i, j], _ =>
    obtain ⟨a, b⟩ := v.sync2 i j
    refine ⟨a, b, fun q => ?_, fun z => ?_⟩
    · show Quiet (syncR D (lg2 i j)).D
      rw [sync_form2 v i j]
      obtain ⟨x, y, _⟩ := (((q.sane.any q.waits ((1 : Nat) : Int)).writeN 2 (str (recL (rcI 1 i))) 3).writeN 5 (str (recL (rcI 2 j))) 3).settle 0
      exact ⟨x, y⟩
    · show Zeros (syncR D (lg2 i j)).D
      rw [sync_form2 v i j]
      exact ((z.wrote _ _ _ _ (by omega)).wrote _ _ _ _ (by omega)).settle _
theorem View.openD (v : View D k 9 t2 ls h (zer 192) (zer 192) (zer 64) f) : (Quiet D → Quiet (D.lhead lg0 ⟨9, 1, 0⟩).2) ∧ (Zeros D → Zeros (D.lhead lg0 ⟨9, 1, 0⟩).2) := by
  rw [open_form v.calm v.t1]
  exact ⟨fun q => q.wrote _ _ _ _, fun z => (z.wrote _ _ _ _ (by omega)).settle _⟩
end
theorem scan_E {ds : List Im} (hn : ds.length ≤ 2) (hw : ∀ i ∈ ds, i.right ∧ i.ver < 18446744073709551616) : scanL 9 10 1 (str (lE1 ds ++ lE2 ds ++ zer 64)) = rsE ds ∧ (rsE ds).length = ds.length ∧ (rsE ds).flatMap (·.images) = ds := by
  match ds, hn with
  | [], _ => exact ⟨scan_nil, rfl, rfl⟩
  | [i], _ =>
    obtain ⟨a, b⟩ := hw i (by simp)
    exact ⟨scan_one a b, rfl, rfl⟩
  | [i, j], _ =>
    obtain ⟨a, b⟩ := hw i (by simp)
    obtain ⟨c, d⟩ := hw j (by simp)
    exact ⟨scan_two a b c d, rfl, rfl⟩
end Go.Proofs.YtianlhigeabehaaGreatDoor

/- The statements' own helpers on lists of texts: Room (of one size), Short, SameTexts (of equal lists). -/
namespace Go.Proofs.YtianlhigeabehaaGreatDoor
open Go.RowKit

theorem Reads.at1 {w : World} {A : Option Addr} {n k : Nat} {xs : List Value} (h : Reads w 1 A n xs) (hk : k < n) : ∃ ad u, A = some ad ∧ xs[k]? = some u ∧ w.cell? (ad.add k) = some u := by
  obtain ⟨ad, e, hc⟩ := h.2 (by omega)
  have hl : k < xs.length := by have := h.1; omega
  exact ⟨ad, xs[k], e, List.getElem?_eq_getElem hl, hc k _ (List.getElem?_eq_getElem hl)⟩

def room1 (left n : Int) : Int := if left < 0 ∨ left < n then -1 else left - n
set_option maxHeartbeats 400000 in
theorem room_one (w : World) (left n : Int) (g : Nat) (hc : w.cell? ⟨g, 0, none⟩ = some (.int .i64 n)) (hl : -1 ≤ left ∧ left ≤ 1000000000) (hn : 0 ≤ n ∧ n ≤ 9223372036854775807) :
    Calls Tryz.prog 18 #[.int .i64 left, .slice (some ⟨g, 0, none⟩) 1 1] w fun e w' => e = .returned (.int .i64 (room1 left n)) ∧ w = w' := by
  obtain ⟨l1, l2⟩ := hl
  obtain ⟨n1, n2⟩ := hn
  by_cases h0 : left < 0
  · have e1 : room1 left n = -1 := by unfold room1; rw [if_pos (.inl h0)]
    have E1 := Lib.hid e1
    clear e1
    go_enter Tryz.func18, Tryz.ntmps18
    go_wp2_with fail
    go_loop [0, 5] (fun l i => l = .int .i64 left ∧ i = .int .i64 0) (fun _ i => 2 - (intOf i).toNat)
    case atStart => exact ⟨rfl, rfl⟩
    case round =>
      obtain ⟨rfl, rfl⟩ := hrel
      go_wp2_with fail
      go_ret
      rw [E1.out]
      exact ⟨rfl, rfl⟩
  · by_cases h1 : left < n
    · have e1 : room1 left n = -1 := by unfold room1; rw [if_pos (.inr h1)]
      have E1 := Lib.hid e1
      clear e1
      go_enter Tryz.func18, Tryz.ntmps18
      go_wp2_with fail
      go_loop [0, 5] (fun l i => l = .int .i64 left ∧ i = .int .i64 0) (fun _ i => 2 - (intOf i).toNat)
      case atStart => exact ⟨rfl, rfl⟩
      case round =>
        obtain ⟨rfl, rfl⟩ := hrel
        go_wp2_with fail
        go_ret
        rw [E1.out]
        exact ⟨rfl, rfl⟩
    · have e1 : room1 left n = left - n := by unfold room1; rw [if_neg (by omega)]
      have E1 := Lib.hid e1
      clear e1
      go_enter Tryz.func18, Tryz.ntmps18
      go_wp2_with fail
      go_loop [0, 5] (fun l i => (l = .int .i64 left ∧ i = .int .i64 0) ∨ (l = .int .i64 (left - n) ∧ i = .int .i64 1)) (fun _ i => 2 - (intOf i).toNat)
      case atStart => exact .inl ⟨rfl, rfl⟩
      case round =>
        rcases hrel with ⟨rfl, rfl⟩ | ⟨rfl, rfl⟩
        · go_wp2_with fail
          go_round
          case rel => exact .inr ⟨rfl, rfl⟩
          case measure => simp [intOf]
        · go_wp2_with fail
          go_ret
          rw [E1.out]
          exact ⟨rfl, rfl⟩
end Go.Proofs.YtianlhigeabehaaGreatDoor

/- What RedoEvery calls besides: Restore; Light of images. -/
namespace Go.Proofs.YtianlhigeabehaaGreatDoor
open Go.RowKit

theorem drestore_any {o : Nat → Nat} {c p : Nat} {w : World} {D : Dk} (h : DiskAt o c w p D) (hs : 0 < D.sectors) : Calls Tryz.prog 16 #[.pointer (some ⟨p, 0, none⟩)] w fun e w' => e = .returned (.tuple #[]) ∧ ∃ o', DiskAt o' c w' p D.restore ∧ Step o (only c) w o' w' := by
  obtain ⟨mn, ml, wv, sv, h1⟩ := h
  have c0 : w.cell? ⟨p, 0, none⟩ = some (.int .i64 D.sectors) := h1.blk.cell 0
  have c1 : w.cell? ⟨p, 1, none⟩ = some (.bool D.on) := h1.blk.cell 1
  have f1 := h1.blk.frozen 1
  have hsI : (0 : Int) < (D.sectors : Int) := by omega
  obtain ⟨h2, h3⟩ := h1.set_ (D2 := D.restore) 1 (.bool true) rfl rfl rfl rfl rfl
  have HF := Lib.hid (show ∃ o', DiskAt o' c (w.setCell ⟨p, 1, none⟩ (.bool true)) p D.restore ∧ Step o (only c) w o' (w.setCell ⟨p, 1, none⟩ (.bool true)) from ⟨o, ⟨mn, ml, wv, sv, h2⟩, h3⟩)
  clear h1 h2 h3
  go_enter Tryz.func16, Tryz.ntmps16
  go_wp2_with fail
  go_end0
  exact ⟨rfl, HF.out⟩
theorem room1_le {left n : Int} (hl : -1 ≤ left ∧ left ≤ 1000000000) (hn : 0 ≤ n) : -1 ≤ room1 left n ∧ room1 left n ≤ 1000000000 := by
  unfold room1
  split <;> omega
/-- what Light tells: not more than few, where it is so -/
def LightPost (w : World) (ok : Prop) (e : Ending) (w' : World) : Prop := ∃ b, e = .returned (.bool b) ∧ (b = true → ok) ∧ Below w.heap.size w w'
set_option maxRecDepth 100000 in
set_option maxHeartbeats 2000000 in
theorem light_im (l : List Im) (w : World) (A : Option Addr) (cap : Nat) (few room : Int) (hrd : Reads w 3 A l.length (imcells l)) (hln : l.length ≤ maxLen) (hs : ∀ i ∈ l, i.data.size ≤ maxLen) (hr : -1 ≤ room ∧ room ≤ 1000000000) :
    Calls Tryz.prog 4 #[.int .i64 few, .int .i64 room, .slice A l.length cap] w (LightPost w ((l.length : Int) ≤ few)) := by
  have HR := Lib.hid hrd
  have HS := Lib.hid hs
  have hlI : (l.length : Int) ≤ 9223372036854775807 := by unfold maxLen at hln; omega
  clear hrd hs hln
  by_cases hf : few < (l.length : Int)
  · go_enter Tryz.func4, Tryz.ntmps4
    go_wp2_with fail
    go_ret
    exact ⟨false, rfl, by simp, Below.refl _ _⟩
  · have HFL := Lib.hid (show (l.length : Int) ≤ few by omega)
    go_enter Tryz.func4, Tryz.ntmps4
    go_wp2_with fail
    go_loopw [1, 7] (fun t1 t7 wr => ∃ (k : Nat) (r : Int), k ≤ l.length ∧ -1 ≤ r ∧ r ≤ 1000000000 ∧ t1 = .int .i64 r ∧ t7 = .int .i64 k ∧ Below w.heap.size w wr) (fun _ t7 _ => l.length - (intOf t7).toNat)
    case atStart => exact ⟨0, room, by omega, hr.1, hr.2, rfl, rfl, Below.refl _ _⟩
    case round =>
      obtain ⟨k, r, hk, hr1, hr2, rfl, rfl, hb⟩ := hrel
      have HB := Lib.hid hb
      clear hb
      by_cases hlt : k < l.length
      · have hltI : (k : Int) < (l.length : Int) := by omega
        by_cases h0 : 0 ≤ r
        · obtain ⟨x, hx⟩ : ∃ x, l[k]? = some x := ⟨_, List.getElem?_eq_getElem hlt⟩
          have hxs : (x.data.size : Int) ≤ 9223372036854775807 := by have := HS.out x (List.mem_of_getElem? hx); unfold maxLen at this; omega
          obtain ⟨ad, rfl, y0, y1, y2⟩ := (HR.out.below' (by omega) HB.out).imrow hx
          clear hx
          go_wp2_with fail
          have hc0 : (wr.alloc (.cells #[.int .i64 x.data.size] 3)).cell? ⟨wr.heap.size, 0, none⟩ = some (.int .i64 x.data.size) := (Blk.new wr 3 #[.int .i64 x.data.size]).cell 0
          have HB2 := Lib.hid (HB.out.alloc HB.out.size (.cells #[.int .i64 x.data.size] 3))
          have hrm := room1_le (left := r) (n := (x.data.size : Int)) ⟨hr1, hr2⟩ (by omega)
          refine (room_one _ r x.data.size wr.heap.size hc0 ⟨hr1, hr2⟩ ⟨by omega, hxs⟩).mono ?_
          rintro e w2 ⟨rfl, rfl⟩
          generalize room1 r (x.data.size : Int) = r2 at hrm ⊢
          clear y0 y1 y2 hc0
          go_wp2_with fail
          go_roundw
          case rel => exact ⟨k + 1, r2, by omega, hrm.1, hrm.2, rfl, by go_num, HB2.out⟩
          case measure => simp [intOf]; omega
        · go_wp2_with fail
          go_ret
          exact ⟨_, rfl, (fun _ => by first | trivial | exact HFL.out), HB.out⟩
      · have hltI : ¬ (k : Int) < (l.length : Int) := by omega
        go_wp2_with fail
        go_ret
        exact ⟨_, rfl, (fun _ => by first | trivial | exact HFL.out), HB.out⟩
end Go.Proofs.YtianlhigeabehaaGreatDoor
