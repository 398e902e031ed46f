/- What RedoPlans calls besides: Scan of no disk; rows that are shortened, or take a colour; the length of a plan. -/
import Derived.Test.YtkhieofknglknaaGreatDoorKSimQ
import Derived.Test.YtkhieofknglknaaGreatDoorKLawW
import Derived.Test.YtkhieofknglknaaGreatDoorKGrow
import Derived.Test.YtkhieofknglknaaGreatDoorKSame8
import Derived.Test.YtkhieofknglknaaGreatDoorKReadyS
import Derived.Test.YtkhieofknglknaaGreatDoorKApartI
import Derived.Test.YtkhieofknglknaaGreatDoorKBookK
import Derived.Test.YtkhieofknglknaaGreatDoorKLogP
namespace Go.Proofs.YtkhieofknglknaaGreatDoor
open Go.RowKit

theorem ehead_nil (w : World) (node : Int) : Calls Tryz.prog 56 #[.pointer none, .agg #[.int .i64 2, .int .i64 10, .int .i64 8, .int .i64 4, .int .i64 32], .int .i64 node] w fun e w' => e = .returned (.tuple #[.agg #[.int .u64 0, .int .u64 0, .int .i64 0], .bool false, .int .i64 1]) ∧ Below w.heap.size w w' := by
  have hB0 := (Below.refl w.heap.size w).alloc (Nat.le_refl _) (.cells #[.int .i64 2, .int .i64 10, .int .i64 8, .int .i64 4, .int .i64 32] 36)
  have HB := Lib.hid (hB0.alloc hB0.size (.cells #[.int .u64 0, .int .u64 0, .int .i64 0] 118))
  have HZ := Lib.hid (Blk.new (w.alloc (.cells #[.int .i64 2, .int .i64 10, .int .i64 8, .int .i64 4, .int .i64 32] 36)) 118 #[.int .u64 0, .int .u64 0, .int .i64 0])
  rw [show (w.alloc (.cells #[.int .i64 2, .int .i64 10, .int .i64 8, .int .i64 4, .int .i64 32] 36)).heap.size = w.heap.size + 1 by simp] at HZ
  have HSZ := Lib.hid (show w.heap.size ≤ w.heap.size + 1 by omega)
  clear hB0
  go_enter Tryz.func56, Tryz.ntmps56
  go_wp2_with fail
  generalize (w.alloc (.cells #[.int .i64 2, .int .i64 10, .int .i64 8, .int .i64 4, .int .i64 32] 36)).alloc (.cells #[.int .u64 0, .int .u64 0, .int .i64 0] 118) = W at HB HZ ⊢
  have z0 := HZ.out.cell 0
  have z1 := HZ.out.cell 1
  have z2 := HZ.out.cell 2
  have f0 := HZ.out.frozen 0
  have f1 := HZ.out.frozen 1
  have f2 := HZ.out.frozen 2
  simp at z0 z1 z2
  go_wp2_with fail
  exact bodyPost_ret (v := .tuple #[.agg #[.int .u64 0, .int .u64 0, .int .i64 0], .bool false, .int .i64 1]) (by simp [results, Tryz.results56, go_sem, z0, z1, z2]) rfl ⟨rfl, HB.out⟩
theorem escan_nil (w : World) (node : Int) : Calls Tryz.prog 16 #[.pointer none, .agg #[.int .i64 2, .int .i64 10, .int .i64 8, .int .i64 4, .int .i64 32], .int .i64 node] w fun e w' => e = .returned (.tuple #[.slice none 0 0, .int .i64 1]) ∧ Below w.heap.size w w' := by
  have HB := Lib.hid ((Below.refl w.heap.size w).alloc (Nat.le_refl _) (.cells #[.int .i64 2, .int .i64 10, .int .i64 8, .int .i64 4, .int .i64 32] 36))
  go_enter Tryz.func16, Tryz.ntmps16
  go_wp2_with fail
  refine (ehead_nil _ node).mono ?_
  rintro e w1 ⟨rfl, hb1⟩
  have HB1 := Lib.hid (HB.out.trans (hb1.mono HB.out.size))
  clear hb1
  go_wp2_with fail
  go_ret2
  exact ⟨rfl, HB1.out.alloc HB1.out.size _⟩
theorem OwnS.less {o : Nat → Nat} {c : Nat} {w : World} {e : TypeId} {size n m cap : Nat} {A : Option Addr} {xs : List Value} (h : OwnS o c w e size (.slice A n cap) n xs) (hn : 0 < n) (hm : m ≤ n) : OwnS o c w e size (.slice A m cap) m (xs.take (m * size)) := by
  obtain ⟨g, cur, rfl, hb, hc, h1, h2, h3, h4⟩ := h.blk hn
  refine OwnS.of_blk hb hc (Nat.le_trans hm h1) h2 h3 ?_
  rw [← h4, List.take_take, Nat.min_eq_left (Nat.mul_le_mul_right _ hm)]
theorem recolorS {oi : Nat → Nat} {w w' : World} {e : TypeId} {sz n : Nat} {v : Value} {xs : List Value} (h : OwnS oi 2 w' e sz v n xs) (hb : Below w.heap.size w w') (ho : ∀ k, k < w.heap.size → oi k = 0) (o : Nat → Nat) (c : Nat) :
    ∃ o2, OwnS o2 c w' e sz v n xs ∧ Step o (fun _ => False) w o2 w' := by
  refine ⟨fun k => if v.ownBlock = some k then c else o k, ⟨h.1, fun g hg => by simp [hg]⟩, hb.os, hb.tape, hb.output, hb.size, fun k hk => ?_, fun k hk => ?_, fun k hk _ => hb.block k hk⟩
  · refine if_neg (fun e => ?_)
    have h1 := h.2 k e
    have h2 := ho k hk
    omega
  · refine if_neg (fun e => ?_)
    have := h.lt k e
    omega
theorem flat_len2 {α β : Type} (f : α → List β) (k : Nat) : ∀ l : List α, (∀ x ∈ l, (f x).length ≤ k) → (l.flatMap f).length ≤ l.length * k
  | [], _ => by simp
  | x :: l, h => by
    rw [List.flatMap_cons, List.length_append, List.length_cons, Nat.add_mul]
    have h1 := h x (List.mem_cons_self ..)
    have h2 := flat_len2 f k l (fun y hy => h y (List.mem_cons_of_mem _ hy))
    omega
theorem plan_len {rs : List Rc} {k : Nat} (h : ∀ r ∈ rs, r.images.length ≤ k) : (planOf rs).length ≤ rs.length * k := by
  unfold planOf keysOf
  rw [List.length_map, List.length_mergeSort]
  refine Nat.le_trans (dups_len _) ?_
  rw [List.length_map]
  exact flat_len2 _ k rs h
theorem RecsRd.row2 {w : World} {A : Option Addr} {rs : List Rc} {vs : List Value} (h : RecsRd w A rs vs) {k : Nat} {r : Rc} {v : Value} (hk : rs[k]? = some r) (hv : vs[k]? = some v) :
    ∃ ad, A = some ad ∧ w.cell? (ad.add (k * 3)) = some (.int .u64 r.epoch) ∧ w.cell? ⟨(ad.add (k * 3)).block, (ad.add (k * 3)).off + 1, none⟩ = some (.int .u64 r.lsn) ∧ w.cell? ⟨(ad.add (k * 3)).block, (ad.add (k * 3)).off + 2, none⟩ = some v := by
  have hz : (rs.zip vs)[k]? = some (r, v) := by rw [List.getElem?_zip_eq_some]; exact ⟨hk, hv⟩
  have hl : (rs.zip vs).length = rs.length := by rw [List.length_zip, h.len, Nat.min_self]
  have h2 := h.rd
  rw [← hl] at h2
  obtain ⟨ad, rfl, hc⟩ := Reads.row (f := fun x : Rc × Value => [.int .u64 x.1.epoch, .int .u64 x.1.lsn, x.2]) (fun _ => rfl) h2 hz
  exact ⟨ad, rfl, hc 0 _ rfl, hc 1 _ rfl, hc 2 _ rfl⟩
theorem Mild.applyGo {node : Int} {epoch : Nat} : ∀ (l : List Im) (n : Nat) {R : RF} {k : Nat}, Mild R k → Mild (applyGoF node epoch l n R).R (k + 2 * l.length)
  | [], n, R, k, h => h
  | i :: l, n, R, k, h => by
    rw [List.length_cons]
    unfold applyGoF
    split
    · exact h.mono (by omega)
    · split
      · exact (Mild.applyGo l n h).mono (by omega)
      · split
        · exact (h.store node epoch i).mono (by omega)
        · exact (Mild.applyGo l (n + 1) (h.store node epoch i)).mono (by omega)
theorem Mild.apply {R : RF} {k : Nat} (h : Mild R k) (node : Int) (epoch : Nat) (l : List Im) : Mild (applyF R node epoch l).R (k + 2 * l.length) := by
  have h1 := Mild.applyGo (node := node) (epoch := epoch) l 0 h
  unfold applyF
  split
  · exact h1
  · split
    · exact h1
    · split
      · exact h1.barrier node epoch
      · exact h1.barrier node epoch
theorem RecsRd.inz {o' : Nat → Nat} {W w : World} {A : Option Addr} {rs : List Rc} {vs : List Value} (hs : Step (fun _ => 0) nz W o' w) (h : RecsRd W A rs vs) : RecsRd w A rs vs := h.below_ (hs.below (fun _ _ h => h rfl) (Nat.le_refl _))
theorem Step.inzR {o' : Nat → Nat} {W w : World} {A : Option Addr} {n : Nat} {xs : List Value} {s : Nat} (hs : Step (fun _ => 0) nz W o' w) (h0 : 0 < s) (h : Reads W s A n xs) : Reads w s A n xs :=
  h.below' h0 (hs.below (fun _ _ h => h rfl) (Nat.le_refl _))
def LightI (l : List Im) (few room : Int) : Prop := (l.length : Int) ≤ few ∧ ∀ i ∈ l, (i.data.size : Int) ≤ room
set_option maxRecDepth 100000 in
set_option maxHeartbeats 2000000 in
theorem light_im2 (l : List Im) (w : World) (A : Option Addr) (cap : Nat) (few room : Int) (hrd : Reads w 3 A l.length (imcells l)) (hln : l.length ≤ maxLen) (hs : ∀ i ∈ l, i.data.size ≤ maxLen) (hr : -1 ≤ room ∧ room ≤ 1000000000) :
    Calls Tryz.prog 4 #[.int .i64 few, .int .i64 room, .slice A l.length cap] w (LightPost w (LightI l few room)) := by
  have HR := Lib.hid hrd
  have HS := Lib.hid hs
  have hlI : (l.length : Int) ≤ 9223372036854775807 := by unfold maxLen at hln; omega
  clear hrd hs hln
  by_cases hf : few < (l.length : Int)
  · go_enter Tryz.func4, Tryz.ntmps4
    go_wp2_with fail
    go_ret
    exact ⟨false, rfl, by simp, Below.refl _ _⟩
  · have HFL := Lib.hid (show (l.length : Int) ≤ few by omega)
    go_enter Tryz.func4, Tryz.ntmps4
    go_wp2_with fail
    go_loopw [1, 7] (fun t1 t7 wr => ∃ (k : Nat) (r : Int), k ≤ l.length ∧ -1 ≤ r ∧ r ≤ 1000000000 ∧ t1 = .int .i64 r ∧ t7 = .int .i64 k ∧ (0 ≤ r → r ≤ room ∧ ∀ y ∈ l.take k, (y.data.size : Int) ≤ room) ∧ Below w.heap.size w wr) (fun _ t7 _ => l.length - (intOf t7).toNat)
    case atStart => exact ⟨0, room, by omega, hr.1, hr.2, rfl, rfl, (fun _ => ⟨Int.le_refl _, fun y hy => by simp at hy⟩), Below.refl _ _⟩
    case round =>
      obtain ⟨k, r, hk, hr1, hr2, rfl, rfl, hz, hb⟩ := hrel
      have HB := Lib.hid hb
      have HZ := Lib.hid hz
      clear hb hz
      by_cases hlt : k < l.length
      · have hltI : (k : Int) < (l.length : Int) := by omega
        by_cases h0 : 0 ≤ r
        · obtain ⟨x, hx⟩ : ∃ x, l[k]? = some x := ⟨_, List.getElem?_eq_getElem hlt⟩
          have hxs : (x.data.size : Int) ≤ 9223372036854775807 := by have := HS.out x (List.mem_of_getElem? hx); unfold maxLen at this; omega
          obtain ⟨ad, rfl, y0, y1, y2⟩ := (HR.out.below' (by omega) HB.out).imrow hx
          have HX := Lib.hid hx
          clear hx
          go_wp2_with fail
          have hc0 : (wr.alloc (.cells #[.int .i64 x.data.size] 3)).cell? ⟨wr.heap.size, 0, none⟩ = some (.int .i64 x.data.size) := (Blk.new wr 3 #[.int .i64 x.data.size]).cell 0
          have HB2 := Lib.hid (HB.out.alloc HB.out.size (.cells #[.int .i64 x.data.size] 3))
          have hrm := room1_le (left := r) (n := (x.data.size : Int)) ⟨hr1, hr2⟩ (by omega)
          refine (room_one _ r x.data.size wr.heap.size hc0 ⟨hr1, hr2⟩ ⟨by omega, hxs⟩).mono ?_
          rintro e w2 ⟨rfl, rfl⟩
          have HZ2 := Lib.hid (show 0 ≤ room1 r (x.data.size : Int) → room1 r (x.data.size : Int) ≤ room ∧ ∀ y ∈ l.take (k + 1), (y.data.size : Int) ≤ room from fun h => by
            have h9 : (x.data.size : Int) ≤ r ∧ room1 r (x.data.size : Int) = r - (x.data.size : Int) := by
              unfold room1 at h ⊢
              split at h
              · omega
              · rename_i h1
                rw [if_neg h1]
                exact ⟨by omega, rfl⟩
            obtain ⟨z1, z2⟩ := HZ.out h0
            refine ⟨by omega, fun y hy => ?_⟩
            rw [List.take_add_one, HX.out] at hy
            rcases List.mem_append.1 hy with hy | hy
            · exact z2 y hy
            · rw [List.mem_singleton.1 (show y ∈ [x] from hy)]
              omega)
          generalize room1 r (x.data.size : Int) = r2 at hrm HZ2 ⊢
          clear y0 y1 y2 hc0
          go_wp2_with fail
          go_roundw
          case rel => exact ⟨k + 1, r2, by omega, hrm.1, hrm.2, rfl, by go_num, HZ2.out, HB2.out⟩
          case measure => simp [intOf]; omega
        · go_wp2_with fail
          go_ret
          exact ⟨_, rfl, by simp, HB.out⟩
      · have hltI : ¬ (k : Int) < (l.length : Int) := by omega
        have HA := Lib.hid (show 0 ≤ r → LightI l few room from fun h => by
          have := (HZ.out h).2
          rw [List.take_of_length_le (by omega)] at this
          exact ⟨HFL.out, this⟩)
        by_cases h0 : 0 ≤ r
        · go_wp2_with fail
          go_ret
          exact ⟨_, rfl, (fun _ => HA.out h0), HB.out⟩
        · go_wp2_with fail
          go_ret
          exact ⟨_, rfl, by simp, HB.out⟩
end Go.Proofs.YtkhieofknglknaaGreatDoor
