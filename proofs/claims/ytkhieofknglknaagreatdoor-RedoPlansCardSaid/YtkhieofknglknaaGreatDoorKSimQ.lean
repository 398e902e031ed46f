/- The law, plain: what Add and Sync leave of one or two records; what Run makes of them. -/
import Derived.Test.YtkhieofknglknaaGreatDoorKLawR
import Derived.Test.YtkhieofknglknaaGreatDoorKRefC
import Derived.Test.YtkhieofknglknaaGreatDoorKDiskF
import Derived.Test.YtkhieofknglknaaGreatDoorKApplyP
import Derived.Test.YtkhieofknglknaaGreatDoorKReadyP
namespace Go.Proofs.YtkhieofknglknaaGreatDoor
open Go.RowKit

def oneIm (n v : Nat) : Im := ⟨n, v, str (UInt8.ofNat n :: zer 95)⟩
theorem oneIm_right {n : Nat} (h : n < 4096) (v : Nat) : (oneIm n v).right := by
  refine ⟨?_, ?_, ?_⟩
  · show (0 : Int) ≤ (n : Int)
    omega
  · show (n : Int) < 4096
    omega
  · show (str _).size = 96
    rw [str_size, List.length_cons, zer_len]
def hd9 : List UInt8 := headL ⟨9, 1, 0⟩
theorem hd9_ok : ¬ (⟨9, 1, 0⟩ : Hd).bad := by unfold Hd.bad; decide
/-- one image, as the record k of epoch 9 -/
def rcI (k : Nat) (i : Im) : Rc := ⟨9, k, [i]⟩
def enOf (k at_ : Nat) (i : Im) : En := ⟨k, at_, 3, str (recL (rcI k i)), false⟩
def lg0 : Lg := Lg.new 1 9 1
def lg1 (i : Im) : Lg := { lg0 with live := [enOf 1 0 i], at_ := 3, next := 2 }
def lg2 (i j : Im) : Lg := { lg0 with live := [enOf 1 0 i, enOf 2 3 j], at_ := 6, next := 3 }
theorem wrong_one {ep k : Nat} (he : ep ≠ 0) (hk : k ≠ 0) (i : Im) : (Rc.mk ep k [i]).wrongE = if i.right then 0 else 1 := by
  unfold Rc.wrongE
  rw [if_neg (by simp [he, hk])]
  by_cases hr : i.right
  · rw [if_pos hr, if_neg, if_neg (by simp)]
    simp only [List.mem_singleton, rise]
    rintro (⟨i, rfl, h⟩ | h)
    · exact h hr
    · exact absurd h (by decide)
  · rw [if_neg hr, if_pos (.inl ⟨i, List.mem_singleton.2 rfl, hr⟩)]
theorem rcI_ok {k : Nat} (hk : k ≠ 0) {i : Im} (hr : i.right) : (Rc.mk 9 k [i]).wrongE = 0 := by rw [wrong_one (by decide) hk, if_pos hr]
theorem secs_one : secsOf ((1 : Nat) : Int) = 3 := by rw [secs_pos (by decide) (by decide)]
theorem recL_one (k : Nat) (i : Im) : (recL (rcI k i)).length = 192 := by
  rw [recL_len]
  show secsOf ((1 : Nat) : Int) * 64 = 192
  rw [secs_one]
theorem entry_size (k at_ : Nat) (i : Im) : (enOf k at_ i).bytes.size = 192 := by
  show (str _).size = 192
  rw [str_size, recL_one]
theorem addE_ok {g : Lg} {i : Im} (hb : g.broken = false) (hw : (Rc.mk g.epoch g.next [i]).wrongE = 0) : g.addE [i] = if 7 < 3 + g.used then 10 else 0 := by
  unfold Lg.addE
  rw [hb, if_neg (by decide), hw, if_neg (by decide), if_neg (by show ¬ 1 < 1; decide)]
  show (if 7 < secsOf ((1 : Nat) : Int) + g.used then (10 : Int) else 0) = _
  rw [secs_one]
theorem addG_ok {g : Lg} {i : Im} (hb : g.broken = false) (hw : (Rc.mk g.epoch g.next [i]).wrongE = 0) (hu : ¬ 7 < 3 + g.used) :
    g.addG [i] = { g with live := g.live ++ [⟨g.next, g.at_, 3, str (recL ⟨g.epoch, g.next, [i]⟩), false⟩], at_ := (g.at_ + 3) % 7, next := (g.next + 1) % 18446744073709551616 } := by
  have e := addE_ok hb hw
  rw [if_neg hu] at e
  unfold Lg.addG
  rw [if_neg (by rw [e]; decide)]
  unfold Lg.entry Rc.putS
  rw [if_pos hw]
  have : secsOf (([i] : List Im).length : Int) = 3 := secs_one
  rw [this]
section
variable {i j x : Im} (hi : i.right) (hj : j.right) (hx : x.right)
include hi in
theorem add0 : lg0.addE [i] = 0 ∧ lg0.addG [i] = lg1 i := by
  have hw : (Rc.mk lg0.epoch lg0.next [i]).wrongE = 0 := rcI_ok (k := 1) (by decide) hi
  have hu : ¬ 7 < 3 + lg0.used := show ¬ 7 < 3 + 0 by decide
  have h1 := addE_ok rfl hw
  rw [if_neg hu] at h1
  exact ⟨h1, (addG_ok rfl hw hu).trans rfl⟩
include hj in
theorem add1 : (lg1 i).addE [j] = 0 ∧ (lg1 i).addG [j] = lg2 i j := by
  have hw : (Rc.mk (lg1 i).epoch (lg1 i).next [j]).wrongE = 0 := rcI_ok (k := 2) (by decide) hj
  have hu : ¬ 7 < 3 + (lg1 i).used := show ¬ 7 < 3 + 3 by decide
  have h1 := addE_ok rfl hw
  rw [if_neg hu] at h1
  exact ⟨h1, (addG_ok rfl hw hu).trans rfl⟩
include hx in
theorem add2 : (lg2 i j).addE [x] = 10 ∧ (lg2 i j).addG [x] = lg2 i j := by
  have hw : (Rc.mk (lg2 i j).epoch (lg2 i j).next [x]).wrongE = 0 := rcI_ok (k := 3) (by decide) hx
  have hu : 7 < 3 + (lg2 i j).used := show 7 < 3 + 6 by decide
  have h1 := addE_ok rfl hw
  rw [if_pos hu] at h1
  refine ⟨h1, ?_⟩
  unfold Lg.addG
  rw [if_pos (by rw [h1]; decide)]
end
section
variable {D : Dk} {k t1 t2 ls : Nat} {h l1 l2 l3 : List UInt8} {f : Nat → Im}
theorem View.openV (v : View D k 9 t2 ls h l1 l2 l3 f) : (D.lhead lg0 ⟨9, 1, 0⟩).1 = 0 ∧ View (D.lhead lg0 ⟨9, 1, 0⟩).2 (k + 1) 9 t2 ls hd9 l1 l2 l3 f := by
  have e := (lhead_ok v.calm (g := lg0) (by decide) v.t1 (by decide) (by decide) hd9_ok).1
  rw [e]
  refine ⟨rfl, ?_⟩
  have := (v.headW (n := 1) (by omega) v.t1 (by decide) (h' := hd9) (headL_len _)).2
  exact this.settle (1 : Nat)
theorem ens1 (i : Im) : Ens (lg1 i).live := by
  intro x hx
  rw [List.mem_singleton.1 (show x ∈ [enOf 1 0 i] from hx)]
  exact ⟨show 0 < 7 by decide, show 3 ≤ 7 by decide, fun _ => entry_size 1 0 i⟩
theorem ens2 (i j : Im) : Ens (lg2 i j).live := by
  intro y hy
  rcases List.mem_cons.1 (show y ∈ [enOf 1 0 i, enOf 2 3 j] from hy) with rfl | hy
  · exact ⟨show 0 < 7 by decide, show 3 ≤ 7 by decide, fun _ => entry_size 1 0 i⟩
  · rw [List.mem_singleton.1 hy]
    exact ⟨show 3 < 7 by decide, show 3 ≤ 7 by decide, fun _ => entry_size 2 3 j⟩
theorem View.sync0 (D : Dk) : syncR D lg0 = ⟨0, 0, D, lg0⟩ := rfl
theorem wr_done {D : Dk} {g : Lg} {n : Nat} {k : Nat} : wrGo [] k n D g = ⟨n, 0, D, g⟩ := rfl
theorem View.put1 (v : View D k 9 t2 ls h l1 l2 l3 f) {g : Lg} (h1 : g.node = 1) (h2 : g.epoch = 9) (h3 : g.base = 1) (i : Im) : (D.put_ g (enOf 1 0 i)).1 = 0 ∧ View (D.put_ g (enOf 1 0 i)).2 (k + 3) 9 t2 ls h (recL (rcI 1 i)) l2 l3 f := by
  have e := (put_one v.calm (g := g) (by omega) (by rw [h1, h2]; exact v.t1) (by omega) (by omega) (x := enOf 1 0 i) rfl (Nat.zero_le _) (entry_size 1 0 i)).1
  rw [e, h1, h3]
  exact ⟨rfl, v.recA (n := 1) (by omega) v.t1 (by decide) (recL_one 1 i)⟩
theorem View.put2 (v : View D k 9 t2 ls h l1 l2 l3 f) {g : Lg} (h1 : g.node = 1) (h2 : g.epoch = 9) (h3 : g.base = 1) (j : Im) : (D.put_ g (enOf 2 3 j)).1 = 0 ∧ View (D.put_ g (enOf 2 3 j)).2 (k + 3) 9 t2 ls h l1 (recL (rcI 2 j)) l3 f := by
  have e := (put_one v.calm (g := g) (by omega) (by rw [h1, h2]; exact v.t1) (by omega) (by omega) (x := enOf 2 3 j) rfl (show 3 ≤ 4 by decide) (entry_size 2 3 j)).1
  rw [e, h1, h3]
  exact ⟨rfl, v.recB (n := 1) (by omega) v.t1 (by decide) (recL_one 2 j)⟩
/-- Sync, where Write has written something -/
theorem View.syncW {g G : Lg} {n : Nat} {E : Dk} (hw : writeR D g = ⟨n, 0, E, G⟩) (v : View E k 9 t2 ls h l1 l2 l3 f) (h1 : G.node = 1) (h2 : G.epoch = 9) (h3 : G.synced < G.written) : (syncR D g).e = 0 ∧ View (syncR D g).D k 9 t2 ls h l1 l2 l3 f := by
  obtain ⟨b1, b2⟩ := v.barrier (n := 1) (by omega) v.t1 (by decide)
  have e : syncR D g = ⟨0, 0, (E.barrier (1 : Nat) 9).2, { G with synced := G.written }⟩ := by
    unfold syncR
    rw [hw]
    simp only
    rw [h1, h2, if_neg (by decide), if_neg (by omega), if_neg (by rw [b1]; decide)]
  rw [e]
  exact ⟨rfl, b2⟩
theorem View.sync1 (v : View D k 9 t2 ls h l1 l2 l3 f) (i : Im) : (syncR D (lg1 i)).e = 0 ∧ View (syncR D (lg1 i)).D (k + 3) 9 t2 ls h (recL (rcI 1 i)) l2 l3 f := by
  obtain ⟨p1, p2⟩ := v.put1 (g := lg1 i) rfl rfl rfl i
  have hw : writeR D (lg1 i) = ⟨1, 0, (D.put_ (lg1 i) (enOf 1 0 i)).2, (lg1 i).wrote 0 (enOf 1 0 i)⟩ := by
    show wrGo [enOf 1 0 i] 0 0 D (lg1 i) = _
    rw [wrGo_false rfl, if_neg (by rw [p1]; decide), wr_done]
  exact View.syncW hw p2 rfl rfl (show (0 : Nat) < 1 by decide)
theorem wr_two {D : Dk} {g : Lg} {x y : En} (hl : g.live = [x, y]) (hb : g.broken = false) (hx : x.written = false) (hy : y.written = false) (p1 : (D.put_ g x).1 = 0) (q1 : ((D.put_ g x).2.put_ (g.wrote 0 x) y).1 = 0) :
    writeR D g = ⟨2, 0, ((D.put_ g x).2.put_ (g.wrote 0 x) y).2, (g.wrote 0 x).wrote 1 y⟩ := by
  unfold writeR Lg.mayE
  rw [hb, if_neg (by decide), hl, wrGo_false hx, if_neg (by rw [p1]; decide), wrGo_false hy, if_neg (by rw [q1]; decide), wr_done]
theorem View.sync2 (v : View D k 9 t2 ls h l1 l2 l3 f) (i j : Im) : (syncR D (lg2 i j)).e = 0 ∧ View (syncR D (lg2 i j)).D (k + 6) 9 t2 ls h (recL (rcI 1 i)) (recL (rcI 2 j)) l3 f := by
  have h1 : (lg2 i j).node = 1 := rfl
  have h2 : (lg2 i j).epoch = 9 := rfl
  have h3 : (lg2 i j).base = 1 := rfl
  have h4 : (lg2 i j).live = [enOf 1 0 i, enOf 2 3 j] := rfl
  have h5 : (lg2 i j).broken = false := rfl
  have h6 : (lg2 i j).synced = 0 := rfl
  generalize lg2 i j = g at h1 h2 h3 h4 h5 h6 ⊢
  obtain ⟨p1, p2⟩ := v.put1 h1 h2 h3 i
  have x1 : (g.wrote 0 (enOf 1 0 i)).node = 1 := h1
  have x2 : (g.wrote 0 (enOf 1 0 i)).epoch = 9 := h2
  have x3 : (g.wrote 0 (enOf 1 0 i)).base = 1 := h3
  obtain ⟨q1, q2⟩ := p2.put2 x1 x2 x3 j
  have hw := wr_two h4 h5 rfl rfl p1 q1
  have y1 : ((g.wrote 0 (enOf 1 0 i)).wrote 1 (enOf 2 3 j)).node = 1 := h1
  have y2 : ((g.wrote 0 (enOf 1 0 i)).wrote 1 (enOf 2 3 j)).epoch = 9 := h2
  have y3 : ((g.wrote 0 (enOf 1 0 i)).wrote 1 (enOf 2 3 j)).synced < ((g.wrote 0 (enOf 1 0 i)).wrote 1 (enOf 2 3 j)).written := by
    show g.synced < 2
    omega
  exact View.syncW hw (q2.mono (by omega)) y1 y2 y3
/-- what Scan finds -/
theorem View.scan (v : View D k t1 t2 ls hd9 l1 l2 l3 f) : D.scan 1 = scanL 9 10 1 (str (l1 ++ l2 ++ l3)) ∧ D.scanE 1 = 0 ∧ D.headE 1 = 0 ∧ D.headI 1 = true ∧ (D.headH 1).epoch = 9 := by
  obtain ⟨_, h2, h3, h4⟩ := head_of v.calm.live (h := ⟨9, 1, 0⟩) hd9_ok (by decide) (by decide) (by decide) v.head
  obtain ⟨r1, r2⟩ := v.calm.read (at_ := 2) (n := 7) (by omega) (by omega) (by omega)
  have hl : D.readL 2 7 = l1 ++ l2 ++ l3 := by
    have a1 := readL_add D 2 3 4
    have a2 := readL_add D 5 3 1
    have b2 : D.readL 5 4 = l2 ++ l3 := by rw [← v.l2, ← v.l3]; exact a2
    have b1 : D.readL 2 7 = l1 ++ D.readL 5 4 := by rw [← v.l1]; exact a1
    rw [b1, b2, List.append_assoc]
  have hr : D.readE ((logAt 1).1 + 1) 7 = 0 := r1
  refine ⟨?_, ?_, h4, h3, by rw [h2]⟩
  · unfold Dk.scan
    rw [if_neg (by rw [h4, h3, hr]; decide), h2]
    have e : D.readS ((logAt 1).1 + 1) 7 = str (l1 ++ l2 ++ l3) := by rw [← hl]; exact r2
    rw [e]
    have : rotS (str (l1 ++ l2 ++ l3)) (Int.toNat (⟨9, 1, 0⟩ : Hd).at_ * 64) = str (l1 ++ l2 ++ l3) := by
      show rotS (str (l1 ++ l2 ++ l3)) 0 = _
      unfold rotS
      rw [extract_str, extract_str, str_size, List.drop_zero, List.take_of_length_le (Nat.le_refl _), List.take_zero, List.drop_zero]
      refine ByteArray.ext ?_
      apply Array.toList_inj.1
      simp
      rfl
    rw [this]
  · unfold Dk.scanE
    rw [if_neg (by rw [h4]; decide), if_neg (by rw [h3]; decide)]
    exact hr
end
theorem zer_split (n : Nat) (h : 64 ≤ n) (r : List UInt8) : zer n ++ r = zer 64 ++ (zer (n - 64) ++ r) := by
  rw [← List.append_assoc, zer_app]
  congr 2
  omega
theorem scan_zero (ep lsn f n : Nat) (hn : 64 ≤ n) (r : List UInt8) : scanL ep (f + 1) lsn (str (zer n ++ r)) = [] := by
  rw [zer_split n hn r]
  exact scanL_end (get_zero _)
theorem rcI_Good {k : Nat} (hk : k ≠ 0) (hk2 : k < 100) {i : Im} (hr : i.right) (hv : i.ver < 18446744073709551616) : (rcI k i).Good := ⟨rcI_ok hk hr, show (9 : Nat) < 18446744073709551616 by decide, by show k < _; omega, fun x hx => by rw [List.mem_singleton.1 (show x ∈ [i] from hx)]; exact hv⟩
theorem scan_nil : scanL 9 10 1 (str (zer 192 ++ zer 192 ++ zer 64)) = [] := by
  rw [List.append_assoc]
  exact scan_zero 9 1 9 192 (by decide) _
theorem mod_two : (1 + 1) % 18446744073709551616 = 2 := by decide
theorem mod_three : (2 + 1) % 18446744073709551616 = 3 := by decide
theorem scan_one {i : Im} (hi : i.right) (hv : i.ver < 18446744073709551616) : scanL 9 10 1 (str (recL (rcI 1 i) ++ zer 192 ++ zer 64)) = [rcI 1 i] := by
  rw [List.append_assoc, scanL_one (ep := 9) (lsn := 1) (f := 9) (rcI_Good (k := 1) (by decide) (by decide) hi hv) rfl rfl, mod_two, scan_zero 9 2 8 192 (by decide) _]
theorem scan_two {i j : Im} (hi : i.right) (hv : i.ver < 18446744073709551616) (hj : j.right) (hu : j.ver < 18446744073709551616) : scanL 9 10 1 (str (recL (rcI 1 i) ++ recL (rcI 2 j) ++ zer 64)) = [rcI 1 i, rcI 2 j] := by
  have h0 := scan_zero 9 3 7 64 (by decide) []
  rw [List.append_nil] at h0
  rw [List.append_assoc, scanL_one (ep := 9) (lsn := 1) (f := 9) (rcI_Good (k := 1) (by decide) (by decide) hi hv) rfl rfl, mod_two, scanL_one (ep := 9) (lsn := 2) (f := 8) (rcI_Good (k := 2) (by decide) (by decide) hj hu) rfl rfl, mod_three, h0]
/-- images that are newer are taken -/
def takeIm (f : Nat → Im) (i : Im) : Nat → Im := if i.ver ≤ (f i.block.toNat).ver then f else setIm f i.block.toNat i
def appF (f : Nat → Im) (l : List Im) : Nat → Im := l.foldl takeIm f
def appN : (Nat → Im) → List Im → Nat
  | _, [] => 0
  | f, i :: l => (if i.ver ≤ (f i.block.toNat).ver then 0 else 1) + appN (takeIm f i) l
section
variable {k t1 e ls : Nat} {h l1 l2 l3 : List UInt8}
theorem View.apply (h0 : e ≠ 0) : ∀ (l : List Im) (n k : Nat) (D : Dk) (f : Nat → Im), View D k t1 e ls h l1 l2 l3 f → (∀ i ∈ l, i.right ∧ i.ver < 18446744073709551616 ∧ i.block ≤ 9) →
    (applyGo (2 : Nat) e l n D).e = 0 ∧ (applyGo (2 : Nat) e l n D).n = n + appN f l ∧ View (applyGo (2 : Nat) e l n D).D (k + 2 * l.length) t1 e ls h l1 l2 l3 (appF f l)
  | [], n, k, D, f, v, _ => ⟨rfl, rfl, v⟩
  | i :: l, n, k, D, f, v, hl => by
    obtain ⟨hr, hv, hb⟩ := hl i (List.mem_cons_self ..)
    have hr0 := hr.1
    have hbt : ((i.block.toNat : Nat) : Int) = i.block := by omega
    have hb9 : i.block.toNat ≤ 9 := by omega
    have hld := v.blk i.block.toNat hb9
    rw [hbt] at hld
    rw [apply_one hld]
    by_cases hx : i.ver ≤ (f i.block.toNat).ver
    · obtain ⟨g1, g2, g3⟩ := View.apply h0 l n k D f v (fun j hj => hl j (List.mem_cons_of_mem _ hj))
      rw [if_pos hx]
      have e1 : takeIm f i = f := if_pos hx
      refine ⟨g1, ?_, ?_⟩
      · rw [g2]
        show n + appN f l = n + ((if i.ver ≤ (f i.block.toNat).ver then 0 else 1) + appN (takeIm f i) l)
        rw [if_pos hx, e1, Nat.zero_add]
      · show View _ _ _ _ _ _ _ _ _ (l.foldl takeIm (takeIm f i))
        rw [e1]
        exact g3.mono (by rw [List.length_cons]; omega)
    · obtain ⟨s1, s2⟩ := v.store (n := 2) (by omega) v.t2 h0 hr hv hb9 hbt.symm
      rw [if_neg hx, if_neg (by rw [s1]; decide)]
      obtain ⟨g1, g2, g3⟩ := View.apply h0 l (n + 1) (k + 2) _ _ s2 (fun j hj => hl j (List.mem_cons_of_mem _ hj))
      have e1 : takeIm f i = setIm f i.block.toNat i := if_neg hx
      refine ⟨g1, ?_, ?_⟩
      · rw [g2]
        show n + 1 + appN _ l = n + ((if i.ver ≤ (f i.block.toNat).ver then 0 else 1) + appN (takeIm f i) l)
        rw [if_neg hx, e1]
        omega
      · show View _ _ _ _ _ _ _ _ _ (l.foldl takeIm (takeIm f i))
        rw [e1]
        exact g3.mono (by rw [List.length_cons]; omega)
theorem View.applyAll {D : Dk} {f : Nat → Im} (v : View D k t1 e ls h l1 l2 l3 f) (h0 : e ≠ 0) {l : List Im} (hl : ∀ i ∈ l, i.right ∧ i.ver < 18446744073709551616 ∧ i.block ≤ 9) :
    (applyR D (2 : Nat) e l).e = 0 ∧ (applyR D (2 : Nat) e l).n = appN f l ∧ View (applyR D (2 : Nat) e l).D (k + 2 * l.length) t1 e ls h l1 l2 l3 (appF f l) := by
  obtain ⟨g1, g2, g3⟩ := View.apply h0 l 0 k D f v hl
  rw [Nat.zero_add] at g2
  unfold applyR
  generalize applyGo (2 : Nat) e l 0 D = A at g1 g2 g3
  obtain ⟨n, er, E⟩ := A
  simp only at g1 g2 g3 ⊢
  subst g1 g2
  rw [if_neg (by decide)]
  by_cases hn : appN f l = 0
  · rw [if_pos hn]
    exact ⟨rfl, rfl, g3⟩
  · rw [if_neg hn]
    obtain ⟨b1, b2⟩ := g3.barrier (n := 2) (by omega) g3.t2 h0
    rw [if_neg (by rw [b1]; decide)]
    exact ⟨rfl, rfl, b2⟩
/-- Run, where Plan tells l -/
theorem View.run {D : Dk} {f : Nat → Im} (v : View D k t1 e ls hd9 l1 l2 l3 f) (h0 : e ≠ 0) {l : List Im} (hp : planOf (scanL 9 10 1 (str (l1 ++ l2 ++ l3))) = l) (hl : ∀ i ∈ l, i.right ∧ i.ver < 18446744073709551616 ∧ i.block ≤ 9) :
    (runR D 1 9 (2 : Nat) e).e = 0 ∧ (runR D 1 9 (2 : Nat) e).n = appN f l ∧ View (runR D 1 9 (2 : Nat) e).D (k + 2 * l.length + 1) t1 e ls (zer 64) l1 l2 l3 (appF f l) := by
  obtain ⟨c1, c2, c3, c4, c5⟩ := v.scan
  obtain ⟨a1, a2, a3⟩ := v.applyAll h0 hl
  unfold runR
  rw [c1, hp, c2, c3, c4, c5, if_neg (by decide), if_neg (by decide), if_neg (by decide)]
  generalize applyR D (2 : Nat) e l = A at a1 a2 a3
  obtain ⟨n, er, E⟩ := A
  simp only at a1 a2 a3 ⊢
  subst a1 a2
  rw [if_neg (by decide)]
  obtain ⟨w1, w2⟩ := a3.headW (n := 2) (by omega) a3.t2 h0 (h' := zer 64) (zer_len 64)
  have w1' : E.write (2 : Nat) e (logAt 1).1 (str (zer 64)) = (0, E.writeN (2 : Nat) 1 (str (zer 64)) 1) := w1
  rw [w1', if_neg (by simp)]
  obtain ⟨b1, b2⟩ := w2.barrier (n := 2) (by omega) w2.t2 h0
  rw [if_neg (by rw [b1]; decide)]
  exact ⟨rfl, rfl, b2⟩
end
end Go.Proofs.YtkhieofknglknaaGreatDoor

/- commonslaw13.alive: a record is added, synced, done again, and read. -/
namespace Go.Proofs.YtkhieofknglknaaGreatDoor
open Go.RowKit

theorem plan_alive : planOf (scanL 9 10 1 (str (recL (rcI 1 (oneIm 3 1)) ++ zer 192 ++ zer 64))) = [oneIm 3 1] := by
  rw [scan_one (oneIm_right (by decide) _) (by decide)]
  exact plan_one _ _ rfl
theorem right_alive : ∀ i ∈ [oneIm 3 1], i.right ∧ i.ver < 18446744073709551616 ∧ i.block ≤ 9 := by
  intro i hi
  rw [List.mem_singleton.1 hi]
  exact ⟨oneIm_right (by decide) _, by decide, by decide⟩
def nz : Nat → Prop := fun x => x ≠ 0
theorem nz_six (c : Nat) (h : 1 ≤ c) : ∀ x, six c x → nz x := fun x hx => by unfold six at hx; unfold nz; omega
theorem nz_logL (c : Nat) (h : 1 ≤ c) : ∀ x, logL c x → nz x := fun x hx => by unfold logL at hx; unfold nz; omega
theorem nz_logC (c d : Nat) (h : 1 ≤ c) (h2 : 1 ≤ d) : ∀ x, logC c d x → nz x := fun x hx => by unfold logC six at hx; unfold nz; omega
theorem nz_ready : ∀ x, readyC 1 10 x → nz x := fun x hx => by unfold readyC six logL at hx; unfold nz; omega
set_option maxRecDepth 100000 in
set_option maxHeartbeats 8000000 in
theorem alive13_any {o : Nat → Nat} {w : World} (hf : Fut o w) : Calls Tryz.prog 5 #[] w fun e w' => e = .returned (.bool true) ∧ ∃ o', Step o nz w o' w' := by
  have HF := Lib.hid hf
  clear hf
  go_enter Tryz.func5, Tryz.ntmps5
  go_wp2_with fail
  refine (ready_any (cd := 1) (cr := 10) HF.out (by omega) (by omega)).mono ?_
  rintro e w1 ⟨p, r, rfl, o1, hd, _, hs⟩
  have HV := Lib.hid readyV
  generalize readyD = D0 at hd HV
  generalize D0.table 2 = T2 at HV
  have hf1 := HF.out.step hs
  have HX := Lib.hid (Keep.new hf1 36 #[.int .i64 2, .int .i64 10, .int .i64 8, .int .i64 4, .int .i64 32])
  have HD := Lib.hid (hd.alloc (.cells #[.int .i64 2, .int .i64 10, .int .i64 8, .int .i64 4, .int .i64 32] 36))
  have HF1 := Lib.hid (hf1.alloc (.cells #[.int .i64 2, .int .i64 10, .int .i64 8, .int .i64 4, .int .i64 32] 36))
  have HS1 := Lib.hid ((hs.mono nz_ready).alloc (.cells #[.int .i64 2, .int .i64 10, .int .i64 8, .int .i64 4, .int .i64 32] 36))
  clear hd hs hf1 HF
  go_upto_region 4 with (fail)
  generalize w1.alloc (.cells #[.int .i64 2, .int .i64 10, .int .i64 8, .int .i64 4, .int .i64 32] 36) = W1 at HX HD HF1 HS1 ⊢
  generalize w1.heap.size = g at HX ⊢
  obtain ⟨s0, s1, s2, s3, s4⟩ := HX.out.1.five
  go_wp2_with fail
  refine (gopen_any (c := 20) HD.out HV.out.calm.tame (by omega) (by omega) (by omega) HF1.out 1 9 1 rfl (by omega) HV.out.openV.1).mono ?_
  rintro e w2 ⟨q, rfl, o2, hd, hl, hs⟩
  have hv := HV.out.openV.2
  change DiskAt o2 1 w2 p (D0.lhead lg0 ⟨9, 1, 0⟩).2 at hd
  change LogAt o2 20 w2 q lg0 p at hl
  generalize (D0.lhead lg0 ⟨9, 1, 0⟩).2 = D1 at hd hv
  have HV2 := Lib.hid hv
  have HD2 := Lib.hid hd
  have HL2 := Lib.hid hl
  have HX2 := Lib.hid (HX.out.step hs (no_six (by omega)))
  have HF2 := Lib.hid (HF1.out.step hs)
  have HS2 := Lib.hid (HS1.out.trans (hs.mono (nz_six 1 (by omega))))
  clear hd hl hs hv HV HD HX HF1 HS1 s0 s1 s2 s3 s4
  go_wp2_with fail
  refine (one11_any 3 1 (by omega) w2).mono ?_
  rintro e w3 ⟨rfl, hb⟩
  have HR := Lib.hid (Reads.newAt w3 72 3 1 (imcells [oneIm 3 1]) #[.int .i64 3, .int .u64 1, .string (str (oneL 3))] w3.heap.size rfl rfl rfl)
  have HD3 := Lib.hid ((HD2.out.below_ hb).alloc (.cells #[.int .i64 3, .int .u64 1, .string (str (oneL 3))] 72))
  have HL3 := Lib.hid ((HL2.out.below_ hb).alloc (.cells #[.int .i64 3, .int .u64 1, .string (str (oneL 3))] 72))
  have HX3 := Lib.hid ((HX2.out.below_ hb).alloc (.cells #[.int .i64 3, .int .u64 1, .string (str (oneL 3))] 72))
  have HF3 := Lib.hid ((HF2.out.below hb).alloc (.cells #[.int .i64 3, .int .u64 1, .string (str (oneL 3))] 72))
  have HS3 := Lib.hid ((HS2.out.trans (Step.of_below o2 nz hb)).alloc (.cells #[.int .i64 3, .int .u64 1, .string (str (oneL 3))] 72))
  clear hb HD2 HL2 HX2 HF2 HS2
  go_wp2_with fail
  generalize w3.alloc (.cells #[.int .i64 3, .int .u64 1, .string (str (oneL 3))] 72) = W3 at HR HD3 HL3 HX3 HF3 HS3 ⊢
  generalize w3.heap.size = gI at HR ⊢
  have hadd := gadd_any HL3.out [oneIm 3 1] (some ⟨gI, 0, none⟩) 1 HR.out (by decide) (by decide) (by decide) (by intro i hi; rw [List.mem_singleton.1 hi]; show (str (UInt8.ofNat 3 :: zer 95)).size ≤ maxLen; rw [str_size, List.length_cons, zer_len]; decide) (by intro i hi; rw [List.mem_singleton.1 hi]; decide) (by decide) (by decide) (by decide) (by decide) (by decide) (by omega) HF3.out
  obtain ⟨ha1, ha2⟩ := add0 (oneIm_right (n := 3) (by decide) 1)
  have hn : lg0.addN [oneIm 3 1] = 1 := by unfold Lg.addN; rw [ha1, if_pos rfl]; rfl
  rw [ha1, ha2, hn] at hadd
  refine hadd.mono ?_
  clear hadd ha1 ha2 hn
  rintro e w4 ⟨rfl, o4, hl, hs⟩
  have HL4 := Lib.hid hl
  have HD4 := Lib.hid (HD3.out.step hs (by unfold logL; omega))
  have HX4 := Lib.hid (HX3.out.step hs (by unfold logL; omega))
  have HF4 := Lib.hid (HF3.out.step hs)
  have HS4 := Lib.hid (HS3.out.trans (hs.mono (nz_logL 20 (by omega))))
  clear hl hs HR HL3 HD3 HX3 HF3 HS3
  go_wp2_with fail
  obtain ⟨hy1, hy2⟩ := HV2.out.sync1 (oneIm 3 1)
  have hsy := gsync_any HL4.out HD4.out HV2.out.calm.tame (by omega) (by omega) (by omega) HF4.out (by decide) (by decide) (ens1 (oneIm 3 1))
  rw [hy1] at hsy
  generalize (syncR D1 (lg1 (oneIm 3 1))).D = D5 at hsy hy2
  generalize (syncR D1 (lg1 (oneIm 3 1))).g = g5 at hsy
  refine hsy.mono ?_
  clear hsy hy1
  rintro e w5 ⟨rfl, o5, hd, hl, _, hs⟩
  have HV5 := Lib.hid hy2
  have HD5 := Lib.hid hd
  have HX5 := Lib.hid (HX4.out.step hs (by unfold logC six; omega))
  have HF5 := Lib.hid (HF4.out.step hs)
  have HS5 := Lib.hid (HS4.out.trans (hs.mono (nz_logC 1 20 (by omega) (by omega))))
  clear hd hl hs hy2 HL4 HD4 HX4 HF4 HS4 HV2
  go_wp2_with fail
  refine (dfence_k (n := 1) HD5.out HV5.out.calm (by omega) (by omega)).mono ?_
  rintro e w6 ⟨rfl, o6, hd, hs⟩
  have hv := HV5.out.fence1.2
  generalize (D5.fence ((1 : Nat) : Int)).2 = D6 at hd hv
  have HV6 := Lib.hid hv
  have HD6 := Lib.hid hd
  have HX6 := Lib.hid (HX5.out.step hs (no_six (by omega)))
  have HF6 := Lib.hid (HF5.out.step hs)
  have HS6 := Lib.hid (HS5.out.trans (hs.mono (nz_six 1 (by omega))))
  clear hd hs hv HD5 HX5 HF5 HS5 HV5
  go_wp2_with fail
  refine (dadmit_k (n := 2) (e := 10) HD6.out HV6.out.calm (by omega) (by rw [HV6.out.last]; omega)).mono ?_
  rintro e w7 ⟨rfl, o7, hd, hs⟩
  have hv := (HV6.out.admit2 (e := 10) (by omega)).2
  generalize (D6.admit ((2 : Nat) : Int) 10).2 = D7 at hd hv
  have HV7 := Lib.hid hv
  have HD7 := Lib.hid hd
  have HX7 := Lib.hid (HX6.out.step hs (no_six (by omega)))
  have HF7 := Lib.hid (HF6.out.step hs)
  have HS7 := Lib.hid (HS6.out.trans (hs.mono (nz_six 1 (by omega))))
  clear hd hs hv HD6 HX6 HF6 HS6 HV6
  obtain ⟨s0, s1, s2, s3, s4⟩ := HX7.out.1.five
  go_wp2_with fail
  obtain ⟨hr1, hr2, hr3⟩ := HV7.out.run (by omega) plan_alive right_alive
  have hrn : appN blank [oneIm 3 1] = 1 := rfl
  rw [hrn] at hr2
  have hrun := erun_any HD7.out HV7.out.calm.tame (by omega) (by omega) HF7.out 1 9 ((2 : Nat) : Int) 10
  rw [hr1, hr2] at hrun
  generalize (runR D7 1 9 ((2 : Nat) : Int) 10).D = D8 at hrun hr3
  refine hrun.mono ?_
  clear hrun hr1 hr2 hrn
  rintro e w8 ⟨rfl, o8, hd, _, hs⟩
  have HV8 := Lib.hid (hr3.mono (j := 100) (by simp))
  have HD8 := Lib.hid hd
  have HX8 := Lib.hid (HX7.out.step hs (no_six (by omega)))
  have HF8 := Lib.hid (HF7.out.step hs)
  have HS8 := Lib.hid (HS7.out.trans (hs.mono (nz_six 1 (by omega))))
  clear hd hs hr3 HD7 HX7 HF7 HS7 HV7 s0 s1 s2 s3 s4
  obtain ⟨s0, s1, s2, s3, s4⟩ := HX8.out.1.five
  go_wp2_with fail
  have hld := kload_any HD8.out (by rw [HV8.out.calm.sectors]; omega) HV8.out.calm.wf ((3 : Nat) : Int)
  have hb3 : appF blank [oneIm 3 1] 3 = oneIm 3 1 := rfl
  rw [HV8.out.blk 3 (by omega), hb3] at hld
  have hag : (oneIm 3 1).agg = .agg #[.int .i64 3, .int .u64 1, .string (str (oneL 3))] := rfl
  simp only at hld
  rw [hag] at hld
  refine hld.mono ?_
  clear hld hb3 hag
  rintro e w9 ⟨rfl, hb⟩
  have HI := Lib.hid (Keep.new (HF8.out.below hb) 72 #[.int .i64 3, .int .u64 1, .string (str (oneL 3))])
  have HD9 := Lib.hid ((HD8.out.below_ hb).alloc (.cells #[.int .i64 3, .int .u64 1, .string (str (oneL 3))] 72))
  have HX9 := Lib.hid ((HX8.out.below_ hb).alloc (.cells #[.int .i64 3, .int .u64 1, .string (str (oneL 3))] 72))
  have HF9 := Lib.hid ((HF8.out.below hb).alloc (.cells #[.int .i64 3, .int .u64 1, .string (str (oneL 3))] 72))
  have HS9 := Lib.hid ((HS8.out.trans (Step.of_below o8 nz hb)).alloc (.cells #[.int .i64 3, .int .u64 1, .string (str (oneL 3))] 72))
  clear hb HD8 HX8 HF8 HS8 s0 s1 s2 s3 s4
  go_upto_region 12 with (fail)
  generalize w9.alloc (.cells #[.int .i64 3, .int .u64 1, .string (str (oneL 3))] 72) = W9 at HI HD9 HX9 HF9 HS9 ⊢
  generalize w9.heap.size = gJ at HI ⊢
  obtain ⟨s0, s1, s2, s3, s4⟩ := HX9.out.1.five
  go_wp2_with fail
  obtain ⟨hr1, _, _⟩ := run_none HV8.out.calm.live HV8.out.head 9 ((2 : Nat) : Int) 10
  have hrun := erun_any HD9.out HV8.out.calm.tame (by omega) (by omega) HF9.out 1 9 ((2 : Nat) : Int) 10
  have e1 : (runR D8 1 9 ((2 : Nat) : Int) 10).e = 0 := by rw [hr1]
  have e2 : (runR D8 1 9 ((2 : Nat) : Int) 10).n = 0 := by rw [hr1]
  rw [e1, e2] at hrun
  generalize (runR D8 1 9 ((2 : Nat) : Int) 10).D = D9 at hrun
  refine hrun.mono ?_
  clear hrun hr1 e1 e2
  rintro e w10 ⟨rfl, o10, _, _, hs⟩
  have HI10 := Lib.hid (HI.out.step hs (no_six (by omega)))
  have HS10 := Lib.hid (HS9.out.trans (hs.mono (nz_six 1 (by omega))))
  clear hs HI HD9 HX9 HF9 HS9 s0 s1 s2 s3 s4
  obtain ⟨i0, i1, i2⟩ := HI10.out.1.three
  go_wp2_with fail
  go_ret
  exact ⟨rfl, o10, HS10.out⟩
end Go.Proofs.YtkhieofknglknaaGreatDoor

/- The document's disk as a plain structure; when it shows what the real one does. -/
namespace Go.Proofs.YtkhieofknglknaaGreatDoor
open Go.RowKit

/-- the document's disk, whole -/
structure RF where
  room : Nat
  ws : List RW
  off : Bool
  table : Nat → Nat
  words : Nat → Nat
  last : Nat
  armed : Bool
  left : Int
  keep : List Int
def pickAt (k : Int) (b : Bool) (l : List RW) : Option RW := (l.filter (fun x => decide (x.at_ = k) && (!b || x.lasts))).getLast?
/-- what a sector has -/
def RF.at_ (R : RF) (k : Int) (b : Bool) : ByteArray := match pickAt k b R.ws with
  | some x => x.data
  | none => str (zer 64)
def toW (y : RW × Nat) : Ws := ⟨y.1.node, y.1.at_, (y.2 : Int), y.1.data⟩
/-- the last one of those that last, or that P holds of -/
def lst (P : RW × Nat → Bool) (L : List (RW × Nat)) (k : Int) : Option (RW × Nat) := (L.filter (fun y => decide (y.1.at_ = k) && P y)).getLast?
structure Rows (D : Dk) (ws : List RW) (L : List (RW × Nat)) : Prop where
  rows : L.map Prod.fst = ws
  rise : L.Pairwise (fun a b => a.2 < b.2)
  bound : ∀ y ∈ L, 1 ≤ y.2 ∧ y.2 ≤ D.seq
  waits : D.waits = (L.filter (fun y => !y.1.lasts)).map toW
  now : ∀ k, D.now k = (lst (fun _ => true) L k).map (fun y => y.1.data)
  lasts : ∀ k, D.lasts k = (lst (fun y => y.1.lasts) L k).map toW
/-- sectors of bytes 0 that last: the document has no need to write them -/
def Ghost (G : List RW) : Prop := ∀ x ∈ G, x.lasts = true ∧ x.data = str (zer 64)
/-- but for some sectors of bytes 0 ahead of all, the same writes -/
def GRows (D : Dk) (ws : List RW) : Prop := ∃ G L, Ghost G ∧ Rows D (G ++ ws) L
/-- a real disk shows what the document's does -/
structure Sim (D : Dk) (R : RF) : Prop where
  room : D.sectors = R.room
  on : D.on = !R.off
  table : D.table = R.table
  words : D.words = R.words
  last : D.last = R.last
  armed : D.armed = R.armed
  left : R.armed = true → D.left = R.left ∧ D.stays = R.keep ∧ 0 ≤ R.left
  rows : GRows D R.ws
theorem lst_one {P : RW × Nat → Bool} {L : List (RW × Nat)} (hr : L.Pairwise (fun a b => a.2 < b.2)) {x : RW × Nat} (hx : x ∈ L) (k : Int) :
    lst (fun y => P y || decide (y.2 = x.2)) L k = if x.1.at_ = k then (match lst P L k with
      | none => some x
      | some y => if y.2 < x.2 then some x else some y) else lst P L k := by
  obtain ⟨A, B, rfl⟩ := List.append_of_mem hx
  obtain ⟨hA, hB, hAB⟩ := List.pairwise_append.1 hr
  obtain ⟨hxB, _⟩ := List.pairwise_cons.1 hB
  have ea : A.filter (fun y => decide (y.1.at_ = k) && (P y || decide (y.2 = x.2))) = A.filter (fun y => decide (y.1.at_ = k) && P y) := by
    refine List.filter_congr (fun y hy => ?_)
    have : y.2 ≠ x.2 := Nat.ne_of_lt (hAB y hy x (List.mem_cons_self ..))
    simp [this]
  have eb : B.filter (fun y => decide (y.1.at_ = k) && (P y || decide (y.2 = x.2))) = B.filter (fun y => decide (y.1.at_ = k) && P y) := by
    refine List.filter_congr (fun y hy => ?_)
    have : y.2 ≠ x.2 := Nat.ne_of_gt (hxB y hy)
    simp [this]
  unfold lst
  rw [List.filter_append, List.filter_append, List.filter_cons, List.filter_cons, ea, eb]
  by_cases hk : x.1.at_ = k
  · rw [if_pos hk]
    simp only [hk, decide_true, Bool.true_and, Bool.or_true, if_true]
    generalize hFB : B.filter (fun y => decide (y.1.at_ = k) && P y) = FB
    generalize hFA : A.filter (fun y => decide (y.1.at_ = k) && P y) = FA
    rcases List.eq_nil_or_concat FB with rfl | ⟨FB', z, rfl⟩
    · rw [List.getLast?_append, List.getLast?_singleton, Option.some_or]
      by_cases hp : P x = true
      · rw [if_pos hp, List.getLast?_append, List.getLast?_singleton, Option.some_or]
        simp
      · rw [if_neg hp, List.append_nil]
        cases hl : FA.getLast? with
        | none => rfl
        | some y =>
          have hy : y ∈ FA := List.mem_of_getLast? hl
          rw [← hFA] at hy
          have := hAB y (List.mem_filter.1 hy).1 x (List.mem_cons_self ..)
          simp [this]
    · have hz : z ∈ B := by
        have : z ∈ B.filter (fun y => decide (y.1.at_ = k) && P y) := by rw [hFB]; simp
        exact (List.mem_filter.1 this).1
      have hlt := hxB z hz
      have e1 : ∀ (M : List (RW × Nat)), (FA ++ (M ++ FB'.concat z)).getLast? = some z := fun M => by simp
      have e2 : (FA ++ (x :: FB'.concat z)).getLast? = some z := e1 [x]
      rw [e2]
      by_cases hp : P x = true
      · rw [if_pos hp, e2]
        simp; omega
      · rw [if_neg hp]
        have e3 : (FA ++ FB'.concat z).getLast? = some z := e1 []
        rw [e3]
        have h9 : ¬ z.2 < x.2 := by omega
        simp [h9]
  · simp [hk]
theorem keep_lst {D : Dk} {P : RW × Nat → Bool} {L : List (RW × Nat)} (hr : L.Pairwise (fun a b => a.2 < b.2)) (h1 : ∀ y ∈ L, 1 ≤ y.2) (hl : ∀ k, D.lasts k = (lst P L k).map toW) {x : RW × Nat} (hx : x ∈ L) :
    ∀ k, (D.keep (toW x)).lasts k = (lst (fun y => P y || decide (y.2 = x.2)) L k).map toW := by
  intro k
  have hx1 := h1 x hx
  rw [lst_one hr hx]
  unfold Dk.keep
  have ha : (toW x).at_ = x.1.at_ := rfl
  rw [ha]
  by_cases hk : x.1.at_ = k
  · subst hk
    rw [if_pos rfl, hl]
    cases hq : lst P L x.1.at_ with
    | none =>
      rw [if_pos (show ((Option.map toW none).getD Ws.zero).seq < (toW x).seq from (show (0 : Int) < ((x.2 : Nat) : Int) by omega))]
      show upd D.lasts x.1.at_ (toW x) x.1.at_ = _
      unfold upd
      rw [if_pos rfl]
      rfl
    | some y =>
      by_cases hlt : y.2 < x.2
      · rw [if_pos (show ((Option.map toW (some y)).getD Ws.zero).seq < (toW x).seq from (show ((y.2 : Nat) : Int) < ((x.2 : Nat) : Int) by omega))]
        show upd D.lasts x.1.at_ (toW x) x.1.at_ = (if y.2 < x.2 then some x else some y).map toW
        unfold upd
        rw [if_pos rfl, if_pos hlt]
        rfl
      · rw [if_neg (show ¬ ((Option.map toW (some y)).getD Ws.zero).seq < (toW x).seq from (show ¬ ((y.2 : Nat) : Int) < ((x.2 : Nat) : Int) by omega)), hl, hq]
        show (some y).map toW = (if y.2 < x.2 then some x else some y).map toW
        rw [if_neg hlt]
  · rw [if_neg hk, ← hl]
    split
    · show upd D.lasts x.1.at_ (toW x) k = _
      unfold upd
      rw [if_neg (fun e => hk e.symm)]
    · rfl
theorem keeps_lst {L : List (RW × Nat)} (hr : L.Pairwise (fun a b => a.2 < b.2)) (h1 : ∀ y ∈ L, 1 ≤ y.2) : ∀ (W : List (RW × Nat)) (D : Dk) (P : RW × Nat → Bool), (∀ x ∈ W, x ∈ L) → (∀ k, D.lasts k = (lst P L k).map toW) →
    ∀ k, ((W.map toW).foldl Dk.keep D).lasts k = (lst (fun y => P y || W.any (fun x => decide (y.2 = x.2))) L k).map toW
  | [], D, P, _, hl, k => by
    rw [show (fun y => P y || ([] : List (RW × Nat)).any (fun x => decide (y.2 = x.2))) = P by funext y; simp]
    exact hl k
  | x :: W, D, P, hW, hl, k => by
    have h := keeps_lst hr h1 W (D.keep (toW x)) (fun y => P y || decide (y.2 = x.2)) (fun z hz => hW z (List.mem_cons_of_mem _ hz)) (keep_lst hr h1 hl (hW x (List.mem_cons_self ..))) k
    rw [List.map_cons, List.foldl_cons, h]
    congr 2
    funext y
    simp [Bool.or_assoc]
theorem seq_inj {L : List (RW × Nat)} (hr : L.Pairwise (fun a b => a.2 < b.2)) {x y : RW × Nat} (hx : x ∈ L) (hy : y ∈ L) (h : y.2 = x.2) : y = x := by
  obtain ⟨A, B, rfl⟩ := List.append_of_mem hx
  obtain ⟨_, hB, hAB⟩ := List.pairwise_append.1 hr
  obtain ⟨hxB, _⟩ := List.pairwise_cons.1 hB
  rcases List.mem_append.1 hy with hy | hy
  · have := hAB y hy x (List.mem_cons_self ..)
    omega
  · rcases List.mem_cons.1 hy with rfl | hy
    · rfl
    · have := hxB y hy
      omega
theorem rk_lasts (n : Int) (x : RW) : (x.keep n).lasts = (x.lasts || decide (x.node = n)) := by
  unfold RW.keep
  by_cases h : x.node = n
  · rw [if_pos h]; simp [h]
  · rw [if_neg h]; simp [h]
theorem rk_same (n : Int) (x : RW) : (x.keep n).node = x.node ∧ (x.keep n).at_ = x.at_ ∧ (x.keep n).data = x.data := by
  unfold RW.keep
  split <;> exact ⟨rfl, rfl, rfl⟩
/-- what node n wrote lasts -/
theorem Rows.settle {D : Dk} {ws : List RW} {L : List (RW × Nat)} (h : Rows D ws L) (n : Int) : Rows (D.settle n) (ws.map (RW.keep n)) (L.map (fun y => (y.1.keep n, y.2))) := by
  have hq : (D.settle n).seq = D.seq := (settle_same D n).2.2.2.2.2.2
  have hf : ∀ y : RW × Nat, toW (y.1.keep n, y.2) = toW y := fun y => by
    obtain ⟨a, b, c⟩ := rk_same n y.1
    simp [toW, a, b, c]
  refine ⟨?_, ?_, ?_, ?_, ?_, ?_⟩
  · rw [← h.rows, List.map_map, List.map_map]
    rfl
  · exact List.pairwise_map.2 h.rise
  · intro y hy
    obtain ⟨z, hz, rfl⟩ := List.mem_map.1 hy
    rw [hq]
    exact h.bound z hz
  · show D.waits.filter (fun x => ¬ x.node = n) = _
    rw [h.waits, List.filter_map, List.filter_filter, List.filter_map, List.map_map]
    rw [show (toW ∘ fun y : RW × Nat => (y.1.keep n, y.2)) = toW from funext hf]
    congr 1
    refine List.filter_congr (fun y _ => ?_)
    show (decide (¬ y.1.node = n) && !y.1.lasts) = !(y.1.keep n).lasts
    rw [rk_lasts]
    by_cases hn : y.1.node = n <;> simp [hn]
  · intro k
    rw [settle_now, h.now]
    unfold lst
    rw [List.filter_map, List.getLast?_map, Option.map_map]
    congr 1
    · funext y
      exact ((rk_same n y.1).2.2).symm
    · congr 1
      refine List.filter_congr (fun y _ => ?_)
      show (decide (y.1.at_ = k) && true) = (decide ((y.1.keep n).at_ = k) && true)
      rw [(rk_same n y.1).2.1]
  · intro k
    have hw : D.waits.filter (fun x => x.node = n) = (L.filter (fun y => !y.1.lasts && decide (y.1.node = n))).map toW := by
      rw [h.waits, List.filter_map, List.filter_filter]
      congr 1
      refine List.filter_congr (fun y _ => ?_)
      show (decide (y.1.node = n) && !y.1.lasts) = _
      exact Bool.and_comm _ _
    have hk := keeps_lst h.rise (fun y hy => (h.bound y hy).1) (L.filter (fun y => !y.1.lasts && decide (y.1.node = n))) D (fun y => y.1.lasts) (fun x hx => (List.mem_filter.1 hx).1) h.lasts k
    rw [← hw] at hk
    show ((D.waits.filter (fun x => x.node = n)).foldl Dk.keep D).lasts k = _
    rw [hk]
    unfold lst
    rw [List.filter_map, List.getLast?_map, Option.map_map]
    rw [show (toW ∘ fun y : RW × Nat => (y.1.keep n, y.2)) = toW from funext hf]
    congr 2
    refine List.filter_congr (fun y hy => ?_)
    show (decide (y.1.at_ = k) && (y.1.lasts || _)) = (decide ((y.1.keep n).at_ = k) && (y.1.keep n).lasts)
    rw [(rk_same n y.1).2.1, rk_lasts]
    congr 1
    by_cases hl : y.1.lasts = true
    · simp [hl]
    · have hl : y.1.lasts = false := by simpa using hl
      rw [hl, Bool.false_or, Bool.false_or]
      by_cases hn : y.1.node = n
      · rw [decide_eq_true hn]
        refine List.any_eq_true.2 ⟨y, List.mem_filter.2 ⟨hy, by simp [hl, hn]⟩, by simp⟩
      · rw [decide_eq_false hn]
        refine List.any_eq_false.2 (fun x hx => ?_)
        obtain ⟨hx1, hx2⟩ := List.mem_filter.1 hx
        simp only [decide_eq_true_eq]
        intro e
        have := seq_inj h.rise hx1 hy e
        subst this
        simp [hn] at hx2
theorem Rows.write1 {D : Dk} {ws : List RW} {L : List (RW × Nat)} (h : Rows D ws L) (n a : Int) (s : ByteArray) : Rows (D.write1 n a s) (ws ++ [⟨n, a, s, false⟩]) (L ++ [(⟨n, a, s, false⟩, D.seq + 1)]) := by
  refine ⟨by rw [List.map_append, h.rows]; rfl, ?_, ?_, ?_, ?_, ?_⟩
  · refine List.pairwise_append.2 ⟨h.rise, List.pairwise_singleton .., fun x hx y hy => ?_⟩
    rw [List.mem_singleton.1 hy]
    have := (h.bound x hx).2
    show x.2 < D.seq + 1
    omega
  · intro y hy
    show 1 ≤ y.2 ∧ y.2 ≤ D.seq + 1
    rcases List.mem_append.1 hy with hy | hy
    · have := h.bound y hy
      omega
    · rw [List.mem_singleton.1 hy]
      show 1 ≤ D.seq + 1 ∧ D.seq + 1 ≤ D.seq + 1
      omega
  · show D.waits ++ [_] = _
    rw [List.filter_append, List.map_append, h.waits]
    rfl
  · intro k
    show upd D.now a s k = _
    unfold upd lst
    rw [List.filter_append, List.filter_cons]
    by_cases hk : k = a
    · rw [if_pos hk, hk]
      simp
    · have hk2 : ¬ a = k := fun e => hk e.symm
      rw [if_neg hk]
      simp only [hk2, decide_false, Bool.false_and, List.filter_nil]
      rw [h.now]
      simp [lst]
  · intro k
    show D.lasts k = _
    unfold lst
    rw [List.filter_append, List.filter_cons, h.lasts]
    simp [lst]
theorem Rows.writeN {D : Dk} {ws : List RW} {L : List (RW × Nat)} (h : Rows D ws L) (n a : Int) (data : ByteArray) : ∀ m, ∃ L', Rows (D.writeN n a data m) (ws ++ rwsN n a data m) L'
  | 0 => ⟨L, by
      show Rows D (ws ++ rwsN n a data 0) L
      have e : rwsN n a data 0 = [] := rfl
      rw [e, List.append_nil]
      exact h⟩
  | m + 1 => by
      obtain ⟨L', h'⟩ := Rows.writeN h n a data m
      have h2 := h'.write1 n (a + m) (sect data m)
      rw [List.append_assoc, ← rwsN_succ] at h2
      exact ⟨_, h2⟩
/-- a sector, as either tells it -/
theorem Rows.at_ {D : Dk} {ws : List RW} {L : List (RW × Nat)} (h : Rows D ws L) (k : Int) : pickAt k false ws = (lst (fun _ => true) L k).map Prod.fst := by
  unfold pickAt lst
  rw [← h.rows, List.filter_map, List.getLast?_map]
  rfl
theorem pick_ghost {G : List RW} (hG : Ghost G) (k : Int) (ws : List RW) : ((pickAt k false (G ++ ws)).map (fun y : RW => y.data)).getD (str (zer 64)) = ((pickAt k false ws).map (fun y : RW => y.data)).getD (str (zer 64)) := by
  unfold pickAt
  rw [List.filter_append, List.getLast?_append]
  cases h : (ws.filter (fun x => decide (x.at_ = k) && (!false || x.lasts))).getLast? with
  | some y => rfl
  | none =>
    rw [Option.none_or]
    cases h2 : (G.filter (fun x => decide (x.at_ = k) && (!false || x.lasts))).getLast? with
    | none => rfl
    | some y => exact (hG y (List.mem_filter.1 (List.mem_of_getLast? h2)).1).2
theorem RF.at_get (R : RF) (k : Int) (b : Bool) : R.at_ k b = ((pickAt k b R.ws).map (fun y : RW => y.data)).getD (str (zer 64)) := by
  unfold RF.at_
  cases pickAt k b R.ws <;> rfl
theorem Sim.sec {D : Dk} {R : RF} (h : Sim D R) (k : Int) : D.sec k = R.at_ k false := by
  obtain ⟨G, L, hG, hL⟩ := h.rows
  rw [R.at_get, ← pick_ghost hG, hL.at_]
  unfold Dk.sec
  rw [hL.now, Option.map_map]
  rfl
theorem Ghost.keep {G : List RW} (hG : Ghost G) (n : Int) : Ghost (G.map (RW.keep n)) := by
  intro x hx
  obtain ⟨y, hy, rfl⟩ := List.mem_map.1 hx
  exact ⟨by rw [rk_lasts, (hG y hy).1]; rfl, by rw [(rk_same n y).2.2]; exact (hG y hy).2⟩
theorem GRows.settle {D : Dk} {ws : List RW} (h : GRows D ws) (n : Int) : GRows (D.settle n) (ws.map (RW.keep n)) := by
  obtain ⟨G, L, hG, hL⟩ := h
  refine ⟨G.map (RW.keep n), L.map (fun y => (y.1.keep n, y.2)), hG.keep n, ?_⟩
  rw [← List.map_append]
  exact hL.settle n
theorem GRows.writeN {D : Dk} {ws : List RW} (h : GRows D ws) (n a : Int) (data : ByteArray) (m : Nat) : GRows (D.writeN n a data m) (ws ++ rwsN n a data m) := by
  obtain ⟨G, L, hG, hL⟩ := h
  obtain ⟨L', h'⟩ := hL.writeN n a data m
  rw [List.append_assoc] at h'
  exact ⟨G, L', hG, h'⟩
theorem GRows.same {D E : Dk} {ws : List RW} (h : GRows D ws) (h1 : E.seq = D.seq) (h2 : E.waits = D.waits) (h3 : E.now = D.now) (h4 : E.lasts = D.lasts) : GRows E ws := by
  obtain ⟨G, L, hG, hL⟩ := h
  exact ⟨G, L, hG, hL.rows, hL.rise, by rw [h1]; exact hL.bound, by rw [h2]; exact hL.waits, by rw [h3]; exact hL.now, by rw [h4]; exact hL.lasts⟩
theorem ghost_waits {G : List RW} (hG : Ghost G) (P : RW → Bool) (ws : List RW) : ((G ++ ws).filter (fun x => P x && !x.lasts)) = ws.filter (fun x => P x && !x.lasts) := by
  rw [List.filter_append, List.filter_eq_nil_iff.2 (fun x hx => by simp [(hG x hx).1]), List.nil_append]
def RF.waiting (R : RF) (n : Int) : Nat := if R.off = true then 0 else (R.ws.filter (fun x => decide (x.node = n) && !x.lasts)).length
theorem Sim.waiting {D : Dk} {R : RF} (h : Sim D R) (n : Int) : (D.waits.filter (fun x => decide (x.node = n))).length = (R.ws.filter (fun x => decide (x.node = n) && !x.lasts)).length := by
  obtain ⟨G, L, hG, hL⟩ := h.rows
  rw [hL.waits, List.filter_map, List.length_map, List.filter_filter, ← ghost_waits hG, ← hL.rows, List.filter_map, List.length_map]
  rfl
end Go.Proofs.YtkhieofknglknaaGreatDoor

/- The document's disk: what its calls do, plain; the real one's do the same. -/
namespace Go.Proofs.YtkhieofknglknaaGreatDoor
open Go.RowKit

def cutW (keep : List Int) : Nat → List RW → List RW
  | _, [] => []
  | k, x :: l => if x.lasts = true then x :: cutW keep k l else if stayB keep k = true then { x with lasts := true } :: cutW keep (k + 1) l else cutW keep (k + 1) l
def waitsN (l : List RW) : Nat := (l.filter (fun x => !x.lasts)).length
def RF.cut (R : RF) (keep : List Int) : Nat × RF := if R.off = true then (0, { R with armed := false }) else (waitsN R.ws, { R with ws := cutW keep 0 R.ws, off := true, armed := false })
def RF.spend (R : RF) : Int × RF := if R.armed = false then (0, R) else if R.left = 0 then (14, (R.cut R.keep).2) else (0, { R with left := R.left - 1 })
/-- those that stay -/
def stayA {α : Type} (keep : List Int) : Nat → List α → List α
  | _, [] => []
  | k, x :: l => if stayB keep k = true then x :: stayA keep (k + 1) l else stayA keep (k + 1) l
theorem stayA_map {α β : Type} (f : α → β) (keep : List Int) : ∀ (l : List α) (k : Nat), stayA keep k (l.map f) = (stayA keep k l).map f
  | [], _ => rfl
  | x :: l, k => by
    simp only [List.map_cons, stayA, stayA_map f keep l (k + 1)]
    split <;> rfl
theorem stayA_sub {α : Type} (keep : List Int) : ∀ (l : List α) (k : Nat), ∀ x ∈ stayA keep k l, x ∈ l
  | [], _, x, h => h
  | y :: l, k, x, h => by
    unfold stayA at h
    split at h
    · rcases List.mem_cons.1 h with rfl | h
      · exact List.mem_cons_self ..
      · exact List.mem_cons_of_mem _ (stayA_sub keep l (k + 1) x h)
    · exact List.mem_cons_of_mem _ (stayA_sub keep l (k + 1) x h)
theorem stayA_app {α : Type} (keep : List Int) (x : α) : ∀ (l : List α) (k : Nat), stayA keep k (l ++ [x]) = stayA keep k l ++ (if stayB keep (k + l.length) = true then [x] else [])
  | [], k => by simp [stayA]
  | y :: l, k => by
    have h := stayA_app keep x l (k + 1)
    rw [show k + 1 + l.length = k + (y :: l).length by simp; omega] at h
    show stayA keep k (y :: (l ++ [x])) = _
    unfold stayA
    rw [h]
    split <;> simp
theorem cutN_keeps (D : Dk) (keep : List Int) : ∀ m, m ≤ D.waits.length → D.cutN keep m = (stayA keep 0 (D.waits.take m)).foldl Dk.keep D
  | 0, _ => rfl
  | m + 1, h => by
    have ih := cutN_keeps D keep m (by omega)
    have hx : D.waits[m]? = some (D.waits[m]'(by omega)) := List.getElem?_eq_getElem (by omega)
    rw [List.take_add_one, hx, Option.toList_some, stayA_app, List.foldl_append, ← ih, List.length_take, Nat.min_eq_left (by omega), Nat.zero_add]
    rw [cutN_succ hx]
    split <;> rfl
theorem cutW_eq (keep : List Int) : ∀ (L : List (RW × Nat)) (k : Nat), L.Pairwise (fun a b => a.2 < b.2) →
    cutW keep k (L.map Prod.fst) = (L.filter (fun y => y.1.lasts || (stayA keep k (L.filter (fun y => !y.1.lasts))).any (fun x => decide (y.2 = x.2)))).map (fun y => { y.1 with lasts := true })
  | [], _, _ => rfl
  | y :: L, k, h => by
    obtain ⟨hy, hL⟩ := List.pairwise_cons.1 h
    rw [List.map_cons]
    unfold cutW
    by_cases hl : y.1.lasts = true
    · rw [if_pos hl, cutW_eq keep L k hL]
      have e : (y :: L).filter (fun y => !y.1.lasts) = L.filter (fun y => !y.1.lasts) := by rw [List.filter_cons]; simp [hl]
      rw [e, List.filter_cons]
      simp only [hl, Bool.true_or, if_true, List.map_cons]
      congr 1
      cases hq : y.1
      rw [hq] at hl
      simp only at hl
      rw [hl]
    · have hl2 : y.1.lasts = false := by simpa using hl
      have e : (y :: L).filter (fun y => !y.1.lasts) = y :: L.filter (fun y => !y.1.lasts) := by rw [List.filter_cons]; simp [hl2]
      rw [if_neg hl, e]
      have hno : ∀ z ∈ L, ¬ z.2 = y.2 := fun z hz => by have := hy z hz; omega
      by_cases hs : stayB keep k = true
      · rw [if_pos hs, cutW_eq keep L (k + 1) hL]
        simp only [stayA, if_pos hs]
        rw [List.filter_cons]
        simp only [List.any_cons, decide_true, Bool.true_or, Bool.or_true, if_true, List.map_cons]
        congr 2
        refine List.filter_congr (fun z hz => ?_)
        simp [hno z hz]
      · rw [if_neg hs, cutW_eq keep L (k + 1) hL]
        simp only [stayA, if_neg hs]
        rw [List.filter_cons]
        have hf : (stayA keep (k + 1) (L.filter (fun y => !y.1.lasts))).any (fun x => decide (y.2 = x.2)) = false := by
          refine List.any_eq_false.2 (fun x hx => ?_)
          have := hno x (List.mem_filter.1 (stayA_sub keep _ _ x hx)).1
          simp only [decide_eq_true_eq]
          omega
        rw [hl2, hf]
        simp
theorem Rows.cut {D : Dk} {ws : List RW} {L : List (RW × Nat)} (h : Rows D ws L) (keep : List Int) : ∃ L', Rows (((D.arm (-1) []).cutN keep D.waits.length).off) (cutW keep 0 ws) L' := by
  have hse : (((D.arm (-1) []).cutN keep D.waits.length).off).seq = D.seq := (cutN_same (D.arm (-1) []) keep D.waits.length).2.1
  have hlast : ∀ k, ((D.arm (-1) []).cutN keep D.waits.length).lasts k = (lst (fun y => y.1.lasts || (stayA keep 0 (L.filter (fun y => !y.1.lasts))).any (fun x => decide (y.2 = x.2))) L k).map toW := by
    intro k
    rw [cutN_keeps (D.arm (-1) []) keep D.waits.length (Nat.le_refl _)]
    have e : (D.arm (-1) []).waits.take D.waits.length = (L.filter (fun y => !y.1.lasts)).map toW := by
      show D.waits.take D.waits.length = _
      rw [List.take_length, h.waits]
    rw [e, stayA_map]
    exact keeps_lst h.rise (fun y hy => (h.bound y hy).1) _ (D.arm (-1) []) (fun y => y.1.lasts) (fun x hx => (List.mem_filter.1 (stayA_sub keep _ _ x hx)).1) h.lasts k
  generalize hP : (fun y : RW × Nat => y.1.lasts || (stayA keep 0 (L.filter (fun y => !y.1.lasts))).any (fun x => decide (y.2 = x.2))) = P at hlast
  have hw := cutW_eq keep L 0 h.rise
  rw [hP, h.rows] at hw
  have hl2 : ∀ (k : Int) (Q : RW × Nat → Bool), (∀ y : RW × Nat, Q (({ y.1 with lasts := true } : RW), y.2) = true) → lst Q ((L.filter P).map (fun y : RW × Nat => (({ y.1 with lasts := true } : RW), y.2))) k = (lst P L k).map (fun y : RW × Nat => (({ y.1 with lasts := true } : RW), y.2)) := by
    intro k Q hQ
    unfold lst
    rw [List.filter_map, List.getLast?_map, List.filter_filter]
    congr 2
    refine List.filter_congr (fun y _ => ?_)
    show (decide (y.1.at_ = k) && Q (({ y.1 with lasts := true } : RW), y.2) && P y) = _
    rw [hQ, Bool.and_true]
  refine ⟨(L.filter P).map (fun y : RW × Nat => (({ y.1 with lasts := true } : RW), y.2)), ?_, ?_, ?_, ?_, ?_, ?_⟩
  · rw [hw, List.map_map]
    rfl
  · exact List.pairwise_map.2 (h.rise.filter P)
  · intro y hy
    obtain ⟨z, hz, rfl⟩ := List.mem_map.1 hy
    rw [hse]
    exact h.bound z (List.mem_filter.1 hz).1
  · show ([] : List Ws) = _
    rw [List.filter_map]
    rw [List.filter_eq_nil_iff.2 (fun y _ => by simp)]
    rfl
  · intro k
    show (((D.arm (-1) []).cutN keep D.waits.length).lasts k).map (fun x : Ws => x.data) = _
    rw [hlast, hl2 k _ (fun _ => rfl), Option.map_map, Option.map_map]
    rfl
  · intro k
    show ((D.arm (-1) []).cutN keep D.waits.length).lasts k = _
    rw [hlast, hl2 k _ (fun _ => rfl), Option.map_map]
    rfl
theorem ghost_cut {G : List RW} (hG : Ghost G) (keep : List Int) (ws : List RW) : cutW keep 0 (G ++ ws) = G ++ cutW keep 0 ws := by
  induction G with
  | nil => rfl
  | cons x G ih =>
    rw [List.cons_append, List.cons_append, ← ih (fun y hy => hG y (List.mem_cons_of_mem _ hy))]
    show cutW keep 0 (x :: (G ++ ws)) = _
    unfold cutW
    rw [if_pos (hG x (List.mem_cons_self ..)).1]
    cases G ++ ws <;> rfl
section
variable {D : Dk} {R : RF}
theorem Sim.cut (h : Sim D R) (keep : List Int) : (D.cut keep).1 = (R.cut keep).1 ∧ Sim (D.cut keep).2 (R.cut keep).2 := by
  obtain ⟨G, L, hG, hL⟩ := h.rows
  obtain ⟨c1, c2, c3, c4, c5, c6, c7⟩ := cutN_same (D.arm (-1) []) keep D.waits.length
  unfold Dk.cut RF.cut
  by_cases ho : R.off = true
  · rw [if_pos (show D.on = false by rw [h.on, ho]; rfl), if_pos ho]
    exact ⟨rfl, h.room, h.on, h.table, h.words, h.last, rfl, (fun e => by cases e), G, L, hG, hL.rows, hL.rise, hL.bound, hL.waits, hL.now, hL.lasts⟩
  · have ho2 : R.off = false := by simpa using ho
    rw [if_neg (show ¬ D.on = false by rw [h.on, ho2]; simp), if_neg ho]
    refine ⟨?_, ?_⟩
    · show D.waits.length = waitsN R.ws
      have e := congrArg List.length (ghost_waits hG (fun _ => true) R.ws)
      simp only [Bool.true_and] at e
      unfold waitsN
      rw [hL.waits, List.length_map, ← e, ← hL.rows, List.filter_map, List.length_map]
      rfl
    · obtain ⟨L', h'⟩ := hL.cut keep
      rw [ghost_cut hG] at h'
      exact ⟨c1.trans h.room, rfl, c3.trans h.table, c4.trans h.words, c5.trans h.last, c7, (fun e => by cases e), G, L', hG, h'⟩
theorem Sim.spend (h : Sim D R) (h62 : R.left ≤ 9223372036854775807) : (D.goes.1 = true ↔ R.spend.1 ≠ 0) ∧ (R.spend.1 = 0 ∨ R.spend.1 = 14) ∧ Sim D.goes.2 R.spend.2 := by
  unfold Dk.goes RF.spend
  by_cases ha : R.armed = false
  · rw [if_pos (h.armed.trans ha), if_pos ha]
    exact ⟨by simp, .inl rfl, h⟩
  · have ha2 : R.armed = true := by simpa using ha
    obtain ⟨h1, h2, h3⟩ := h.left ha2
    rw [if_neg (by rw [h.armed]; exact ha), if_neg ha]
    by_cases hl : R.left = 0
    · rw [if_neg (by omega), if_pos hl, h2]
      exact ⟨by simp, .inr rfl, (h.cut _).2⟩
    · rw [if_pos (by omega), if_neg hl]
      have hw : wrap64 (D.left - 1) = D.left - 1 := by
        rw [h1]
        unfold wrap64
        omega
      refine ⟨by simp, .inl rfl, h.room, h.on, h.table, h.words, h.last, h.armed, fun _ => ⟨?_, h2, ?_⟩, h.rows.same rfl rfl rfl rfl⟩
      · show wrap64 (D.left - 1) = R.left - 1
        rw [hw, h1]
      · show 0 ≤ R.left - 1
        omega
end
end Go.Proofs.YtkhieofknglknaaGreatDoor
