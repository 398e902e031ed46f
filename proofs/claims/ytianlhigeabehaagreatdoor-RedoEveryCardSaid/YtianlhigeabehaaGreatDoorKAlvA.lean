/- The law, plain: what Add and Sync leave of one or two records; what Run makes of them. -/
import Derived.Test.YtianlhigeabehaaGreatDoorKLawR
import Derived.Test.YtianlhigeabehaaGreatDoorKLawP
namespace Go.Proofs.YtianlhigeabehaaGreatDoor
open Go.RowKit

def oneIm (n v : Nat) : Im := ⟨n, v, str (UInt8.ofNat n :: zer 95)⟩
theorem oneIm_right {n : Nat} (h : n < 4096) (v : Nat) : (oneIm n v).right := by
  refine ⟨?_, ?_, ?_⟩
  · show (0 : Int) ≤ (n : Int)
    omega
  · show (n : Int) < 4096
    omega
  · show (str _).size = 96
    rw [str_size, List.length_cons, zer_len]
def hd9 : List UInt8 := headL ⟨9, 1, 0⟩
theorem hd9_ok : ¬ (⟨9, 1, 0⟩ : Hd).bad := by unfold Hd.bad; decide
/-- one image, as the record k of epoch 9 -/
def rcI (k : Nat) (i : Im) : Rc := ⟨9, k, [i]⟩
def enOf (k at_ : Nat) (i : Im) : En := ⟨k, at_, 3, str (recL (rcI k i)), false⟩
def lg0 : Lg := Lg.new 1 9 1
def lg1 (i : Im) : Lg := { lg0 with live := [enOf 1 0 i], at_ := 3, next := 2 }
def lg2 (i j : Im) : Lg := { lg0 with live := [enOf 1 0 i, enOf 2 3 j], at_ := 6, next := 3 }
theorem wrong_one {ep k : Nat} (he : ep ≠ 0) (hk : k ≠ 0) (i : Im) : (Rc.mk ep k [i]).wrongE = if i.right then 0 else 1 := by
  unfold Rc.wrongE
  rw [if_neg (by simp [he, hk])]
  by_cases hr : i.right
  · rw [if_pos hr, if_neg, if_neg (by simp)]
    simp only [List.mem_singleton, rise]
    rintro (⟨i, rfl, h⟩ | h)
    · exact h hr
    · exact absurd h (by decide)
  · rw [if_neg hr, if_pos (.inl ⟨i, List.mem_singleton.2 rfl, hr⟩)]
theorem rcI_ok {k : Nat} (hk : k ≠ 0) {i : Im} (hr : i.right) : (Rc.mk 9 k [i]).wrongE = 0 := by rw [wrong_one (by decide) hk, if_pos hr]
theorem secs_one : secsOf ((1 : Nat) : Int) = 3 := by rw [secs_pos (by decide) (by decide)]
theorem recL_one (k : Nat) (i : Im) : (recL (rcI k i)).length = 192 := by
  rw [recL_len]
  show secsOf ((1 : Nat) : Int) * 64 = 192
  rw [secs_one]
theorem entry_size (k at_ : Nat) (i : Im) : (enOf k at_ i).bytes.size = 192 := by
  show (str _).size = 192
  rw [str_size, recL_one]
theorem addE_ok {g : Lg} {i : Im} (hb : g.broken = false) (hw : (Rc.mk g.epoch g.next [i]).wrongE = 0) : g.addE [i] = if 7 < 3 + g.used then 10 else 0 := by
  unfold Lg.addE
  rw [hb, if_neg (by decide), hw, if_neg (by decide), if_neg (by show ¬ 1 < 1; decide)]
  show (if 7 < secsOf ((1 : Nat) : Int) + g.used then (10 : Int) else 0) = _
  rw [secs_one]
theorem addG_ok {g : Lg} {i : Im} (hb : g.broken = false) (hw : (Rc.mk g.epoch g.next [i]).wrongE = 0) (hu : ¬ 7 < 3 + g.used) :
    g.addG [i] = { g with live := g.live ++ [⟨g.next, g.at_, 3, str (recL ⟨g.epoch, g.next, [i]⟩), false⟩], at_ := (g.at_ + 3) % 7, next := (g.next + 1) % 18446744073709551616 } := by
  have e := addE_ok hb hw
  rw [if_neg hu] at e
  unfold Lg.addG
  rw [if_neg (by rw [e]; decide)]
  unfold Lg.entry Rc.putS
  rw [if_pos hw]
  have : secsOf (([i] : List Im).length : Int) = 3 := secs_one
  rw [this]
section
variable {i j x : Im} (hi : i.right) (hj : j.right) (hx : x.right)
include hi in
theorem add0 : lg0.addE [i] = 0 ∧ lg0.addG [i] = lg1 i := by
  have hw : (Rc.mk lg0.epoch lg0.next [i]).wrongE = 0 := rcI_ok (k := 1) (by decide) hi
  have hu : ¬ 7 < 3 + lg0.used := show ¬ 7 < 3 + 0 by decide
  have h1 := addE_ok rfl hw
  rw [if_neg hu] at h1
  exact ⟨h1, (addG_ok rfl hw hu).trans rfl⟩
include hj in
theorem add1 : (lg1 i).addE [j] = 0 ∧ (lg1 i).addG [j] = lg2 i j := by
  have hw : (Rc.mk (lg1 i).epoch (lg1 i).next [j]).wrongE = 0 := rcI_ok (k := 2) (by decide) hj
  have hu : ¬ 7 < 3 + (lg1 i).used := show ¬ 7 < 3 + 3 by decide
  have h1 := addE_ok rfl hw
  rw [if_neg hu] at h1
  exact ⟨h1, (addG_ok rfl hw hu).trans rfl⟩
include hx in
theorem add2 : (lg2 i j).addE [x] = 10 ∧ (lg2 i j).addG [x] = lg2 i j := by
  have hw : (Rc.mk (lg2 i j).epoch (lg2 i j).next [x]).wrongE = 0 := rcI_ok (k := 3) (by decide) hx
  have hu : 7 < 3 + (lg2 i j).used := show 7 < 3 + 6 by decide
  have h1 := addE_ok rfl hw
  rw [if_pos hu] at h1
  refine ⟨h1, ?_⟩
  unfold Lg.addG
  rw [if_pos (by rw [h1]; decide)]
end
section
variable {D : Dk} {k t1 t2 ls : Nat} {h l1 l2 l3 : List UInt8} {f : Nat → Im}
theorem View.openV (v : View D k 9 t2 ls h l1 l2 l3 f) : (D.lhead lg0 ⟨9, 1, 0⟩).1 = 0 ∧ View (D.lhead lg0 ⟨9, 1, 0⟩).2 (k + 1) 9 t2 ls hd9 l1 l2 l3 f := by
  have e := (lhead_ok v.calm (g := lg0) (by decide) v.t1 (by decide) (by decide) hd9_ok).1
  rw [e]
  refine ⟨rfl, ?_⟩
  have := (v.headW (n := 1) (by omega) v.t1 (by decide) (h' := hd9) (headL_len _)).2
  exact this.settle (1 : Nat)
theorem ens1 (i : Im) : Ens (lg1 i).live := by
  intro x hx
  rw [List.mem_singleton.1 (show x ∈ [enOf 1 0 i] from hx)]
  exact ⟨show 0 < 7 by decide, show 3 ≤ 7 by decide, fun _ => entry_size 1 0 i⟩
theorem ens2 (i j : Im) : Ens (lg2 i j).live := by
  intro y hy
  rcases List.mem_cons.1 (show y ∈ [enOf 1 0 i, enOf 2 3 j] from hy) with rfl | hy
  · exact ⟨show 0 < 7 by decide, show 3 ≤ 7 by decide, fun _ => entry_size 1 0 i⟩
  · rw [List.mem_singleton.1 hy]
    exact ⟨show 3 < 7 by decide, show 3 ≤ 7 by decide, fun _ => entry_size 2 3 j⟩
theorem View.sync0 (D : Dk) : syncR D lg0 = ⟨0, 0, D, lg0⟩ := rfl
theorem wr_done {D : Dk} {g : Lg} {n : Nat} {k : Nat} : wrGo [] k n D g = ⟨n, 0, D, g⟩ := rfl
theorem View.put1 (v : View D k 9 t2 ls h l1 l2 l3 f) {g : Lg} (h1 : g.node = 1) (h2 : g.epoch = 9) (h3 : g.base = 1) (i : Im) : (D.put_ g (enOf 1 0 i)).1 = 0 ∧ View (D.put_ g (enOf 1 0 i)).2 (k + 3) 9 t2 ls h (recL (rcI 1 i)) l2 l3 f := by
  have e := (put_one v.calm (g := g) (by omega) (by rw [h1, h2]; exact v.t1) (by omega) (by omega) (x := enOf 1 0 i) rfl (Nat.zero_le _) (entry_size 1 0 i)).1
  rw [e, h1, h3]
  exact ⟨rfl, v.recA (n := 1) (by omega) v.t1 (by decide) (recL_one 1 i)⟩
theorem View.put2 (v : View D k 9 t2 ls h l1 l2 l3 f) {g : Lg} (h1 : g.node = 1) (h2 : g.epoch = 9) (h3 : g.base = 1) (j : Im) : (D.put_ g (enOf 2 3 j)).1 = 0 ∧ View (D.put_ g (enOf 2 3 j)).2 (k + 3) 9 t2 ls h l1 (recL (rcI 2 j)) l3 f := by
  have e := (put_one v.calm (g := g) (by omega) (by rw [h1, h2]; exact v.t1) (by omega) (by omega) (x := enOf 2 3 j) rfl (show 3 ≤ 4 by decide) (entry_size 2 3 j)).1
  rw [e, h1, h3]
  exact ⟨rfl, v.recB (n := 1) (by omega) v.t1 (by decide) (recL_one 2 j)⟩
/-- Sync, where Write has written something -/
theorem View.syncW {g G : Lg} {n : Nat} {E : Dk} (hw : writeR D g = ⟨n, 0, E, G⟩) (v : View E k 9 t2 ls h l1 l2 l3 f) (h1 : G.node = 1) (h2 : G.epoch = 9) (h3 : G.synced < G.written) : (syncR D g).e = 0 ∧ View (syncR D g).D k 9 t2 ls h l1 l2 l3 f := by
  obtain ⟨b1, b2⟩ := v.barrier (n := 1) (by omega) v.t1 (by decide)
  have e : syncR D g = ⟨0, 0, (E.barrier (1 : Nat) 9).2, { G with synced := G.written }⟩ := by
    unfold syncR
    rw [hw]
    simp only
    rw [h1, h2, if_neg (by decide), if_neg (by omega), if_neg (by rw [b1]; decide)]
  rw [e]
  exact ⟨rfl, b2⟩
theorem View.sync1 (v : View D k 9 t2 ls h l1 l2 l3 f) (i : Im) : (syncR D (lg1 i)).e = 0 ∧ View (syncR D (lg1 i)).D (k + 3) 9 t2 ls h (recL (rcI 1 i)) l2 l3 f := by
  obtain ⟨p1, p2⟩ := v.put1 (g := lg1 i) rfl rfl rfl i
  have hw : writeR D (lg1 i) = ⟨1, 0, (D.put_ (lg1 i) (enOf 1 0 i)).2, (lg1 i).wrote 0 (enOf 1 0 i)⟩ := by
    show wrGo [enOf 1 0 i] 0 0 D (lg1 i) = _
    rw [wrGo_false rfl, if_neg (by rw [p1]; decide), wr_done]
  exact View.syncW hw p2 rfl rfl (show (0 : Nat) < 1 by decide)
theorem wr_two {D : Dk} {g : Lg} {x y : En} (hl : g.live = [x, y]) (hb : g.broken = false) (hx : x.written = false) (hy : y.written = false) (p1 : (D.put_ g x).1 = 0) (q1 : ((D.put_ g x).2.put_ (g.wrote 0 x) y).1 = 0) :
    writeR D g = ⟨2, 0, ((D.put_ g x).2.put_ (g.wrote 0 x) y).2, (g.wrote 0 x).wrote 1 y⟩ := by
  unfold writeR Lg.mayE
  rw [hb, if_neg (by decide), hl, wrGo_false hx, if_neg (by rw [p1]; decide), wrGo_false hy, if_neg (by rw [q1]; decide), wr_done]
theorem View.sync2 (v : View D k 9 t2 ls h l1 l2 l3 f) (i j : Im) : (syncR D (lg2 i j)).e = 0 ∧ View (syncR D (lg2 i j)).D (k + 6) 9 t2 ls h (recL (rcI 1 i)) (recL (rcI 2 j)) l3 f := by
  have h1 : (lg2 i j).node = 1 := rfl
  have h2 : (lg2 i j).epoch = 9 := rfl
  have h3 : (lg2 i j).base = 1 := rfl
  have h4 : (lg2 i j).live = [enOf 1 0 i, enOf 2 3 j] := rfl
  have h5 : (lg2 i j).broken = false := rfl
  have h6 : (lg2 i j).synced = 0 := rfl
  generalize lg2 i j = g at h1 h2 h3 h4 h5 h6 ⊢
  obtain ⟨p1, p2⟩ := v.put1 h1 h2 h3 i
  have x1 : (g.wrote 0 (enOf 1 0 i)).node = 1 := h1
  have x2 : (g.wrote 0 (enOf 1 0 i)).epoch = 9 := h2
  have x3 : (g.wrote 0 (enOf 1 0 i)).base = 1 := h3
  obtain ⟨q1, q2⟩ := p2.put2 x1 x2 x3 j
  have hw := wr_two h4 h5 rfl rfl p1 q1
  have y1 : ((g.wrote 0 (enOf 1 0 i)).wrote 1 (enOf 2 3 j)).node = 1 := h1
  have y2 : ((g.wrote 0 (enOf 1 0 i)).wrote 1 (enOf 2 3 j)).epoch = 9 := h2
  have y3 : ((g.wrote 0 (enOf 1 0 i)).wrote 1 (enOf 2 3 j)).synced < ((g.wrote 0 (enOf 1 0 i)).wrote 1 (enOf 2 3 j)).written := by
    show g.synced < 2
    omega
  exact View.syncW hw (q2.mono (by omega)) y1 y2 y3
/-- what Scan finds -/
theorem View.scan (v : View D k t1 t2 ls hd9 l1 l2 l3 f) : D.scan 1 = scanL 9 10 1 (str (l1 ++ l2 ++ l3)) ∧ D.scanE 1 = 0 ∧ D.headE 1 = 0 ∧ D.headI 1 = true ∧ (D.headH 1).epoch = 9 := by
  obtain ⟨_, h2, h3, h4⟩ := head_of v.calm.live (h := ⟨9, 1, 0⟩) hd9_ok (by decide) (by decide) (by decide) v.head
  obtain ⟨r1, r2⟩ := v.calm.read (at_ := 2) (n := 7) (by omega) (by omega) (by omega)
  have hl : D.readL 2 7 = l1 ++ l2 ++ l3 := by
    have a1 := readL_add D 2 3 4
    have a2 := readL_add D 5 3 1
    have b2 : D.readL 5 4 = l2 ++ l3 := by rw [← v.l2, ← v.l3]; exact a2
    have b1 : D.readL 2 7 = l1 ++ D.readL 5 4 := by rw [← v.l1]; exact a1
    rw [b1, b2, List.append_assoc]
  have hr : D.readE ((logAt 1).1 + 1) 7 = 0 := r1
  refine ⟨?_, ?_, h4, h3, by rw [h2]⟩
  · unfold Dk.scan
    rw [if_neg (by rw [h4, h3, hr]; decide), h2]
    have e : D.readS ((logAt 1).1 + 1) 7 = str (l1 ++ l2 ++ l3) := by rw [← hl]; exact r2
    rw [e]
    have : rotS (str (l1 ++ l2 ++ l3)) (Int.toNat (⟨9, 1, 0⟩ : Hd).at_ * 64) = str (l1 ++ l2 ++ l3) := by
      show rotS (str (l1 ++ l2 ++ l3)) 0 = _
      unfold rotS
      rw [extract_str, extract_str, str_size, List.drop_zero, List.take_of_length_le (Nat.le_refl _), List.take_zero, List.drop_zero]
      refine ByteArray.ext ?_
      apply Array.toList_inj.1
      simp
      rfl
    rw [this]
  · unfold Dk.scanE
    rw [if_neg (by rw [h4]; decide), if_neg (by rw [h3]; decide)]
    exact hr
end
theorem zer_split (n : Nat) (h : 64 ≤ n) (r : List UInt8) : zer n ++ r = zer 64 ++ (zer (n - 64) ++ r) := by
  rw [← List.append_assoc, zer_app]
  congr 2
  omega
theorem scan_zero (ep lsn f n : Nat) (hn : 64 ≤ n) (r : List UInt8) : scanL ep (f + 1) lsn (str (zer n ++ r)) = [] := by
  rw [zer_split n hn r]
  exact scanL_end (get_zero _)
theorem rcI_Good {k : Nat} (hk : k ≠ 0) (hk2 : k < 100) {i : Im} (hr : i.right) (hv : i.ver < 18446744073709551616) : (rcI k i).Good := ⟨rcI_ok hk hr, show (9 : Nat) < 18446744073709551616 by decide, by show k < _; omega, fun x hx => by rw [List.mem_singleton.1 (show x ∈ [i] from hx)]; exact hv⟩
theorem scan_nil : scanL 9 10 1 (str (zer 192 ++ zer 192 ++ zer 64)) = [] := by
  rw [List.append_assoc]
  exact scan_zero 9 1 9 192 (by decide) _
theorem mod_two : (1 + 1) % 18446744073709551616 = 2 := by decide
theorem mod_three : (2 + 1) % 18446744073709551616 = 3 := by decide
theorem scan_one {i : Im} (hi : i.right) (hv : i.ver < 18446744073709551616) : scanL 9 10 1 (str (recL (rcI 1 i) ++ zer 192 ++ zer 64)) = [rcI 1 i] := by
  rw [List.append_assoc, scanL_one (ep := 9) (lsn := 1) (f := 9) (rcI_Good (k := 1) (by decide) (by decide) hi hv) rfl rfl, mod_two, scan_zero 9 2 8 192 (by decide) _]
theorem scan_two {i j : Im} (hi : i.right) (hv : i.ver < 18446744073709551616) (hj : j.right) (hu : j.ver < 18446744073709551616) : scanL 9 10 1 (str (recL (rcI 1 i) ++ recL (rcI 2 j) ++ zer 64)) = [rcI 1 i, rcI 2 j] := by
  have h0 := scan_zero 9 3 7 64 (by decide) []
  rw [List.append_nil] at h0
  rw [List.append_assoc, scanL_one (ep := 9) (lsn := 1) (f := 9) (rcI_Good (k := 1) (by decide) (by decide) hi hv) rfl rfl, mod_two, scanL_one (ep := 9) (lsn := 2) (f := 8) (rcI_Good (k := 2) (by decide) (by decide) hj hu) rfl rfl, mod_three, h0]
/-- images that are newer are taken -/
def takeIm (f : Nat → Im) (i : Im) : Nat → Im := if i.ver ≤ (f i.block.toNat).ver then f else setIm f i.block.toNat i
def appF (f : Nat → Im) (l : List Im) : Nat → Im := l.foldl takeIm f
def appN : (Nat → Im) → List Im → Nat
  | _, [] => 0
  | f, i :: l => (if i.ver ≤ (f i.block.toNat).ver then 0 else 1) + appN (takeIm f i) l
section
variable {k t1 e ls : Nat} {h l1 l2 l3 : List UInt8}
theorem View.apply (h0 : e ≠ 0) : ∀ (l : List Im) (n k : Nat) (D : Dk) (f : Nat → Im), View D k t1 e ls h l1 l2 l3 f → (∀ i ∈ l, i.right ∧ i.ver < 18446744073709551616 ∧ i.block ≤ 9) →
    (applyGo (2 : Nat) e l n D).e = 0 ∧ (applyGo (2 : Nat) e l n D).n = n + appN f l ∧ View (applyGo (2 : Nat) e l n D).D (k + 2 * l.length) t1 e ls h l1 l2 l3 (appF f l)
  | [], n, k, D, f, v, _ => ⟨rfl, rfl, v⟩
  | i :: l, n, k, D, f, v, hl => by
    obtain ⟨hr, hv, hb⟩ := hl i (List.mem_cons_self ..)
    have hr0 := hr.1
    have hbt : ((i.block.toNat : Nat) : Int) = i.block := by omega
    have hb9 : i.block.toNat ≤ 9 := by omega
    have hld := v.blk i.block.toNat hb9
    rw [hbt] at hld
    rw [apply_one hld]
    by_cases hx : i.ver ≤ (f i.block.toNat).ver
    · obtain ⟨g1, g2, g3⟩ := View.apply h0 l n k D f v (fun j hj => hl j (List.mem_cons_of_mem _ hj))
      rw [if_pos hx]
      have e1 : takeIm f i = f := if_pos hx
      refine ⟨g1, ?_, ?_⟩
      · rw [g2]
        show n + appN f l = n + ((if i.ver ≤ (f i.block.toNat).ver then 0 else 1) + appN (takeIm f i) l)
        rw [if_pos hx, e1, Nat.zero_add]
      · show View _ _ _ _ _ _ _ _ _ (l.foldl takeIm (takeIm f i))
        rw [e1]
        exact g3.mono (by rw [List.length_cons]; omega)
    · obtain ⟨s1, s2⟩ := v.store (n := 2) (by omega) v.t2 h0 hr hv hb9 hbt.symm
      rw [if_neg hx, if_neg (by rw [s1]; decide)]
      obtain ⟨g1, g2, g3⟩ := View.apply h0 l (n + 1) (k + 2) _ _ s2 (fun j hj => hl j (List.mem_cons_of_mem _ hj))
      have e1 : takeIm f i = setIm f i.block.toNat i := if_neg hx
      refine ⟨g1, ?_, ?_⟩
      · rw [g2]
        show n + 1 + appN _ l = n + ((if i.ver ≤ (f i.block.toNat).ver then 0 else 1) + appN (takeIm f i) l)
        rw [if_neg hx, e1]
        omega
      · show View _ _ _ _ _ _ _ _ _ (l.foldl takeIm (takeIm f i))
        rw [e1]
        exact g3.mono (by rw [List.length_cons]; omega)
theorem View.applyAll {D : Dk} {f : Nat → Im} (v : View D k t1 e ls h l1 l2 l3 f) (h0 : e ≠ 0) {l : List Im} (hl : ∀ i ∈ l, i.right ∧ i.ver < 18446744073709551616 ∧ i.block ≤ 9) :
    (applyR D (2 : Nat) e l).e = 0 ∧ (applyR D (2 : Nat) e l).n = appN f l ∧ View (applyR D (2 : Nat) e l).D (k + 2 * l.length) t1 e ls h l1 l2 l3 (appF f l) := by
  obtain ⟨g1, g2, g3⟩ := View.apply h0 l 0 k D f v hl
  rw [Nat.zero_add] at g2
  unfold applyR
  generalize applyGo (2 : Nat) e l 0 D = A at g1 g2 g3
  obtain ⟨n, er, E⟩ := A
  simp only at g1 g2 g3 ⊢
  subst g1 g2
  rw [if_neg (by decide)]
  by_cases hn : appN f l = 0
  · rw [if_pos hn]
    exact ⟨rfl, rfl, g3⟩
  · rw [if_neg hn]
    obtain ⟨b1, b2⟩ := g3.barrier (n := 2) (by omega) g3.t2 h0
    rw [if_neg (by rw [b1]; decide)]
    exact ⟨rfl, rfl, b2⟩
/-- Run, where Plan tells l -/
theorem View.run {D : Dk} {f : Nat → Im} (v : View D k t1 e ls hd9 l1 l2 l3 f) (h0 : e ≠ 0) {l : List Im} (hp : planOf (scanL 9 10 1 (str (l1 ++ l2 ++ l3))) = l) (hl : ∀ i ∈ l, i.right ∧ i.ver < 18446744073709551616 ∧ i.block ≤ 9) :
    (runR D 1 9 (2 : Nat) e).e = 0 ∧ (runR D 1 9 (2 : Nat) e).n = appN f l ∧ View (runR D 1 9 (2 : Nat) e).D (k + 2 * l.length + 1) t1 e ls (zer 64) l1 l2 l3 (appF f l) := by
  obtain ⟨c1, c2, c3, c4, c5⟩ := v.scan
  obtain ⟨a1, a2, a3⟩ := v.applyAll h0 hl
  unfold runR
  rw [c1, hp, c2, c3, c4, c5, if_neg (by decide), if_neg (by decide), if_neg (by decide)]
  generalize applyR D (2 : Nat) e l = A at a1 a2 a3
  obtain ⟨n, er, E⟩ := A
  simp only at a1 a2 a3 ⊢
  subst a1 a2
  rw [if_neg (by decide)]
  obtain ⟨w1, w2⟩ := a3.headW (n := 2) (by omega) a3.t2 h0 (h' := zer 64) (zer_len 64)
  have w1' : E.write (2 : Nat) e (logAt 1).1 (str (zer 64)) = (0, E.writeN (2 : Nat) 1 (str (zer 64)) 1) := w1
  rw [w1', if_neg (by simp)]
  obtain ⟨b1, b2⟩ := w2.barrier (n := 2) (by omega) w2.t2 h0
  rw [if_neg (by rw [b1]; decide)]
  exact ⟨rfl, rfl, b2⟩
end
end Go.Proofs.YtianlhigeabehaaGreatDoor

/- commonslaw13.alive: a record is added, synced, done again, and read. -/
namespace Go.Proofs.YtianlhigeabehaaGreatDoor
open Go.RowKit

theorem plan_alive : planOf (scanL 9 10 1 (str (recL (rcI 1 (oneIm 3 1)) ++ zer 192 ++ zer 64))) = [oneIm 3 1] := by
  rw [scan_one (oneIm_right (by decide) _) (by decide)]
  exact plan_one _ _ rfl
theorem right_alive : ∀ i ∈ [oneIm 3 1], i.right ∧ i.ver < 18446744073709551616 ∧ i.block ≤ 9 := by
  intro i hi
  rw [List.mem_singleton.1 hi]
  exact ⟨oneIm_right (by decide) _, by decide, by decide⟩
def nz : Nat → Prop := fun x => x ≠ 0
theorem nz_six (c : Nat) (h : 1 ≤ c) : ∀ x, six c x → nz x := fun x hx => by unfold six at hx; unfold nz; omega
theorem nz_logL (c : Nat) (h : 1 ≤ c) : ∀ x, logL c x → nz x := fun x hx => by unfold logL at hx; unfold nz; omega
theorem nz_logC (c d : Nat) (h : 1 ≤ c) (h2 : 1 ≤ d) : ∀ x, logC c d x → nz x := fun x hx => by unfold logC six at hx; unfold nz; omega
theorem nz_ready : ∀ x, readyC 1 10 x → nz x := fun x hx => by unfold readyC six logL at hx; unfold nz; omega
set_option maxRecDepth 100000 in
set_option maxHeartbeats 8000000 in
theorem alive13_any {o : Nat → Nat} {w : World} (hf : Fut o w) : Calls Tryz.prog 5 #[] w fun e w' => e = .returned (.bool true) ∧ ∃ o', Step o nz w o' w' := by
  have HF := Lib.hid hf
  clear hf
  go_enter Tryz.func5, Tryz.ntmps5
  go_wp2_with fail
  refine (ready_any (cd := 1) (cr := 10) HF.out (by omega) (by omega)).mono ?_
  rintro e w1 ⟨p, r, rfl, o1, hd, _, hs⟩
  have HV := Lib.hid readyV
  generalize readyD = D0 at hd HV
  generalize D0.table 2 = T2 at HV
  have hf1 := HF.out.step hs
  have HX := Lib.hid (Keep.new hf1 31 #[.int .i64 2, .int .i64 10, .int .i64 8, .int .i64 4, .int .i64 32])
  have HD := Lib.hid (hd.alloc (.cells #[.int .i64 2, .int .i64 10, .int .i64 8, .int .i64 4, .int .i64 32] 31))
  have HF1 := Lib.hid (hf1.alloc (.cells #[.int .i64 2, .int .i64 10, .int .i64 8, .int .i64 4, .int .i64 32] 31))
  have HS1 := Lib.hid ((hs.mono nz_ready).alloc (.cells #[.int .i64 2, .int .i64 10, .int .i64 8, .int .i64 4, .int .i64 32] 31))
  clear hd hs hf1 HF
  go_upto_region 4 with (fail)
  generalize w1.alloc (.cells #[.int .i64 2, .int .i64 10, .int .i64 8, .int .i64 4, .int .i64 32] 31) = W1 at HX HD HF1 HS1 ⊢
  generalize w1.heap.size = g at HX ⊢
  obtain ⟨s0, s1, s2, s3, s4⟩ := HX.out.1.five
  go_wp2_with fail
  refine (gopen_any (c := 20) HD.out HV.out.calm.tame (by omega) (by omega) (by omega) HF1.out 1 9 1 rfl (by omega) HV.out.openV.1).mono ?_
  rintro e w2 ⟨q, rfl, o2, hd, hl, hs⟩
  have hv := HV.out.openV.2
  change DiskAt o2 1 w2 p (D0.lhead lg0 ⟨9, 1, 0⟩).2 at hd
  change LogAt o2 20 w2 q lg0 p at hl
  generalize (D0.lhead lg0 ⟨9, 1, 0⟩).2 = D1 at hd hv
  have HV2 := Lib.hid hv
  have HD2 := Lib.hid hd
  have HL2 := Lib.hid hl
  have HX2 := Lib.hid (HX.out.step hs (no_six (by omega)))
  have HF2 := Lib.hid (HF1.out.step hs)
  have HS2 := Lib.hid (HS1.out.trans (hs.mono (nz_six 1 (by omega))))
  clear hd hl hs hv HV HD HX HF1 HS1 s0 s1 s2 s3 s4
  go_wp2_with fail
  refine (one11_any 3 1 (by omega) w2).mono ?_
  rintro e w3 ⟨rfl, hb⟩
  have HR := Lib.hid (Reads.newAt w3 40 3 1 (imcells [oneIm 3 1]) #[.int .i64 3, .int .u64 1, .string (str (oneL 3))] w3.heap.size rfl rfl rfl)
  have HD3 := Lib.hid ((HD2.out.below_ hb).alloc (.cells #[.int .i64 3, .int .u64 1, .string (str (oneL 3))] 40))
  have HL3 := Lib.hid ((HL2.out.below_ hb).alloc (.cells #[.int .i64 3, .int .u64 1, .string (str (oneL 3))] 40))
  have HX3 := Lib.hid ((HX2.out.below_ hb).alloc (.cells #[.int .i64 3, .int .u64 1, .string (str (oneL 3))] 40))
  have HF3 := Lib.hid ((HF2.out.below hb).alloc (.cells #[.int .i64 3, .int .u64 1, .string (str (oneL 3))] 40))
  have HS3 := Lib.hid ((HS2.out.trans (Step.of_below o2 nz hb)).alloc (.cells #[.int .i64 3, .int .u64 1, .string (str (oneL 3))] 40))
  clear hb HD2 HL2 HX2 HF2 HS2
  go_wp2_with fail
  generalize w3.alloc (.cells #[.int .i64 3, .int .u64 1, .string (str (oneL 3))] 40) = W3 at HR HD3 HL3 HX3 HF3 HS3 ⊢
  generalize w3.heap.size = gI at HR ⊢
  have hadd := gadd_any HL3.out [oneIm 3 1] (some ⟨gI, 0, none⟩) 1 HR.out (by decide) (by decide) (by decide) (by intro i hi; rw [List.mem_singleton.1 hi]; show (str (UInt8.ofNat 3 :: zer 95)).size ≤ maxLen; rw [str_size, List.length_cons, zer_len]; decide) (by intro i hi; rw [List.mem_singleton.1 hi]; decide) (by decide) (by decide) (by decide) (by decide) (by decide) (by omega) HF3.out
  obtain ⟨ha1, ha2⟩ := add0 (oneIm_right (n := 3) (by decide) 1)
  have hn : lg0.addN [oneIm 3 1] = 1 := by unfold Lg.addN; rw [ha1, if_pos rfl]; rfl
  rw [ha1, ha2, hn] at hadd
  refine hadd.mono ?_
  clear hadd ha1 ha2 hn
  rintro e w4 ⟨rfl, o4, hl, hs⟩
  have HL4 := Lib.hid hl
  have HD4 := Lib.hid (HD3.out.step hs (by unfold logL; omega))
  have HX4 := Lib.hid (HX3.out.step hs (by unfold logL; omega))
  have HF4 := Lib.hid (HF3.out.step hs)
  have HS4 := Lib.hid (HS3.out.trans (hs.mono (nz_logL 20 (by omega))))
  clear hl hs HR HL3 HD3 HX3 HF3 HS3
  go_wp2_with fail
  obtain ⟨hy1, hy2⟩ := HV2.out.sync1 (oneIm 3 1)
  have hsy := gsync_any HL4.out HD4.out HV2.out.calm.tame (by omega) (by omega) (by omega) HF4.out (by decide) (by decide) (ens1 (oneIm 3 1))
  rw [hy1] at hsy
  generalize (syncR D1 (lg1 (oneIm 3 1))).D = D5 at hsy hy2
  generalize (syncR D1 (lg1 (oneIm 3 1))).g = g5 at hsy
  refine hsy.mono ?_
  clear hsy hy1
  rintro e w5 ⟨rfl, o5, hd, hl, _, hs⟩
  have HV5 := Lib.hid hy2
  have HD5 := Lib.hid hd
  have HX5 := Lib.hid (HX4.out.step hs (by unfold logC six; omega))
  have HF5 := Lib.hid (HF4.out.step hs)
  have HS5 := Lib.hid (HS4.out.trans (hs.mono (nz_logC 1 20 (by omega) (by omega))))
  clear hd hl hs hy2 HL4 HD4 HX4 HF4 HS4 HV2
  go_wp2_with fail
  refine (dfence_k (n := 1) HD5.out HV5.out.calm (by omega) (by omega)).mono ?_
  rintro e w6 ⟨rfl, o6, hd, hs⟩
  have hv := HV5.out.fence1.2
  generalize (D5.fence ((1 : Nat) : Int)).2 = D6 at hd hv
  have HV6 := Lib.hid hv
  have HD6 := Lib.hid hd
  have HX6 := Lib.hid (HX5.out.step hs (no_six (by omega)))
  have HF6 := Lib.hid (HF5.out.step hs)
  have HS6 := Lib.hid (HS5.out.trans (hs.mono (nz_six 1 (by omega))))
  clear hd hs hv HD5 HX5 HF5 HS5 HV5
  go_wp2_with fail
  refine (dadmit_k (n := 2) (e := 10) HD6.out HV6.out.calm (by omega) (by rw [HV6.out.last]; omega)).mono ?_
  rintro e w7 ⟨rfl, o7, hd, hs⟩
  have hv := (HV6.out.admit2 (e := 10) (by omega)).2
  generalize (D6.admit ((2 : Nat) : Int) 10).2 = D7 at hd hv
  have HV7 := Lib.hid hv
  have HD7 := Lib.hid hd
  have HX7 := Lib.hid (HX6.out.step hs (no_six (by omega)))
  have HF7 := Lib.hid (HF6.out.step hs)
  have HS7 := Lib.hid (HS6.out.trans (hs.mono (nz_six 1 (by omega))))
  clear hd hs hv HD6 HX6 HF6 HS6 HV6
  obtain ⟨s0, s1, s2, s3, s4⟩ := HX7.out.1.five
  go_wp2_with fail
  obtain ⟨hr1, hr2, hr3⟩ := HV7.out.run (by omega) plan_alive right_alive
  have hrn : appN blank [oneIm 3 1] = 1 := rfl
  rw [hrn] at hr2
  have hrun := erun_any HD7.out HV7.out.calm.tame (by omega) (by omega) HF7.out 1 9 ((2 : Nat) : Int) 10
  rw [hr1, hr2] at hrun
  generalize (runR D7 1 9 ((2 : Nat) : Int) 10).D = D8 at hrun hr3
  refine hrun.mono ?_
  clear hrun hr1 hr2 hrn
  rintro e w8 ⟨rfl, o8, hd, _, hs⟩
  have HV8 := Lib.hid (hr3.mono (j := 100) (by simp))
  have HD8 := Lib.hid hd
  have HX8 := Lib.hid (HX7.out.step hs (no_six (by omega)))
  have HF8 := Lib.hid (HF7.out.step hs)
  have HS8 := Lib.hid (HS7.out.trans (hs.mono (nz_six 1 (by omega))))
  clear hd hs hr3 HD7 HX7 HF7 HS7 HV7 s0 s1 s2 s3 s4
  obtain ⟨s0, s1, s2, s3, s4⟩ := HX8.out.1.five
  go_wp2_with fail
  have hld := kload_any HD8.out (by rw [HV8.out.calm.sectors]; omega) HV8.out.calm.wf ((3 : Nat) : Int)
  have hb3 : appF blank [oneIm 3 1] 3 = oneIm 3 1 := rfl
  rw [HV8.out.blk 3 (by omega), hb3] at hld
  have hag : (oneIm 3 1).agg = .agg #[.int .i64 3, .int .u64 1, .string (str (oneL 3))] := rfl
  simp only at hld
  rw [hag] at hld
  refine hld.mono ?_
  clear hld hb3 hag
  rintro e w9 ⟨rfl, hb⟩
  have HI := Lib.hid (Keep.new (HF8.out.below hb) 40 #[.int .i64 3, .int .u64 1, .string (str (oneL 3))])
  have HD9 := Lib.hid ((HD8.out.below_ hb).alloc (.cells #[.int .i64 3, .int .u64 1, .string (str (oneL 3))] 40))
  have HX9 := Lib.hid ((HX8.out.below_ hb).alloc (.cells #[.int .i64 3, .int .u64 1, .string (str (oneL 3))] 40))
  have HF9 := Lib.hid ((HF8.out.below hb).alloc (.cells #[.int .i64 3, .int .u64 1, .string (str (oneL 3))] 40))
  have HS9 := Lib.hid ((HS8.out.trans (Step.of_below o8 nz hb)).alloc (.cells #[.int .i64 3, .int .u64 1, .string (str (oneL 3))] 40))
  clear hb HD8 HX8 HF8 HS8 s0 s1 s2 s3 s4
  go_upto_region 12 with (fail)
  generalize w9.alloc (.cells #[.int .i64 3, .int .u64 1, .string (str (oneL 3))] 40) = W9 at HI HD9 HX9 HF9 HS9 ⊢
  generalize w9.heap.size = gJ at HI ⊢
  obtain ⟨s0, s1, s2, s3, s4⟩ := HX9.out.1.five
  go_wp2_with fail
  obtain ⟨hr1, _, _⟩ := run_none HV8.out.calm.live HV8.out.head 9 ((2 : Nat) : Int) 10
  have hrun := erun_any HD9.out HV8.out.calm.tame (by omega) (by omega) HF9.out 1 9 ((2 : Nat) : Int) 10
  have e1 : (runR D8 1 9 ((2 : Nat) : Int) 10).e = 0 := by rw [hr1]
  have e2 : (runR D8 1 9 ((2 : Nat) : Int) 10).n = 0 := by rw [hr1]
  rw [e1, e2] at hrun
  generalize (runR D8 1 9 ((2 : Nat) : Int) 10).D = D9 at hrun
  refine hrun.mono ?_
  clear hrun hr1 e1 e2
  rintro e w10 ⟨rfl, o10, _, _, hs⟩
  have HI10 := Lib.hid (HI.out.step hs (no_six (by omega)))
  have HS10 := Lib.hid (HS9.out.trans (hs.mono (nz_six 1 (by omega))))
  clear hs HI HD9 HX9 HF9 HS9 s0 s1 s2 s3 s4
  obtain ⟨i0, i1, i2⟩ := HI10.out.1.three
  go_wp2_with fail
  go_ret
  exact ⟨rfl, o10, HS10.out⟩
end Go.Proofs.YtianlhigeabehaaGreatDoor
