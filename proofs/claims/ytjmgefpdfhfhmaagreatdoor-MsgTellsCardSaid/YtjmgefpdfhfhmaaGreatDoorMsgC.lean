/- Messages: Get reads one. -/
import Derived.Test.YtjmgefpdfhfhmaaGreatDoorMsgB
namespace Go.Proofs.YtjmgefpdfhfhmaaGreatDoor
open Go.RowKit

/-- a reader under way; what lay before stays -/
structure Gs (T : TypeId) (o : Nat → Nat) (w0 w : World) (p : Nat) (R : Rd) : Prop where
  rd : RdAt T o 1 w p R
  env : Env o w0 w
  fut : Fut o w
section
variable {T : TypeId} {o o' : Nat → Nat} {w0 w w' : World} {p g : Nat} {R R' : Rd}
theorem Gs.next (h : Gs T o w0 w p R) (hw : RdAt T o' 1 w' p R') (hs : Step o (only 1) w o' w') : Gs T o' w0 w' p R' := ⟨hw, h.env.step hs (by unfold only; omega), h.fut.step hs⟩
theorem Gs.below_ (h : Gs T o w0 w p R) (hb : Below w.heap.size w w') : Gs T o w0 w' p R := ⟨h.rd.below_ hb, h.env.below_ hb, h.fut.below hb⟩
theorem Gs.alloc (h : Gs T o w0 w p R) (x : Obj) : Gs T o w0 (w.alloc x) p R := ⟨h.rd.alloc x, h.env.alloc x, h.fut.alloc x⟩
theorem Gs.drewN (h : Gs T o w0 w p R) (n : Nat) : Gs T o w0 (w.drewN n) p R := ⟨h.rd.drewN n, h.env.drewN n, h.fut.drewN n⟩
theorem Gs.drew (h : Gs T o w0 w p R) : Gs T o w0 w.drew p R := h.drewN 1
theorem Gs.setCell (h : Gs T o w0 w p R) (ho : o g = 0) (hg : w0.heap.size ≤ g) (i : Nat) (u : Value) : Gs T o w0 (w.setCell ⟨g, i, none⟩ u) p R := by
  have hne : p ≠ g := by
    rintro rfl
    have := h.rd.2.1
    omega
  exact ⟨⟨h.rd.1.far (p := ⟨g, i, none⟩) hne u, h.rd.2⟩, ⟨h.env.low.setCell (p := ⟨g, i, none⟩) hg u, h.env.old⟩, h.fut.setCell _ _⟩
theorem Gs.own (h : Gs T o w0 w p R) (hs : Step o (only 2) w o' w') : Gs T o' w0 w' p R := ⟨h.rd.step hs (by unfold only; omega), h.env.step hs (by unfold only; omega), h.fut.step hs⟩
theorem rnum_g (h : Gs 127 o w0 w p R) (n : Int) :
    Calls Tryz.prog 24 #[.pointer (some ⟨p, 0, none⟩), .int .i64 n] w fun r w' => r = .returned (.int .u64 (R.numV n)) ∧ ∃ o', Gs 127 o' w0 w' p (R.numR n) ∧ Step o (only 1) w o' w' := by
  refine (rnum_any h.rd n).mono ?_
  rintro e w1 ⟨rfl, o1, h1, hs⟩
  exact ⟨rfl, o1, h.next h1 hs, hs⟩
theorem rcount_g (h : Gs 127 o w0 w p R) (n : Int) :
    Calls Tryz.prog 25 #[.pointer (some ⟨p, 0, none⟩), .int .i64 n] w fun r w' => r = .returned (.int .i64 (R.countV n)) ∧ ∃ o', Gs 127 o' w0 w' p (R.countR n) ∧ Step o (only 1) w o' w' := by
  refine (rcount_any h.rd n).mono ?_
  rintro e w1 ⟨rfl, o1, h1, hs⟩
  exact ⟨rfl, o1, h.next h1 hs, hs⟩
theorem Keep.set_ {t : TypeId} {cs : Array Value} (h : Keep o w g t cs) (i : Nat) (u : Value) : Keep o (w.setCell ⟨g, i, none⟩ u) g t (cs.setIfInBounds i u) := ⟨h.1.set_ i u, h.2⟩
theorem Keep.far {t : TypeId} {cs : Array Value} {g' : Nat} (h : Keep o w g t cs) (hne : g ≠ g') (i : Nat) (u : Value) : Keep o (w.setCell ⟨g', i, none⟩ u) g t cs := ⟨h.1.far (p := ⟨g', i, none⟩) hne u, h.2⟩
end
/-- the reader behind the kind, and behind k numbers more -/
def rK (b : ByteArray) : Nat → Rd
  | 0 => (⟨b, 0⟩ : Rd).numR 1
  | k + 1 => (rK b k).numR 4
def fld (b : ByteArray) (j k : Nat) : Int := if j < k then ((rK b j).numV 4 : Int) else 0
theorem hdR_rK (b : ByteArray) : hdR b = (rK b 5).numR 8 := rfl
theorem getM_rK (b : ByteArray) : getM b = ⟨(⟨b, 0⟩ : Rd).numV 1, (rK b 0).numV 4, (rK b 1).numV 4, (rK b 2).numV 4, (rK b 3).numV 4, (rK b 5).numV 8, (rK b 4).numV 4, lksV ((hdR b).countR 200) ((hdR b).countV 200).toNat⟩ := rfl
theorem row_set (b : ByteArray) {k : Nat} (hk : k < 4) (kd : Int) (c5 c6 c7 : Value) :
    (#[.int .i64 kd, .int .i64 (fld b 0 k), .int .i64 (fld b 1 k), .int .i64 (fld b 2 k), .int .i64 (fld b 3 k), c5, c6, c7] : Array Value).setIfInBounds (k + 1) (.int .i64 ((rK b k).numV 4 : Int)) =
      #[.int .i64 kd, .int .i64 (fld b 0 (k + 1)), .int .i64 (fld b 1 (k + 1)), .int .i64 (fld b 2 (k + 1)), .int .i64 (fld b 3 (k + 1)), c5, c6, c7] := by
  have : k = 0 ∨ k = 1 ∨ k = 2 ∨ k = 3 := by omega
  rcases this with rfl | rfl | rfl | rfl <;> simp [fld]
theorem row_get (b : ByteArray) {k : Nat} (hk : k < 4) (kd : Int) (c5 c6 c7 : Value) :
    ∃ x, (#[.int .i64 kd, .int .i64 (fld b 0 k), .int .i64 (fld b 1 k), .int .i64 (fld b 2 k), .int .i64 (fld b 3 k), c5, c6, c7] : Array Value)[k + 1]? = some (.int .i64 x) := by
  have : k = 0 ∨ k = 1 ∨ k = 2 ∨ k = 3 := by omega
  rcases this with rfl | rfl | rfl | rfl <;> exact ⟨_, rfl⟩
theorem ptrs_get (g : Nat) {k : Nat} (hk : k < 4) : (#[.pointer (some ⟨g, 1, none⟩), .pointer (some ⟨g, 2, none⟩), .pointer (some ⟨g, 3, none⟩), .pointer (some ⟨g, 4, none⟩)] : Array Value)[k]? = some (.pointer (some ⟨g, k + 1, none⟩)) := by
  have : k = 0 ∨ k = 1 ∨ k = 2 ∨ k = 3 := by omega
  rcases this with rfl | rfl | rfl | rfl <;> rfl
theorem info_lock : (Tryz.prog.info? 68).map (fun i => (i.zero, i.size, i.bytes)) = some (some (.agg #[.int .i64 0, .int .i64 0, .int .i64 0]), 3, 24) := by kernel_rfl
section
variable {T : TypeId} {o : Nat → Nat} {w0 w : World} {p g : Nat} {R : Rd}
theorem Gs.set8 (h : Gs T o w0 w p R) (ho : o g = 0) (hg : w0.heap.size ≤ g) (c0 c1 c2 c3 c4 c5 c6 c7 : Value) : Gs T o w0 ((((((((w.setCell ⟨g, 0, none⟩ c0).setCell ⟨g, 1, none⟩ c1).setCell ⟨g, 2, none⟩ c2).setCell ⟨g, 3, none⟩ c3).setCell ⟨g, 4, none⟩ c4).setCell ⟨g, 5, none⟩ c5).setCell ⟨g, 6, none⟩ c6).setCell ⟨g, 7, none⟩ c7) p R :=
  (((((((h.setCell ho hg 0 c0).setCell ho hg 1 c1).setCell ho hg 2 c2).setCell ho hg 3 c3).setCell ho hg 4 c4).setCell ho hg 5 c5).setCell ho hg 6 c6).setCell ho hg 7 c7
theorem Keep.set8 {t : TypeId} {d0 d1 d2 d3 d4 d5 d6 d7 : Value} (h : Keep o w g t #[d0, d1, d2, d3, d4, d5, d6, d7]) (c0 c1 c2 c3 c4 c5 c6 c7 : Value) : Keep o ((((((((w.setCell ⟨g, 0, none⟩ c0).setCell ⟨g, 1, none⟩ c1).setCell ⟨g, 2, none⟩ c2).setCell ⟨g, 3, none⟩ c3).setCell ⟨g, 4, none⟩ c4).setCell ⟨g, 5, none⟩ c5).setCell ⟨g, 6, none⟩ c6).setCell ⟨g, 7, none⟩ c7) g t #[c0, c1, c2, c3, c4, c5, c6, c7] := by
  have h0 : Keep o (w.setCell ⟨g, 0, none⟩ c0) g t #[c0, d1, d2, d3, d4, d5, d6, d7] := h.set_ 0 c0
  have h1 : Keep o ((w.setCell ⟨g, 0, none⟩ c0).setCell ⟨g, 1, none⟩ c1) g t #[c0, c1, d2, d3, d4, d5, d6, d7] := h0.set_ 1 c1
  have h2 : Keep o (((w.setCell ⟨g, 0, none⟩ c0).setCell ⟨g, 1, none⟩ c1).setCell ⟨g, 2, none⟩ c2) g t #[c0, c1, c2, d3, d4, d5, d6, d7] := h1.set_ 2 c2
  have h3 : Keep o ((((w.setCell ⟨g, 0, none⟩ c0).setCell ⟨g, 1, none⟩ c1).setCell ⟨g, 2, none⟩ c2).setCell ⟨g, 3, none⟩ c3) g t #[c0, c1, c2, c3, d4, d5, d6, d7] := h2.set_ 3 c3
  have h4 : Keep o (((((w.setCell ⟨g, 0, none⟩ c0).setCell ⟨g, 1, none⟩ c1).setCell ⟨g, 2, none⟩ c2).setCell ⟨g, 3, none⟩ c3).setCell ⟨g, 4, none⟩ c4) g t #[c0, c1, c2, c3, c4, d5, d6, d7] := h3.set_ 4 c4
  have h5 : Keep o ((((((w.setCell ⟨g, 0, none⟩ c0).setCell ⟨g, 1, none⟩ c1).setCell ⟨g, 2, none⟩ c2).setCell ⟨g, 3, none⟩ c3).setCell ⟨g, 4, none⟩ c4).setCell ⟨g, 5, none⟩ c5) g t #[c0, c1, c2, c3, c4, c5, d6, d7] := h4.set_ 5 c5
  have h6 : Keep o (((((((w.setCell ⟨g, 0, none⟩ c0).setCell ⟨g, 1, none⟩ c1).setCell ⟨g, 2, none⟩ c2).setCell ⟨g, 3, none⟩ c3).setCell ⟨g, 4, none⟩ c4).setCell ⟨g, 5, none⟩ c5).setCell ⟨g, 6, none⟩ c6) g t #[c0, c1, c2, c3, c4, c5, c6, d7] := h5.set_ 6 c6
  have h7 : Keep o ((((((((w.setCell ⟨g, 0, none⟩ c0).setCell ⟨g, 1, none⟩ c1).setCell ⟨g, 2, none⟩ c2).setCell ⟨g, 3, none⟩ c3).setCell ⟨g, 4, none⟩ c4).setCell ⟨g, 5, none⟩ c5).setCell ⟨g, 6, none⟩ c6).setCell ⟨g, 7, none⟩ c7) g t #[c0, c1, c2, c3, c4, c5, c6, c7] := h6.set_ 7 c7
  exact h7
theorem OwnS.set8 {c size n : Nat} {e : TypeId} {v : Value} {xs : List Value} (h : OwnS o c w e size v n xs) (hv : v.ownBlock ≠ some g) (c0 c1 c2 c3 c4 c5 c6 c7 : Value) : OwnS o c ((((((((w.setCell ⟨g, 0, none⟩ c0).setCell ⟨g, 1, none⟩ c1).setCell ⟨g, 2, none⟩ c2).setCell ⟨g, 3, none⟩ c3).setCell ⟨g, 4, none⟩ c4).setCell ⟨g, 5, none⟩ c5).setCell ⟨g, 6, none⟩ c6).setCell ⟨g, 7, none⟩ c7) e size v n xs :=
  (((((((h.setCell (p := ⟨g, 0, none⟩) hv c0).setCell (p := ⟨g, 1, none⟩) hv c1).setCell (p := ⟨g, 2, none⟩) hv c2).setCell (p := ⟨g, 3, none⟩) hv c3).setCell (p := ⟨g, 4, none⟩) hv c4).setCell (p := ⟨g, 5, none⟩) hv c5).setCell (p := ⟨g, 6, none⟩) hv c6).setCell (p := ⟨g, 7, none⟩) hv c7
end
set_option maxRecDepth 100000 in
set_option maxHeartbeats 4000000 in
theorem get_any (b : ByteArray) (w : World) (hb : b.size ≤ 1000000000) :
    Calls Tryz.prog 9 #[.string b] w fun e w' => ∃ A cap oi, e = .returned (.tuple #[(gotM b).agg A cap, .int .i64 (gotE b)]) ∧ OwnS oi 2 w' 68 3 (.slice A (gotM b).locks.length cap) (gotM b).locks.length (lkcells (gotM b).locks) ∧ Env oi w w' ∧ Fut oi w' := by
  have HB := Lib.hid hb
  clear hb
  go_enter Tryz.func9, Tryz.ntmps9
  go_wp2_with fail
  refine (newreader_any (fun _ => 0) 1 b _ HB.out).mono ?_
  rintro e w1 ⟨p, o1, rfl, hr1, hb1, hs1⟩
  have hg1 : Gs 127 o1 w w1 p ⟨b, 0⟩ := ⟨hr1, ((Env.start w).alloc _).step (hs1 (fun _ => False)) (by simp), (show Fut (fun _ => 0) _ from fun _ _ => rfl).step (hs1 (fun _ => False))⟩
  have hz1 := Keep.step (Keep.new (o := fun _ => 0) (w := w) (fun _ _ => rfl) 26 #[.int .i64 0, .int .i64 0, .int .i64 0, .int .i64 0, .int .i64 0, .int .u64 0, .int .i64 0, .slice none 0 0]) (hs1 (fun _ => False)) (by simp)
  have HG1 := Lib.hid hg1
  have HZ1 := Lib.hid hz1
  have HGR := Lib.hid (Nat.le_refl w.heap.size)
  clear hr1 hb1 hs1 hg1 hz1
  generalize hgr : w.heap.size = gR at HZ1 ⊢
  have HGQ := Lib.hid hgr
  clear hgr HGR
  go_wp2_with fail
  refine (rnum_g HG1.out 1).mono ?_
  rintro e w2 ⟨rfl, o2, hg2, hs2⟩
  have HG2 := Lib.hid hg2
  have HZ2 := Lib.hid (HZ1.out.step hs2 (by unfold only; omega))
  have hv0 := numV_lt (⟨b, 0⟩ : Rd) 1 (by omega)
  clear hg2 hs2 HG1 HZ1
  obtain ⟨kd, hkd⟩ : ∃ kd, kd = (⟨b, 0⟩ : Rd).numV 1 := ⟨_, rfl⟩
  rw [← hkd] at hv0 ⊢
  have HKD := Lib.hid hkd
  clear hkd
  have hkd256 : kd < 256 := by simpa using hv0
  clear hv0
  go_upto_region 3 with (fail)
  have hg3 := HG2.out.alloc (.cells #[.int .i64 (kd : Int), .int .i64 0, .int .i64 0, .int .i64 0, .int .i64 0, .int .u64 0, .int .i64 0, .slice none 0 0] 26)
  have hz3 := HZ2.out.alloc (.cells #[.int .i64 (kd : Int), .int .i64 0, .int .i64 0, .int .i64 0, .int .i64 0, .int .u64 0, .int .i64 0, .slice none 0 0] 26)
  have hm3 := Keep.new HG2.out.fut 26 #[.int .i64 (kd : Int), .int .i64 0, .int .i64 0, .int .i64 0, .int .i64 0, .int .u64 0, .int .i64 0, .slice none 0 0]
  have HLE := Lib.hid (HG2.out.env.low.size)
  have HRM := Lib.hid (HZ2.out.1.lt)
  generalize w2.alloc (.cells #[.int .i64 (kd : Int), .int .i64 0, .int .i64 0, .int .i64 0, .int .i64 0, .int .u64 0, .int .i64 0, .slice none 0 0] 26) = W3 at hg3 hz3 hm3 ⊢
  generalize w2.heap.size = gM at hm3 HLE HRM ⊢
  have HG3 := Lib.hid hg3
  have HZ3 := Lib.hid hz3
  have HM3 := Lib.hid hm3
  clear hg3 hz3 hm3 HG2 HZ2
  go_wp2_with fail
  have hg4 := HG3.out.alloc (.cells #[.pointer (some ⟨gM, 1, none⟩), .pointer (some ⟨gM, 2, none⟩), .pointer (some ⟨gM, 3, none⟩), .pointer (some ⟨gM, 4, none⟩)] 83)
  have hz4 := HZ3.out.alloc (.cells #[.pointer (some ⟨gM, 1, none⟩), .pointer (some ⟨gM, 2, none⟩), .pointer (some ⟨gM, 3, none⟩), .pointer (some ⟨gM, 4, none⟩)] 83)
  have hm4 := HM3.out.alloc (.cells #[.pointer (some ⟨gM, 1, none⟩), .pointer (some ⟨gM, 2, none⟩), .pointer (some ⟨gM, 3, none⟩), .pointer (some ⟨gM, 4, none⟩)] 83)
  have hp4 := Keep.new HG3.out.fut 83 #[.pointer (some ⟨gM, 1, none⟩), .pointer (some ⟨gM, 2, none⟩), .pointer (some ⟨gM, 3, none⟩), .pointer (some ⟨gM, 4, none⟩)]
  generalize W3.alloc (.cells #[.pointer (some ⟨gM, 1, none⟩), .pointer (some ⟨gM, 2, none⟩), .pointer (some ⟨gM, 3, none⟩), .pointer (some ⟨gM, 4, none⟩)] 83) = W4 at hg4 hz4 hm4 hp4 ⊢
  have HMP := Lib.hid (HM3.out.1.lt)
  generalize W3.heap.size = gP at hp4 HMP ⊢
  have HS4 := Lib.hid (show ∃ o, Gs 127 o w W4 p (rK b 0) ∧ Keep o W4 gR 26 #[.int .i64 0, .int .i64 0, .int .i64 0, .int .i64 0, .int .i64 0, .int .u64 0, .int .i64 0, .slice none 0 0] ∧ Keep o W4 gM 26 #[.int .i64 (kd : Int), .int .i64 0, .int .i64 0, .int .i64 0, .int .i64 0, .int .u64 0, .int .i64 0, .slice none 0 0] ∧ Keep o W4 gP 83 #[.pointer (some ⟨gM, 1, none⟩), .pointer (some ⟨gM, 2, none⟩), .pointer (some ⟨gM, 3, none⟩), .pointer (some ⟨gM, 4, none⟩)] from ⟨_, hg4, hz4, hm4, hp4⟩)
  clear hg4 hz4 hm4 hp4 HG3 HZ3 HM3
  go_loopw [24] (fun t24 wr => ∃ (k : Nat) (o : Nat → Nat), k ≤ 4 ∧ t24 = .int .i64 k ∧ Gs 127 o w wr p (rK b k) ∧ Keep o wr gR 26 #[.int .i64 0, .int .i64 0, .int .i64 0, .int .i64 0, .int .i64 0, .int .u64 0, .int .i64 0, .slice none 0 0] ∧ Keep o wr gM 26 #[.int .i64 (kd : Int), .int .i64 (fld b 0 k), .int .i64 (fld b 1 k), .int .i64 (fld b 2 k), .int .i64 (fld b 3 k), .int .u64 0, .int .i64 0, .slice none 0 0] ∧ Keep o wr gP 83 #[.pointer (some ⟨gM, 1, none⟩), .pointer (some ⟨gM, 2, none⟩), .pointer (some ⟨gM, 3, none⟩), .pointer (some ⟨gM, 4, none⟩)]) (fun t24 _ => 4 - (intOf t24).toNat)
  case atStart =>
    obtain ⟨o4, h1, h2, h3, h4⟩ := HS4.out
    exact ⟨0, o4, by omega, rfl, h1, h2, h3, h4⟩
  case round =>
    clear HS4
    obtain ⟨k, o5, hk, rfl, hg, hz, hm, hp⟩ := hrel
    have HG := Lib.hid hg
    have HZ := Lib.hid hz
    have HM := Lib.hid hm
    have HP := Lib.hid hp
    clear hg hz hm hp
    by_cases hlt : k < 4
    · have hltI : (k : Int) < 4 := by omega
      have hpc : wr.cell? ⟨gP, k, none⟩ = some (.pointer (some ⟨gM, k + 1, none⟩)) := (HP.out.1.cell k).trans (ptrs_get gM hlt)
      have hv4 := numV_lt (rK b k) 4 (by omega)
      obtain ⟨v, hv⟩ : ∃ v, v = (rK b k).numV 4 := ⟨_, rfl⟩
      rw [← hv] at hv4
      have hv32 : v < 4294967296 := by simpa using hv4
      have HV := Lib.hid hv
      clear hv hv4
      go_wp2_with fail
      refine (rnum_g HG.out 4).mono ?_
      rintro e w6 ⟨rfl, o6, hg6, hs6⟩
      rw [← HV.out]
      have HG6 := Lib.hid hg6
      have HZ6 := Lib.hid (HZ.out.step hs6 (by unfold only; omega))
      have HM6 := Lib.hid (HM.out.step hs6 (by unfold only; omega))
      have HP6 := Lib.hid (HP.out.step hs6 (by unfold only; omega))
      clear hg6 hs6 hpc
      obtain ⟨x, hx⟩ := row_get b hlt kd (.int .u64 0) (.int .i64 0) (.slice none 0 0)
      have hxc : w6.cell? ⟨gM, k + 1, none⟩ = some (.int .i64 x) := (HM6.out.1.cell (k + 1)).trans hx
      have hxf := HM6.out.1.frozen (k + 1)
      have HX := Lib.hid hx
      clear hx
      go_wp2_with fail
      have hset := row_set b hlt kd (.int .u64 0) (.int .i64 0) (.slice none 0 0)
      rw [← HV.out] at hset
      have hm7 := HM6.out.set_ (k + 1) (.int .i64 (v : Int))
      rw [hset] at hm7
      go_roundw
      case rel =>
        refine ⟨k + 1, o6, by omega, by go_num, HG6.out.setCell HM6.out.2 HLE.out (k + 1) _, HZ6.out.far ?_ _ _, hm7, HP6.out.far ?_ _ _⟩
        · exact Nat.ne_of_lt HRM.out
        · exact (Nat.ne_of_lt HMP.out).symm
      case measure => simp [intOf]; omega
    · have hltI : ¬ (k : Int) < 4 := by omega
      obtain rfl : k = 4 := by omega
      have hm4 := HM.out
      rw [show fld b 0 4 = ((rK b 0).numV 4 : Int) from rfl, show fld b 1 4 = ((rK b 1).numV 4 : Int) from rfl, show fld b 2 4 = ((rK b 2).numV 4 : Int) from rfl, show fld b 3 4 = ((rK b 3).numV 4 : Int) from rfl] at hm4
      obtain ⟨n1, h1⟩ : ∃ n : Int, n = (rK b 0).numV 4 := ⟨_, rfl⟩
      obtain ⟨n2, h2⟩ : ∃ n : Int, n = (rK b 1).numV 4 := ⟨_, rfl⟩
      obtain ⟨n3, h3⟩ : ∃ n : Int, n = (rK b 2).numV 4 := ⟨_, rfl⟩
      obtain ⟨n4, h4⟩ : ∃ n : Int, n = (rK b 3).numV 4 := ⟨_, rfl⟩
      rw [← h1, ← h2, ← h3, ← h4] at hm4
      have HN := Lib.hid (show n1 = (rK b 0).numV 4 ∧ n2 = (rK b 1).numV 4 ∧ n3 = (rK b 2).numV 4 ∧ n4 = (rK b 3).numV 4 from ⟨h1, h2, h3, h4⟩)
      clear HM HP HMP h1 h2 h3 h4
      have HM := Lib.hid hm4
      clear hm4
      have hv4 := numV_lt (rK b 4) 4 (by omega)
      obtain ⟨v6, hv⟩ : ∃ v, v = (rK b 4).numV 4 := ⟨_, rfl⟩
      rw [← hv] at hv4
      have hv32 : v6 < 4294967296 := by simpa using hv4
      have HV6 := Lib.hid hv
      clear hv hv4
      go_wp2_with fail
      refine (rnum_g HG.out 4).mono ?_
      rintro e w6 ⟨rfl, o6, hg6, hs6⟩
      rw [← HV6.out]
      have HG6 := Lib.hid (show Gs 127 o6 w w6 p (rK b 5) from hg6)
      have HZ6 := Lib.hid (HZ.out.step hs6 (by unfold only; omega))
      have HM6 := Lib.hid (HM.out.step hs6 (by unfold only; omega))
      clear hg6 hs6
      have hxc := HM6.out.1.cell 6
      have hxf := HM6.out.1.frozen 6
      simp at hxc
      go_upto_region 9 with (fail)
      have hg7 := HG6.out.setCell HM6.out.2 HLE.out 6 (.int .i64 (v6 : Int))
      have hz7 := HZ6.out.far (Nat.ne_of_lt HRM.out) 6 (.int .i64 (v6 : Int))
      have hm7 : Keep o6 (w6.setCell ⟨gM, 6, none⟩ (.int .i64 (v6 : Int))) gM 26 #[.int .i64 (kd : Int), .int .i64 n1, .int .i64 n2, .int .i64 n3, .int .i64 n4, .int .u64 0, .int .i64 (v6 : Int), .slice none 0 0] := HM6.out.set_ 6 (.int .i64 (v6 : Int))
      generalize w6.setCell ⟨gM, 6, none⟩ (.int .i64 (v6 : Int)) = W7 at hg7 hz7 hm7 ⊢
      have HG7 := Lib.hid hg7
      have HZ7 := Lib.hid hz7
      have HM7 := Lib.hid hm7
      clear hg7 hz7 hm7 HG6 HZ6 HM6 hxc hxf HG HZ HM
      obtain ⟨v8, hv⟩ : ∃ v, v = (rK b 5).numV 8 := ⟨_, rfl⟩
      have HV8 := Lib.hid hv
      clear hv
      go_wp2_with fail
      refine (rnum_g HG7.out 8).mono ?_
      rintro e w8 ⟨rfl, o8, hg8, hs8⟩
      rw [← HV8.out]
      have HG8 := Lib.hid (show Gs 127 o8 w w8 p (hdR b) from hg8)
      have HZ8 := Lib.hid (HZ7.out.step hs8 (by unfold only; omega))
      have HM8 := Lib.hid (HM7.out.step hs8 (by unfold only; omega))
      clear hg8 hs8
      have hxc := HM8.out.1.cell 5
      have hxf := HM8.out.1.frozen 5
      simp at hxc
      go_upto_region 10 with (fail)
      have hg9 := HG8.out.setCell HM8.out.2 HLE.out 5 (.int .u64 (v8 : Int))
      have hz9 := HZ8.out.far (Nat.ne_of_lt HRM.out) 5 (.int .u64 (v8 : Int))
      have hm9 : Keep o8 (w8.setCell ⟨gM, 5, none⟩ (.int .u64 (v8 : Int))) gM 26 #[.int .i64 (kd : Int), .int .i64 n1, .int .i64 n2, .int .i64 n3, .int .i64 n4, .int .u64 (v8 : Int), .int .i64 (v6 : Int), .slice none 0 0] := HM8.out.set_ 5 (.int .u64 (v8 : Int))
      generalize w8.setCell ⟨gM, 5, none⟩ (.int .u64 (v8 : Int)) = W9 at hg9 hz9 hm9 ⊢
      have HG9 := Lib.hid hg9
      have HZ9 := Lib.hid hz9
      have HM9 := Lib.hid hm9
      clear hg9 hz9 hm9 HG8 HZ8 HM8 hxc hxf HG7 HZ7 HM7
      obtain ⟨nn, hnn, hn6⟩ : ∃ nn : Nat, (hdR b).countV 200 = nn ∧ nn < 65536 := ⟨((hdR b).countV 200).toNat, by have := countV_bd (hdR b) 200; omega, by have := countV_bd (hdR b) 200; omega⟩
      have HNN := Lib.hid hnn
      clear hnn
      obtain ⟨Rc, hrc⟩ : ∃ Rc, Rc = (hdR b).countR 200 := ⟨_, rfl⟩
      have HRC := Lib.hid hrc
      clear hrc
      go_wp2_with fail
      refine (rcount_g HG9.out 200).mono ?_
      rintro e w10 ⟨rfl, o10, hg10, hs10⟩
      rw [HNN.out]
      rw [← HRC.out] at hg10
      have HS10 := Lib.hid (show ∃ o A cap, Gs 127 o w w10 p (lksR Rc 0) ∧ Keep o w10 gR 26 #[.int .i64 0, .int .i64 0, .int .i64 0, .int .i64 0, .int .i64 0, .int .u64 0, .int .i64 0, .slice none 0 0] ∧ Keep o w10 gM 26 #[.int .i64 (kd : Int), .int .i64 n1, .int .i64 n2, .int .i64 n3, .int .i64 n4, .int .u64 (v8 : Int), .int .i64 (v6 : Int), .slice A 0 cap] ∧ OwnS o 2 w10 68 3 (.slice A 0 cap) 0 (lkcells (lksV Rc 0)) from
        ⟨o10, none, 0, hg10, HZ9.out.step hs10 (by unfold only; omega), HM9.out.step hs10 (by unfold only; omega), OwnS.nil _ _ _ _ _⟩)
      clear hg10 hs10 HG9 HZ9 HM9
      obtain ⟨i0, hi, hz0, hz1, hz2⟩ := info_parts info_lock
      go_wp2_with fail
      go_loopw [43] (fun t43 wr => ∃ (k : Nat) (o : Nat → Nat) (A : Option Addr) (cap : Nat), k ≤ nn ∧ t43 = .int .i64 k ∧ Gs 127 o w wr p (lksR Rc k) ∧ Keep o wr gR 26 #[.int .i64 0, .int .i64 0, .int .i64 0, .int .i64 0, .int .i64 0, .int .u64 0, .int .i64 0, .slice none 0 0] ∧ Keep o wr gM 26 #[.int .i64 (kd : Int), .int .i64 n1, .int .i64 n2, .int .i64 n3, .int .i64 n4, .int .u64 (v8 : Int), .int .i64 (v6 : Int), .slice A k cap] ∧ OwnS o 2 wr 68 3 (.slice A k cap) k (lkcells (lksV Rc k))) (fun t43 _ => nn - (intOf t43).toNat)
      case atStart =>
        obtain ⟨o11, A, cap, h1, h2, h3, h4⟩ := HS10.out
        exact ⟨0, o11, A, cap, by omega, rfl, h1, h2, h3, h4⟩
      case round =>
        clear HS10
        obtain ⟨k, o11, A, cap, hk, rfl, hg, hz, hm, how⟩ := hrel
        have HG := Lib.hid hg
        have HZ := Lib.hid hz
        have HM := Lib.hid hm
        have HO := Lib.hid how
        clear hg hz hm how
        by_cases hlt2 : k < nn
        · have hltI2 : (k : Int) < (nn : Int) := by omega
          obtain ⟨R, hR⟩ : ∃ R, R = lksR Rc k := ⟨_, rfl⟩
          rw [← hR] at HG
          have HRR := Lib.hid hR
          clear hR
          obtain ⟨va, hva⟩ : ∃ v, v = R.numV 4 := ⟨_, rfl⟩
          obtain ⟨vb, hvb⟩ : ∃ v, v = (R.numR 4).numV 4 := ⟨_, rfl⟩
          obtain ⟨vm, hvm⟩ : ∃ v, v = ((R.numR 4).numR 4).numV 1 := ⟨_, rfl⟩
          have ba := numV_lt R 4 (by omega)
          have bb := numV_lt (R.numR 4) 4 (by omega)
          have bm := numV_lt ((R.numR 4).numR 4) 1 (by omega)
          rw [← hva] at ba
          rw [← hvb] at bb
          rw [← hvm] at bm
          have ba2 : va < 4294967296 := by simpa using ba
          have bb2 : vb < 4294967296 := by simpa using bb
          have bm2 : vm < 256 := by simpa using bm
          have HVA := Lib.hid hva
          have HVB := Lib.hid hvb
          have HVM := Lib.hid hvm
          clear hva hvb hvm ba bb bm
          go_wp2_with fail
          refine (rnum_g HG.out 4).mono ?_
          rintro e w11 ⟨rfl, o12, hg11, hs11⟩
          rw [← HVA.out]
          have HG11 := Lib.hid hg11
          have HZ11 := Lib.hid (HZ.out.step hs11 (by unfold only; omega))
          have HM11 := Lib.hid (HM.out.step hs11 (by unfold only; omega))
          have HO11 := Lib.hid (HO.out.step hs11 (by unfold only; omega))
          clear hg11 hs11
          go_wp2_with fail
          refine (rnum_g HG11.out 4).mono ?_
          rintro e w12 ⟨rfl, o13, hg12, hs12⟩
          rw [← HVB.out]
          have HG12 := Lib.hid hg12
          have HZ12 := Lib.hid (HZ11.out.step hs12 (by unfold only; omega))
          have HM12 := Lib.hid (HM11.out.step hs12 (by unfold only; omega))
          have HO12 := Lib.hid (HO11.out.step hs12 (by unfold only; omega))
          clear hg12 hs12
          go_wp2_with fail
          refine (rnum_g HG12.out 1).mono ?_
          rintro e w13 ⟨rfl, o14, hg13, hs13⟩
          rw [← HVM.out]
          have HG13 := Lib.hid hg13
          have HZ13 := Lib.hid (HZ12.out.step hs13 (by unfold only; omega))
          have HM13 := Lib.hid (HM12.out.step hs13 (by unfold only; omega))
          have HO13 := Lib.hid (HO12.out.step hs13 (by unfold only; omega))
          clear hg13 hs13 HG HZ HM HO HG11 HZ11 HM11 HO11 HG12 HZ12 HM12 HO12
          go_upto_region 13 with (fail)
          have hg14 := HG13.out.alloc (.cells #[.int .i64 (va : Int), .int .i64 (vb : Int), .int .i64 (vm : Int)] 68)
          have hz14 := HZ13.out.alloc (.cells #[.int .i64 (va : Int), .int .i64 (vb : Int), .int .i64 (vm : Int)] 68)
          have hm14 := HM13.out.alloc (.cells #[.int .i64 (va : Int), .int .i64 (vb : Int), .int .i64 (vm : Int)] 68)
          have ho14 := HO13.out.alloc (.cells #[.int .i64 (va : Int), .int .i64 (vb : Int), .int .i64 (vm : Int)] 68)
          have hl14 := Blk.new w13 68 #[.int .i64 (va : Int), .int .i64 (vb : Int), .int .i64 (vm : Int)]
          generalize w13.alloc (.cells #[.int .i64 (va : Int), .int .i64 (vb : Int), .int .i64 (vm : Int)] 68) = W14 at hg14 hz14 hm14 ho14 hl14 ⊢
          generalize w13.heap.size = gL at hl14 ⊢
          obtain ⟨x0, x1, x2⟩ := hl14.three
          have x7 := hm14.1.cell 7
          simp at x7
          have HG14 := Lib.hid hg14
          have HZ14 := Lib.hid hz14
          have HM14 := Lib.hid hm14
          have HO14 := Lib.hid ho14
          clear hg14 hz14 hm14 ho14 hl14 HG13 HZ13 HM13 HO13
          go_wp2_with (at_builtin; refine wpList_append_S _ rfl (.tmp 57) (.tmp 59) 24 rfl 68 i0 _ 3 24 Tryz.underlying24 hi hz0 hz1 hz2 rfl (by omega) (.slice A k cap) k (lkcells (lksV Rc k)) rfl (HO14.out.alloc (.cells #[.int .i64 (va : Int), .int .i64 (vb : Int), .int .i64 (vm : Int)] 68)) _ 1 1 [.int .i64 (va : Int), .int .i64 (vb : Int), .int .i64 (vm : Int)] rfl (Reads.newAt _ 68 3 1 _ _ _ rfl rfl rfl) (by simp [Value.oneCell']) (by unfold maxLen; omega) (by omega) ?_; intro v' w15 hown hst hg hat; obtain ⟨A2, cap2, rfl, _, _⟩ := own_form' hown; have hm15 := (HM14.out.alloc (.cells #[.int .i64 (va : Int), .int .i64 (vb : Int), .int .i64 (vm : Int)] 68)).step hst (by unfold only; omega); have y7 := hm15.1.cell 7; have f7 := hm15.1.frozen 7; simp at y7; have HM15 := Lib.hid hm15; have HG15 := Lib.hid ((HG14.out.alloc (.cells #[.int .i64 (va : Int), .int .i64 (vb : Int), .int .i64 (vm : Int)] 68)).own hst); have HZ15 := Lib.hid ((HZ14.out.alloc (.cells #[.int .i64 (va : Int), .int .i64 (vb : Int), .int .i64 (vm : Int)] 68)).step hst (by unfold only; omega)); have HO15 := Lib.hid hown; clear hown hst hg hat hm15)
          go_roundw
          case rel =>
            have hls : lksV Rc (k + 1) = lksV Rc k ++ [⟨va, vb, vm⟩] := by
              rw [lksV, ← HRR.out, lkV, ← HVA.out, ← HVB.out, ← HVM.out]
            refine ⟨k + 1, _, A2, cap2, by omega, by go_num, ?_, HZ15.out.far (Nat.ne_of_lt HRM.out) _ _, HM15.out.set_ 7 _, ?_⟩
            · have h9 := HG15.out.setCell HM15.out.2 HLE.out 7 (.slice A2 (k + 1) cap2)
              rw [lksR, ← HRR.out]
              exact h9
            · have h9 := HO15.out.setCell (p := ⟨gM, 7, none⟩) (own_blk_ne HO15.out HM15.out.1 (by decide)) (.slice A2 (k + 1) cap2)
              rw [hls]
              simpa [lkcells, Lk.cells] using h9
          case measure => simp [intOf]; omega
        · have hltI2 : ¬ (k : Int) < (nn : Int) := by omega
          obtain rfl : k = nn := by omega
          have hgm : getM b = ⟨kd, n1, n2, n3, n4, v8, v6, lksV Rc k⟩ := by
            obtain ⟨q1, q2, q3, q4⟩ := HN.out
            rw [getM_rK, ← q1, ← q2, ← q3, ← q4, ← HV6.out, ← HV8.out, ← HKD.out, HRC.out, HNN.out]
            rfl
          have hge : endE b = (lksR Rc k).endV := by
            unfold endE
            rw [HRC.out, HNN.out]
            rfl
          have HGM := Lib.hid hgm
          have HGE := Lib.hid hge
          have hll := lksV_len Rc k
          have HLL := Lib.hid hll
          clear hgm hge hll
          go_wp2_with fail
          refine (rend_any HG.out.rd).mono ?_
          rintro e w11 ⟨rfl, hb11⟩
          have HG11 := Lib.hid (HG.out.below_ hb11)
          have HZ11 := Lib.hid (HZ.out.below_ hb11)
          have HM11 := Lib.hid (HM.out.below_ hb11)
          have HO11 := Lib.hid (HO.out.below_ hb11)
          rw [← HGE.out]
          clear hb11 HG HZ HM HO
          have zb := HZ11.out.1
          obtain ⟨z0, z1, z2, z3, z4, z5, z6, z7⟩ := zb.eight
          have y0 := zb.frozen 0
          have y1 := zb.frozen 1
          have y2 := zb.frozen 2
          have y3 := zb.frozen 3
          have y4 := zb.frozen 4
          have y5 := zb.frozen 5
          have y6 := zb.frozen 6
          have y7 := zb.frozen 7
          clear zb
          by_cases he : endE b = 0
          · have t1 : (endE b != 0) = false := by rw [he]; rfl
            have HE := Lib.hid he
            have hrd : Reads w11 3 A (lksV Rc k).length (lkcells (lksV Rc k)) := by
              rw [HLL.out]
              exact Reads.of_own HO11.out.1
            have HRD := Lib.hid hrd
            have hag : Mg.agg ⟨kd, n1, n2, n3, n4, v8, v6, lksV Rc k⟩ A cap = .agg #[.int .i64 (kd : Int), .int .i64 n1, .int .i64 n2, .int .i64 n3, .int .i64 n4, .int .u64 (v8 : Int), .int .i64 (v6 : Int), .slice A k cap] := by
              unfold Mg.agg
              simp only [HLL.out]
            have HAG := Lib.hid hag
            obtain ⟨x0, x1, x2, x3, x4, x5, x6, x7⟩ := HM11.out.1.eight
            have hv8 : v8 < 18446744073709551616 := by rw [HV8.out]; exact numV_lt (rK b 5) 8 (by omega)
            have HV8L := Lib.hid hv8
            have H64 := Lib.hid (show (lksV Rc k).length ≤ maxLen by rw [HLL.out]; unfold maxLen; omega)
            clear he hrd hag hv8
            go_wp2_with fail
            rw [← HAG.out]
            refine (put_any ⟨kd, n1, n2, n3, n4, v8, v6, lksV Rc k⟩ w11 A cap HRD.out H64.out HV8L.out).mono ?_
            rintro e w12 ⟨rfl, hb12⟩
            try rw [HAG.out]
            rw [← HGM.out]
            have HG12 := Lib.hid (HG11.out.below_ hb12)
            have HZ12 := Lib.hid (HZ11.out.below_ hb12)
            have HM12 := Lib.hid (HM11.out.below_ hb12)
            have HO12 := Lib.hid (HO11.out.below_ hb12)
            clear hb12 x0 x1 x2 x3 x4 x5 x6 x7 z0 z1 z2 z3 z4 z5 z6 z7 y0 y1 y2 y3 y4 y5 y6 y7
            have zb := HZ12.out.1
            obtain ⟨z0, z1, z2, z3, z4, z5, z6, z7⟩ := zb.eight
            have y0 := zb.frozen 0
            have y1 := zb.frozen 1
            have y2 := zb.frozen 2
            have y3 := zb.frozen 3
            have y4 := zb.frozen 4
            have y5 := zb.frozen 5
            have y6 := zb.frozen 6
            have y7 := zb.frozen 7
            obtain ⟨x0, x1, x2, x3, x4, x5, x6, x7⟩ := HM12.out.1.eight
            have hne : gM ≠ gR := (Nat.ne_of_lt HRM.out).symm
            clear zb
            by_cases hok : (getM b).ok
            · have p1 : (getM b).putS = str (getM b).enc := if_pos hok
              have p2 : (getM b).putE = 0 := if_pos hok
              rw [p1, p2]
              clear p1 p2
              by_cases hbe : str (getM b).enc = b
              · rw [hbe]
                have e1 : gotM b = getM b := if_pos ⟨HE.out, hok, hbe⟩
                have e2 : gotE b = 0 := by unfold gotE; rw [if_neg (by rw [HE.out]; simp), if_pos (show goodM b from ⟨hok, hbe⟩)]
                have E1 := Lib.hid e1
                have E2 := Lib.hid e2
                have t2 : (b.toList == b.toList) = true := beq_self_eq_true _
                clear hbe e1 e2 hok
                go_wp2_with fail
                have hg13 := HG12.out.set8 HZ12.out.2 (by have := HGQ.out; omega) (.int .i64 (kd : Int)) (.int .i64 n1) (.int .i64 n2) (.int .i64 n3) (.int .i64 n4) (.int .u64 (v8 : Int)) (.int .i64 (v6 : Int)) (.slice A k cap)
                have hz13 := HZ12.out.set8 (.int .i64 (kd : Int)) (.int .i64 n1) (.int .i64 n2) (.int .i64 n3) (.int .i64 n4) (.int .u64 (v8 : Int)) (.int .i64 (v6 : Int)) (.slice A k cap)
                have ho13 := HO12.out.set8 (own_blk_ne HO12.out HZ12.out.1 (by decide)) (.int .i64 (kd : Int)) (.int .i64 n1) (.int .i64 n2) (.int .i64 n3) (.int .i64 n4) (.int .u64 (v8 : Int)) (.int .i64 (v6 : Int)) (.slice A k cap)
                generalize ((((((((w12.setCell ⟨gR, 0, none⟩ (.int .i64 (kd : Int))).setCell ⟨gR, 1, none⟩ (.int .i64 n1)).setCell ⟨gR, 2, none⟩ (.int .i64 n2)).setCell ⟨gR, 3, none⟩ (.int .i64 n3)).setCell ⟨gR, 4, none⟩ (.int .i64 n4)).setCell ⟨gR, 5, none⟩ (.int .u64 (v8 : Int))).setCell ⟨gR, 6, none⟩ (.int .i64 (v6 : Int))).setCell ⟨gR, 7, none⟩ (.slice A k cap)) = W13 at hg13 hz13 ho13 ⊢
                obtain ⟨q0, q1, q2, q3, q4, q5, q6, q7⟩ := hz13.1.eight
                refine bodyPost_ret (v := .tuple #[.agg #[.int .i64 (kd : Int), .int .i64 n1, .int .i64 n2, .int .i64 n3, .int .i64 n4, .int .u64 (v8 : Int), .int .i64 (v6 : Int), .slice A k cap], .int .i64 0]) (by simp [results, Tryz.results9, go_sem, q0, q1, q2, q3, q4, q5, q6, q7]) rfl ⟨A, cap, _, ?_, ?_, hg13.env, hg13.fut⟩
                · rw [E1.out, E2.out, HGM.out, HAG.out]
                · rw [E1.out, HGM.out]
                  simp only [HLL.out]
                  exact ho13
              · have e1 : gotM b = Mg.zero := if_neg (fun h => hbe h.2.2)
                have e2 : gotE b = 4 := by unfold gotE; rw [if_neg (by rw [HE.out]; simp), if_neg (show ¬ goodM b from fun h => hbe h.2)]
                have E1 := Lib.hid e1
                have E2 := Lib.hid e2
                obtain ⟨S, hS⟩ : ∃ S, S = str (getM b).enc := ⟨_, rfl⟩
                rw [← hS] at hbe ⊢
                have t2 := str_neq hbe
                clear hbe e1 e2 hok hS
                go_wp2_with fail
                have hg13 := HG12.out.set8 HZ12.out.2 (by have := HGQ.out; omega) (.int .i64 0) (.int .i64 0) (.int .i64 0) (.int .i64 0) (.int .i64 0) (.int .u64 0) (.int .i64 0) (.slice none 0 0)
                have hz13 := HZ12.out.set8 (.int .i64 0) (.int .i64 0) (.int .i64 0) (.int .i64 0) (.int .i64 0) (.int .u64 0) (.int .i64 0) (.slice none 0 0)
                generalize ((((((((w12.setCell ⟨gR, 0, none⟩ (.int .i64 0)).setCell ⟨gR, 1, none⟩ (.int .i64 0)).setCell ⟨gR, 2, none⟩ (.int .i64 0)).setCell ⟨gR, 3, none⟩ (.int .i64 0)).setCell ⟨gR, 4, none⟩ (.int .i64 0)).setCell ⟨gR, 5, none⟩ (.int .u64 0)).setCell ⟨gR, 6, none⟩ (.int .i64 0)).setCell ⟨gR, 7, none⟩ (.slice none 0 0)) = W13 at hg13 hz13 ⊢
                obtain ⟨q0, q1, q2, q3, q4, q5, q6, q7⟩ := hz13.1.eight
                refine bodyPost_ret (v := .tuple #[.agg #[.int .i64 0, .int .i64 0, .int .i64 0, .int .i64 0, .int .i64 0, .int .u64 0, .int .i64 0, .slice none 0 0], .int .i64 4]) (by simp [results, Tryz.results9, go_sem, q0, q1, q2, q3, q4, q5, q6, q7]) rfl ⟨none, 0, _, by rw [E1.out, E2.out]; rfl, by rw [E1.out]; exact OwnS.nil _ _ _ _ _, hg13.env, hg13.fut⟩
            · have p1 : (getM b).putS = ⟨#[]⟩ := if_neg hok
              have p2 : (getM b).putE = 1 := if_neg hok
              rw [p1, p2]
              have e1 : gotM b = Mg.zero := if_neg (fun h => hok h.2.1)
              have e2 : gotE b = 4 := by unfold gotE; rw [if_neg (by rw [HE.out]; simp), if_neg (show ¬ goodM b from fun h => hok h.1)]
              have E1 := Lib.hid e1
              have E2 := Lib.hid e2
              clear p1 p2 e1 e2 hok
              go_wp2_with fail
              have hg13 := HG12.out.set8 HZ12.out.2 (by have := HGQ.out; omega) (.int .i64 0) (.int .i64 0) (.int .i64 0) (.int .i64 0) (.int .i64 0) (.int .u64 0) (.int .i64 0) (.slice none 0 0)
              have hz13 := HZ12.out.set8 (.int .i64 0) (.int .i64 0) (.int .i64 0) (.int .i64 0) (.int .i64 0) (.int .u64 0) (.int .i64 0) (.slice none 0 0)
              generalize ((((((((w12.setCell ⟨gR, 0, none⟩ (.int .i64 0)).setCell ⟨gR, 1, none⟩ (.int .i64 0)).setCell ⟨gR, 2, none⟩ (.int .i64 0)).setCell ⟨gR, 3, none⟩ (.int .i64 0)).setCell ⟨gR, 4, none⟩ (.int .i64 0)).setCell ⟨gR, 5, none⟩ (.int .u64 0)).setCell ⟨gR, 6, none⟩ (.int .i64 0)).setCell ⟨gR, 7, none⟩ (.slice none 0 0)) = W13 at hg13 hz13 ⊢
              obtain ⟨q0, q1, q2, q3, q4, q5, q6, q7⟩ := hz13.1.eight
              refine bodyPost_ret (v := .tuple #[.agg #[.int .i64 0, .int .i64 0, .int .i64 0, .int .i64 0, .int .i64 0, .int .u64 0, .int .i64 0, .slice none 0 0], .int .i64 4]) (by simp [results, Tryz.results9, go_sem, q0, q1, q2, q3, q4, q5, q6, q7]) rfl ⟨none, 0, _, by rw [E1.out, E2.out]; rfl, by rw [E1.out]; exact OwnS.nil _ _ _ _ _, hg13.env, hg13.fut⟩
          · have t1 : (endE b != 0) = true := bne_iff_ne.2 he
            have e1 : gotM b = Mg.zero := if_neg (fun h => he h.1)
            have e2 : gotE b = endE b := if_pos he
            have E1 := Lib.hid e1
            have E2 := Lib.hid e2
            clear he e1 e2
            go_wp2_with fail
            have hg12 := HG11.out.set8 HZ11.out.2 (by have := HGQ.out; omega) (.int .i64 0) (.int .i64 0) (.int .i64 0) (.int .i64 0) (.int .i64 0) (.int .u64 0) (.int .i64 0) (.slice none 0 0)
            have hz12 := HZ11.out.set8 (.int .i64 0) (.int .i64 0) (.int .i64 0) (.int .i64 0) (.int .i64 0) (.int .u64 0) (.int .i64 0) (.slice none 0 0)
            generalize ((((((((w11.setCell ⟨gR, 0, none⟩ (.int .i64 0)).setCell ⟨gR, 1, none⟩ (.int .i64 0)).setCell ⟨gR, 2, none⟩ (.int .i64 0)).setCell ⟨gR, 3, none⟩ (.int .i64 0)).setCell ⟨gR, 4, none⟩ (.int .i64 0)).setCell ⟨gR, 5, none⟩ (.int .u64 0)).setCell ⟨gR, 6, none⟩ (.int .i64 0)).setCell ⟨gR, 7, none⟩ (.slice none 0 0)) = W12 at hg12 hz12 ⊢
            obtain ⟨q0, q1, q2, q3, q4, q5, q6, q7⟩ := hz12.1.eight
            refine bodyPost_ret (v := .tuple #[.agg #[.int .i64 0, .int .i64 0, .int .i64 0, .int .i64 0, .int .i64 0, .int .u64 0, .int .i64 0, .slice none 0 0], .int .i64 (endE b)]) (by simp [results, Tryz.results9, go_sem, q0, q1, q2, q3, q4, q5, q6, q7]) rfl ⟨none, 0, _, by rw [E1.out, E2.out]; rfl, by rw [E1.out]; exact OwnS.nil _ _ _ _ _, hg12.env, hg12.fut⟩
end Go.Proofs.YtjmgefpdfhfhmaaGreatDoor
