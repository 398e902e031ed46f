/- Messages: two that are alike; the document's view of one; the kinds that go up; the law's first call. -/
import Derived.Test.YtjmgefpdfhfhmaaGreatDoorEqLock
namespace Go.Proofs.YtjmgefpdfhfhmaaGreatDoor
open Go.RowKit

theorem below_drewN {B : Nat} {w w1 : World} (h : Below B w w1) (n : Nat) : Below B w (w1.drewN n) := ⟨h.os, h.tape, h.output, h.size, h.block⟩
theorem below_drew {B : Nat} {w w1 : World} (h : Below B w w1) : Below B w w1.drew := ⟨h.os, h.tape, h.output, h.size, h.block⟩
set_option maxRecDepth 100000 in
set_option maxHeartbeats 1000000 in
theorem samelocks_yes (w : World) (A B : Option Addr) (ca cb : Nat) (l : List Lk) (ha : Reads w 3 A l.length (lkcells l)) (hb : Reads w 3 B l.length (lkcells l)) (hl : l.length ≤ 1000000000) :
    Calls Tryz.prog 32 #[.slice A l.length ca, .slice B l.length cb] w fun e w' => e = .returned (.bool true) ∧ ∃ n, w' = w.drewN n := by
  have HA := Lib.hid ha
  have HB := Lib.hid hb
  clear ha hb
  go_enter Tryz.func32, Tryz.ntmps32
  go_wp2_with fail
  go_loopw [5] (fun t5 wr => ∃ k n : Nat, k ≤ l.length ∧ t5 = .int .i64 k ∧ wr = w.drewN n) (fun t5 _ => l.length - (intOf t5).toNat)
  case atStart => exact ⟨0, 0, by omega, rfl, rfl⟩
  case round =>
    obtain ⟨k, n, hk, rfl, rfl⟩ := hrel
    by_cases hlt : k < l.length
    · have hltI : (k : Int) < (l.length : Int) := by omega
      obtain ⟨y, hy⟩ : ∃ y, l[k]? = some y := ⟨_, List.getElem?_eq_getElem hlt⟩
      obtain ⟨ad, rfl, c0, c1, c2⟩ := HA.out.lock hy
      obtain ⟨bd, rfl, d0, d1, d2⟩ := HB.out.lock hy
      have he := eql_lock y.a y.b y.m
      clear hy
      go_upto_region 6 with (fail)
      go_quiet (fail)
      go_wp2_with fail
      exact ⟨⟨k + 1, n + nq, by omega, by go_num, rfl⟩, by simp [intOf]; omega⟩
    · have hltI : ¬ (k : Int) < (l.length : Int) := by omega
      go_wp2_with fail
      go_ret
      exact ⟨rfl, n, rfl⟩
set_option maxRecDepth 100000 in
set_option maxHeartbeats 1000000 in
theorem same_yes (m : Mg) (w : World) (A B : Option Addr) (ca cb : Nat) (ha : Reads w 3 A m.locks.length (lkcells m.locks)) (hb : Reads w 3 B m.locks.length (lkcells m.locks)) (hl : m.locks.length ≤ 1000000000) :
    Calls Tryz.prog 13 #[m.agg A ca, m.agg B cb] w fun e w' => e = .returned (.bool true) ∧ Below w.heap.size w w' := by
  have HA := Lib.hid ha
  have HB := Lib.hid hb
  clear ha hb
  unfold Mg.agg
  have hbl := ((Below.refl w.heap.size w).alloc (Nat.le_refl _) (.cells #[.int .i64 m.kind, .int .i64 m.id, .int .i64 m.node, .int .i64 m.gen, .int .i64 m.stamp, .int .u64 m.epoch, .int .i64 m.err, .slice A m.locks.length ca] 26)).alloc (by simp) (.cells #[.int .i64 m.kind, .int .i64 m.id, .int .i64 m.node, .int .i64 m.gen, .int .i64 m.stamp, .int .u64 m.epoch, .int .i64 m.err, .slice B m.locks.length cb] 50)
  have HBL := Lib.hid hbl
  clear hbl
  go_enter Tryz.func13, Tryz.ntmps13
  go_wp2_with fail
  refine (samelocks_yes _ A B ca cb m.locks (HA.out.below (by decide) HBL.out) (HB.out.below (by decide) HBL.out) hl).mono ?_
  rintro e w1 ⟨rfl, n, rfl⟩
  go_wp2_with fail
  go_ret
  exact ⟨rfl, below_drewN HBL.out n⟩
set_option maxRecDepth 100000 in
theorem plain_any (m : Mg) (w : World) (A : Option Addr) (ca : Nat) :
    Calls Tryz.prog 8 #[m.agg A ca] w fun e w' => e = .returned (m.agg A ca) ∧ Below w.heap.size w w' := by
  unfold Mg.agg
  go_enter Tryz.func8, Tryz.ntmps8
  go_wp2_with fail
  exact bodyPost_ret (v := .agg #[.int .i64 m.kind, .int .i64 m.id, .int .i64 m.node, .int .i64 m.gen, .int .i64 m.stamp, .int .u64 m.epoch, .int .i64 m.err, .slice A m.locks.length ca]) (by simp [results, Tryz.results8, go_sem]) rfl ⟨rfl, ((Below.refl w.heap.size w).alloc (Nat.le_refl _) _).alloc (by simp) _⟩
def upB (k : Int) : Bool := decide (k = 1 ∨ k = 3 ∨ k = 5 ∨ k = 9 ∨ k = 11 ∨ k = 13 ∨ k = 14 ∨ k = 15)
theorem up_any (k : Int) (w : World) : Calls Tryz.prog 17 #[.int .i64 k] w fun e w' => e = .returned (.bool (upB k)) ∧ w = w' := by
  by_cases h : k = 1 ∨ k = 3 ∨ k = 5 ∨ k = 9 ∨ k = 11 ∨ k = 13 ∨ k = 14 ∨ k = 15
  · rcases h with rfl | rfl | rfl | rfl | rfl | rfl | rfl | rfl
    all_goals
      go_enter Tryz.func17, Tryz.ntmps17
      go_wp2
      go_ret
      exact ⟨rfl, rfl⟩
  · have e : upB k = false := decide_eq_false h
    rw [e]
    have h1 : (k == 1) = false := beq_eq_false_iff_ne.2 (by omega)
    have h2 : (k == 3) = false := beq_eq_false_iff_ne.2 (by omega)
    have h3 : (k == 5) = false := beq_eq_false_iff_ne.2 (by omega)
    have h4 : (k == 9) = false := beq_eq_false_iff_ne.2 (by omega)
    have h5 : (k == 11) = false := beq_eq_false_iff_ne.2 (by omega)
    have h6 : (k == 13) = false := beq_eq_false_iff_ne.2 (by omega)
    have h7 : (k == 14) = false := beq_eq_false_iff_ne.2 (by omega)
    have h8 : (k == 15) = false := beq_eq_false_iff_ne.2 (by omega)
    clear h e
    go_enter Tryz.func17, Tryz.ntmps17
    go_wp2
    go_ret
    exact ⟨rfl, rfl⟩
namespace Al20
def m0 : Mg := ⟨6, 3, 0, 0, 0, 0, 0, []⟩
theorem ok : m0.ok := by unfold Mg.ok sm m0; simp
theorem enc : m0.enc.length ≤ 1000000000 := by rw [enc_len]; simp [m0]
end Al20
set_option maxRecDepth 100000 in
set_option maxHeartbeats 1000000 in
theorem alive20_any (w : World) : Calls Tryz.prog 4 #[] w fun e w' => e = .returned (.bool true) ∧ Below w.heap.size w w' := by
  have p1 : Al20.m0.putS = str Al20.m0.enc := if_pos Al20.ok
  have p2 : Al20.m0.putE = 0 := if_pos Al20.ok
  obtain ⟨g1, g2⟩ := got_put Al20.ok (show Al20.m0.epoch < 18446744073709551616 by decide)
  have P1 := Lib.hid p1
  have P2 := Lib.hid p2
  have G1 := Lib.hid g1
  have G2 := Lib.hid g2
  have hsz : (str Al20.m0.enc).size ≤ 1000000000 := by rw [str_size]; exact Al20.enc
  have HSZ := Lib.hid hsz
  clear p1 p2 g1 g2 hsz
  go_enter Tryz.func4, Tryz.ntmps4
  go_wp2_with fail
  refine (put_any Al20.m0 w none 0 (Reads.none_ _ _ _) (by decide) (by decide)).mono ?_
  rintro e w1 ⟨rfl, hb1⟩
  rw [P1.out, P2.out]
  generalize hS : str Al20.m0.enc = S at G1 G2 HSZ
  have HS := Lib.hid hS
  have HB1 := Lib.hid hb1
  clear hS hb1
  go_wp2_with fail
  refine (get_any S w1 HSZ.out).mono ?_
  rintro e w2 ⟨A, cap, oi, rfl, ho2, he2, hf2⟩
  rw [G1.out] at ho2 ⊢
  rw [G2.out]
  have hag : Al20.m0.agg A cap = .agg #[.int .i64 6, .int .i64 3, .int .i64 0, .int .i64 0, .int .i64 0, .int .u64 0, .int .i64 0, .slice A 0 cap] := rfl
  rw [hag]
  have HO2 := Lib.hid ho2
  have HB2 := Lib.hid (HB1.out.trans (he2.low.mono HB1.out.size))
  clear ho2 he2 hf2 hag
  go_wp2_with fail
  refine (up_any 1 _).mono ?_
  rintro e w3 ⟨rfl, rfl⟩
  rw [show upB 1 = true from rfl]
  go_wp2_with fail
  refine (up_any 6 _).mono ?_
  rintro e w3 ⟨rfl, rfl⟩
  rw [show upB 6 = false from rfl]
  go_wp2_with fail
  refine (valid_any Al20.m0 _ A cap (Reads.none_ _ _ _) (by decide)).mono ?_
  rintro e w4 ⟨rfl, hb4⟩
  rw [decide_eq_true Al20.ok]
  have HB4 := Lib.hid ((HB2.out.alloc HB2.out.size _).trans (hb4.mono (HB2.out.alloc HB2.out.size _).size))
  clear hb4
  go_wp2_with fail
  go_ret
  exact ⟨rfl, HB4.out⟩
end Go.Proofs.YtjmgefpdfhfhmaaGreatDoor
