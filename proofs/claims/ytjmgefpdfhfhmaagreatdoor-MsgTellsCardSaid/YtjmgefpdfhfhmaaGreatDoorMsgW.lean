/- MsgTells' book: markedMsgs; markedLocks over rows. -/
import Derived.Test.YtjmgefpdfhfhmaaGreatDoorMsgV
namespace Go.Proofs.YtjmgefpdfhfhmaaGreatDoor
open Go.RowKit

def markK (i n : Nat) : List MK := (List.range n).map (fun (k : Nat) => ⟨⟨0, -1 - (i : Int), (k : Int), 0, 0, 0, 0, []⟩, none, 0, none, 0⟩)
theorem markK_len (i n : Nat) : (markK i n).length = n := by simp [markK]
theorem markK_ra (i n : Nat) : (markK i n).flatMap MK.ra = rowsF (mgM i) 0 n := by
  simp only [markK, rowsF, List.flatMap_map, Nat.zero_add]
  rfl
theorem markK_rb (i n : Nat) : (markK i n).flatMap MK.rb = rowsF (mgM i) 0 n := by
  simp only [markK, rowsF, List.flatMap_map, Nat.zero_add]
  rfl
theorem samemsgs_marks (w : World) (A B : Option Addr) (ca cb i n : Nat) (ha : Reads w 8 A n (rowsF (mgM i) 0 n)) (hb : Reads w 8 B n (rowsF (mgM i) 0 n)) (hn : n ≤ 2000) :
    Calls Tryz.prog 120 #[.slice A n ca, .slice B n cb] w fun e w' => e = .returned (.bool true) ∧ Below w.heap.size w w' := by
  have h := samemsgs_yes w A B ca cb (markK i n) (by rw [markK_len, markK_ra]; exact ha) (by rw [markK_len, markK_rb]; exact hb) (by
    intro y hy
    simp only [markK, List.mem_map] at hy
    obtain ⟨k, _, rfl⟩ := hy
    exact ⟨Reads.none_ _ _ _, Reads.none_ _ _ _, by simp⟩) (by rw [markK_len]; omega)
  rw [markK_len] at h
  exact h
theorem cell_row {tO tE : TypeId} {sz cO cI i n0 cap : Nat} {o : Nat → Nat} {w : World} {ad : Addr} {S : List (Nat × List Value)} {vs : List Value} {x : Value} (h : Kept tO tE sz cO cI o w (.slice (some ad) n0 cap) S vs) (hx : vs[i]? = some x) : w.cell? (ad.add i) = some x := by
  obtain ⟨A0, cap0, e, _, _⟩ := h.outer.form
  injection e with e1 e2 e3
  have ho := h.outer
  rw [e2] at ho
  have hi := (List.getElem?_eq_some_iff.1 hx).1
  obtain ⟨ad', e4, hcell⟩ := (OwnW.reads ho).2 (by have := h.len; omega)
  injection e4 with e4
  subst e4
  exact hcell i _ hx
theorem marked_after_m {cO cI i n0 cap n c c2 : Nat} {o o' : Nat → Nat} {w w' : World} {ad : Addr} {S : List (Nat × List Value)} {vs : List Value} {A A2 : Option Addr} (hk : Kept 58 26 8 cO cI o w (.slice (some ad) n0 cap) S vs) (hx : vs[i]? = some (.slice A n c))
    (how : OwnW o (cI + i) w 26 8 (.slice A n c) n (rowsF (mgM i) 0 n)) (ha : ¬ only 40 cO) (hb : ∀ i, ¬ only 40 (cI + i)) (how2 : OwnS o' 40 w' 26 8 (.slice A2 n c2) n (rowsF (mgM i) 0 n)) (hs : Step o (only 40) w o' w') :
    w'.cell? (ad.add i) = some (.slice A n c) ∧ Reads w' 8 A n (rowsF (mgM i) 0 n) ∧ Reads w' 8 A2 n (rowsF (mgM i) 0 n) :=
  ⟨cell_row (hk.step hs ha (fun j _ => hb j)) hx, OwnW.reads (how.step hs (hb i)), Reads.of_own how2.1⟩
theorem markmsgs0_any (o : Nat → Nat) (c0 : Nat) (w : World) (i n : Nat) (hi1 : i ≤ 1000) (hf : n ≤ 100000) :
    Calls Tryz.prog 123 #[.int .i64 i, .int .i64 0, .int .i64 n] w fun e w' => ∃ A cap o', e = .returned (.slice A n cap) ∧ OwnS o' c0 w' 26 8 (.slice A n cap) n (rowsF (mgM i) 0 n) ∧ Step o (only c0) w o' w' :=
  markmsgs_rows o c0 w i 0 n hi1 (by omega)
theorem cell_below {w w1 : World} {a : Addr} {v : Value} (h : w.cell? a = some v) (hb : Below w.heap.size w w1) : w1.cell? a = some v := (hb.cell (World.block_lt_of_cell? w _ h)).trans h
theorem step_below_ {o o' : Nat → Nat} {C : Nat → Prop} {w w1 w2 : World} (h : Step o C w o' w1) (hb : Below w1.heap.size w1 w2) : Step o C w o' w2 := h.trans (Step.of_below o' C hb)
set_option maxRecDepth 100000 in
set_option maxHeartbeats 2000000 in
theorem markedmsgs_any (o : Nat → Nat) (w : World) (v : Value) (S : List (Nat × List Value)) (vs : List Value) (a1 b1 : Nat) (k8 : Kept 58 26 8 a1 b1 o w v S vs) (hl : ∀ (i n : Nat) xs, S[i]? = some (n, xs) → n ≤ 2000 ∧ xs = rowsF (mgM i) 0 n) (hL : S.length ≤ 250) (ha : a1 ≠ 40) (hb : 40 < b1) :
    Calls Tryz.prog 96 #[v] w fun e w' => e = .returned (.bool true) ∧ ∃ o', Step o (only 40) w o' w' := by
  have H8 := Lib.hid k8
  have HL := Lib.hid hl
  obtain ⟨A8, cap8, e8, _, _⟩ := k8.outer.form
  subst e8
  have HA := Lib.hid (show ¬ only 40 a1 by unfold only; exact ha)
  have HB := Lib.hid (show ∀ i, ¬ only 40 (b1 + i) from fun i => by unfold only; omega)
  clear k8 hl ha hb
  go_enter Tryz.func96, Tryz.ntmps96
  go_wp2_with fail
  go_loopw [3] (fun t3 wr => ∃ (i : Nat) (o' : Nat → Nat), i ≤ S.length ∧ t3 = .int .i64 i ∧ Step o (only 40) w o' wr) (fun t3 _ => S.length - (intOf t3).toNat)
  case atStart => exact ⟨0, o, by omega, rfl, Step.refl _ _ _⟩
  case round =>
    obtain ⟨i, o1, hi, rfl, hs⟩ := hrel
    have HS := Lib.hid hs
    clear hs
    by_cases hlt : i < S.length
    · have hltI : (i : Int) < (S.length : Int) := by omega
      have hk := H8.out.step HS.out HA.out (fun j _ => HB.out j)
      obtain ⟨ad, cap, A, c, u, n, xs, e1, _, hu, hSS, e2, _, hc, how⟩ := hk.at_ (i := i) hlt
      subst e2
      obtain ⟨hn, rfl⟩ := HL.out i n xs hSS
      injection e1 with e1 _ e3
      subst e1 e3
      have HK := Lib.hid (show Kept 58 26 8 a1 b1 o1 wr.drew (.slice (some ad) S.length cap8) S vs from ⟨hk.len, hk.outer, hk.inner⟩)
      have HO := Lib.hid (show OwnW o1 (b1 + i) wr.drew 26 8 (.slice A n c) n (rowsF (mgM i) 0 n) from how)
      have HI := Lib.hid (show i ≤ 1000 by omega)
      have HN := Lib.hid (show n ≤ 100000 by omega)
      have HN2 := Lib.hid hn
      have HVS := Lib.hid hu
      clear hk how hn hu hSS
      go_wp2_with fail
      go_region_held3 (fun w' => w'.cell? (ad.add i) = some (.slice A n c))
        (first | exact hc | exact hc2 | exact hc3 | go_keep)
        (first | (go_at_call 120; ((with_reducible refine (samemsgs_marks _ A A2 c c2 i n R1.out R2.out HN2.out).mono ?_); rintro e w3 ⟨rfl, hw3⟩; have hc3 := cell_below hc2 hw3)) | (go_at_call 123; ((with_reducible refine (markmsgs0_any o1 40 _ i n HI.out HN.out).mono ?_); rintro e w1 ⟨A2, c2, o2, rfl, how2, hs2⟩; obtain ⟨hc2, r1, r2⟩ := marked_after_m HK.out HVS.out HO.out HA.out HB.out how2 hs2; have R1 := Lib.hid r1; have R2 := Lib.hid r2; have HS2 := Lib.hid hs2)))
      have HF := Lib.hid (step_below_ (HS.out.trans HS2.out.of_drew) hw3)
      clear hw3 hc hc2 how2 hs2 r1 r2
      go_wp2_with fail
      go_roundw
      case rel => exact ⟨i + 1, o2, by omega, by go_num, HF.out⟩
      case measure => simp [intOf]; omega
    · have hltI : ¬ (i : Int) < (S.length : Int) := by omega
      go_wp2_with fail
      go_ret
      exact ⟨rfl, o1, HS.out⟩
theorem markedlocks_rows (o : Nat → Nat) (w : World) (v : Value) (S : List (Nat × List Value)) (vs : List Value) (a1 b1 : Nat) (k8 : Kept 24 68 3 a1 b1 o w v S vs) (hl : ∀ (i n : Nat) xs, S[i]? = some (n, xs) → n ≤ 1000 ∧ xs = rowsF (lkM i) 0 n) (hL : S.length ≤ 250) (ha : a1 ≠ 40) (hb : 40 < b1) :
    Calls Tryz.prog 87 #[v] w fun e w' => e = .returned (.bool true) ∧ ∃ o', Step o (only 40) w o' w' := by
  have hS : lkS (S.mapIdx (fun i p => mkL i 0 p.1)) = S := by
    apply List.ext_getElem?
    intro i
    simp only [lkS, List.getElem?_map, List.getElem?_mapIdx, Option.map_map]
    cases h : S[i]? with
    | none => rfl
    | some p =>
      obtain ⟨n, xs⟩ := p
      obtain ⟨_, e⟩ := hl i n xs h
      simp only [Option.map_some, Function.comp]
      rw [mkL_len, lkM_rows, e]
  refine markedlocks_any o w v (S.mapIdx (fun i p => mkL i 0 p.1)) vs a1 b1 (by rw [hS]; exact k8) ?_ (by simpa using hL) ha hb
  intro i l h
  rw [List.getElem?_mapIdx] at h
  cases h2 : S[i]? with
  | none => simp [h2] at h
  | some p =>
    obtain ⟨n, xs⟩ := p
    simp only [h2, Option.map_some, Option.some.injEq] at h
    subst h
    rw [mkL_len]
    exact ⟨(hl i n xs h2).1, rfl⟩
end Go.Proofs.YtjmgefpdfhfhmaaGreatDoor
