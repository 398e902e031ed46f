/- MsgTells' book: the locks' lists: still, marked. -/
import Derived.Test.YtjmgefpdfhfhmaaGreatDoorMsgI
import Derived.Test.YtjmgefpdfhfhmaaGreatDoorGrow

/- MsgTells' book: the marks. -/
namespace Go.Proofs.YtjmgefpdfhfhmaaGreatDoor
open Go.RowKit

def mkL (i from_ : Nat) : Nat → List Lk
  | 0 => []
  | k + 1 => mkL i from_ k ++ [⟨((from_ + k : Nat) : Int), 0, -1 - (i : Int)⟩]
theorem mkL_len (i f k : Nat) : (mkL i f k).length = k := by
  induction k with
  | zero => rfl
  | succ k ih => simp [mkL, ih]
set_option maxRecDepth 100000 in
set_option maxHeartbeats 2000000 in
theorem marklocks_any (o : Nat → Nat) (c0 : Nat) (w : World) (i f n : Nat) (hi1 : i ≤ 1000) (hf : f + n ≤ 100000) :
    Calls Tryz.prog 129 #[.int .i64 i, .int .i64 f, .int .i64 n] w fun e w' => ∃ A cap o', e = .returned (.slice A n cap) ∧ OwnS o' c0 w' 68 3 (.slice A n cap) n (lkcells (mkL i f n)) ∧ Step o (only c0) w o' w' := by
  obtain ⟨i0, hi, hz0, hz1, hz2⟩ := info_parts info_lock
  go_enter Tryz.func129, Tryz.ntmps129
  go_wp2_with fail
  go_loopw [7, 8] (fun t7 t8 wr => ∃ (k : Nat) (o' : Nat → Nat) (A : Option Addr) (cap : Nat), k ≤ n ∧ t7 = .slice A k cap ∧ t8 = .int .i64 ((f + k : Nat) : Int) ∧ OwnS o' c0 wr 68 3 (.slice A k cap) k (lkcells (mkL i f k)) ∧ Step o (only c0) w o' wr) (fun _ t8 _ => f + n - (intOf t8).toNat)
  case atStart => exact ⟨0, o, none, 0, by omega, rfl, rfl, OwnS.nil _ _ _ _ _, Step.refl _ _ _⟩
  case round =>
    obtain ⟨k, o1, A, cap, hk, rfl, rfl, how, hst⟩ := hrel
    have HO := Lib.hid how
    have HS := Lib.hid hst
    clear how hst
    by_cases hlt : k < n
    · have hltI : ((f + k : Nat) : Int) < (f : Int) + (n : Int) := by omega
      go_wp2_with (at_builtin; refine wpList_append_S _ rfl (.tmp 17) (.tmp 23) 24 rfl 68 i0 _ 3 24 Tryz.underlying24 hi hz0 hz1 hz2 rfl (by omega) (.slice A k cap) k (lkcells (mkL i f k)) rfl (HO.out.alloc (.cells #[.int .i64 ((f + k : Nat) : Int), .int .i64 0, .int .i64 (-1 - (i : Int))] 68)) _ 1 1 [.int .i64 ((f + k : Nat) : Int), .int .i64 0, .int .i64 (-1 - (i : Int))] rfl (Reads.newAt _ 68 3 1 _ _ _ rfl rfl rfl) (by simp [Value.oneCell']) (by unfold maxLen; omega) (by omega) ?_; intro v' w2 hown hst2 hg hat; obtain ⟨A2, cap2, rfl, _, _⟩ := own_form' hown; have HO2 := Lib.hid hown; have HS2 := Lib.hid hst2; clear hown hst2 hg hat)
      go_roundw
      case rel =>
        refine ⟨k + 1, _, A2, cap2, by omega, by go_num, by go_num, ?_, (HS.out.alloc _).trans HS2.out⟩
        have h9 := HO2.out
        rw [← show lkcells (mkL i f (k + 1)) = lkcells (mkL i f k) ++ [.int .i64 ((f + k : Nat) : Int), .int .i64 0, .int .i64 (-1 - (i : Int))] by simp [mkL, lkcells, Lk.cells]] at h9
        exact h9
      case measure => simp [intOf]; omega
    · have hltI : ¬ ((f + k : Nat) : Int) < (f : Int) + (n : Int) := by omega
      obtain rfl : k = n := by omega
      go_wp2_with fail
      go_ret
      exact ⟨A, cap, rfl, o1, HO.out, HS.out⟩
theorem info_msg : (Tryz.prog.info? 26).map (fun i => (i.zero, i.size, i.bytes)) = some (some (.agg #[.int .i64 0, .int .i64 0, .int .i64 0, .int .i64 0, .int .i64 0, .int .u64 0, .int .i64 0, .slice none 0 0]), 8, 80) := by kernel_rfl
def mkM (i f : Nat) : Nat → List Value
  | 0 => []
  | k + 1 => mkM i f k ++ [.int .i64 0, .int .i64 (-1 - (i : Int)), .int .i64 ((f + k : Nat) : Int), .int .i64 0, .int .i64 0, .int .u64 0, .int .i64 0, .slice none 0 0]
set_option maxRecDepth 100000 in
set_option maxHeartbeats 2000000 in
theorem markmsgs_any (o : Nat → Nat) (c0 : Nat) (w : World) (i f n : Nat) (hi1 : i ≤ 1000) (hf : f + n ≤ 100000) :
    Calls Tryz.prog 123 #[.int .i64 i, .int .i64 f, .int .i64 n] w fun e w' => ∃ A cap o', e = .returned (.slice A n cap) ∧ OwnS o' c0 w' 26 8 (.slice A n cap) n (mkM i f n) ∧ Step o (only c0) w o' w' := by
  obtain ⟨i0, hi, hz0, hz1, hz2⟩ := info_parts info_msg
  go_enter Tryz.func123, Tryz.ntmps123
  go_wp2_with fail
  go_loopw [7, 8] (fun t7 t8 wr => ∃ (k : Nat) (o' : Nat → Nat) (A : Option Addr) (cap : Nat), k ≤ n ∧ t7 = .slice A k cap ∧ t8 = .int .i64 ((f + k : Nat) : Int) ∧ OwnS o' c0 wr 26 8 (.slice A k cap) k (mkM i f k) ∧ Step o (only c0) w o' wr) (fun _ t8 _ => f + n - (intOf t8).toNat)
  case atStart => exact ⟨0, o, none, 0, by omega, rfl, rfl, OwnS.nil _ _ _ _ _, Step.refl _ _ _⟩
  case round =>
    obtain ⟨k, o1, A, cap, hk, rfl, rfl, how, hst⟩ := hrel
    have HO := Lib.hid how
    have HS := Lib.hid hst
    clear how hst
    by_cases hlt : k < n
    · have hltI : ((f + k : Nat) : Int) < (f : Int) + (n : Int) := by omega
      go_wp2_with (at_builtin; refine wpList_append_S _ rfl (.tmp 17) (.tmp 22) 58 rfl 26 i0 _ 8 80 Tryz.underlying58 hi hz0 hz1 hz2 rfl (by omega) (.slice A k cap) k (mkM i f k) rfl (HO.out.alloc (.cells #[.int .i64 0, .int .i64 (-1 - (i : Int)), .int .i64 ((f + k : Nat) : Int), .int .i64 0, .int .i64 0, .int .u64 0, .int .i64 0, .slice none 0 0] 26)) _ 1 1 [.int .i64 0, .int .i64 (-1 - (i : Int)), .int .i64 ((f + k : Nat) : Int), .int .i64 0, .int .i64 0, .int .u64 0, .int .i64 0, .slice none 0 0] rfl (Reads.newAt _ 26 8 1 _ _ _ rfl rfl rfl) (by simp [Value.oneCell']) (by unfold maxLen; omega) (by omega) ?_; intro v' w2 hown hst2 hg hat; obtain ⟨A2, cap2, rfl, _, _⟩ := own_form' hown; have HO2 := Lib.hid hown; have HS2 := Lib.hid hst2; clear hown hst2 hg hat)
      go_roundw
      case rel =>
        refine ⟨k + 1, _, A2, cap2, by omega, by go_num, by go_num, ?_, (HS.out.alloc _).trans HS2.out⟩
        have h9 := HO2.out
        exact h9
      case measure => simp [intOf]; omega
    · have hltI : ¬ ((f + k : Nat) : Int) < (f : Int) + (n : Int) := by omega
      obtain rfl : k = n := by omega
      go_wp2_with fail
      go_ret
      exact ⟨A, cap, rfl, o1, HO.out, HS.out⟩
end Go.Proofs.YtjmgefpdfhfhmaaGreatDoor

/- A list of lists in memory, each inner one of a colour of its own (the book's kinds). -/
namespace Go.Proofs.YtjmgefpdfhfhmaaGreatDoor
open Go.RowKit

/-- the outer slice's cells are vs, of colour cO; the i-th inner one has S[i]'s length and cells, of colour cI + i -/
structure Kept (tO tE : TypeId) (sz cO cI : Nat) (o : Nat → Nat) (w : World) (v : Value) (S : List (Nat × List Value)) (vs : List Value) : Prop where
  len : vs.length = S.length
  outer : OwnW o cO w tO 1 v S.length vs
  inner : ∀ (i : Nat) u n xs, vs[i]? = some u → S[i]? = some (n, xs) → OwnW o (cI + i) w tE sz u n xs
section
variable {tO tE : TypeId} {sz cO cI : Nat} {o o' : Nat → Nat} {w w' : World} {v v' : Value} {S : List (Nat × List Value)} {vs : List Value}
theorem Kept.nil (tO tE : TypeId) (sz cO cI : Nat) (o : Nat → Nat) (w : World) : Kept tO tE sz cO cI o w (.slice none 0 0) [] [] :=
  ⟨rfl, OwnW.nil _ _ _ _ _, fun i u n xs hu _ => by simp at hu⟩
theorem Kept.step {C : Nat → Prop} (h : Kept tO tE sz cO cI o w v S vs) (hs : Step o C w o' w') (h1 : ¬ C cO) (h2 : ∀ i, i < S.length → ¬ C (cI + i)) : Kept tO tE sz cO cI o' w' v S vs :=
  ⟨h.len, h.outer.step hs h1, fun i u n xs hu hS => (h.inner i u n xs hu hS).step hs (h2 i (List.getElem?_eq_some_iff.1 hS).1)⟩
theorem Kept.below_ (h : Kept tO tE sz cO cI o w v S vs) (hb : Below w.heap.size w w') : Kept tO tE sz cO cI o w' v S vs :=
  ⟨h.len, h.outer.below_ hb, fun i u n xs hu hS => (h.inner i u n xs hu hS).below_ hb⟩
theorem Kept.alloc (h : Kept tO tE sz cO cI o w v S vs) (x : Obj) : Kept tO tE sz cO cI o (w.alloc x) v S vs :=
  ⟨h.len, h.outer.alloc x, fun i u n xs hu hS => (h.inner i u n xs hu hS).alloc x⟩
theorem Kept.drewN (h : Kept tO tE sz cO cI o w v S vs) (k : Nat) : Kept tO tE sz cO cI o (w.drewN k) v S vs := ⟨h.len, h.outer, h.inner⟩
/-- one list more -/
theorem Kept.more {u : Value} {n : Nat} {xs : List Value} (h : Kept tO tE sz cO cI o w v S vs) (ho : OwnW o' cO w' tO 1 v' (S.length + 1) (vs ++ [u])) (hs : Step o (only cO) w o' w') (hu : OwnW o (cI + S.length) w tE sz u n xs) (hd : ∀ i, i ≤ S.length → cI + i ≠ cO) :
    Kept tO tE sz cO cI o' w' v' (S ++ [(n, xs)]) (vs ++ [u]) := by
  have hl := h.len
  refine ⟨by simp [hl], by simpa using ho, fun i u1 n1 xs1 hu1 hS1 => ?_⟩
  by_cases hi : i < S.length
  · rw [List.getElem?_append_left (by omega)] at hu1
    rw [List.getElem?_append_left hi] at hS1
    exact (h.inner i u1 n1 xs1 hu1 hS1).step hs (by unfold only; exact hd i (by omega))
  · rw [List.getElem?_append_right (by omega)] at hu1
    rw [List.getElem?_append_right (by omega)] at hS1
    have h1 := (List.getElem?_eq_some_iff.1 hu1).1
    simp at h1
    have hi2 : i = S.length := by omega
    subst hi2
    rw [hl, Nat.sub_self] at hu1
    rw [Nat.sub_self] at hS1
    simp at hu1 hS1
    obtain ⟨e1, e2⟩ := hS1
    subst hu1 e1 e2
    exact hu.step hs (by unfold only; exact hd _ (Nat.le_refl _))
/-- the i-th list, as it is loaded -/
theorem Kept.at_ (h : Kept tO tE sz cO cI o w v S vs) {i : Nat} (hi : i < S.length) : ∃ ad cap A c u n xs, v = .slice (some ad) S.length cap ∧ S.length ≤ cap ∧ vs[i]? = some u ∧ S[i]? = some (n, xs) ∧ u = .slice A n c ∧ n ≤ c ∧ w.cell? (ad.add i) = some (.slice A n c) ∧ OwnW o (cI + i) w tE sz (.slice A n c) n xs := by
  obtain ⟨A0, cap, rfl, hc, _⟩ := h.outer.form
  have hl := h.len
  obtain ⟨ad, rfl, hcell⟩ := (OwnW.reads h.outer).2 (by omega)
  have hu : vs[i]? = some vs[i] := List.getElem?_eq_getElem (by omega)
  have hS : S[i]? = some (S[i].1, S[i].2) := List.getElem?_eq_getElem hi
  have hin := h.inner i _ _ _ hu hS
  obtain ⟨A, c, e, h1, _⟩ := hin.form
  exact ⟨ad, cap, A, c, vs[i], S[i].1, S[i].2, rfl, hc, hu, hS, e, h1, by rw [← e]; exact hcell i _ hu, by rw [← e]; exact hin⟩
end
end Go.Proofs.YtjmgefpdfhfhmaaGreatDoor

namespace Go.Proofs.YtjmgefpdfhfhmaaGreatDoor
open Go.RowKit

def lkS (L : List (List Lk)) : List (Nat × List Value) := L.map (fun l => (l.length, lkcells l))
theorem lkS_len (L : List (List Lk)) : (lkS L).length = L.length := by simp [lkS]
theorem lkS_get {L : List (List Lk)} {i n : Nat} {xs : List Value} {l : List Lk} (h : (lkS L)[i]? = some (n, xs)) (hl : L[i]? = some l) : n = l.length ∧ xs = lkcells l := by
  simp only [lkS, List.getElem?_map, hl, Option.map_some, Option.some.injEq, Prod.mk.injEq] at h
  exact ⟨h.1.symm, h.2.symm⟩
theorem Kept.lk {cO cI : Nat} {o : Nat → Nat} {w : World} {v : Value} {L : List (List Lk)} {vs : List Value} (h : Kept 24 68 3 cO cI o w v (lkS L) vs) {i : Nat} {l : List Lk} (hl : L[i]? = some l) :
    ∃ ad cap A c, v = .slice (some ad) L.length cap ∧ L.length ≤ cap ∧ w.cell? (ad.add i) = some (.slice A l.length c) ∧ l.length ≤ c ∧ OwnW o (cI + i) w 68 3 (.slice A l.length c) l.length (lkcells l) ∧ vs[i]? = some (.slice A l.length c) := by
  have hi := (List.getElem?_eq_some_iff.1 hl).1
  obtain ⟨ad, cap, A, c, u, n, xs, e1, h1, hu, hS, hu2, h2, hc, how⟩ := h.at_ (i := i) (by rw [lkS_len]; exact hi)
  obtain ⟨rfl, rfl⟩ := lkS_get hS hl
  rw [lkS_len] at e1 h1
  exact ⟨ad, cap, A, c, e1, h1, hc, h2, how, by rw [hu, hu2]⟩
set_option maxRecDepth 100000 in
set_option maxHeartbeats 2000000 in
theorem stilllocks_any (o : Nat → Nat) (w : World) (p : Nat) (v v' : Value) (L : List (List Lk)) (vs vs' : List Value) (a1 b1 a2 b2 : Nat) (h8 : w.cell? ⟨p, 8, none⟩ = some v) (h9 : w.cell? ⟨p, 9, none⟩ = some v')
    (k8 : Kept 24 68 3 a1 b1 o w v (lkS L) vs) (k9 : Kept 24 68 3 a2 b2 o w v' (lkS L) vs') (hl : ∀ l ∈ L, l.length ≤ 1000) (hL : L.length ≤ 250) :
    Calls Tryz.prog 42 #[.pointer (some ⟨p, 0, none⟩)] w fun e w' => e = .returned (.bool true) ∧ ∃ n, w' = w.drewN n := by
  have H8 := Lib.hid k8
  have H9 := Lib.hid k9
  have HL := Lib.hid hl
  obtain ⟨A8, cap8, e8, _, _⟩ := k8.outer.form
  obtain ⟨A9, cap9, e9, _, _⟩ := k9.outer.form
  rw [lkS_len] at e8 e9
  have C8 := Lib.hid h8
  have C9 := Lib.hid h9
  have E8 := Lib.hid e8
  have E9 := Lib.hid e9
  clear h8 h9 k8 k9 hl e8 e9
  go_enter Tryz.func42, Tryz.ntmps42
  go_wp2_with fail
  go_loopw [3] (fun t3 wr => ∃ i n : Nat, i ≤ L.length ∧ t3 = .int .i64 i ∧ wr = w.drewN n) (fun t3 _ => L.length - (intOf t3).toNat)
  case atStart => exact ⟨0, 0, by omega, rfl, rfl⟩
  case round =>
    obtain ⟨i, n, hi, rfl, hw⟩ := hrel
    have HW := Lib.hid hw
    have h8 : wr.cell? ⟨p, 8, none⟩ = some (.slice A8 L.length cap8) := by rw [hw, ← E8.out]; exact C8.out
    have h9 : wr.cell? ⟨p, 9, none⟩ = some (.slice A9 L.length cap9) := by rw [hw, ← E9.out]; exact C9.out
    by_cases hlt : i < L.length
    · have hltI : (i : Int) < (L.length : Int) := by omega
      obtain ⟨l, hl⟩ : ∃ l, L[i]? = some l := ⟨_, List.getElem?_eq_getElem hlt⟩
      have hl1 := HL.out l (List.mem_of_getElem? hl)
      obtain ⟨ad, cap, A, c, e1, _, hc, _, how, _⟩ := (H8.out.drewN n).lk hl
      obtain ⟨bd, bap, B, d, e2, _, hd, _, how2, _⟩ := (H9.out.drewN n).lk hl
      rw [← hw] at hc hd how how2
      rw [E8.out] at e1
      rw [E9.out] at e2
      injection e1 with e1
      injection e2 with e2
      subst e1 e2
      have RA := Lib.hid (OwnW.reads how)
      have RB := Lib.hid (OwnW.reads how2)
      have HM := Lib.hid (show l.length ≤ 1000000000 by omega)
      clear how how2 hw hl hl1
      go_wp2_with fail
      go_region_held3 (fun w' => w'.cell? ⟨p, 8, none⟩ = some (.slice (some ad) L.length cap8) ∧ w'.cell? ⟨p, 9, none⟩ = some (.slice (some bd) L.length cap9) ∧ w'.cell? (ad.add i) = some (.slice A l.length c) ∧ w'.cell? (bd.add i) = some (.slice B l.length d))
        (first | exact ⟨h8, h9, hc, hd⟩ | go_keep)
        (first | (go_at_call 32; ((with_reducible refine (samelocks_yes _ A B c d l RA.out.drew RB.out.drew HM.out).mono ?_); rintro e w1 ⟨rfl, m, hw1⟩)))
      clear hc hd h8 h9
      go_wp2_with fail
      go_roundw
      case rel => exact ⟨i + 1, n + 1 + m, by omega, by go_num, by rw [HW.out]; simp [World.drewN, Nat.add_assoc]⟩
      case measure => simp [intOf]; omega
    · have hltI : ¬ (i : Int) < (L.length : Int) := by omega
      clear hw
      go_wp2_with fail
      go_ret
      exact ⟨rfl, n, HW.out⟩
theorem reads_eq {w : World} {A : Option Addr} {n : Nat} {l m : List Lk} (h : l = m) (hr : Reads w 3 A n (lkcells m)) : Reads w 3 A n (lkcells l) := h ▸ hr
theorem cell_lk {cO cI i cap n c : Nat} {o : Nat → Nat} {w : World} {ad : Addr} {L : List (List Lk)} {vs : List Value} {l : List Lk} {A : Option Addr} (h : Kept 24 68 3 cO cI o w (.slice (some ad) n cap) (lkS L) vs) (hl : L[i]? = some l) (hx : vs[i]? = some (.slice A l.length c)) : w.cell? (ad.add i) = some (.slice A l.length c) := by
  obtain ⟨A0, cap0, e, _, _⟩ := h.outer.form
  injection e with e1 e2 e3
  have ho := h.outer
  rw [e2] at ho
  have hi := (List.getElem?_eq_some_iff.1 hl).1
  obtain ⟨ad', e4, hcell⟩ := (OwnW.reads ho).2 (by rw [lkS_len]; omega)
  injection e4 with e4
  subst e4
  exact hcell i _ hx
theorem marked_after {cO cI i cap c c2 : Nat} {o o' : Nat → Nat} {w w' : World} {ad : Addr} {L : List (List Lk)} {vs : List Value} {l : List Lk} {A A2 : Option Addr} (hk : Kept 24 68 3 cO cI o w (.slice (some ad) L.length cap) (lkS L) vs) (hl : L[i]? = some l) (hx : vs[i]? = some (.slice A l.length c))
    (how : OwnW o (cI + i) w 68 3 (.slice A l.length c) l.length (lkcells l)) (he : l = mkL i 0 l.length) (ha : ¬ only 40 cO) (hb : ∀ i, ¬ only 40 (cI + i)) (how2 : OwnS o' 40 w' 68 3 (.slice A2 l.length c2) l.length (lkcells (mkL i 0 l.length))) (hs : Step o (only 40) w o' w') :
    w'.cell? (ad.add i) = some (.slice A l.length c) ∧ Reads w' 3 A l.length (lkcells l) ∧ Reads w' 3 A2 l.length (lkcells l) :=
  ⟨cell_lk (hk.step hs ha (fun j _ => hb j)) hl hx, OwnW.reads (how.step hs (hb i)), reads_eq he (Reads.of_own how2.1)⟩
theorem marklocks0_any (o : Nat → Nat) (c0 : Nat) (w : World) (i n : Nat) (hi1 : i ≤ 1000) (hf : n ≤ 100000) :
    Calls Tryz.prog 129 #[.int .i64 i, .int .i64 0, .int .i64 n] w fun e w' => ∃ A cap o', e = .returned (.slice A n cap) ∧ OwnS o' c0 w' 68 3 (.slice A n cap) n (lkcells (mkL i 0 n)) ∧ Step o (only c0) w o' w' :=
  marklocks_any o c0 w i 0 n hi1 (by omega)
set_option maxRecDepth 100000 in
set_option maxHeartbeats 2000000 in
theorem markedlocks_any (o : Nat → Nat) (w : World) (v : Value) (L : List (List Lk)) (vs : List Value) (a1 b1 : Nat) (k8 : Kept 24 68 3 a1 b1 o w v (lkS L) vs) (hl : ∀ i l, L[i]? = some l → l.length ≤ 1000 ∧ l = mkL i 0 l.length) (hL : L.length ≤ 250) (ha : a1 ≠ 40) (hb : 40 < b1) :
    Calls Tryz.prog 87 #[v] w fun e w' => e = .returned (.bool true) ∧ ∃ o', Step o (only 40) w o' w' := by
  have H8 := Lib.hid k8
  have HL := Lib.hid hl
  obtain ⟨A8, cap8, e8, _, _⟩ := k8.outer.form
  rw [lkS_len] at e8
  subst e8
  have HA := Lib.hid (show ¬ only 40 a1 by unfold only; exact ha)
  have HB := Lib.hid (show ∀ i, ¬ only 40 (b1 + i) from fun i => by unfold only; omega)
  clear k8 hl ha hb
  go_enter Tryz.func87, Tryz.ntmps87
  go_wp2_with fail
  go_loopw [3] (fun t3 wr => ∃ (i : Nat) (o' : Nat → Nat), i ≤ L.length ∧ t3 = .int .i64 i ∧ Step o (only 40) w o' wr) (fun t3 _ => L.length - (intOf t3).toNat)
  case atStart => exact ⟨0, o, by omega, rfl, Step.refl _ _ _⟩
  case round =>
    obtain ⟨i, o1, hi, rfl, hs⟩ := hrel
    have HS := Lib.hid hs
    clear hs
    by_cases hlt : i < L.length
    · have hltI : (i : Int) < (L.length : Int) := by omega
      obtain ⟨l, hl⟩ : ∃ l, L[i]? = some l := ⟨_, List.getElem?_eq_getElem hlt⟩
      obtain ⟨hl1, hl2⟩ := HL.out i l hl
      have hk := H8.out.step HS.out HA.out (fun j _ => HB.out j)
      obtain ⟨ad, cap, A, c, e1, _, hc, _, how, hvs⟩ := hk.lk hl
      injection e1 with e1 _ e3
      subst e1 e3
      have HK := Lib.hid (show Kept 24 68 3 a1 b1 o1 wr.drew (.slice (some ad) L.length cap8) (lkS L) vs from ⟨hk.len, hk.outer, hk.inner⟩)
      have HO := Lib.hid (show OwnW o1 (b1 + i) wr.drew 68 3 (.slice A l.length c) l.length (lkcells l) from how)
      have HM := Lib.hid (show l.length ≤ 1000000000 by omega)
      have HI := Lib.hid (show i ≤ 1000 by omega)
      have HN := Lib.hid (show l.length ≤ 100000 by omega)
      have HQ := Lib.hid hl
      have HE := Lib.hid hl2
      have HVS := Lib.hid hvs
      clear hk how hl hl1 hl2 hvs
      go_wp2_with fail
      go_region_held3 (fun w' => w'.cell? (ad.add i) = some (.slice A l.length c))
        (first | exact hc | exact hc2 | go_keep)
        (first | (go_at_call 32; ((with_reducible refine (samelocks_yes _ A A2 c c2 l R1.out R2.out HM.out).mono ?_); rintro e w3 ⟨rfl, m, hw3⟩)) | (go_at_call 129; ((with_reducible refine (marklocks0_any o1 40 _ i l.length HI.out HN.out).mono ?_); rintro e w1 ⟨A2, c2, o2, rfl, how2, hs2⟩; obtain ⟨hc2, r1, r2⟩ := marked_after HK.out HQ.out HVS.out HO.out HE.out HA.out HB.out how2 hs2; have R1 := Lib.hid r1; have R2 := Lib.hid r2; have HS2 := Lib.hid hs2)))
      have HF := Lib.hid (show Step o (only 40) w o2 (w1.drewN m) from (HS.out.trans HS2.out.of_drew).drewN m)
      clear hw3 hc hc2 how2 hs2 r1 r2
      go_wp2_with fail
      go_roundw
      case rel => exact ⟨i + 1, o2, by omega, by go_num, HF.out⟩
      case measure => simp [intOf]; omega
    · have hltI : ¬ (i : Int) < (L.length : Int) := by omega
      go_wp2_with fail
      go_ret
      exact ⟨rfl, o1, HS.out⟩
end Go.Proofs.YtjmgefpdfhfhmaaGreatDoor
