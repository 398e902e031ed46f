/- MsgTells' book: Apart, of a book of locks and messages (printed by gen/mkapart.py). -/
import Derived.Test.YtjmgefpdfhfhmaaGreatDoorMsgW
namespace Go.Proofs.YtjmgefpdfhfhmaaGreatDoor
open Go.RowKit

/-- the kinds of which the book holds nothing -/
def Nils (w : World) (p : Nat) : Prop := ∀ j, j < 30 → j ≠ 8 → j ≠ 9 → j ≠ 26 → j ≠ 27 → w.cell? ⟨p, j, none⟩ = some (.slice none 0 0)
def NilC (cs : Array Value) : Prop := ∀ j, j < 30 → j ≠ 8 → j ≠ 9 → j ≠ 26 → j ≠ 27 → cs[j]? = some (.slice none 0 0)
theorem Nils.of {o : Nat → Nat} {w : World} {p : Nat} {cs : Array Value} (h : BookAt o w p cs) (hn : NilC cs) : Nils w p := fun j h0 h1 h2 h3 h4 => (h.1.cell j).trans (hn j h0 h1 h2 h3 h4)
/-- the book holds, for each y of K, y's locks and y -/
structure BookSt (o : Nat → Nat) (w : World) (p : Nat) (cs : Array Value) (K : List MK) (v8 v9 v26 v27 : Value) (s8 s9 s26 s27 : List Value) : Prop where
  book : BookAt o w p cs
  nil : NilC cs
  c8 : cs[8]? = some v8
  c9 : cs[9]? = some v9
  c26 : cs[26]? = some v26
  c27 : cs[27]? = some v27
  k8 : Kept 24 68 3 21 1000 o w v8 (lkS (K.map (fun y => y.m.locks))) s8
  k9 : Kept 24 68 3 22 2000 o w v9 (lkS (K.map (fun y => y.m.locks))) s9
  k26 : Kept 58 26 8 23 3000 o w v26 (oneS MK.ra K) s26
  k27 : Kept 58 26 8 24 4000 o w v27 (oneS MK.rb K) s27
  la : ∀ (i : Nat) y, K[i]? = some y → OwnW o (1000 + i) w 68 3 (.slice y.A y.m.locks.length y.ca) y.m.locks.length (lkcells y.m.locks)
  lb : ∀ (i : Nat) y, K[i]? = some y → OwnW o (5000 + i) w 68 3 (.slice y.B y.m.locks.length y.cb) y.m.locks.length (lkcells y.m.locks)
  small : ∀ y ∈ K, y.m.locks.length ≤ 900
section
variable {o : Nat → Nat} {w w' : World} {p : Nat} {cs : Array Value} {K : List MK} {v8 v9 v26 v27 : Value} {s8 s9 s26 s27 : List Value}
theorem BookSt.below_ (h : BookSt o w p cs K v8 v9 v26 v27 s8 s9 s26 s27) (hb : Below w.heap.size w w') : BookSt o w' p cs K v8 v9 v26 v27 s8 s9 s26 s27 :=
  ⟨h.book.step (Step.of_below o (fun _ => False) hb) id, h.nil, h.c8, h.c9, h.c26, h.c27, h.k8.below_ hb, h.k9.below_ hb, h.k26.below_ hb, h.k27.below_ hb, fun i y hy => (h.la i y hy).below_ hb, fun i y hy => (h.lb i y hy).below_ hb, h.small⟩
theorem BookSt.ok (h : BookSt o w p cs K v8 v9 v26 v27 s8 s9 s26 s27) : ∀ y ∈ K, y.ok w := by
  intro y hy
  obtain ⟨i, hi, e⟩ := List.getElem_of_mem hy
  have hi2 : K[i]? = some y := by rw [← e]; exact List.getElem?_eq_getElem hi
  exact ⟨OwnW.reads (h.la i y hi2), OwnW.reads (h.lb i y hi2), Nat.le_trans (h.small y hy) (by omega)⟩
theorem BookSt.len8 (h : BookSt o w p cs K v8 v9 v26 v27 s8 s9 s26 s27) : ∀ (i n : Nat) xs, (lkS (K.map (fun y => y.m.locks)))[i]? = some (n, xs) → n ≤ 900 := by
  intro i n xs e
  simp only [lkS, List.getElem?_map, List.map_map] at e
  cases hK : K[i]? with
  | none => simp [hK] at e
  | some y =>
    simp only [hK, Option.map_some, Option.some.injEq, Function.comp, Prod.mk.injEq] at e
    have := h.small y (List.mem_of_getElem? hK)
    omega
theorem oneS_len1 (f : MK → List Value) : ∀ (i n : Nat) xs, (oneS f K)[i]? = some (n, xs) → n ≤ 900 := by
  intro i n xs e
  simp only [oneS, List.getElem?_map] at e
  cases hK : K[i]? with
  | none => simp [hK] at e
  | some y =>
    simp only [hK, Option.map_some, Option.some.injEq, Prod.mk.injEq] at e
    omega
end
theorem below_drewN' (w : World) (n : Nat) : Below w.heap.size w (w.drewN n) := ⟨rfl, rfl, rfl, Nat.le_refl _, fun _ _ => rfl⟩
/-- behind the marks -/
structure BookPut (o : Nat → Nat) (w : World) (p : Nat) (cs : Array Value) (v8 v26 : Value) (S8 S26 : List (Nat × List Value)) (s8 s26 : List Value) : Prop where
  book : BookAt o w p cs
  k8 : Kept 24 68 3 21 1000 o w v8 S8 s8
  k26 : Kept 58 26 8 23 3000 o w v26 S26 s26
theorem putS_marked (m : Nat → Nat → List Value) (S : List (Nat × List Value)) (h : ∀ (i n : Nat) xs, S[i]? = some (n, xs) → n ≤ 900) : ∀ (i n : Nat) xs, (putS m S.length S)[i]? = some (n, xs) → n ≤ 900 ∧ xs = rowsF (m i) 0 n := by
  intro i n xs e
  have hi : i < S.length := by
    have := (List.getElem?_eq_some_iff.1 e).1
    rwa [putS_len] at this
  simp only [putS, List.getElem?_mapIdx] at e
  cases hS : S[i]? with
  | none => simp [hS] at e
  | some q =>
    obtain ⟨n', xs'⟩ := q
    simp only [hS, Option.map_some, if_pos hi, Option.some.injEq, Prod.mk.injEq] at e
    obtain ⟨rfl, rfl⟩ := e
    exact ⟨h i n' xs' hS, rfl⟩
theorem growS_marked (m : Nat → Nat → List Value) (S : List (Nat × List Value)) (h : ∀ (i n : Nat) xs, S[i]? = some (n, xs) → n ≤ 900 ∧ xs = rowsF (m i) 0 n) : ∀ (i n : Nat) xs, ((growS m S).take S.length)[i]? = some (n, xs) → n ≤ 1000 ∧ xs = rowsF (m i) 0 n := by
  intro i n xs e
  rw [List.take_of_length_le (by rw [growS_len]; exact Nat.le_refl _)] at e
  simp only [growS, List.getElem?_mapIdx] at e
  cases hS : S[i]? with
  | none => simp [hS] at e
  | some q =>
    obtain ⟨n', xs'⟩ := q
    simp only [hS, Option.map_some, Option.some.injEq, Prod.mk.injEq] at e
    obtain ⟨rfl, rfl⟩ := e
    exact ⟨by have := (h i n' xs' hS).1; omega, rfl⟩
theorem st_small {o : Nat → Nat} {w : World} {p : Nat} {cs : Array Value} {K : List MK} {v8 v9 v26 v27 : Value} {s8 s9 s26 s27 : List Value} (h : BookSt o w p cs K v8 v9 v26 v27 s8 s9 s26 s27) : ∀ l ∈ K.map (fun y => y.m.locks), l.length ≤ 1000 := by
  intro l hl
  obtain ⟨y, hy, rfl⟩ := List.mem_map.1 hl
  exact Nat.le_trans (h.small y hy) (by omega)
def bigC : Nat → Prop := fun c => 20 ≤ c
theorem putC_big {b : Nat} (h : 20 ≤ b) : ∀ c, putC b c → bigC c := by unfold putC bigC; omega
theorem growC_big {a b : Nat} (h : 20 ≤ a) (h2 : 20 ≤ b) : ∀ c, growC a b c → bigC c := by unfold growC bigC; omega
theorem only_big {a : Nat} (h : 20 ≤ a) : ∀ c, only a c → bigC c := by unfold only bigC; omega
set_option maxRecDepth 100000 in
set_option maxHeartbeats 8000000 in
theorem apart_any (o : Nat → Nat) (w : World) (p : Nat) (cs : Array Value) (K : List MK) (v8 v9 v26 v27 : Value) (s8 s9 s26 s27 : List Value) (h : BookSt o w p cs K v8 v9 v26 v27 s8 s9 s26 s27) (hK : K.length ≤ 200) :
    Calls Tryz.prog 19 #[.pointer (some ⟨p, 0, none⟩)] w fun e w' => e = .returned (.bool true) ∧ ∃ o', Step o bigC w o' w' := by
  have HS0 := Lib.hid h
  have HN0 := Lib.hid (Nils.of h.book h.nil)
  clear h
  go_enter Tryz.func19, Tryz.ntmps19
  go_wp2_with fail
  refine (stillTexts_nil _ p (HN0.out 0 (by omega) (by omega) (by omega) (by omega) (by omega))).mono ?_
  rintro e w' ⟨rfl, rfl⟩
  go_wp2_with fail
  refine (stillInts_nil _ p (HN0.out 2 (by omega) (by omega) (by omega) (by omega) (by omega))).mono ?_
  rintro e w' ⟨rfl, rfl⟩
  go_wp2_with fail
  refine (stillNums_nil _ p (HN0.out 4 (by omega) (by omega) (by omega) (by omega) (by omega))).mono ?_
  rintro e w' ⟨rfl, rfl⟩
  go_wp2_with fail
  refine (stillSpans_nil _ p (HN0.out 6 (by omega) (by omega) (by omega) (by omega) (by omega))).mono ?_
  rintro e w' ⟨rfl, rfl⟩
  go_wp2_with fail
  refine (stilllocks_any o _ p v8 v9 (K.map (fun y => y.m.locks)) s8 s9 21 1000 22 2000 ((HS0.out.book.1.cell 8).trans HS0.out.c8) ((HS0.out.book.1.cell 9).trans HS0.out.c9) HS0.out.k8 HS0.out.k9 (st_small HS0.out) (by simpa using (Nat.le_trans hK (by omega) : K.length ≤ 250))).mono ?_
  rintro e w1 ⟨rfl, nd, hw1⟩
  have HS1 := Lib.hid (HS0.out.below_ (hw1 ▸ below_drewN' w nd))
  have HB1 := Lib.hid (hw1 ▸ below_drewN' w nd : Below w.heap.size w w1)
  have HN1 := Lib.hid (Nils.of HS1.out.book HS1.out.nil)
  clear hw1
  go_wp2_with fail
  refine (stillImages_nil _ p (HN1.out 10 (by omega) (by omega) (by omega) (by omega) (by omega))).mono ?_
  rintro e w' ⟨rfl, rfl⟩
  go_wp2_with fail
  refine (stillRecords_nil _ p (HN1.out 12 (by omega) (by omega) (by omega) (by omega) (by omega))).mono ?_
  rintro e w' ⟨rfl, rfl⟩
  go_wp2_with fail
  refine (stillPackets_nil _ p (HN1.out 14 (by omega) (by omega) (by omega) (by omega) (by omega))).mono ?_
  rintro e w' ⟨rfl, rfl⟩
  go_wp2_with fail
  refine (stillFrames_nil _ p (HN1.out 16 (by omega) (by omega) (by omega) (by omega) (by omega))).mono ?_
  rintro e w' ⟨rfl, rfl⟩
  go_wp2_with fail
  refine (stillWaits_nil _ p (HN1.out 18 (by omega) (by omega) (by omega) (by omega) (by omega))).mono ?_
  rintro e w' ⟨rfl, rfl⟩
  go_wp2_with fail
  refine (stillRevokes_nil _ p (HN1.out 20 (by omega) (by omega) (by omega) (by omega) (by omega))).mono ?_
  rintro e w' ⟨rfl, rfl⟩
  go_wp2_with fail
  refine (stillEntries_nil _ p (HN1.out 22 (by omega) (by omega) (by omega) (by omega) (by omega))).mono ?_
  rintro e w' ⟨rfl, rfl⟩
  go_wp2_with fail
  refine (stillParts_nil _ p (HN1.out 24 (by omega) (by omega) (by omega) (by omega) (by omega))).mono ?_
  rintro e w' ⟨rfl, rfl⟩
  go_wp2_with fail
  refine (stillmsgs_any o _ p v26 v27 K s26 s27 23 3000 24 4000 ((HS1.out.book.1.cell 26).trans HS1.out.c26) ((HS1.out.book.1.cell 27).trans HS1.out.c27) HS1.out.k26 HS1.out.k27 HS1.out.ok (by omega) HS1.out.book.1.lt).mono ?_
  rintro e w2 ⟨rfl, hw2⟩
  have HS2 := Lib.hid (HS1.out.below_ hw2)
  have HB2 := Lib.hid (HB1.out.trans (hw2.mono HB1.out.size))
  have HN2 := Lib.hid (Nils.of HS2.out.book HS2.out.nil)
  clear hw2
  go_wp2_with fail
  refine (stillSteps_nil _ p (HN2.out 28 (by omega) (by omega) (by omega) (by omega) (by omega))).mono ?_
  rintro e w' ⟨rfl, rfl⟩
  go_wp2_with fail
  refine (putRecords_nil _ p (HN2.out 12 (by omega) (by omega) (by omega) (by omega) (by omega))).mono ?_
  rintro e w' ⟨rfl, rfl⟩
  go_wp2_with fail
  refine (putmsgs_any o _ p cs v26 (oneS MK.ra K) s26 HS2.out.book HS2.out.c26 HS2.out.k26 (fun i n xs e => Nat.le_trans (oneS_len1 MK.ra i n xs e) (by omega)) (by rw [oneS_len]; omega)).mono ?_
  rintro e w3 ⟨rfl, o3, hk3, hst3⟩
  have HK3 := Lib.hid hk3
  have HST3 := Lib.hid hst3
  have HBK3 := Lib.hid (HS2.out.book.step hst3 (by unfold putC; omega))
  have HL3 := Lib.hid (HS2.out.k8.step hst3 (by unfold putC; omega) (fun i hi => by rw [lkS_len, List.length_map] at hi; unfold putC; omega))
  have HN3 := Lib.hid (Nils.of HBK3.out HS2.out.nil)
  clear hk3 hst3
  go_wp2_with fail
  refine (putSteps_nil _ p (HN3.out 28 (by omega) (by omega) (by omega) (by omega) (by omega))).mono ?_
  rintro e w' ⟨rfl, rfl⟩
  go_wp2_with fail
  refine (putTexts_nil _ p (HN3.out 0 (by omega) (by omega) (by omega) (by omega) (by omega))).mono ?_
  rintro e w' ⟨rfl, rfl⟩
  go_wp2_with fail
  refine (putInts_nil _ p (HN3.out 2 (by omega) (by omega) (by omega) (by omega) (by omega))).mono ?_
  rintro e w' ⟨rfl, rfl⟩
  go_wp2_with fail
  refine (putNums_nil _ p (HN3.out 4 (by omega) (by omega) (by omega) (by omega) (by omega))).mono ?_
  rintro e w' ⟨rfl, rfl⟩
  go_wp2_with fail
  refine (putSpans_nil _ p (HN3.out 6 (by omega) (by omega) (by omega) (by omega) (by omega))).mono ?_
  rintro e w' ⟨rfl, rfl⟩
  go_wp2_with fail
  refine (putlocks_any o3 _ p cs v8 (lkS (K.map (fun y => y.m.locks))) s8 HBK3.out HS2.out.c8 HL3.out (fun i n xs e => Nat.le_trans (HS2.out.len8 i n xs e) (by omega)) (by rw [lkS_len, List.length_map]; omega)).mono ?_
  rintro e w4 ⟨rfl, o4, hk4, hst4⟩
  have HP := Lib.hid (show BookPut o4 w4 p cs v8 v26 (putS lkM (lkS (K.map (fun y => y.m.locks))).length (lkS (K.map (fun y => y.m.locks)))) (putS mgM (oneS MK.ra K).length (oneS MK.ra K)) s8 s26 from ⟨HBK3.out.step hst4 (by unfold putC; omega), hk4, HK3.out.step hst4 (by unfold putC; omega) (fun i hi => by unfold putC; omega)⟩)
  have HST4 := Lib.hid (((Step.of_below o bigC HB2.out).trans (HST3.out.mono (putC_big (by omega)))).trans (hst4.mono (putC_big (by omega))))
  have HN4 := Lib.hid (Nils.of HP.out.book HS2.out.nil)
  have M8 := Lib.hid (putS_marked lkM _ HS2.out.len8)
  have M26 := Lib.hid (putS_marked mgM _ (oneS_len1 (K := K) MK.ra))
  have L8 := Lib.hid (show (putS lkM (lkS (K.map (fun y => y.m.locks))).length (lkS (K.map (fun y => y.m.locks)))).length ≤ 250 by rw [putS_len, lkS_len, List.length_map]; omega)
  have L26 := Lib.hid (show (putS mgM (oneS MK.ra K).length (oneS MK.ra K)).length ≤ 250 by rw [putS_len, oneS_len]; omega)
  have C8 := Lib.hid HS2.out.c8
  have C26 := Lib.hid HS2.out.c26
  have CN := Lib.hid HS2.out.nil
  generalize putS lkM (lkS (K.map (fun y => y.m.locks))).length (lkS (K.map (fun y => y.m.locks))) = S8 at HP M8 L8
  generalize putS mgM (oneS MK.ra K).length (oneS MK.ra K) = S26 at HP M26 L26
  clear hk4 hst4 HS0 HS1 HS2 HB1 HB2 HK3 HST3 HBK3 HL3 HN0 HN1 HN2 HN3
  go_wp2_with fail
  refine (putImages_nil _ p (HN4.out 10 (by omega) (by omega) (by omega) (by omega) (by omega))).mono ?_
  rintro e w' ⟨rfl, rfl⟩
  go_wp2_with fail
  refine (putPackets_nil _ p (HN4.out 14 (by omega) (by omega) (by omega) (by omega) (by omega))).mono ?_
  rintro e w' ⟨rfl, rfl⟩
  go_wp2_with fail
  refine (putFrames_nil _ p (HN4.out 16 (by omega) (by omega) (by omega) (by omega) (by omega))).mono ?_
  rintro e w' ⟨rfl, rfl⟩
  go_wp2_with fail
  refine (putWaits_nil _ p (HN4.out 18 (by omega) (by omega) (by omega) (by omega) (by omega))).mono ?_
  rintro e w' ⟨rfl, rfl⟩
  go_wp2_with fail
  refine (putRevokes_nil _ p (HN4.out 20 (by omega) (by omega) (by omega) (by omega) (by omega))).mono ?_
  rintro e w' ⟨rfl, rfl⟩
  go_wp2_with fail
  refine (putEntries_nil _ p (HN4.out 22 (by omega) (by omega) (by omega) (by omega) (by omega))).mono ?_
  rintro e w' ⟨rfl, rfl⟩
  go_wp2_with fail
  refine (putParts_nil _ p (HN4.out 24 (by omega) (by omega) (by omega) (by omega) (by omega))).mono ?_
  rintro e w' ⟨rfl, rfl⟩
  go_wp2_with fail
  refine (growTexts_nil _ p (HN4.out 0 (by omega) (by omega) (by omega) (by omega) (by omega))).mono ?_
  rintro e w' ⟨rfl, rfl⟩
  go_wp2_with fail
  refine (growInts_nil _ p (HN4.out 2 (by omega) (by omega) (by omega) (by omega) (by omega))).mono ?_
  rintro e w' ⟨rfl, rfl⟩
  go_wp2_with fail
  refine (growNums_nil _ p (HN4.out 4 (by omega) (by omega) (by omega) (by omega) (by omega))).mono ?_
  rintro e w' ⟨rfl, rfl⟩
  go_wp2_with fail
  refine (growSpans_nil _ p (HN4.out 6 (by omega) (by omega) (by omega) (by omega) (by omega))).mono ?_
  rintro e w' ⟨rfl, rfl⟩
  go_wp2_with fail
  refine (growlocks_any o4 _ p cs v8 S8 s8 HP.out.book C8.out HP.out.k8 (fun i n xs e => ⟨Nat.le_trans (M8.out i n xs e).1 (by omega), (M8.out i n xs e).2⟩) L8.out).mono ?_
  rintro e w5 ⟨V8, u8, o5, rfl, hg⟩
  have HG5 := Lib.hid hg
  have HK5 := Lib.hid (HP.out.k26.step hg.step (by unfold growC; omega) (fun i _ => by unfold growC; omega))
  have HN5 := Lib.hid (Nils.of hg.book CN.out)
  have HST5 := Lib.hid (HST4.out.trans (hg.step.mono (growC_big (by omega) (by omega))))
  clear hg
  go_wp2_with fail
  refine (growImages_nil _ p (HN5.out 10 (by omega) (by omega) (by omega) (by omega) (by omega))).mono ?_
  rintro e w' ⟨rfl, rfl⟩
  go_wp2_with fail
  refine (growRecords_nil _ p (HN5.out 12 (by omega) (by omega) (by omega) (by omega) (by omega))).mono ?_
  rintro e w' ⟨rfl, rfl⟩
  go_wp2_with fail
  refine (growPackets_nil _ p (HN5.out 14 (by omega) (by omega) (by omega) (by omega) (by omega))).mono ?_
  rintro e w' ⟨rfl, rfl⟩
  go_wp2_with fail
  refine (growFrames_nil _ p (HN5.out 16 (by omega) (by omega) (by omega) (by omega) (by omega))).mono ?_
  rintro e w' ⟨rfl, rfl⟩
  go_wp2_with fail
  refine (growWaits_nil _ p (HN5.out 18 (by omega) (by omega) (by omega) (by omega) (by omega))).mono ?_
  rintro e w' ⟨rfl, rfl⟩
  go_wp2_with fail
  refine (growRevokes_nil _ p (HN5.out 20 (by omega) (by omega) (by omega) (by omega) (by omega))).mono ?_
  rintro e w' ⟨rfl, rfl⟩
  go_wp2_with fail
  refine (growEntries_nil _ p (HN5.out 22 (by omega) (by omega) (by omega) (by omega) (by omega))).mono ?_
  rintro e w' ⟨rfl, rfl⟩
  go_wp2_with fail
  refine (growParts_nil _ p (HN5.out 24 (by omega) (by omega) (by omega) (by omega) (by omega))).mono ?_
  rintro e w' ⟨rfl, rfl⟩
  go_wp2_with fail
  refine (growmsgs_any o5 _ p cs v26 S26 s26 HG5.out.book C26.out HK5.out (fun i n xs e => ⟨Nat.le_trans (M26.out i n xs e).1 (by omega), (M26.out i n xs e).2⟩) L26.out).mono ?_
  rintro e w6 ⟨V26, u26, o6, rfl, hg⟩
  have HG6 := Lib.hid hg
  have HL6 := Lib.hid (HG5.out.kept.step hg.step (by unfold growC; omega) (fun i hi => by have := L8.out; unfold growC; omega))
  have HO6 := Lib.hid (HG5.out.out.step hg.step (by unfold growC; omega) (fun i hi => by have := L8.out; rw [List.length_take] at hi; unfold growC; omega))
  have HN6 := Lib.hid (Nils.of hg.book CN.out)
  have HST6 := Lib.hid (HST5.out.trans (hg.step.mono (growC_big (by omega) (by omega))))
  clear hg
  go_wp2_with fail
  refine (growSteps_nil _ p (HN6.out 28 (by omega) (by omega) (by omega) (by omega) (by omega))).mono ?_
  rintro e w' ⟨rfl, rfl⟩
  go_wp2_with fail
  refine (markedTexts_nil _).mono ?_
  rintro e w' ⟨rfl, rfl⟩
  have nn := (HN6.out 0 (by omega) (by omega) (by omega) (by omega) (by omega))
  go_wp2_with fail
  refine (markedTexts_nil _).mono ?_
  rintro e w' ⟨rfl, rfl⟩
  clear nn
  go_wp2_with fail
  refine (markedInts_nil _).mono ?_
  rintro e w' ⟨rfl, rfl⟩
  have nn := (HN6.out 2 (by omega) (by omega) (by omega) (by omega) (by omega))
  go_wp2_with fail
  refine (markedInts_nil _).mono ?_
  rintro e w' ⟨rfl, rfl⟩
  clear nn
  go_wp2_with fail
  refine (markedNums_nil _).mono ?_
  rintro e w' ⟨rfl, rfl⟩
  have nn := (HN6.out 4 (by omega) (by omega) (by omega) (by omega) (by omega))
  go_wp2_with fail
  refine (markedNums_nil _).mono ?_
  rintro e w' ⟨rfl, rfl⟩
  clear nn
  go_wp2_with fail
  refine (markedSpans_nil _).mono ?_
  rintro e w' ⟨rfl, rfl⟩
  have nn := (HN6.out 6 (by omega) (by omega) (by omega) (by omega) (by omega))
  go_wp2_with fail
  refine (markedSpans_nil _).mono ?_
  rintro e w' ⟨rfl, rfl⟩
  clear nn
  go_wp2_with fail
  refine (markedlocks_rows o6 _ V8 _ u8 25 1000 HO6.out (growS_marked lkM S8 M8.out) (by rw [List.length_take]; have := L8.out; omega) (by omega) (by omega)).mono ?_
  rintro e w7 ⟨rfl, o7, hs7⟩
  have HB7 := Lib.hid (HG6.out.book.step hs7 (by unfold only; omega))
  have HL7 := Lib.hid (HL6.out.step hs7 (by unfold only; omega) (fun i _ => by unfold only; omega))
  have HM7 := Lib.hid (HG6.out.kept.step hs7 (by unfold only; omega) (fun i _ => by unfold only; omega))
  have HO7 := Lib.hid (HG6.out.out.step hs7 (by unfold only; omega) (fun i _ => by unfold only; omega))
  have HST7 := Lib.hid (HST6.out.trans (hs7.mono (only_big (by omega))))
  have n8 : w7.cell? ⟨p, 8, none⟩ = some v8 := (HB7.out.1.cell 8).trans C8.out
  clear hs7
  go_wp2_with fail
  refine (markedlocks_rows o7 _ v8 S8 s8 21 1000 HL7.out (fun i n xs e => ⟨Nat.le_trans (M8.out i n xs e).1 (by omega), (M8.out i n xs e).2⟩) L8.out (by omega) (by omega)).mono ?_
  rintro e w8 ⟨rfl, o8, hs8⟩
  have HB8 := Lib.hid (HB7.out.step hs8 (by unfold only; omega))
  have HM8 := Lib.hid (HM7.out.step hs8 (by unfold only; omega) (fun i _ => by unfold only; omega))
  have HO8 := Lib.hid (HO7.out.step hs8 (by unfold only; omega) (fun i _ => by unfold only; omega))
  have HST8 := Lib.hid (HST7.out.trans (hs8.mono (only_big (by omega))))
  have HN8 := Lib.hid (Nils.of HB8.out CN.out)
  clear hs8 n8
  go_wp2_with fail
  refine (markedImages_nil _).mono ?_
  rintro e w' ⟨rfl, rfl⟩
  have nn := (HN8.out 10 (by omega) (by omega) (by omega) (by omega) (by omega))
  go_wp2_with fail
  refine (markedImages_nil _).mono ?_
  rintro e w' ⟨rfl, rfl⟩
  clear nn
  go_wp2_with fail
  refine (markedRecords_nil _).mono ?_
  rintro e w' ⟨rfl, rfl⟩
  have nn := (HN8.out 12 (by omega) (by omega) (by omega) (by omega) (by omega))
  go_wp2_with fail
  refine (markedRecords_nil _).mono ?_
  rintro e w' ⟨rfl, rfl⟩
  clear nn
  go_wp2_with fail
  refine (markedPackets_nil _).mono ?_
  rintro e w' ⟨rfl, rfl⟩
  have nn := (HN8.out 14 (by omega) (by omega) (by omega) (by omega) (by omega))
  go_wp2_with fail
  refine (markedPackets_nil _).mono ?_
  rintro e w' ⟨rfl, rfl⟩
  clear nn
  go_wp2_with fail
  refine (markedFrames_nil _).mono ?_
  rintro e w' ⟨rfl, rfl⟩
  have nn := (HN8.out 16 (by omega) (by omega) (by omega) (by omega) (by omega))
  go_wp2_with fail
  refine (markedFrames_nil _).mono ?_
  rintro e w' ⟨rfl, rfl⟩
  clear nn
  go_wp2_with fail
  refine (markedWaits_nil _).mono ?_
  rintro e w' ⟨rfl, rfl⟩
  have nn := (HN8.out 18 (by omega) (by omega) (by omega) (by omega) (by omega))
  go_wp2_with fail
  refine (markedWaits_nil _).mono ?_
  rintro e w' ⟨rfl, rfl⟩
  clear nn
  go_wp2_with fail
  refine (markedRevokes_nil _).mono ?_
  rintro e w' ⟨rfl, rfl⟩
  have nn := (HN8.out 20 (by omega) (by omega) (by omega) (by omega) (by omega))
  go_wp2_with fail
  refine (markedRevokes_nil _).mono ?_
  rintro e w' ⟨rfl, rfl⟩
  clear nn
  go_wp2_with fail
  refine (markedEntries_nil _).mono ?_
  rintro e w' ⟨rfl, rfl⟩
  have nn := (HN8.out 22 (by omega) (by omega) (by omega) (by omega) (by omega))
  go_wp2_with fail
  refine (markedEntries_nil _).mono ?_
  rintro e w' ⟨rfl, rfl⟩
  clear nn
  go_wp2_with fail
  refine (markedParts_nil _).mono ?_
  rintro e w' ⟨rfl, rfl⟩
  have nn := (HN8.out 24 (by omega) (by omega) (by omega) (by omega) (by omega))
  go_wp2_with fail
  refine (markedParts_nil _).mono ?_
  rintro e w' ⟨rfl, rfl⟩
  clear nn
  go_wp2_with fail
  refine (markedmsgs_any o8 _ V26 _ u26 26 3000 HO8.out (fun i n xs e => ⟨Nat.le_trans (growS_marked mgM S26 M26.out i n xs e).1 (by omega), (growS_marked mgM S26 M26.out i n xs e).2⟩) (by rw [List.length_take]; have := L26.out; omega) (by omega) (by omega)).mono ?_
  rintro e w9 ⟨rfl, o9, hs9⟩
  have HB9 := Lib.hid (HB8.out.step hs9 (by unfold only; omega))
  have HM9 := Lib.hid (HM8.out.step hs9 (by unfold only; omega) (fun i _ => by unfold only; omega))
  have HST9 := Lib.hid (HST8.out.trans (hs9.mono (only_big (by omega))))
  have n26 : w9.cell? ⟨p, 26, none⟩ = some v26 := (HB9.out.1.cell 26).trans C26.out
  clear hs9
  go_wp2_with fail
  refine (markedmsgs_any o9 _ v26 S26 s26 23 3000 HM9.out (fun i n xs e => ⟨Nat.le_trans (M26.out i n xs e).1 (by omega), (M26.out i n xs e).2⟩) L26.out (by omega) (by omega)).mono ?_
  rintro e w10 ⟨rfl, o10, hs10⟩
  have HB10 := Lib.hid (HB9.out.step hs10 (by unfold only; omega))
  have HST10 := Lib.hid (HST9.out.trans (hs10.mono (only_big (by omega))))
  have HN10 := Lib.hid (Nils.of HB10.out CN.out)
  clear hs10 n26
  go_wp2_with fail
  refine (markedSteps_nil _).mono ?_
  rintro e w' ⟨rfl, rfl⟩
  have nn := (HN10.out 28 (by omega) (by omega) (by omega) (by omega) (by omega))
  go_wp2_with fail
  refine (markedSteps_nil _).mono ?_
  rintro e w' ⟨rfl, rfl⟩
  clear nn
  go_wp2_with fail
  go_ret
  exact ⟨rfl, o10, HST10.out⟩
end Go.Proofs.YtjmgefpdfhfhmaaGreatDoor
