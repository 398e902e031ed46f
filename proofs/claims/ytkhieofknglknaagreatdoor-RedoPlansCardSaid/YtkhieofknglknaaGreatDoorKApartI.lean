/- The book: Apart, of a book of lists of images (printed by gen/mkaparti.py). -/
import Derived.Test.YtkhieofknglknaaGreatDoorKImgB
import Derived.Test.YtkhieofknglknaaGreatDoorKImgD
namespace Go.Proofs.YtkhieofknglknaaGreatDoor
open Go.RowKit

/-- the kinds of which the book holds nothing -/
def NilsI (w : World) (p : Nat) : Prop := ∀ j, j < 30 → j ≠ 10 → j ≠ 11 → w.cell? ⟨p, j, none⟩ = some (.slice none 0 0)
def NilCI (cs : Array Value) : Prop := ∀ j, j < 30 → j ≠ 10 → j ≠ 11 → cs[j]? = some (.slice none 0 0)
theorem NilsI.of {o : Nat → Nat} {w : World} {p : Nat} {cs : Array Value} (h : BookAt o w p cs) (hn : NilCI cs) : NilsI w p := fun j h0 h1 h2 => (h.1.cell j).trans (hn j h0 h1 h2)
/-- the book holds the lists L of images -/
structure BookIm (o : Nat → Nat) (w : World) (p : Nat) (cs : Array Value) (L : List (List Im)) (v v' : Value) (s s' : List Value) : Prop where
  book : BookAt o w p cs
  nil : NilCI cs
  c10 : cs[10]? = some v
  c11 : cs[11]? = some v'
  k10 : Kept 23 72 3 21 1000 o w v (imS L) s
  k11 : Kept 23 72 3 22 2000 o w v' (imS L) s'
section
variable {o o' : Nat → Nat} {w w' : World} {p : Nat} {cs : Array Value} {L : List (List Im)} {v v' : Value} {s s' : List Value}
theorem BookIm.step {C : Nat → Prop} (h : BookIm o w p cs L v v' s s') (hs : Step o C w o' w') (hL : L.length ≤ 1000) (hc : ∀ x, 20 ≤ x → x ≤ 22 ∨ 1000 ≤ x ∧ x < 3000 → ¬ C x) : BookIm o' w' p cs L v v' s s' :=
  ⟨h.book.step hs (hc 20 (by omega) (by omega)), h.nil, h.c10, h.c11, h.k10.step hs (hc 21 (by omega) (by omega)) (fun i hi => hc _ (by omega) (by rw [imS_len] at hi; omega)), h.k11.step hs (hc 22 (by omega) (by omega)) (fun i hi => hc _ (by omega) (by rw [imS_len] at hi; omega))⟩
theorem BookIm.below_ (h : BookIm o w p cs L v v' s s') (hb : Below w.heap.size w w') : BookIm o w' p cs L v v' s s' :=
  ⟨h.book.step (Step.of_below o (fun _ => False) hb) id, h.nil, h.c10, h.c11, h.k10.below_ hb, h.k11.below_ hb⟩
theorem BookIm.one {l : List Im} {u u' v2 v2' : Value} (h : BookIm o w p cs L v v' s s') (hb : BookAt o' w' p ((cs.setIfInBounds 10 v2).setIfInBounds 11 v2')) (k10 : Kept 23 72 3 21 1000 o' w' v2 (imS (L ++ [l])) (s ++ [u])) (k11 : Kept 23 72 3 22 2000 o' w' v2' (imS (L ++ [l])) (s' ++ [u'])) :
    BookIm o' w' p ((cs.setIfInBounds 10 v2).setIfInBounds 11 v2') (L ++ [l]) v2 v2' (s ++ [u]) (s' ++ [u']) := by
  have e1 := (Array.getElem?_eq_some_iff.1 h.c10).1
  have e2 := (Array.getElem?_eq_some_iff.1 h.c11).1
  refine ⟨hb, fun j h0 h1 h2 => ?_, ?_, ?_, k10, k11⟩
  · rw [Array.getElem?_setIfInBounds, if_neg (by omega), Array.getElem?_setIfInBounds, if_neg (by omega)]
    exact h.nil j h0 h1 h2
  · rw [Array.getElem?_setIfInBounds, if_neg (by omega), Array.getElem?_setIfInBounds, if_pos rfl, if_pos e1]
  · rw [Array.getElem?_setIfInBounds, if_pos rfl, if_pos (by rw [Array.size_setIfInBounds]; exact e2)]
end
theorem BookIm.empty (o : Nat → Nat) (w : World) (p : Nat) (h : BookAt o w p #[.slice none 0 0, .slice none 0 0, .slice none 0 0, .slice none 0 0, .slice none 0 0, .slice none 0 0, .slice none 0 0, .slice none 0 0, .slice none 0 0, .slice none 0 0, .slice none 0 0, .slice none 0 0, .slice none 0 0, .slice none 0 0, .slice none 0 0, .slice none 0 0, .slice none 0 0, .slice none 0 0, .slice none 0 0, .slice none 0 0, .slice none 0 0, .slice none 0 0, .slice none 0 0, .slice none 0 0, .slice none 0 0, .slice none 0 0, .slice none 0 0, .slice none 0 0, .slice none 0 0, .slice none 0 0]) :
    BookIm o w p #[.slice none 0 0, .slice none 0 0, .slice none 0 0, .slice none 0 0, .slice none 0 0, .slice none 0 0, .slice none 0 0, .slice none 0 0, .slice none 0 0, .slice none 0 0, .slice none 0 0, .slice none 0 0, .slice none 0 0, .slice none 0 0, .slice none 0 0, .slice none 0 0, .slice none 0 0, .slice none 0 0, .slice none 0 0, .slice none 0 0, .slice none 0 0, .slice none 0 0, .slice none 0 0, .slice none 0 0, .slice none 0 0, .slice none 0 0, .slice none 0 0, .slice none 0 0, .slice none 0 0, .slice none 0 0] [] (.slice none 0 0) (.slice none 0 0) [] [] := by
  refine ⟨h, fun j h0 _ _ => ?_, rfl, rfl, Kept.nil _ _ _ _ _ _ _, Kept.nil _ _ _ _ _ _ _⟩
  rcases j with _ | _ | _ | _ | _ | _ | _ | _ | _ | _ | _ | _ | _ | _ | _ | _ | _ | _ | _ | _ | _ | _ | _ | _ | _ | _ | _ | _ | _ | _ | j <;> first | rfl | omega
theorem putS_markedI (m : Nat → Nat → List Value) (S : List (Nat × List Value)) (h : ∀ (i n : Nat) xs, S[i]? = some (n, xs) → n ≤ 900) : ∀ (i n : Nat) xs, (putS m S.length S)[i]? = some (n, xs) → n ≤ 900 ∧ xs = rowsF (m i) 0 n := by
  intro i n xs e
  have hi : i < S.length := by
    have := (List.getElem?_eq_some_iff.1 e).1
    rwa [putS_len] at this
  simp only [putS, List.getElem?_mapIdx] at e
  cases hS : S[i]? with
  | none => simp [hS] at e
  | some q =>
    obtain ⟨n', xs'⟩ := q
    simp only [hS, Option.map_some, if_pos hi, Option.some.injEq, Prod.mk.injEq] at e
    obtain ⟨rfl, rfl⟩ := e
    exact ⟨h i n' xs' hS, rfl⟩
theorem growS_markedI (m : Nat → Nat → List Value) (S : List (Nat × List Value)) (h : ∀ (i n : Nat) xs, S[i]? = some (n, xs) → n ≤ 900 ∧ xs = rowsF (m i) 0 n) : ∀ (i n : Nat) xs, ((growS m S).take S.length)[i]? = some (n, xs) → n ≤ 1000 ∧ xs = rowsF (m i) 0 n := by
  intro i n xs e
  rw [List.take_of_length_le (by rw [growS_len]; exact Nat.le_refl _)] at e
  simp only [growS, List.getElem?_mapIdx] at e
  cases hS : S[i]? with
  | none => simp [hS] at e
  | some q =>
    obtain ⟨n', xs'⟩ := q
    simp only [hS, Option.map_some, Option.some.injEq, Prod.mk.injEq] at e
    obtain ⟨rfl, rfl⟩ := e
    exact ⟨by have := (h i n' xs' hS).1; omega, rfl⟩
theorem imS_small {L : List (List Im)} (h : ∀ l ∈ L, l.length ≤ 900) : ∀ (i n : Nat) xs, (imS L)[i]? = some (n, xs) → n ≤ 900 := by
  intro i n xs e
  simp only [imS, List.getElem?_map] at e
  cases hL : L[i]? with
  | none => simp [hL] at e
  | some l =>
    simp only [hL, Option.map_some, Option.some.injEq, Prod.mk.injEq] at e
    have := h l (List.mem_of_getElem? hL)
    omega
def bigI : Nat → Prop := fun c => 20 ≤ c
theorem putC_bigI {b : Nat} (h : 20 ≤ b) : ∀ c, putC b c → bigI c := by unfold putC bigI; omega
theorem growC_bigI {a b : Nat} (h : 20 ≤ a) (h2 : 20 ≤ b) : ∀ c, growC a b c → bigI c := by unfold growC bigI; omega
theorem only_bigI {a : Nat} (h : 20 ≤ a) : ∀ c, only a c → bigI c := by unfold only bigI; omega
theorem below_drewNI (w : World) (n : Nat) : Below w.heap.size w (w.drewN n) := ⟨rfl, rfl, rfl, Nat.le_refl _, fun _ _ => rfl⟩
set_option maxRecDepth 100000 in
set_option maxHeartbeats 8000000 in
theorem aparti_any (o : Nat → Nat) (w : World) (p : Nat) (cs : Array Value) (L : List (List Im)) (v v' : Value) (s s' : List Value) (h : BookIm o w p cs L v v' s s') (hL : L.length ≤ 200) (hs : ∀ l ∈ L, l.length ≤ 900) :
    Calls Tryz.prog 17 #[.pointer (some ⟨p, 0, none⟩)] w fun e w' => e = .returned (.bool true) ∧ ∃ o', Step o bigI w o' w' := by
  have HS0 := Lib.hid h
  have HN0 := Lib.hid (NilsI.of h.book h.nil)
  have HSM := Lib.hid hs
  clear h hs
  go_enter Tryz.func17, Tryz.ntmps17
  go_wp2_with fail
  refine (stillTexts_nil _ p (HN0.out 0 (by omega) (by omega) (by omega))).mono ?_
  rintro e w' ⟨rfl, rfl⟩
  go_wp2_with fail
  refine (stillInts_nil _ p (HN0.out 2 (by omega) (by omega) (by omega))).mono ?_
  rintro e w' ⟨rfl, rfl⟩
  go_wp2_with fail
  refine (stillNums_nil _ p (HN0.out 4 (by omega) (by omega) (by omega))).mono ?_
  rintro e w' ⟨rfl, rfl⟩
  go_wp2_with fail
  refine (stillSpans_nil _ p (HN0.out 6 (by omega) (by omega) (by omega))).mono ?_
  rintro e w' ⟨rfl, rfl⟩
  go_wp2_with fail
  refine (stillLocks_nil _ p (HN0.out 8 (by omega) (by omega) (by omega))).mono ?_
  rintro e w' ⟨rfl, rfl⟩
  go_wp2_with fail
  refine (stillimgs_any o _ p v v' L s s' 21 1000 22 2000 ((HS0.out.book.1.cell 10).trans HS0.out.c10) ((HS0.out.book.1.cell 11).trans HS0.out.c11) HS0.out.k10 HS0.out.k11 (fun l hl => Nat.le_trans (HSM.out l hl) (by omega)) (Nat.le_trans hL (by omega))).mono ?_
  rintro e w1 ⟨rfl, nd, hw1⟩
  have HS1 := Lib.hid (HS0.out.below_ (hw1 ▸ below_drewNI w nd))
  have HB1 := Lib.hid (hw1 ▸ below_drewNI w nd : Below w.heap.size w w1)
  have HN1 := Lib.hid (NilsI.of HS1.out.book HS1.out.nil)
  clear hw1
  go_wp2_with fail
  refine (stillRecords_nil _ p (HN1.out 12 (by omega) (by omega) (by omega))).mono ?_
  rintro e w' ⟨rfl, rfl⟩
  go_wp2_with fail
  refine (stillPackets_nil _ p (HN1.out 14 (by omega) (by omega) (by omega))).mono ?_
  rintro e w' ⟨rfl, rfl⟩
  go_wp2_with fail
  refine (stillFrames_nil _ p (HN1.out 16 (by omega) (by omega) (by omega))).mono ?_
  rintro e w' ⟨rfl, rfl⟩
  go_wp2_with fail
  refine (stillWaits_nil _ p (HN1.out 18 (by omega) (by omega) (by omega))).mono ?_
  rintro e w' ⟨rfl, rfl⟩
  go_wp2_with fail
  refine (stillRevokes_nil _ p (HN1.out 20 (by omega) (by omega) (by omega))).mono ?_
  rintro e w' ⟨rfl, rfl⟩
  go_wp2_with fail
  refine (stillEntries_nil _ p (HN1.out 22 (by omega) (by omega) (by omega))).mono ?_
  rintro e w' ⟨rfl, rfl⟩
  go_wp2_with fail
  refine (stillParts_nil _ p (HN1.out 24 (by omega) (by omega) (by omega))).mono ?_
  rintro e w' ⟨rfl, rfl⟩
  go_wp2_with fail
  refine (stillMsgs_nil _ p (HN1.out 26 (by omega) (by omega) (by omega))).mono ?_
  rintro e w' ⟨rfl, rfl⟩
  go_wp2_with fail
  refine (stillSteps_nil _ p (HN1.out 28 (by omega) (by omega) (by omega))).mono ?_
  rintro e w' ⟨rfl, rfl⟩
  go_wp2_with fail
  refine (putRecords_nil _ p (HN1.out 12 (by omega) (by omega) (by omega))).mono ?_
  rintro e w' ⟨rfl, rfl⟩
  go_wp2_with fail
  refine (putMsgs_nil _ p (HN1.out 26 (by omega) (by omega) (by omega))).mono ?_
  rintro e w' ⟨rfl, rfl⟩
  go_wp2_with fail
  refine (putSteps_nil _ p (HN1.out 28 (by omega) (by omega) (by omega))).mono ?_
  rintro e w' ⟨rfl, rfl⟩
  go_wp2_with fail
  refine (putTexts_nil _ p (HN1.out 0 (by omega) (by omega) (by omega))).mono ?_
  rintro e w' ⟨rfl, rfl⟩
  go_wp2_with fail
  refine (putInts_nil _ p (HN1.out 2 (by omega) (by omega) (by omega))).mono ?_
  rintro e w' ⟨rfl, rfl⟩
  go_wp2_with fail
  refine (putNums_nil _ p (HN1.out 4 (by omega) (by omega) (by omega))).mono ?_
  rintro e w' ⟨rfl, rfl⟩
  go_wp2_with fail
  refine (putSpans_nil _ p (HN1.out 6 (by omega) (by omega) (by omega))).mono ?_
  rintro e w' ⟨rfl, rfl⟩
  go_wp2_with fail
  refine (putLocks_nil _ p (HN1.out 8 (by omega) (by omega) (by omega))).mono ?_
  rintro e w' ⟨rfl, rfl⟩
  go_wp2_with fail
  refine (putimgs_any o _ p cs v (imS L) s HS1.out.book HS1.out.c10 HS1.out.k10 (fun i n xs e => Nat.le_trans (imS_small HSM.out i n xs e) (by omega)) (by rw [imS_len]; omega)).mono ?_
  rintro e w4 ⟨rfl, o4, hk4, hst4⟩
  have HP := Lib.hid (HS1.out.book.step hst4 (by unfold putC; omega))
  have HK4 := Lib.hid hk4
  have HST4 := Lib.hid ((Step.of_below o bigI HB1.out).trans (hst4.mono (putC_bigI (by omega))))
  have HN4 := Lib.hid (NilsI.of HP.out HS1.out.nil)
  have M10 := Lib.hid (putS_markedI imM _ (imS_small HSM.out))
  have L10 := Lib.hid (show (putS imM (imS L).length (imS L)).length ≤ 250 by rw [putS_len, imS_len]; omega)
  have C10 := Lib.hid HS1.out.c10
  have CN := Lib.hid HS1.out.nil
  generalize putS imM (imS L).length (imS L) = S10 at HK4 M10 L10
  clear hk4 hst4 HS0 HS1 HB1 HN0 HN1
  go_wp2_with fail
  refine (putPackets_nil _ p (HN4.out 14 (by omega) (by omega) (by omega))).mono ?_
  rintro e w' ⟨rfl, rfl⟩
  go_wp2_with fail
  refine (putFrames_nil _ p (HN4.out 16 (by omega) (by omega) (by omega))).mono ?_
  rintro e w' ⟨rfl, rfl⟩
  go_wp2_with fail
  refine (putWaits_nil _ p (HN4.out 18 (by omega) (by omega) (by omega))).mono ?_
  rintro e w' ⟨rfl, rfl⟩
  go_wp2_with fail
  refine (putRevokes_nil _ p (HN4.out 20 (by omega) (by omega) (by omega))).mono ?_
  rintro e w' ⟨rfl, rfl⟩
  go_wp2_with fail
  refine (putEntries_nil _ p (HN4.out 22 (by omega) (by omega) (by omega))).mono ?_
  rintro e w' ⟨rfl, rfl⟩
  go_wp2_with fail
  refine (putParts_nil _ p (HN4.out 24 (by omega) (by omega) (by omega))).mono ?_
  rintro e w' ⟨rfl, rfl⟩
  go_wp2_with fail
  refine (growTexts_nil _ p (HN4.out 0 (by omega) (by omega) (by omega))).mono ?_
  rintro e w' ⟨rfl, rfl⟩
  go_wp2_with fail
  refine (growInts_nil _ p (HN4.out 2 (by omega) (by omega) (by omega))).mono ?_
  rintro e w' ⟨rfl, rfl⟩
  go_wp2_with fail
  refine (growNums_nil _ p (HN4.out 4 (by omega) (by omega) (by omega))).mono ?_
  rintro e w' ⟨rfl, rfl⟩
  go_wp2_with fail
  refine (growSpans_nil _ p (HN4.out 6 (by omega) (by omega) (by omega))).mono ?_
  rintro e w' ⟨rfl, rfl⟩
  go_wp2_with fail
  refine (growLocks_nil _ p (HN4.out 8 (by omega) (by omega) (by omega))).mono ?_
  rintro e w' ⟨rfl, rfl⟩
  go_wp2_with fail
  refine (growimgs_any o4 _ p cs v S10 s HP.out C10.out HK4.out (fun i n xs e => ⟨Nat.le_trans (M10.out i n xs e).1 (by omega), (M10.out i n xs e).2⟩) L10.out).mono ?_
  rintro e w5 ⟨V5, u5, o5, rfl, hg⟩
  have HG5 := Lib.hid hg
  have HN5 := Lib.hid (NilsI.of hg.book CN.out)
  have HST5 := Lib.hid (HST4.out.trans (hg.step.mono (growC_bigI (by omega) (by omega))))
  clear hg
  go_wp2_with fail
  refine (growRecords_nil _ p (HN5.out 12 (by omega) (by omega) (by omega))).mono ?_
  rintro e w' ⟨rfl, rfl⟩
  go_wp2_with fail
  refine (growPackets_nil _ p (HN5.out 14 (by omega) (by omega) (by omega))).mono ?_
  rintro e w' ⟨rfl, rfl⟩
  go_wp2_with fail
  refine (growFrames_nil _ p (HN5.out 16 (by omega) (by omega) (by omega))).mono ?_
  rintro e w' ⟨rfl, rfl⟩
  go_wp2_with fail
  refine (growWaits_nil _ p (HN5.out 18 (by omega) (by omega) (by omega))).mono ?_
  rintro e w' ⟨rfl, rfl⟩
  go_wp2_with fail
  refine (growRevokes_nil _ p (HN5.out 20 (by omega) (by omega) (by omega))).mono ?_
  rintro e w' ⟨rfl, rfl⟩
  go_wp2_with fail
  refine (growEntries_nil _ p (HN5.out 22 (by omega) (by omega) (by omega))).mono ?_
  rintro e w' ⟨rfl, rfl⟩
  go_wp2_with fail
  refine (growParts_nil _ p (HN5.out 24 (by omega) (by omega) (by omega))).mono ?_
  rintro e w' ⟨rfl, rfl⟩
  go_wp2_with fail
  refine (growMsgs_nil _ p (HN5.out 26 (by omega) (by omega) (by omega))).mono ?_
  rintro e w' ⟨rfl, rfl⟩
  go_wp2_with fail
  refine (growSteps_nil _ p (HN5.out 28 (by omega) (by omega) (by omega))).mono ?_
  rintro e w' ⟨rfl, rfl⟩
  go_wp2_with fail
  refine (markedTexts_nil _).mono ?_
  rintro e w' ⟨rfl, rfl⟩
  have nn := (HN5.out 0 (by omega) (by omega) (by omega))
  go_wp2_with fail
  refine (markedTexts_nil _).mono ?_
  rintro e w' ⟨rfl, rfl⟩
  clear nn
  go_wp2_with fail
  refine (markedInts_nil _).mono ?_
  rintro e w' ⟨rfl, rfl⟩
  have nn := (HN5.out 2 (by omega) (by omega) (by omega))
  go_wp2_with fail
  refine (markedInts_nil _).mono ?_
  rintro e w' ⟨rfl, rfl⟩
  clear nn
  go_wp2_with fail
  refine (markedNums_nil _).mono ?_
  rintro e w' ⟨rfl, rfl⟩
  have nn := (HN5.out 4 (by omega) (by omega) (by omega))
  go_wp2_with fail
  refine (markedNums_nil _).mono ?_
  rintro e w' ⟨rfl, rfl⟩
  clear nn
  go_wp2_with fail
  refine (markedSpans_nil _).mono ?_
  rintro e w' ⟨rfl, rfl⟩
  have nn := (HN5.out 6 (by omega) (by omega) (by omega))
  go_wp2_with fail
  refine (markedSpans_nil _).mono ?_
  rintro e w' ⟨rfl, rfl⟩
  clear nn
  go_wp2_with fail
  refine (markedLocks_nil _).mono ?_
  rintro e w' ⟨rfl, rfl⟩
  have nn := (HN5.out 8 (by omega) (by omega) (by omega))
  go_wp2_with fail
  refine (markedLocks_nil _).mono ?_
  rintro e w' ⟨rfl, rfl⟩
  clear nn
  go_wp2_with fail
  refine (markedimgs_rows o5 _ V5 _ u5 25 1000 HG5.out.out (growS_markedI imM S10 M10.out) (by rw [List.length_take]; have := L10.out; omega) (by omega) (by omega)).mono ?_
  rintro e w7 ⟨rfl, o7, hs7⟩
  have HB7 := Lib.hid (HG5.out.book.step hs7 (by unfold only; omega))
  have HM7 := Lib.hid (HG5.out.kept.step hs7 (by unfold only; omega) (fun i _ => by unfold only; omega))
  have HST7 := Lib.hid (HST5.out.trans (hs7.mono (only_bigI (by omega))))
  have n8 : w7.cell? ⟨p, 10, none⟩ = some v := (HB7.out.1.cell 10).trans C10.out
  clear hs7
  go_wp2_with fail
  refine (markedimgs_rows o7 _ v S10 s 21 1000 HM7.out (fun i n xs e => ⟨Nat.le_trans (M10.out i n xs e).1 (by omega), (M10.out i n xs e).2⟩) L10.out (by omega) (by omega)).mono ?_
  rintro e w8 ⟨rfl, o8, hs8⟩
  have HB8 := Lib.hid (HB7.out.step hs8 (by unfold only; omega))
  have HST8 := Lib.hid (HST7.out.trans (hs8.mono (only_bigI (by omega))))
  have HN8 := Lib.hid (NilsI.of HB8.out CN.out)
  clear hs8 n8
  go_wp2_with fail
  refine (markedRecords_nil _).mono ?_
  rintro e w' ⟨rfl, rfl⟩
  have nn := (HN8.out 12 (by omega) (by omega) (by omega))
  go_wp2_with fail
  refine (markedRecords_nil _).mono ?_
  rintro e w' ⟨rfl, rfl⟩
  clear nn
  go_wp2_with fail
  refine (markedPackets_nil _).mono ?_
  rintro e w' ⟨rfl, rfl⟩
  have nn := (HN8.out 14 (by omega) (by omega) (by omega))
  go_wp2_with fail
  refine (markedPackets_nil _).mono ?_
  rintro e w' ⟨rfl, rfl⟩
  clear nn
  go_wp2_with fail
  refine (markedFrames_nil _).mono ?_
  rintro e w' ⟨rfl, rfl⟩
  have nn := (HN8.out 16 (by omega) (by omega) (by omega))
  go_wp2_with fail
  refine (markedFrames_nil _).mono ?_
  rintro e w' ⟨rfl, rfl⟩
  clear nn
  go_wp2_with fail
  refine (markedWaits_nil _).mono ?_
  rintro e w' ⟨rfl, rfl⟩
  have nn := (HN8.out 18 (by omega) (by omega) (by omega))
  go_wp2_with fail
  refine (markedWaits_nil _).mono ?_
  rintro e w' ⟨rfl, rfl⟩
  clear nn
  go_wp2_with fail
  refine (markedRevokes_nil _).mono ?_
  rintro e w' ⟨rfl, rfl⟩
  have nn := (HN8.out 20 (by omega) (by omega) (by omega))
  go_wp2_with fail
  refine (markedRevokes_nil _).mono ?_
  rintro e w' ⟨rfl, rfl⟩
  clear nn
  go_wp2_with fail
  refine (markedEntries_nil _).mono ?_
  rintro e w' ⟨rfl, rfl⟩
  have nn := (HN8.out 22 (by omega) (by omega) (by omega))
  go_wp2_with fail
  refine (markedEntries_nil _).mono ?_
  rintro e w' ⟨rfl, rfl⟩
  clear nn
  go_wp2_with fail
  refine (markedParts_nil _).mono ?_
  rintro e w' ⟨rfl, rfl⟩
  have nn := (HN8.out 24 (by omega) (by omega) (by omega))
  go_wp2_with fail
  refine (markedParts_nil _).mono ?_
  rintro e w' ⟨rfl, rfl⟩
  clear nn
  go_wp2_with fail
  refine (markedMsgs_nil _).mono ?_
  rintro e w' ⟨rfl, rfl⟩
  have nn := (HN8.out 26 (by omega) (by omega) (by omega))
  go_wp2_with fail
  refine (markedMsgs_nil _).mono ?_
  rintro e w' ⟨rfl, rfl⟩
  clear nn
  go_wp2_with fail
  refine (markedSteps_nil _).mono ?_
  rintro e w' ⟨rfl, rfl⟩
  have nn := (HN8.out 28 (by omega) (by omega) (by omega))
  go_wp2_with fail
  refine (markedSteps_nil _).mono ?_
  rintro e w' ⟨rfl, rfl⟩
  clear nn
  go_wp2_with fail
  go_ret
  exact ⟨rfl, o8, HST8.out⟩
end Go.Proofs.YtkhieofknglknaaGreatDoor
