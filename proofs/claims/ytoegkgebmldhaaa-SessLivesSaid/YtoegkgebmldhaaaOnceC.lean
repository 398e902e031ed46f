/- Plain laws of two sessions: how much can still come on the way (a bound of its length; a measure that every Take lowers). -/
import Derived.Test.YtoegkgebmldhaaaOnceB
namespace Go.Proofs.Ytoegkgebmldhaaa
open Go.RowKit

/-- quarters of frames that a waiting message may still make at once -/
def cr (w : Wt) : Nat := if w.sent then w.age.toNat else 4
def crs : List Wt → Nat
  | [] => 0
  | w :: l => cr w + crs l
def un : List Wt → Nat
  | [] => 0
  | w :: l => (if w.sent then 0 else 1) + un l
def pot (x : St) : Nat := crs x.out + (if x.yours = 0 then 256 else 0)
def mu (x : St) : Nat := 2 * un x.out + (if x.yours = 0 then 128 else 0)
def wts (wt : Fr → Nat) : List Fr → Nat
  | [] => 0
  | f :: l => wt f + wts wt l

theorem tells_un (s : St) (l : List Wt) : (s.tells l).length = un l := by
  induction l with
  | nil => rfl
  | cons w l ih =>
    unfold St.tells at ih ⊢
    cases h : w.sent with
    | true => simpa [h, un] using ih
    | false => simp [h, un] at ih ⊢; omega
theorem un_le (l : List Wt) : un l ≤ l.length := by
  induction l with
  | nil => simp [un]
  | cons w l ih => simp only [un, List.length_cons]; split <;> omega
theorem crs_le (l : List Wt) (h : ∀ w ∈ l, 0 ≤ w.age ∧ w.age ≤ 3) : crs l ≤ 4 * l.length := by
  induction l with
  | nil => simp [crs]
  | cons w l ih =>
    have h1 := ih (fun x hx => h x (List.mem_cons_of_mem _ hx))
    have h2 := h w (List.mem_cons_self ..)
    simp only [crs, cr, List.length_cons]
    split <;> omega
theorem crs_out (l : List Wt) : crs (l.map Wt.out) + 4 * un l ≤ crs l := by
  induction l with
  | nil => simp [crs, un]
  | cons w l ih =>
    cases h : w.sent with
    | true => simp [crs, un, cr, Wt.out, h] at ih ⊢; omega
    | false => simp [crs, un, cr, Wt.out, h] at ih ⊢; omega
theorem un_out (l : List Wt) : un (l.map Wt.out) = 0 := by
  induction l with
  | nil => rfl
  | cons w l ih =>
    cases h : w.sent with
    | true => simp [un, Wt.out, h] at ih ⊢; omega
    | false => simp [un, Wt.out, h] at ih ⊢; omega
theorem crs_tick (l : List Wt) (h : ∀ w ∈ l, 0 ≤ w.age ∧ w.age ≤ 3) : crs (l.map Wt.tick) ≤ crs l + l.length := by
  induction l with
  | nil => simp [crs]
  | cons w l ih =>
    have h1 := ih (fun x hx => h x (List.mem_cons_of_mem _ hx))
    have h2 := h w (List.mem_cons_self ..)
    cases hs : w.sent with
    | false => simp [crs, cr, Wt.tick, hs] at h1 ⊢; omega
    | true =>
      by_cases h3 : w.age + 1 < 4
      · simp [crs, cr, Wt.tick, hs, h3] at h1 ⊢; omega
      · simp [crs, cr, Wt.tick, hs, h3] at h1 ⊢; omega
theorem crs_dw (p : Wt → Bool) (l : List Wt) : crs (l.dropWhile p) ≤ crs l := by
  induction l with
  | nil => simp
  | cons w l ih =>
    simp only [List.dropWhile]
    split
    · simp only [crs]; omega
    · exact Nat.le_refl _
theorem un_dw (p : Wt → Bool) (l : List Wt) : un (l.dropWhile p) ≤ un l := by
  induction l with
  | nil => simp
  | cons w l ih =>
    simp only [List.dropWhile]
    split
    · simp only [un]; omega
    · exact Nat.le_refl _
theorem pot_out (x : St) : 4 * x.outF.length + pot x.outS ≤ pot x + (if x.owed = true then 4 else 0) := by
  have h1 := crs_out x.out
  have h2 := tells_un x x.out
  unfold pot St.outS
  simp only
  unfold St.outF
  by_cases h : x.owed = true ∧ x.tells x.out = []
  · rw [if_pos h, if_pos h.1]
    have : un x.out = 0 := by rw [← h2, h.2]; rfl
    simp
    omega
  · rw [if_neg h, h2]
    split <;> omega
theorem pot_tick (x : St) (hr : x.out.length ≤ 64) (h : ∀ w ∈ x.out, 0 ≤ w.age ∧ w.age ≤ 3) : pot x.tickS ≤ pot x + 64 := by
  have h1 := crs_tick x.out h
  unfold pot St.tickS
  simp only
  omega
theorem pot_le (x : St) (hr : x.out.length ≤ 64) (h : ∀ w ∈ x.out, 0 ≤ w.age ∧ w.age ≤ 3) : pot x ≤ 512 := by
  have h1 := crs_le x.out h
  unfold pot
  split <;> omega
theorem takeS1_out (x : St) (f : Fr) (h0 : 0 ≤ x.yours) (hy : x.yours ≤ f.Mine) :
    (x.takeS1 f = x ∧ x.yours = f.Mine) ∨ (x.yours = 0 ∧ (x.takeS1 f).out = renum x.out 0) ∨ (x.takeS1 f).out = [] := by
  unfold St.takeS1
  split
  · by_cases h1 : x.yours = 0
    · refine .inr (.inl ⟨h1, ?_⟩)
      have hg : x.g0 = x.out := by unfold St.g0; rw [if_neg (by omega)]
      simp [St.greaterS, hg]
    · refine .inr (.inr ?_)
      have hg : x.g0 = [] := by unfold St.g0; rw [if_pos (by omega)]
      simp [St.greaterS, hg, renum]
  · exact .inl ⟨rfl, by omega⟩
theorem renum_age {l : List Wt} {k : Int} {w : Wt} (h : w ∈ renum l k) : ∃ v ∈ l, w.age = v.age ∧ w.data = v.data := by
  obtain ⟨i, hi, rfl⟩ := List.getElem_of_mem h
  obtain ⟨v, h1, h2⟩ := renum_get l k i _ (List.getElem?_eq_getElem hi)
  refine ⟨v, List.mem_of_getElem? h1, ?_⟩
  rw [h2]
  exact ⟨rfl, rfl⟩
theorem pot_take {x x' : St} {f : Fr} (k : TakesX x f x') (hm : 1 ≤ f.Mine) (h0 : 0 ≤ x.yours) (hy : x.yours ≤ f.Mine) (hr : x.out.length ≤ 64) (h : ∀ w ∈ x.out, 0 ≤ w.age ∧ w.age ≤ 3) : pot x' ≤ pot x := by
  have h1 : crs x'.out ≤ crs (x.takeS1 f).out := by
    rw [k.out]
    split
    · exact crs_dw _ _
    · exact Nat.le_refl _
  unfold pot
  rw [k.yours, if_neg (by omega)]
  rcases takeS1_out x f h0 hy with ⟨e, _⟩ | ⟨e0, e⟩ | e
  · rw [e] at h1
    omega
  · rw [if_pos e0]
    rw [e] at h1
    have := crs_le (renum x.out 0) (fun w hw => by obtain ⟨v, hv, ha, _⟩ := renum_age hw; rw [ha]; exact h v hv)
    rw [renum_len] at this
    omega
  · rw [e] at h1
    simp [crs] at h1
    omega
theorem mu_take {x x' : St} {f : Fr} (k : TakesX x f x') (hm : 1 ≤ f.Mine) (h0 : 0 ≤ x.yours) (hy : x.yours ≤ f.Mine) (hr : x.out.length ≤ 64) : mu x' ≤ mu x := by
  have h1 : un x'.out ≤ un (x.takeS1 f).out := by
    rw [k.out]
    split
    · exact un_dw _ _
    · exact Nat.le_refl _
  unfold mu
  rw [k.yours, if_neg (by omega)]
  rcases takeS1_out x f h0 hy with ⟨e, _⟩ | ⟨e0, e⟩ | e
  · rw [e] at h1
    omega
  · rw [if_pos e0]
    rw [e] at h1
    have := un_le (renum x.out 0)
    rw [renum_len] at this
    omega
  · rw [e] at h1
    simp [un] at h1
    omega
theorem wts_app (wt : Fr → Nat) (l m : List Fr) : wts wt (l ++ m) = wts wt l + wts wt m := by
  induction l with
  | nil => simp [wts]
  | cons f l ih => simp [wts, ih]; omega
theorem wts_le (wt : Fr → Nat) (k : Nat) (l : List Fr) (h : ∀ f ∈ l, wt f ≤ k) : wts wt l ≤ k * l.length := by
  induction l with
  | nil => simp [wts]
  | cons f l ih =>
    have h1 := ih (fun x hx => h x (List.mem_cons_of_mem _ hx))
    have h2 := h f (List.mem_cons_self ..)
    simp only [wts, List.length_cons, Nat.mul_add]
    omega
theorem mu_out (x : St) (wt : Fr → Nat) (h : ∀ w ∈ x.out, wt (x.tell w) ≤ 2) : wts wt x.outF + mu x.outS ≤ mu x + (if x.owed = true then wt x.frame else 0) := by
  have h2 := tells_un x x.out
  unfold mu St.outS
  simp only
  rw [un_out]
  unfold St.outF
  by_cases h1 : x.owed = true ∧ x.tells x.out = []
  · rw [if_pos h1, if_pos h1.1]
    simp [wts]
    omega
  · rw [if_neg h1]
    have := wts_le wt 2 (x.tells x.out) (fun f hf => by
      unfold St.tells at hf
      obtain ⟨w, hw, rfl⟩ := List.mem_map.1 hf
      exact h w (List.mem_filter.1 hw).1)
    omega
end Go.Proofs.Ytoegkgebmldhaaa
