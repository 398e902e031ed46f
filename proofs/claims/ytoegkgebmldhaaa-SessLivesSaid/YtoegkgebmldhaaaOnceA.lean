/- Plain laws of a session: what Take tells and leaves, by what stands ahead; what waits, by the list of all that was sent. -/
import Derived.Test.YtoegkgebmldhaaaSessH
namespace Go.Proofs.Ytoegkgebmldhaaa
open Go.RowKit

theorem getA_some {l : List (Int × ByteArray)} {k : Int} {s : ByteArray} (h : getA l k = some s) : (k, s) ∈ l := by
  induction l with
  | nil => simp [getA] at h
  | cons x r ih =>
    by_cases hx : x.1 = k
    · simp only [getA, hx, if_true, Option.some.injEq] at h
      subst h
      rw [← hx]
      exact List.mem_cons_self ..
    · simp only [getA, hx, if_false] at h
      exact List.mem_cons_of_mem _ (ih h)
theorem mem_delA {l : List (Int × ByteArray)} {k : Int} {p : Int × ByteArray} : p ∈ delA l k ↔ p ∈ l ∧ p.1 ≠ k := by
  unfold delA
  simp

/-- the message of a number has come -/
def has (y : St) (q : Int) : Prop := q ≤ y.heard ∨ ∃ p ∈ y.ahead, p.1 = q

structure Rcv0 (y : St) (N : Int) (R : Int × ByteArray → Prop) : Prop where
  h0 : 0 ≤ y.heard
  h1 : y.heard ≤ N
  apart : y.ahead.Pairwise (fun a b => a.1 ≠ b.1)
  in_ : ∀ p ∈ y.ahead, y.heard < p.1 ∧ p.1 ≤ N ∧ R p
structure Rcv (y : St) (N : Int) (R : Int × ByteArray → Prop) : Prop where
  all : Rcv0 y N R
  gap : ∀ p ∈ y.ahead, y.heard + 1 < p.1

theorem deliver_ok (N : Int) (R : Int × ByteArray → Prop) : ∀ (n : Nat) (s : St), s.ahead.length ≤ n → Rcv0 s N R →
    ∃ (T : List ByteArray) (ah : List (Int × ByteArray)), St.deliver n s = (T, { s with heard := s.heard + T.length, ahead := ah }) ∧ Rcv { s with heard := s.heard + T.length, ahead := ah } N R ∧
      (∀ (i : Nat) d, T[i]? = some d → R (s.heard + i + 1, d)) ∧ ∀ q, has s q → has { s with heard := s.heard + T.length, ahead := ah } q := by
  intro n
  induction n with
  | zero =>
    intro s hl h
    have ha : s.ahead = [] := List.eq_nil_of_length_eq_zero (by omega)
    refine ⟨[], [], ?_, ?_, by simp, ?_⟩
    · simp only [St.deliver, List.length_nil]
      rw [← ha]
      simp
    · exact ⟨⟨by simpa using h.h0, by simpa using h.h1, List.Pairwise.nil, by simp⟩, by simp⟩
    · intro q hq
      rcases hq with hq | ⟨p, hp, _⟩
      · exact .inl (by simpa using hq)
      · rw [ha] at hp
        simp at hp
  | succ n ih =>
    intro s hl h
    cases hg : getA s.ahead (s.heard + 1) with
    | none =>
      refine ⟨[], s.ahead, ?_, ?_, by simp, ?_⟩
      · simp [St.deliver, hg]
      · refine ⟨⟨by simpa using h.h0, by simpa using h.h1, h.apart, fun p hp => by simpa using h.in_ p hp⟩, fun p hp => ?_⟩
        have h1 := getA_none hg p hp
        have h2 := (h.in_ p hp).1
        simp
        omega
      · intro q hq
        simpa [has] using hq
    | some d =>
      have hm := getA_some hg
      obtain ⟨_, hN, hR⟩ := h.in_ _ hm
      have hlen : (delA s.ahead (s.heard + 1)).length ≤ n := by
        have := del_len (k := s.heard + 1) h.apart
        rw [hg] at this
        simp at this
        omega
      have h2 : Rcv0 { s with ahead := delA s.ahead (s.heard + 1), heard := s.heard + 1 } N R := by
        refine ⟨by have := h.h0; simp; omega, hN, h.apart.sublist List.filter_sublist, fun p hp => ?_⟩
        obtain ⟨hp1, hp2⟩ := mem_delA.1 hp
        have := h.in_ p hp1
        refine ⟨?_, this.2⟩
        have := this.1
        simp
        omega
      obtain ⟨T, ah, e, hr, hT, hk⟩ := ih _ hlen h2
      have he : s.heard + 1 + (T.length : Int) = s.heard + ((d :: T).length : Int) := by simp; omega
      simp only [he] at e hr hk
      refine ⟨d :: T, ah, ?_, hr, ?_, ?_⟩
      · simp only [St.deliver, hg, e]
      · intro i x hx
        cases i with
        | zero =>
          simp at hx
          subst hx
          simpa using hR
        | succ i =>
          simp at hx
          have := hT i x hx
          simp only at this
          rwa [show s.heard + ((i + 1 : Nat) : Int) + 1 = s.heard + 1 + (i : Int) + 1 by omega]
      · intro q hq
        refine hk q ?_
        rcases hq with hq | ⟨p, hp, rfl⟩
        · exact .inl (by simp; omega)
        · by_cases hp1 : p.1 = s.heard + 1
          · exact .inl (by simp; omega)
          · exact .inr ⟨p, mem_delA.2 ⟨hp, hp1⟩, rfl⟩

/-- what Take of a frame makes of the session s (that has learned the frame's life) -/
structure Took (s : St) (f : Fr) (N : Int) (R : Int × ByteArray → Prop) (T : List ByteArray) (y : St) : Prop where
  self : y.self = s.self
  peer : y.peer = s.peer
  mine : y.mine = s.mine
  yours : y.yours = s.yours
  last : y.last = s.last
  out : y.out = if f.Yours = s.mine then s.out.dropWhile (fun x => decide (x.seq ≤ f.Ack)) else s.out
  owed : y.owed = if f.Yours = s.mine ∧ f.Has = false then s.owed else true
  heard : y.heard = s.heard + T.length
  told : ∀ (i : Nat) d, T[i]? = some d → R (s.heard + i + 1, d)
  rcv : Rcv y N R
  keep : ∀ q, has s q → has y q
  got : f.Yours = s.mine → f.Has = true → f.Seq - s.heard ≤ 65 → has y f.Seq
  none : (f.Yours ≠ s.mine ∨ f.Has = false) → T = []

theorem takeF_took (y : St) (f : Fr) (N : Int) (R : Int × ByteArray → Prop) (hR : Rcv (y.takeS1 f) N R)
    (hf : f.Has = true → f.Yours = (y.takeS1 f).mine → f.Seq ≤ N ∧ R (f.Seq, f.Data)) : Took (y.takeS1 f) f N R (y.takeF f).1 (y.takeF f).2 := by
  unfold St.takeF
  generalize hs : y.takeS1 f = s at hR hf ⊢
  by_cases h1 : f.Yours = s.mine
  · rw [if_neg (by simpa using h1)]
    by_cases h2 : f.Has = false
    · rw [if_pos h2]
      exact ⟨rfl, rfl, rfl, rfl, rfl, by rw [if_pos h1]; rfl, by rw [if_pos ⟨h1, h2⟩]; rfl, by simp [St.ackS], by simp, ⟨⟨hR.all.h0, hR.all.h1, hR.all.apart, hR.all.in_⟩, hR.gap⟩, fun q hq => hq, fun _ h => absurd (h.symm.trans h2) (by decide), fun _ => rfl⟩
    · rw [if_neg h2]
      have h2' : f.Has = true := by simpa using h2
      have h4 : y.take4 f = St.insS { s.ackS f.Ack with owed := true } f := by unfold St.take4; rw [hs]
      rw [h4]
      obtain ⟨s4, e4⟩ : ∃ s4, s4 = St.insS { s.ackS f.Ack with owed := true } f := ⟨_, rfl⟩
      have hh : s4.heard = s.heard := by rw [e4]; unfold St.insS; split <;> rfl
      have hrest : s4.self = s.self ∧ s4.peer = s.peer ∧ s4.mine = s.mine ∧ s4.yours = s.yours ∧ s4.last = s.last ∧ s4.owed = true ∧ s4.out = s.out.dropWhile (fun x => decide (x.seq ≤ f.Ack)) := by
        rw [e4]; unfold St.insS; split <;> exact ⟨rfl, rfl, rfl, rfl, rfl, rfl, rfl⟩
      have hR4 : Rcv0 s4 N R := by
        rw [e4]
        unfold St.insS
        split
        · rename_i hc
          simp only [St.ackS] at hc
          obtain ⟨c1, c2, c3⟩ := hc
          obtain ⟨g1, g2⟩ := hf h2' h1
          refine ⟨hR.all.h0, hR.all.h1, List.pairwise_cons.2 ⟨fun x hx e => getA_none c1 x hx e.symm, hR.all.apart⟩, fun p hp => ?_⟩
          rcases List.mem_cons.1 hp with rfl | hp
          · exact ⟨c2, g1, g2⟩
          · exact hR.all.in_ p hp
        · exact ⟨hR.all.h0, hR.all.h1, hR.all.apart, hR.all.in_⟩
      have hk4 : ∀ q, has s q → has s4 q := by
        intro q hq
        rcases hq with hq | ⟨p, hp, rfl⟩
        · exact .inl (by rw [hh]; exact hq)
        · refine .inr ⟨p, ?_, rfl⟩
          rw [e4]
          unfold St.insS
          split
          · exact List.mem_cons_of_mem _ hp
          · exact hp
      have hg4 : f.Seq - s.heard ≤ 65 → has s4 f.Seq := by
        intro hw
        by_cases hq : f.Seq ≤ s.heard
        · exact .inl (by rw [hh]; exact hq)
        · cases hg : getA s.ahead f.Seq with
          | some d => exact hk4 _ (.inr ⟨_, getA_some hg, rfl⟩)
          | none =>
            refine .inr ⟨(f.Seq, f.Data), ?_, rfl⟩
            rw [e4]
            unfold St.insS
            rw [if_pos (by simp only [St.ackS]; exact ⟨hg, by omega, by omega⟩)]
            exact List.mem_cons_self ..
      rw [← e4]
      obtain ⟨T, ah, e, hr, hT, hk⟩ := deliver_ok N R s4.ahead.length s4 (Nat.le_refl _) hR4
      rw [e]
      obtain ⟨r1, r2, r3, r4, r5, r6, r7⟩ := hrest
      refine ⟨r1, r2, r3, r4, r5, by rw [if_pos h1]; exact r7, by rw [if_neg (by simp [h2])]; exact r6, by simp [hh], ?_, hr, fun q hq => hk q (hk4 q hq), fun _ _ hw => hk _ (hg4 hw), fun h => ?_⟩
      · rw [← hh]; exact hT
      · rcases h with h | h
        · exact absurd h1 h
        · exact absurd h h2
  · rw [if_pos (by simpa using h1)]
    exact ⟨rfl, rfl, rfl, rfl, rfl, by rw [if_neg h1], by rw [if_neg (fun h => h1 h.1)], by simp, by simp, ⟨⟨hR.all.h0, hR.all.h1, hR.all.apart, hR.all.in_⟩, hR.gap⟩, fun q hq => hq, fun h => absurd h h1, fun _ => rfl⟩

/-- numbers that are apart, from 1 on up to n: no more than n -/
theorem apart_len : ∀ (n : Nat) (l : List (Int × ByteArray)), l.Pairwise (fun a b => a.1 ≠ b.1) → (∀ p ∈ l, 1 ≤ p.1 ∧ p.1 ≤ (n : Int)) → l.length ≤ n := by
  intro n
  induction n with
  | zero =>
    intro l _ h
    cases l with
    | nil => simp
    | cons x r => have := h x (List.mem_cons_self ..); omega
  | succ n ih =>
    intro l hp h
    have h1 := del_len (k := ((n + 1 : Nat) : Int)) hp
    have h2 := ih (delA l ((n + 1 : Nat) : Int)) (hp.sublist List.filter_sublist) (fun p hp => by
      obtain ⟨a, b⟩ := mem_delA.1 hp
      have := h p a
      omega)
    split at h1 <;> omega
theorem Rcv.len {y : St} {N : Nat} {R : Int × ByteArray → Prop} (h : Rcv y N R) : y.ahead.length ≤ N :=
  apart_len N _ h.all.apart (fun p hp => by have := h.all.in_ p hp; have := h.all.h0; omega)

/-- what waits, by the list D of all that was sent -/
structure Snd (x : St) (D : List ByteArray) : Prop where
  last : x.last = D.length
  len : x.out.length ≤ D.length
  room : x.out.length ≤ 64
  out : ∀ (i : Nat) w, x.out[i]? = some w → w.seq = ((D.length - x.out.length + i + 1 : Nat) : Int) ∧ D[D.length - x.out.length + i]? = some w.data
  age : ∀ w ∈ x.out, 0 ≤ w.age ∧ w.age ≤ 3

theorem Snd.new (a b l : Int) : Snd (St.new a b l) [] := ⟨rfl, by simp [St.new], by simp [St.new], by simp [St.new], by simp [St.new]⟩
theorem Snd.send {x : St} {D : List ByteArray} (h : Snd x D) (d : ByteArray) (hr : x.out.length < 64) : Snd { x with last := x.last + 1, out := x.out ++ [⟨x.last + 1, d, false, 0⟩] } (D ++ [d]) := by
  have hl := h.len
  have hla := h.last
  refine ⟨by simp [hla], by simp; omega, by simp; omega, fun i w hw => ?_, fun w hw => ?_⟩
  · have e1 : (D ++ [d]).length - (x.out ++ [(⟨x.last + 1, d, false, 0⟩ : Wt)]).length = D.length - x.out.length := by simp
    simp only
    rw [e1]
    by_cases hi : i < x.out.length
    · simp only at hw
      rw [List.getElem?_append_left hi] at hw
      obtain ⟨a, b⟩ := h.out i w hw
      refine ⟨a, ?_⟩
      rw [List.getElem?_append_left (by omega)]
      exact b
    · simp only at hw
      rw [List.getElem?_append_right (by omega)] at hw
      have hi2 : i = x.out.length := by
        have := (List.getElem?_eq_some_iff.1 hw).1
        simp at this
        omega
      subst hi2
      simp at hw
      subst hw
      simp only
      refine ⟨by omega, ?_⟩
      rw [show D.length - x.out.length + x.out.length = D.length by omega]
      simp
  · simp only [List.mem_append, List.mem_singleton] at hw
    rcases hw with hw | rfl
    · exact h.age w hw
    · simp
/-- numbers and texts stay -/
theorem Snd.turn {x x' : St} {D : List ByteArray} (h : Snd x D) (g : Wt → Wt) (hl : x'.last = x.last) (ho : x'.out = x.out.map g) (h1 : ∀ w ∈ x.out, (g w).seq = w.seq ∧ (g w).data = w.data) (h2 : ∀ w ∈ x.out, 0 ≤ (g w).age ∧ (g w).age ≤ 3) : Snd x' D := by
  have he : x'.out.length = x.out.length := by rw [ho]; simp
  refine ⟨hl.trans h.last, he ▸ h.len, he ▸ h.room, fun i w hw => ?_, fun w hw => ?_⟩
  · rw [ho] at hw
    rw [List.getElem?_map] at hw
    cases hx : x.out[i]? with
    | none => rw [hx] at hw; simp at hw
    | some v =>
      rw [hx] at hw
      simp at hw
      subst hw
      obtain ⟨a, b⟩ := h1 v (List.mem_of_getElem? hx)
      rw [a, b, he]
      exact h.out i v hx
  · rw [ho] at hw
    obtain ⟨v, hv, rfl⟩ := List.mem_map.1 hw
    exact h2 v hv
theorem dropWhile_drop {α : Type} (p : α → Bool) (l : List α) : ∃ j, j ≤ l.length ∧ l.dropWhile p = l.drop j ∧ (∀ (i : Nat) x, i < j → l[i]? = some x → p x = true) ∧ ∀ x, l[j]? = some x → p x = false := by
  induction l with
  | nil => exact ⟨0, by simp, rfl, by simp, by simp⟩
  | cons a r ih =>
    by_cases h : p a = true
    · obtain ⟨j, h1, h2, h3, h4⟩ := ih
      refine ⟨j + 1, by simp; omega, by simp [List.dropWhile, h, h2], fun i x hi hx => ?_, fun x hx => by simpa using h4 x (by simpa using hx)⟩
      cases i with
      | zero => simp at hx; subst hx; exact h
      | succ i => exact h3 i x (by omega) (by simpa using hx)
    · have h' : p a = false := by simpa using h
      exact ⟨0, by simp, by simp [List.dropWhile, h'], by simp, fun x hx => by simp at hx; subst hx; exact h'⟩
/-- an ack takes away the first ones alone: all that is left has a greater number -/
theorem Snd.acked {x x' : St} {D : List ByteArray} {a : Int} (h : Snd x D) (hl : x'.last = x.last) (ho : x'.out = x.out.dropWhile (fun w => decide (w.seq ≤ a))) :
    Snd x' D ∧ (∀ w ∈ x'.out, a < w.seq) ∧ x'.out.length ≤ x.out.length ∧ (∀ b : Int, ((D.length - x.out.length : Nat) : Int) ≤ b → a ≤ b → ((D.length - x'.out.length : Nat) : Int) ≤ b) ∧ ∀ w ∈ x'.out, w ∈ x.out := by
  obtain ⟨j, h1, h2, h3, h4⟩ := dropWhile_drop (fun w : Wt => decide (w.seq ≤ a)) x.out
  have hlen := h.len
  rw [h2] at ho
  have he : x'.out.length = x.out.length - j := by rw [ho]; simp
  have hS : Snd x' D := by
    refine ⟨hl.trans h.last, by omega, by have := h.room; omega, fun i w hw => ?_, fun w hw => ?_⟩
    · rw [ho, List.getElem?_drop] at hw
      have hlt := (List.getElem?_eq_some_iff.1 hw).1
      obtain ⟨a1, b1⟩ := h.out _ w hw
      rw [he]
      refine ⟨by rw [a1]; omega, ?_⟩
      rw [show D.length - (x.out.length - j) + i = D.length - x.out.length + (j + i) by omega]
      exact b1
    · rw [ho] at hw
      exact h.age w (List.mem_of_mem_drop hw)
  refine ⟨hS, fun w hw => ?_, by omega, fun b hb hab => ?_, fun w hw => by rw [ho] at hw; exact List.mem_of_mem_drop hw⟩
  · obtain ⟨i, hw'⟩ := List.mem_iff_getElem?.1 hw
    have hi : i < x'.out.length := (List.getElem?_eq_some_iff.1 hw').1
    rw [ho, List.getElem?_drop] at hw'
    have hj : j < x.out.length := by omega
    have h5 := h4 _ (List.getElem?_eq_getElem hj)
    have h6 := (h.out j _ (List.getElem?_eq_getElem hj)).1
    have h7 := (h.out (j + i) _ hw').1
    simp at h5
    omega
  · rcases Nat.eq_zero_or_pos j with hj | hj
    · subst hj
      have : x'.out.length = x.out.length := by omega
      rw [this]; exact hb
    · have hj1 : j - 1 < x.out.length := by omega
      have h5 := h3 (j - 1) _ (by omega) (List.getElem?_eq_getElem hj1)
      have h6 := (h.out (j - 1) _ (List.getElem?_eq_getElem hj1)).1
      simp at h5
      omega
theorem renum_get : ∀ (l : List Wt) (k : Int) (i : Nat) (w : Wt), (renum l k)[i]? = some w → ∃ v, l[i]? = some v ∧ w = { v with seq := k + i + 1, sent := false }
  | [], _, i, w, h => by simp [renum] at h
  | x :: r, k, i, w, h => by
    cases i with
    | zero =>
      simp [renum] at h
      subst h
      exact ⟨x, rfl, by simp⟩
    | succ i =>
      simp only [renum, List.getElem?_cons_succ] at h
      obtain ⟨v, h1, rfl⟩ := renum_get r (k + 1) i w h
      refine ⟨v, by simpa using h1, ?_⟩
      rw [show k + 1 + (i : Int) + 1 = k + ((i + 1 : Nat) : Int) + 1 by omega]
/-- a first life is learned: nothing of what waits was acked, the numbers stay -/
theorem Snd.learn {x : St} {D : List ByteArray} (h : Snd x D) (hy : x.yours = 0) (hd : x.out.length = D.length) (l : Int) : Snd (x.greaterS l) D ∧ (x.greaterS l).out.length = D.length ∧ ∀ w ∈ (x.greaterS l).out, w.sent = false := by
  have hg : x.g0 = x.out := by unfold St.g0; rw [if_neg (by omega)]
  have ho : (x.greaterS l).out = renum x.out 0 := by simp [St.greaterS, hg]
  have he : (x.greaterS l).out.length = x.out.length := by rw [ho, renum_len]
  refine ⟨⟨by simp [St.greaterS, hg, hd], by omega, by have := h.room; omega, fun i w hw => ?_, fun w hw => ?_⟩, by omega, fun w hw => ?_⟩
  · rw [ho] at hw
    obtain ⟨v, h1, rfl⟩ := renum_get _ _ _ _ hw
    obtain ⟨a, b⟩ := h.out i v h1
    rw [he]
    simp only
    refine ⟨by omega, b⟩
  · obtain ⟨i, h0⟩ := List.mem_iff_getElem?.1 hw
    rw [ho] at h0
    obtain ⟨v, h1, h2⟩ := renum_get _ _ _ _ h0
    have := h.age v (List.mem_of_getElem? h1)
    rw [h2]
    exact this
  · obtain ⟨i, h0⟩ := List.mem_iff_getElem?.1 hw
    rw [ho] at h0
    obtain ⟨v, h1, h2⟩ := renum_get _ _ _ _ h0
    rw [h2]
/-- a greater life of one that was known: all that waits is gone -/
theorem Snd.lost {x : St} (hy : 0 < x.yours) (l : Int) : Snd (x.greaterS l) [] ∧ (x.greaterS l).out = [] := by
  have hg : x.g0 = [] := by unfold St.g0; rw [if_pos hy]
  have ho : (x.greaterS l).out = [] := by simp [St.greaterS, hg, renum]
  exact ⟨⟨by simp [St.greaterS, hg], by simp [ho], by simp [ho], by simp [ho], by simp [ho]⟩, ho⟩
end Go.Proofs.Ytoegkgebmldhaaa
