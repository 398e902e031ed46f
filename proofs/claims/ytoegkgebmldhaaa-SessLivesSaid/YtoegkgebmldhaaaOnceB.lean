/- Plain laws of two sessions and what is on the way between them: one direction, from x to y. -/
import Derived.Test.YtoegkgebmldhaaaOnceA
namespace Go.Proofs.Ytoegkgebmldhaaa
open Go.RowKit

/-- a frame that x sends now -/
structure Emit (x : St) (f : Fr) : Prop where
  From : f.From = x.self
  To : f.To = x.peer
  Mine : f.Mine = x.mine
  Yours : f.Yours = x.yours
  Ack : f.Ack = x.heard
  yes : f.Has = true → ∃ w ∈ x.out, w.sent = false ∧ f.Seq = w.seq ∧ f.Data = w.data
  no : f.Has = false → f.Seq = 0 ∧ f.Data = ⟨#[]⟩
theorem emit_out {x : St} {f : Fr} (h : f ∈ x.outF) : Emit x f := by
  unfold St.outF at h
  split at h
  · simp only [List.mem_singleton] at h
    subst h
    exact ⟨rfl, rfl, rfl, rfl, rfl, fun h => by simp [St.frame] at h, fun _ => ⟨rfl, rfl⟩⟩
  · unfold St.tells at h
    obtain ⟨w, hw, rfl⟩ := List.mem_map.1 h
    obtain ⟨h1, h2⟩ := List.mem_filter.1 hw
    exact ⟨rfl, rfl, rfl, rfl, rfl, fun _ => ⟨w, h1, by simpa using h2, rfl, rfl⟩, fun h => by simp [St.tell] at h⟩
theorem sent_out {x : St} {w : Wt} (h : w ∈ x.out) (hs : w.sent = false) : x.tell w ∈ x.outF := by
  have h1 : x.tell w ∈ x.tells x.out := by
    unfold St.tells
    exact List.mem_map.2 ⟨w, List.mem_filter.2 ⟨h, by simp [hs]⟩, rfl⟩
  unfold St.outF
  rw [if_neg]
  · exact h1
  · rintro ⟨_, h2⟩
    rw [h2] at h1
    simp at h1
theorem owed_out {x : St} (h : x.owed = true) : ∃ f, f ∈ x.outF := by
  unfold St.outF
  split
  · exact ⟨_, List.mem_singleton.2 rfl⟩
  · rename_i h1
    cases h2 : x.tells x.out with
    | nil => exact absurd ⟨h, h2⟩ h1
    | cons f r => exact ⟨f, List.mem_cons_self ..⟩

/-- up to where y has heard of x's life -/
def yh (x y : St) : Int := if y.yours = x.mine then y.heard else 0
def told (D : List ByteArray) (p : Int × ByteArray) : Prop := 1 ≤ p.1 ∧ D[(p.1 - 1).toNat]? = some p.2

structure Dir (x y : St) (way : List Fr) (D : List ByteArray) : Prop where
  snd : Snd x D
  xy : x.self ≠ x.peer
  xp : x.peer = y.self
  yp : y.peer = x.self
  xm : 1 ≤ x.mine
  ym : 1 ≤ y.mine
  yx : x.yours = 0 ∨ x.yours = y.mine
  x0 : x.yours = 0 → x.out.length = D.length
  le : y.yours ≤ x.mine
  rcv : y.yours = x.mine → Rcv y D.length (told D)
  base : ((D.length - x.out.length : Nat) : Int) ≤ yh x y
  y0 : x.yours = 0 → yh x y = 0
  toY : ∀ f ∈ way, f.To = y.self → f.Mine = x.mine → (f.Yours = 0 ∨ (f.Yours = y.mine ∧ x.yours = y.mine)) ∧ (f.Has = true → f.Seq ≤ D.length ∧ f.Seq ≤ yh x y + 64 ∧ told D (f.Seq, f.Data))
  toX : ∀ f ∈ way, f.To = x.self → f.Yours = x.mine → y.yours = x.mine ∧ f.Ack ≤ y.heard

section
variable {x y x' y' : St} {way : List Fr} {D : List ByteArray}
theorem Dir.sub {way' : List Fr} (h : Dir x y way D) (hs : ∀ f ∈ way', f ∈ way) : Dir x y way' D :=
  { h with toY := fun f hf => h.toY f (hs f hf), toX := fun f hf => h.toX f (hs f hf) }
theorem yh_0 (h : Dir x y way D) : 0 ≤ yh x y := by
  unfold yh
  split
  · rename_i h1; exact (h.rcv h1).all.h0
  · omega
theorem Dir.seq (h : Dir x y way D) {w : Wt} (hw : w ∈ x.out) : 1 ≤ w.seq ∧ w.seq ≤ D.length ∧ w.seq ≤ yh x y + 64 ∧ told D (w.seq, w.data) := by
  obtain ⟨i, hi, rfl⟩ := List.getElem_of_mem hw
  obtain ⟨a, b⟩ := h.snd.out i _ (List.getElem?_eq_getElem hi)
  have h1 := h.snd.len
  have h2 := h.snd.room
  have h3 := h.base
  refine ⟨by omega, by omega, by omega, ⟨by simp only; omega, ?_⟩⟩
  simp only
  rw [a, show ((((D.length - x.out.length + i + 1 : Nat) : Int)) - 1).toNat = D.length - x.out.length + i by omega]
  exact b
theorem told_app {D : List ByteArray} {p : Int × ByteArray} (h : told D p) (d : ByteArray) : told (D ++ [d]) p := by
  refine ⟨h.1, ?_⟩
  have h2 := h.2
  have := (List.getElem?_eq_some_iff.1 h2).1
  rw [List.getElem?_append_left this]
  exact h2
theorem Rcv.mono {N M : Int} {R S : Int × ByteArray → Prop} (h : Rcv y N R) (hN : N ≤ M) (hR : ∀ p, R p → S p) : Rcv y M S :=
  ⟨⟨h.all.h0, by have := h.all.h1; omega, h.all.apart, fun p hp => ⟨(h.all.in_ p hp).1, by have := (h.all.in_ p hp).2.1; omega, hR p (h.all.in_ p hp).2.2⟩⟩, h.gap⟩
/-- x lets one more message wait -/
theorem Dir.send (h : Dir x y way D) (d : ByteArray) (hr : x.out.length < 64) : Dir { x with last := x.last + 1, out := x.out ++ [⟨x.last + 1, d, false, 0⟩] } y way (D ++ [d]) := by
  refine ⟨h.snd.send d hr, h.xy, h.xp, h.yp, h.xm, h.ym, h.yx, fun h0 => ?_, h.le, fun h1 => (h.rcv h1).mono (by simp; omega) (fun p hp => told_app hp d), ?_, h.y0, fun f hf h1 h2 => ?_, h.toX⟩
  · have := h.x0 h0
    simp [this]
  · have := h.base
    simp only [yh] at this ⊢
    simp
    have h1 := h.snd.len
    omega
  · obtain ⟨a, b⟩ := h.toY f hf h1 h2
    refine ⟨a, fun h3 => ?_⟩
    obtain ⟨b1, b2, b3⟩ := b h3
    exact ⟨by simp; omega, b2, told_app b3 d⟩
/-- the same but for marks and ages -/
structure Alike (x x' : St) : Prop where
  self : x'.self = x.self
  peer : x'.peer = x.peer
  mine : x'.mine = x.mine
  yours : x'.yours = x.yours
  last : x'.last = x.last
  heard : x'.heard = x.heard
  ahead : x'.ahead = x.ahead
theorem yh_y (h : Alike y y') : yh x y' = yh x y := by simp [yh, h.yours, h.heard]
theorem yh_x (h : x'.mine = x.mine) : yh x' y = yh x y := by simp [yh, h]
theorem Rcv.like {N : Int} {R : Int × ByteArray → Prop} (h : Rcv y N R) (k : Alike y y') : Rcv y' N R := by
  refine ⟨⟨by rw [k.heard]; exact h.all.h0, by rw [k.heard]; exact h.all.h1, by rw [k.ahead]; exact h.all.apart, ?_⟩, ?_⟩
  · rw [k.ahead, k.heard]; exact h.all.in_
  · rw [k.ahead, k.heard]; exact h.gap
/-- x sends frames -/
theorem Dir.emitX {F : List Fr} (h : Dir x y way D) (k : Alike x x') (hs : Snd x' D) (hl : x'.out.length = x.out.length)
    (hF : ∀ f ∈ F, f.To = x.peer ∧ f.Mine = x.mine ∧ f.Yours = x.yours ∧ (f.Has = true → ∃ w ∈ x.out, f.Seq = w.seq ∧ f.Data = w.data)) : Dir x' y (way ++ F) D := by
  have hy := @yh_x x y x' k.mine
  refine ⟨hs, by rw [k.self, k.peer]; exact h.xy, by rw [k.peer]; exact h.xp, by rw [k.self]; exact h.yp, by rw [k.mine]; exact h.xm, h.ym, by rw [k.yours]; exact h.yx, fun h0 => ?_, by rw [k.mine]; exact h.le, by rw [k.mine]; exact h.rcv, by rw [hy, hl]; exact h.base, fun h0 => ?_, fun f hf h1 h2 => ?_, fun f hf h1 h2 => ?_⟩
  · rw [hl]; exact h.x0 (by rw [← k.yours]; exact h0)
  · rw [hy]; exact h.y0 (by rw [← k.yours]; exact h0)
  · rw [k.mine] at h2
    rw [k.yours, hy]
    rcases List.mem_append.1 hf with hf | hf
    · exact h.toY f hf h1 h2
    · obtain ⟨a, b, c, d⟩ := hF f hf
      refine ⟨?_, fun h3 => ?_⟩
      · rcases h.yx with h4 | h4
        · exact .inl (c.trans h4)
        · exact .inr ⟨c.trans h4, h4⟩
      · obtain ⟨w, hw, e1, e2⟩ := d h3
        obtain ⟨_, q2, q3, q4⟩ := h.seq hw
        rw [e1, e2]
        exact ⟨q2, q3, q4⟩
  · rw [k.self] at h1
    rw [k.mine] at h2 ⊢
    rcases List.mem_append.1 hf with hf | hf
    · exact h.toX f hf h1 h2
    · obtain ⟨a, _⟩ := hF f hf
      exact absurd (h1.symm.trans a) h.xy
/-- y sends frames -/
theorem Dir.emitY {F : List Fr} (h : Dir x y way D) (k : Alike y y') (hF : ∀ f ∈ F, f.To = y.peer ∧ f.Yours = y.yours ∧ f.Ack = y.heard) : Dir x y' (way ++ F) D := by
  have hy := @yh_y x y y' k
  refine ⟨h.snd, h.xy, by rw [k.self]; exact h.xp, by rw [k.peer]; exact h.yp, h.xm, by rw [k.mine]; exact h.ym, by rw [k.mine]; exact h.yx, h.x0, by rw [k.yours]; exact h.le, fun h1 => (h.rcv (by rw [← k.yours]; exact h1)).like k, by rw [hy]; exact h.base, by rw [hy]; exact h.y0, fun f hf h1 h2 => ?_, fun f hf h1 h2 => ?_⟩
  · rw [k.self] at h1
    rw [k.mine, hy]
    rcases List.mem_append.1 hf with hf | hf
    · exact h.toY f hf h1 h2
    · obtain ⟨a, _⟩ := hF f hf
      exact absurd (((h.yp.symm.trans a.symm).trans h1).trans h.xp.symm) h.xy
  · rw [k.yours, k.heard]
    rcases List.mem_append.1 hf with hf | hf
    · exact h.toX f hf h1 h2
    · obtain ⟨_, b, c⟩ := hF f hf
      exact ⟨b.symm.trans h2, by rw [c]; exact Int.le_refl _⟩
/-- x's own side behind a frame of y's present life -/
structure TakesX (x : St) (f : Fr) (x' : St) : Prop where
  self : x'.self = x.self
  peer : x'.peer = x.peer
  mine : x'.mine = x.mine
  yours : x'.yours = f.Mine
  out : x'.out = if f.Yours = x.mine then (x.takeS1 f).out.dropWhile (fun w => decide (w.seq ≤ f.Ack)) else (x.takeS1 f).out
  last : x'.last = (x.takeS1 f).last
theorem takeS1_fix (x : St) (f : Fr) : (x.takeS1 f).self = x.self ∧ (x.takeS1 f).peer = x.peer ∧ (x.takeS1 f).mine = x.mine ∧ (x.takeS1 f).owed = x.owed := by
  unfold St.takeS1
  split <;> exact ⟨rfl, rfl, rfl, rfl⟩
theorem takeS1_yours (x : St) (f : Fr) (h : x.yours ≤ f.Mine) : (x.takeS1 f).yours = f.Mine := by
  unfold St.takeS1
  split
  · rfl
  · omega
theorem Took.toX {f : Fr} {N : Int} {R : Int × ByteArray → Prop} {T : List ByteArray} (h : Took (x.takeS1 f) f N R T x') (hm : x.yours ≤ f.Mine) : TakesX x f x' := by
  obtain ⟨a, b, c, _⟩ := takeS1_fix x f
  exact ⟨h.self.trans a, h.peer.trans b, h.mine.trans c, h.yours.trans (takeS1_yours x f hm), by rw [h.out, c], h.last⟩
theorem snd_S1 (h : Dir x y way D) {f : Fr} (hm : f.Mine = y.mine) : Snd (x.takeS1 f) D ∧ (x.takeS1 f).out.length = x.out.length ∧ ((x.yours = 0 ∧ ∀ w ∈ (x.takeS1 f).out, w.sent = false) ∨ (x.yours = y.mine ∧ x.takeS1 f = x)) := by
  rcases h.yx with h0 | h0
  · have e : x.takeS1 f = x.greaterS f.Mine := by
      unfold St.takeS1
      rw [if_pos (by have := h.ym; omega)]
    obtain ⟨a, b, c⟩ := h.snd.learn h0 (h.x0 h0) f.Mine
    rw [e]
    exact ⟨a, by rw [b, h.x0 h0], .inl ⟨h0, c⟩⟩
  · have e : x.takeS1 f = x := by
      unfold St.takeS1
      rw [if_neg (by omega)]
    rw [e]
    exact ⟨h.snd, rfl, .inr ⟨h0, rfl⟩⟩
theorem Dir.takeX (h : Dir x y way D) {f : Fr} (hf : f ∈ way) (ht : f.To = x.self) (hm : f.Mine = y.mine) (k : TakesX x f x') : Dir x' y way D := by
  obtain ⟨hS, hl, _⟩ := snd_S1 h hm
  have hx' : x'.yours = y.mine := k.yours.trans hm
  have hne : x'.yours ≠ 0 := by rw [hx']; have := h.ym; omega
  have hy := @yh_x x y x' k.mine
  have hbl : Snd x' D ∧ ((D.length - x'.out.length : Nat) : Int) ≤ yh x y := by
    by_cases hc : f.Yours = x.mine
    · have ho := k.out
      rw [if_pos hc] at ho
      obtain ⟨a, _, _, b, _⟩ := hS.acked k.last ho
      obtain ⟨c, d⟩ := h.toX f hf ht hc
      refine ⟨a, b _ (by rw [hl]; exact h.base) ?_⟩
      unfold yh
      rw [if_pos c]
      exact d
    · have ho := k.out
      rw [if_neg hc] at ho
      refine ⟨?_, by rw [ho, hl]; exact h.base⟩
      exact hS.turn id k.last (by rw [ho, List.map_id]) (fun w _ => ⟨rfl, rfl⟩) hS.age
  refine ⟨hbl.1, by rw [k.self, k.peer]; exact h.xy, by rw [k.peer]; exact h.xp, by rw [k.self]; exact h.yp, by rw [k.mine]; exact h.xm, h.ym, .inr hx', fun h0 => absurd h0 hne, by rw [k.mine]; exact h.le, by rw [k.mine]; exact h.rcv, by rw [hy]; exact hbl.2, fun h0 => absurd h0 hne, fun g hg h1 h2 => ?_, fun g hg h1 h2 => ?_⟩
  · rw [k.mine] at h2
    obtain ⟨a, b⟩ := h.toY g hg h1 h2
    rw [hy]
    exact ⟨a.imp id (fun c => ⟨c.1, hx'⟩), b⟩
  · rw [k.self] at h1
    rw [k.mine] at h2 ⊢
    exact h.toX g hg h1 h2
/-- y takes a frame: what it has learned -/
theorem rcv_S1 (h : Dir x y way D) {f : Fr} (hm : f.Mine = x.mine) : Rcv (y.takeS1 f) D.length (told D) ∧ (y.takeS1 f).heard = yh x y := by
  unfold yh
  by_cases h1 : y.yours = x.mine
  · have e : y.takeS1 f = y := by
      unfold St.takeS1
      rw [if_neg (by omega)]
    rw [e, if_pos h1]
    exact ⟨h.rcv h1, rfl⟩
  · have e : y.takeS1 f = y.greaterS f.Mine := by
      unfold St.takeS1
      rw [if_pos (by have := h.le; omega)]
    rw [e, if_neg h1]
    exact ⟨⟨⟨by simp [St.greaterS], by simp [St.greaterS], by simp [St.greaterS], by simp [St.greaterS]⟩, by simp [St.greaterS]⟩, rfl⟩
theorem Dir.tookY (h : Dir x y way D) {f : Fr} (hf : f ∈ way) (ht : f.To = y.self) (hm : f.Mine = x.mine) : Took (y.takeS1 f) f D.length (told D) (y.takeF f).1 (y.takeF f).2 :=
  takeF_took y f _ _ (rcv_S1 h hm).1 (fun h1 _ => ⟨((h.toY f hf ht hm).2 h1).1, ((h.toY f hf ht hm).2 h1).2.2⟩)
theorem Dir.takeY (h : Dir x y way D) {f : Fr} (hf : f ∈ way) (ht : f.To = y.self) (hm : f.Mine = x.mine) {T : List ByteArray} (k : Took (y.takeS1 f) f D.length (told D) T y') : Dir x y' way D ∧ yh x y' = yh x y + T.length := by
  obtain ⟨hR, hH⟩ := rcv_S1 h hm
  obtain ⟨k1, k2, k3, _⟩ := takeS1_fix y f
  have hy' : y'.yours = x.mine := by rw [k.yours, takeS1_yours y f (by rw [hm]; exact h.le), hm]
  have hyh : yh x y' = yh x y + T.length := by
    have e : yh x y' = y'.heard := by unfold yh; rw [if_pos hy']
    rw [e, k.heard, hH]
  refine ⟨⟨h.snd, h.xy, by rw [k.self, k1]; exact h.xp, by rw [k.peer, k2]; exact h.yp, h.xm, by rw [k.mine, k3]; exact h.ym, by rw [k.mine, k3]; exact h.yx, h.x0, by omega, fun _ => k.rcv, by rw [hyh]; have := h.base; omega, fun h0 => ?_, fun g hg h1 h2 => ?_, fun g hg h1 h2 => ?_⟩, hyh⟩
  · rw [hyh, h.y0 h0]
    have hT : T = [] := k.none (.inl (by
      rcases (h.toY f hf ht hm).1 with h3 | h3
      · rw [h3, k3]; have := h.ym; omega
      · exact absurd h0 (by rw [h3.2]; have := h.ym; omega)))
    simp [hT]
  · rw [k.self, k1] at h1
    rw [k.mine, k3, hyh]
    obtain ⟨a, b⟩ := h.toY g hg h1 h2
    exact ⟨a, fun h3 => ⟨(b h3).1, by have := (b h3).2.1; omega, (b h3).2.2⟩⟩
  · obtain ⟨a, b⟩ := h.toX g hg h1 h2
    refine ⟨hy', ?_⟩
    have e : yh x y = y.heard := by unfold yh; rw [if_pos a]
    rw [k.heard, hH, e]
    omega
/-- y takes a frame of a lesser life of x's end -/
theorem Dir.takeOld (h : Dir x y way D) {f : Fr} (hl : y.yours ≤ f.Mine) (hm : f.Mine < x.mine) (h1 : y'.self = y.self) (h2 : y'.peer = y.peer) (h3 : y'.mine = y.mine) (h4 : y'.yours = f.Mine) : Dir x y' way D := by
  have e1 : yh x y = 0 := by unfold yh; rw [if_neg (by omega)]
  have e2 : yh x y' = 0 := by unfold yh; rw [if_neg (by omega)]
  refine ⟨h.snd, h.xy, by rw [h1]; exact h.xp, by rw [h2]; exact h.yp, h.xm, by rw [h3]; exact h.ym, by rw [h3]; exact h.yx, h.x0, by omega, fun e => by omega, by rw [e2, ← e1]; exact h.base, fun _ => e2, fun g hg a b => ?_, fun g hg a b => ?_⟩
  · rw [h1] at a
    obtain ⟨q1, q2⟩ := h.toY g hg a b
    rw [h3, e2]
    rw [e1] at q2
    exact ⟨q1, q2⟩
  · have := (h.toX g hg a b).1
    omega
end
end Go.Proofs.Ytoegkgebmldhaaa
