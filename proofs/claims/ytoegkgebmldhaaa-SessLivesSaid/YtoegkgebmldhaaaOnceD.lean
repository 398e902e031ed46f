/- Plain laws of two sessions: a calm: each message that waits is sent again within four ticks, is told, and is acked. -/
import Derived.Test.YtoegkgebmldhaaaOnceC
namespace Go.Proofs.Ytoegkgebmldhaaa
open Go.RowKit

theorem out_seq (w : Wt) : w.out.seq = w.seq ∧ w.out.data = w.data := by unfold Wt.out; split <;> exact ⟨rfl, rfl⟩
theorem tick_seq (w : Wt) : w.tick.seq = w.seq ∧ w.tick.data = w.data := by unfold Wt.tick; split <;> exact ⟨rfl, rfl⟩
theorem out_age (w : Wt) (h : 0 ≤ w.age ∧ w.age ≤ 3) : 0 ≤ w.out.age ∧ w.out.age ≤ 3 := by
  unfold Wt.out
  split
  · exact h
  · simp
theorem tickout_age (w : Wt) (h : 0 ≤ w.age ∧ w.age ≤ 3) : 0 ≤ w.tick.out.age ∧ w.tick.out.age ≤ 3 := by
  unfold Wt.out Wt.tick
  by_cases hs : w.sent = true
  · simp only [hs, if_true]
    by_cases h3 : w.age + 1 < 4
    · simp [h3]; omega
    · simp [h3]
  · simp [hs]
theorem alike_out (x : St) : Alike x x.outS := ⟨rfl, rfl, rfl, rfl, rfl, rfl, rfl⟩
theorem alike_tick (x : St) : Alike x x.tickS := ⟨rfl, rfl, rfl, rfl, rfl, rfl, rfl⟩
theorem alike_tickout (x : St) : Alike x x.tickS.outS := ⟨rfl, rfl, rfl, rfl, rfl, rfl, rfl⟩
theorem snd_out {x : St} {D : List ByteArray} (h : Snd x D) : Snd x.outS D :=
  h.turn Wt.out rfl rfl (fun w _ => out_seq w) (fun w hw => out_age w (h.age w hw))
theorem snd_tickout {x : St} {D : List ByteArray} (h : Snd x D) : Snd x.tickS.outS D :=
  h.turn (fun w => w.tick.out) rfl (by simp [St.outS, St.tickS]) (fun w _ => ⟨(out_seq _).1.trans (tick_seq w).1, (out_seq _).2.trans (tick_seq w).2⟩) (fun w hw => tickout_age w (h.age w hw))
theorem emit_tick {x : St} {f : Fr} (h : f ∈ x.tickS.outF) : f.From = x.self ∧ f.To = x.peer ∧ f.Mine = x.mine ∧ f.Yours = x.yours ∧ f.Ack = x.heard ∧ (f.Has = true → ∃ w ∈ x.out, f.Seq = w.seq ∧ f.Data = w.data) ∧ (f.Has = false → f.Seq = 0 ∧ f.Data = ⟨#[]⟩) := by
  have e := emit_out h
  refine ⟨e.From, e.To, e.Mine, e.Yours, e.Ack, fun h1 => ?_, e.no⟩
  obtain ⟨w, hw, _, h2, h3⟩ := e.yes h1
  obtain ⟨v, hv, rfl⟩ := List.mem_map.1 hw
  exact ⟨v, hv, h2.trans (tick_seq v).1, h3.trans (tick_seq v).2⟩

/-- the message q of x has come to y, or is on the way to be told -/
def Pm (x y : St) (way : List Fr) (q : Int) : Prop := (y.yours = x.mine ∧ has y q) ∨ ∃ f ∈ way, f.To = y.self ∧ f.Mine = x.mine ∧ f.Yours = y.mine ∧ f.Has = true ∧ f.Seq = q
/-- x has learned y's life, or will -/
def Pl (x y : St) (way : List Fr) : Prop := x.yours = y.mine ∨ ∃ f ∈ way, (f.To = y.self ∧ f.Mine = x.mine) ∨ f.To = x.self
/-- what y has heard is acked, or will be -/
def Pa (x y : St) (way : List Fr) : Prop := (y.yours = x.mine → ∀ w ∈ x.out, y.heard < w.seq) ∨ (∃ f ∈ way, f.To = x.self ∧ f.Yours = x.mine ∧ y.yours = x.mine ∧ y.heard ≤ f.Ack) ∨ (∃ f ∈ way, f.To = y.self ∧ f.Mine = x.mine ∧ f.Yours = y.mine ∧ f.Has = true)
structure J (j : Nat) (x y : St) (way : List Fr) : Prop where
  m : x.yours = y.mine → ∀ w ∈ x.out, Pm x y way w.seq ∨ (j : Int) ≤ w.age
  l : Pl x y way ∨ ∀ w ∈ x.out, (j : Int) ≤ w.age
  a : Pa x y way ∨ ∀ w ∈ x.out, (j : Int) ≤ w.age
structure J0 (j : Nat) (x y : St) (way : List Fr) : Prop where
  m : x.yours = y.mine → ∀ w ∈ x.out, (Pm x y way w.seq ∨ (j : Int) ≤ w.age) ∨ w.sent = false
  l : (Pl x y way ∨ ∀ w ∈ x.out, (j : Int) ≤ w.age) ∨ ∃ w ∈ x.out, w.sent = false
  a : (Pa x y way ∨ ∀ w ∈ x.out, (j : Int) ≤ w.age) ∨ ∃ w ∈ x.out, w.sent = false

section
variable {x y x' y' : St} {way way' : List Fr} {D : List ByteArray} {j : Nat}
theorem Pm.app {F : List Fr} {q : Int} (h : Pm x y way q) : Pm x y (way ++ F) q := h.imp id (fun ⟨f, h1, h2⟩ => ⟨f, List.mem_append_left _ h1, h2⟩)
theorem Pl.app {F : List Fr} (h : Pl x y way) : Pl x y (way ++ F) := h.imp id (fun ⟨f, h1, h2⟩ => ⟨f, List.mem_append_left _ h1, h2⟩)
theorem Pa.app {F : List Fr} (h : Pa x y way) : Pa x y (way ++ F) := h.imp id (fun h => h.imp (fun ⟨f, h1, h2⟩ => ⟨f, List.mem_append_left _ h1, h2⟩) (fun ⟨f, h1, h2⟩ => ⟨f, List.mem_append_left _ h1, h2⟩))
theorem has_like {q : Int} (k : Alike y y') (h : has y q) : has y' q := by
  unfold has
  rw [k.heard, k.ahead]
  exact h
theorem Pm.likeY {q : Int} (k : Alike y y') (h : Pm x y way q) : Pm x y' way q := by
  unfold Pm
  rw [k.yours, k.self, k.mine]
  exact h.imp (fun h => ⟨h.1, has_like k h.2⟩) id
theorem Pl.likeY (k : Alike y y') (h : Pl x y way) : Pl x y' way := by
  unfold Pl
  rw [k.self, k.mine]
  exact h
theorem Pa.likeY (k : Alike y y') (h : Pa x y way) : Pa x y' way := by
  unfold Pa
  rw [k.yours, k.heard, k.self, k.mine]
  exact h
theorem J.start (h : Snd x D) : J 0 x y way := ⟨fun _ w hw => .inr (h.age w hw).1, .inr fun w hw => (h.age w hw).1, .inr fun w hw => (h.age w hw).1⟩
theorem J.emitY {F : List Fr} (h : J j x y way) (k : Alike y y') : J j x y' (way ++ F) :=
  ⟨fun h1 w hw => (h.m (by rw [← k.mine]; exact h1) w hw).imp (fun p => (p.likeY k).app) id, h.l.imp (fun p => (p.likeY k).app) id, h.a.imp (fun p => (p.likeY k).app) id⟩
theorem J.tick (h : J j x y way) : J0 (j + 1) x.tickS y way := by
  have hp : ∀ w ∈ x.out, (j : Int) ≤ w.age → ((j + 1 : Nat) : Int) ≤ w.tick.age ∨ w.tick.sent = false := by
    intro w hw hj
    unfold Wt.tick
    cases hs : w.sent with
    | true => left; simp; omega
    | false => right; simp [hs]
  have hq : (∀ w ∈ x.out, (j : Int) ≤ w.age) → (∀ w ∈ x.tickS.out, ((j + 1 : Nat) : Int) ≤ w.age) ∨ ∃ w ∈ x.tickS.out, w.sent = false := by
    intro hj
    by_cases hu : ∃ w ∈ x.tickS.out, w.sent = false
    · exact .inr hu
    · left
      intro w hw
      obtain ⟨v, hv, rfl⟩ := List.mem_map.1 hw
      rcases hp v hv (hj v hv) with h1 | h1
      · exact h1
      · exact absurd ⟨_, hw, h1⟩ hu
  refine ⟨fun h1 w hw => ?_, ?_, ?_⟩
  · obtain ⟨v, hv, rfl⟩ := List.mem_map.1 hw
    rw [(tick_seq v).1]
    rcases h.m h1 v hv with h2 | h2
    · exact .inl (.inl h2)
    · exact (hp v hv h2).imp .inr id
  · rcases h.l with h2 | h2
    · exact .inl (.inl h2)
    · exact (hq h2).imp .inr id
  · rcases h.a with h2 | h2
    · refine .inl (.inl (h2.imp (fun h3 h4 w hw => ?_) id))
      obtain ⟨v, hv, rfl⟩ := List.mem_map.1 hw
      rw [(tick_seq v).1]
      exact h3 h4 v hv
    · exact (hq h2).imp .inr id
theorem J0.emitX (h : J0 j x y way) (hp : x.peer = y.self) (hyx : x.yours = 0 ∨ x.yours = y.mine) (h0 : x.yours = 0 → y.yours = x.mine → y.heard = 0) (hs : ∀ w ∈ x.out, 1 ≤ w.seq) : J j x.outS y (way ++ x.outF) := by
  have hfr : ∀ w ∈ x.out, w.sent = false → ∃ f ∈ way ++ x.outF, f.To = y.self ∧ f.Mine = x.mine ∧ f.Yours = x.yours ∧ f.Has = true ∧ f.Seq = w.seq :=
    fun w hw h1 => ⟨x.tell w, List.mem_append_right _ (sent_out hw h1), hp, rfl, rfl, rfl, rfl⟩
  have hage : (∀ w ∈ x.out, (j : Int) ≤ w.age) → (¬ ∃ w ∈ x.out, w.sent = false) → ∀ w ∈ x.outS.out, (j : Int) ≤ w.age := by
    intro h1 h2 w hw
    obtain ⟨v, hv, rfl⟩ := List.mem_map.1 hw
    have h3 : v.sent = true := by
      cases hx : v.sent with
      | true => rfl
      | false => exact absurd ⟨v, hv, hx⟩ h2
    unfold Wt.out
    rw [if_pos h3]
    exact h1 v hv
  refine ⟨fun h1 w hw => ?_, ?_, ?_⟩
  · obtain ⟨v, hv, rfl⟩ := List.mem_map.1 hw
    rw [(out_seq v).1]
    cases hx : v.sent with
    | false =>
      obtain ⟨f, q1, q2, q3, q4, q5, q6⟩ := hfr v hv hx
      exact .inl (.inr ⟨f, q1, q2, q3, q4.trans h1, q5, q6⟩)
    | true =>
      rcases h.m h1 v hv with (h2 | h2) | h2
      · exact .inl h2.app
      · right
        unfold Wt.out
        rw [if_pos hx]
        exact h2
      · rw [hx] at h2; cases h2
  · by_cases hu : ∃ w ∈ x.out, w.sent = false
    · obtain ⟨w, hw, hx⟩ := hu
      obtain ⟨f, q1, q2, q3, _⟩ := hfr w hw hx
      exact .inl (.inr ⟨f, q1, .inl ⟨q2, q3⟩⟩)
    · rcases h.l with (h2 | h2) | h2
      · exact .inl (show Pl x y (way ++ x.outF) from h2.app)
      · exact .inr (hage h2 hu)
      · exact absurd h2 hu
  · by_cases hu : ∃ w ∈ x.out, w.sent = false
    · obtain ⟨w, hw, hx⟩ := hu
      left
      rcases hyx with h3 | h3
      · left
        intro h4 w hw
        obtain ⟨v, hv, rfl⟩ := List.mem_map.1 hw
        rw [(out_seq v).1, h0 h3 h4]
        have := hs v hv
        omega
      · obtain ⟨f, q1, q2, q3, q4, q5, q6⟩ := hfr w hw hx
        exact .inr (.inr ⟨f, q1, q2, q3, q4.trans h3, q5⟩)
    · rcases h.a with (h2 | h2) | h2
      · left
        rcases h2 with h2 | h2 | h2
        · left
          intro h4 w hw
          obtain ⟨v, hv, rfl⟩ := List.mem_map.1 hw
          rw [(out_seq v).1]
          exact h2 h4 v hv
        · obtain ⟨f, q1, q2⟩ := h2
          exact .inr (.inl ⟨f, List.mem_append_left _ q1, q2⟩)
        · obtain ⟨f, q1, q2⟩ := h2
          exact .inr (.inr ⟨f, List.mem_append_left _ q1, q2⟩)
      · exact .inr (hage h2 hu)
      · exact absurd h2 hu
/-- x takes a frame of y -/
theorem J.takeX {f : Fr} {rest : List Fr} (h : J j x y (f :: rest)) (hd : Dir x y (f :: rest) D) (ht : f.To = x.self) (hm : f.Mine = y.mine) (k : TakesX x f x') : J0 j x' y rest := by
  obtain ⟨hS, hl, hc⟩ := snd_S1 hd hm
  have hyrs : x'.yours = y.mine := k.yours.trans hm
  have hns : f.To ≠ y.self := by rw [ht, ← hd.xp]; exact hd.xy
  have hmem : ∀ w ∈ x'.out, w ∈ (x.takeS1 f).out := by
    intro w hw
    rw [k.out] at hw
    split at hw
    · exact (List.dropWhile_suffix _).mem hw
    · exact hw
  have hseq : ∀ w ∈ x'.out, 1 ≤ w.seq := by
    intro w hw
    obtain ⟨i, hi, rfl⟩ := List.getElem_of_mem (hmem w hw)
    have := (hS.out i _ (List.getElem?_eq_getElem hi)).1
    omega
  rcases hc with ⟨h0, hun⟩ | ⟨h0, he⟩
  · refine ⟨fun _ w hw => .inr (hun w (hmem w hw)), .inl (.inl (.inl hyrs)), .inl (.inl (.inl fun h1 w hw => ?_))⟩
    rw [k.mine] at h1
    have e : yh x y = y.heard := by unfold yh; rw [if_pos h1]
    have := hd.y0 h0
    have := hseq w hw
    omega
  · rw [he] at hmem
    refine ⟨fun _ w hw => .inl ?_, .inl (.inl (.inl hyrs)), .inl ?_⟩
    · rcases h.m h0 w (hmem w hw) with h1 | h1
      · left
        unfold Pm
        rw [k.mine]
        rcases h1 with h1 | ⟨g, g1, g2⟩
        · exact .inl h1
        · rcases List.mem_cons.1 g1 with rfl | g1
          · exact absurd g2.1 hns
          · exact .inr ⟨g, g1, g2⟩
      · exact .inr h1
    · rcases h.a with h1 | h1
      · left
        unfold Pa
        rw [k.mine, k.self]
        rcases h1 with h1 | ⟨g, g1, g2, g3, g4, g5⟩ | ⟨g, g1, g2⟩
        · exact .inl fun h2 w hw => h1 h2 w (hmem w hw)
        · rcases List.mem_cons.1 g1 with rfl | g1
          · left
            intro _ w hw
            have ho := k.out
            rw [if_pos g3, he] at ho
            have := (hd.snd.acked (x' := x') (by rw [k.last, he]) ho).2.1 w hw
            omega
          · exact .inr (.inl ⟨g, g1, g2, g3, g4, g5⟩)
        · rcases List.mem_cons.1 g1 with rfl | g1
          · exact absurd g2.1 hns
          · exact .inr (.inr ⟨g, g1, g2⟩)
      · exact .inr fun w hw => h1 w (hmem w hw)
/-- y takes a frame of x's present life, and sends -/
theorem J.takeY {f : Fr} {rest : List Fr} (h : J j x y (f :: rest)) (hd : Dir x y (f :: rest) D) (ht : f.To = y.self) (hm : f.Mine = x.mine) : J j x (y.takeF f).2.outS (rest ++ (y.takeF f).2.outF) := by
  have hf : f ∈ f :: rest := List.mem_cons_self ..
  have k := hd.tookY hf ht hm
  generalize (y.takeF f).1 = T at k
  generalize (y.takeF f).2 = y1 at k ⊢
  obtain ⟨hR, hH⟩ := rcv_S1 hd hm
  obtain ⟨k1, k2, k3, _⟩ := takeS1_fix y f
  have hyo : y1.yours = x.mine := by rw [k.yours, takeS1_yours y f (by rw [hm]; exact hd.le), hm]
  have hself : y1.self = y.self := k.self.trans k1
  have hmine : y1.mine = y.mine := k.mine.trans k3
  have hns : f.To ≠ x.self := by rw [ht, ← hd.xp]; exact fun e => hd.xy e.symm
  obtain ⟨hY, hQ⟩ := hd.toY f hf ht hm
  have hS1 : y.yours = x.mine → y.takeS1 f = y := fun h1 => by
    unfold St.takeS1
    rw [if_neg (by omega)]
  -- what y1 sends where something is owed
  have hnew : y1.owed = true → ∃ g ∈ rest ++ y1.outF, g.To = x.self ∧ g.Mine = y1.mine ∧ g.Yours = x.mine ∧ y1.heard ≤ g.Ack := fun ho => by
    obtain ⟨g, hg⟩ := owed_out ho
    have e := emit_out hg
    exact ⟨g, List.mem_append_right _ hg, by rw [e.To, k.peer, k2]; exact hd.yp, e.Mine, e.Yours.trans hyo, by rw [e.Ack]; exact Int.le_refl _⟩
  have hbase : ∀ w ∈ x.out, 1 ≤ w.seq := fun w hw => (hd.seq hw).1
  have key : J j x y1 (rest ++ y1.outF) := by
    refine ⟨fun h1 w hw => ?_, ?_, ?_⟩
    · rw [hmine] at h1
      rcases h.m h1 w hw with h2 | h2
      · left
        unfold Pm
        rw [hself, hmine]
        rcases h2 with ⟨h2, h3⟩ | ⟨g, g1, g2, g3, g4, g5, g6⟩
        · exact .inl ⟨hyo, k.keep _ (by rw [hS1 h2]; exact h3)⟩
        · rcases List.mem_cons.1 g1 with rfl | g1
          · refine .inl ⟨hyo, ?_⟩
            rw [← g6]
            exact k.got (by rw [k3]; exact g4) g5 (by rw [hH]; have := (hQ g5).2.1; omega)
          · exact .inr ⟨g, List.mem_append_left _ g1, g2, g3, g4, g5, g6⟩
      · exact .inr h2
    · rcases h.l with h2 | h2
      · left
        unfold Pl
        rw [hself, hmine]
        rcases h2 with h2 | ⟨g, g1, g2⟩
        · exact .inl h2
        · rcases List.mem_cons.1 g1 with rfl | g1
          · rcases hY with h3 | h3
            · obtain ⟨q, q1, q2, _⟩ := hnew (by rw [k.owed, if_neg]; rintro ⟨h4, _⟩; rw [k3] at h4; have := hd.ym; omega)
              exact .inr ⟨q, q1, .inr q2⟩
            · exact .inl h3.2
          · exact .inr ⟨g, List.mem_append_left _ g1, g2⟩
      · exact .inr h2
    · by_cases hdata : f.Yours = y.mine ∧ f.Has = true
      · left
        obtain ⟨q, q1, q2, q3, q4, q5⟩ := hnew (by rw [k.owed, if_neg]; rintro ⟨_, h4⟩; rw [hdata.2] at h4; cases h4)
        exact .inr (.inl ⟨q, q1, q2, q4, hyo, q5⟩)
      · have hT : T = [] := k.none (by
          by_cases h4 : f.Yours = y.mine
          · exact .inr (by
              cases h5 : f.Has with
              | false => rfl
              | true => exact absurd ⟨h4, h5⟩ hdata)
          · exact .inl (by rw [k3]; exact h4))
        have hh : y1.heard = yh x y := by rw [k.heard, hH, hT]; simp
        rcases h.a with h2 | h2
        · left
          unfold Pa
          rw [hself, hmine]
          rcases h2 with h2 | ⟨g, g1, g2, g3, g4, g5⟩ | ⟨g, g1, g2, g3, g4, g5⟩
          · left
            intro _ w hw
            rw [hh]
            by_cases h3 : y.yours = x.mine
            · have e : yh x y = y.heard := by unfold yh; rw [if_pos h3]
              rw [e]
              exact h2 h3 w hw
            · have e : yh x y = 0 := by unfold yh; rw [if_neg h3]
              rw [e]
              have := hbase w hw
              omega
          · rcases List.mem_cons.1 g1 with rfl | g1
            · exact absurd g2 hns
            · have e : yh x y = y.heard := by unfold yh; rw [if_pos g4]
              exact .inr (.inl ⟨g, List.mem_append_left _ g1, g2, g3, hyo, by rw [hh, e]; exact g5⟩)
          · rcases List.mem_cons.1 g1 with rfl | g1
            · exact absurd ⟨g4, g5⟩ hdata
            · exact .inr (.inr ⟨g, List.mem_append_left _ g1, g2, g3, g4, g5⟩)
        · exact .inr h2
  have := key.emitY (F := []) (alike_out y1)
  rwa [List.append_nil] at this
/-- the calm is long enough: nothing waits any more -/
theorem J.done (h : J j x y []) (hj : 4 ≤ j) (hd : Dir x y [] D) : x.out = [] ∧ yh x y = D.length := by
  have hno : ∀ w ∈ x.out, ¬ (j : Int) ≤ w.age := fun w hw => by have := (hd.snd.age w hw).2; omega
  have hout : x.out = [] := by
    cases hx : x.out with
    | nil => rfl
    | cons w0 r =>
      exfalso
      have hw0 : w0 ∈ x.out := by rw [hx]; exact List.mem_cons_self ..
      have hyx : x.yours = y.mine := by
        rcases h.l with (h1 | ⟨g, g1, _⟩) | h1
        · exact h1
        · simp at g1
        · exact absurd (h1 w0 hw0) (hno w0 hw0)
      have hPm : y.yours = x.mine ∧ has y w0.seq := by
        rcases h.m hyx w0 hw0 with (h1 | ⟨g, g1, _⟩) | h1
        · exact h1
        · simp at g1
        · exact absurd h1 (hno w0 hw0)
      have hlt : y.heard < w0.seq := by
        rcases h.a with (h1 | ⟨g, g1, _⟩ | ⟨g, g1, _⟩) | h1
        · exact h1 hPm.1 w0 hw0
        · simp at g1
        · simp at g1
        · exact absurd (h1 w0 hw0) (hno w0 hw0)
      have hs := (hd.snd.out 0 w0 (by rw [hx]; rfl)).1
      have hb := hd.base
      have e : yh x y = y.heard := by unfold yh; rw [if_pos hPm.1]
      rcases hPm.2 with h1 | ⟨p, p1, p2⟩
      · omega
      · have := (hd.rcv hPm.1).gap p p1
        omega
  refine ⟨hout, ?_⟩
  have hb := hd.base
  rw [hout] at hb
  simp at hb
  unfold yh at hb ⊢
  split at hb
  · rename_i h1
    rw [if_pos h1]
    have := (hd.rcv h1).all.h1
    omega
  · rename_i h1
    rw [if_neg h1]
    omega
end
end Go.Proofs.Ytoegkgebmldhaaa
