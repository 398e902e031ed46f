/- SessLives, plain: one end stays, the other one begins anew: what the law keeps true, step by step. -/
import Derived.Test.YtoegkgebmldhaaaLivesA
import Derived.Test.YtoegkgebmldhaaaOnceF
namespace Go.Proofs.Ytoegkgebmldhaaa
open Go.RowKit

/-- what the staying end's own sending needs -/
structure Wk (x : St) (n : Nat) : Prop where
  room : x.out.length ≤ 64
  age : ∀ w ∈ x.out, 0 ≤ w.age ∧ w.age ≤ 3
  seq : ∀ w ∈ x.out, 0 ≤ w.seq ∧ w.seq ≤ x.last ∧ w.data.size ≤ 3000
  last : 0 ≤ x.last ∧ x.last ≤ 64 + n
theorem Wk.mono {x : St} {n m : Nat} (h : Wk x n) (hm : n ≤ m) : Wk x m := ⟨h.room, h.age, h.seq, by have := h.last; omega⟩
theorem Wk.send {x : St} {n : Nat} (h : Wk x n) (d : ByteArray) (hd : d.size ≤ 3000) (hr : x.out.length < 64) : Wk { x with last := x.last + 1, out := x.out ++ [⟨x.last + 1, d, false, 0⟩] } (n + 1) := by
  refine ⟨by simp; omega, fun w hw => ?_, fun w hw => ?_, by have := h.last; simp; omega⟩
  · rcases List.mem_append.1 hw with hw | hw
    · exact h.age w hw
    · rw [List.mem_singleton.1 hw]; simp
  · rcases List.mem_append.1 hw with hw | hw
    · have := h.seq w hw
      exact ⟨this.1, by simp only; omega, this.2.2⟩
    · rw [List.mem_singleton.1 hw]
      have := h.last
      exact ⟨by simp only; omega, by simp only; omega, hd⟩
theorem Wk.turn {x x' : St} {n : Nat} (h : Wk x n) (g : Wt → Wt) (hl : x'.last = x.last) (ho : x'.out = x.out.map g) (h1 : ∀ w ∈ x.out, (g w).seq = w.seq ∧ (g w).data = w.data) (h2 : ∀ w ∈ x.out, 0 ≤ (g w).age ∧ (g w).age ≤ 3) : Wk x' n := by
  refine ⟨by rw [ho]; simpa using h.room, fun w hw => ?_, fun w hw => ?_, by rw [hl]; exact h.last⟩
  · rw [ho] at hw
    obtain ⟨v, hv, rfl⟩ := List.mem_map.1 hw
    exact h2 v hv
  · rw [ho] at hw
    obtain ⟨v, hv, rfl⟩ := List.mem_map.1 hw
    rw [(h1 v hv).1, (h1 v hv).2, hl]
    exact h.seq v hv
theorem Wk.out_ {x : St} {n : Nat} (h : Wk x n) : Wk x.outS n := h.turn Wt.out rfl rfl (fun w _ => out_seq w) (fun w hw => out_age w (h.age w hw))
theorem Wk.tickout {x : St} {n : Nat} (h : Wk x n) : Wk x.tickS.outS n :=
  h.turn (fun w => w.tick.out) rfl (by simp [St.outS, St.tickS]) (fun w _ => ⟨(out_seq _).1.trans (tick_seq w).1, (out_seq _).2.trans (tick_seq w).2⟩) (fun w hw => tickout_age w (h.age w hw))
theorem Wk.greater {x : St} {n : Nat} (h : Wk x n) (l : Int) : Wk (x.greaterS l) n := by
  have hg : ∀ w ∈ x.g0, w ∈ x.out := by
    intro w hw
    unfold St.g0 at hw
    split at hw
    · simp at hw
    · exact hw
  have hl : x.g0.length ≤ 64 := by
    unfold St.g0
    split
    · simp
    · exact h.room
  have ho : (x.greaterS l).out = renum x.g0 0 := rfl
  have hla : (x.greaterS l).last = x.g0.length := rfl
  refine ⟨by rw [ho, renum_len]; exact hl, fun w hw => ?_, fun w hw => ?_, by rw [hla]; omega⟩
  · rw [ho] at hw
    obtain ⟨v, hv, e, _⟩ := renum_age hw
    rw [e]
    exact h.age v (hg v hv)
  · rw [ho] at hw
    obtain ⟨i, hi, rfl⟩ := List.getElem_of_mem hw
    obtain ⟨v, h1, h2⟩ := renum_get _ _ _ _ (List.getElem?_eq_getElem hi)
    rw [renum_len] at hi
    rw [h2, hla]
    exact ⟨by simp only; omega, by simp only; omega, (h.seq v (hg v (List.mem_of_getElem? h1))).2.2⟩
theorem Wk.takes {x x' : St} {f : Fr} {n : Nat} (h : Wk x n) (k : TakesX x f x') : Wk x' n := by
  have h1 : Wk (x.takeS1 f) n := by
    unfold St.takeS1
    split
    · exact h.greater _
    · exact h
  have hm : ∀ w ∈ x'.out, w ∈ (x.takeS1 f).out := by
    intro w hw
    rw [k.out] at hw
    split at hw
    · exact (List.dropWhile_suffix _).mem hw
    · exact hw
  refine ⟨?_, fun w hw => h1.age w (hm w hw), fun w hw => by rw [k.last]; exact h1.seq w (hm w hw), by rw [k.last]; exact h1.last⟩
  rw [k.out]
  split
  · exact Nat.le_trans (List.dropWhile_suffix _).length_le h1.room
  · exact h1.room

/-- what b's lives have said -/
def sd (S : List (List ByteArray)) (l : Int) : List ByteArray := S.getD l.toNat []

structure Lv (L : Int) (a b : St) (way : List Fr) (S : List (List ByteArray)) (n p : Nat) : Prop where
  a1 : a.self = 1
  a2 : a.peer = 2
  am : a.mine = 1
  b1 : b.self = 2
  bm : b.mine = L
  dir : Dir b a way (sd S L)
  len : (S.length : Int) = L + 1
  ay : 0 ≤ a.yours
  rcv : 1 ≤ a.yours → Rcv a (sd S a.yours).length (told (sd S a.yours))
  wk : Wk a n
  rb : Rcv b 1000 (fun _ => True)
  oa : a.owed = false
  ob : b.owed = false
  toA : ∀ f ∈ way, f.To = 1 → f.From = 2 ∧ 1 ≤ f.Mine ∧ f.Mine ≤ L ∧ f.Yours ≤ 1 ∧ (f.Has = true → f.Yours = 1 → told (sd S f.Mine) (f.Seq, f.Data))
  toB : ∀ f ∈ way, f.To ≠ 1 → f.To = 2 ∧ f.From = 1 ∧ f.Mine = 1 ∧ f.Yours ≤ L
  sz : ∀ f ∈ way, 0 ≤ f.Seq ∧ f.Seq ≤ 1000 ∧ f.Data.size ≤ 3000
  nS : ∀ D ∈ S, D.length ≤ n ∧ ∀ d ∈ D, d.size ≤ 3000
  n1 : n ≤ 120
  pot : phi a b way ≤ p
  L1 : 1 ≤ L
  L2 : L ≤ 20
section
variable {L : Int} {a b : St} {way rest : List Fr} {S : List (List ByteArray)} {n p m q : Nat} {f : Fr}
theorem Lv.mono (h : Lv L a b way S n p) (hn : n ≤ m) (hm : m ≤ 120) (hp : p ≤ q) : Lv L a b way S m q :=
  { h with wk := h.wk.mono hn, nS := fun D hD => ⟨by have := (h.nS D hD).1; omega, (h.nS D hD).2⟩, n1 := hm, pot := Nat.le_trans h.pot hp }
theorem Lv.way_le (h : Lv L a b way S n p) : 4 * way.length ≤ p := by
  have := h.pot
  unfold phi at this
  omega
theorem Lv.ap (h : Lv L a b way S n p) : a.yours ≤ L := by have := h.dir.le; rw [h.bm] at this; exact this
theorem Lv.bp (h : Lv L a b way S n p) : b.peer = 1 := by rw [h.dir.xp, h.a1]
theorem Lv.by_ (h : Lv L a b way S n p) : b.yours = 0 ∨ b.yours = 1 := by have := h.dir.yx; rw [h.am] at this; exact this
theorem sd_mem {l : Int} (h : l.toNat < S.length) : sd S l ∈ S := by
  unfold sd
  rw [List.getD_eq_getElem?_getD, List.getElem?_eq_getElem h]
  exact List.getElem_mem h
theorem Lv.sdn (h : Lv L a b way S n p) (l : Int) : (sd S l).length ≤ n ∧ ∀ d ∈ sd S l, d.size ≤ 3000 := by
  by_cases h1 : l.toNat < S.length
  · exact h.nS _ (sd_mem h1)
  · unfold sd
    rw [List.getD_eq_getElem?_getD, List.getElem?_eq_none (by omega)]
    simp
theorem Lv.new (n : Nat) (hn : n ≤ 120) : Lv 1 (St.new 1 2 1) (St.new 2 1 1) [] [[], []] n 512 := by
  refine ⟨rfl, rfl, rfl, rfl, rfl, (Sys.new 1 (by omega)).yx, rfl, by simp [St.new], fun h => by simp [St.new] at h, ⟨by simp [St.new], by simp [St.new], by simp [St.new], by simp [St.new]; omega⟩, ⟨⟨by simp [St.new], by simp [St.new], by simp [St.new], by simp [St.new]⟩, by simp [St.new]⟩, rfl, rfl, by simp, by simp, by simp, by simp, hn, by decide, by omega, by omega⟩
theorem Lv.sendA (h : Lv L a b way S n p) (d : ByteArray) (hd : d.size ≤ 3000) (hr : a.out.length < 64) (hn : n < 120) :
    Lv L { a with last := a.last + 1, out := a.out ++ [⟨a.last + 1, d, false, 0⟩] } b way S (n + 1) (p + 4) := by
  have e := h.dir
  refine ⟨h.a1, h.a2, h.am, h.b1, h.bm, ⟨e.snd, e.xy, e.xp, e.yp, e.xm, e.ym, e.yx, e.x0, e.le, fun h1 => ⟨⟨(e.rcv h1).all.h0, (e.rcv h1).all.h1, (e.rcv h1).all.apart, (e.rcv h1).all.in_⟩, (e.rcv h1).gap⟩, e.base, e.y0, e.toY, e.toX⟩, h.len, h.ay, fun h1 => ⟨⟨(h.rcv h1).all.h0, (h.rcv h1).all.h1, (h.rcv h1).all.apart, (h.rcv h1).all.in_⟩, (h.rcv h1).gap⟩, h.wk.send d hd hr, h.rb, h.oa, h.ob, h.toA, h.toB, h.sz, fun D hD => ⟨by have := (h.nS D hD).1; omega, (h.nS D hD).2⟩, by omega, Nat.le_trans (phi_send a b way d) (by have := h.pot; omega), h.L1, h.L2⟩
theorem sd_eq {l k : Int} (h : l.toNat = k.toNat) : sd S k = sd S l := by unfold sd; rw [h]
theorem sd_set_self {D : List ByteArray} {l : Int} (h : l.toNat < S.length) : sd (S.set l.toNat D) l = D := by
  unfold sd
  rw [List.getD_eq_getElem?_getD, List.getElem?_set_self h]
  rfl
theorem sd_set_ne {D : List ByteArray} {l k : Int} (h : l.toNat ≠ k.toNat) : sd (S.set l.toNat D) k = sd S k := by
  unfold sd
  rw [List.getD_eq_getElem?_getD, List.getD_eq_getElem?_getD, List.getElem?_set_ne h]
theorem Lv.sendB (h : Lv L a b way S n p) (d : ByteArray) (hd : d.size ≤ 3000) (hr : b.out.length < 64) (hn : n < 120) :
    Lv L a { b with last := b.last + 1, out := b.out ++ [⟨b.last + 1, d, false, 0⟩] } way (S.set L.toNat (sd S L ++ [d])) (n + 1) (p + 4) := by
  have hL : L.toNat < S.length := by have := h.len; have := h.L1; omega
  have hself := sd_set_self (S := S) (D := sd S L ++ [d]) hL
  have key : ∀ (l : Int) (x : Int × ByteArray), told (sd S l) x → told (sd (S.set L.toNat (sd S L ++ [d])) l) x := by
    intro l x hx
    by_cases hl : L.toNat = l.toNat
    · have e1 : sd S l = sd S L := sd_eq hl
      have e2 : sd (S.set L.toNat (sd S L ++ [d])) l = sd S L ++ [d] := (sd_eq hl).trans hself
      rw [e2]
      rw [e1] at hx
      exact told_app hx d
    · rw [sd_set_ne hl]
      exact hx
  have klen : ∀ l : Int, (sd S l).length ≤ (sd (S.set L.toNat (sd S L ++ [d])) l).length := by
    intro l
    by_cases hl : L.toNat = l.toNat
    · have e1 : sd S l = sd S L := sd_eq hl
      have e2 : sd (S.set L.toNat (sd S L ++ [d])) l = sd S L ++ [d] := (sd_eq hl).trans hself
      rw [e2, e1]
      simp
    · rw [sd_set_ne hl]
      exact Nat.le_refl _
  refine ⟨h.a1, h.a2, h.am, h.b1, h.bm, by rw [hself]; exact h.dir.send d hr, by rw [List.length_set]; exact h.len, h.ay, fun h1 => (h.rcv h1).mono (by have := klen a.yours; omega) (key _), h.wk.mono (by omega), ⟨⟨h.rb.all.h0, h.rb.all.h1, h.rb.all.apart, h.rb.all.in_⟩, h.rb.gap⟩, h.oa, h.ob, fun f hf ht => ?_, h.toB, h.sz, fun D hD => ?_, by omega, ?_, h.L1, h.L2⟩
  · obtain ⟨x1, x2, x3, x4, x5⟩ := h.toA f hf ht
    exact ⟨x1, x2, x3, x4, fun y1 y2 => key _ _ (x5 y1 y2)⟩
  · rcases List.mem_or_eq_of_mem_set hD with hD | rfl
    · exact ⟨by have := (h.nS D hD).1; omega, (h.nS D hD).2⟩
    · obtain ⟨x1, x2⟩ := h.sdn L
      refine ⟨by simp; omega, fun e he => ?_⟩
      rcases List.mem_append.1 he with he | he
      · exact x2 e he
      · rw [List.mem_singleton.1 he]; exact hd
  · have := phi_send b a way d
    rw [phi_swap]
    rw [phi_swap b a] at this
    have := h.pot
    omega
theorem Lv.anew (h : Lv L a b way S n p) (hL : L < 20) : Lv (L + 1) a (St.new 2 1 (L + 1)) way (S ++ [[]]) n (p + 256) := by
  have hlen := h.len
  have h1 := h.L1
  have hold : ∀ l : Int, l ≤ L → sd (S ++ [[]]) l = sd S l := by
    intro l hl
    unfold sd
    rw [List.getD_eq_getElem?_getD, List.getD_eq_getElem?_getD, List.getElem?_append_left (by omega)]
  have hnew : sd (S ++ [[]]) (L + 1) = [] := by
    unfold sd
    rw [List.getD_eq_getElem?_getD, List.getElem?_append_right (by omega), show (L + 1).toNat - S.length = 0 by omega]
    rfl
  have hap := h.ap
  have hyh : yh (St.new 2 1 (L + 1)) a = 0 := by unfold yh; rw [if_neg (by show ¬ a.yours = L + 1; omega)]
  refine ⟨h.a1, h.a2, h.am, rfl, rfl, ?_, by simp; omega, h.ay, fun h2 => by rw [hold _ hap]; exact h.rcv h2, h.wk, ⟨⟨by simp [St.new], by simp [St.new], by simp [St.new], by simp [St.new]⟩, by simp [St.new]⟩, h.oa, rfl, fun f hf ht => ?_, fun f hf ht => ?_, h.sz, fun D hD => ?_, h.n1, ?_, by omega, by omega⟩
  · rw [hnew]
    refine ⟨Snd.new _ _ _, (show (2 : Int) ≠ 1 by decide), h.a1.symm, h.a2, by show 1 ≤ L + 1; omega, by rw [h.am]; exact Int.le_refl _, .inl rfl, fun _ => rfl, by show a.yours ≤ L + 1; omega, fun h2 => ?_, by rw [hyh]; simp, fun _ => hyh, fun f hf ht hm => ?_, fun f hf ht hm => ?_⟩
    · exfalso
      have : a.yours = L + 1 := h2
      omega
    · exfalso
      have := (h.toA f hf (ht.trans h.a1)).2.2.1
      have : f.Mine = L + 1 := hm
      omega
    · exfalso
      have ht2 : f.To = 2 := ht
      have := (h.toB f hf (by omega)).2.2.2
      have : f.Yours = L + 1 := hm
      omega
  · obtain ⟨x1, x2, x3, x4, x5⟩ := h.toA f hf ht
    exact ⟨x1, x2, by omega, x4, by rw [hold _ x3]; exact x5⟩
  · obtain ⟨x1, x2, x3, x4⟩ := h.toB f hf ht
    exact ⟨x1, x2, x3, by omega⟩
  · rcases List.mem_append.1 hD with hD | hD
    · exact h.nS D hD
    · rw [List.mem_singleton.1 hD]; simp
  · have := h.pot
    unfold phi at this ⊢
    have e := pot_new 2 1 (L + 1)
    rw [e]
    omega
theorem Lv.sub (h : Lv L a b way S n p) (hs : ∀ g ∈ rest, g ∈ way) (hl : rest.length ≤ way.length) : Lv L a b rest S n p :=
  { h with dir := h.dir.sub hs, toA := fun f hf => h.toA f (hs f hf), toB := fun f hf => h.toB f (hs f hf), sz := fun f hf => h.sz f (hs f hf), pot := by have := h.pot; unfold phi at this ⊢; omega }
theorem Lv.dup (h : Lv L a b way S n p) (hf : f ∈ way) : Lv L a b (way ++ [f]) S n (p + 4) := by
  have hs : ∀ g ∈ way ++ [f], g ∈ way := fun g hg => by
    rcases List.mem_append.1 hg with hg | hg
    · exact hg
    · rw [List.mem_singleton.1 hg]; exact hf
  exact { h with dir := h.dir.sub hs, toA := fun f hf => h.toA f (hs f hf), toB := fun f hf => h.toB f (hs f hf), sz := fun f hf => h.sz f (hs f hf), pot := by have := h.pot; unfold phi at this ⊢; simp; omega }
/-- a sends -/
theorem Lv.emitA {a' : St} {F : List Fr} (h : Lv L a b way S n p) (k : Alike a a') (hw : Wk a' n) (ho : a'.owed = false) (hF : ∀ f ∈ F, Emit a f ∨ (∃ w ∈ a.out, f.Seq = w.seq ∧ f.Data = w.data) ∧ f.From = a.self ∧ f.To = a.peer ∧ f.Mine = a.mine ∧ f.Yours = a.yours ∧ f.Ack = a.heard) (hp : phi a' b (way ++ F) ≤ q) : Lv L a' b (way ++ F) S n q := by
  have hE : ∀ f ∈ F, f.From = a.self ∧ f.To = a.peer ∧ f.Mine = a.mine ∧ f.Yours = a.yours ∧ f.Ack = a.heard ∧ 0 ≤ f.Seq ∧ f.Seq ≤ 1000 ∧ f.Data.size ≤ 3000 := by
    intro f hf
    have hw1 : ∀ w ∈ a.out, f.Seq = w.seq → f.Data = w.data → 0 ≤ f.Seq ∧ f.Seq ≤ 1000 ∧ f.Data.size ≤ 3000 := by
      intro w hw e1 e2
      have h1 := h.wk.seq w hw
      have h2 := h.wk.last
      have h3 := h.n1
      rw [e1, e2]
      exact ⟨h1.1, by omega, h1.2.2⟩
    rcases hF f hf with e | ⟨⟨w, hw, e1, e2⟩, e3, e4, e5, e6, e7⟩
    · refine ⟨e.From, e.To, e.Mine, e.Yours, e.Ack, ?_⟩
      cases hh : f.Has with
      | false =>
        obtain ⟨q1, q2⟩ := e.no hh
        rw [q1, q2]
        exact ⟨by omega, by omega, by decide⟩
      | true =>
        obtain ⟨w, hw, _, e1, e2⟩ := e.yes hh
        exact hw1 w hw e1 e2
    · exact ⟨e3, e4, e5, e6, e7, hw1 w hw e1 e2⟩
  refine ⟨by rw [k.self]; exact h.a1, by rw [k.peer]; exact h.a2, by rw [k.mine]; exact h.am, h.b1, h.bm, h.dir.emitY k (fun f hf => ?_), h.len, by rw [k.yours]; exact h.ay, fun h1 => ?_, hw, h.rb, ho, h.ob, fun f hf ht => ?_, fun f hf ht => ?_, fun f hf => ?_, h.nS, h.n1, hp, h.L1, h.L2⟩
  · obtain ⟨_, e2, _, e4, e5, _⟩ := hE f hf
    exact ⟨e2, e4, e5⟩
  · rw [k.yours] at h1 ⊢
    exact (h.rcv h1).like k
  · rcases List.mem_append.1 hf with hf | hf
    · exact h.toA f hf ht
    · exact absurd ((hE f hf).2.1.trans h.a2) (by rw [ht]; decide)
  · rcases List.mem_append.1 hf with hf | hf
    · exact h.toB f hf ht
    · obtain ⟨e1, e2, e3, e4, _⟩ := hE f hf
      exact ⟨e2.trans h.a2, e1.trans h.a1, e3.trans h.am, by rw [e4]; exact h.ap⟩
  · rcases List.mem_append.1 hf with hf | hf
    · exact h.sz f hf
    · exact (hE f hf).2.2.2.2.2
/-- b sends -/
theorem Lv.emitB {b' : St} {F : List Fr} (h : Lv L a b way S n p) (k : Alike b b') (hs : Snd b' (sd S L)) (hl : b'.out.length = b.out.length) (ho : b'.owed = false)
    (hF : ∀ f ∈ F, f.From = b.self ∧ f.To = b.peer ∧ f.Mine = b.mine ∧ f.Yours = b.yours ∧ (f.Has = true → ∃ w ∈ b.out, f.Seq = w.seq ∧ f.Data = w.data) ∧ (f.Has = false → f.Seq = 0 ∧ f.Data = ⟨#[]⟩)) (hp : phi a b' (way ++ F) ≤ q) : Lv L a b' (way ++ F) S n q := by
  have hby := h.by_
  have hsd := h.sdn L
  have hn1 := h.n1
  refine ⟨h.a1, h.a2, h.am, by rw [k.self]; exact h.b1, by rw [k.mine]; exact h.bm, h.dir.emitX k hs hl (fun f hf => ?_), h.len, h.ay, h.rcv, h.wk, h.rb.like k, h.oa, ho, fun f hf ht => ?_, fun f hf ht => ?_, fun f hf => ?_, h.nS, h.n1, hp, h.L1, h.L2⟩
  · obtain ⟨_, e2, e3, e4, e5, _⟩ := hF f hf
    exact ⟨e2, e3, e4, e5⟩
  · rcases List.mem_append.1 hf with hf | hf
    · exact h.toA f hf ht
    · obtain ⟨e1, e2, e3, e4, e5, _⟩ := hF f hf
      rw [h.bm] at e3
      refine ⟨e1.trans h.b1, by rw [e3]; exact h.L1, by rw [e3]; exact Int.le_refl _, by rw [e4]; omega, fun h1 _ => ?_⟩
      obtain ⟨w, hw, q1, q2⟩ := e5 h1
      rw [q1, q2, e3]
      exact (h.dir.seq hw).2.2.2
  · rcases List.mem_append.1 hf with hf | hf
    · exact h.toB f hf ht
    · exact absurd ((hF f hf).2.1.trans h.bp) ht
  · rcases List.mem_append.1 hf with hf | hf
    · exact h.sz f hf
    · obtain ⟨_, _, _, _, e5, e6⟩ := hF f hf
      cases hh : f.Has with
      | false =>
        obtain ⟨q1, q2⟩ := e6 hh
        rw [q1, q2]
        exact ⟨by omega, by omega, by decide⟩
      | true =>
        obtain ⟨w, hw, q1, q2⟩ := e5 hh
        obtain ⟨p1, p2, _, p4⟩ := h.dir.seq hw
        rw [q1, q2]
        exact ⟨by omega, by omega, hsd.2 _ (told_mem p4)⟩
theorem Lv.tickA (h : Lv L a b way S n p) : Lv L a.tickS.outS b (way ++ a.tickS.outF) S n (p + 64) := by
  refine h.emitA (alike_tickout a) h.wk.tickout rfl (fun f hf => ?_) ?_
  · obtain ⟨e1, e2, e3, e4, e5, e6, e7⟩ := emit_tick hf
    cases hh : f.Has with
    | true => exact .inr ⟨e6 hh, e1, e2, e3, e4, e5⟩
    | false => exact .inl ⟨e1, e2, e3, e4, e5, (fun h1 => by rw [hh] at h1; cases h1), e7⟩
  · have h1 := pot_tick a h.wk.room h.wk.age
    have h2 := pot_out a.tickS
    have h3 : a.tickS.owed = false := h.oa
    rw [if_neg (by rw [h3]; decide)] at h2
    have := h.pot
    unfold phi at this ⊢
    simp only [List.length_append]
    omega
theorem Lv.tickB (h : Lv L a b way S n p) : Lv L a b.tickS.outS (way ++ b.tickS.outF) S n (p + 64) := by
  refine h.emitB (alike_tickout b) (snd_tickout h.dir.snd) (by simp [St.outS, St.tickS]) rfl (fun f hf => ?_) ?_
  · obtain ⟨e1, e2, e3, e4, e5, e6, e7⟩ := emit_tick hf
    exact ⟨e1, e2, e3, e4, e6, e7⟩
  · have h1 := pot_tick b h.dir.snd.room h.dir.snd.age
    have h2 := pot_out b.tickS
    have h3 : b.tickS.owed = false := h.ob
    rw [if_neg (by rw [h3]; decide)] at h2
    have := h.pot
    unfold phi at this ⊢
    simp only [List.length_append]
    omega
end
end Go.Proofs.Ytoegkgebmldhaaa
