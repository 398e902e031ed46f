/- SessLives, plain: what a Take does, of whatever life the frame is; the calm; the end. -/
import Derived.Test.YtoegkgebmldhaaaLivesB
namespace Go.Proofs.Ytoegkgebmldhaaa
open Go.RowKit

section
variable {L : Int} {a b : St} {way rest : List Fr} {S : List (List ByteArray)} {n p m q j : Nat} {f : Fr} {D : List ByteArray}
theorem takeS1_self (x : St) (f : Fr) (h : ¬ x.yours < f.Mine) : x.takeS1 f = x := by unfold St.takeS1; rw [if_neg h]
theorem takeS1_new (x : St) (f : Fr) (h : x.yours < f.Mine) : x.takeS1 f = x.greaterS f.Mine := by unfold St.takeS1; rw [if_pos h]
theorem rcv_new (x : St) (l N : Int) (hN : 0 ≤ N) (R : Int × ByteArray → Prop) : Rcv (x.greaterS l) N R :=
  ⟨⟨by simp [St.greaterS], by simpa [St.greaterS] using hN, by simp [St.greaterS], by simp [St.greaterS]⟩, by simp [St.greaterS]⟩
theorem Lv.frA (h : Lv L a b way S n p) (hf : f ∈ way) (ht : f.To = 1) : 1 ≤ f.Mine ∧ f.Mine ≤ L := by
  obtain ⟨_, x2, x3, _⟩ := h.toA f hf ht
  exact ⟨x2, x3⟩
theorem Lv.rcvA (h : Lv L a b way S n p) (hf : f ∈ way) (ht : f.To = 1) (hy : a.yours ≤ f.Mine) : Rcv (a.takeS1 f) (sd S f.Mine).length (told (sd S f.Mine)) := by
  obtain ⟨h1, _⟩ := h.frA hf ht
  by_cases hlt : a.yours < f.Mine
  · rw [takeS1_new _ _ hlt]
    exact rcv_new _ _ _ (by omega) _
  · rw [takeS1_self _ _ hlt]
    have e : a.yours = f.Mine := by omega
    rw [← e]
    exact h.rcv (by omega)
theorem Lv.okA (h : Lv L a b way S n p) (hf : f ∈ way) (ht : f.To = 1) : a.yours ≤ f.Mine → OkL a f := fun hy => by
  have hr := h.rcvA hf ht hy
  obtain ⟨x1, x2, x3, x4, _⟩ := h.toA f hf ht
  obtain ⟨z1, z2, z3⟩ := h.sz f hf
  have hl := hr.len
  have hn := (h.sdn f.Mine).1
  have h1 := h.n1
  exact ⟨x1.trans h.a2.symm, ht.trans h.a1.symm, x2, by rw [h.am]; exact x4, ⟨z1, by omega⟩, ⟨hr.all.h0, by have := hr.all.h1; omega⟩, by omega, z3⟩
/-- the frame fits a's session, refused or not -/
theorem Lv.okA' (h : Lv L a b way S n p) (hf : f ∈ way) (ht : f.To = 1) : OkL a f := by
  by_cases hy : a.yours ≤ f.Mine
  · exact h.okA hf ht hy
  · obtain ⟨x1, x2, x3, x4, _⟩ := h.toA f hf ht
    obtain ⟨z1, z2, z3⟩ := h.sz f hf
    have h1 := h.n1
    have hr := h.rcv (by omega)
    have hl := hr.len
    have hn := (h.sdn a.yours).1
    refine ⟨x1.trans h.a2.symm, ht.trans h.a1.symm, x2, by rw [h.am]; exact x4, ⟨z1, by omega⟩, ?_, ?_, z3⟩
    · rw [takeS1_self _ _ (by omega)]
      exact ⟨hr.all.h0, by have := hr.all.h1; omega⟩
    · rw [takeS1_self _ _ (by omega)]
      omega
theorem Lv.tookA (h : Lv L a b way S n p) (hf : f ∈ way) (ht : f.To = 1) (hy : a.yours ≤ f.Mine) : Took (a.takeS1 f) f (sd S f.Mine).length (told (sd S f.Mine)) (a.takeF f).1 (a.takeF f).2 :=
  takeF_took a f _ _ (h.rcvA hf ht hy) (fun h1 h2 => by
    have hd := (h.toA f hf ht).2.2.2.2 h1 (by rw [h2, (takeS1_fix a f).2.2.1, h.am])
    refine ⟨?_, hd⟩
    have := (List.getElem?_eq_some_iff.1 hd.2).1
    have := hd.1
    simp only at *
    omega)
/-- behind a's Take of any frame to it (before its Out): all but that something may be owed -/
structure Mid (L : Int) (a b : St) (f : Fr) (rest : List Fr) (S : List (List ByteArray)) (n : Nat) (T : List ByteArray) (a1 : St) : Prop where
  self : a1.self = a.self
  peer : a1.peer = a.peer
  mine : a1.mine = a.mine
  dir : Dir b a1 rest (sd S L)
  yours : a1.yours = max a.yours f.Mine
  rcv : Rcv a1 (sd S a1.yours).length (told (sd S a1.yours))
  wk : Wk a1 n
  heard : a1.heard = (if a.yours < f.Mine then 0 else a.heard) + T.length
  told : ∀ (i : Nat) d, T[i]? = some d → f.Mine = a1.yours ∧ told (sd S a1.yours) ((if a.yours < f.Mine then 0 else a.heard) + i + 1, d)
  pot : pot a1 ≤ pot a
  mu : mu a1 ≤ mu a
  owed : a1.owed = true → a.yours ≤ f.Mine ∧ ¬ (f.Yours = 1 ∧ f.Has = false)
theorem Lv.midA (h : Lv L a b way S n p) (hf : f ∈ way) (ht : f.To = 1) (hs : ∀ g ∈ rest, g ∈ way) : Mid L a b f rest S n (a.takeL f).1 (a.takeL f).2 := by
  obtain ⟨hm1, hmL⟩ := h.frA hf ht
  by_cases hy : f.Mine < a.yours
  · have e : a.takeL f = ([], a) := by unfold St.takeL; rw [if_pos hy]
    rw [e]
    refine ⟨rfl, rfl, rfl, h.dir.sub hs, by show a.yours = _; omega, h.rcv (by omega), h.wk, ?_, by simp, Nat.le_refl _, Nat.le_refl _, fun h1 => ?_⟩
    · rw [if_neg (by omega)]; simp
    · rw [show ([], a).2.owed = a.owed from rfl, h.oa] at h1
      cases h1
  · have e : a.takeL f = a.takeF f := by unfold St.takeL; rw [if_neg hy]
    have k := h.tookA hf ht (by omega)
    have hR := h.rcvA hf ht (by omega)
    have ht' : f.To = a.self := ht.trans h.a1.symm
    rw [e]
    obtain ⟨k1, k2, k3, k4⟩ := takeS1_fix a f
    have hyo : (a.takeF f).2.yours = f.Mine := by rw [k.yours, takeS1_yours a f (by omega)]
    have kx := k.toX (by omega)
    have hh : (a.takeS1 f).heard = if a.yours < f.Mine then 0 else a.heard := by
      split
      · rename_i h1; rw [takeS1_new _ _ h1]; rfl
      · rename_i h1; rw [takeS1_self _ _ h1]
    refine ⟨kx.self, kx.peer, kx.mine, ?_, by rw [hyo]; omega, by rw [hyo]; exact k.rcv, h.wk.takes kx, by rw [k.heard, hh], fun i d hd => ?_, ?_, ?_, fun h1 => ⟨by omega, fun h2 => ?_⟩⟩
    · by_cases hL : f.Mine = L
      · have hm : f.Mine = b.mine := hL.trans h.bm.symm
        have k' := k
        rw [hL] at k'
        exact (h.dir.takeY hf ht' hm k').1.sub hs
      · exact (h.dir.takeOld (by omega) (by rw [h.bm]; omega) kx.self kx.peer kx.mine hyo).sub hs
    · rw [hyo, ← hh]
      exact ⟨rfl, k.told i d hd⟩
    · exact pot_take kx hm1 h.ay (by omega) h.wk.room h.wk.age
    · exact mu_take kx hm1 h.ay (by omega) h.wk.room
    · rw [k.owed, k3, h.am, if_pos h2, k4, h.oa] at h1
      cases h1
theorem Mid.toA (h : Lv L a b way S n p) {T : List ByteArray} {a1 : St} (k : Mid L a b f rest S n T a1) (hs : ∀ g ∈ rest, g ∈ way) (hl : rest.length + 1 = way.length) :
    Lv L a1.outS b (rest ++ a1.outF) S n p := by
  have hp := h.pot
  have h2 := pot_out a1
  have kp := k.pot
  have hE : ∀ f ∈ a1.outF, Emit a1 f := fun f hf => emit_out hf
  have hsz : ∀ f ∈ a1.outF, 0 ≤ f.Seq ∧ f.Seq ≤ 1000 ∧ f.Data.size ≤ 3000 := fun f hf => by
    have e := hE f hf
    cases hh : f.Has with
    | false =>
      obtain ⟨q1, q2⟩ := e.no hh
      rw [q1, q2]
      exact ⟨by omega, by omega, by decide⟩
    | true =>
      obtain ⟨w, hw, _, e1, e2⟩ := e.yes hh
      have h1 := k.wk.seq w hw
      have h2 := k.wk.last
      have h3 := h.n1
      rw [e1, e2]
      exact ⟨h1.1, by omega, h1.2.2⟩
  have hap : a1.yours ≤ L := by have := k.dir.le; rw [h.bm] at this; exact this
  refine ⟨k.self.trans h.a1, k.peer.trans h.a2, k.mine.trans h.am, h.b1, h.bm, k.dir.emitY (alike_out a1) (fun f hf => ⟨(hE f hf).To, (hE f hf).Yours, (hE f hf).Ack⟩), h.len, by show 0 ≤ a1.yours; rw [k.yours]; have := h.ay; omega, fun _ => k.rcv.like (alike_out a1), k.wk.out_, h.rb, rfl, h.ob, fun g hg ht => ?_, fun g hg ht => ?_, fun g hg => ?_, h.nS, h.n1, ?_, h.L1, h.L2⟩
  · rcases List.mem_append.1 hg with hg | hg
    · exact h.toA g (hs g hg) ht
    · exact absurd ((hE g hg).To.trans (k.peer.trans h.a2)) (by rw [ht]; decide)
  · rcases List.mem_append.1 hg with hg | hg
    · exact h.toB g (hs g hg) ht
    · have e := hE g hg
      exact ⟨e.To.trans (k.peer.trans h.a2), e.From.trans (k.self.trans h.a1), e.Mine.trans (k.mine.trans h.am), by rw [e.Yours]; exact hap⟩
  · rcases List.mem_append.1 hg with hg | hg
    · exact h.sz g (hs g hg)
    · exact hsz g hg
  · unfold phi at hp ⊢
    simp only [List.length_append]
    split at h2 <;> omega
theorem Lv.takeA (h : Lv L a b way S n p) (hf : f ∈ way) (ht : f.To = 1) (hs : ∀ g ∈ rest, g ∈ way) (hl : rest.length + 1 = way.length) :
    Lv L (a.takeL f).2.outS b (rest ++ (a.takeL f).2.outF) S n p := (h.midA hf ht hs).toA h hs hl
/-- b takes a frame of a's -/
theorem Lv.okB (h : Lv L a b way S n p) (hf : f ∈ way) (ht : f.To ≠ 1) : OkL b f := by
  obtain ⟨x1, x2, x3, x4⟩ := h.toB f hf ht
  obtain ⟨z1, z2, z3⟩ := h.sz f hf
  have hb := h.by_
  have hr : Rcv (b.takeS1 f) 1000 (fun _ => True) := by
    by_cases hlt : b.yours < f.Mine
    · rw [takeS1_new _ _ hlt]; exact rcv_new _ _ _ (by omega) _
    · rw [takeS1_self _ _ hlt]; exact h.rb
  have hl := hr.len (N := 1000)
  exact ⟨x2.trans h.bp.symm, x1.trans h.b1.symm, by omega, by rw [h.bm]; exact x4, ⟨z1, by omega⟩, ⟨hr.all.h0, by have := hr.all.h1; omega⟩, by omega, z3⟩
theorem Lv.takeLB (h : Lv L a b way S n p) (hf : f ∈ way) (ht : f.To ≠ 1) : b.takeL f = b.takeF f := by
  obtain ⟨x1, x2, x3, x4⟩ := h.toB f hf ht
  have hb := h.by_
  unfold St.takeL
  rw [if_neg (by omega)]
theorem Lv.tookB (h : Lv L a b way S n p) (hf : f ∈ way) (ht : f.To ≠ 1) : Took (b.takeS1 f) f 1000 (fun _ => True) (b.takeF f).1 (b.takeF f).2 := by
  obtain ⟨x1, x2, x3, x4⟩ := h.toB f hf ht
  obtain ⟨z1, z2, z3⟩ := h.sz f hf
  have hb := h.by_
  have hr : Rcv (b.takeS1 f) 1000 (fun _ => True) := by
    by_cases hlt : b.yours < f.Mine
    · rw [takeS1_new _ _ hlt]; exact rcv_new _ _ _ (by omega) _
    · rw [takeS1_self _ _ hlt]; exact h.rb
  exact takeF_took b f 1000 _ hr (fun _ _ => ⟨by omega, trivial⟩)
theorem Lv.kxB (h : Lv L a b way S n p) (hf : f ∈ way) (ht : f.To ≠ 1) : TakesX b f (b.takeF f).2 ∧ f.Mine = a.mine ∧ f.To = b.self := by
  obtain ⟨x1, x2, x3, x4⟩ := h.toB f hf ht
  have hb := h.by_
  exact ⟨(h.tookB hf ht).toX (by omega), by rw [x3, h.am], x1.trans h.b1.symm⟩
theorem Lv.takeB (h : Lv L a b way S n p) (hf : f ∈ way) (ht : f.To ≠ 1) (hs : ∀ g ∈ rest, g ∈ way) (hl : rest.length + 1 = way.length) :
    Lv L a (b.takeF f).2.outS (rest ++ (b.takeF f).2.outF) S n p := by
  obtain ⟨kx, hm, hto⟩ := h.kxB hf ht
  have kt := h.tookB hf ht
  have hb := h.by_
  have A := (h.dir.takeX hf hto hm kx).sub hs
  have hsd := h.sdn L
  have hn1 := h.n1
  have hfm : f.Mine = 1 := (h.toB f hf ht).2.2.1
  generalize (b.takeF f).1 = T at kt
  generalize (b.takeF f).2 = b1 at kt kx A ⊢
  have hp1 := pot_take kx (by omega) (by omega) (by omega) h.dir.snd.room h.dir.snd.age
  have hp2 := pot_out b1
  have hp := h.pot
  have hE : ∀ f ∈ b1.outF, Emit b1 f := fun f hf => emit_out hf
  have hpe : b1.peer = 1 := kx.peer.trans h.bp
  have hmi : b1.mine = L := kx.mine.trans h.bm
  have hyo : b1.yours = 1 := kx.yours.trans hfm
  refine ⟨h.a1, h.a2, h.am, kx.self.trans h.b1, hmi, A.emitX (alike_out b1) (snd_out A.snd) (by simp [St.outS]) (fun g hg => ⟨(hE g hg).To, (hE g hg).Mine, (hE g hg).Yours, fun h1 => by obtain ⟨w, hw, _, q⟩ := (hE g hg).yes h1; exact ⟨w, hw, q⟩⟩), h.len, h.ay, h.rcv, h.wk, kt.rcv.like (alike_out b1), h.oa, rfl, fun g hg ht => ?_, fun g hg ht => ?_, fun g hg => ?_, h.nS, h.n1, ?_, h.L1, h.L2⟩
  · rcases List.mem_append.1 hg with hg | hg
    · exact h.toA g (hs g hg) ht
    · have e := hE g hg
      refine ⟨e.From.trans (kx.self.trans h.b1), by rw [e.Mine, hmi]; exact h.L1, by rw [e.Mine, hmi]; exact Int.le_refl _, by rw [e.Yours, hyo]; exact Int.le_refl _, fun h1 _ => ?_⟩
      obtain ⟨w, hw, _, q1, q2⟩ := e.yes h1
      rw [q1, q2, e.Mine, hmi]
      exact (A.seq hw).2.2.2
  · rcases List.mem_append.1 hg with hg | hg
    · exact h.toB g (hs g hg) ht
    · exact absurd ((hE g hg).To.trans hpe) ht
  · rcases List.mem_append.1 hg with hg | hg
    · exact h.sz g (hs g hg)
    · have e := hE g hg
      cases hh : g.Has with
      | false =>
        obtain ⟨q1, q2⟩ := e.no hh
        rw [q1, q2]
        exact ⟨by omega, by omega, by decide⟩
      | true =>
        obtain ⟨w, hw, _, q1, q2⟩ := e.yes hh
        obtain ⟨p1, p2, _, p4⟩ := A.seq hw
        rw [q1, q2]
        exact ⟨by omega, by omega, hsd.2 _ (told_mem p4)⟩
  · unfold phi at hp ⊢
    simp only [List.length_append]
    split at hp2 <;> omega
/-- the calm's measure -/
def wt2 (L : Int) (f : Fr) : Nat := if f.To = 1 then (if f.Mine = L then (if f.Has = false ∧ f.Yours = 1 then 1 else 2) else 3) else (if f.Has = false ∧ f.Yours = L then 1 else 2)
def left2 (L : Int) (a b : St) (way : List Fr) : Nat := wts (wt2 L) way + mu a + mu b
theorem Mid.left (h : Lv L a b (f :: rest) S n p) {T : List ByteArray} {a1 : St} (k : Mid L a b f rest S n T a1) (ht : f.To = 1) : left2 L a1.outS b (rest ++ a1.outF) < left2 L a b (f :: rest) := by
  have hpe : a1.peer = 2 := k.peer.trans h.a2
  have h2 := mu_out a1 (wt2 L) (fun w _ => by
    unfold wt2
    rw [if_neg (by show ¬ a1.peer = 1; omega)]
    split <;> omega)
  have h1 := k.mu
  have hf := h.frA (List.mem_cons_self ..) ht
  unfold left2
  simp only [wts_app, wts]
  have hw : wt2 L f = if f.Mine = L then (if f.Has = false ∧ f.Yours = 1 then 1 else 2) else 3 := by unfold wt2; rw [if_pos ht]
  cases ho : a1.owed with
  | false =>
    rw [if_neg (by rw [ho]; decide)] at h2
    have : 1 ≤ wt2 L f := by rw [hw]; split <;> (try split) <;> omega
    omega
  | true =>
    rw [if_pos ho] at h2
    obtain ⟨o1, o2⟩ := k.owed ho
    have hy : a1.yours = f.Mine := by rw [k.yours]; omega
    have hfr : wt2 L a1.frame = if f.Mine = L then 1 else 2 := by
      unfold wt2
      rw [if_neg (by show ¬ a1.peer = 1; omega)]
      have e : (a1.frame.Has = false ∧ a1.frame.Yours = L) ↔ f.Mine = L := ⟨fun h => by rw [← hy]; exact h.2, fun h => ⟨rfl, by show a1.yours = L; omega⟩⟩
      simp only [e]
    have : wt2 L a1.frame < wt2 L f := by
      rw [hfr, hw]
      by_cases hL : f.Mine = L
      · rw [if_pos hL, if_pos hL, if_neg (fun h => o2 ⟨h.2, h.1⟩)]
        omega
      · rw [if_neg hL, if_neg hL]
        omega
    omega
theorem Lv.leftB (h : Lv L a b (f :: rest) S n p) (ht : f.To ≠ 1) : left2 L a (b.takeF f).2.outS (rest ++ (b.takeF f).2.outF) < left2 L a b (f :: rest) := by
  have hf : f ∈ f :: rest := List.mem_cons_self ..
  obtain ⟨kx, hm, hto⟩ := h.kxB hf ht
  have kt := h.tookB hf ht
  have hb := h.by_
  have hfm : f.Mine = 1 := (h.toB f hf ht).2.2.1
  obtain ⟨k1, k2, k3, k4⟩ := takeS1_fix b f
  have ko : (b.takeF f).2.owed = if f.Yours = L ∧ f.Has = false then false else true := by rw [kt.owed, k3, h.bm, k4, h.ob]
  generalize (b.takeF f).1 = T at kt
  generalize (b.takeF f).2 = b1 at kt kx ko ⊢
  have h1 := mu_take kx (by omega) (by omega) (by omega) h.dir.snd.room
  have hpe : b1.peer = 1 := kx.peer.trans h.bp
  have hmi : b1.mine = L := kx.mine.trans h.bm
  have hyo : b1.yours = 1 := kx.yours.trans hfm
  have h2 := mu_out b1 (wt2 L) (fun w _ => by
    unfold wt2
    rw [if_pos (by show b1.peer = 1; exact hpe), if_pos (by show b1.mine = L; exact hmi)]
    split <;> omega)
  unfold left2
  simp only [wts_app, wts]
  rw [ko] at h2
  by_cases hc : f.Yours = L ∧ f.Has = false
  · rw [if_pos hc, if_neg (by decide)] at h2
    have : wt2 L f = 1 := by unfold wt2; rw [if_neg ht, if_pos ⟨hc.2, hc.1⟩]
    omega
  · rw [if_neg hc, if_pos rfl] at h2
    have e1 : wt2 L f = 2 := by unfold wt2; rw [if_neg ht, if_neg (fun h => hc ⟨h.2, h.1⟩)]
    have e2 : wt2 L b1.frame = 1 := by
      unfold wt2
      rw [if_pos (by show b1.peer = 1; exact hpe), if_pos (by show b1.mine = L; exact hmi), if_pos ⟨rfl, by show b1.yours = 1; exact hyo⟩]
    omega
/-- the calm's promise of b's messages -/
theorem J.old {x y y1 : St} (h : J j x y (f :: rest)) (hm : f.Mine ≠ x.mine) (hx : f.To ≠ x.self) (e1 : y1.self = y.self) (e2 : y1.mine = y.mine) (hy : y1 = y ∨ y.yours ≠ x.mine ∧ y1.yours ≠ x.mine) : J j x y1 rest := by
  have hpm : ∀ q, Pm x y (f :: rest) q → Pm x y1 rest q := by
    intro q hq
    unfold Pm at hq ⊢
    rw [e1, e2]
    rcases hq with h1 | ⟨g, g1, g2, g3, g4⟩
    · left
      rcases hy with rfl | ⟨h2, _⟩
      · exact h1
      · exact absurd h1.1 h2
    · rcases List.mem_cons.1 g1 with rfl | g1
      · exact absurd g3 hm
      · exact .inr ⟨g, g1, g2, g3, g4⟩
  have hpl : Pl x y (f :: rest) → Pl x y1 rest := by
    intro hq
    unfold Pl at hq ⊢
    rw [e1, e2]
    rcases hq with h1 | ⟨g, g1, g2⟩
    · exact .inl h1
    · rcases List.mem_cons.1 g1 with rfl | g1
      · rcases g2 with g2 | g2
        · exact absurd g2.2 hm
        · exact absurd g2 hx
      · exact .inr ⟨g, g1, g2⟩
  have hpa : Pa x y (f :: rest) → Pa x y1 rest := by
    intro hq
    unfold Pa at hq ⊢
    rw [e1, e2]
    rcases hy with rfl | ⟨h2, h3⟩
    · rcases hq with h1 | ⟨g, g1, g2⟩ | ⟨g, g1, g2⟩
      · exact .inl h1
      · rcases List.mem_cons.1 g1 with rfl | g1
        · exact absurd g2.1 hx
        · exact .inr (.inl ⟨g, g1, g2⟩)
      · rcases List.mem_cons.1 g1 with rfl | g1
        · exact absurd g2.2.1 hm
        · exact .inr (.inr ⟨g, g1, g2⟩)
    · exact .inl fun h4 => absurd h4 h3
  exact ⟨fun h1 w hw => (h.m (by rw [← e2]; exact h1) w hw).imp (hpm _) id, h.l.imp hpl id, h.a.imp hpa id⟩
theorem Lv.jA (h : Lv L a b (f :: rest) S n p) (c : J j b a (f :: rest)) (ht : f.To = 1) : J j b (a.takeL f).2.outS (rest ++ (a.takeL f).2.outF) := by
  have hf : f ∈ f :: rest := List.mem_cons_self ..
  have hs : ∀ g ∈ rest, g ∈ f :: rest := fun g hg => List.mem_cons_of_mem _ hg
  obtain ⟨hm1, hmL⟩ := h.frA hf ht
  have ht' : f.To = a.self := ht.trans h.a1.symm
  by_cases hL : f.Mine = L
  · have hm : f.Mine = b.mine := hL.trans h.bm.symm
    have e : a.takeL f = a.takeF f := by unfold St.takeL; rw [if_neg (by have := h.ap; omega)]
    rw [e]
    exact c.takeY h.dir ht' hm
  · have k := h.midA (rest := rest) hf ht hs
    refine (c.old (y1 := (a.takeL f).2) (by rw [h.bm]; exact hL) (by rw [ht, h.b1]; decide) k.self k.mine ?_).emitY (alike_out _)
    have hap := h.ap
    by_cases hy : f.Mine < a.yours
    · left
      unfold St.takeL
      rw [if_pos hy]
    · right
      rw [k.yours, h.bm]
      omega
theorem Lv.jB (h : Lv L a b (f :: rest) S n p) (c : J j b a (f :: rest)) (ht : f.To ≠ 1) : J j (b.takeF f).2.outS a (rest ++ (b.takeF f).2.outF) := by
  have hf : f ∈ f :: rest := List.mem_cons_self ..
  obtain ⟨kx, hm, hto⟩ := h.kxB hf ht
  have A := h.dir.takeX hf hto hm kx
  refine (c.takeX h.dir hto hm kx).emitX A.xp A.yx (fun h1 h2 => ?_) (fun w hw => (A.seq hw).1)
  have := A.y0 h1
  unfold yh at this
  rwa [if_pos h2] at this
theorem Lv.jTick (h : Lv L a b way S n p) (c : J j b a way) : J (j + 1) b.tickS.outS a.tickS.outS (way ++ a.tickS.outF ++ b.tickS.outF) := by
  have h2 := h.tickA
  have c2 := c.emitY (F := a.tickS.outF) (alike_tickout a)
  refine c2.tick.emitX h2.dir.xp h2.dir.yx (fun h1 h2' => ?_) (fun w hw => ?_)
  · have := h2.dir.y0 h1
    unfold yh at this
    rwa [if_pos (show a.tickS.outS.yours = b.mine from h2')] at this
  · obtain ⟨v, hv, rfl⟩ := List.mem_map.1 hw
    rw [(tick_seq v).1]
    exact (h2.dir.seq hv).1
theorem Lv.empty (h : Lv L a b [] S n p) : Lv L a b [] S n 1024 := by
  refine { h with pot := ?_ }
  have h1 := pot_le a h.wk.room h.wk.age
  have h2 := pot_le b h.dir.snd.room h.dir.snd.age
  unfold phi
  simp
  omega
theorem Lv.done (h : Lv L a b [] S n p) (c : J j b a []) (hj : 4 ≤ j) : b.out = [] ∧ ((sd S L).length = 0 ∨ a.yours = L ∧ a.heard = (sd S L).length) := by
  obtain ⟨h1, h2⟩ := c.done hj h.dir
  refine ⟨h1, ?_⟩
  unfold yh at h2
  rw [h.bm] at h2
  split at h2
  · rename_i h3
    exact .inr ⟨h3, h2⟩
  · exact .inl (by omega)
end
end Go.Proofs.Ytoegkgebmldhaaa
