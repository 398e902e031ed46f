/- SessOnce, plain: what the law keeps true, step by step. -/
import Derived.Test.YtoegkgebmldhaaaOnceE
namespace Go.Proofs.Ytoegkgebmldhaaa
open Go.RowKit

theorem take_told {D T : List ByteArray} {n : Nat} (h : ∀ (i : Nat) d, T[i]? = some d → D[n + i]? = some d) : D.take (n + T.length) = D.take n ++ T := by
  by_cases h0 : T = []
  · subst h0; simp
  · have hp : 0 < T.length := List.length_pos_iff.2 h0
    have hl : n + (T.length - 1) < D.length := by
      have := h (T.length - 1) _ (List.getElem?_eq_getElem (by omega))
      exact (List.getElem?_eq_some_iff.1 this).1
    have hn : (D.take n).length = n := by rw [List.length_take]; omega
    apply List.ext_getElem?
    intro j
    rw [List.getElem?_take]
    by_cases h1 : j < n
    · rw [if_pos (by omega), List.getElem?_append_left (by omega), List.getElem?_take, if_pos h1]
    · rw [List.getElem?_append_right (by omega), hn]
      by_cases h2 : j < n + T.length
      · rw [if_pos h2]
        have := h (j - n) _ (List.getElem?_eq_getElem (by omega))
        rw [show n + (j - n) = j by omega] at this
        rw [this, List.getElem?_eq_getElem (by omega)]
      · rw [if_neg h2, List.getElem?_eq_none (by omega)]

structure Ln (L : Int) (a b : St) (way : List Fr) (sent got down heard : List ByteArray) (n p : Nat) : Prop where
  sys : Sys L a b way down sent
  a1 : a.self = 1
  b1 : b.self = 2
  got : got = sent.take (yh b a).toNat
  heard : heard = down.take (yh a b).toNat
  ns : sent.length ≤ n
  nd : down.length ≤ n
  pot : phi a b way ≤ p
  L1 : 1 ≤ L
  L2 : L ≤ 20
theorem pot_new (a b L : Int) : pot (St.new a b L) = 256 := by
  unfold pot
  rw [if_pos (show (St.new a b L).yours = 0 from rfl)]
  simp [St.new, crs]
theorem phi_new (L : Int) : phi (St.new 1 2 L) (St.new 2 1 L) [] = 512 := by
  unfold phi
  rw [pot_new, pot_new]
  rfl
section
variable {L : Int} {a b : St} {way rest : List Fr} {sent got down heard : List ByteArray} {n p m q : Nat} {f : Fr}
theorem Ln.mono (h : Ln L a b way sent got down heard n p) (hn : n ≤ m) (hp : p ≤ q) : Ln L a b way sent got down heard m q :=
  { h with ns := Nat.le_trans h.ns hn, nd := Nat.le_trans h.nd hn, pot := Nat.le_trans h.pot hp }
theorem Ln.way_le (h : Ln L a b way sent got down heard n p) : 4 * way.length ≤ p := by
  have := h.pot
  unfold phi at this
  omega
theorem Ln.new (L : Int) (h1 : 1 ≤ L) (h2 : L ≤ 20) (n : Nat) : Ln L (St.new 1 2 L) (St.new 2 1 L) [] [] [] [] [] n 512 :=
  ⟨Sys.new L h1, rfl, rfl, by simp, by simp, by simp, by simp, by rw [phi_new]; decide, h1, h2⟩
theorem Ln.sendA (h : Ln L a b way sent got down heard n p) (d : ByteArray) (hd : d.size ≤ 3000) (hr : a.out.length < 64) (hn : n < 150) :
    Ln L { a with last := a.last + 1, out := a.out ++ [⟨a.last + 1, d, false, 0⟩] } b way sent got (down ++ [d]) heard (n + 1) (p + 4) := by
  have hle : (yh a b).toNat ≤ down.length := by
    have h1 := h.sys.xy
    unfold yh
    split
    · rename_i h2; have := (h1.rcv h2).all.h1; omega
    · simp
  refine ⟨h.sys.send d hd hr (by have := h.nd; omega), h.a1, h.b1, h.got, ?_, by have := h.ns; omega, by have := h.nd; simp; omega, Nat.le_trans (phi_send a b way d) (by have := h.pot; omega), h.L1, h.L2⟩
  show heard = (down ++ [d]).take (yh a b).toNat
  rw [List.take_append_of_le_length hle]
  exact h.heard
theorem Ln.swap_ (h : Ln L a b way sent got down heard n p) : Sys L b a way sent down ∧ phi b a way ≤ p := ⟨h.sys.swap, by rw [phi_swap]; exact h.pot⟩
theorem Ln.sendB (h : Ln L a b way sent got down heard n p) (d : ByteArray) (hd : d.size ≤ 3000) (hr : b.out.length < 64) (hn : n < 150) :
    Ln L a { b with last := b.last + 1, out := b.out ++ [⟨b.last + 1, d, false, 0⟩] } way (sent ++ [d]) got down heard (n + 1) (p + 4) := by
  have hle : (yh b a).toNat ≤ sent.length := by
    have h1 := h.sys.yx
    unfold yh
    split
    · rename_i h2; have := (h1.rcv h2).all.h1; omega
    · simp
  refine ⟨(h.sys.swap.send d hd hr (by have := h.ns; omega)).swap, h.a1, h.b1, ?_, h.heard, by have := h.ns; simp; omega, by have := h.nd; omega, ?_, h.L1, h.L2⟩
  · show got = (sent ++ [d]).take (yh b a).toNat
    rw [List.take_append_of_le_length hle]
    exact h.got
  · rw [phi_swap]
    exact Nat.le_trans (phi_send b a way d) (by have := h.swap_.2; omega)
theorem Ln.tickA (h : Ln L a b way sent got down heard n p) : Ln L a.tickS.outS b (way ++ a.tickS.outF) sent got down heard n (p + 64) :=
  ⟨h.sys.tick, h.a1, h.b1, h.got, h.heard, h.ns, h.nd, Nat.le_trans h.sys.phi_tick (by have := h.pot; omega), h.L1, h.L2⟩
theorem Ln.tickB (h : Ln L a b way sent got down heard n p) : Ln L a b.tickS.outS (way ++ b.tickS.outF) sent got down heard n (p + 64) :=
  ⟨h.sys.swap.tick.swap, h.a1, h.b1, h.got, h.heard, h.ns, h.nd, by rw [phi_swap]; exact Nat.le_trans h.sys.swap.phi_tick (by have := h.swap_.2; omega), h.L1, h.L2⟩
theorem Ln.sub (h : Ln L a b way sent got down heard n p) (hs : ∀ g ∈ rest, g ∈ way) (hl : rest.length ≤ way.length) : Ln L a b rest sent got down heard n p :=
  { h with sys := h.sys.sub hs, pot := by have := h.pot; unfold phi at this ⊢; omega }
theorem Ln.dup (h : Ln L a b way sent got down heard n p) (hf : f ∈ way) : Ln L a b (way ++ [f]) sent got down heard n (p + 4) :=
  { h with
    sys := h.sys.sub (fun g hg => by
      rcases List.mem_append.1 hg with hg | hg
      · exact hg
      · rw [List.mem_singleton.1 hg]; exact hf)
    pot := by have := h.pot; unfold phi at this ⊢; simp; omega }
theorem toNat_add {x : Int} (h : 0 ≤ x) (k : Nat) : (x + k).toNat = x.toNat + k := by omega
theorem told_get {D : List ByteArray} {T : List ByteArray} {x : Int} (h0 : 0 ≤ x) (h : ∀ (i : Nat) d, T[i]? = some d → told D (x + i + 1, d)) : ∀ (i : Nat) d, T[i]? = some d → D[x.toNat + i]? = some d := by
  intro i d hd
  have := (h i d hd).2
  simp only at this
  rwa [show (x + (i : Int) + 1 - 1).toNat = x.toNat + i by omega] at this
theorem Ln.takeA (h : Ln L a b way sent got down heard n p) (hf : f ∈ way) (ht : f.To = 1) (hs : ∀ g ∈ rest, g ∈ way) (hl : rest.length + 1 = way.length) :
    Ln L (a.takeF f).2.outS b (rest ++ (a.takeF f).2.outF) sent (got ++ (a.takeF f).1) down heard n p := by
  have ht' : f.To = a.self := ht.trans h.a1.symm
  have k := h.sys.take hf ht' hs
  have hk := (h.sys.kx hf ht').1
  refine ⟨k.sys, (hk.self).trans h.a1, h.b1, ?_, by rw [k.yh2]; exact h.heard, h.ns, h.nd, Nat.le_trans (h.sys.phi_take hf ht' hl) h.pot, h.L1, h.L2⟩
  have h0 := yh_0 h.sys.yx
  rw [k.yh, toNat_add h0, take_told (told_get h0 k.told), ← h.got]
theorem Ln.takeB (h : Ln L a b way sent got down heard n p) (hf : f ∈ way) (ht : f.To ≠ 1) (hs : ∀ g ∈ rest, g ∈ way) (hl : rest.length + 1 = way.length) :
    Ln L a (b.takeF f).2.outS (rest ++ (b.takeF f).2.outF) sent got down (heard ++ (b.takeF f).1) n p := by
  have ht' : f.To = b.self := by
    rcases (h.sys.fr f hf).1 with h1 | h1
    · exact absurd (h1.1.trans h.a1) ht
    · exact h1.1
  have hS := h.sys.swap
  have k := hS.take hf ht' hs
  have hk := (hS.kx hf ht').1
  refine ⟨k.sys.swap, h.a1, (hk.self).trans h.b1, by rw [k.yh2]; exact h.got, ?_, h.ns, h.nd, by rw [phi_swap]; exact Nat.le_trans (hS.phi_take hf ht' hl) h.swap_.2, h.L1, h.L2⟩
  have h0 := yh_0 h.sys.xy
  rw [k.yh, toNat_add h0, take_told (told_get h0 k.told), ← h.heard]
theorem Ln.toB (h : Ln L a b way sent got down heard n p) (hf : f ∈ way) (ht : f.To ≠ 1) : f.To = b.self := by
  rcases (h.sys.fr f hf).1 with h1 | h1
  · exact absurd (h1.1.trans h.a1) ht
  · exact h1.1
theorem Ln.prefixes (h : Ln L a b way sent got down heard n p) : got.length ≤ sent.length ∧ heard.length ≤ down.length ∧ sent.take got.length = got ∧ down.take heard.length = heard := by
  have e : ∀ (l : List ByteArray) (k : Nat), l.take (l.take k).length = l.take k := by
    intro l k
    rw [List.length_take]
    rcases Nat.le_total k l.length with h1 | h1
    · rw [Nat.min_eq_left h1]
    · rw [Nat.min_eq_right h1, List.take_length, List.take_of_length_le h1]
  rw [h.got, h.heard]
  exact ⟨by rw [List.length_take]; omega, by rw [List.length_take]; omega, e _ _, e _ _⟩
theorem Ln.calmA {j : Nat} (h : Ln L a b (f :: rest) sent got down heard n p) (c : Calm j a b (f :: rest)) (ht : f.To = 1) :
    Ln L (a.takeF f).2.outS b (rest ++ (a.takeF f).2.outF) sent (got ++ (a.takeF f).1) down heard n p ∧ Calm j (a.takeF f).2.outS b (rest ++ (a.takeF f).2.outF) ∧ left L (a.takeF f).2.outS b (rest ++ (a.takeF f).2.outF) < left L a b (f :: rest) := by
  have ht' : f.To = a.self := ht.trans h.a1.symm
  exact ⟨h.takeA (List.mem_cons_self ..) ht (fun g hg => List.mem_cons_of_mem _ hg) rfl, c.take h.sys ht', h.sys.left_take ht'⟩
theorem Ln.calmB {j : Nat} (h : Ln L a b (f :: rest) sent got down heard n p) (c : Calm j a b (f :: rest)) (ht : f.To ≠ 1) :
    Ln L a (b.takeF f).2.outS (rest ++ (b.takeF f).2.outF) sent got down (heard ++ (b.takeF f).1) n p ∧ Calm j a (b.takeF f).2.outS (rest ++ (b.takeF f).2.outF) ∧ left L a (b.takeF f).2.outS (rest ++ (b.takeF f).2.outF) < left L a b (f :: rest) := by
  have ht' := h.toB (List.mem_cons_self ..) ht
  refine ⟨h.takeB (List.mem_cons_self ..) ht (fun g hg => List.mem_cons_of_mem _ hg) rfl, (c.swap.take h.sys.swap ht').swap, ?_⟩
  rw [left_swap L a, left_swap L a]
  exact h.sys.swap.left_take ht'
theorem Ln.calmTick {j : Nat} (h : Ln L a b way sent got down heard n p) (c : Calm j a b way) :
    Ln L a.tickS.outS b.tickS.outS (way ++ a.tickS.outF ++ b.tickS.outF) sent got down heard n (p + 128) ∧ Calm (j + 1) a.tickS.outS b.tickS.outS (way ++ a.tickS.outF ++ b.tickS.outF) :=
  ⟨by have := h.tickA.tickB; simpa [Nat.add_assoc] using this, c.tick h.sys⟩
/-- the way is empty again: little can come of what waits -/
theorem Ln.empty (h : Ln L a b [] sent got down heard n p) : Ln L a b [] sent got down heard n 1024 := by
  refine { h with pot := ?_ }
  have h1 := pot_le a h.sys.xy.snd.room h.sys.xy.snd.age
  have h2 := pot_le b h.sys.yx.snd.room h.sys.yx.snd.age
  unfold phi
  simp
  omega
theorem Ln.done {j : Nat} (h : Ln L a b [] sent got down heard n p) (c : Calm j a b []) (hj : 4 ≤ j) : got = sent ∧ heard = down ∧ a.out = [] ∧ b.out = [] ∧ a.tickS.outF = [] ∧ b.tickS.outF = [] := by
  obtain ⟨h1, h2⟩ := c.xy.done hj h.sys.xy
  obtain ⟨h3, h4⟩ := c.yx.done hj h.sys.yx
  have e : ∀ s : St, s.out = [] → s.owed = false → s.tickS.outF = [] := by
    intro s hs ho
    unfold St.outF St.tickS St.tells
    rw [hs]
    simp [ho]
  refine ⟨?_, ?_, h1, h3, e a h1 h.sys.ox, e b h3 h.sys.oy⟩
  · rw [h.got, h4, Int.toNat_natCast, List.take_length]
  · rw [h.heard, h2, Int.toNat_natCast, List.take_length]
end
end Go.Proofs.Ytoegkgebmldhaaa
