/- Plain laws of two sessions: both directions at once, step by step; what the law SessOnce keeps true. -/
import Derived.Test.YtoegkgebmldhaaaOnceD
import Derived.Test.YtoegkgebmldhaaaRoomP
namespace Go.Proofs.Ytoegkgebmldhaaa
open Go.RowKit

structure Sys (L : Int) (x y : St) (way : List Fr) (Dx Dy : List ByteArray) : Prop where
  xy : Dir x y way Dx
  yx : Dir y x way Dy
  xm : x.mine = L
  ym : y.mine = L
  ox : x.owed = false
  oy : y.owed = false
  fr : ∀ f ∈ way, (f.To = x.self ∧ f.From = y.self ∨ f.To = y.self ∧ f.From = x.self) ∧ f.Mine = L ∧ 0 ≤ f.Seq ∧ f.Seq ≤ 1000 ∧ f.Data.size ≤ 3000
  nx : Dx.length ≤ 150 ∧ ∀ d ∈ Dx, d.size ≤ 3000
  ny : Dy.length ≤ 150 ∧ ∀ d ∈ Dy, d.size ≤ 3000
section
variable {L : Int} {x y : St} {way way' : List Fr} {Dx Dy : List ByteArray} {f : Fr}
theorem Sys.swap (h : Sys L x y way Dx Dy) : Sys L y x way Dy Dx :=
  ⟨h.yx, h.xy, h.ym, h.xm, h.oy, h.ox, fun f hf => ⟨(h.fr f hf).1.symm, (h.fr f hf).2⟩, h.ny, h.nx⟩
theorem Sys.sub (h : Sys L x y way Dx Dy) (hs : ∀ f ∈ way', f ∈ way) : Sys L x y way' Dx Dy :=
  ⟨h.xy.sub hs, h.yx.sub hs, h.xm, h.ym, h.ox, h.oy, fun f hf => h.fr f (hs f hf), h.nx, h.ny⟩
theorem told_mem {D : List ByteArray} {p : Int × ByteArray} (h : told D p) : p.2 ∈ D := List.mem_of_getElem? h.2
theorem Sys.okT (h : Sys L x y way Dx Dy) (hf : f ∈ way) (ht : f.To = x.self) : OkT x f := by
  obtain ⟨h1, h2, h3, h4, h5⟩ := h.fr f hf
  have hm : f.Mine = y.mine := h2.trans h.ym.symm
  obtain ⟨hR, hH⟩ := rcv_S1 h.yx hm
  have hy := (h.yx.toY f hf ht hm).1
  have hl := hR.len
  have hn := h.ny.1
  have hxm := h.xy.xm
  refine ⟨h.xy.snd.room, ?_, ht, by rw [h2, ← h.xm]; exact hxm, by rw [hm]; exact h.yx.le, by rcases hy with e | ⟨e, _⟩ <;> omega, ⟨h3, by omega⟩, ⟨hR.all.h0, by have := hR.all.h1; omega⟩, by omega, h5⟩
  rcases h1 with ⟨_, h1⟩ | ⟨h1, _⟩
  · rw [h1, h.xy.xp]
  · exact absurd ((ht.symm.trans h1).trans h.xy.xp.symm) h.xy.xy
theorem fr_emit (hd : Dir x y way Dx) (hm : x.mine = L) (nx : Dx.length ≤ 150 ∧ ∀ d ∈ Dx, d.size ≤ 3000)
    (e : f.From = x.self ∧ f.To = x.peer ∧ f.Mine = x.mine ∧ f.Yours = x.yours ∧ f.Ack = x.heard ∧ (f.Has = true → ∃ w ∈ x.out, f.Seq = w.seq ∧ f.Data = w.data) ∧ (f.Has = false → f.Seq = 0 ∧ f.Data = ⟨#[]⟩)) :
    (f.To = x.self ∧ f.From = y.self ∨ f.To = y.self ∧ f.From = x.self) ∧ f.Mine = L ∧ 0 ≤ f.Seq ∧ f.Seq ≤ 1000 ∧ f.Data.size ≤ 3000 := by
  obtain ⟨e1, e2, e3, e4, e5, e6, e7⟩ := e
  refine ⟨.inr ⟨e2.trans hd.xp, e1⟩, e3.trans hm, ?_⟩
  cases hh : f.Has with
  | false =>
    obtain ⟨q1, q2⟩ := e7 hh
    rw [q1, q2]
    exact ⟨by omega, by omega, by decide⟩
  | true =>
    obtain ⟨w, hw, q1, q2⟩ := e6 hh
    obtain ⟨p1, p2, _, p4⟩ := hd.seq hw
    have := nx.1
    rw [q1, q2]
    exact ⟨by omega, by omega, nx.2 _ (told_mem p4)⟩
/-- what a Take and the Out behind it leave -/
structure Steps (L : Int) (x y : St) (way rest : List Fr) (Dx Dy : List ByteArray) (T : List ByteArray) (x1 : St) : Prop where
  sys : Sys L x1.outS y (rest ++ x1.outF) Dx Dy
  yh : yh y x1.outS = yh y x + T.length
  yh2 : Go.Proofs.Ytoegkgebmldhaaa.yh x1.outS y = Go.Proofs.Ytoegkgebmldhaaa.yh x y
  told : ∀ (i : Nat) d, T[i]? = some d → told Dy (Go.Proofs.Ytoegkgebmldhaaa.yh y x + i + 1, d)
  room : x1.out.length ≤ 64
theorem Sys.take (h : Sys L x y way Dx Dy) (hf : f ∈ way) (ht : f.To = x.self) {rest : List Fr} (hs : ∀ g ∈ rest, g ∈ way) : Steps L x y way rest Dx Dy (x.takeF f).1 (x.takeF f).2 := by
  obtain ⟨h1, h2, h3, h4, h5⟩ := h.fr f hf
  have hm : f.Mine = y.mine := h2.trans h.ym.symm
  have k := h.yx.tookY hf ht hm
  have hH := (rcv_S1 h.yx hm).2
  generalize (x.takeF f).1 = T at k ⊢
  generalize (x.takeF f).2 = x1 at k ⊢
  have kx := k.toX (by rw [hm]; exact h.yx.le)
  have A := (h.xy.takeX hf ht hm kx).sub hs
  obtain ⟨B0, hB⟩ := h.yx.takeY hf ht hm k
  have B := B0.sub hs
  have A2 := A.emitX (F := x1.outF) (alike_out x1) (snd_out A.snd) (by simp [St.outS]) (fun g hg => by
    have e := emit_out hg
    exact ⟨e.To, e.Mine, e.Yours, fun h6 => by obtain ⟨w, hw, _, q⟩ := e.yes h6; exact ⟨w, hw, q⟩⟩)
  have B2 := B.emitY (F := x1.outF) (alike_out x1) (fun g hg => by
    have e := emit_out hg
    exact ⟨e.To, e.Yours, e.Ack⟩)
  refine ⟨⟨A2, B2, by rw [(alike_out x1).mine, kx.mine, h.xm], h.ym, rfl, h.oy, fun g hg => ?_, h.nx, h.ny⟩, by rw [yh_y (alike_out x1), hB], yh_x (by rw [(alike_out x1).mine, kx.mine]), ?_, A.snd.room⟩
  · rw [(alike_out x1).self]
    rcases List.mem_append.1 hg with hg | hg
    · rw [kx.self]
      exact h.fr g (hs g hg)
    · have e := emit_out hg
      exact fr_emit A (by rw [kx.mine, h.xm]) h.nx ⟨e.From, e.To, e.Mine, e.Yours, e.Ack, fun h6 => by obtain ⟨w, hw, _, q⟩ := e.yes h6; exact ⟨w, hw, q⟩, e.no⟩
  · rw [← hH]
    exact k.told
theorem Sys.tick (h : Sys L x y way Dx Dy) : Sys L x.tickS.outS y (way ++ x.tickS.outF) Dx Dy := by
  have A2 := h.xy.emitX (F := x.tickS.outF) (alike_tickout x) (snd_tickout h.xy.snd) (by simp [St.outS, St.tickS]) (fun g hg => by
    obtain ⟨_, e2, e3, e4, _, e6, _⟩ := emit_tick hg
    exact ⟨e2, e3, e4, e6⟩)
  have B2 := h.yx.emitY (F := x.tickS.outF) (alike_tickout x) (fun g hg => by
    obtain ⟨_, e2, _, e4, e5, _⟩ := emit_tick hg
    exact ⟨e2, e4, e5⟩)
  refine ⟨A2, B2, h.xm, h.ym, rfl, h.oy, fun g hg => ?_, h.nx, h.ny⟩
  rcases List.mem_append.1 hg with hg | hg
  · exact h.fr g hg
  · exact fr_emit (x := x) h.xy h.xm h.nx (emit_tick hg)
theorem Sys.send (h : Sys L x y way Dx Dy) (d : ByteArray) (hd : d.size ≤ 3000) (hr : x.out.length < 64) (hn : Dx.length < 150) : Sys L { x with last := x.last + 1, out := x.out ++ [⟨x.last + 1, d, false, 0⟩] } y way (Dx ++ [d]) Dy := by
  refine ⟨h.xy.send d hr, ?_, h.xm, h.ym, h.ox, h.oy, h.fr, ⟨by simp; omega, fun e he => ?_⟩, h.ny⟩
  · have b := h.yx
    exact ⟨b.snd, b.xy, b.xp, b.yp, b.xm, b.ym, b.yx, b.x0, b.le, fun h1 => ⟨⟨(b.rcv h1).all.h0, (b.rcv h1).all.h1, (b.rcv h1).all.apart, (b.rcv h1).all.in_⟩, (b.rcv h1).gap⟩, b.base, b.y0, b.toY, b.toX⟩
  · rcases List.mem_append.1 he with he | he
    · exact h.nx.2 e he
    · rw [List.mem_singleton.1 he]
      exact hd
theorem Sys.new (L : Int) (hL : 1 ≤ L) : Sys L (St.new 1 2 L) (St.new 2 1 L) [] [] [] := by
  have hd : ∀ a b : Int, a ≠ b → Dir (St.new a b L) (St.new b a L) [] [] := fun a b hab =>
    ⟨Snd.new _ _ _, hab, rfl, rfl, hL, hL, .inl rfl, fun _ => rfl, by simp [St.new]; omega, fun h => by simp [St.new] at h; omega, by unfold yh; split <;> simp [St.new], fun _ => by unfold yh; split <;> rfl, by simp, by simp⟩
  exact ⟨hd 1 2 (by decide), hd 2 1 (by decide), rfl, rfl, rfl, rfl, by simp, by simp, by simp⟩

/-- how much may be on the way -/
def phi (x y : St) (way : List Fr) : Nat := 4 * way.length + pot x + pot y
theorem phi_swap (x y : St) (way : List Fr) : phi x y way = phi y x way := by unfold phi; omega
theorem Dir.yours0 (h : Dir x y way Dx) : 0 ≤ x.yours := by
  have := h.ym
  rcases h.yx with h1 | h1 <;> omega
theorem Sys.kx (h : Sys L x y way Dx Dy) (hf : f ∈ way) (ht : f.To = x.self) : TakesX x f (x.takeF f).2 ∧ (x.takeF f).2.owed = if f.Yours = x.mine ∧ f.Has = false then false else true := by
  obtain ⟨h1, h2, h3, h4, h5⟩ := h.fr f hf
  have hm : f.Mine = y.mine := h2.trans h.ym.symm
  have k := h.yx.tookY hf ht hm
  obtain ⟨_, _, k3, k4⟩ := takeS1_fix x f
  refine ⟨k.toX (by rw [hm]; exact h.yx.le), ?_⟩
  rw [k.owed, k3, k4, h.ox]
theorem Sys.phi_take (h : Sys L x y way Dx Dy) (hf : f ∈ way) (ht : f.To = x.self) {rest : List Fr} (hs : rest.length + 1 = way.length) : phi (x.takeF f).2.outS y (rest ++ (x.takeF f).2.outF) ≤ phi x y way := by
  obtain ⟨kx, _⟩ := h.kx hf ht
  have hm : f.Mine = y.mine := (h.fr f hf).2.1.trans h.ym.symm
  have h1 := pot_take kx (by have := h.xy.ym; omega) h.xy.yours0 (by rw [hm]; exact h.yx.le) h.xy.snd.room h.xy.snd.age
  have h2 := pot_out (x.takeF f).2
  unfold phi
  simp only [List.length_append]
  split at h2 <;> omega
theorem Sys.phi_tick (h : Sys L x y way Dx Dy) : phi x.tickS.outS y (way ++ x.tickS.outF) ≤ phi x y way + 64 := by
  have h1 := pot_tick x h.xy.snd.room h.xy.snd.age
  have h2 := pot_out x.tickS
  have h3 : x.tickS.owed = false := h.ox
  rw [if_neg (by rw [h3]; decide)] at h2
  unfold phi
  simp only [List.length_append]
  omega
theorem phi_send (x y : St) (way : List Fr) (d : ByteArray) : phi { x with last := x.last + 1, out := x.out ++ [⟨x.last + 1, d, false, 0⟩] } y way ≤ phi x y way + 4 := by
  have : ∀ l : List Wt, crs (l ++ [⟨x.last + 1, d, false, 0⟩]) = crs l + 4 := by
    intro l
    induction l with
    | nil => rfl
    | cons w l ih => simp [crs, ih]; omega
  simp only [phi, pot, this]
  omega
def wt1 (L : Int) (f : Fr) : Nat := if f.Has = false ∧ f.Yours = L then 1 else 2
/-- every Take and the Out behind it lower this -/
def left (L : Int) (x y : St) (way : List Fr) : Nat := wts (wt1 L) way + mu x + mu y
theorem left_swap (L : Int) (x y : St) (way : List Fr) : left L x y way = left L y x way := by unfold left; omega
theorem Sys.left_take {rest : List Fr} (h : Sys L x y (f :: rest) Dx Dy) (ht : f.To = x.self) : left L (x.takeF f).2.outS y (rest ++ (x.takeF f).2.outF) < left L x y (f :: rest) := by
  have hf : f ∈ f :: rest := List.mem_cons_self ..
  obtain ⟨kx, ko⟩ := h.kx hf ht
  have hm : f.Mine = y.mine := (h.fr f hf).2.1.trans h.ym.symm
  have h1 := mu_take kx (by have := h.xy.ym; omega) h.xy.yours0 (by rw [hm]; exact h.yx.le) h.xy.snd.room
  have h2 := mu_out (x.takeF f).2 (wt1 L) (fun w _ => by unfold wt1; split <;> omega)
  unfold left
  simp only [wts_app, wts]
  rw [ko, h.xm] at h2
  by_cases hc : f.Yours = L ∧ f.Has = false
  · rw [if_pos hc, if_neg (by decide)] at h2
    have : wt1 L f = 1 := by unfold wt1; rw [if_pos ⟨hc.2, hc.1⟩]
    omega
  · rw [if_neg hc, if_pos rfl] at h2
    have e1 : wt1 L f = 2 := by unfold wt1; rw [if_neg (fun h => hc ⟨h.2, h.1⟩)]
    have e2 : wt1 L (x.takeF f).2.frame = 1 := by
      unfold wt1
      rw [if_pos ⟨rfl, by show (x.takeF f).2.yours = L; rw [kx.yours, hm, h.ym]⟩]
    omega
/-- the calm's promises, both ways -/
structure Calm (j : Nat) (x y : St) (way : List Fr) : Prop where
  xy : J j x y way
  yx : J j y x way
theorem Calm.swap {j : Nat} (h : Calm j x y way) : Calm j y x way := ⟨h.yx, h.xy⟩
theorem Sys.y0 (h : Sys L x y way Dx Dy) : x.yours = 0 → y.yours = x.mine → y.heard = 0 := fun h1 h2 => by
  have := h.xy.y0 h1
  unfold yh at this
  rwa [if_pos h2] at this
theorem Calm.take {j : Nat} {rest : List Fr} (c : Calm j x y (f :: rest)) (h : Sys L x y (f :: rest) Dx Dy) (ht : f.To = x.self) : Calm j (x.takeF f).2.outS y (rest ++ (x.takeF f).2.outF) := by
  have hf : f ∈ f :: rest := List.mem_cons_self ..
  have hm : f.Mine = y.mine := (h.fr f hf).2.1.trans h.ym.symm
  obtain ⟨kx, _⟩ := h.kx hf ht
  have A := h.xy.takeX hf ht hm kx
  refine ⟨?_, c.yx.takeY h.yx ht hm⟩
  refine (c.xy.takeX h.xy ht hm kx).emitX A.xp A.yx (fun h1 h2 => ?_) (fun w hw => (A.seq hw).1)
  have := A.y0 h1
  unfold yh at this
  rwa [if_pos h2] at this
theorem Calm.tickX {j : Nat} (c : J j x y way) (h : Sys L x y way Dx Dy) : J (j + 1) x.tickS.outS y (way ++ x.tickS.outF) := by
  refine c.tick.emitX h.xy.xp h.xy.yx h.y0 (fun w hw => ?_)
  obtain ⟨v, hv, rfl⟩ := List.mem_map.1 hw
  rw [(tick_seq v).1]
  exact (h.xy.seq hv).1
/-- both ends tick, x first -/
theorem Calm.tick {j : Nat} (c : Calm j x y way) (h : Sys L x y way Dx Dy) : Calm (j + 1) x.tickS.outS y.tickS.outS (way ++ x.tickS.outF ++ y.tickS.outF) := by
  have h2 := h.tick.swap
  refine ⟨(Calm.tickX c.xy h).emitY (alike_tickout y), ?_⟩
  exact Calm.tickX (c.yx.emitY (alike_tickout x)) h2
end
end Go.Proofs.Ytoegkgebmldhaaa
