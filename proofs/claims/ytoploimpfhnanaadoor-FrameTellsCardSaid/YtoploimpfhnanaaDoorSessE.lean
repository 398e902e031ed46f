/- A session in memory: Tick. -/
import Derived.Test.YtoploimpfhnanaaDoorSessD
namespace Go.Proofs.YtoploimpfhnanaaDoor
open Go.RowKit

def Wt.tick (x : Wt) : Wt := if x.sent then { x with age := x.age + 1, sent := decide (x.age + 1 < 4) } else x
def St.tickS (s : St) : St := { s with out := s.out.map Wt.tick }

/-- behind k rounds of a loop over the ring's list, whose round makes f of a message -/
structure EachRel (o : Nat → Nat) (c e : Nat) (w : World) (p : Nat) (s : St) (st : Nat → St) (lv : Value) (k : Nat) (wr : World) (oL : Nat → Nat) : Prop where
  le : k ≤ s.out.length
  sess : SessAt oL c wr p (st k)
  list : OwnS oL e wr 122 4 lv s.out.length (wcells s.out)
  step : Step o (trio c) w oL wr
  fut : Fut oL wr

/-- the states of Tick's loop -/
def St.tk (s : St) (k : Nat) : St := { s with out := (s.out.take k).map Wt.tick ++ s.out.drop k }

theorem EachRel.skip {o : Nat → Nat} {c e : Nat} {w : World} {p : Nat} {s : St} {st : Nat → St} {lv : Value} {k : Nat} {wr : World} {oL : Nat → Nat} (h : EachRel o c e w p s st lv k wr oL) (hk : k < s.out.length) (hs : st (k + 1) = st k) (y : Obj) :
    EachRel o c e w p s st lv (k + 1) (wr.alloc y) oL :=
  ⟨hk, by rw [hs]; exact h.sess.alloc y, h.list.alloc y, h.step.alloc y, h.fut.alloc y⟩

end Go.Proofs.YtoploimpfhnanaaDoor
