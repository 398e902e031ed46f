/- A session in memory: New, none, Waiting, Life, Peer, frame, Send. -/
import Derived.Test.YtoploimpfhnanaaDoorSessA
namespace Go.Proofs.YtoploimpfhnanaaDoor
open Go.RowKit

/-- a frame -/
structure Fr where
  From : Int
  To : Int
  Mine : Int
  Yours : Int
  Seq : Int
  Ack : Int
  Data : ByteArray
  Has : Bool
def Fr.cells (f : Fr) : List Value := [.int .i64 f.From, .int .i64 f.To, .int .i64 f.Mine, .int .i64 f.Yours, .int .i64 f.Seq, .int .i64 f.Ack, .string f.Data, .bool f.Has]
def Fr.agg (f : Fr) : Value := .agg #[.int .i64 f.From, .int .i64 f.To, .int .i64 f.Mine, .int .i64 f.Yours, .int .i64 f.Seq, .int .i64 f.Ack, .string f.Data, .bool f.Has]
def Fr.zero : Fr := ⟨0, 0, 0, 0, 0, 0, ⟨#[]⟩, false⟩

/-- a session -/
structure St where
  self : Int
  peer : Int
  mine : Int
  yours : Int
  out : List Wt
  last : Int
  heard : Int
  ahead : List (Int × ByteArray)
  owed : Bool

def St.cells (s : St) (r m : Nat) : Array Value :=
  #[.int .i64 s.self, .int .i64 s.peer, .int .i64 s.mine, .int .i64 s.yours, .pointer (some ⟨r, 0, none⟩), .int .i64 s.last, .int .i64 s.heard, .map (some m), .bool s.owed]

/-- the session at block p reads as s; all that it holds is of colour c -/
def SessAt (o : Nat → Nat) (c : Nat) (w : World) (p : Nat) (s : St) : Prop :=
  ∃ r m, Blk w p 125 (s.cells r m) ∧ o p = c ∧ RingAt o (c + 1) w r 64 s.out ∧ MapAt o (c + 2) w m s.ahead

section
variable {o o' : Nat → Nat} {c : Nat} {D : Nat → Prop} {w w' : World} {p : Nat} {s : St}
theorem SessAt.lt (h : SessAt o c w p s) : p < w.heap.size := by obtain ⟨r, m, hb, _⟩ := h; exact hb.lt
theorem SessAt.step (h : SessAt o c w p s) (hk : Step o D w o' w') (h0 : ¬ D c) (h1 : ¬ D (c + 1)) (h2 : ¬ D (c + 2)) : SessAt o' c w' p s := by
  obtain ⟨r, m, hb, hc, hr, hm⟩ := h
  exact ⟨r, m, hb.step hk (by rw [hc]; exact h0), (hk.old p hb.lt).trans hc, hr.step hk h1, hm.step hk h2⟩
theorem SessAt.below_ (h : SessAt o c w p s) (hb : Below w.heap.size w w') : SessAt o c w' p s := by
  obtain ⟨r, m, h1, hc, hr, hm⟩ := h
  exact ⟨r, m, h1.below_ hb, hc, hr.below_ hb, hm.below_ hb⟩
theorem SessAt.alloc (h : SessAt o c w p s) (x : Obj) : SessAt o c (w.alloc x) p s := h.below_ ((Below.refl _ _).alloc (Nat.le_refl _) _)
theorem SessAt.color (h : SessAt o c w p s) (ho : ∀ k, k < w.heap.size → o' k = o k) : SessAt o' c w p s := by
  obtain ⟨r, m, h1, hc, hr, hm⟩ := h
  exact ⟨r, m, h1, (ho p h1.lt).trans hc, hr.color ho, hm.color ho⟩
/-- all that a walk asks of a session -/
theorem SessAt.open_ (h : SessAt o c w p s) : ∃ r m, w.cell? ⟨p, 0, none⟩ = some (.int .i64 s.self) ∧ w.cell? ⟨p, 1, none⟩ = some (.int .i64 s.peer) ∧ w.cell? ⟨p, 2, none⟩ = some (.int .i64 s.mine) ∧ w.cell? ⟨p, 3, none⟩ = some (.int .i64 s.yours) ∧
    w.cell? ⟨p, 4, none⟩ = some (.pointer (some ⟨r, 0, none⟩)) ∧ w.cell? ⟨p, 5, none⟩ = some (.int .i64 s.last) ∧ w.cell? ⟨p, 6, none⟩ = some (.int .i64 s.heard) ∧ w.cell? ⟨p, 7, none⟩ = some (.map (some m)) ∧ w.cell? ⟨p, 8, none⟩ = some (.bool s.owed) ∧
    p < w.heap.size ∧ Hid (Blk w p 125 (s.cells r m)) ∧ Hid (o p = c) ∧ Hid (RingAt o (c + 1) w r 64 s.out) ∧ Hid (MapAt o (c + 2) w m s.ahead) := by
  obtain ⟨r, m, hb, hc, hr, hm⟩ := h
  exact ⟨r, m, hb.cell 0, hb.cell 1, hb.cell 2, hb.cell 3, hb.cell 4, hb.cell 5, hb.cell 6, hb.cell 7, hb.cell 8, hb.lt, hb, hc, hr, hm⟩
end

theorem none_nil (w : World) : Calls Tryd.prog 76 #[.pointer none] w fun e w' => e = .returned (.bool true) ∧ w = w' := by
  go_enter Tryd.func76, Tryd.ntmps76
  go_wp2
  go_ret
  exact ⟨rfl, rfl⟩
theorem none_zero (w : World) (p : Nat) (h : w.cell? ⟨p, 4, none⟩ = some (.pointer none)) : Calls Tryd.prog 76 #[.pointer (some ⟨p, 0, none⟩)] w fun e w' => e = .returned (.bool true) ∧ w = w' := by
  go_enter Tryd.func76, Tryd.ntmps76
  go_wp2
  go_ret
  exact ⟨rfl, rfl⟩
theorem none_some (w : World) (p r : Nat) (h : w.cell? ⟨p, 4, none⟩ = some (.pointer (some ⟨r, 0, none⟩))) : Calls Tryd.prog 76 #[.pointer (some ⟨p, 0, none⟩)] w fun e w' => e = .returned (.bool false) ∧ w = w' := by
  go_enter Tryd.func76, Tryd.ntmps76
  go_wp2
  go_ret
  exact ⟨rfl, rfl⟩

def St.new (self peer life : Int) : St := ⟨self, peer, life, 0, [], 0, 0, [], false⟩
/-- the blocks of a new session: the ring's first, then the map, then the session itself -/
def tint (o : Nat → Nat) (n k m c : Nat) : Nat → Nat := fun x => if x < n then o x else if x < k then c + 1 else if x = k then c + 2 else if x < m then c else o x
set_option maxHeartbeats 400000 in
theorem snew_any (o : Nat → Nat) (c : Nat) (a b l : Int) (w : World) :
    Calls Tryd.prog 54 #[.int .i64 a, .int .i64 b, .int .i64 l] w fun e w' => ∃ p o', e = .returned (.pointer (some ⟨p, 0, none⟩)) ∧ SessAt o' c w' p (St.new a b l) ∧ Below w.heap.size w w' ∧ ∀ C, Step o C w o' w' := by
  have hmm := @run_makeMap Tryd.prog
  go_enter Tryd.func54, Tryd.ntmps54
  go_wp2_with (go_at_call 75; refine (rnew_any o (c + 1) _ (by omega) (by omega) _).mono ?_; rintro e w1 ⟨rfl, hr1, hb1⟩)
  go_ret
  have hlt := hr1.lt
  have hs := hb1.size
  have hcol : ∀ k, k < w1.heap.size → tint o w.heap.size w1.heap.size (w1.heap.size + 1 + 1) c k = band o w.heap.size w1.heap.size (c + 1) k := fun k hk => by
    unfold band tint
    by_cases h : w.heap.size ≤ k
    · rw [if_neg (by omega), if_pos hk, if_pos ⟨h, hk⟩]
    · rw [if_pos (by omega), if_neg (by omega)]
  have e1 : (w1.alloc (.map #[] 0)).heap.size = w1.heap.size + 1 := by simp
  have e2 : ((w1.alloc (.map #[] 0)).alloc (Obj.cells ((St.new a b l).cells w.heap.size w1.heap.size) 125)).heap.size = w1.heap.size + 1 + 1 := by simp
  have hb2 : Blk ((w1.alloc (.map #[] 0)).alloc (Obj.cells ((St.new a b l).cells w.heap.size w1.heap.size) 125)) (w1.heap.size + 1) 125 ((St.new a b l).cells w.heap.size w1.heap.size) := by
    rw [← e1]
    exact Blk.new _ _ _
  have h1 := ((hr1.color hcol).alloc (.map #[] 0)).alloc (Obj.cells ((St.new a b l).cells w.heap.size w1.heap.size) 125)
  have h2 := (MapAt.new (tint o w.heap.size w1.heap.size (w1.heap.size + 1 + 1) c) w1).below_ ((Below.refl _ _).alloc (Nat.le_refl _) (Obj.cells ((St.new a b l).cells w.heap.size w1.heap.size) 125))
  have h4 : tint o w.heap.size w1.heap.size (w1.heap.size + 1 + 1) c w1.heap.size = c + 2 := by unfold tint; rw [if_neg (by omega), if_neg (by omega), if_pos rfl]
  rw [h4] at h2
  have h3 : tint o w.heap.size w1.heap.size (w1.heap.size + 1 + 1) c (w1.heap.size + 1) = c := by unfold tint; rw [if_neg (by omega), if_neg (by omega), if_neg (by omega), if_pos (by omega)]
  have hbl : Below w.heap.size w ((w1.alloc (.map #[] 0)).alloc (Obj.cells ((St.new a b l).cells w.heap.size w1.heap.size) 125)) := (hb1.alloc hb1.size _).alloc (by rw [e1]; omega) _
  exact ⟨w1.heap.size + 1, tint o w.heap.size w1.heap.size (w1.heap.size + 1 + 1) c, rfl, ⟨w.heap.size, w1.heap.size, hb2, h3, h1, h2⟩, hbl, fun C => ⟨hbl.os, hbl.tape, hbl.output, hbl.size, fun k hk => by unfold tint; rw [if_pos hk], fun k hk => by simp at hk; unfold tint; rw [if_neg (by omega), if_neg (by omega), if_neg (by omega), if_neg (by omega)], fun k hk _ => hbl.block k hk⟩⟩

def St.frame (s : St) : Fr := ⟨s.self, s.peer, s.mine, s.yours, 0, s.heard, ⟨#[]⟩, false⟩
set_option maxHeartbeats 1000000 in
theorem frame_any {o : Nat → Nat} {c : Nat} {w : World} {p : Nat} {s : St} (h : SessAt o c w p s) :
    Calls Tryd.prog 80 #[.pointer (some ⟨p, 0, none⟩)] w fun e w' => e = .returned s.frame.agg ∧ Below w.heap.size w w' := by
  obtain ⟨r, m, h0, h1, h2, h3, h4, h5, h6, h7, h8, hlt, HB, HC, HR, HM⟩ := h.open_
  clear h
  go_enter Tryd.func80, Tryd.ntmps80
  go_wp2
  go_region
  go_wp2
  refine bodyPost_ret (v := s.frame.agg) (by simp [results, Tryd.results80, go_sem, Fr.agg, St.frame]) rfl ⟨rfl, ?_⟩
  exact ((Below.refl _ _).alloc (Nat.le_refl _) _).drew
end Go.Proofs.YtoploimpfhnanaaDoor
