/- A session in memory: Take of a frame of an elder life is refused, and leaves the session as it was; Take in one form for both. -/
import Derived.Test.YtoegkgebmldhaaaSessI
namespace Go.Proofs.Ytoegkgebmldhaaa
open Go.RowKit

set_option maxRecDepth 100000 in
set_option maxHeartbeats 4000000 in
theorem take_ref {o : Nat → Nat} {c : Nat} {w : World} {p : Nat} {s : St} (h : SessAt o c w p s) (f : Fr) (hF : f.From = s.peer) (hT : f.To = s.self) (hM : 1 ≤ f.Mine) (hY : f.Mine < s.yours) :
    Calls Try.prog 11 #[.pointer (some ⟨p, 0, none⟩), .agg #[.int .i64 f.From, .int .i64 f.To, .int .i64 f.Mine, .int .i64 f.Yours, .int .i64 f.Seq, .int .i64 f.Ack, .string f.Data, .bool f.Has]] w fun e w' => e = .returned (.tuple #[.slice none 0 0, .bool false]) ∧ SessAt o c w' p s ∧ Step o (trio c) w o w' := by
  have HS := Lib.hid h
  obtain ⟨r, m, h0, h1, h2, h3, h4, h5, h6, h7, h8, hlt, HB, HC, HR, HM⟩ := h.open_
  clear h
  have t1 : (f.From != s.peer) = false := by simp [hF]
  have t2 : (f.To != s.self) = false := by simp [hT]
  have t3 : ¬ f.Mine < 1 := by omega
  have t3d : decide (f.Mine < 1) = false := by simp; omega
  have t4d : decide (f.Mine < s.yours) = true := by simpa using hY
  clear hF hT
  go_enter Try.func11, Try.ntmps11
  go_wp2_with fail
  go_quiet ((go_at_call 19; exact Calls.quiet_of_same ((none_some _ _ _ (by first | exact (World.cell?_alloc_lt _ _ _ hlt).trans h4 | simpa using h4)).mono (fun _ _ ⟨a, b⟩ => ⟨a, b.symm⟩))))
  go_wp2_with fail
  go_ret2
  exact ⟨rfl, (HS.out.alloc _).drewN _, ((Step.refl o (trio c) w).alloc _).drewN _⟩

/-- what Take tells, and leaves, of whatever life the frame is -/
def St.takeL (s : St) (f : Fr) : List ByteArray × St := if f.Mine < s.yours then ([], s) else s.takeF f
structure OkL (s : St) (f : Fr) : Prop where
  From : f.From = s.peer
  To : f.To = s.self
  Mine : 1 ≤ f.Mine
  Yours : f.Yours ≤ s.mine
  Seq : 0 ≤ f.Seq ∧ f.Seq ≤ 1000000000000
  heard : 0 ≤ (s.takeS1 f).heard ∧ (s.takeS1 f).heard ≤ 1000000000000
  ahead : (s.takeS1 f).ahead.length ≤ 100000
  Data : f.Data.size ≤ 3000
theorem take_l {o : Nat → Nat} {c d : Nat} {w : World} {p : Nat} {s s' : St} {f : Fr} {T : List ByteArray} (h : SessAt o c w p s) (hf : Fut o w) (hc : 1 ≤ c) (hd : 1 ≤ d) (hdc : d < c ∨ c + 2 < d) (hl : s.out.length ≤ 64) (k : OkL s f) (h1 : s.takeL f = (T, s')) :
    Calls Try.prog 11 #[.pointer (some ⟨p, 0, none⟩), .agg #[.int .i64 f.From, .int .i64 f.To, .int .i64 f.Mine, .int .i64 f.Yours, .int .i64 f.Seq, .int .i64 f.Ack, .string f.Data, .bool f.Has]] w fun e w' => ∃ A cap ok o', e = .returned (.tuple #[.slice A T.length cap, .bool ok]) ∧ OwnS o' d w' 9 1 (.slice A T.length cap) T.length (T.map Value.string) ∧ T.length ≤ cap ∧ SessAt o' c w' p s' ∧ Step o (trio c) w o' w' := by
  unfold St.takeL at h1
  by_cases hy : f.Mine < s.yours
  · rw [if_pos hy] at h1
    injection h1 with h1 h2
    subst h1 h2
    refine (take_ref h f k.From k.To k.Mine hy).mono ?_
    rintro e w' ⟨rfl, h3, h4⟩
    exact ⟨none, 0, false, o, rfl, OwnS.nil _ _ _ _ _, Nat.le_refl _, h3, h4⟩
  · rw [if_neg hy] at h1
    refine (take_as h hf hc hd hdc hl k.From k.To k.Mine (by omega) k.Yours k.Seq k.heard k.ahead k.Data h1).mono ?_
    rintro e w' ⟨A, cap, o', rfl, h3, h4, h5, h6⟩
    exact ⟨A, cap, true, o', rfl, h3, h4, h5, h6⟩

end Go.Proofs.Ytoegkgebmldhaaa
