/- The session's methods once more, in the form that the laws use; a nil session and a zero one. -/
import Derived.Test.YtoploimpfhnanaaDoorSessG
namespace Go.Proofs.YtoploimpfhnanaaDoor
open Go.RowKit

section
variable {o : Nat → Nat} {c d : Nat} {w : World} {p : Nat} {s s' : St} {F : List Fr}
theorem out_as (h : SessAt o c w p s) (hf : Fut o w) (hc : 1 ≤ c) (hd : 1 ≤ d) (hdc : d < c ∨ c + 2 < d) (hl : s.out.length ≤ 64) (h1 : s.outF = F) (h2 : s.outS = s') :
    Calls Tryd.prog 56 #[.pointer (some ⟨p, 0, none⟩)] w fun e w' => ∃ A cap o', e = .returned (.slice A F.length cap) ∧ OwnS o' d w' 58 8 (.slice A F.length cap) F.length (fcells F) ∧ F.length ≤ cap ∧ SessAt o' c w' p s' ∧ Step o (trio c) w o' w' := by
  subst h1 h2
  refine (out_any h hf hc hd hdc hl).mono ?_
  rintro e w' ⟨v, o', rfl, h3, h4, h5⟩
  obtain ⟨A, cap, rfl, hn, _⟩ := own_form h3
  exact ⟨A, cap, o', rfl, h3, hn, h4, h5⟩
theorem take_as {f : Fr} {T : List ByteArray} (h : SessAt o c w p s) (hf : Fut o w) (hc : 1 ≤ c) (hd : 1 ≤ d) (hdc : d < c ∨ c + 2 < d) (hl : s.out.length ≤ 64)
    (hF : f.From = s.peer) (hT : f.To = s.self) (hM : 1 ≤ f.Mine) (hY : s.yours ≤ f.Mine) (hYm : f.Yours ≤ s.mine)
    (hSq : 0 ≤ f.Seq ∧ f.Seq ≤ 1000000000000) (hHd : 0 ≤ (s.takeS1 f).heard ∧ (s.takeS1 f).heard ≤ 1000000000000) (hAl : (s.takeS1 f).ahead.length ≤ 100000) (hDt : f.Data.size ≤ 3000) (h1 : s.takeF f = (T, s')) :
    Calls Tryd.prog 57 #[.pointer (some ⟨p, 0, none⟩), .agg #[.int .i64 f.From, .int .i64 f.To, .int .i64 f.Mine, .int .i64 f.Yours, .int .i64 f.Seq, .int .i64 f.Ack, .string f.Data, .bool f.Has]] w fun e w' => ∃ A cap o', e = .returned (.tuple #[.slice A T.length cap, .bool true]) ∧ OwnS o' d w' 9 1 (.slice A T.length cap) T.length (T.map Value.string) ∧ T.length ≤ cap ∧ SessAt o' c w' p s' ∧ Step o (trio c) w o' w' := by
  refine (take_any h hf hc hd hdc hl f hF hT hM hY hYm hSq hHd hAl hDt).mono ?_
  rintro e w' ⟨v, o', rfl, h3, h4, h5⟩
  rw [h1] at h3 h4
  obtain ⟨A, cap, rfl, hn, _⟩ := own_form h3
  exact ⟨A, cap, o', rfl, h3, hn, h4, h5⟩
end

theorem send_nil (w : World) (s : ByteArray) : Calls Tryd.prog 55 #[.pointer none, .string s] w fun e w' => e = .returned (.int .i64 1) ∧ w = w' := by
  go_enter Tryd.func55, Tryd.ntmps55
  go_wp2_with (go_at_call 76; refine (none_nil _).mono ?_; rintro e w' ⟨rfl, rfl⟩)
  go_ret
  exact ⟨rfl, rfl⟩
theorem send_zero (w : World) (p : Nat) (h : w.cell? ⟨p, 4, none⟩ = some (.pointer none)) (s : ByteArray) : Calls Tryd.prog 55 #[.pointer (some ⟨p, 0, none⟩), .string s] w fun e w' => e = .returned (.int .i64 1) ∧ w = w' := by
  go_enter Tryd.func55, Tryd.ntmps55
  go_wp2_with (go_at_call 76; refine (none_zero _ _ h).mono ?_; rintro e w' ⟨rfl, rfl⟩)
  go_ret
  exact ⟨rfl, rfl⟩
theorem out_nil (w : World) : Calls Tryd.prog 56 #[.pointer none] w fun e w' => e = .returned (.slice none 0 0) ∧ w = w' := by
  go_enter Tryd.func56, Tryd.ntmps56
  go_wp2_with (go_at_call 76; refine (none_nil _).mono ?_; rintro e w' ⟨rfl, rfl⟩)
  go_ret
  exact ⟨rfl, rfl⟩
theorem out_zero (w : World) (p : Nat) (h : w.cell? ⟨p, 4, none⟩ = some (.pointer none)) : Calls Tryd.prog 56 #[.pointer (some ⟨p, 0, none⟩)] w fun e w' => e = .returned (.slice none 0 0) ∧ w = w' := by
  go_enter Tryd.func56, Tryd.ntmps56
  go_wp2_with (go_at_call 76; refine (none_zero _ _ h).mono ?_; rintro e w' ⟨rfl, rfl⟩)
  go_ret
  exact ⟨rfl, rfl⟩
set_option maxRecDepth 100000 in
set_option maxHeartbeats 2000000 in
theorem take_nil (w : World) (a b c d e g : Int) (s : ByteArray) (h : Bool) : Calls Tryd.prog 57 #[.pointer none, .agg #[.int .i64 a, .int .i64 b, .int .i64 c, .int .i64 d, .int .i64 e, .int .i64 g, .string s, .bool h]] w fun x w' => x = .returned (.tuple #[.slice none 0 0, .bool false]) ∧ Below w.heap.size w w' := by
  go_enter Tryd.func57, Tryd.ntmps57
  go_wp2_with fail
  go_quiet ((go_at_call 76; exact Calls.quiet_of_same ((none_nil _).mono (fun _ _ ⟨a, b⟩ => ⟨a, b.symm⟩))))
  go_wp2_with fail
  go_ret2
  have h9 := (Below.refl w.heap.size w).alloc (Nat.le_refl _) (.cells #[.int .i64 a, .int .i64 b, .int .i64 c, .int .i64 d, .int .i64 e, .int .i64 g, .string s, .bool h] 58)
  exact ⟨rfl, ⟨h9.os, h9.tape, h9.output, h9.size, h9.block⟩⟩
end Go.Proofs.YtoploimpfhnanaaDoor
