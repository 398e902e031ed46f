/- The session's methods once more, in the form that the laws use; a nil session and a zero one. -/
import Derived.Test.YtoegkgebmldhaaaSessG
namespace Go.Proofs.Ytoegkgebmldhaaa
open Go.RowKit

section
variable {o : Nat → Nat} {c d : Nat} {w : World} {p : Nat} {s s' : St} {F : List Fr}
theorem out_as (h : SessAt o c w p s) (hf : Fut o w) (hc : 1 ≤ c) (hd : 1 ≤ d) (hdc : d < c ∨ c + 2 < d) (hl : s.out.length ≤ 64) (h1 : s.outF = F) (h2 : s.outS = s') :
    Calls Try.prog 12 #[.pointer (some ⟨p, 0, none⟩)] w fun e w' => ∃ A cap o', e = .returned (.slice A F.length cap) ∧ OwnS o' d w' 34 8 (.slice A F.length cap) F.length (fcells F) ∧ F.length ≤ cap ∧ SessAt o' c w' p s' ∧ Step o (trio c) w o' w' := by
  subst h1 h2
  refine (out_any h hf hc hd hdc hl).mono ?_
  rintro e w' ⟨v, o', rfl, h3, h4, h5⟩
  obtain ⟨A, cap, rfl, hn, _⟩ := own_form h3
  exact ⟨A, cap, o', rfl, h3, hn, h4, h5⟩
theorem tick_as (h : SessAt o c w p s) (hf : Fut o w) (hc : 1 ≤ c) (hd : 1 ≤ d) (hdc : d < c ∨ c + 2 < d) (hl : s.out.length ≤ 64) (hage : ∀ x ∈ s.out, 0 ≤ x.age ∧ x.age ≤ 1000) (h1 : s.tickS.outF = F) (h2 : s.tickS.outS = s') :
    Calls Try.prog 10 #[.pointer (some ⟨p, 0, none⟩)] w fun e w' => ∃ A cap o', e = .returned (.slice A F.length cap) ∧ OwnS o' d w' 34 8 (.slice A F.length cap) F.length (fcells F) ∧ F.length ≤ cap ∧ SessAt o' c w' p s' ∧ Step o (trio c) w o' w' := by
  subst h1 h2
  refine (tick_any h hf hc hd hdc hl hage).mono ?_
  rintro e w' ⟨v, o', rfl, h3, h4, h5⟩
  obtain ⟨A, cap, rfl, hn, _⟩ := own_form h3
  exact ⟨A, cap, o', rfl, h3, hn, h4, h5⟩
theorem take_as {f : Fr} {T : List ByteArray} (h : SessAt o c w p s) (hf : Fut o w) (hc : 1 ≤ c) (hd : 1 ≤ d) (hdc : d < c ∨ c + 2 < d) (hl : s.out.length ≤ 64)
    (hF : f.From = s.peer) (hT : f.To = s.self) (hM : 1 ≤ f.Mine) (hY : s.yours ≤ f.Mine) (hYm : f.Yours ≤ s.mine)
    (hSq : 0 ≤ f.Seq ∧ f.Seq ≤ 1000000000000) (hHd : 0 ≤ (s.takeS1 f).heard ∧ (s.takeS1 f).heard ≤ 1000000000000) (hAl : (s.takeS1 f).ahead.length ≤ 100000) (hDt : f.Data.size ≤ 3000) (h1 : s.takeF f = (T, s')) :
    Calls Try.prog 11 #[.pointer (some ⟨p, 0, none⟩), .agg #[.int .i64 f.From, .int .i64 f.To, .int .i64 f.Mine, .int .i64 f.Yours, .int .i64 f.Seq, .int .i64 f.Ack, .string f.Data, .bool f.Has]] w fun e w' => ∃ A cap o', e = .returned (.tuple #[.slice A T.length cap, .bool true]) ∧ OwnS o' d w' 9 1 (.slice A T.length cap) T.length (T.map Value.string) ∧ T.length ≤ cap ∧ SessAt o' c w' p s' ∧ Step o (trio c) w o' w' := by
  refine (take_any h hf hc hd hdc hl f hF hT hM hY hYm hSq hHd hAl hDt).mono ?_
  rintro e w' ⟨v, o', rfl, h3, h4, h5⟩
  rw [h1] at h3 h4
  obtain ⟨A, cap, rfl, hn, _⟩ := own_form h3
  exact ⟨A, cap, o', rfl, h3, hn, h4, h5⟩
end

theorem waiting_nil (w : World) : Calls Try.prog 14 #[.pointer none] w fun e w' => e = .returned (.int .i64 0) ∧ w = w' := by
  go_enter Try.func14, Try.ntmps14
  go_wp2_with (go_at_call 19; refine (none_nil _).mono ?_; rintro e w' ⟨rfl, rfl⟩)
  go_ret
  exact ⟨rfl, rfl⟩
theorem waiting_zero (w : World) (p : Nat) (h : w.cell? ⟨p, 4, none⟩ = some (.pointer none)) : Calls Try.prog 14 #[.pointer (some ⟨p, 0, none⟩)] w fun e w' => e = .returned (.int .i64 0) ∧ w = w' := by
  go_enter Try.func14, Try.ntmps14
  go_wp2_with (go_at_call 19; refine (none_zero _ _ h).mono ?_; rintro e w' ⟨rfl, rfl⟩)
  go_ret
  exact ⟨rfl, rfl⟩
theorem life_nil (w : World) : Calls Try.prog 16 #[.pointer none] w fun e w' => e = .returned (.int .i64 0) ∧ w = w' := by
  go_enter Try.func16, Try.ntmps16
  go_wp2
  go_ret
  exact ⟨rfl, rfl⟩
theorem peer_nil (w : World) : Calls Try.prog 17 #[.pointer none] w fun e w' => e = .returned (.int .i64 0) ∧ w = w' := by
  go_enter Try.func17, Try.ntmps17
  go_wp2
  go_ret
  exact ⟨rfl, rfl⟩
theorem send_nil (w : World) (s : ByteArray) : Calls Try.prog 9 #[.pointer none, .string s] w fun e w' => e = .returned (.int .i64 1) ∧ w = w' := by
  go_enter Try.func9, Try.ntmps9
  go_wp2_with (go_at_call 19; refine (none_nil _).mono ?_; rintro e w' ⟨rfl, rfl⟩)
  go_ret
  exact ⟨rfl, rfl⟩
theorem send_zero (w : World) (p : Nat) (h : w.cell? ⟨p, 4, none⟩ = some (.pointer none)) (s : ByteArray) : Calls Try.prog 9 #[.pointer (some ⟨p, 0, none⟩), .string s] w fun e w' => e = .returned (.int .i64 1) ∧ w = w' := by
  go_enter Try.func9, Try.ntmps9
  go_wp2_with (go_at_call 19; refine (none_zero _ _ h).mono ?_; rintro e w' ⟨rfl, rfl⟩)
  go_ret
  exact ⟨rfl, rfl⟩
theorem out_nil (w : World) : Calls Try.prog 12 #[.pointer none] w fun e w' => e = .returned (.slice none 0 0) ∧ w = w' := by
  go_enter Try.func12, Try.ntmps12
  go_wp2_with (go_at_call 19; refine (none_nil _).mono ?_; rintro e w' ⟨rfl, rfl⟩)
  go_ret
  exact ⟨rfl, rfl⟩
theorem out_zero (w : World) (p : Nat) (h : w.cell? ⟨p, 4, none⟩ = some (.pointer none)) : Calls Try.prog 12 #[.pointer (some ⟨p, 0, none⟩)] w fun e w' => e = .returned (.slice none 0 0) ∧ w = w' := by
  go_enter Try.func12, Try.ntmps12
  go_wp2_with (go_at_call 19; refine (none_zero _ _ h).mono ?_; rintro e w' ⟨rfl, rfl⟩)
  go_ret
  exact ⟨rfl, rfl⟩
theorem tick_nil (w : World) : Calls Try.prog 10 #[.pointer none] w fun e w' => e = .returned (.slice none 0 0) ∧ w = w' := by
  go_enter Try.func10, Try.ntmps10
  go_wp2_with (go_at_call 19; refine (none_nil _).mono ?_; rintro e w' ⟨rfl, rfl⟩)
  go_ret
  exact ⟨rfl, rfl⟩
set_option maxRecDepth 100000 in
set_option maxHeartbeats 2000000 in
theorem take_nil (w : World) (a b c d e g : Int) (s : ByteArray) (h : Bool) : Calls Try.prog 11 #[.pointer none, .agg #[.int .i64 a, .int .i64 b, .int .i64 c, .int .i64 d, .int .i64 e, .int .i64 g, .string s, .bool h]] w fun x w' => x = .returned (.tuple #[.slice none 0 0, .bool false]) ∧ Below w.heap.size w w' := by
  go_enter Try.func11, Try.ntmps11
  go_wp2_with fail
  go_quiet ((go_at_call 19; exact Calls.quiet_of_same ((none_nil _).mono (fun _ _ ⟨a, b⟩ => ⟨a, b.symm⟩))))
  go_wp2_with fail
  go_ret2
  have h9 := (Below.refl w.heap.size w).alloc (Nat.le_refl _) (.cells #[.int .i64 a, .int .i64 b, .int .i64 c, .int .i64 d, .int .i64 e, .int .i64 g, .string s, .bool h] 34)
  exact ⟨rfl, ⟨h9.os, h9.tape, h9.output, h9.size, h9.block⟩⟩
end Go.Proofs.Ytoegkgebmldhaaa
