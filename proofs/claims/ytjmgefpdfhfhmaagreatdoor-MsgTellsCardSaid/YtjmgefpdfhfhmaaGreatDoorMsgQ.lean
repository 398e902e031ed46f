/- MsgTells' book: Msgs lays one more list of one message. -/
import Derived.Test.YtjmgefpdfhfhmaaGreatDoorMsgN

/- MsgTells' book: copyMsgs of a list of one message. -/
namespace Go.Proofs.YtjmgefpdfhfhmaaGreatDoor
open Go.RowKit

theorem mg_one (m : Mg) (B : Option Addr) (cb : Nat) : ∀ u ∈ m.cells B cb, u.oneCell' = true := by
  simp [Mg.cells, Value.oneCell']
theorem own_new {g n cap : Nat} {w : World} (h : (Value.slice (some ⟨g, 0, none⟩) n cap).ownBlock = (Value.slice none 0 0).ownBlock ∨ (Value.slice (some ⟨g, 0, none⟩) n cap).ownBlock = some w.heap.size) : w.heap.size ≤ g := by
  rcases h with h | h
  · simp [Value.ownBlock] at h
  · simp only [Value.ownBlock, Option.some.injEq] at h
    omega
theorem after_lock {o o1 o2 : Nat → Nat} {w w1 w2 : World} {g cap cR cL : Nat} {m : Mg} {B B2 : Option Addr} {cb cb2 : Nat} (how : OwnS o1 cR w1 26 8 (.slice (some ⟨g, 0, none⟩) 1 cap) 1 (m.cells B cb)) (hs : Step o (fun _ => False) w o1 w1) (hs2 : Step o1 (fun _ => False) w1 o2 w2) (hg : w.heap.size ≤ g)
    (how2 : OwnS o2 cL w2 68 3 (.slice B2 m.locks.length cb2) m.locks.length (lkcells m.locks)) :
    (∃ u, w2.cell? ⟨g, 7, none⟩ = some u) ∧ w2.frozen? ⟨g, 7, none⟩ = false ∧ OwnS o2 cR (w2.setCell ⟨g, 7, none⟩ (.slice B2 m.locks.length cb2)) 26 8 (.slice (some ⟨g, 0, none⟩) 1 cap) 1 (m.cells B2 cb2) ∧ OwnS o2 cL (w2.setCell ⟨g, 7, none⟩ (.slice B2 m.locks.length cb2)) 68 3 (.slice B2 m.locks.length cb2) m.locks.length (lkcells m.locks) ∧ Step o (fun _ => False) w o2 (w2.setCell ⟨g, 7, none⟩ (.slice B2 m.locks.length cb2)) := by
  obtain ⟨g', cur, e, hb, hc, h1, h2, h3, h4⟩ := (how.step hs2 id).blk (by omega)
  injection e with e
  injection e with e
  subst e
  refine ⟨hb.cell_some (by omega), hb.frozen 7, OwnS.of_blk (hb.set_ 7 _) hc h1 h2 (by simpa using h3) ?_, how2.setCell (own_blk_ne how2 hb (by decide)) _, (hs.trans hs2).setNew hg _⟩
  rw [Array.toList_setIfInBounds, List.take_set, h4]
  rfl
set_option maxRecDepth 100000 in
set_option maxHeartbeats 2000000 in
theorem copymsgs_one (o : Nat → Nat) (cR cL : Nat) (w : World) (A : Option Addr) (cap : Nat) (m : Mg) (B : Option Addr) (cb : Nat) (h : Reads w 8 A 1 (m.cells B cb)) (hb : Reads w 3 B m.locks.length (lkcells m.locks)) (hl : m.locks.length ≤ 1000) :
    Calls Tryz.prog 31 #[.slice A 1 cap] w fun e w' => ∃ g cap' B' cb' o', e = .returned (.slice (some ⟨g, 0, none⟩) 1 cap') ∧ OwnS o' cR w' 26 8 (.slice (some ⟨g, 0, none⟩) 1 cap') 1 (m.cells B' cb') ∧ OwnS o' cL w' 68 3 (.slice B' m.locks.length cb') m.locks.length (lkcells m.locks) ∧ Step o (fun _ => False) w o' w' := by
  obtain ⟨i0, hi, hz0, hz1, hz2⟩ := info_parts info_msg
  have HR := Lib.hid h
  have HB := Lib.hid hb
  clear h hb
  go_enter Tryz.func31, Tryz.ntmps31
  go_wp2_with (at_builtin; refine wpList_append_S _ rfl (.const (.slice none 0 0)) (.tmp 4) 58 rfl 26 i0 _ 8 80 Tryz.underlying58 hi hz0 hz1 hz2 rfl (by omega) (.slice none 0 0) 0 [] rfl (OwnS.nil o cR _ _ _) A 1 cap (m.cells B cb) rfl HR.out (mg_one m B cb) (by unfold maxLen; omega) (by omega) ?_; intro v' w1 hown hst hg hat; rw [Nat.zero_add, List.nil_append] at hown; obtain ⟨A2, cap2, rfl, _, _⟩ := own_form' hown; obtain ⟨g, rfl, hglt, hgc⟩ := hown.addr (by omega); have HOW := Lib.hid hown; have HST := Lib.hid (Step.of_below_band o (fun _ => False) cR ((Below.refl w.heap.size w).grown hg (Nat.le_refl _) (by simp [Value.ownBlock]))); have HG := Lib.hid (own_new hat); have HBW := Lib.hid ((Below.refl w.heap.size w).grown hg (Nat.le_refl _) (by simp [Value.ownBlock])); clear hown hst hg hat)
  go_loopw [3] (fun t3 wr => (t3 = .int .i64 0 ∧ wr = w1) ∨ (t3 = .int .i64 1 ∧ ∃ B' cb' o', OwnS o' cR wr 26 8 (.slice (some ⟨g, 0, none⟩) 1 cap2) 1 (m.cells B' cb') ∧ OwnS o' cL wr 68 3 (.slice B' m.locks.length cb') m.locks.length (lkcells m.locks) ∧ Step o (fun _ => False) w o' wr)) (fun t3 _ => 1 - (intOf t3).toNat)
  case atStart => exact .inl ⟨rfl, rfl⟩
  case round =>
    rcases hrel with ⟨rfl, rfl⟩ | ⟨rfl, B', cb', o', h1, h2, h3⟩
    · have c7 : wr.cell? ⟨g, 7, none⟩ = some (.slice B m.locks.length cb) := HOW.out.at_ (j := 7) rfl
      have HC7 := Lib.hid c7
      clear c7
      have c7 := HC7.out
      go_wp2_with fail
      refine (copylocks_any (band o w.heap.size wr.heap.size cR) cL wr B cb m.locks (HB.out.below (by decide) HBW.out) hl).mono ?_
      rintro e w2 ⟨B2, cb2, rfl, how2, hb2⟩
      obtain ⟨⟨u7, y7⟩, f7, q1, q2, q3⟩ := after_lock HOW.out HST.out (Step.of_below_band _ (fun _ => False) cL hb2) HG.out how2
      have Q1 := Lib.hid q1
      have Q2 := Lib.hid q2
      have Q3 := Lib.hid q3
      clear how2 hb2 q1 q2 q3 c7
      go_wp2_with fail
      go_roundw
      case rel => exact .inr ⟨by go_num, B2, cb2, _, Q1.out, Q2.out, Q3.out⟩
      case measure => simp [intOf]
    · have H1 := Lib.hid h1
      have H2 := Lib.hid h2
      have H3 := Lib.hid h3
      clear h1 h2 h3
      go_wp2_with fail
      go_ret
      exact ⟨g, cap2, B', cb', o', rfl, H1.out, H2.out, H3.out⟩
end Go.Proofs.YtjmgefpdfhfhmaaGreatDoor

namespace Go.Proofs.YtjmgefpdfhfhmaaGreatDoor
open Go.RowKit

theorem info_msgs : (Tryz.prog.info? 58).map (fun i => (i.zero, i.size, i.bytes)) = some (some (.slice none 0 0), 1, 24) := by kernel_rfl
theorem oneS_app (f : MK → List Value) (K : List MK) (y : MK) : oneS f (K ++ [y]) = oneS f K ++ [(1, f y)] := by simp [oneS]
theorem kept_outer_m {f : MK → List Value} {cO cI : Nat} {o : Nat → Nat} {w : World} {v : Value} {K : List MK} {vs : List Value} (h : Kept 58 26 8 cO cI o w v (oneS f K) vs) : OwnW o cO w 58 1 v K.length vs := by
  have h1 := h.outer
  rw [oneS_len] at h1
  exact h1
theorem two_steps {o o2 : Nat → Nat} {w w2 w3 : World} {c : Nat} (hs : Step o (only c) w o2 w2) (hsb : Step o2 (only 20) w2 o2 w3) : Step o (fun x => x = 20 ∨ x = c) w o2 w3 := by
  refine ⟨hsb.os.trans hs.os, hsb.tape.trans hs.tape, hsb.output.trans hs.output, Nat.le_trans hs.size hsb.size, hs.old, fun k hk2 => (hs.fut k (Nat.le_trans hsb.size hk2)), fun k hk2 hc => ?_⟩
  rw [hsb.block k (Nat.lt_of_lt_of_le hk2 hs.size) (fun e => hc (Or.inl (by rw [hs.old k hk2] at e; exact e))), hs.block k hk2 (fun e => hc (Or.inr e))]
theorem after_one_m {o o2 : Nat → Nat} {w w2 : World} {p n cap : Nat} {cs : Array Value} {K : List MK} {vs vs' : List Value} {xs : List Value} {A : Option Addr} {v v' V2 : Value} (hk : BookAt o w p cs) (k8 : Kept 58 26 8 23 3000 o w v (oneS MK.ra K) vs) (k9 : Kept 58 26 8 24 4000 o w v' (oneS MK.rb K) vs')
    (hr : OwnW o (3000 + K.length) w 26 8 (.slice A 1 cap) 1 xs) (hn : n = K.length + 1) (how : OwnW o2 23 w2 58 1 V2 n (vs ++ [.slice A 1 cap])) (hs : Step o (only 23) w o2 w2) :
    BookAt o2 (w2.setCell ⟨p, 26, none⟩ V2) p (cs.setIfInBounds 26 V2) ∧ Kept 58 26 8 23 3000 o2 (w2.setCell ⟨p, 26, none⟩ V2) V2 (oneS MK.ra K ++ [(1, xs)]) (vs ++ [.slice A 1 cap]) ∧ Kept 58 26 8 24 4000 o2 (w2.setCell ⟨p, 26, none⟩ V2) v' (oneS MK.rb K) vs' ∧ Reads (w2.setCell ⟨p, 26, none⟩ V2) 8 A 1 xs ∧ Step o (fun c => c = 20 ∨ c = 23) w o2 (w2.setCell ⟨p, 26, none⟩ V2) := by
  subst hn
  have hb2 := hk.step hs (by unfold only; omega)
  have hsb : Step o2 (only 20) w2 o2 (w2.setCell ⟨p, 26, none⟩ V2) := (Step.refl o2 (only 20) w2).setCell (p := ⟨p, 26, none⟩) hb2.2 _
  refine ⟨hb2.set_ 26 V2, ?_, ?_, ?_, two_steps hs hsb⟩
  · exact (k8.more (by rw [oneS_len]; exact how) hs (by rw [oneS_len]; exact hr) (fun i _ => by omega)).step hsb (by unfold only; omega) (fun i _ => by unfold only; omega)
  · exact (k9.step hs (by unfold only; omega) (fun i _ => by unfold only; omega)).step hsb (by unfold only; omega) (fun i _ => by unfold only; omega)
  · exact OwnW.reads ((hr.step hs (by unfold only; omega)).step hsb (by unfold only; omega))
theorem after_two_m {o o2 : Nat → Nat} {w w2 : World} {p n cap : Nat} {cs : Array Value} {K : List MK} {vs vs' : List Value} {y : MK} {A : Option Addr} {v v' V2 : Value} {S1 : List (Nat × List Value)} (hk : BookAt o w p cs) (k8 : Kept 58 26 8 23 3000 o w v S1 vs) (k9 : Kept 58 26 8 24 4000 o w v' (oneS MK.rb K) vs')
    (hr : OwnW o (4000 + K.length) w 26 8 (.slice A 1 cap) 1 y.rb) (hl : OwnW o (5000 + K.length) w 68 3 (.slice y.B y.m.locks.length y.cb) y.m.locks.length (lkcells y.m.locks)) (hn : n = K.length + 1) (how : OwnW o2 24 w2 58 1 V2 n (vs' ++ [.slice A 1 cap])) (hs : Step o (only 24) w o2 w2) :
    BookAt o2 (w2.setCell ⟨p, 27, none⟩ V2) p (cs.setIfInBounds 27 V2) ∧ Kept 58 26 8 23 3000 o2 (w2.setCell ⟨p, 27, none⟩ V2) v S1 vs ∧ Kept 58 26 8 24 4000 o2 (w2.setCell ⟨p, 27, none⟩ V2) V2 (oneS MK.rb (K ++ [y])) (vs' ++ [.slice A 1 cap]) ∧ OwnW o2 (5000 + K.length) (w2.setCell ⟨p, 27, none⟩ V2) 68 3 (.slice y.B y.m.locks.length y.cb) y.m.locks.length (lkcells y.m.locks) ∧ Step o (fun c => c = 20 ∨ c = 24) w o2 (w2.setCell ⟨p, 27, none⟩ V2) := by
  subst hn
  have hb2 := hk.step hs (by unfold only; omega)
  have hsb : Step o2 (only 20) w2 o2 (w2.setCell ⟨p, 27, none⟩ V2) := (Step.refl o2 (only 20) w2).setCell (p := ⟨p, 27, none⟩) hb2.2 _
  refine ⟨hb2.set_ 27 V2, ?_, ?_, ?_, two_steps hs hsb⟩
  · exact (k8.step hs (by unfold only; omega) (fun i _ => by unfold only; omega)).step hsb (by unfold only; omega) (fun i _ => by unfold only; omega)
  · rw [oneS_app]
    exact (k9.more (by rw [oneS_len]; exact how) hs (by rw [oneS_len]; exact hr) (fun i _ => by omega)).step hsb (by unfold only; omega) (fun i _ => by unfold only; omega)
  · exact ((hl.step hs (by unfold only; omega)).step hsb (by unfold only; omega))
theorem after_copy_m {o o1 : Nat → Nat} {W w1 : World} {p : Nat} {cs : Array Value} {K : List MK} {vs vs' : List Value} {v v' x : Value} {S1 : List (Nat × List Value)} (hk : BookAt o W p cs) (hx : cs[27]? = some x) (k8 : Kept 58 26 8 23 3000 o W v S1 vs) (k9 : Kept 58 26 8 24 4000 o W v' (oneS MK.rb K) vs') (hs : Step o (fun _ => False) W.drew o1 w1) :
    BookAt o1 w1 p cs ∧ w1.cell? ⟨p, 27, none⟩ = some x ∧ Kept 58 26 8 23 3000 o1 w1 v S1 vs ∧ Kept 58 26 8 24 4000 o1 w1 v' (oneS MK.rb K) vs' ∧ Step o (fun _ => False) W o1 w1 := by
  have hs := hs.of_drew
  have h1 := hk.step hs id
  exact ⟨h1, (h1.1.cell 27).trans hx, k8.step hs id (fun _ _ => id), k9.step hs id (fun _ _ => id), hs⟩
theorem after_app_m {o o2 : Nat → Nat} {w w2 : World} {p : Nat} {cs : Array Value} {x : Value} (hk : BookAt o w p cs) (hx : cs[27]? = some x) (hs : Step o (only 24) w o2 w2) : w2.cell? ⟨p, 27, none⟩ = some x ∧ w2.frozen? ⟨p, 27, none⟩ = false :=
  ⟨((hk.step hs (by unfold only; omega)).1.cell 27).trans hx, (hk.step hs (by unfold only; omega)).1.frozen 27⟩
theorem not_two {c : Nat} (h : c ≠ 20 ∧ c ≠ 23) : ¬ (c = 20 ∨ c = 23) := by omega
theorem fin_m {o o6 : Nat → Nat} {w W : World} {p : Nat} {cs : Array Value} {K : List MK} {vs vs' : List Value} {m : Mg} {B B4 : Option Addr} {cb cb4 : Nat} {v2 v2' u u' : Value} (hb : BookAt o6 W p ((cs.setIfInBounds 26 v2).setIfInBounds 27 v2')) (k8 : Kept 58 26 8 23 3000 o6 W v2 (oneS MK.ra K ++ [(1, m.cells B cb)]) (vs ++ [u]))
    (k9 : Kept 58 26 8 24 4000 o6 W v2' (oneS MK.rb (K ++ [⟨m, B, cb, B4, cb4⟩])) (vs' ++ [u'])) (hl : OwnW o6 (5000 + K.length) W 68 3 (.slice B4 m.locks.length cb4) m.locks.length (lkcells m.locks)) (hs : Step o (fun c => c = 20 ∨ c = 23 ∨ c = 24) w o6 W) :
    ∃ o' B' cb' u u' v2 v2', BookAt o' W p ((cs.setIfInBounds 26 v2).setIfInBounds 27 v2') ∧ Kept 58 26 8 23 3000 o' W v2 (oneS MK.ra (K ++ [⟨m, B, cb, B', cb'⟩])) (vs ++ [u]) ∧ Kept 58 26 8 24 4000 o' W v2' (oneS MK.rb (K ++ [⟨m, B, cb, B', cb'⟩])) (vs' ++ [u']) ∧ OwnW o' (5000 + K.length) W 68 3 (.slice B' m.locks.length cb') m.locks.length (lkcells m.locks) ∧ Step o (fun c => c = 20 ∨ c = 23 ∨ c = 24) w o' W :=
  ⟨o6, B4, cb4, u, u', v2, v2', hb, by rw [oneS_app]; exact k8, k9, hl, hs⟩
set_option maxRecDepth 100000 in
set_option maxHeartbeats 2000000 in
theorem bmsgs_any (o : Nat → Nat) (w : World) (p : Nat) (cs : Array Value) (v v' : Value) (K : List MK) (vs vs' : List Value) (m : Mg) (B : Option Addr) (cb : Nat) (A : Option Addr) (cap : Nat)
    (hk : BookAt o w p cs) (h8 : w.cell? ⟨p, 26, none⟩ = some v) (h9 : w.cell? ⟨p, 27, none⟩ = some v') (k8 : Kept 58 26 8 23 3000 o w v (oneS MK.ra K) vs) (k9 : Kept 58 26 8 24 4000 o w v' (oneS MK.rb K) vs')
    (hr : OwnW o (3000 + K.length) w 26 8 (.slice A 1 cap) 1 (m.cells B cb)) (cB : Nat) (hrb : OwnW o cB w 68 3 (.slice B m.locks.length cb) m.locks.length (lkcells m.locks)) (hcB : cB ≠ 20 ∧ cB ≠ 23) (hl : m.locks.length ≤ 1000) (hL : K.length < 250) :
    Calls Tryz.prog 12 #[.pointer (some ⟨p, 0, none⟩), .slice A 1 cap] w fun e w' => e = .returned (.tuple #[]) ∧ ∃ o' B' cb' u u' v2 v2', BookAt o' w' p ((cs.setIfInBounds 26 v2).setIfInBounds 27 v2') ∧ Kept 58 26 8 23 3000 o' w' v2 (oneS MK.ra (K ++ [⟨m, B, cb, B', cb'⟩])) (vs ++ [u]) ∧ Kept 58 26 8 24 4000 o' w' v2' (oneS MK.rb (K ++ [⟨m, B, cb, B', cb'⟩])) (vs' ++ [u']) ∧ OwnW o' (5000 + K.length) w' 68 3 (.slice B' m.locks.length cb') m.locks.length (lkcells m.locks) ∧ Step o (fun c => c = 20 ∨ c = 23 ∨ c = 24) w o' w' := by
  obtain ⟨i0, hi, hz0, hz1, hz2⟩ := info_parts info_msgs
  obtain ⟨A8, cap8, e8, _, _⟩ := k8.outer.form
  obtain ⟨A9, cap9, e9, _, _⟩ := k9.outer.form
  rw [oneS_len] at e8 e9
  have HB := Lib.hid hk
  have H8 := Lib.hid k8
  have H9 := Lib.hid k9
  have HR := Lib.hid hr
  have HRB := Lib.hid hrb
  have HCB := Lib.hid hcB
  have ho8 := k8.outer
  rw [oneS_len, e8] at ho8
  have HO8 := Lib.hid ho8
  rw [e8] at h8
  have hLI : (K.length : Int) < 250 := by omega
  have hc8 := (hk.1.cell 26).symm.trans h8
  have HC8 := Lib.hid hc8
  have hc9 := (hk.1.cell 27).symm.trans (e9 ▸ h9)
  have HC9 := Lib.hid hc9
  clear hk k8 k9 hr hrb hcB ho8 hc8 hc9 h9
  go_enter Tryz.func12, Tryz.ntmps12
  go_wp2_with (at_builtin; refine wpList_append_W _ rfl (.tmp 14) (.tmp 16) 42 rfl 58 i0 _ 1 24 Tryz.underlying42 hi hz0 hz1 hz2 rfl (by omega) (.slice A8 K.length cap8) K.length vs rfl (HO8.out.alloc (.cells #[.slice A 1 cap] 58)) _ 1 1 [.slice A 1 cap] rfl (Reads.newAt _ 58 1 1 _ _ _ rfl rfl rfl) (by simp [Value.oneCell']) (by unfold maxLen; omega) (by omega) ?_; intro v2 w2 hown hst; obtain ⟨A2, cap2, rfl, _, _⟩ := hown.form; have hb2 := (HB.out.alloc (.cells #[.slice A 1 cap] 58)).step hst (by unfold only; omega); have y8 := (hb2.1.cell 26).trans HC8.out; have f8 := hb2.1.frozen 26; have HB2 := Lib.hid hb2; have HOW2 := Lib.hid hown; have HST2 := Lib.hid hst; clear hown hst hb2 h8)
  obtain ⟨hb3, k83, k93, hr3, hs3⟩ := after_one_m (HB.out.alloc (.cells #[.slice A 1 cap] 58)) (H8.out.alloc _) (H9.out.alloc _) (HR.out.alloc _) rfl HOW2.out HST2.out
  have hc9 : (cs.setIfInBounds 26 (.slice A2 (K.length + 1) cap2))[27]? = some (.slice A9 K.length cap9) := by simpa using HC9.out
  have y9 := (hb3.1.cell 27).trans hc9
  have hrb3 := (HRB.out.alloc (.cells #[.slice A 1 cap] 58)).step hs3 (not_two HCB.out)
  generalize band o _ _ _ = o3 at hb3 k83 k93 hs3 hrb3
  generalize w2.setCell ⟨p, 26, none⟩ (.slice A2 (K.length + 1) cap2) = W at hb3 k83 k93 hr3 hs3 y9 hrb3 ⊢
  have HC9b := Lib.hid hc9
  have HB3 := Lib.hid hb3
  have K83 := Lib.hid k83
  have K93 := Lib.hid (e9 ▸ k93 : Kept 58 26 8 24 4000 o3 W (.slice A9 K.length cap9) (oneS MK.rb K) vs')
  have HR3 := Lib.hid hr3
  have HS3 := Lib.hid hs3
  have HRB3 := Lib.hid (OwnW.reads hrb3)
  clear hc9 hb3 k83 k93 hr3 hs3 hrb3 y8 f8 HB2 HOW2 HST2
  go_region_law (first | (refine step_append_W _ rfl (.tmp 24) (.tmp 27) 42 rfl 58 i0 _ 1 24 Tryz.underlying42 hi hz0 hz1 hz2 rfl (by omega) (.slice A9 K.length cap9) K.length vs' rfl (HO9.out.alloc (.cells #[.slice (some ⟨g4, 0, none⟩) 1 cap4] 58)) _ 1 1 [.slice (some ⟨g4, 0, none⟩) 1 cap4] rfl (Reads.newAt _ 58 1 1 _ _ _ rfl rfl rfl) (by simp [Value.oneCell']) (by unfold maxLen; omega) (by omega) ?_; intro v5 w5 hown5 hst5; obtain ⟨A5, cap5, rfl, _, _⟩ := hown5.form; obtain ⟨y9c, f9⟩ := after_app_m (HB4.out.alloc (.cells #[.slice (some ⟨g4, 0, none⟩) 1 cap4] 58)) HC9b.out hst5; have HOW5 := Lib.hid hown5; have HST5 := Lib.hid hst5) | (go_simp; go_at_call 31; ((with_reducible refine (copymsgs_one o3 (4000 + K.length) (5000 + K.length) _ A cap m B cb (Reads.drew HR3.out) (Reads.drew HRB3.out) hl).mono ?_); rintro e w4 ⟨g4, cap4, B4, cb4, o4, rfl, how4, hlk4, hst4⟩; obtain ⟨hb5, y9b, k84, k94, hs4⟩ := after_copy_m HB3.out HC9b.out K83.out K93.out hst4; have HB4 := Lib.hid hb5; have K84 := Lib.hid k84; have K94 := Lib.hid k94; have HS4 := Lib.hid hs4; have HOW4 := Lib.hid (OwnW.of_own how4); have HLK4 := Lib.hid (OwnW.of_own hlk4); have y9d := ((HB4.out.alloc (.cells #[.slice (some ⟨g4, 0, none⟩) 1 cap4] 58)).1.cell 27).trans HC9b.out; have HO9 := Lib.hid (kept_outer_m K94.out); simp only [])))
  all_goals
    obtain ⟨hb6, k86, k96, hl6, hs6⟩ := after_two_m (y := ⟨m, B, cb, B4, cb4⟩) (HB4.out.alloc (.cells #[.slice (some ⟨g4, 0, none⟩) 1 cap4] 58)) (K84.out.alloc _) (K94.out.alloc _) (HOW4.out.alloc _) (HLK4.out.alloc _) rfl HOW5.out HST5.out
    have HF := Lib.hid (fin_m hb6 k86 k96 hl6 ((((Step.refl o (fun c => c = 20 ∨ c = 23 ∨ c = 24) w).alloc _).trans (HS3.out.mono (fun c h => by omega))).trans ((HS4.out.mono (fun c h => h.elim)).trans (((Step.refl _ _ _).alloc _).trans (hs6.mono (fun c h => by omega))))))
    clear hb6 k86 k96 hs6 hl6
    go_wp2_with fail
    go_end0
    exact ⟨rfl, HF.out⟩
end Go.Proofs.YtjmgefpdfhfhmaaGreatDoor
