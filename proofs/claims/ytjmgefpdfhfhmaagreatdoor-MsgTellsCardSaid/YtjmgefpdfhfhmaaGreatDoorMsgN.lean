/- MsgTells' book: SameMsgs, stillMsgs. -/
import Derived.Test.YtjmgefpdfhfhmaaGreatDoorMsgK

/- MsgTells' book: Locks lays one more list. -/
namespace Go.Proofs.YtjmgefpdfhfhmaaGreatDoor
open Go.RowKit

theorem info_locks : (Tryz.prog.info? 24).map (fun i => (i.zero, i.size, i.bytes)) = some (some (.slice none 0 0), 1, 24) := by kernel_rfl
/-- the book's block, of colour 20 -/
def BookAt (o : Nat → Nat) (w : World) (p : Nat) (cs : Array Value) : Prop := Blk w p 45 cs ∧ o p = 20
theorem BookAt.step {o o' : Nat → Nat} {C : Nat → Prop} {w w' : World} {p : Nat} {cs : Array Value} (h : BookAt o w p cs) (hs : Step o C w o' w') (h0 : ¬ C 20) : BookAt o' w' p cs := ⟨h.1.step hs (by rw [h.2]; exact h0), (hs.old p h.1.lt).trans h.2⟩
theorem BookAt.alloc {o : Nat → Nat} {w : World} {p : Nat} {cs : Array Value} (h : BookAt o w p cs) (x : Obj) : BookAt o (w.alloc x) p cs := ⟨h.1.alloc x, h.2⟩
theorem BookAt.set_ {o : Nat → Nat} {w : World} {p : Nat} {cs : Array Value} (h : BookAt o w p cs) (i : Nat) (u : Value) : BookAt o (w.setCell ⟨p, i, none⟩ u) p (cs.setIfInBounds i u) := ⟨h.1.set_ i u, h.2⟩
theorem lkS_app (L : List (List Lk)) (l : List Lk) : lkS (L ++ [l]) = lkS L ++ [(l.length, lkcells l)] := by simp [lkS]
theorem after_one {o o2 : Nat → Nat} {w w2 : World} {p n cap : Nat} {cs : Array Value} {L : List (List Lk)} {vs vs' : List Value} {l : List Lk} {A : Option Addr} {v v' V2 : Value} (hk : BookAt o w p cs) (k8 : Kept 24 68 3 21 1000 o w v (lkS L) vs) (k9 : Kept 24 68 3 22 2000 o w v' (lkS L) vs')
    (hr : OwnW o (1000 + L.length) w 68 3 (.slice A l.length cap) l.length (lkcells l)) (hn : n = L.length + 1) (how : OwnW o2 21 w2 24 1 V2 n (vs ++ [.slice A l.length cap])) (hs : Step o (only 21) w o2 w2) (hL : L.length < 250) :
    BookAt o2 (w2.setCell ⟨p, 8, none⟩ V2) p (cs.setIfInBounds 8 V2) ∧ Kept 24 68 3 21 1000 o2 (w2.setCell ⟨p, 8, none⟩ V2) V2 (lkS (L ++ [l])) (vs ++ [.slice A l.length cap]) ∧ Kept 24 68 3 22 2000 o2 (w2.setCell ⟨p, 8, none⟩ V2) v' (lkS L) vs' ∧ Reads (w2.setCell ⟨p, 8, none⟩ V2) 3 A l.length (lkcells l) ∧ Step o (fun c => c = 20 ∨ c = 21) w o2 (w2.setCell ⟨p, 8, none⟩ V2) := by
  subst hn
  have hb2 := hk.step hs (by unfold only; omega)
  have hsb : Step o2 (only 20) w2 o2 (w2.setCell ⟨p, 8, none⟩ V2) := (Step.refl o2 (only 20) w2).setCell (p := ⟨p, 8, none⟩) hb2.2 _
  refine ⟨hb2.set_ 8 V2, ?_, ?_, ?_, ?_⟩
  · rw [lkS_app]
    exact (k8.more (by rw [lkS_len]; exact how) hs (by rw [lkS_len]; exact hr) (fun i _ => by omega)).step hsb (by unfold only; omega) (fun i _ => by unfold only; omega)
  · exact (k9.step hs (by unfold only; omega) (fun i _ => by unfold only; omega)).step hsb (by unfold only; omega) (fun i _ => by unfold only; omega)
  · exact OwnW.reads ((hr.step hs (by unfold only; omega)).step hsb (by unfold only; omega))
  · refine ⟨hsb.os.trans hs.os, hsb.tape.trans hs.tape, hsb.output.trans hs.output, Nat.le_trans hs.size hsb.size, hs.old, fun k hk2 => (hs.fut k (by simpa using hk2)), fun k hk2 hc => ?_⟩
    rw [hsb.block k (Nat.lt_of_lt_of_le hk2 hs.size) (fun e => hc (Or.inl (by rw [hs.old k hk2] at e; exact e))), hs.block k hk2 (fun e => hc (Or.inr e))]
theorem kept_outer {cO cI : Nat} {o : Nat → Nat} {w : World} {v : Value} {L : List (List Lk)} {vs : List Value} (h : Kept 24 68 3 cO cI o w v (lkS L) vs) : OwnW o cO w 24 1 v L.length vs := by
  have h1 := h.outer
  rw [lkS_len] at h1
  exact h1
theorem after_two {o o2 : Nat → Nat} {w w2 : World} {p n cap : Nat} {cs : Array Value} {L : List (List Lk)} {vs vs' : List Value} {l : List Lk} {A : Option Addr} {v v' V2 : Value} {S1 : List (Nat × List Value)} (hk : BookAt o w p cs) (k8 : Kept 24 68 3 21 1000 o w v S1 vs) (k9 : Kept 24 68 3 22 2000 o w v' (lkS L) vs')
    (hr : OwnW o (2000 + L.length) w 68 3 (.slice A l.length cap) l.length (lkcells l)) (hn : n = L.length + 1) (how : OwnW o2 22 w2 24 1 V2 n (vs' ++ [.slice A l.length cap])) (hs : Step o (only 22) w o2 w2) (_hL : L.length < 250) :
    BookAt o2 (w2.setCell ⟨p, 9, none⟩ V2) p (cs.setIfInBounds 9 V2) ∧ Kept 24 68 3 21 1000 o2 (w2.setCell ⟨p, 9, none⟩ V2) v S1 vs ∧ Kept 24 68 3 22 2000 o2 (w2.setCell ⟨p, 9, none⟩ V2) V2 (lkS (L ++ [l])) (vs' ++ [.slice A l.length cap]) ∧ Step o (fun c => c = 20 ∨ c = 22) w o2 (w2.setCell ⟨p, 9, none⟩ V2) := by
  subst hn
  have hb2 := hk.step hs (by unfold only; omega)
  have hsb : Step o2 (only 20) w2 o2 (w2.setCell ⟨p, 9, none⟩ V2) := (Step.refl o2 (only 20) w2).setCell (p := ⟨p, 9, none⟩) hb2.2 _
  refine ⟨hb2.set_ 9 V2, ?_, ?_, ?_⟩
  · exact (k8.step hs (by unfold only; omega) (fun i _ => by unfold only; omega)).step hsb (by unfold only; omega) (fun i _ => by unfold only; omega)
  · rw [lkS_app]
    exact (k9.more (by rw [lkS_len]; exact how) hs (by rw [lkS_len]; exact hr) (fun i _ => by omega)).step hsb (by unfold only; omega) (fun i _ => by unfold only; omega)
  · refine ⟨hsb.os.trans hs.os, hsb.tape.trans hs.tape, hsb.output.trans hs.output, Nat.le_trans hs.size hsb.size, hs.old, fun k hk2 => (hs.fut k (by simpa using hk2)), fun k hk2 hc => ?_⟩
    rw [hsb.block k (Nat.lt_of_lt_of_le hk2 hs.size) (fun e => hc (Or.inl (by rw [hs.old k hk2] at e; exact e))), hs.block k hk2 (fun e => hc (Or.inr e))]
theorem after_copy {o : Nat → Nat} {W w1 : World} {p : Nat} {cs : Array Value} {L : List (List Lk)} {vs vs' : List Value} {v v' x : Value} {S1 : List (Nat × List Value)} (c0 : Nat) (hk : BookAt o W p cs) (hx : cs[9]? = some x) (k8 : Kept 24 68 3 21 1000 o W v S1 vs) (k9 : Kept 24 68 3 22 2000 o W v' (lkS L) vs') (hb : Below W.drew.heap.size W.drew w1) :
    BookAt (band o W.drew.heap.size w1.heap.size c0) w1 p cs ∧ w1.cell? ⟨p, 9, none⟩ = some x ∧ Kept 24 68 3 21 1000 (band o W.drew.heap.size w1.heap.size c0) w1 v S1 vs ∧ Kept 24 68 3 22 2000 (band o W.drew.heap.size w1.heap.size c0) w1 v' (lkS L) vs' ∧ Step o (fun _ => False) W (band o W.drew.heap.size w1.heap.size c0) w1 := by
  have hs : Step o (fun _ => False) W (band o W.drew.heap.size w1.heap.size c0) w1 := (Step.of_below_band o (fun _ => False) c0 hb).of_drew
  have h1 := hk.step hs id
  exact ⟨h1, (h1.1.cell 9).trans hx, k8.step hs id (fun _ _ => id), k9.step hs id (fun _ _ => id), hs⟩
theorem after_app {o o2 : Nat → Nat} {w w2 : World} {p : Nat} {cs : Array Value} {x : Value} (hk : BookAt o w p cs) (hx : cs[9]? = some x) (hs : Step o (only 22) w o2 w2) : w2.cell? ⟨p, 9, none⟩ = some x ∧ w2.frozen? ⟨p, 9, none⟩ = false :=
  ⟨((hk.step hs (by unfold only; omega)).1.cell 9).trans hx, (hk.step hs (by unfold only; omega)).1.frozen 9⟩
set_option maxRecDepth 100000 in
set_option maxHeartbeats 2000000 in
theorem blocks_any (o : Nat → Nat) (w : World) (p : Nat) (cs : Array Value) (v v' : Value) (L : List (List Lk)) (vs vs' : List Value) (l : List Lk) (A : Option Addr) (cap : Nat)
    (hk : BookAt o w p cs) (h8 : w.cell? ⟨p, 8, none⟩ = some v) (h9 : w.cell? ⟨p, 9, none⟩ = some v') (k8 : Kept 24 68 3 21 1000 o w v (lkS L) vs) (k9 : Kept 24 68 3 22 2000 o w v' (lkS L) vs')
    (hr : OwnW o (1000 + L.length) w 68 3 (.slice A l.length cap) l.length (lkcells l)) (hl : l.length ≤ 1000) (hL : L.length < 250) :
    Calls Tryz.prog 11 #[.pointer (some ⟨p, 0, none⟩), .slice A l.length cap] w fun e w' => e = .returned (.tuple #[]) ∧ ∃ o' u u' v2 v2', BookAt o' w' p ((cs.setIfInBounds 8 v2).setIfInBounds 9 v2') ∧ Kept 24 68 3 21 1000 o' w' v2 (lkS (L ++ [l])) (vs ++ [u]) ∧ Kept 24 68 3 22 2000 o' w' v2' (lkS (L ++ [l])) (vs' ++ [u']) ∧ Step o (fun c => c = 20 ∨ c = 21 ∨ c = 22 ∨ c = 2000 + L.length) w o' w' := by
  obtain ⟨i0, hi, hz0, hz1, hz2⟩ := info_parts info_locks
  obtain ⟨A8, cap8, e8, _, _⟩ := k8.outer.form
  obtain ⟨A9, cap9, e9, _, _⟩ := k9.outer.form
  rw [lkS_len] at e8 e9
  have HB := Lib.hid hk
  have H8 := Lib.hid k8
  have H9 := Lib.hid k9
  have HR := Lib.hid hr
  have ho8 := k8.outer
  rw [lkS_len, e8] at ho8
  have HO8 := Lib.hid ho8
  rw [e8] at h8
  have hLI : (L.length : Int) < 250 := by omega
  have hc8 := (hk.1.cell 8).symm.trans h8
  have HC8 := Lib.hid hc8
  have hc9 := (hk.1.cell 9).symm.trans (e9 ▸ h9)
  have HC9 := Lib.hid hc9
  clear hk k8 k9 hr ho8 hc8 hc9 h9
  go_enter Tryz.func11, Tryz.ntmps11
  go_wp2_with (at_builtin; refine wpList_append_W _ rfl (.tmp 14) (.tmp 16) 33 rfl 24 i0 _ 1 24 Tryz.underlying33 hi hz0 hz1 hz2 rfl (by omega) (.slice A8 L.length cap8) L.length vs rfl (HO8.out.alloc (.cells #[.slice A l.length cap] 24)) _ 1 1 [.slice A l.length cap] rfl (Reads.newAt _ 24 1 1 _ _ _ rfl rfl rfl) (by simp [Value.oneCell']) (by unfold maxLen; omega) (by omega) ?_; intro v2 w2 hown hst; obtain ⟨A2, cap2, rfl, _, _⟩ := hown.form; have hb2 := (HB.out.alloc (.cells #[.slice A l.length cap] 24)).step hst (by unfold only; omega); have y8 := (hb2.1.cell 8).trans HC8.out; have f8 := hb2.1.frozen 8; have HB2 := Lib.hid hb2; have HOW2 := Lib.hid hown; have HST2 := Lib.hid hst; clear hown hst hb2 h8)
  obtain ⟨hb3, k83, k93, hr3, hs3⟩ := after_one (HB.out.alloc (.cells #[.slice A l.length cap] 24)) (H8.out.alloc _) (H9.out.alloc _) (HR.out.alloc _) rfl HOW2.out HST2.out hL
  have hc9 : (cs.setIfInBounds 8 (.slice A2 (L.length + 1) cap2))[9]? = some (.slice A9 L.length cap9) := by simpa using HC9.out
  have y9 := (hb3.1.cell 9).trans hc9
  generalize band o _ _ _ = o3 at hb3 k83 k93 hs3
  generalize w2.setCell ⟨p, 8, none⟩ (.slice A2 (L.length + 1) cap2) = W at hb3 k83 k93 hr3 hs3 y9 ⊢
  have HC9b := Lib.hid hc9
  have HB3 := Lib.hid hb3
  have K83 := Lib.hid k83
  have K93 := Lib.hid (e9 ▸ k93 : Kept 24 68 3 22 2000 o3 W (.slice A9 L.length cap9) (lkS L) vs')
  have HR3 := Lib.hid hr3
  have HS3 := Lib.hid hs3
  clear hc9 hb3 k83 k93 hr3 hs3 y8 f8 HB2 HOW2 HST2
  go_region_law (first | (refine step_append_W _ rfl (.tmp 24) (.tmp 27) 33 rfl 24 i0 _ 1 24 Tryz.underlying33 hi hz0 hz1 hz2 rfl (by omega) (.slice A9 L.length cap9) L.length vs' rfl (HO9.out.alloc (.cells #[.slice A4 l.length cap4] 24)) _ 1 1 [.slice A4 l.length cap4] rfl (Reads.newAt _ 24 1 1 _ _ _ rfl rfl rfl) (by simp [Value.oneCell']) (by unfold maxLen; omega) (by omega) ?_; intro v5 w5 hown5 hst5; obtain ⟨A5, cap5, rfl, _, _⟩ := hown5.form; obtain ⟨y9c, f9⟩ := after_app (HB4.out.alloc (.cells #[.slice A4 l.length cap4] 24)) HC9b.out hst5; have HOW5 := Lib.hid hown5; have HST5 := Lib.hid hst5) | (go_simp; go_at_call 30; ((with_reducible refine (copylocks_any o3 (2000 + L.length) _ A cap l (Reads.drew HR3.out) hl).mono ?_); rintro e w4 ⟨A4, cap4, rfl, how4, hb4⟩; obtain ⟨hb5, y9b, k84, k94, hs4⟩ := after_copy (2000 + L.length) HB3.out HC9b.out K83.out K93.out hb4; have HB4 := Lib.hid hb5; have K84 := Lib.hid k84; have K94 := Lib.hid k94; have HS4 := Lib.hid hs4; have HOW4 := Lib.hid (OwnW.of_own how4); have y9d := ((HB4.out.alloc (.cells #[.slice A4 l.length cap4] 24)).1.cell 9).trans HC9b.out; have HO9 := Lib.hid (kept_outer K94.out); simp only [])))
  all_goals
    obtain ⟨hb6, k86, k96, hs6⟩ := after_two (HB4.out.alloc (.cells #[.slice A4 l.length cap4] 24)) (K84.out.alloc _) (K94.out.alloc _) (HOW4.out.alloc _) rfl HOW5.out HST5.out hL
    have HF := Lib.hid (show ∃ o' u u' v2 v2', BookAt o' (w5.setCell ⟨p, 9, none⟩ (.slice A5 (L.length + 1) cap5)) p ((cs.setIfInBounds 8 v2).setIfInBounds 9 v2') ∧ Kept 24 68 3 21 1000 o' (w5.setCell ⟨p, 9, none⟩ (.slice A5 (L.length + 1) cap5)) v2 (lkS (L ++ [l])) (vs ++ [u]) ∧ Kept 24 68 3 22 2000 o' (w5.setCell ⟨p, 9, none⟩ (.slice A5 (L.length + 1) cap5)) v2' (lkS (L ++ [l])) (vs' ++ [u']) ∧ Step o (fun c => c = 20 ∨ c = 21 ∨ c = 22 ∨ c = 2000 + L.length) w o' (w5.setCell ⟨p, 9, none⟩ (.slice A5 (L.length + 1) cap5)) from
      ⟨_, _, _, _, _, hb6, k86, k96, (((Step.refl o _ w).alloc _).trans (HS3.out.mono (fun c h => by omega))).trans ((HS4.out.mono (fun c h => h.elim)).trans (((Step.refl _ _ _).alloc _).trans (hs6.mono (fun c h => by omega))))⟩)
    clear hb6 k86 k96 hs6
    go_wp2_with fail
    go_end0
    exact ⟨rfl, HF.out⟩
end Go.Proofs.YtjmgefpdfhfhmaaGreatDoor

/- MsgTells' book: sameMsg. -/
namespace Go.Proofs.YtjmgefpdfhfhmaaGreatDoor
open Go.RowKit

set_option maxRecDepth 100000 in
set_option maxHeartbeats 1000000 in
theorem samemsg_yes (m : Mg) (w : World) (A B : Option Addr) (ca cb : Nat) (ha : Reads w 3 A m.locks.length (lkcells m.locks)) (hb : Reads w 3 B m.locks.length (lkcells m.locks)) (hl : m.locks.length ≤ 1000000000) :
    Calls Tryz.prog 145 #[m.agg A ca, m.agg B cb] w fun e w' => e = .returned (.bool true) ∧ Below w.heap.size w w' := by
  have HA := Lib.hid ha
  have HB := Lib.hid hb
  clear ha hb
  unfold Mg.agg
  have hbl := ((Below.refl w.heap.size w).alloc (Nat.le_refl _) (.cells #[.int .i64 m.kind, .int .i64 m.id, .int .i64 m.node, .int .i64 m.gen, .int .i64 m.stamp, .int .u64 m.epoch, .int .i64 m.err, .slice A m.locks.length ca] 26)).alloc (by simp) (.cells #[.int .i64 m.kind, .int .i64 m.id, .int .i64 m.node, .int .i64 m.gen, .int .i64 m.stamp, .int .u64 m.epoch, .int .i64 m.err, .slice B m.locks.length cb] 26)
  have HBL := Lib.hid hbl
  clear hbl
  go_enter Tryz.func145, Tryz.ntmps145
  go_wp2_with fail
  refine (samelocks_yes _ A B ca cb m.locks (HA.out.below (by decide) HBL.out) (HB.out.below (by decide) HBL.out) hl).mono ?_
  rintro e w1 ⟨rfl, n, rfl⟩
  go_wp2_with fail
  go_ret
  exact ⟨rfl, below_drewN HBL.out n⟩
end Go.Proofs.YtjmgefpdfhfhmaaGreatDoor

namespace Go.Proofs.YtjmgefpdfhfhmaaGreatDoor
open Go.RowKit

/-- the eight cells of a message -/
def Mg.cells (m : Mg) (A : Option Addr) (c : Nat) : List Value := [.int .i64 m.kind, .int .i64 m.id, .int .i64 m.node, .int .i64 m.gen, .int .i64 m.stamp, .int .u64 m.epoch, .int .i64 m.err, .slice A m.locks.length c]
/-- a message, its locks in one place and in another -/
structure MK where
  m : Mg
  A : Option Addr
  ca : Nat
  B : Option Addr
  cb : Nat
def MK.ra (y : MK) : List Value := y.m.cells y.A y.ca
def MK.rb (y : MK) : List Value := y.m.cells y.B y.cb
def MK.ok (y : MK) (w : World) : Prop := Reads w 3 y.A y.m.locks.length (lkcells y.m.locks) ∧ Reads w 3 y.B y.m.locks.length (lkcells y.m.locks) ∧ y.m.locks.length ≤ 1000000000
theorem Reads.mrow {f : MK → Mg} {g : MK → Option Addr} {c : MK → Nat} {w : World} {A : Option Addr} {K : List MK} (h : Reads w 8 A K.length (K.flatMap (fun y => (f y).cells (g y) (c y)))) {k : Nat} {y : MK} (hy : K[k]? = some y) :
    ∃ ad, A = some ad ∧ w.cell? (ad.add (k * 8)) = some (.int .i64 (f y).kind) ∧ w.cell? ⟨(ad.add (k * 8)).block, (ad.add (k * 8)).off + 1, none⟩ = some (.int .i64 (f y).id) ∧ w.cell? ⟨(ad.add (k * 8)).block, (ad.add (k * 8)).off + 2, none⟩ = some (.int .i64 (f y).node) ∧ w.cell? ⟨(ad.add (k * 8)).block, (ad.add (k * 8)).off + 3, none⟩ = some (.int .i64 (f y).gen) ∧ w.cell? ⟨(ad.add (k * 8)).block, (ad.add (k * 8)).off + 4, none⟩ = some (.int .i64 (f y).stamp) ∧ w.cell? ⟨(ad.add (k * 8)).block, (ad.add (k * 8)).off + 5, none⟩ = some (.int .u64 (f y).epoch) ∧ w.cell? ⟨(ad.add (k * 8)).block, (ad.add (k * 8)).off + 6, none⟩ = some (.int .i64 (f y).err) ∧ w.cell? ⟨(ad.add (k * 8)).block, (ad.add (k * 8)).off + 7, none⟩ = some (.slice (g y) (f y).locks.length (c y)) := by
  obtain ⟨ad, rfl, hc⟩ := Reads.row (f := fun y => (f y).cells (g y) (c y)) (fun _ => rfl) h hy
  exact ⟨ad, rfl, hc 0 _ rfl, hc 1 _ rfl, hc 2 _ rfl, hc 3 _ rfl, hc 4 _ rfl, hc 5 _ rfl, hc 6 _ rfl, hc 7 _ rfl⟩
theorem MK.ok_below {y : MK} {w w' : World} (h : y.ok w) (hb : Below w.heap.size w w') : y.ok w' := ⟨h.1.below (by decide) hb, h.2.1.below (by decide) hb, h.2.2⟩
theorem samemsg_mk (y : MK) (w : World) (h : y.ok w) :
    Calls Tryz.prog 145 #[.agg #[.int .i64 y.m.kind, .int .i64 y.m.id, .int .i64 y.m.node, .int .i64 y.m.gen, .int .i64 y.m.stamp, .int .u64 y.m.epoch, .int .i64 y.m.err, .slice y.A y.m.locks.length y.ca], .agg #[.int .i64 y.m.kind, .int .i64 y.m.id, .int .i64 y.m.node, .int .i64 y.m.gen, .int .i64 y.m.stamp, .int .u64 y.m.epoch, .int .i64 y.m.err, .slice y.B y.m.locks.length y.cb]] w fun e w' => e = .returned (.bool true) ∧ Below w.heap.size w w' :=
  samemsg_yes y.m w y.A y.B y.ca y.cb h.1 h.2.1 h.2.2
theorem below_of_drew {B : Nat} {w w1 : World} (h : Below B w.drew w1) : Below B w w1 := ⟨h.os, h.tape, h.output, h.size, h.block⟩
theorem cell_kept {w w1 : World} {a : Addr} {v : Value} (h : w.cell? a = some v) (hb : Below w.drew.heap.size w.drew w1) : w1.cell? a = some v := ((below_of_drew hb).cell (World.block_lt_of_cell? w _ h)).trans h
theorem MK.ok_drew {y : MK} {w : World} (h : y.ok w) : y.ok w.drew := h
set_option maxRecDepth 100000 in
set_option maxHeartbeats 1000000 in
theorem samemsgs_yes (w : World) (A B : Option Addr) (ca cb : Nat) (K : List MK) (ha : Reads w 8 A K.length (K.flatMap MK.ra)) (hb : Reads w 8 B K.length (K.flatMap MK.rb)) (hok : ∀ y ∈ K, y.ok w) (hl : K.length ≤ 1000000000) :
    Calls Tryz.prog 120 #[.slice A K.length ca, .slice B K.length cb] w fun e w' => e = .returned (.bool true) ∧ Below w.heap.size w w' := by
  have HA := Lib.hid ha
  have HB := Lib.hid hb
  have HOK := Lib.hid hok
  clear ha hb hok
  go_enter Tryz.func120, Tryz.ntmps120
  go_wp2_with fail
  go_loopw [5] (fun t5 wr => ∃ k : Nat, k ≤ K.length ∧ t5 = .int .i64 k ∧ Below w.heap.size w wr) (fun t5 _ => K.length - (intOf t5).toNat)
  case atStart => exact ⟨0, by omega, rfl, Below.refl _ _⟩
  case round =>
    obtain ⟨k, hk, rfl, hbl⟩ := hrel
    have HBL := Lib.hid hbl
    clear hbl
    by_cases hlt : k < K.length
    · have hltI : (k : Int) < (K.length : Int) := by omega
      obtain ⟨y, hy⟩ : ∃ y, K[k]? = some y := ⟨_, List.getElem?_eq_getElem hlt⟩
      have hyok := MK.ok_below (HOK.out y (List.mem_of_getElem? hy)) HBL.out
      obtain ⟨ad, rfl, c0, c1, c2, c3, c4, c5, c6, c7⟩ := Reads.mrow (HA.out.below (by decide) HBL.out) hy
      obtain ⟨bd, rfl, d0, d1, d2, d3, d4, d5, d6, d7⟩ := Reads.mrow (HB.out.below (by decide) HBL.out) hy
      have HY := Lib.hid hyok
      clear hy hyok
      go_wp2_with fail
      go_region_held3 (fun w' => w'.cell? (ad.add (k * 8)) = some (.int .i64 y.m.kind) ∧ w'.cell? ⟨(ad.add (k * 8)).block, (ad.add (k * 8)).off + 1, none⟩ = some (.int .i64 y.m.id) ∧ w'.cell? ⟨(ad.add (k * 8)).block, (ad.add (k * 8)).off + 2, none⟩ = some (.int .i64 y.m.node) ∧ w'.cell? ⟨(ad.add (k * 8)).block, (ad.add (k * 8)).off + 3, none⟩ = some (.int .i64 y.m.gen) ∧ w'.cell? ⟨(ad.add (k * 8)).block, (ad.add (k * 8)).off + 4, none⟩ = some (.int .i64 y.m.stamp) ∧ w'.cell? ⟨(ad.add (k * 8)).block, (ad.add (k * 8)).off + 5, none⟩ = some (.int .u64 y.m.epoch) ∧ w'.cell? ⟨(ad.add (k * 8)).block, (ad.add (k * 8)).off + 6, none⟩ = some (.int .i64 y.m.err) ∧ w'.cell? ⟨(ad.add (k * 8)).block, (ad.add (k * 8)).off + 7, none⟩ = some (.slice y.A y.m.locks.length y.ca) ∧ w'.cell? (bd.add (k * 8)) = some (.int .i64 y.m.kind) ∧ w'.cell? ⟨(bd.add (k * 8)).block, (bd.add (k * 8)).off + 1, none⟩ = some (.int .i64 y.m.id) ∧ w'.cell? ⟨(bd.add (k * 8)).block, (bd.add (k * 8)).off + 2, none⟩ = some (.int .i64 y.m.node) ∧ w'.cell? ⟨(bd.add (k * 8)).block, (bd.add (k * 8)).off + 3, none⟩ = some (.int .i64 y.m.gen) ∧ w'.cell? ⟨(bd.add (k * 8)).block, (bd.add (k * 8)).off + 4, none⟩ = some (.int .i64 y.m.stamp) ∧ w'.cell? ⟨(bd.add (k * 8)).block, (bd.add (k * 8)).off + 5, none⟩ = some (.int .u64 y.m.epoch) ∧ w'.cell? ⟨(bd.add (k * 8)).block, (bd.add (k * 8)).off + 6, none⟩ = some (.int .i64 y.m.err) ∧ w'.cell? ⟨(bd.add (k * 8)).block, (bd.add (k * 8)).off + 7, none⟩ = some (.slice y.B y.m.locks.length y.cb))
        (first | exact ⟨c0, c1, c2, c3, c4, c5, c6, c7, d0, d1, d2, d3, d4, d5, d6, d7⟩ | exact ⟨kc0, kc1, kc2, kc3, kc4, kc5, kc6, kc7, kd0, kd1, kd2, kd3, kd4, kd5, kd6, kd7⟩ | go_keep)
        (first | (go_at_call 145; ((with_reducible refine (samemsg_mk y _ (MK.ok_drew HY.out)).mono ?_); rintro e w1 ⟨rfl, hw1⟩; have kc0 := cell_kept c0 hw1; have kc1 := cell_kept c1 hw1; have kc2 := cell_kept c2 hw1; have kc3 := cell_kept c3 hw1; have kc4 := cell_kept c4 hw1; have kc5 := cell_kept c5 hw1; have kc6 := cell_kept c6 hw1; have kc7 := cell_kept c7 hw1; have kd0 := cell_kept d0 hw1; have kd1 := cell_kept d1 hw1; have kd2 := cell_kept d2 hw1; have kd3 := cell_kept d3 hw1; have kd4 := cell_kept d4 hw1; have kd5 := cell_kept d5 hw1; have kd6 := cell_kept d6 hw1; have kd7 := cell_kept d7 hw1)))
      have HW1 := Lib.hid hw1
      clear kc0 kc1 kc2 kc3 kc4 kc5 kc6 kc7 kd0 kd1 kd2 kd3 kd4 kd5 kd6 kd7 c0 c1 c2 c3 c4 c5 c6 c7 d0 d1 d2 d3 d4 d5 d6 d7 hw1
      go_wp2_with fail
      go_roundw
      case rel => exact ⟨k + 1, by omega, by go_num, HBL.out.trans (below_of_drew HW1.out |>.mono HBL.out.size)⟩
      case measure => simp [intOf]; omega
    · have hltI : ¬ (k : Int) < (K.length : Int) := by omega
      go_wp2_with fail
      go_ret
      exact ⟨rfl, HBL.out⟩

theorem samemsgs_one (w : World) (A B : Option Addr) (ca cb : Nat) (y : MK) (ha : Reads w 8 A 1 y.ra) (hb : Reads w 8 B 1 y.rb) (hok : y.ok w) :
    Calls Tryz.prog 120 #[.slice A 1 ca, .slice B 1 cb] w fun e w' => e = .returned (.bool true) ∧ Below w.heap.size w w' :=
  samemsgs_yes w A B ca cb [y] (by simpa using ha) (by simpa using hb) (by simpa using hok) (by simp)
/-- lists of one message each -/
def oneS (f : MK → List Value) (K : List MK) : List (Nat × List Value) := K.map (fun y => (1, f y))
theorem oneS_len (f : MK → List Value) (K : List MK) : (oneS f K).length = K.length := by simp [oneS]
theorem Kept.one {f : MK → List Value} {cO cI : Nat} {o : Nat → Nat} {w : World} {v : Value} {K : List MK} {vs : List Value} (h : Kept 58 26 8 cO cI o w v (oneS f K) vs) {i : Nat} {y : MK} (hy : K[i]? = some y) :
    ∃ ad cap A c, v = .slice (some ad) K.length cap ∧ K.length ≤ cap ∧ w.cell? (ad.add i) = some (.slice A 1 c) ∧ 1 ≤ c ∧ OwnW o (cI + i) w 26 8 (.slice A 1 c) 1 (f y) ∧ vs[i]? = some (.slice A 1 c) := by
  have hi := (List.getElem?_eq_some_iff.1 hy).1
  obtain ⟨ad, cap, A, c, u, n, xs, e1, h1, hu, hS, hu2, h2, hc, how⟩ := h.at_ (i := i) (by rw [oneS_len]; exact hi)
  have e : (oneS f K)[i]? = some (1, f y) := by simp [oneS, hy]
  rw [e] at hS
  injection hS with hS
  injection hS with e2 e3
  subst e2 e3
  rw [oneS_len] at e1 h1
  exact ⟨ad, cap, A, c, e1, h1, hc, h2, how, by rw [hu, hu2]⟩
set_option maxRecDepth 100000 in
set_option maxHeartbeats 2000000 in
theorem stillmsgs_any (o : Nat → Nat) (w : World) (p : Nat) (v v' : Value) (K : List MK) (vs vs' : List Value) (a1 b1 a2 b2 : Nat) (h8 : w.cell? ⟨p, 26, none⟩ = some v) (h9 : w.cell? ⟨p, 27, none⟩ = some v')
    (k8 : Kept 58 26 8 a1 b1 o w v (oneS MK.ra K) vs) (k9 : Kept 58 26 8 a2 b2 o w v' (oneS MK.rb K) vs') (hl : ∀ y ∈ K, y.ok w) (hL : K.length ≤ 250) (hp : p < w.heap.size) :
    Calls Tryz.prog 51 #[.pointer (some ⟨p, 0, none⟩)] w fun e w' => e = .returned (.bool true) ∧ Below w.heap.size w w' := by
  have H8 := Lib.hid k8
  have H9 := Lib.hid k9
  have HL := Lib.hid hl
  obtain ⟨A8, cap8, e8, _, _⟩ := k8.outer.form
  obtain ⟨A9, cap9, e9, _, _⟩ := k9.outer.form
  rw [oneS_len] at e8 e9
  have C8 := Lib.hid h8
  have C9 := Lib.hid h9
  have E8 := Lib.hid e8
  have E9 := Lib.hid e9
  clear h8 h9 k8 k9 hl e8 e9
  go_enter Tryz.func51, Tryz.ntmps51
  go_wp2_with fail
  go_loopw [3] (fun t3 wr => ∃ i : Nat, i ≤ K.length ∧ t3 = .int .i64 i ∧ Below w.heap.size w wr) (fun t3 _ => K.length - (intOf t3).toNat)
  case atStart => exact ⟨0, by omega, rfl, Below.refl _ _⟩
  case round =>
    obtain ⟨i, hi, rfl, hw⟩ := hrel
    have HW := Lib.hid hw
    have h8 : wr.cell? ⟨p, 26, none⟩ = some (.slice A8 K.length cap8) := by rw [← E8.out]; exact (hw.cell (p := ⟨p, _, none⟩) hp).trans C8.out
    have h9 : wr.cell? ⟨p, 27, none⟩ = some (.slice A9 K.length cap9) := by rw [← E9.out]; exact (hw.cell (p := ⟨p, _, none⟩) hp).trans C9.out
    by_cases hlt : i < K.length
    · have hltI : (i : Int) < (K.length : Int) := by omega
      obtain ⟨y, hy⟩ : ∃ y, K[i]? = some y := ⟨_, List.getElem?_eq_getElem hlt⟩
      have hyok := MK.ok_below (HL.out y (List.mem_of_getElem? hy)) HW.out
      obtain ⟨ad, cap, A, c, e1, _, hc, _, how, _⟩ := (H8.out.below_ HW.out).one hy
      obtain ⟨bd, bap, B, d, e2, _, hd, _, how2, _⟩ := (H9.out.below_ HW.out).one hy
      rw [E8.out] at e1
      rw [E9.out] at e2
      injection e1 with e1
      injection e2 with e2
      subst e1 e2
      have RA := Lib.hid (OwnW.reads how)
      have RB := Lib.hid (OwnW.reads how2)
      have RY := Lib.hid hyok
      clear how how2 hw hyok hy
      go_wp2_with fail
      go_region_held3 (fun w' => w'.cell? ⟨p, 26, none⟩ = some (.slice (some ad) K.length cap8) ∧ w'.cell? ⟨p, 27, none⟩ = some (.slice (some bd) K.length cap9) ∧ w'.cell? (ad.add i) = some (.slice A 1 c) ∧ w'.cell? (bd.add i) = some (.slice B 1 d))
        (first | exact ⟨h8, h9, hc, hd⟩ | exact ⟨kh8, kh9, khc, khd⟩ | go_keep)
        (first | (go_at_call 120; ((with_reducible refine (samemsgs_one _ A B c d y RA.out.drew RB.out.drew (MK.ok_drew RY.out)).mono ?_); rintro e w1 ⟨rfl, hw1⟩; have kh8 := cell_kept h8 hw1; have kh9 := cell_kept h9 hw1; have khc := cell_kept hc hw1; have khd := cell_kept hd hw1)))
      have HW1 := Lib.hid hw1
      clear kh8 kh9 khc khd hc hd h8 h9 hw1
      go_wp2_with fail
      go_roundw
      case rel => exact ⟨i + 1, by omega, by go_num, HW.out.trans (below_of_drew HW1.out |>.mono HW.out.size)⟩
      case measure => simp [intOf]; omega
    · have hltI : ¬ (i : Int) < (K.length : Int) := by omega
      clear hw
      go_wp2_with fail
      go_ret
      exact ⟨rfl, HW.out⟩
end Go.Proofs.YtjmgefpdfhfhmaaGreatDoor
