/- A session in memory: what a store into one of its fields makes of it; strings.Clone; Send. -/
import Derived.Test.YtoploimpfhnanaaDoorSessB
namespace Go.Proofs.YtoploimpfhnanaaDoor
open Go.RowKit
section
variable {o : Nat → Nat} {c : Nat} {w : World} {p : Nat} {s : St}
theorem RingAt.set_ {r : Nat} {most : Int} {l : List Wt} (h : RingAt o c w r most l) {p : Nat} {t : TypeId} {cs : Array Value} (hp : Blk w p t cs) (ht : t ≠ 144) (ht2 : t ≠ 122) (i : Nat) (u : Value) : RingAt o c (w.setCell ⟨p, i, none⟩ u) r most l := by
  obtain ⟨v, hb, hc, hv⟩ := h
  exact ⟨v, hb.far (p := ⟨p, i, none⟩) (hp.ne_ hb ht).symm u, hc, hv.setCell (p := ⟨p, i, none⟩) (own_blk_ne hv hp (fun e => ht2 e.symm)) u⟩
theorem MapAt.ne_ {m : Nat} {al : List (Int × ByteArray)} (h : MapAt o c w m al) {p : Nat} {t : TypeId} {cs : Array Value} (hp : Blk w p t cs) : m ≠ p := by
  rintro rfl
  obtain ⟨_, _, D, ⟨es, clock, h1, _⟩, _⟩ := h
  unfold Blk at hp
  rw [hp] at h1
  cases h1
theorem MapAt.set_ {m : Nat} {al : List (Int × ByteArray)} (h : MapAt o c w m al) {p : Nat} {t : TypeId} {cs : Array Value} (hp : Blk w p t cs) (i : Nat) (u : Value) : MapAt o c (w.setCell ⟨p, i, none⟩ u) m al :=
  h.heap (Below.heap_setCell _ _ _ _ (h.ne_ hp)) rfl
theorem SessAt.set_ (h : SessAt o c w p s) (i : Nat) (u : Value) {s' : St} (ho : s'.out = s.out) (ha : s'.ahead = s.ahead) (hs : ∀ r m, (s.cells r m).setIfInBounds i u = s'.cells r m) : SessAt o c (w.setCell ⟨p, i, none⟩ u) p s' := by
  obtain ⟨r, m, hb, hc, hr, hm⟩ := h
  refine ⟨r, m, by rw [← hs]; exact hb.set_ i u, hc, by rw [ho]; exact hr.set_ hb (by decide) (by decide) i u, by rw [ha]; exact hm.set_ hb i u⟩
theorem SessAt.set_last (h : SessAt o c w p s) (v : Int) : SessAt o c (w.setCell ⟨p, 5, none⟩ (.int .i64 v)) p { s with last := v } := h.set_ 5 _ rfl rfl (fun _ _ => rfl)
theorem SessAt.set_heard (h : SessAt o c w p s) (v : Int) : SessAt o c (w.setCell ⟨p, 6, none⟩ (.int .i64 v)) p { s with heard := v } := h.set_ 6 _ rfl rfl (fun _ _ => rfl)
theorem SessAt.set_owed (h : SessAt o c w p s) (v : Bool) : SessAt o c (w.setCell ⟨p, 8, none⟩ (.bool v)) p { s with owed := v } := h.set_ 8 _ rfl rfl (fun _ _ => rfl)
theorem SessAt.set_yours (h : SessAt o c w p s) (v : Int) : SessAt o c (w.setCell ⟨p, 3, none⟩ (.int .i64 v)) p { s with yours := v } := h.set_ 3 _ rfl rfl (fun _ _ => rfl)
theorem SessAt.drewN (h : SessAt o c w p s) (n : Nat) : SessAt o c (w.drewN n) p s := h
theorem SessAt.col (h : SessAt o c w p s) : o p = c := by obtain ⟨r, m, hb, hc, _⟩ := h; exact hc
theorem SessAt.frozen (h : SessAt o c w p s) (i : Nat) : w.frozen? ⟨p, i, none⟩ = false := by obtain ⟨r, m, hb, hc, _⟩ := h; exact hb.frozen i
end
theorem clone_any (s : ByteArray) (w : World) (hlim : s.size ≤ 281474976710656) : Calls Tryd.prog 46 #[.string s] w fun e w' => e = .returned (.string s) ∧ Below w.heap.size w w' := by
  go_enter Tryd.func46, Tryd.ntmps46
  go_wp2_with (go_at_call 67; refine (Tryd.stringslite_Clone s _ hlim).mono ?_; rintro e w' ⟨rfl, hb⟩)
  go_ret
  exact ⟨rfl, hb⟩

set_option maxHeartbeats 400000 in
theorem send_long {o : Nat → Nat} {c : Nat} {w : World} {p : Nat} {s : St} (h : SessAt o c w p s) (d : ByteArray) (hd : 3000 < d.size) (hd2 : d.size ≤ maxLen) :
    Calls Tryd.prog 55 #[.pointer (some ⟨p, 0, none⟩), .string d] w fun e w' => e = .returned (.int .i64 2) ∧ w = w' := by
  obtain ⟨r, m, h0, h1, h2, h3, h4, h5, h6, h7, h8, hlt, HB, HC, HR, HM⟩ := h.open_
  clear h
  unfold maxLen at hd2
  have hdI : (3000 : Int) < (d.size : Int) := by omega
  go_enter Tryd.func55, Tryd.ntmps55
  go_wp2_with (go_at_call 76; refine (none_some _ _ _ h4).mono ?_; rintro e w' ⟨rfl, rfl⟩)
  go_ret
  exact ⟨rfl, rfl⟩
set_option maxHeartbeats 400000 in
theorem send_full {o : Nat → Nat} {c : Nat} {w : World} {p : Nat} {s : St} (h : SessAt o c w p s) (d : ByteArray) (hd : d.size ≤ 3000) (hl : s.out.length = 64) :
    Calls Tryd.prog 55 #[.pointer (some ⟨p, 0, none⟩), .string d] w fun e w' => e = .returned (.int .i64 10) ∧ ∃ n, w' = w.drewN n := by
  obtain ⟨r, m, h0, h1, h2, h3, h4, h5, h6, h7, h8, hlt, HB, HC, HR, HM⟩ := h.open_
  clear h
  have hdI : (d.size : Int) ≤ 3000 := by omega
  have hlI : (s.out.length : Int) ≤ 64 := by omega
  have htest : ((64 : Int) - (s.out.length : Int) == 0) = true := by simp; omega
  have HL := Lib.hid hl
  clear hl
  go_enter Tryd.func55, Tryd.ntmps55
  go_wp2_with (first | (go_at_call 76; refine (none_some _ _ _ h4).mono ?_; rintro e w' ⟨rfl, rfl⟩) | (go_at_call 77; refine (rroom_any HR.out (by omega) (by omega) hlI).mono ?_; rintro e w' ⟨rfl, n, rfl⟩))
  go_ret
  exact ⟨rfl, _, rfl⟩
set_option maxHeartbeats 1000000 in
theorem send_ok {o : Nat → Nat} {c : Nat} {w : World} {p : Nat} {s : St} (h : SessAt o c w p s) (d : ByteArray) (hd : d.size ≤ 3000) (hl : s.out.length < 64) (hlast : i64 (s.last + 1)) :
    Calls Tryd.prog 55 #[.pointer (some ⟨p, 0, none⟩), .string d] w fun e w' => e = .returned (.int .i64 0) ∧ ∃ o', SessAt o' c w' p { s with last := s.last + 1, out := s.out ++ [⟨s.last + 1, d, false, 0⟩] } ∧ Step o (trio c) w o' w' := by
  have HS := Lib.hid h
  have hfz := h.frozen 5
  obtain ⟨r, m, h0, h1, h2, h3, h4, h5, h6, h7, h8, hlt, HB, HC, HR, HM⟩ := h.open_
  clear h
  have hdI : (d.size : Int) ≤ 3000 := by omega
  have hlI : (s.out.length : Int) < 64 := by omega
  have htest : ((64 : Int) - (s.out.length : Int) == 0) = false := by simp; omega
  obtain ⟨hl1, hl2⟩ := hlast
  go_enter Tryd.func55, Tryd.ntmps55
  go_wp2_with (first | (go_at_call 76; refine (none_some _ _ _ h4).mono ?_; rintro e w' ⟨rfl, rfl⟩) | (go_at_call 77; refine (rroom_any HR.out (by omega) (by omega) (by omega)).mono ?_; rintro e w' ⟨rfl, n, rfl⟩))
  have hS := (HS.out.drewN n).set_last (s.last + 1)
  have hT : Step o (trio c) w o ((w.drewN n).setCell ⟨p, 5, none⟩ (.int .i64 (s.last + 1))) := ((Step.refl o (trio c) w).drewN n).setCell (p := ⟨p, 5, none⟩) (trio_0 HC.out) _
  generalize (w.drewN n).setCell ⟨p, 5, none⟩ (.int .i64 (s.last + 1)) = W at hS hT ⊢
  clear h0 h1 h2 h3 h4 h5 h6 h7 h8 hfz HB HR HM hlt htest
  obtain ⟨r1, m1, h0, h1, h2, h3, h4, h5, h6, h7, h8, hlt, HB, HC1, HR, HM⟩ := hS.open_
  have HS1 := Lib.hid hS
  have HT := Lib.hid hT
  clear hS hT h0 h1 h2 h3 h6 h7 h8
  go_region_held3 (fun w' => w'.cell? ⟨p, 4, none⟩ = some (.pointer (some ⟨r1, 0, none⟩)) ∧ w'.cell? ⟨p, 5, none⟩ = some (.int .i64 (s.last + 1)))
    (first | go_keep | exact ⟨(hb1.cell (p := ⟨p, 4, none⟩) (by simpa using hlt)).trans h4, (hb1.cell (p := ⟨p, 5, none⟩) (by simpa using hlt)).trans h5⟩ | exact ⟨hb2.cell 4, hb2.cell 5⟩)
    (first | (go_at_call 46; refine (clone_any d _ (by omega)).mono ?_; rintro e w1 ⟨rfl, hb1⟩) | (go_at_call 78; refine (push_any (((show RingAt o (c + 1) W.drew r1 64 s.out from HR.out).below_ hb1).alloc _) (by omega) hlI _ 1 ⟨s.last + 1, d, false, 0⟩ (Reads.new w1 _ 4 1 _ _ rfl rfl) (by omega) (by unfold maxLen; omega)).mono ?_; rintro e w2 ⟨rfl, o2, hr2, hst2⟩; have hb2 := ((HB.out.drew.below_ hb1).alloc (.cells #[.int .i64 (s.last + 1), .string d, .bool false, .int .i64 0] 122)).step hst2 (by rw [HC1.out]; unfold only; omega)))
  go_wp2
  go_ret
  have hw1 := ((Step.refl o (trio c) W).drew.trans (Step.of_below o (trio c) hb1)).alloc (.cells #[.int .i64 (s.last + 1), .string d, .bool false, .int .i64 0] 122)
  have hm2 := ((show MapAt o (c + 2) W.drew m1 s.ahead from HM.out).below_ hb1).below_ ((Below.refl _ _).alloc (Nat.le_refl _) (.cells #[.int .i64 (s.last + 1), .string d, .bool false, .int .i64 0] 122))
  refine ⟨rfl, o2, ⟨r1, m1, hb2, ?_, hr2, hm2.step hst2 (by unfold only; omega)⟩, (HT.out.trans hw1).trans (hst2.mono (trio_m1 c))⟩
  rw [hst2.old p (by have := hb1.size; simp at this; simp; omega)]
  exact HC1.out
end Go.Proofs.YtoploimpfhnanaaDoor
