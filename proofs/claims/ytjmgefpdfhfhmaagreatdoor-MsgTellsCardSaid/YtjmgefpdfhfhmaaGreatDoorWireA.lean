/- A writer of bytes in memory, as a plain structure: the given one and the document's: fails, wrongNum, wrongRoom. -/
import Derived.Test.YtjmgefpdfhfhmaaGreatDoorBytes
namespace Go.Proofs.YtjmgefpdfhfhmaaGreatDoor
open Go.RowKit

/-- a writer: its bytes and its first error -/
structure Wr where
  bs : List UInt8
  e : Int
def Wr.fail (W : Wr) (e : Int) : Wr := if W.e = 0 then { W with e := e } else W
/-- the writer at block p reads as W; all that it holds is of colour c -/
def WrAt (T : TypeId) (o : Nat → Nat) (c : Nat) (w : World) (p : Nat) (W : Wr) : Prop :=
  ∃ v, Blk w p T #[v, .int .i64 W.e] ∧ o p = c ∧ OwnS o c w 5 1 v W.bs.length (bvs W.bs)
section
variable {T : TypeId} {o o' : Nat → Nat} {c : Nat} {D : Nat → Prop} {w w' : World} {p : Nat} {W : Wr}
theorem WrAt.step (h : WrAt T o c w p W) (hk : Step o D w o' w') (hne : ¬ D c) : WrAt T o' c w' p W := by
  obtain ⟨v, hb, hc, hv⟩ := h
  exact ⟨v, hb.step hk (by rw [hc]; exact hne), (hk.old p hb.lt).trans hc, hv.step hk hne⟩
theorem WrAt.below_ (h : WrAt T o c w p W) (hb : Below w.heap.size w w') : WrAt T o c w' p W := by
  obtain ⟨v, h1, h2, h3⟩ := h
  exact ⟨v, h1.below_ hb, h2, h3.below_ hb⟩
theorem WrAt.alloc (h : WrAt T o c w p W) (x : Obj) : WrAt T o c (w.alloc x) p W := h.below_ ((Below.refl _ _).alloc (Nat.le_refl _) x)
theorem WrAt.drewN (h : WrAt T o c w p W) (n : Nat) : WrAt T o c (w.drewN n) p W := h
theorem WrAt.lt (h : WrAt T o c w p W) : p < w.heap.size := by obtain ⟨v, hb, _⟩ := h; exact hb.lt
theorem WrAt.col (h : WrAt T o c w p W) : o p = c := by obtain ⟨v, _, hc, _⟩ := h; exact hc
theorem WrAt.open_ (h : WrAt T o c w p W) : ∃ A cap, w.cell? ⟨p, 0, none⟩ = some (.slice A W.bs.length cap) ∧ w.cell? ⟨p, 1, none⟩ = some (.int .i64 W.e) ∧ w.frozen? ⟨p, 0, none⟩ = false ∧ w.frozen? ⟨p, 1, none⟩ = false ∧ W.bs.length ≤ cap ∧ cap ≤ 9223372036854775807 ∧ p < w.heap.size ∧
    Hid (Blk w p T #[.slice A W.bs.length cap, .int .i64 W.e]) ∧ Hid (o p = c) ∧ Hid (OwnS o c w 5 1 (.slice A W.bs.length cap) W.bs.length (bvs W.bs)) := by
  obtain ⟨v, hb, hc, hv⟩ := h
  rcases hv.1.2 with ⟨rfl, h0⟩ | ⟨g, cap, cur, rfl, _, _, h1, h2, _⟩
  · refine ⟨none, 0, ?_⟩
    have hv' := hv
    rw [h0] at hv' ⊢
    have hb' : Blk w p T #[.slice none 0 0, .int .i64 W.e] := hb
    exact ⟨hb'.cell 0, hb'.cell 1, hb'.frozen 0, hb'.frozen 1, Nat.le_refl _, by omega, hb'.lt, hb', hc, hv'⟩
  · unfold maxLen at h2
    exact ⟨some ⟨g, 0, none⟩, cap, hb.cell 0, hb.cell 1, hb.frozen 0, hb.frozen 1, h1, by omega, hb.lt, hb, hc, hv⟩
/-- a store of an error -/
theorem WrAt.setE (h : WrAt T o c w p W) (hT : T ≠ 5) (e : Int) : WrAt T o c (w.setCell ⟨p, 1, none⟩ (.int .i64 e)) p { W with e := e } := by
  obtain ⟨v, hb, hc, hv⟩ := h
  exact ⟨v, hb.set_ 1 _, hc, hv.setCell (p := ⟨p, 1, none⟩) (own_blk_ne hv hb (fun e => hT e.symm)) _⟩
/-- a store of bytes -/
theorem WrAt.setB {A : Option Addr} {cap : Nat} {l : List UInt8} {cs : Value} (hb : Blk w p T #[cs, .int .i64 W.e]) (hc : o p = c) (hT : T ≠ 5) (hv : OwnS o c w 5 1 (.slice A l.length cap) l.length (bvs l)) :
    WrAt T o c (w.setCell ⟨p, 0, none⟩ (.slice A l.length cap)) p { W with bs := l } :=
  ⟨_, hb.set_ 0 _, hc, hv.setCell (p := ⟨p, 0, none⟩) (own_blk_ne hv hb (fun e => hT e.symm)) _⟩
end

def numOk (v : Nat) (n : Int) : Prop := 1 ≤ n ∧ n ≤ 8 ∧ v < 256 ^ n.toNat
instance (v : Nat) (n : Int) : Decidable (numOk v n) := inferInstanceAs (Decidable (_ ∧ _ ∧ _))

section
variable {o : Nat → Nat} {c : Nat} {w : World} {p : Nat} {W : Wr}
set_option maxHeartbeats 400000 in
theorem fails_old (h : WrAt 71 o c w p W) (he : W.e ≠ 0) (e : Int) :
    Calls Tryz.prog 98 #[.pointer (some ⟨p, 0, none⟩), .int .i64 e] w fun r w' => r = .returned (.bool true) ∧ w = w' := by
  obtain ⟨A, cap, h0, h1, f0, f1, hc1, hc2, hlt, HB, HC, HV⟩ := h.open_
  have t1 : (W.e == 0) = false := beq_eq_false_iff_ne.2 he
  have t2 : (W.e != 0) = true := bne_iff_ne.2 he
  clear h
  go_enter Tryz.func98, Tryz.ntmps98
  go_wp2
  go_ret
  exact ⟨rfl, rfl⟩
set_option maxHeartbeats 400000 in
theorem fails_new (h : WrAt 71 o c w p W) (he : W.e = 0) (e : Int) (hne : e ≠ 0) :
    Calls Tryz.prog 98 #[.pointer (some ⟨p, 0, none⟩), .int .i64 e] w fun r w' => r = .returned (.bool true) ∧ WrAt 71 o c w' p { W with e := e } ∧ Step o (only c) w o w' := by
  have HW := Lib.hid h
  obtain ⟨A, cap, h0, h1, f0, f1, hc1, hc2, hlt, HB, HC, HV⟩ := h.open_
  rw [he] at h1
  have t2 : (e != 0) = true := bne_iff_ne.2 hne
  clear h he
  go_enter Tryz.func98, Tryz.ntmps98
  go_wp2
  go_ret
  exact ⟨rfl, HW.out.setE (by decide) e, (Step.refl o (only c) w).setCell (p := ⟨p, 1, none⟩) HC.out _⟩
set_option maxHeartbeats 400000 in
theorem fails_ok (h : WrAt 71 o c w p W) (he : W.e = 0) :
    Calls Tryz.prog 98 #[.pointer (some ⟨p, 0, none⟩), .int .i64 0] w fun r w' => r = .returned (.bool false) ∧ WrAt 71 o c w' p W ∧ Step o (only c) w o w' := by
  have HW := Lib.hid h
  obtain ⟨A, cap, h0, h1, f0, f1, hc1, hc2, hlt, HB, HC, HV⟩ := h.open_
  rw [he] at h1
  have HE := Lib.hid he
  clear h he
  go_enter Tryz.func98, Tryz.ntmps98
  go_wp2
  go_ret
  have h9 := HW.out.setE (by decide) 0
  have e9 : ({ W with e := 0 } : Wr) = W := by
    have := HE.out
    cases W
    simp at this
    subst this
    rfl
  rw [e9] at h9
  exact ⟨rfl, h9, (Step.refl o (only c) w).setCell (p := ⟨p, 1, none⟩) HC.out _⟩
end
theorem wrongNum_out (v n : Int) (w : World) (h : n < 1 ∨ 8 < n) : Calls Tryz.prog 99 #[.int .u64 v, .int .i64 n] w fun e w' => e = .returned (.int .i64 1) ∧ w = w' := by
  by_cases h0 : n < 1
  · go_enter Tryz.func99, Tryz.ntmps99
    go_wp2
    go_ret
    exact ⟨rfl, rfl⟩
  · have h1 : 8 < n := by omega
    go_enter Tryz.func99, Tryz.ntmps99
    go_wp2
    go_ret
    exact ⟨rfl, rfl⟩
theorem wrongNum_8 (v : Nat) (w : World) : Calls Tryz.prog 99 #[.int .u64 v, .int .i64 8] w fun e w' => e = .returned (.int .i64 0) ∧ w = w' := by
  go_enter Tryz.func99, Tryz.ntmps99
  go_wp2
  go_ret
  exact ⟨rfl, rfl⟩
theorem wrongNum_in (v : Nat) (n : Int) (hv : v < 18446744073709551616) (h1 : 1 ≤ n) (h7 : n ≤ 7) (w : World) :
    Calls Tryz.prog 99 #[.int .u64 v, .int .i64 n] w fun e w' => e = .returned (.int .i64 (if v < 256 ^ n.toNat then 0 else 1)) ∧ w = w' := by
  have hn : n = 1 ∨ n = 2 ∨ n = 3 ∨ n = 4 ∨ n = 5 ∨ n = 6 ∨ n = 7 := by omega
  rcases hn with rfl | rfl | rfl | rfl | rfl | rfl | rfl
  · have e : (if v < 256 ^ (1 : Int).toNat then (0 : Int) else 1) = if v < 256 then 0 else 1 := rfl
    rw [e]
    clear e h1 h7
    by_cases hk : v < 256
    · have t1 : ((v : Int) / 256 != 0) = false := by simp; omega
      rw [if_pos hk]
      clear hk
      go_enter Tryz.func99, Tryz.ntmps99
      go_wp2
      go_ret
      exact ⟨rfl, rfl⟩
    · have t1 : ((v : Int) / 256 != 0) = true := by simp; omega
      rw [if_neg hk]
      clear hk
      go_enter Tryz.func99, Tryz.ntmps99
      go_wp2
      go_ret
      exact ⟨rfl, rfl⟩
  · have e : (if v < 256 ^ (2 : Int).toNat then (0 : Int) else 1) = if v < 65536 then 0 else 1 := rfl
    rw [e]
    clear e h1 h7
    by_cases hk : v < 65536
    · have t1 : ((v : Int) / 65536 != 0) = false := by simp; omega
      rw [if_pos hk]
      clear hk
      go_enter Tryz.func99, Tryz.ntmps99
      go_wp2
      go_ret
      exact ⟨rfl, rfl⟩
    · have t1 : ((v : Int) / 65536 != 0) = true := by simp; omega
      rw [if_neg hk]
      clear hk
      go_enter Tryz.func99, Tryz.ntmps99
      go_wp2
      go_ret
      exact ⟨rfl, rfl⟩
  · have e : (if v < 256 ^ (3 : Int).toNat then (0 : Int) else 1) = if v < 16777216 then 0 else 1 := rfl
    rw [e]
    clear e h1 h7
    by_cases hk : v < 16777216
    · have t1 : ((v : Int) / 16777216 != 0) = false := by simp; omega
      rw [if_pos hk]
      clear hk
      go_enter Tryz.func99, Tryz.ntmps99
      go_wp2
      go_ret
      exact ⟨rfl, rfl⟩
    · have t1 : ((v : Int) / 16777216 != 0) = true := by simp; omega
      rw [if_neg hk]
      clear hk
      go_enter Tryz.func99, Tryz.ntmps99
      go_wp2
      go_ret
      exact ⟨rfl, rfl⟩
  · have e : (if v < 256 ^ (4 : Int).toNat then (0 : Int) else 1) = if v < 4294967296 then 0 else 1 := rfl
    rw [e]
    clear e h1 h7
    by_cases hk : v < 4294967296
    · have t1 : ((v : Int) / 4294967296 != 0) = false := by simp; omega
      rw [if_pos hk]
      clear hk
      go_enter Tryz.func99, Tryz.ntmps99
      go_wp2
      go_ret
      exact ⟨rfl, rfl⟩
    · have t1 : ((v : Int) / 4294967296 != 0) = true := by simp; omega
      rw [if_neg hk]
      clear hk
      go_enter Tryz.func99, Tryz.ntmps99
      go_wp2
      go_ret
      exact ⟨rfl, rfl⟩
  · have e : (if v < 256 ^ (5 : Int).toNat then (0 : Int) else 1) = if v < 1099511627776 then 0 else 1 := rfl
    rw [e]
    clear e h1 h7
    by_cases hk : v < 1099511627776
    · have t1 : ((v : Int) / 1099511627776 != 0) = false := by simp; omega
      rw [if_pos hk]
      clear hk
      go_enter Tryz.func99, Tryz.ntmps99
      go_wp2
      go_ret
      exact ⟨rfl, rfl⟩
    · have t1 : ((v : Int) / 1099511627776 != 0) = true := by simp; omega
      rw [if_neg hk]
      clear hk
      go_enter Tryz.func99, Tryz.ntmps99
      go_wp2
      go_ret
      exact ⟨rfl, rfl⟩
  · have e : (if v < 256 ^ (6 : Int).toNat then (0 : Int) else 1) = if v < 281474976710656 then 0 else 1 := rfl
    rw [e]
    clear e h1 h7
    by_cases hk : v < 281474976710656
    · have t1 : ((v : Int) / 281474976710656 != 0) = false := by simp; omega
      rw [if_pos hk]
      clear hk
      go_enter Tryz.func99, Tryz.ntmps99
      go_wp2
      go_ret
      exact ⟨rfl, rfl⟩
    · have t1 : ((v : Int) / 281474976710656 != 0) = true := by simp; omega
      rw [if_neg hk]
      clear hk
      go_enter Tryz.func99, Tryz.ntmps99
      go_wp2
      go_ret
      exact ⟨rfl, rfl⟩
  · have e : (if v < 256 ^ (7 : Int).toNat then (0 : Int) else 1) = if v < 72057594037927936 then 0 else 1 := rfl
    rw [e]
    clear e h1 h7
    by_cases hk : v < 72057594037927936
    · have t1 : ((v : Int) / 72057594037927936 != 0) = false := by simp; omega
      rw [if_pos hk]
      clear hk
      go_enter Tryz.func99, Tryz.ntmps99
      go_wp2
      go_ret
      exact ⟨rfl, rfl⟩
    · have t1 : ((v : Int) / 72057594037927936 != 0) = true := by simp; omega
      rw [if_neg hk]
      clear hk
      go_enter Tryz.func99, Tryz.ntmps99
      go_wp2
      go_ret
      exact ⟨rfl, rfl⟩
/-- why a number does not go into so many bytes, in one -/
theorem wrongNum_any (v : Nat) (n : Int) (hv : v < 18446744073709551616) (w : World) :
    Calls Tryz.prog 99 #[.int .u64 v, .int .i64 n] w fun e w' => e = .returned (.int .i64 (if numOk v n then 0 else 1)) ∧ w = w' := by
  by_cases h0 : n < 1 ∨ 8 < n
  · rw [if_neg (by unfold numOk; omega)]
    exact wrongNum_out v n w h0
  · by_cases h8 : n = 8
    · subst h8
      rw [if_pos (show numOk v 8 from ⟨by omega, by omega, by simpa using hv⟩)]
      exact wrongNum_8 v w
    · have e : (if numOk v n then (0 : Int) else 1) = if v < 256 ^ n.toNat then 0 else 1 := by
        by_cases hv2 : v < 256 ^ n.toNat
        · rw [if_pos hv2, if_pos ⟨by omega, by omega, hv2⟩]
        · rw [if_neg hv2, if_neg (fun h => hv2 h.2.2)]
      rw [e]
      exact wrongNum_in v n hv (by omega) (by omega) w
end Go.Proofs.YtjmgefpdfhfhmaaGreatDoor
