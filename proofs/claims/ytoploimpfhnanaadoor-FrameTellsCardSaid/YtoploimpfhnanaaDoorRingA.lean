/- The ring of waiting messages: what each method does to a ring that reads as a list. -/
import Derived.Test.YtoploimpfhnanaaDoorBase
namespace Go.Proofs.YtoploimpfhnanaaDoor
open Go.RowKit

/-- a message that waits -/
structure Wt where
  seq : Int
  data : ByteArray
  sent : Bool
  age : Int

def Wt.cells (x : Wt) : List Value := [.int .i64 x.seq, .string x.data, .bool x.sent, .int .i64 x.age]
def Wt.agg (x : Wt) : Value := .agg #[.int .i64 x.seq, .string x.data, .bool x.sent, .int .i64 x.age]
def wcells (l : List Wt) : List Value := l.flatMap Wt.cells
theorem wcells_len (l : List Wt) : (wcells l).length = l.length * 4 := by
  unfold wcells
  induction l with
  | nil => rfl
  | cons x r ih => simp only [List.flatMap_cons, List.length_append, ih, List.length_cons]; simp [Wt.cells]; omega
theorem wcells_one (l : List Wt) : ∀ u ∈ wcells l, u.oneCell' = true := by
  intro u hu
  unfold wcells at hu
  obtain ⟨x, _, hx⟩ := List.mem_flatMap.1 hu
  simp only [Wt.cells, List.mem_cons, List.mem_nil_iff, or_false] at hx
  rcases hx with rfl | rfl | rfl | rfl <;> rfl

theorem wcells_cons (x : Wt) (l : List Wt) : wcells (x :: l) = .int .i64 x.seq :: .string x.data :: .bool x.sent :: .int .i64 x.age :: wcells l := rfl
theorem wcells_app (l m : List Wt) : wcells (l ++ m) = wcells l ++ wcells m := by simp [wcells]
theorem wcells_set (x : Wt) : ∀ (l : List Wt) (k : Nat), k < l.length → wcells (l.set k x) = ((((wcells l).set (k * 4) (.int .i64 x.seq)).set (k * 4 + 1) (.string x.data)).set (k * 4 + 2) (.bool x.sent)).set (k * 4 + 3) (.int .i64 x.age)
  | y :: l, 0, _ => by simp [wcells_cons]
  | y :: l, k + 1, h => by
    have ih := wcells_set x l k (by simpa using h)
    simp only [List.set_cons_succ, wcells_cons, ih]
    rw [show (k + 1) * 4 = k * 4 + 1 + 1 + 1 + 1 from by omega]
    simp only [List.set_cons_succ]
theorem wcells_get (l : List Wt) (k : Nat) (x : Wt) (h : l[k]? = some x) :
    (wcells l)[k * 4]? = some (.int .i64 x.seq) ∧ (wcells l)[k * 4 + 1]? = some (.string x.data) ∧ (wcells l)[k * 4 + 2]? = some (.bool x.sent) ∧ (wcells l)[k * 4 + 3]? = some (.int .i64 x.age) := by
  induction l generalizing k with
  | nil => simp at h
  | cons y l ih =>
    cases k with
    | zero => simp at h; subst h; exact ⟨rfl, rfl, rfl, rfl⟩
    | succ k =>
      have := ih k (by simpa using h)
      rw [show (k + 1) * 4 = k * 4 + 4 from by omega]
      exact this

/-- the ring at block r reads as the list l, with room for most -/
def RingAt (o : Nat → Nat) (c : Nat) (w : World) (r : Nat) (most : Int) (l : List Wt) : Prop :=
  ∃ v, Blk w r 144 #[v, .int .i64 most] ∧ o r = c ∧ OwnS o c w 122 4 v l.length (wcells l)

theorem RingAt.step {o o' : Nat → Nat} {c : Nat} {D : Nat → Prop} {w w' : World} {r : Nat} {most : Int} {l : List Wt} (h : RingAt o c w r most l) (hk : Step o D w o' w') (hne : ¬ D c) : RingAt o' c w' r most l := by
  obtain ⟨v, hb, hc, hv⟩ := h
  exact ⟨v, hb.step hk (by rw [hc]; exact hne), (hk.old r hb.lt).trans hc, hv.step hk hne⟩
theorem RingAt.alloc {o : Nat → Nat} {c : Nat} {w : World} {r : Nat} {most : Int} {l : List Wt} (h : RingAt o c w r most l) (x : Obj) : RingAt o c (w.alloc x) r most l := by
  obtain ⟨v, hb, hc, hv⟩ := h
  exact ⟨v, hb.alloc x, hc, hv.alloc x⟩
theorem RingAt.below_ {o : Nat → Nat} {c : Nat} {w w' : World} {r : Nat} {most : Int} {l : List Wt} (h : RingAt o c w r most l) (hb : Below w.heap.size w w') : RingAt o c w' r most l := by
  obtain ⟨v, h1, h2, h3⟩ := h
  exact ⟨v, h1.below_ hb, h2, ⟨ownsRow_heap h3.1 (fun g hg => hb.block g (h3.lt g hg)), h3.2⟩⟩
theorem RingAt.lt {o : Nat → Nat} {c : Nat} {w : World} {r : Nat} {most : Int} {l : List Wt} (h : RingAt o c w r most l) : r < w.heap.size := by
  obtain ⟨v, hb, hc, hv⟩ := h
  exact hb.lt
theorem RingAt.color {o o' : Nat → Nat} {c : Nat} {w : World} {r : Nat} {most : Int} {l : List Wt} (h : RingAt o c w r most l) (ho : ∀ k, k < w.heap.size → o' k = o k) : RingAt o' c w r most l := by
  obtain ⟨v, hb, hc, hv⟩ := h
  exact ⟨v, hb, (ho r hb.lt).trans hc, hv.color ho⟩
theorem RingAt.drewN {o : Nat → Nat} {c : Nat} {w : World} {r : Nat} {most : Int} {l : List Wt} (h : RingAt o c w r most l) (n : Nat) : RingAt o c (w.drewN n) r most l := h

theorem room_any (n : Int) (w : World) : Calls Tryd.prog 94 #[.int .i64 n] w fun e w' => e = .returned (.int .i64 (min (max n 0) 100000)) ∧ w = w' := by
  by_cases h0 : n < 0
  · go_enter Tryd.func94, Tryd.ntmps94
    go_wp2
    go_ret
    exact ⟨by simp; omega, rfl⟩
  · by_cases h1 : n < 100000
    · go_enter Tryd.func94, Tryd.ntmps94
      go_wp2
      all_goals go_ret
      all_goals exact ⟨by simp; omega, rfl⟩
    · go_enter Tryd.func94, Tryd.ntmps94
      go_wp2
      all_goals go_ret
      all_goals exact ⟨by simp; omega, rfl⟩

theorem len_nil (w : World) : Calls Tryd.prog 95 #[.pointer none] w fun e w' => e = .returned (.int .i64 0) ∧ w = w' := by
  go_enter Tryd.func95, Tryd.ntmps95
  go_wp2
  go_ret
  exact ⟨rfl, rfl⟩

theorem own_form {o : Nat → Nat} {c : Nat} {w : World} {e : TypeId} {size n : Nat} {v : Value} {xs : List Value} (h : OwnS o c w e size v n xs) : ∃ A cap, v = .slice A n cap ∧ n ≤ cap ∧ cap ≤ maxLen := by
  rcases h.1.2 with ⟨rfl, rfl⟩ | ⟨g, cap, cur, rfl, _, _, h1, h2, _⟩
  · exact ⟨none, 0, rfl, Nat.le_refl _, Nat.zero_le _⟩
  · exact ⟨_, _, rfl, h1, h2⟩

theorem len_any {o : Nat → Nat} {c : Nat} {w : World} {r : Nat} {most : Int} {l : List Wt} (h : RingAt o c w r most l) :
    Calls Tryd.prog 95 #[.pointer (some ⟨r, 0, none⟩)] w fun e w' => e = .returned (.int .i64 l.length) ∧ w = w' := by
  obtain ⟨v, hb, hc, hv⟩ := h
  obtain ⟨A, cap, rfl, _, _⟩ := own_form hv
  have h0 := hb.cell 0
  have h1 := hb.cell 1
  simp at h0 h1
  clear hb hv
  go_enter Tryd.func95, Tryd.ntmps95
  go_wp2
  go_ret
  exact ⟨rfl, rfl⟩

theorem rroom_any {o : Nat → Nat} {c : Nat} {w : World} {r : Nat} {most : Int} {l : List Wt} (h : RingAt o c w r most l) (hm : 0 ≤ most) (hm2 : most ≤ 100000) (hl : (l.length : Int) ≤ most) :
    Calls Tryd.prog 77 #[.pointer (some ⟨r, 0, none⟩)] w fun e w' => e = .returned (.int .i64 (most - l.length)) ∧ ∃ n, w' = w.drewN n := by
  obtain ⟨v, hb, hc, hv⟩ := h
  obtain ⟨A, cap, rfl, _, _⟩ := own_form hv
  have h0 := hb.cell 0
  have h1 := hb.cell 1
  simp at h0 h1
  clear hb hv
  go_enter Tryd.func77, Tryd.ntmps77
  go_wp2
  go_quiet (fail)
  go_wp2
  go_ret
  exact ⟨rfl, _, rfl⟩

theorem RingAt.open_ {o : Nat → Nat} {c : Nat} {w : World} {r : Nat} {most : Int} {l : List Wt} (h : RingAt o c w r most l) :
    ∃ A cap, w.cell? ⟨r, 0, none⟩ = some (.slice A l.length cap) ∧ w.cell? ⟨r, 1, none⟩ = some (.int .i64 most) ∧ w.frozen? ⟨r, 0, none⟩ = false ∧ l.length ≤ cap ∧ cap ≤ 9223372036854775807 ∧
      Hid (Blk w r 144 #[.slice A l.length cap, .int .i64 most]) ∧ Hid (OwnS o c w 122 4 (.slice A l.length cap) l.length (wcells l)) ∧ Hid (o r = c) ∧ Hid ((Value.slice A l.length cap).ownBlock ≠ some r) := by
  obtain ⟨v, hb, hc, hv⟩ := h
  obtain ⟨A, cap, rfl, h1, h2⟩ := own_form hv
  have h0 := hb.cell 0
  have h3 := hb.cell 1
  simp at h0 h3
  unfold maxLen at h2
  exact ⟨A, cap, h0, h3, hb.frozen 0, h1, by omega, hb, hv, hc, own_blk_ne hv hb (by decide)⟩
theorem info_w : (Tryd.prog.info? 122).map (fun i => (i.zero, i.size, i.bytes)) = some (some (.agg #[.int .i64 0, .string ⟨#[]⟩, .bool false, .int .i64 0]), 4, 40) := by kernel_rfl
set_option maxHeartbeats 400000 in
theorem set_any {o : Nat → Nat} {c : Nat} {w : World} {r : Nat} {most : Int} {l : List Wt} (h : RingAt o c w r most l) (k : Nat) (hk : k < l.length) (x : Wt) :
    Calls Tryd.prog 81 #[.pointer (some ⟨r, 0, none⟩), .int .i64 k, x.agg] w fun e w' => e = .returned (.bool true) ∧ RingAt o c w' r most (l.set k x) ∧ Step o (only c) w o w' := by
  have HR := Lib.hid h
  obtain ⟨A0, cap0, h0, h1, hfz, hc1, hc2, HB, HV, HO, HNE⟩ := h.open_
  clear h
  obtain ⟨g, cur, rfl, hb, hg, _, hcm, hsz, htk⟩ := HV.out.blk (by omega)
  obtain ⟨v0, q0⟩ := hb.cell_some (i := k * 4) (by omega)
  obtain ⟨v1, q1⟩ := hb.cell_some (i := k * 4 + 1) (by omega)
  obtain ⟨v2, q2⟩ := hb.cell_some (i := k * 4 + 2) (by omega)
  obtain ⟨v3, q3⟩ := hb.cell_some (i := k * 4 + 3) (by omega)
  have f0 := hb.frozen (k * 4)
  have f1 := hb.frozen (k * 4 + 1)
  have f2 := hb.frozen (k * 4 + 2)
  have f3 := hb.frozen (k * 4 + 3)
  have hgl := hb.lt
  have HG := Lib.hid hb
  have HGC := Lib.hid hg
  have HSZ := Lib.hid hsz
  have HTK := Lib.hid htk
  have HCM := Lib.hid hcm
  clear hb hg hsz htk hcm
  have hkI : (k : Int) < (l.length : Int) := by omega
  have hlI : (l.length : Int) ≤ 9223372036854775807 := by omega
  have hrl := HB.out.lt
  unfold Wt.agg
  go_enter Tryd.func81, Tryd.ntmps81
  go_wp2_with (go_at_call 95; refine (len_any (HR.out.alloc _)).mono ?_; rintro e w' ⟨rfl, rfl⟩)
  go_region
  go_wp2
  go_ret
  have hgr : g ≠ r := HG.out.ne_ HB.out (by decide)
  have B0 := ((((HG.out.set_ (k * 4) (.int .i64 x.seq)).set_ (k * 4 + 1) (.string x.data)).set_ (k * 4 + 2) (.bool x.sent)).set_ (k * 4 + 3) (.int .i64 x.age))
  have R0 := ((((HB.out.far (p := ⟨g, k * 4, none⟩) hgr.symm (.int .i64 x.seq)).far (p := ⟨g, k * 4 + 1, none⟩) hgr.symm (.string x.data)).far (p := ⟨g, k * 4 + 2, none⟩) hgr.symm (.bool x.sent)).far (p := ⟨g, k * 4 + 3, none⟩) hgr.symm (.int .i64 x.age))
  have S0 := ((((Step.refl o (only c) w).setCell (p := ⟨g, k * 4, none⟩) HGC.out (.int .i64 x.seq)).setCell (p := ⟨g, k * 4 + 1, none⟩) HGC.out (.string x.data)).setCell (p := ⟨g, k * 4 + 2, none⟩) HGC.out (.bool x.sent)).setCell (p := ⟨g, k * 4 + 3, none⟩) HGC.out (.int .i64 x.age)
  refine ⟨rfl, ⟨_, (R0.alloc _).drew, HO.out, ?_⟩, (S0.alloc _).drew⟩
  have hl : (l.set k x).length = l.length := by simp
  rw [hl]
  refine (OwnS.of_blk (B0.alloc _).drew HGC.out hc1 HCM.out (by simp [HSZ.out]) ?_)
  rw [wcells_set x l k hk, ← HTK.out]
  simp [List.take_set]

set_option maxHeartbeats 400000 in
theorem push_any {o : Nat → Nat} {c : Nat} {w : World} {r : Nat} {most : Int} {l : List Wt} (h : RingAt o c w r most l) (hm2 : most ≤ 100000) (hl : (l.length : Int) < most)
    (A : Option Addr) (cap : Nat) (x : Wt) (hr : Reads w 4 A 1 x.cells) (hcap : 1 ≤ cap) (hcap2 : cap ≤ maxLen) :
    Calls Tryd.prog 78 #[.pointer (some ⟨r, 0, none⟩), .slice A 1 cap] w fun e w' => e = .returned (.int .i64 1) ∧ ∃ o', RingAt o' c w' r most (l ++ [x]) ∧ Step o (only c) w o' w' := by
  have HR := Lib.hid h
  obtain ⟨v, hb, hc, hv⟩ := h
  obtain ⟨A0, cap0, rfl, hc1, hc2⟩ := own_form hv
  have h0 := hb.cell 0
  have h1 := hb.cell 1
  have hfz := hb.frozen 0
  simp at h0 h1
  have HB := Lib.hid hb
  have HV := Lib.hid hv
  obtain ⟨i0, hi, hz0, hz1, hz2⟩ := info_parts info_w
  clear hb hv
  have hmax : cap ≤ 9223372036854775807 := by unfold maxLen at hcap2; omega
  have hcap2 := Lib.hid hcap2
  have hlen : (l.length : Int) ≤ 100000 := by omega
  have hcapI : (1 : Int) ≤ (cap : Int) := by omega
  have HO := Lib.hid hc
  clear hc
  go_enter Tryd.func78, Tryd.ntmps78
  go_wp2_with (go_at_call 77; refine (rroom_any HR.out (by omega) (by omega) (by omega)).mono ?_; rintro e w' ⟨rfl, n, rfl⟩)
  have hrw := (own_blk_ne HV.out HB.out (by decide))
  have HNE := Lib.hid hrw
  clear hrw
  go_region_law (refine step_append_S _ rfl (.tmp 17) (.tmp 20) 127 rfl 122 i0 _ 4 40 Tryd.underlying127 hi hz0 hz1 hz2 rfl (by omega) (.slice A0 l.length cap0) l.length (wcells l) rfl (HV.out.drewN n).drew A 1 cap x.cells rfl (hr.drewN n).drew (by simp [Wt.cells, Value.oneCell']) (by unfold maxLen; omega) (by omega) ?_; intro v' w1 hown hk hg hat; have hb1 : Blk w1 r 144 _ := (hg.block r (HB.out.lt) (fun e => HNE.out e.symm)).trans HB.out; have k0 := hb1.cell 0; have k1 := hb1.frozen 0; simp at k0 k1; obtain ⟨A1, cap1, rfl, _, _⟩ := own_form hown; have HB1 := Lib.hid hb1; clear hb1 hg; have HOWN := Lib.hid hown; clear hown; have HAT := Lib.hid hat; clear hat)
  go_wp2
  go_ret
  have hor := (hk.old r HB.out.lt).trans HO.out
  refine ⟨rfl, _, ⟨_, HB1.out.set_ 0 _, hor, ?_⟩, ?_⟩
  · have e1 : wcells (l ++ [x]) = wcells l ++ x.cells := by simp [wcells]
    have h2 := HOWN.out.setCell (p := ⟨r, 0, none⟩) (own_blk_ne HOWN.out HB1.out (by decide)) (Value.slice A1 (l.length + 1) cap1)
    rw [e1]
    simpa using h2
  · exact (Step.of_drewN hk).setCell (p := ⟨r, 0, none⟩) hor _

end Go.Proofs.YtoploimpfhnanaaDoor
