/- Redo: the head of a log. -/
import Derived.Test.YtianlhigeabehaaGreatDoorKRecE
import Derived.Test.YtianlhigeabehaaGreatDoorKERing
import Derived.Test.YtianlhigeabehaaGreatDoorKRecQ
namespace Go.Proofs.YtianlhigeabehaaGreatDoor
open Go.RowKit

theorem trim_zero (s : ByteArray) (w : World) (hs : s.size ≤ 1000000000) : Calls Tryz.prog 90 #[.string s, .string ⟨#[0]⟩] w fun e w' => e = .returned (.string ⟨(Lib.trimB s.data.toList 0).toArray⟩) ∧ Below w.heap.size w w' := by
  refine (Tryz.strings_Trim_one s 0 (by decide) w (by omega)).mono ?_
  rintro e w2 ⟨rfl, hw2⟩
  refine ⟨rfl, ?_⟩
  rcases hw2 with rfl | rfl
  · exact Below.refl _ _
  · exact ⟨rfl, rfl, rfl, Nat.le_refl _, fun _ _ => rfl⟩
theorem readE_le {D : Dk} : D.wf → ∀ at_ : Int, (D.readS at_ 1).size ≤ 64 := fun h at_ => readS_size h at_ 1
set_option maxRecDepth 100000 in
set_option maxHeartbeats 4000000 in
theorem ehead_any {o : Nat → Nat} {c p : Nat} {w : World} {D : Dk} (h : DiskAt o c w p D) (hsec : D.sectors ≤ 20000) (hwf : D.wf) (node : Int) :
    Calls Tryz.prog 46 #[.pointer (some ⟨p, 0, none⟩), .agg #[.int .i64 2, .int .i64 10, .int .i64 8, .int .i64 4, .int .i64 32], .int .i64 node] w fun e w' => e = .returned (.tuple #[(D.headH node).agg, .bool (D.headI node), .int .i64 (D.headE node)]) ∧ Below w.heap.size w w' := by
  have hB0 := (Below.refl w.heap.size w).alloc (Nat.le_refl _) (.cells #[.int .i64 2, .int .i64 10, .int .i64 8, .int .i64 4, .int .i64 32] 31)
  have HL := Lib.hid ((Blk.new w 31 #[.int .i64 2, .int .i64 10, .int .i64 8, .int .i64 4, .int .i64 32]).alloc (.cells #[.int .u64 0, .int .u64 0, .int .i64 0] 95))
  have HZ := Lib.hid (Blk.new (w.alloc (.cells #[.int .i64 2, .int .i64 10, .int .i64 8, .int .i64 4, .int .i64 32] 31)) 95 #[.int .u64 0, .int .u64 0, .int .i64 0])
  have HB := Lib.hid (hB0.alloc hB0.size (.cells #[.int .u64 0, .int .u64 0, .int .i64 0] 95))
  have HD := Lib.hid ((h.alloc (.cells #[.int .i64 2, .int .i64 10, .int .i64 8, .int .i64 4, .int .i64 32] 31)).alloc (.cells #[.int .u64 0, .int .u64 0, .int .i64 0] 95))
  rw [show (w.alloc (.cells #[.int .i64 2, .int .i64 10, .int .i64 8, .int .i64 4, .int .i64 32] 31)).heap.size = w.heap.size + 1 by simp] at HZ
  obtain ⟨g, hg⟩ : ∃ g, g = w.heap.size + 1 := ⟨_, rfl⟩
  obtain ⟨gl, hgl⟩ : ∃ g, g = w.heap.size := ⟨_, rfl⟩
  have HG := Lib.hid (show w.heap.size ≤ g by omega)
  have HNE := Lib.hid (show gl ≠ g by omega)
  have HW := Lib.hid hwf
  have HSB := Lib.hid (show (D.headB node).size ≤ 1000000000 by have : (D.headB node).size ≤ 64 := readE_le hwf _; omega)
  have HHE := Lib.hid (show D.headE1 node = if (logAt node).2 ≠ 0 then (logAt node).2 else D.readE (logAt node).1 1 from rfl)
  have HHB := Lib.hid (show D.readS (logAt node).1 1 = D.headB node from rfl)
  have fin : ∀ (W : World) (x : Hd) (i : Bool) (e : Int), Blk W g 95 #[.int .u64 x.epoch, .int .u64 x.lsn, .int .i64 x.at_] → Below w.heap.size w W → D.headH node = x → D.headI node = i → D.headE node = e →
      Blk W g 95 #[.int .u64 x.epoch, .int .u64 x.lsn, .int .i64 x.at_] ∧ Below w.heap.size w W ∧ Ending.returned (.tuple #[.agg #[.int .u64 x.epoch, .int .u64 x.lsn, .int .i64 x.at_], .bool i, .int .i64 e]) = .returned (.tuple #[(D.headH node).agg, .bool (D.headI node), .int .i64 (D.headE node)]) := fun W x i e h1 h2 h3 h4 h5 => ⟨h1, h2, by rw [h3, h4, h5]; rfl⟩
  have FIN := Lib.hid fin
  have bad : ∀ e, D.headE1 node = e → e ≠ 0 → D.headH node = Hd.zero ∧ D.headI node = false ∧ D.headE node = e := fun e h1 h2 => ⟨if_neg (fun h => h2 (h1 ▸ h.1)), decide_eq_false (fun h => h2 (h1 ▸ h.1)), by unfold Dk.headE; rw [h1, if_pos h2]⟩
  have BAD := Lib.hid bad
  clear h hwf hB0 fin bad
  go_enter Tryz.func46, Tryz.ntmps46
  go_wp2_with fail
  rw [← hg] at HZ ⊢
  rw [← hgl] at HL ⊢
  generalize (w.alloc (.cells #[.int .i64 2, .int .i64 10, .int .i64 8, .int .i64 4, .int .i64 32] 31)).alloc (.cells #[.int .u64 0, .int .u64 0, .int .i64 0] 95) = W at HL HZ HB HD ⊢
  clear hg hgl
  refine (logat_any node W).mono ?_
  rintro r w1 ⟨rfl, hb1⟩
  have HD1 := Lib.hid (HD.out.below_ hb1)
  have HB1 := Lib.hid (HB.out.trans (hb1.mono HB.out.size))
  have HZ1 := Lib.hid (HZ.out.below_ hb1)
  have HL1 := Lib.hid (HL.out.below_ hb1)
  clear hb1
  obtain ⟨A, hA⟩ : ∃ A, logAt node = A := ⟨_, rfl⟩
  rw [hA] at HHE HHB ⊢
  obtain ⟨a, E⟩ := A
  simp only at HHE HHB ⊢
  clear hA
  by_cases h0 : E = 0
  · subst h0
    go_wp2_with fail
    refine (dread_any HD1.out a 1 hsec HW.out).mono ?_
    rintro r w2 ⟨rfl, hb2⟩
    have HB2 := Lib.hid (HB1.out.trans (hb2.mono HB1.out.size))
    have HZ2 := Lib.hid (HZ1.out.below_ hb2)
    have HL2 := Lib.hid (HL1.out.below_ hb2)
    clear hb2
    obtain ⟨F, hF⟩ : ∃ F, D.readE a 1 = F := ⟨_, rfl⟩
    rw [hF] at HHE ⊢
    rw [HHB.out]
    clear hF
    obtain ⟨b, hb⟩ : ∃ b, D.headB node = b := ⟨_, rfl⟩
    rw [hb] at HSB ⊢
    have HHB2 := Lib.hid hb
    clear hb
    by_cases h1 : F = 0
    · subst h1
      have HE1 := Lib.hid (show D.headE1 node = 0 by rw [HHE.out]; rfl)
      go_wp2_with fail
      refine (gethead_any b w2 HSB.out).mono ?_
      rintro r w3 ⟨rfl, hb3⟩
      obtain ⟨X, hX⟩ : ∃ X, lhG b = X := ⟨_, rfl⟩
      obtain ⟨Q, hQ⟩ : ∃ Q, lhE b = Q := ⟨_, rfl⟩
      obtain ⟨xe, xl, xa⟩ := X
      rw [hX, hQ]
      unfold Hd.agg
      have HLX := Lib.hid hX
      have HLQ := Lib.hid hQ
      have hBa := HB2.out.trans (hb3.mono HB2.out.size)
      have HB3 := Lib.hid (hBa.alloc hBa.size (.cells #[.int .u64 xe, .int .u64 xl, .int .i64 xa] 95))
      have HZ3 := Lib.hid ((HZ2.out.below_ hb3).alloc (.cells #[.int .u64 xe, .int .u64 xl, .int .i64 xa] 95))
      have HL3 := Lib.hid ((HL2.out.below_ hb3).alloc (.cells #[.int .u64 xe, .int .u64 xl, .int .i64 xa] 95))
      have HX3 := Lib.hid (Blk.new w3 95 #[.int .u64 xe, .int .u64 xl, .int .i64 xa])
      have HXG := Lib.hid (show w3.heap.size ≠ g from (Nat.ne_of_lt (HZ2.out.below_ hb3).lt).symm)
      clear hb3 hBa hX hQ
      by_cases hq : Q = 0
      · subst hq
        have r1 : D.headH node = ⟨xe, xl, xa⟩ := by unfold Dk.headH; rw [HHB2.out, if_pos ⟨HE1.out, HLQ.out⟩]; exact HLX.out
        have r2 : D.headI node = decide (xa < 7) := by
          unfold Dk.headI
          rw [HHB2.out, HE1.out, HLQ.out, HLX.out]
          simp
        have r3 : D.headE node = 0 := by unfold Dk.headE; rw [HHB2.out, HE1.out, if_neg (by decide), HLQ.out, if_pos rfl]
        have HR := Lib.hid (show D.headH node = ⟨xe, xl, xa⟩ ∧ D.headI node = decide (xa < 7) ∧ D.headE node = 0 from ⟨r1, r2, r3⟩)
        clear r1 r2 r3
        go_upto_region 11 with (fail)
        generalize w3.alloc (.cells #[.int .u64 xe, .int .u64 xl, .int .i64 xa] 95) = W3 at HB3 HZ3 HL3 HX3 ⊢
        generalize w3.heap.size = gX at HX3 HXG ⊢
        obtain ⟨x0, x1, x2⟩ := HX3.out.drew.three
        obtain ⟨y0, y1, y2⟩ := HZ3.out.three
        have f0 := HZ3.out.frozen 0
        have f1 := HZ3.out.frozen 1
        have f2 := HZ3.out.frozen 2
        have hw7 : IntKind.i64.wrap 7 = 7 := by rw [IntKind.wrap_i64]; decide
        have l2 : W3.drew.cell? ⟨gl, 2, none⟩ = some (.int .i64 8) := HL3.out.cell 2
        have hxk := (((HX3.out.drew.far (p := ⟨g, 0, none⟩) HXG.out (.int .u64 xe)).far (p := ⟨g, 1, none⟩) HXG.out (.int .u64 xl)).far (p := ⟨g, 2, none⟩) HXG.out (.int .i64 xa)).three
        have hlk : ((((W3.drew.setCell ⟨g, 0, none⟩ (.int .u64 xe)).setCell ⟨g, 1, none⟩ (.int .u64 xl)).setCell ⟨g, 2, none⟩ (.int .i64 xa)).cell? ⟨gl, 2, none⟩) = some (.int .i64 8) := (((HL3.out.drew.far (p := ⟨g, 0, none⟩) HNE.out (.int .u64 xe)).far (p := ⟨g, 1, none⟩) HNE.out (.int .u64 xl)).far (p := ⟨g, 2, none⟩) HNE.out (.int .i64 xa)).cell 2
        go_region_held3 (fun w' => w'.cell? ⟨gX, 0, none⟩ = some (.int .u64 xe) ∧ w'.cell? ⟨gX, 1, none⟩ = some (.int .u64 xl) ∧ w'.cell? ⟨gX, 2, none⟩ = some (.int .i64 xa) ∧ w'.cell? ⟨gl, 2, none⟩ = some (.int .i64 8))
          (first | exact ⟨x0, x1, x2, l2⟩ | exact ⟨hxk.1, hxk.2.1, hxk.2.2, hlk⟩ | go_keep)
          (fail)
        all_goals
          try go_wp2_with fail
          obtain ⟨r1, r2, r3⟩ := HR.out
          obtain ⟨hz4, hb4, he⟩ := FIN.out _ ⟨xe, xl, xa⟩ (decide (xa < 7)) 0 (HZ3.out.put3 (.int .u64 xe) (.int .u64 xl) (.int .i64 xa)).drew (below_drew' (below_put3 HB3.out HG.out _ _ _)) r1 r2 r3
          rw [← he]
          generalize (((W3.setCell ⟨g, 0, none⟩ (.int .u64 xe)).setCell ⟨g, 1, none⟩ (.int .u64 xl)).setCell ⟨g, 2, none⟩ (.int .i64 xa)).drew = WE at hz4 hb4 ⊢
          obtain ⟨q0, q1, q2⟩ := hz4.three
          exact bodyPost_ret (v := .tuple #[.agg #[.int .u64 xe, .int .u64 xl, .int .i64 xa], .bool (decide (xa < 7)), .int .i64 0]) (by simp [results, Tryz.results46, go_sem, q0, q1, q2]) rfl ⟨rfl, hb4⟩
      · have t1 : (Q == 0) = false := beq_eq_false_iff_ne.2 hq
        have r1 : D.headH node = Hd.zero := by unfold Dk.headH; rw [HHB2.out, if_neg (fun h => hq (HLQ.out ▸ h.2))]
        have r2 : D.headI node = false := by unfold Dk.headI; rw [HHB2.out]; exact decide_eq_false (fun h => hq (HLQ.out ▸ h.2.1))
        have r3 : D.headE node = if allZero b then 0 else 15 := by unfold Dk.headE; rw [HHB2.out, HE1.out, if_neg (by decide), HLQ.out, if_neg hq]
        have HR := Lib.hid (show D.headH node = Hd.zero ∧ D.headI node = false from ⟨r1, r2⟩)
        have HR3 := Lib.hid r3
        have HBZ := Lib.hid (show b.size ≤ 1000000000 from HSB.out)
        clear r1 r2 r3 hq
        go_wp2_with fail
        generalize w3.alloc (.cells #[.int .u64 xe, .int .u64 xl, .int .i64 xa] 95) = W3 at HB3 HZ3 HL3 HX3 ⊢
        refine (trim_zero b W3 HBZ.out).mono ?_
        rintro r w4 ⟨rfl, hb4⟩
        have HB4 := Lib.hid (HB3.out.trans (hb4.mono HB3.out.size))
        have HZ4 := Lib.hid (HZ3.out.below_ hb4)
        clear hb4
        obtain ⟨y0, y1, y2⟩ := HZ4.out.three
        have f0 := HZ4.out.frozen 0
        have f1 := HZ4.out.frozen 1
        have f2 := HZ4.out.frozen 2
        by_cases hz : allZero b
        · have e2 : Lib.trimB b.data.toList 0 = [] := (trim_nil _).2 hz
          have HE := Lib.hid (show D.headE node = 0 by rw [HR3.out, if_pos hz])
          rw [e2]
          clear e2 hz
          go_wp2_with fail
          obtain ⟨r1, r2⟩ := HR.out
          obtain ⟨hz4, hb5, he⟩ := FIN.out _ Hd.zero false 0 (HZ4.out.put3 (.int .u64 0) (.int .u64 0) (.int .i64 0)) (below_put3 HB4.out HG.out _ _ _) r1 r2 HE.out
          rw [← he]
          clear y0 y1 y2 f0 f1 f2
          generalize ((w4.setCell ⟨g, 0, none⟩ (.int .u64 0)).setCell ⟨g, 1, none⟩ (.int .u64 0)).setCell ⟨g, 2, none⟩ (.int .i64 0) = WE at hz4 hb5 ⊢
          obtain ⟨q0, q1, q2⟩ := hz4.three
          exact bodyPost_ret (v := .tuple #[.agg #[.int .u64 0, .int .u64 0, .int .i64 0], .bool false, .int .i64 0]) (by simp [results, Tryz.results46, go_sem, q0, q1, q2, Hd.zero]) rfl ⟨rfl, hb5⟩
        · have e2 : ¬ Lib.trimB b.data.toList 0 = [] := fun h => hz ((trim_nil _).1 h)
          have HE := Lib.hid (show D.headE node = 15 by rw [HR3.out, if_neg hz])
          have e4 : (Lib.trimB b.data.toList 0).isEmpty = false := by simpa using e2
          generalize Lib.trimB b.data.toList 0 = t at e2 e4 ⊢
          clear hz
          go_wp2_with fail
          obtain ⟨r1, r2⟩ := HR.out
          obtain ⟨hz4, hb5, he⟩ := FIN.out _ Hd.zero false 15 (HZ4.out.put3 (.int .u64 0) (.int .u64 0) (.int .i64 0)) (below_put3 HB4.out HG.out _ _ _) r1 r2 HE.out
          rw [← he]
          clear y0 y1 y2 f0 f1 f2
          generalize ((w4.setCell ⟨g, 0, none⟩ (.int .u64 0)).setCell ⟨g, 1, none⟩ (.int .u64 0)).setCell ⟨g, 2, none⟩ (.int .i64 0) = WE at hz4 hb5 ⊢
          obtain ⟨q0, q1, q2⟩ := hz4.three
          exact bodyPost_ret (v := .tuple #[.agg #[.int .u64 0, .int .u64 0, .int .i64 0], .bool false, .int .i64 15]) (by simp [results, Tryz.results46, go_sem, q0, q1, q2, Hd.zero]) rfl ⟨rfl, hb5⟩
    · have t1 : (F != 0) = true := bne_iff_ne.2 h1
      obtain ⟨r1, r2, r3⟩ := BAD.out F (by rw [HHE.out]; rfl) h1
      obtain ⟨y0, y1, y2⟩ := HZ2.out.three
      have f0 := HZ2.out.frozen 0
      have f1 := HZ2.out.frozen 1
      have f2 := HZ2.out.frozen 2
      have HR := Lib.hid (show D.headH node = Hd.zero ∧ D.headI node = false ∧ D.headE node = F from ⟨r1, r2, r3⟩)
      clear h1 r1 r2 r3
      go_wp2_with fail
      obtain ⟨r1, r2, r3⟩ := HR.out
      obtain ⟨hz4, hb5, he⟩ := FIN.out _ Hd.zero false F (HZ2.out.put3 (.int .u64 0) (.int .u64 0) (.int .i64 0)) (below_put3 HB2.out HG.out _ _ _) r1 r2 r3
      rw [← he]
      clear y0 y1 y2 f0 f1 f2
      generalize ((w2.setCell ⟨g, 0, none⟩ (.int .u64 0)).setCell ⟨g, 1, none⟩ (.int .u64 0)).setCell ⟨g, 2, none⟩ (.int .i64 0) = WE at hz4 hb5 ⊢
      obtain ⟨q0, q1, q2⟩ := hz4.three
      exact bodyPost_ret (v := .tuple #[.agg #[.int .u64 0, .int .u64 0, .int .i64 0], .bool false, .int .i64 F]) (by simp [results, Tryz.results46, go_sem, q0, q1, q2, Hd.zero]) rfl ⟨rfl, hb5⟩
  · have t1 : (E != 0) = true := bne_iff_ne.2 h0
    obtain ⟨r1, r2, r3⟩ := BAD.out E (by rw [HHE.out, if_pos h0]) h0
    obtain ⟨y0, y1, y2⟩ := HZ1.out.three
    have f0 := HZ1.out.frozen 0
    have f1 := HZ1.out.frozen 1
    have f2 := HZ1.out.frozen 2
    have HR := Lib.hid (show D.headH node = Hd.zero ∧ D.headI node = false ∧ D.headE node = E from ⟨r1, r2, r3⟩)
    clear h0 r1 r2 r3
    go_wp2_with fail
    obtain ⟨r1, r2, r3⟩ := HR.out
    obtain ⟨hz4, hb5, he⟩ := FIN.out _ Hd.zero false E (HZ1.out.put3 (.int .u64 0) (.int .u64 0) (.int .i64 0)) (below_put3 HB1.out HG.out _ _ _) r1 r2 r3
    rw [← he]
    clear y0 y1 y2 f0 f1 f2
    generalize ((w1.setCell ⟨g, 0, none⟩ (.int .u64 0)).setCell ⟨g, 1, none⟩ (.int .u64 0)).setCell ⟨g, 2, none⟩ (.int .i64 0) = WE at hz4 hb5 ⊢
    obtain ⟨q0, q1, q2⟩ := hz4.three
    exact bodyPost_ret (v := .tuple #[.agg #[.int .u64 0, .int .u64 0, .int .i64 0], .bool false, .int .i64 E]) (by simp [results, Tryz.results46, go_sem, q0, q1, q2, Hd.zero]) rfl ⟨rfl, hb5⟩
end Go.Proofs.YtianlhigeabehaaGreatDoor

/- A node's log: none, may, size, fail, Used, Fits. -/
namespace Go.Proofs.YtianlhigeabehaaGreatDoor
open Go.RowKit

/-- the log at block q, of colour c (its ring: c + 1), of the disk at p -/
def LogAt (o : Nat → Nat) (c : Nat) (w : World) (q : Nat) (g : Lg) (p : Nat) : Prop := ∃ r, Blk w q 77 (g.cells p r) ∧ o q = c ∧ EringAt o (c + 1) w r 100000 g.live
section
variable {o o' : Nat → Nat} {c p q : Nat} {C : Nat → Prop} {w w' : World} {g : Lg}
theorem LogAt.step (h : LogAt o c w q g p) (hk : Step o C w o' w') (h0 : ¬ C c) (h1 : ¬ C (c + 1)) : LogAt o' c w' q g p := by
  obtain ⟨r, hb, hc, hv⟩ := h
  exact ⟨r, hb.step hk (by rw [hc]; exact h0), (hk.old q hb.lt).trans hc, hv.step hk h1⟩
theorem LogAt.alloc (h : LogAt o c w q g p) (x : Obj) : LogAt o c (w.alloc x) q g p := by
  obtain ⟨r, hb, hc, hv⟩ := h
  exact ⟨r, hb.alloc x, hc, hv.alloc x⟩
theorem LogAt.below_ (h : LogAt o c w q g p) (hb : Below w.heap.size w w') : LogAt o c w' q g p := by
  obtain ⟨r, h1, h2, h3⟩ := h
  exact ⟨r, h1.below_ hb, h2, h3.below_ hb⟩
theorem LogAt.lt (h : LogAt o c w q g p) : q < w.heap.size := by
  obtain ⟨r, h1, h2, h3⟩ := h
  exact h1.lt
theorem LogAt.drew (h : LogAt o c w q g p) : LogAt o c w.drew q g p := h
theorem LogAt.drewN (h : LogAt o c w q g p) (n : Nat) : LogAt o c (w.drewN n) q g p := h
theorem LogAt.color (h : LogAt o c w q g p) (ho : ∀ k, k < w.heap.size → o' k = o k) : LogAt o' c w q g p := by
  obtain ⟨r, h1, h2, h3⟩ := h
  exact ⟨r, h1, (ho q h1.lt).trans h2, h3.color ho⟩

theorem gnone_any (h : LogAt o c w q g p) : Calls Tryz.prog 75 #[.pointer (some ⟨q, 0, none⟩)] w fun e w' => e = .returned (.bool false) ∧ w = w' := by
  obtain ⟨r, hb, _, _⟩ := h
  have x0 : w.cell? ⟨q, 0, none⟩ = some (.pointer (some ⟨p, 0, none⟩)) := hb.cell 0
  clear hb
  go_enter Tryz.func75, Tryz.ntmps75
  go_wp2
  go_ret
  exact ⟨rfl, rfl⟩
def Lg.mayE (g : Lg) : Int := if g.broken then 13 else 0
theorem gmay_any (h : LogAt o c w q g p) : Calls Tryz.prog 33 #[.pointer (some ⟨q, 0, none⟩)] w fun e w' => e = .returned (.int .i64 g.mayE) ∧ w = w' := by
  have H := Lib.hid h
  obtain ⟨r, hb, _, _⟩ := h
  have x11 : w.cell? ⟨q, 15, none⟩ = some (.bool g.broken) := hb.cell 15
  clear hb
  have HM := Lib.hid (show g.mayE = if g.broken then 13 else 0 from rfl)
  generalize g.mayE = E at HM ⊢
  go_enter Tryz.func33, Tryz.ntmps33
  go_wp2_with fail
  refine (gnone_any H.out).mono ?_
  rintro e w1 ⟨rfl, rfl⟩
  cases hg : g.broken with
  | true =>
    rw [hg] at x11
    have HE := Lib.hid (show E = 13 by rw [HM.out, hg]; rfl)
    clear hg
    go_wp2_with fail
    go_ret
    exact ⟨by rw [HE.out]; rfl, rfl⟩
  | false =>
    rw [hg] at x11
    have HE := Lib.hid (show E = 0 by rw [HM.out, hg]; rfl)
    clear hg
    go_wp2_with fail
    go_ret
    exact ⟨by rw [HE.out]; rfl, rfl⟩
theorem gsize_any (h : LogAt o c w q g p) : Calls Tryz.prog 39 #[.pointer (some ⟨q, 0, none⟩)] w fun e w' => e = .returned (.int .i64 7) ∧ w = w' := by
  obtain ⟨r, hb, _, _⟩ := h
  have x3 : w.cell? ⟨q, 3, none⟩ = some (.int .i64 8) := hb.cell 3
  have hw7 : IntKind.i64.wrap 7 = 7 := by rw [IntKind.wrap_i64]; decide
  clear hb
  go_enter Tryz.func39, Tryz.ntmps39
  go_wp2
  go_ret
  exact ⟨rfl, rfl⟩
def Lg.failG (g : Lg) (e : Int) : Lg := if e ≠ 0 then { g with broken := true } else g
theorem gfail_any (h : LogAt o c w q g p) (e : Int) : Calls Tryz.prog 42 #[.pointer (some ⟨q, 0, none⟩), .int .i64 e] w fun r w' => r = .returned (.int .i64 e) ∧ LogAt o c w' q (g.failG e) p ∧ Step o (only c) w o w' := by
  obtain ⟨r, hb, hc, hr⟩ := h
  have x11 : w.cell? ⟨q, 15, none⟩ = some (.bool g.broken) := hb.cell 15
  have f11 := hb.frozen 15
  have HB := Lib.hid hb
  have HC := Lib.hid hc
  have HR := Lib.hid hr
  clear hb hc hr
  by_cases he : e = 0
  · subst he
    go_enter Tryz.func42, Tryz.ntmps42
    go_wp2_with fail
    go_ret
    exact ⟨rfl, ⟨r, HB.out, HC.out, HR.out⟩, Step.refl _ _ _⟩
  · have t1 : (e != 0) = true := bne_iff_ne.2 he
    have HG := Lib.hid (show g.failG e = { g with broken := true } from if_pos he)
    clear he
    go_enter Tryz.func42, Tryz.ntmps42
    go_wp2_with fail
    go_ret
    have S := (Step.refl o (only c) w).setCell (p := ⟨q, 15, none⟩) HC.out (.bool true)
    refine ⟨rfl, ?_, S⟩
    rw [HG.out]
    exact ⟨r, HB.out.set_ 15 (.bool true), HC.out, HR.out.step S (by simp [only])⟩
/-- the sum of the first k entries' sectors -/
def usedN (l : List En) (k : Nat) : Nat := (l.take k).foldl (fun n x => n + x.n) 0
theorem usedN_succ {l : List En} {k : Nat} {x : En} (h : l[k]? = some x) : usedN l (k + 1) = usedN l k + x.n := by
  unfold usedN
  rw [List.take_add_one, h]
  simp [List.foldl_append]
theorem foldl_ge (l : List En) : ∀ a : Nat, a ≤ l.foldl (fun n x => n + x.n) a := by
  induction l with
  | nil => exact fun a => Nat.le_refl _
  | cons x l ih => exact fun a => Nat.le_trans (Nat.le_add_right a x.n) (ih (a + x.n))
theorem usedN_le (l : List En) (k : Nat) : usedN l k ≤ usedN l l.length := by
  unfold usedN
  rw [List.take_length]
  conv => rhs; rw [← List.take_append_drop k l]
  rw [List.foldl_append]
  exact foldl_ge _ _
theorem Reads.enrow {w : World} {A : Option Addr} {l : List En} (h : Reads w 5 A l.length (encells l)) {k : Nat} {x : En} (hx : l[k]? = some x) :
    ∃ ad, A = some ad ∧ w.cell? (ad.add (k * 5)) = some (.int .u64 x.lsn) ∧ w.cell? ⟨(ad.add (k * 5)).block, (ad.add (k * 5)).off + 1, none⟩ = some (.int .i64 x.at_) ∧ w.cell? ⟨(ad.add (k * 5)).block, (ad.add (k * 5)).off + 2, none⟩ = some (.int .i64 x.n) ∧ w.cell? ⟨(ad.add (k * 5)).block, (ad.add (k * 5)).off + 3, none⟩ = some (.string x.bytes) ∧ w.cell? ⟨(ad.add (k * 5)).block, (ad.add (k * 5)).off + 4, none⟩ = some (.bool x.written) := by
  obtain ⟨ad, rfl, hc⟩ := Reads.row (f := En.cells) (fun _ => rfl) h hx
  exact ⟨ad, rfl, hc 0 _ rfl, hc 1 _ rfl, hc 2 _ rfl, hc 3 _ rfl, hc 4 _ rfl⟩
end
section
variable {o : Nat → Nat} {c p q : Nat} {w : World} {g : Lg}
set_option maxRecDepth 100000 in
set_option maxHeartbeats 2000000 in
theorem gused_any (h : LogAt o c w q g p) (hl : g.live.length ≤ 100000) (hu : g.used ≤ 1000000) : Calls Tryz.prog 80 #[.pointer (some ⟨q, 0, none⟩)] w fun e w' => e = .returned (.int .i64 g.used) ∧ Below w.heap.size w w' := by
  have H := Lib.hid h
  obtain ⟨r, hb, _, hr⟩ := h
  have x14 : w.cell? ⟨q, 14, none⟩ = some (.pointer (some ⟨r, 0, none⟩)) := hb.cell 14
  have HR := Lib.hid hr
  have hlI : (g.live.length : Int) ≤ 100000 := by omega
  have HU := Lib.hid hu
  have HL := Lib.hid hl
  have HUE := Lib.hid (show usedN g.live g.live.length = g.used by unfold usedN Lg.used; rw [List.take_length])
  clear hb hr
  go_enter Tryz.func80, Tryz.ntmps80
  go_wp2_with fail
  refine (gnone_any H.out).mono ?_
  rintro e w1 ⟨rfl, rfl⟩
  go_wp2_with fail
  refine (elist_any 0 HR.out HL.out).mono ?_
  rintro e w1 ⟨A, cap, rfl, hv, hb1⟩
  have HV := Lib.hid (Reads.of_own hv.1)
  have HB1 := Lib.hid hb1
  clear hv hb1
  go_wp2_with fail
  go_loopw [3, 14] (fun t3 t14 wr => ∃ k : Nat, k ≤ g.live.length ∧ t3 = .int .i64 (usedN g.live k) ∧ t14 = .int .i64 k ∧ Below w1.heap.size w1 wr) (fun _ t14 _ => g.live.length - (intOf t14).toNat)
  case atStart => exact ⟨0, by omega, rfl, rfl, Below.refl _ _⟩
  case round =>
    obtain ⟨k, hk, rfl, rfl, hwr⟩ := hrel
    have HWR := Lib.hid hwr
    by_cases hlt : k < g.live.length
    · have hltI : (k : Int) < (g.live.length : Int) := by omega
      obtain ⟨x, hx⟩ : ∃ x, g.live[k]? = some x := ⟨_, List.getElem?_eq_getElem hlt⟩
      obtain ⟨ad, rfl, y0, y1, y2, y3, y4⟩ := (HV.out.below' (by omega) hwr).enrow hx
      have HUS := Lib.hid (usedN_succ hx)
      have HUB := Lib.hid (show usedN g.live (k + 1) ≤ 1000000 from Nat.le_trans (usedN_le _ _) (by rw [HUE.out]; exact HU.out))
      have HWR2 := Lib.hid (hwr.alloc hwr.size (.cells #[.int .u64 x.lsn, .int .i64 x.at_, .int .i64 x.n, .string x.bytes, .bool x.written] 75))
      have hw0 : IntKind.i64.wrap ((usedN g.live k : Int) + (x.n : Int)) = ((usedN g.live k + x.n : Nat) : Int) := by rw [IntWalk.i64_in _ (by have := HUS.out; have := HUB.out; omega)]; omega
      clear hx hwr
      go_wp2_with fail
      go_roundw
      case rel => exact ⟨k + 1, by omega, by rw [HUS.out, ← hw0]; go_num, by go_num, HWR2.out⟩
      case measure => simp [intOf]; omega
    · have hltI : ¬ (k : Int) < (g.live.length : Int) := by omega
      obtain rfl : k = g.live.length := by omega
      go_wp2_with fail
      go_ret
      exact ⟨by rw [HUE.out]; rfl, HB1.out.trans (HWR.out.mono HB1.out.size)⟩
set_option maxRecDepth 100000 in
theorem most_eight (w : World) : Calls Tryz.prog 35 #[.int .i64 8] w fun e w' => e = .returned (.int .i64 1) ∧ w = w' := by
  have hs1 : secsOf 1 = 3 := by decide
  have hs2 : secsOf 2 = 6 := by decide
  go_enter Tryz.func35, Tryz.ntmps35
  go_wp2_with fail
  go_loopw [3] (fun t3 wr => ∃ j : Nat, j ≤ 1 ∧ t3 = .int .i64 j ∧ w = wr) (fun t3 _ => 1 - (intOf t3).toNat)
  case atStart => exact ⟨0, by omega, rfl, rfl⟩
  case round =>
    obtain ⟨j, hj, rfl, rfl⟩ := hrel
    by_cases h0 : j = 0
    · subst h0
      go_wp2_with fail
      refine (secs_any _ _).mono ?_
      rintro e w1 ⟨rfl, rfl⟩
      rw [hs1]
      go_wp2_with fail
      go_roundw
      case rel => exact ⟨1, by omega, by go_num, by first | rfl | trivial⟩
      case measure => simp [intOf]
    · obtain rfl : j = 1 := by omega
      go_wp2_with fail
      refine (secs_any _ _).mono ?_
      rintro e w1 ⟨rfl, rfl⟩
      rw [hs2]
      go_wp2_with fail
      go_ret
      exact ⟨rfl, rfl⟩
def Lg.fits (g : Lg) (n : Int) : Bool := decide (g.mayE = 0 ∧ n = 1 ∧ 3 + g.used ≤ 7)
set_option maxRecDepth 100000 in
set_option maxHeartbeats 2000000 in
theorem gfits_any (h : LogAt o c w q g p) (hl : g.live.length ≤ 100000) (hu : g.used ≤ 1000000) (n : Int) : Calls Tryz.prog 36 #[.pointer (some ⟨q, 0, none⟩), .int .i64 n] w fun e w' => e = .returned (.bool (g.fits n)) ∧ Below w.heap.size w w' := by
  have H := Lib.hid h
  obtain ⟨r, hb, _, hr⟩ := h
  have x3 : w.cell? ⟨q, 3, none⟩ = some (.int .i64 8) := hb.cell 3
  have HU := Lib.hid hu
  have HF := Lib.hid (show g.fits n = decide (g.mayE = 0 ∧ n = 1 ∧ 3 + g.used ≤ 7) from rfl)
  generalize g.fits n = F at HF ⊢
  clear hb hr
  by_cases h0 : g.mayE = 0
  · by_cases h1 : n < 1
    · have HE := Lib.hid (show F = false by rw [HF.out]; exact decide_eq_false (by omega))
      go_enter Tryz.func36, Tryz.ntmps36
      go_wp2_with fail
      refine (gmay_any H.out).mono ?_
      rintro e w1 ⟨rfl, rfl⟩
      rw [h0]
      go_wp2_with fail
      go_ret
      exact ⟨by rw [HE.out]; rfl, Below.refl _ _⟩
    · by_cases h2 : 1 < n
      · have HE := Lib.hid (show F = false by rw [HF.out]; exact decide_eq_false (by omega))
        go_enter Tryz.func36, Tryz.ntmps36
        go_wp2_with fail
        refine (gmay_any H.out).mono ?_
        rintro e w1 ⟨rfl, rfl⟩
        rw [h0]
        go_wp2_with fail
        refine (most_eight _).mono ?_
        rintro e w1 ⟨rfl, rfl⟩
        go_wp2_with fail
        go_ret
        exact ⟨by rw [HE.out]; rfl, Below.refl _ _⟩
      · obtain rfl : n = 1 := by omega
        have hsub : IntKind.i64.wrap (7 - (g.used : Int)) = 7 - (g.used : Int) := IntWalk.i64_in _ (by omega)
        have hs1 : secsOf 1 = 3 := by decide
        clear h1 h2
        go_enter Tryz.func36, Tryz.ntmps36
        go_wp2_with fail
        refine (gmay_any H.out).mono ?_
        rintro e w1 ⟨rfl, rfl⟩
        rw [h0]
        go_wp2_with fail
        refine (most_eight _).mono ?_
        rintro e w1 ⟨rfl, rfl⟩
        go_wp2_with fail
        refine (secs_any 1 _).mono ?_
        rintro e w1 ⟨rfl, rfl⟩
        rw [hs1]
        go_wp2_with fail
        refine (gsize_any H.out).mono ?_
        rintro e w1 ⟨rfl, rfl⟩
        go_wp2_with fail
        refine (gused_any H.out hl HU.out).mono ?_
        rintro e w1 ⟨rfl, hb1⟩
        have HB1 := Lib.hid hb1
        clear hb1
        have HE := Lib.hid (show F = decide ((3 : Int) ≤ 7 - (g.used : Int)) by rw [HF.out]; by_cases hq : 3 + g.used ≤ 7 <;> simp [h0, hq] <;> omega)
        go_wp2_with fail
        go_ret
        exact ⟨by rw [HE.out]; rfl, HB1.out⟩
  · have t1 : (g.mayE != 0) = true := bne_iff_ne.2 h0
    have HE := Lib.hid (show F = false by rw [HF.out]; exact decide_eq_false (by omega))
    clear h0
    go_enter Tryz.func36, Tryz.ntmps36
    go_wp2_with fail
    refine (gmay_any H.out).mono ?_
    rintro e w1 ⟨rfl, rfl⟩
    go_wp2_with fail
    go_ret
    exact ⟨by rw [HE.out]; rfl, Below.refl _ _⟩
end
end Go.Proofs.YtianlhigeabehaaGreatDoor
