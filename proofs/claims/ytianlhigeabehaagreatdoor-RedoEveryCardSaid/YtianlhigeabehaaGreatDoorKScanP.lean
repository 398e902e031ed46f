/- Redo: Scan. -/
import Derived.Test.YtianlhigeabehaaGreatDoorKRecH
import Derived.Test.YtianlhigeabehaaGreatDoorKLogA
import Derived.Test.YtianlhigeabehaaGreatDoorKRefE
import Derived.Test.YtianlhigeabehaaGreatDoorKApplyP
namespace Go.Proofs.YtianlhigeabehaaGreatDoor
open Go.RowKit

def rcells (x : Rc × Value) : List Value := [.int .u64 x.1.epoch, .int .u64 x.1.lsn, x.2]
/-- records that are gathered (rows of colour 1, their images of colour 2): what lay before w stays -/
structure RecsAt (o : Nat → Nat) (w wr : World) (V : Value) (rs : List Rc) (vs : List Value) : Prop where
  len : vs.length = rs.length
  own : OwnS o 1 wr 81 3 V rs.length ((rs.zip vs).flatMap rcells)
  ims : ∀ (k : Nat) (r : Rc) (v : Value), rs[k]? = some r → vs[k]? = some v → ∃ B cp, v = .slice B r.images.length cp ∧ OwnS o 2 wr 40 3 v r.images.length (imcells r.images)
  env : Env o w wr
  fut : Fut o wr
theorem RecsAt.start (w wr : World) (hb : Below w.heap.size w wr) : RecsAt (fun _ => 0) w wr (.slice none 0 0) [] [] :=
  ⟨rfl, OwnS.nil _ _ _ _ _, fun k r v h _ => by simp at h, (Env.start w).below_ hb, fun _ _ => rfl⟩
theorem RecsAt.step {o o' : Nat → Nat} {w wr w' : World} {V : Value} {rs : List Rc} {vs : List Value} {C : Nat → Prop} (h : RecsAt o w wr V rs vs) (hs : Step o C wr o' w') (h0 : ¬ C 0) (h1 : ¬ C 1) (h2 : ¬ C 2) : RecsAt o' w w' V rs vs :=
  ⟨h.len, h.own.step hs h1, fun k r v hr hv => by obtain ⟨B, cp, e, hown⟩ := h.ims k r v hr hv; exact ⟨B, cp, e, hown.step hs h2⟩, h.env.step hs h0, h.fut.step hs⟩
theorem get_small {b : ByteArray} (h : getE b = 0) : 1 ≤ getN b ∧ getN b * 64 ≤ b.size := by
  have hn : getN b = secsOf (firstN b) := if_pos h
  unfold getE at h
  split at h
  · exact absurd h (by assumption)
  · rename_i h1
    have h1 : firstE b = 0 := Classical.byContradiction h1
    split at h
    · exact absurd h (by decide)
    · rename_i h2
      refine ⟨?_, by rw [hn]; omega⟩
      have := first_ok h1
      have h3 : ¬ secsOf (firstN b) = 0 := fun e => this (.inr (.inr (.inr e)))
      rw [hn]
      omega
theorem headI_E {D : Dk} {node : Int} (h : D.headI node = true) : D.headE1 node = 0 ∧ lhE (D.headB node) = 0 ∧ (D.headH node).at_ < 7 ∧ 0 ≤ (D.headH node).at_ ∧ D.headE node = 0 := by
  have h1 := of_decide_eq_true h
  have h2 : D.headH node = lhG (D.headB node) := if_pos ⟨h1.1, h1.2.1⟩
  have h3 : lhG (D.headB node) = lhX (D.headB node) := if_pos h1.2.1
  refine ⟨h1.1, h1.2.1, by rw [h2]; exact h1.2.2, by rw [h2, h3]; unfold lhX; simp, ?_⟩
  unfold Dk.headE
  rw [h1.1, if_neg (by decide), if_pos h1.2.1]
theorem head_log {D : Dk} {node : Int} (h : D.headE1 node = 0) : (logAt node).2 = 0 ∧ D.readE (logAt node).1 1 = 0 := by
  unfold Dk.headE1 at h
  split at h
  · exact absurd h (by assumption)
  · rename_i h1
    exact ⟨Classical.byContradiction h1, h⟩
theorem logAt_at {node : Int} (h : (logAt node).2 = 0) : 1 ≤ (logAt node).1 ∧ (logAt node).1 ≤ 9 := by
  unfold logAt at h ⊢
  split at h
  · exact absurd h (by decide)
  · rw [if_neg (by assumption)]
    simp only
    omega
theorem scanL_zero (ep : Nat) {f lsn : Nat} {b : ByteArray} (hf : b.size < f * 64) (h : getE b ≠ 0 ∨ (getR b).epoch ≠ ep ∨ (getR b).lsn ≠ lsn) : scanL ep f lsn b = [] := by
  cases f with
  | zero => rfl
  | succ f => exact if_pos h
theorem scanL_succ (ep : Nat) {f lsn : Nat} {b : ByteArray} (h : ¬ (getE b ≠ 0 ∨ (getR b).epoch ≠ ep ∨ (getR b).lsn ≠ lsn)) : scanL ep (f + 1) lsn b = getR b :: scanL ep f ((lsn + 1) % 18446744073709551616) (b.extract (getN b * 64) b.size) := if_neg h
def strLen : Value → Nat
  | .string s => s.size
  | _ => 0
theorem info_rec : (Tryz.prog.info? 81).map (fun i => (i.zero, i.size, i.bytes)) = some (some (.agg #[.int .u64 0, .int .u64 0, .slice none 0 0]), 3, 40) := by kernel_rfl
/-- what Scan leaves: the records, all of it new -/
def ScanPost (w : World) (rs : List Rc) (E : Int) (e : Ending) (w' : World) : Prop := ∃ A cap, e = .returned (.tuple #[.slice A rs.length cap, .int .i64 E]) ∧ ∃ o vs, RecsAt o w w' (.slice A rs.length cap) rs vs
theorem RecsAt.add {o2 o3 : Nat → Nat} {w w2 w3 : World} {V V' : Value} {rs : List Rc} {vs : List Value} {r : Rc} {B : Option Addr} {cp : Nat} (h : RecsAt o2 w w2 V rs vs) (hi : OwnS o2 2 w2 40 3 (.slice B r.images.length cp) r.images.length (imcells r.images))
    (hs : Step o2 (only 1) w2 o3 w3) (hown : OwnS o3 1 w3 81 3 V' (rs.length + 1) ((rs.zip vs).flatMap rcells ++ [.int .u64 r.epoch, .int .u64 r.lsn, .slice B r.images.length cp])) : RecsAt o3 w w3 V' (rs ++ [r]) (vs ++ [.slice B r.images.length cp]) := by
  refine ⟨by simp [h.len], ?_, ?_, h.env.step hs (by unfold only; omega), h.fut.step hs⟩
  · rw [List.zip_append h.len.symm, List.flatMap_append, List.length_append]
    simpa [rcells] using hown
  · intro k r' v hr hv
    by_cases hk : k < rs.length
    · rw [List.getElem?_append_left hk] at hr
      rw [List.getElem?_append_left (by rw [h.len]; exact hk)] at hv
      obtain ⟨B', cp', e, ho⟩ := h.ims k r' v hr hv
      exact ⟨B', cp', e, ho.step hs (by unfold only; omega)⟩
    · rw [List.getElem?_append_right (by omega)] at hr
      rw [List.getElem?_append_right (by rw [h.len]; omega), h.len] at hv
      obtain ⟨n, hn⟩ : ∃ n, k - rs.length = n := ⟨_, rfl⟩
      rw [hn] at hr hv
      cases n with
      | zero =>
        simp at hr hv
        subst hr
        subst hv
        exact ⟨B, cp, rfl, hi.step hs (by unfold only; omega)⟩
      | succ n => simp at hr
set_option maxRecDepth 100000 in
set_option maxHeartbeats 8000000 in
theorem escan_any {o : Nat → Nat} {c p : Nat} {w : World} {D : Dk} (h : DiskAt o c w p D) (hsec : D.sectors ≤ 20000) (hwf : D.wf) (node : Int) :
    Calls Tryz.prog 12 #[.pointer (some ⟨p, 0, none⟩), .agg #[.int .i64 2, .int .i64 10, .int .i64 8, .int .i64 4, .int .i64 32], .int .i64 node] w (ScanPost w (D.scan node) (D.scanE node)) := by
  have hB0 := (Below.refl w.heap.size w).alloc (Nat.le_refl _) (.cells #[.int .i64 2, .int .i64 10, .int .i64 8, .int .i64 4, .int .i64 32] 31)
  have HB := Lib.hid hB0
  have HD := Lib.hid (h.alloc (.cells #[.int .i64 2, .int .i64 10, .int .i64 8, .int .i64 4, .int .i64 32] 31))
  have HL := Lib.hid (Blk.new w 31 #[.int .i64 2, .int .i64 10, .int .i64 8, .int .i64 4, .int .i64 32])
  have HW := Lib.hid hwf
  obtain ⟨RS, hRS⟩ : ∃ RS, D.scan node = RS := ⟨_, rfl⟩
  obtain ⟨RE, hRE⟩ : ∃ RE, D.scanE node = RE := ⟨_, rfl⟩
  rw [hRS, hRE]
  have HRE := Lib.hid (show RE = if D.headE node ≠ 0 then D.headE node else if D.headI node = false then 0 else D.readE ((logAt node).1 + 1) 7 from hRE ▸ rfl)
  have HRS := Lib.hid (show RS = if D.headE node ≠ 0 ∨ D.headI node = false ∨ D.readE ((logAt node).1 + 1) 7 ≠ 0 then [] else scanL (D.headH node).epoch 10 (D.headH node).lsn (rotS (D.readS ((logAt node).1 + 1) 7) ((D.headH node).at_.toNat * 64)) from hRS ▸ rfl)
  clear h hwf hB0 hRS hRE
  go_enter Tryz.func12, Tryz.ntmps12
  go_wp2_with fail
  generalize w.alloc (.cells #[.int .i64 2, .int .i64 10, .int .i64 8, .int .i64 4, .int .i64 32] 31) = W at HB HD HL ⊢
  refine (ehead_any HD.out hsec HW.out node).mono ?_
  rintro r w1 ⟨rfl, hb1⟩
  have HB1 := Lib.hid (HB.out.trans (hb1.mono HB.out.size))
  have HD1 := Lib.hid (HD.out.below_ hb1)
  have HL1 := Lib.hid (HL.out.below_ hb1)
  clear hb1
  cases hI : D.headI node with
  | false =>
    have HE1 := Lib.hid (show RE = D.headE node by rw [HRE.out, hI]; by_cases h0 : D.headE node = 0 <;> simp [h0])
    have HE2 := Lib.hid (show RS = [] by rw [HRS.out, hI]; simp)
    generalize D.headE node = E at HE1 ⊢
    obtain ⟨X, hX⟩ : ∃ X, D.headH node = X := ⟨_, rfl⟩
    obtain ⟨xe, xl, xa⟩ := X
    rw [hX]
    unfold Hd.agg
    clear hI hX HRE HRS
    have HB2 := Lib.hid (HB1.out.alloc HB1.out.size (.cells #[.int .u64 xe, .int .u64 xl, .int .i64 xa] 95))
    go_wp2_with fail
    go_ret2
    rw [HE1.out, HE2.out]
    exact ⟨none, 0, rfl, _, [], RecsAt.start _ _ HB2.out⟩
  | true =>
    obtain ⟨i1, i2, i3, i4, i5⟩ := headI_E hI
    obtain ⟨l1, l2⟩ := head_log i1
    obtain ⟨l3, l4⟩ := logAt_at l1
    obtain ⟨X, hX⟩ : ∃ X, D.headH node = X := ⟨_, rfl⟩
    obtain ⟨xe, xl, xa⟩ := X
    rw [hX] at HRS i3 i4 ⊢
    rw [i5, hI] at HRE HRS
    rw [i5]
    obtain ⟨A, hA⟩ : ∃ A, logAt node = A := ⟨_, rfl⟩
    have HLA := Lib.hid hA
    rw [hA] at HRE HRS l1 l3 l4
    obtain ⟨a, ae⟩ := A
    simp only at HRE HRS l1 l3 l4
    subst l1
    obtain ⟨f, hf⟩ : ∃ f : Nat, xa = f := ⟨xa.toNat, by simp only at i4; omega⟩
    subst hf
    simp only at i3
    have HX3 := Lib.hid i3
    have HA3 := Lib.hid l3
    have HA4 := Lib.hid l4
    unfold Hd.agg
    clear hI i1 i2 i3 i4 i5 l2 l3 l4 hX hA
    have HB2 := Lib.hid (HB1.out.alloc HB1.out.size (.cells #[.int .u64 xe, .int .u64 xl, .int .i64 (f : Int)] 95))
    have HD2 := Lib.hid (HD1.out.alloc (.cells #[.int .u64 xe, .int .u64 xl, .int .i64 (f : Int)] 95))
    have HL2 := Lib.hid (HL1.out.alloc (.cells #[.int .u64 xe, .int .u64 xl, .int .i64 (f : Int)] 95))
    have HX2 := Lib.hid (Blk.new w1 95 #[.int .u64 xe, .int .u64 xl, .int .i64 (f : Int)])
    obtain ⟨x0, x1, x2, x3, x4⟩ := HL2.out.five
    go_wp2_with fail
    generalize w1.alloc (.cells #[.int .u64 xe, .int .u64 xl, .int .i64 (f : Int)] 95) = W2 at HB2 HD2 HL2 HX2 x0 x1 x2 x3 x4 ⊢
    generalize w1.heap.size = gX at HX2 ⊢
    refine (logat_any node W2).mono ?_
    rintro r w3 ⟨rfl, hb3⟩
    rw [HLA.out]
    have HB3 := Lib.hid (HB2.out.trans (hb3.mono HB2.out.size))
    have HD3 := Lib.hid (HD2.out.below_ hb3)
    have HL3 := Lib.hid (HL2.out.below_ hb3)
    have HX3' := Lib.hid (HX2.out.below_ hb3)
    clear hb3 x0 x1 x2 x3 x4
    have x2 : w3.cell? ⟨w.heap.size, 2, none⟩ = some (.int .i64 8) := HL3.out.cell 2
    have hw7 : IntKind.i64.wrap 7 = 7 := by rw [IntKind.wrap_i64]; decide
    have hwa : IntKind.i64.wrap (a + 1) = a + 1 := IntWalk.i64_in _ (by have := HA3.out; have := HA4.out; omega)
    go_wp2_with fail
    refine (dread_any HD3.out (a + 1) 7 hsec HW.out).mono ?_
    rintro r w4 ⟨rfl, hb4⟩
    have HB4 := Lib.hid (HB3.out.trans (hb4.mono HB3.out.size))
    have HX4 := Lib.hid (HX3'.out.below_ hb4)
    clear hb4 x2 hw7 hwa
    obtain ⟨F, hF⟩ : ∃ F, D.readE (a + 1) 7 = F := ⟨_, rfl⟩
    by_cases h1 : F = 0
    · subst h1
      have hbs : (D.readS (a + 1) 7).size = 448 := by
        unfold Dk.readS
        rw [if_pos hF, str_size, Dk.readL_len HW.out]
        rfl
      rw [hF] at HRE HRS ⊢
      obtain ⟨b, hb⟩ : ∃ b, D.readS (a + 1) 7 = b := ⟨_, rfl⟩
      rw [hb] at HRS hbs ⊢
      have HE2 := Lib.hid (show RE = 0 by rw [HRE.out]; simp)
      obtain ⟨lo, hlo⟩ : ∃ lo, f * 64 = lo := ⟨_, rfl⟩
      have HS2 := Lib.hid (show RS = scanL xe 10 xl (rotS b lo) by
        have h1 := HRS.out
        simp only [Int.toNat_natCast, hlo] at h1
        rw [h1]
        simp)
      obtain ⟨L, hL⟩ : ∃ L, b.extract lo b.size = L := ⟨_, rfl⟩
      obtain ⟨M, hM⟩ : ∃ M, b.extract 0 lo = M := ⟨_, rfl⟩
      have hlo2 : lo ≤ 384 := by have := HX3.out; omega
      have hLs : L.size = 448 - lo := by rw [← hL, ByteArray.size_extract]; omega
      have hMs : M.size = lo := by rw [← hM, ByteArray.size_extract]; omega
      have e1 : IntKind.i64.wrap ((f : Int) * 64) = (lo : Int) := by rw [IntWalk.i64_in _ (by have := HX3.out; omega)]; omega
      have b0 : (0 : Int) ≤ (lo : Int) := by omega
      have b1 : (lo : Int) ≤ (b.size : Int) := by omega
      have b2 : ¬ 9223372036854775807 < L.size + M.size := by omega
      have HCC := Lib.hid (show L ++ M = rotS b lo by unfold rotS; rw [hL, hM])
      have hRs : (rotS b lo).size = 448 := by rw [← HCC.out, ByteArray.size_append]; omega
      have HRZ := Lib.hid hRs
      clear HRE HRS hF hb hlo hlo2 hLs hMs hbs hRs
      obtain ⟨y0, y1, y2⟩ := HX4.out.three
      go_upto_region 10 with (fail)
      go_region_held3 (fun _ => True) (first | exact trivial) (fail)
      have HB5 := Lib.hid (below_drew' HB4.out)
      have HX5 := Lib.hid HX4.out.drew
      rw [HCC.out]
      generalize rotS b lo = B0 at HS2 HRZ ⊢
      generalize w4.drew = W5 at HB5 HX5 ⊢
      clear e1 b0 b1 b2 y0 y1 y2 hL hM HCC
      obtain ⟨z0, z1, z2⟩ := HX5.out.three
      go_wp2_with fail
      clear z0 z1 z2
      go_loopw [14, 16, 17] (fun t14 t16 t17 wr => ∃ (f' : Nat) (b' : ByteArray) (ls : Nat) (A : Option Addr) (cap : Nat) (rs : List Rc) (vs : List Value) (o1 : Nat → Nat), t14 = .string b' ∧ t16 = .slice A rs.length cap ∧ t17 = .int .u64 ls ∧ b'.size < f' * 64 ∧ b'.size ≤ 448 ∧ rs.length + f' ≤ 10 ∧ RS = rs ++ scanL xe f' ls b' ∧ RecsAt o1 w wr (.slice A rs.length cap) rs vs ∧ Keep o1 wr gX 95 #[.int .u64 xe, .int .u64 xl, .int .i64 (f : Int)]) (fun t14 _ _ _ => strLen t14)
      case atStart => exact ⟨10, B0, xl, none, 0, [], [], fun _ => 0, rfl, rfl, rfl, by have := HRZ.out; omega, by have := HRZ.out; omega, by simp, HS2.out, RecsAt.start _ _ HB5.out, HX5.out, rfl⟩
      case round =>
        obtain ⟨f', b', ls, A, cap, rs, vs, o1, rfl, rfl, rfl, hf1, hf2, hf3, hrs, hra, hkx⟩ := hrel
        have HF1 := Lib.hid hf1
        have HF2 := Lib.hid hf2
        have HF3 := Lib.hid hf3
        have HRS2 := Lib.hid hrs
        have HRA := Lib.hid hra
        have HKX := Lib.hid hkx
        clear hf1 hf2 hf3 hrs hra hkx
        go_wp2_with fail
        refine (cget_any o1 2 b' wr (by have := HF2.out; omega)).mono ?_
        rintro e w2 ⟨A2, cap2, rfl, hown, hb2⟩
        have hs2 : Step o1 (fun _ => False) wr (band o1 wr.heap.size w2.heap.size 2) w2 := Step.of_below_band o1 _ 2 hb2
        generalize band o1 wr.heap.size w2.heap.size 2 = o2 at hown hs2
        have HR2 := Lib.hid (HRA.out.step hs2 id id id)
        have HK2 := Lib.hid (HKX.out.step hs2 id)
        have HGS := Lib.hid (fun (h : getE b' = 0) => get_small h)
        have HSC := Lib.hid (fun f (h : b'.size < f * 64) (hb : getE b' ≠ 0 ∨ (getR b').epoch ≠ xe ∨ (getR b').lsn ≠ ls) => scanL_zero xe h hb)
        have HSD := Lib.hid (fun f (hb : ¬ (getE b' ≠ 0 ∨ (getR b').epoch ≠ xe ∨ (getR b').lsn ≠ ls)) => scanL_succ xe (f := f) hb)
        clear hb2 hs2
        obtain ⟨⟨re, rl, ri⟩, hR⟩ : ∃ R, getR b' = R := ⟨_, rfl⟩
        obtain ⟨E, hE⟩ : ∃ E, getE b' = E := ⟨_, rfl⟩
        obtain ⟨N, hN⟩ : ∃ N, getN b' = N := ⟨_, rfl⟩
        rw [hE, hR] at HSC
        rw [hE, hR, hN] at HSD
        rw [hE, hN] at HGS
        rw [hR] at hown
        rw [hR, hN, hE]
        simp only at HSC HSD hown ⊢
        clear hR hE hN
        have HO2 := Lib.hid hown
        have HR3 := Lib.hid (HR2.out.step ((Step.refl o2 (fun _ => False) w2).alloc (.cells #[.int .u64 re, .int .u64 rl, .slice A2 ri.length cap2] 81)) id id id)
        have HK3 := Lib.hid (HK2.out.alloc (.cells #[.int .u64 re, .int .u64 rl, .slice A2 ri.length cap2] 81))
        have HO3 := Lib.hid (hown.alloc (.cells #[.int .u64 re, .int .u64 rl, .slice A2 ri.length cap2] 81))
        have HQ3 := Lib.hid (Keep.new HR2.out.fut 81 #[.int .u64 re, .int .u64 rl, .slice A2 ri.length cap2])
        clear hown
        obtain ⟨z0, z1, z2⟩ := HK3.out.1.three
        by_cases c0 : E = 0
        · subst c0
          by_cases c1 : re = xe
          · subst c1
            by_cases c2 : rl = ls
            · subst c2
              obtain ⟨i0, hi0, hz0, hz1, hz2⟩ := info_parts info_rec
              obtain ⟨g1, g2⟩ := HGS.out rfl
              obtain ⟨f2, hf2⟩ : ∃ m, f' = m + 1 := ⟨f' - 1, by have := HF1.out; omega⟩
              have HRS3 := Lib.hid (show RS = (rs ++ [⟨re, rl, ri⟩]) ++ scanL re f2 ((rl + 1) % 18446744073709551616) (b'.extract (N * 64) b'.size) by
                rw [HRS2.out, hf2, HSD.out f2 (fun h => by rcases h with h | h | h <;> exact h rfl), List.append_assoc]
                rfl)
              obtain ⟨hi, hhi⟩ : ∃ hi, N * 64 = hi := ⟨_, rfl⟩
              rw [hhi] at HRS3 g2
              have HF4 := Lib.hid (show (b'.extract hi b'.size).size < f2 * 64 by rw [ByteArray.size_extract]; have := HF1.out; omega)
              have HF5 := Lib.hid (show (b'.extract hi b'.size).size ≤ 448 by rw [ByteArray.size_extract]; have := HF2.out; omega)
              have HF6 := Lib.hid (show (b'.extract hi b'.size).size < b'.size by rw [ByteArray.size_extract]; omega)
              have HF7 := Lib.hid (show (rs ++ [(⟨re, rl, ri⟩ : Rc)]).length + f2 ≤ 10 by rw [List.length_append]; have := HF3.out; simp only [List.length_cons, List.length_nil]; omega)
              have hrl : rs.length ≤ 10 := by have := HF3.out; omega
              have e1 : IntKind.i64.wrap ((N : Int) * 64) = (hi : Int) := by rw [IntWalk.i64_in _ (by have := HF2.out; omega)]; omega
              have b0 : (0 : Int) ≤ (hi : Int) := by omega
              have b1 : (hi : Int) ≤ (b'.size : Int) := by omega
              have hw : IntKind.u64.wrap ((rl : Int) + 1) = (((rl + 1) % 18446744073709551616 : Nat) : Int) := by rw [IntKind.wrap_u64]; omega
              clear hf2 hhi g1 g2
              go_upto_region 17 with (fail)
              generalize w2.alloc (.cells #[.int .u64 re, .int .u64 rl, .slice A2 ri.length cap2] 81) = W3 at HR3 HK3 HO3 HQ3 z0 z1 z2 ⊢
              generalize w2.heap.size = X at HQ3 ⊢
              obtain ⟨v0, v1, v2⟩ := HQ3.out.1.three
              have HR4 := Lib.hid (HR3.out.step ((Step.refl o2 (fun _ => False) W3).alloc (.cells #[.int .u64 re, .int .u64 rl, .slice A2 ri.length cap2] 81)) id id id)
              have HK4 := Lib.hid (HK3.out.alloc (.cells #[.int .u64 re, .int .u64 rl, .slice A2 ri.length cap2] 81))
              have HO4 := Lib.hid (HO3.out.alloc (.cells #[.int .u64 re, .int .u64 rl, .slice A2 ri.length cap2] 81))
              clear z0 z1 z2
              go_wp2_with (at_builtin; refine wpList_append_S _ rfl (.tmp 93) (.tmp 95) 46 rfl 81 i0 _ 3 40 Tryz.underlying46 hi0 hz0 hz1 hz2 rfl (by omega) (.slice A rs.length cap) rs.length ((rs.zip vs).flatMap rcells) rfl HR4.out.own (some ⟨W3.heap.size, 0, none⟩) 1 1 [.int .u64 re, .int .u64 rl, .slice A2 ri.length cap2] rfl (Reads.newAt W3 81 3 1 _ #[.int .u64 re, .int .u64 rl, .slice A2 ri.length cap2] _ rfl rfl rfl) (by simp [Value.oneCell']) (by unfold maxLen; omega) (by omega) ?_; intro v7 w7 hown7 hst7 hgr7 hat7)
              obtain ⟨A7, cap7, rfl, _, _⟩ := own_form' hown7
              refine ⟨⟨f2, b'.extract hi b'.size, (rl + 1) % 18446744073709551616, A7, cap7, rs ++ [⟨re, rl, ri⟩], vs ++ [.slice A2 ri.length cap2], _, rfl, ?_, ?_, HF4.out, HF5.out, HF7.out, HRS3.out, ?_, HK4.out.step hst7 (by unfold only; omega)⟩, HF6.out⟩
              · rw [List.length_append]; rfl
              · go_num
              · have h9 := RecsAt.add (r := ⟨re, rl, ri⟩) HR4.out HO4.out hst7 hown7
                rw [List.length_append]
                exact h9
            · have HE3 := Lib.hid (show RS = rs by rw [HRS2.out, HSC.out _ HF1.out (.inr (.inr c2)), List.append_nil])
              have t1 : ((rl : Int) != (ls : Int)) = true := bne_iff_ne.2 (by omega)
              have t2 : ¬ (rl : Int) = (ls : Int) := by omega
              clear c2
              go_wp2_with fail
              go_ret2
              rw [HE3.out, HE2.out]
              exact ⟨A, cap, rfl, _, vs, HR3.out⟩
          · have HE3 := Lib.hid (show RS = rs by rw [HRS2.out, HSC.out _ HF1.out (.inr (.inl c1)), List.append_nil])
            have t1 : ((re : Int) != (xe : Int)) = true := bne_iff_ne.2 (by omega)
            have t2 : ¬ (re : Int) = (xe : Int) := by omega
            clear c1
            go_wp2_with fail
            go_ret2
            rw [HE3.out, HE2.out]
            exact ⟨A, cap, rfl, _, vs, HR3.out⟩
        · have HE3 := Lib.hid (show RS = rs by rw [HRS2.out, HSC.out _ HF1.out (.inl c0), List.append_nil])
          have t1 : (E != 0) = true := bne_iff_ne.2 c0
          clear c0
          go_wp2_with fail
          go_ret2
          rw [HE3.out, HE2.out]
          exact ⟨A, cap, rfl, _, vs, HR3.out⟩
    · have t1 : (F != 0) = true := bne_iff_ne.2 h1
      have HE2 := Lib.hid (show RE = F by rw [HRE.out, hF]; simp)
      have HS2 := Lib.hid (show RS = [] by rw [HRS.out, hF]; simp [h1])
      rw [hF]
      clear h1 hF
      go_wp2_with fail
      go_ret2
      rw [HE2.out, HS2.out]
      exact ⟨none, 0, rfl, _, [], RecsAt.start _ _ HB4.out⟩
end Go.Proofs.YtianlhigeabehaaGreatDoor

/- What a scan finds, and a plan: their bounds. -/
namespace Go.Proofs.YtianlhigeabehaaGreatDoor
open Go.RowKit

/-- images as they are read off bytes -/
def Small (i : Im) : Prop := i.data.size ≤ 108 ∧ i.ver < 18446744073709551616 ∧ 0 ≤ i.block ∧ i.block < 4294967296
theorem imG_small {t : List UInt8} (h : t.length ≤ 120) : Small (imG t) := by
  refine ⟨?_, numV_lt _ 8 (by omega), by simp [imG], ?_⟩
  · show (str (t.drop 12)).size ≤ 108
    rw [str_size, List.length_drop]
    omega
  · have : (imR t).numV 4 < 4294967296 := numV_lt _ 4 (by omega)
    show (((imR t).numV 4 : Nat) : Int) < _
    omega
theorem imsG_small {t : List UInt8} {n : Nat} : ∀ i ∈ imsG t n, Small i := by
  intro i hi
  unfold imsG at hi
  obtain ⟨k, _, rfl⟩ := List.mem_map.1 hi
  refine imG_small ?_
  rw [List.length_drop, List.length_take]
  omega
theorem getR_small {b : ByteArray} (h : getE b = 0) : (getR b).images.length ≤ 60 ∧ ∀ i ∈ (getR b).images, Small i := by
  have h1 : getR b = getX b := if_pos h
  have h3 : (getX b).images = imsG (placesL b (secsOf (firstN b))) (firstN b) := by unfold getX; simp only
  rw [h1, h3]
  have hn := (get_small h).1
  have h2 : getN b = secsOf (firstN b) := if_pos h
  rw [h2] at hn
  have h4 := secs_ne (n := firstN b) (by omega)
  clear h1 h2 h3 h
  refine ⟨?_, fun i hi => imsG_small i hi⟩
  rw [imsG_len]
  exact h4.2.1
theorem scanL_small (ep : Nat) : ∀ (f lsn : Nat) (b : ByteArray), (scanL ep f lsn b).length ≤ f ∧ ∀ r ∈ scanL ep f lsn b, r.images.length ≤ 60 ∧ ∀ i ∈ r.images, Small i
  | 0, _, _ => ⟨Nat.le_refl _, fun r hr => by simp [scanL] at hr⟩
  | f + 1, lsn, b => by
    by_cases h : getE b ≠ 0 ∨ (getR b).epoch ≠ ep ∨ (getR b).lsn ≠ lsn
    · have e : scanL ep (f + 1) lsn b = [] := if_pos h
      rw [e]
      exact ⟨Nat.zero_le _, fun r hr => by simp at hr⟩
    · rw [scanL_succ ep h]
      obtain ⟨h1, h2⟩ := scanL_small ep f ((lsn + 1) % 18446744073709551616) (b.extract (getN b * 64) b.size)
      refine ⟨by rw [List.length_cons]; omega, fun r hr => ?_⟩
      rcases List.mem_cons.1 hr with rfl | hr
      · exact getR_small (Classical.byContradiction fun e => h (.inl e))
      · exact h2 r hr
theorem scan_small (D : Dk) (node : Int) : (D.scan node).length ≤ 10 ∧ ∀ r ∈ D.scan node, r.images.length ≤ 60 ∧ ∀ i ∈ r.images, Small i := by
  unfold Dk.scan
  split
  · exact ⟨Nat.zero_le _, fun r hr => by simp at hr⟩
  · exact scanL_small _ _ _ _
theorem best_mem (l : List Im) : ∀ k x, bestOf l k = some x → x ∈ l := by
  have key : ∀ (l : List Im) (f : Int → Option Im) (k : Int) (x : Im), l.foldl bestStep f k = some x → (f k = some x ∨ x ∈ l) := by
    intro l
    induction l with
    | nil => intro f k x h; exact .inl h
    | cons y l ih =>
      intro f k x h
      rw [List.foldl_cons] at h
      rcases ih _ k x h with h | h
      · have : f k = some x ∨ x = y := by
          cases hf : f y.block with
          | none =>
            rw [best_none hf] at h
            unfold upd at h
            split at h
            · exact .inr (Option.some.inj h).symm
            · exact .inl h
          | some was =>
            rw [best_some hf] at h
            split at h
            · unfold upd at h
              split at h
              · exact .inr (Option.some.inj h).symm
              · exact .inl h
            · exact .inl h
        rcases this with h | rfl
        · exact .inl h
        · exact .inr (List.mem_cons_self ..)
      · exact .inr (List.mem_cons_of_mem _ h)
  intro k x h
  rcases key l (fun _ => none) k x h with h | h
  · simp at h
  · exact h
theorem small_zero : Small Im.zero := ⟨Nat.zero_le _, by decide, by decide, by decide⟩
theorem plan_small {rs : List Rc} (h : ∀ r ∈ rs, r.images.length ≤ 60 ∧ ∀ i ∈ r.images, Small i) : (planOf rs).length ≤ rs.length * 100 ∧ ∀ i ∈ planOf rs, Small i := by
  refine ⟨?_, fun i hi => ?_⟩
  · rw [plan_eq, List.length_map]
    unfold keysOf
    rw [List.length_mergeSort]
    have h1 := dups_len ((rs.flatMap (·.images)).map (·.block))
    rw [List.length_map] at h1
    have h2 := flat_im (rs := rs) (fun r hr => by have := (h r hr).1; omega)
    omega
  · rw [plan_eq] at hi
    obtain ⟨k, _, rfl⟩ := List.mem_map.1 hi
    unfold keyG
    cases hb : bestOf (rs.flatMap (·.images)) k with
    | none => exact small_zero
    | some x =>
      obtain ⟨r, hr, hx⟩ := List.mem_flatMap.1 (best_mem _ k x hb)
      exact (h r hr).2 x hx
theorem RecsAt.rd {o : Nat → Nat} {w wr : World} {A : Option Addr} {cap : Nat} {rs : List Rc} {vs : List Value} (h : RecsAt o w wr (.slice A rs.length cap) rs vs) : RecsRd wr A rs vs :=
  ⟨h.len, Reads.of_own h.own.1, fun k r v hr hv => by obtain ⟨B, cp, e, ho⟩ := h.ims k r v hr hv; subst e; exact ⟨B, cp, rfl, Reads.of_own ho.1⟩⟩
end Go.Proofs.YtianlhigeabehaaGreatDoor
