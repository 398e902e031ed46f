/- Redo: Plan. -/
import Derived.Test.YtianlhigeabehaaGreatDoorKShelfC
import Derived.Test.YtianlhigeabehaaGreatDoorKRecG
import Derived.Test.YtianlhigeabehaaGreatDoorKSupB
namespace Go.Proofs.YtianlhigeabehaaGreatDoor
open Go.RowKit

/-- the map of the best images under way -/
structure PlanAt (o : Nat → Nat) (w wr : World) (m : Nat) (f : Int → Option Im) : Prop where
  map : MapR o 1 wr m (fm f)
  env : Env o w wr
  fut : Fut o wr
section
variable {o o' : Nat → Nat} {w wr w' : World} {m : Nat} {f : Int → Option Im} {C : Nat → Prop}
theorem PlanAt.step (h : PlanAt o w wr m f) (hs : Step o C wr o' w') (h0 : ¬ C 0) (h1 : ¬ C 1) : PlanAt o' w w' m f := ⟨h.map.step hs h1, h.env.step hs h0, h.fut.step hs⟩
theorem PlanAt.below_ (h : PlanAt o w wr m f) (hb : Below wr.heap.size wr w') : PlanAt o w w' m f := h.step (Step.of_below o (fun _ => False) hb) id id
theorem PlanAt.alloc (h : PlanAt o w wr m f) (x : Obj) : PlanAt o w (wr.alloc x) m f := h.below_ ((Below.refl _ _).alloc (Nat.le_refl _) x)
theorem PlanAt.setCell (h : PlanAt o w wr m f) {g i : Nat} (hg : o g = 0) (hw : w.heap.size ≤ g) (u : Value) : PlanAt o w (wr.setCell ⟨g, i, none⟩ u) m f := by
  have hs := (Step.refl o (only 0) wr).setCell (p := ⟨g, i, none⟩) hg u
  refine ⟨h.map.step hs (by unfold only; omega), ⟨?_, h.env.old⟩, h.fut.step hs⟩
  have := h.env.low
  exact this.setCell (p := ⟨g, i, none⟩) hw u
theorem PlanAt.look (h : PlanAt o w wr m f) (k : Int) (x : Im) (hx : f k = some x) : (Instr.lookup 101 (.map (some m)) (.int .i64 k) true).run Tryz.prog wr = .ok (.tuple #[.agg #[.int .i64 x.block, .int .u64 x.ver, .string x.data], .bool true]) wr := by
  have := h.map.look Tryz.underlying101 Tryz.underlying3 (z := .agg #[.int .i64 0, .int .u64 0, .string ⟨#[]⟩]) (show (zeroValue 40).run Tryz.prog wr = _ by kernel_rfl) k true
  rw [this]
  simp only [fm, hx]
  rfl
theorem PlanAt.miss (h : PlanAt o w wr m f) (k : Int) (hx : f k = none) : (Instr.lookup 101 (.map (some m)) (.int .i64 k) true).run Tryz.prog wr = .ok (.tuple #[.agg #[.int .i64 0, .int .u64 0, .string ⟨#[]⟩], .bool false]) wr := by
  have := h.map.look Tryz.underlying101 Tryz.underlying3 (z := .agg #[.int .i64 0, .int .u64 0, .string ⟨#[]⟩]) (show (zeroValue 40).run Tryz.prog wr = _ by kernel_rfl) k true
  rw [this]
  simp only [fm, hx]
  rfl
theorem PlanAt.get (h : PlanAt o w wr m f) (k : Int) : (Instr.lookup 101 (.map (some m)) (.int .i64 k) false).run Tryz.prog wr = .ok (.agg #[.int .i64 ((f k).getD Im.zero).block, .int .u64 ((f k).getD Im.zero).ver, .string ((f k).getD Im.zero).data]) wr := by
  have := h.map.look Tryz.underlying101 Tryz.underlying3 (z := .agg #[.int .i64 0, .int .u64 0, .string ⟨#[]⟩]) (show (zeroValue 40).run Tryz.prog wr = _ by kernel_rfl) k false
  rw [this]
  unfold fm
  cases f k <;> rfl
theorem PlanAt.put (h : PlanAt o w wr m f) (x : Im) : ∃ w', (Instr.mapUpdate 101 (.map (some m)) (.int .i64 x.block) (.agg #[.int .i64 x.block, .int .u64 x.ver, .string x.data])).run Tryz.prog wr = .ok () w' ∧ PlanAt o w w' m (upd f x.block x) := by
  obtain ⟨w', h1, h2, h3, h4⟩ := h.map.put Tryz.underlying101 Tryz.underlying3 x.block x.agg
  refine ⟨w', h1, ⟨?_, h.env.step h3 (by unfold only; omega), h.fut.step h3⟩⟩
  rw [fm_upd]
  exact h2
end
theorem flat_im : ∀ {rs : List Rc}, (∀ r ∈ rs, r.images.length ≤ 100) → (rs.flatMap (·.images)).length ≤ rs.length * 100
  | [], _ => Nat.le_refl _
  | r :: rs, h => by
    rw [List.flatMap_cons, List.length_append, List.length_cons]
    have := flat_im (rs := rs) (fun x hx => h x (List.mem_cons_of_mem _ hx))
    have := h r (List.mem_cons_self ..)
    omega
def keyG (f : Int → Option Im) (k : Int) : Im := (f k).getD Im.zero
theorem plan_eq (rs : List Rc) : planOf rs = (keysOf (rs.flatMap (·.images))).map (keyG (bestOf (rs.flatMap (·.images)))) := rfl
/-- the list of images under way, beside the map and the keys -/
structure OutAt (o : Nat → Nat) (w wr : World) (m : Nat) (f : Int → Option Im) (B : Option Addr) (n cb : Nat) (K : List Int) (V : Value) (l : List Im) : Prop where
  plan : PlanAt o w wr m f
  keys : OwnS o 0 wr 3 1 (.slice B n cb) n (K.map encZ)
  out : OwnS o 2 wr 40 3 V l.length (imcells l)
theorem OutAt.step {o o' : Nat → Nat} {w wr w' : World} {m : Nat} {f : Int → Option Im} {B : Option Addr} {n cb : Nat} {K : List Int} {V : Value} {l : List Im} {C : Nat → Prop} (h : OutAt o w wr m f B n cb K V l) (hs : Step o C wr o' w') (h0 : ¬ C 0) (h1 : ¬ C 1) (h2 : ¬ C 2) : OutAt o' w w' m f B n cb K V l :=
  ⟨h.plan.step hs h0 h1, h.keys.step hs h0, h.out.step hs h2⟩
theorem keyRow {w : World} {B : Option Addr} {K : List Int} (h : Reads w 1 B K.length (K.map encZ)) {k : Nat} {x : Int} (hx : K[k]? = some x) : ∃ ad, B = some ad ∧ w.cell? (ad.add k) = some (.int .i64 x) := by
  have hl : K.map encZ = K.flatMap (fun x => [encZ x]) := by
    clear h hx
    induction K with
    | nil => rfl
    | cons a l ih => rw [List.map_cons, List.flatMap_cons, ih]; rfl
  rw [hl] at h
  obtain ⟨ad, rfl, hc⟩ := Reads.row (f := fun x : Int => [encZ x]) (fun _ => rfl) h hx
  refine ⟨ad, rfl, ?_⟩
  have := hc 0 _ rfl
  rw [Nat.mul_one] at this
  exact this
def iRange (k : Int) : Prop := -9223372036854775808 ≤ k ∧ k ≤ 9223372036854775807
set_option maxRecDepth 100000 in
set_option maxHeartbeats 8000000 in
theorem eplan_any (oo : Nat → Nat) (d : Nat) (rs : List Rc) (vs : List Value) (A : Option Addr) (cap : Nat) (w : World) (h : RecsRd w A rs vs) (hl : rs.length ≤ 1000) (hi : ∀ r ∈ rs, r.images.length ≤ 100 ∧ ∀ i ∈ r.images, i.data.size ≤ 281474976710656 ∧ iRange i.block) :
    Calls Tryz.prog 13 #[.slice A rs.length cap] w fun e w' => ∃ A' cap', e = .returned (.slice A' (planOf rs).length cap') ∧ OwnS (band oo w.heap.size w'.heap.size d) d w' 40 3 (.slice A' (planOf rs).length cap') (planOf rs).length (imcells (planOf rs)) ∧ Below w.heap.size w w' := by
  have HRD := Lib.hid h
  have HL := Lib.hid hl
  have HI := Lib.hid hi
  have hlI : (rs.length : Int) ≤ 1000 := by omega
  obtain ⟨P, hP⟩ : ∃ P, planOf rs = P := ⟨_, rfl⟩
  have HP := Lib.hid hP
  rw [hP]
  clear h hl hi hP
  obtain ⟨o0, ho, hs0⟩ := alloc_as (fun _ => 0) w (.map #[] 0) 1
  have HM0 := Lib.hid (show PlanAt o0 w (w.alloc (.map #[] 0)) w.heap.size (fun _ => none) from ⟨MapR.newAs o0 w 1 ho, (Env.start w).step hs0 id, (show Fut (fun _ => 0) w from fun _ _ => rfl).step hs0⟩)
  clear ho hs0
  have hmm := @run_makeMap Tryz.prog
  go_enter Tryz.func13, Tryz.ntmps13
  go_wp2_with fail
  clear hmm
  generalize w.alloc (.map #[] 0) = W0 at HM0 ⊢
  go_loopw [16] (fun t16 wr => ∃ (j : Nat) (o1 : Nat → Nat), j ≤ rs.length ∧ t16 = .int .i64 j ∧ PlanAt o1 w wr w.heap.size (bestOf ((rs.take j).flatMap (·.images)))) (fun t16 _ => rs.length - (intOf t16).toNat)
  case atStart => exact ⟨0, o0, by omega, rfl, HM0.out⟩
  case round =>
    obtain ⟨j, o1, hj, rfl, hp⟩ := hrel
    have HP1 := Lib.hid hp
    have HJ := Lib.hid hj
    clear hp
    by_cases hlt : j < rs.length
    · have hltI : (j : Int) < (rs.length : Int) := by omega
      have HJL := Lib.hid hlt
      obtain ⟨r, hr⟩ : ∃ r, rs[j]? = some r := ⟨_, List.getElem?_eq_getElem hlt⟩
      obtain ⟨ad, B, cp, rfl, y0, y1, y2, hrd⟩ := HRD.out.row hr
      have y0 := cell_below y0 HP1.out.env.low
      have y1 := cell_below y1 HP1.out.env.low
      have y2 := cell_below y2 HP1.out.env.low
      have HTK := Lib.hid (take_im hr)
      obtain ⟨hr1, hr2⟩ := HI.out r (List.mem_of_getElem? hr)
      have HR1 := Lib.hid hr1
      have HR2 := Lib.hid hr2
      have hrI : (r.images.length : Int) ≤ 100 := by omega
      have HRI := Lib.hid hrd
      have HP2 := Lib.hid (HP1.out.alloc (.cells #[.int .u64 r.epoch, .int .u64 r.lsn, .slice B r.images.length cp] 81))
      have HXR := Lib.hid (Blk.new wr 81 #[.int .u64 r.epoch, .int .u64 r.lsn, .slice B r.images.length cp])
      clear hr hrd hr1 hr2
      go_upto_region 5 with (fail)
      generalize wr.alloc (.cells #[.int .u64 r.epoch, .int .u64 r.lsn, .slice B r.images.length cp] 81) = W1 at HP2 HXR ⊢
      generalize wr.heap.size = XR at HXR ⊢
      clear y0 y1 y2
      obtain ⟨x0, x1, x2⟩ := HXR.out.three
      go_wp2_with fail
      clear x0 x1 x2
      obtain ⟨PRE, hPRE⟩ : ∃ l, (rs.take j).flatMap (·.images) = l := ⟨_, rfl⟩
      rw [hPRE] at HP2 HTK
      obtain ⟨L, hL⟩ : ∃ l, r.images = l := ⟨_, rfl⟩
      rw [hL] at HTK HR1 HR2 hrI HRI ⊢
      clear hPRE hL
      go_loopw [23] (fun t23 wi => ∃ (i : Nat) (o2 : Nat → Nat), i ≤ L.length ∧ t23 = .int .i64 i ∧ PlanAt o2 w wi w.heap.size (bestOf (PRE ++ L.take i))) (fun t23 _ => L.length - (intOf t23).toNat)
      case atStart => exact ⟨0, o1, by omega, rfl, by rw [List.take_zero, List.append_nil]; exact HP2.out⟩
      case round =>
        obtain ⟨i, o2, hi, rfl, hp2⟩ := hrel
        by_cases hlt2 : i < L.length
        · have hlt2I : (i : Int) < (L.length : Int) := by omega
          have HIL := Lib.hid hlt2
          obtain ⟨x, hx⟩ : ∃ x, L[i]? = some x := ⟨_, List.getElem?_eq_getElem hlt2⟩
          obtain ⟨ai, rfl, y0, y1, y2⟩ := (HRI.out.below' (by omega) hp2.env.low).imrow hx
          have HXB := Lib.hid (HR2.out x (List.mem_of_getElem? hx))
          have HTX := Lib.hid (show bestOf (PRE ++ L.take (i + 1)) = bestStep (bestOf (PRE ++ L.take i)) x by rw [List.take_add_one, hx, Option.toList_some, ← List.append_assoc, bestOf_add])
          generalize bestOf (PRE ++ L.take i) = f at HTX hp2
          have HP3 := Lib.hid (hp2.alloc (.cells #[.int .i64 x.block, .int .u64 x.ver, .string x.data] 40))
          have HX3 := Lib.hid (Keep.new hp2.fut 40 #[.int .i64 x.block, .int .u64 x.ver, .string x.data])
          have HXW := Lib.hid (show w.heap.size ≤ wr.heap.size from hp2.env.low.size)
          clear hp2 hx
          go_upto_region 8 with (fail)
          generalize wr.alloc (.cells #[.int .i64 x.block, .int .u64 x.ver, .string x.data] 40) = W3 at HP3 HX3 ⊢
          generalize wr.heap.size = X at HX3 HXW ⊢
          clear y0 y1 y2
          obtain ⟨z0, z1, z2⟩ := HX3.out.1.three
          -- behind the look-up: the image is put into the map
          have PUT := Lib.hid (fun (W : World) (hp : PlanAt o2 w W w.heap.size f) (hx : Keep o2 W X 40 #[.int .i64 x.block, .int .u64 x.ver, .string x.data]) => (hp.setCell (g := X) (i := 2) hx.2 HXW.out (.string x.data)).put x)
          cases hfx : f x.block with
          | none =>
            have hlook := HP3.out.miss x.block hfx
            have HB := Lib.hid (show bestOf (PRE ++ L.take (i + 1)) = upd f x.block x by rw [HTX.out, best_none hfx])
            have HP4 := Lib.hid (HP3.out.alloc (.cells #[.int .i64 0, .int .u64 0, .string ⟨#[]⟩] 40))
            have HX4 := Lib.hid (HX3.out.alloc (.cells #[.int .i64 0, .int .u64 0, .string ⟨#[]⟩] 40))
            clear hfx
            go_upto_region 10 with (fail)
            generalize W3.alloc (.cells #[.int .i64 0, .int .u64 0, .string ⟨#[]⟩] 40) = W4 at HP4 HX4 ⊢
            obtain ⟨v0, v1, v2⟩ := HX4.out.1.three
            clear z0 z1 z2 hlook
            go_wp2_with fail
            refine (clone_any x.data W4 HXB.out.1).mono ?_
            rintro e w5 ⟨rfl, hb5⟩
            have HP5 := Lib.hid (HP4.out.below_ hb5)
            have HX5 := Lib.hid (HX4.out.below_ hb5)
            obtain ⟨w6, hput, hp6⟩ := PUT.out w5 HP5.out HX5.out
            have HP6 := Lib.hid hp6
            obtain ⟨y0, y1, y2⟩ := HX5.out.1.three
            have f2 := HX5.out.1.frozen 2
            clear hb5 hp6 v0 v1 v2
            go_wp2_with fail
            go_roundw
            case rel => exact ⟨i + 1, o2, by have := HIL.out; omega, by go_num, by rw [HB.out]; exact HP6.out⟩
            case measure => have := HIL.out; simp [intOf]; omega
          | some was =>
            have hlook := HP3.out.look x.block was hfx
            have HP4 := Lib.hid (HP3.out.alloc (.cells #[.int .i64 was.block, .int .u64 was.ver, .string was.data] 40))
            have HX4 := Lib.hid (HX3.out.alloc (.cells #[.int .i64 was.block, .int .u64 was.ver, .string was.data] 40))
            have HBS := Lib.hid (best_some hfx)
            have HY4 := Lib.hid (Blk.new W3 40 #[.int .i64 was.block, .int .u64 was.ver, .string was.data])
            clear hfx
            go_upto_region 9 with (fail)
            generalize W3.alloc (.cells #[.int .i64 was.block, .int .u64 was.ver, .string was.data] 40) = W4 at HP4 HX4 HY4 ⊢
            generalize W3.heap.size = Y at HY4 ⊢
            obtain ⟨v0, v1, v2⟩ := HX4.out.1.three
            obtain ⟨u0, u1, u2⟩ := HY4.out.three
            clear z0 z1 z2 hlook
            by_cases hv : was.ver ≤ x.ver
            · have HB := Lib.hid (show bestOf (PRE ++ L.take (i + 1)) = upd f x.block x by rw [HTX.out, HBS.out, if_pos hv])
              have hvI : (was.ver : Int) ≤ (x.ver : Int) := by omega
              have hvI2 : ¬ (x.ver : Int) < (was.ver : Int) := by omega
              clear hv
              go_wp2_with fail
              refine (clone_any x.data W4 HXB.out.1).mono ?_
              rintro e w5 ⟨rfl, hb5⟩
              have HP5 := Lib.hid (HP4.out.below_ hb5)
              have HX5 := Lib.hid (HX4.out.below_ hb5)
              obtain ⟨w6, hput, hp6⟩ := PUT.out w5 HP5.out HX5.out
              have HP6 := Lib.hid hp6
              obtain ⟨y0, y1, y2⟩ := HX5.out.1.three
              have f2 := HX5.out.1.frozen 2
              clear hb5 hp6 v0 v1 v2 u0 u1 u2
              go_wp2_with fail
              go_roundw
              case rel => exact ⟨i + 1, o2, by have := HIL.out; omega, by go_num, by rw [HB.out]; exact HP6.out⟩
              case measure => have := HIL.out; simp [intOf]; omega
            · have HB := Lib.hid (show bestOf (PRE ++ L.take (i + 1)) = f by rw [HTX.out, HBS.out, if_neg hv])
              have hvI : ¬ (was.ver : Int) ≤ (x.ver : Int) := by omega
              have hvI2 : (x.ver : Int) < (was.ver : Int) := by omega
              clear hv
              go_wp2_with fail
              go_roundw
              case rel => exact ⟨i + 1, o2, by have := HIL.out; omega, by go_num, by rw [HB.out]; exact HP4.out⟩
              case measure => have := HIL.out; simp [intOf]; omega
        · have hlt2I : ¬ (i : Int) < (L.length : Int) := by omega
          obtain rfl : i = L.length := by omega
          rw [List.take_length, ← HTK.out] at hp2
          have HP9 := Lib.hid hp2
          clear hp2
          go_wp2_with fail
          go_roundw
          case rel => exact ⟨j + 1, o2, by have := HJL.out; omega, by go_num, HP9.out⟩
          case measure => have := HJL.out; simp [intOf]; omega
    · have hltI : ¬ (j : Int) < (rs.length : Int) := by omega
      obtain rfl : j = rs.length := by omega
      rw [List.take_length] at HP1
      have HPE := Lib.hid (show P = (keysOf (rs.flatMap (·.images))).map (keyG (bestOf (rs.flatMap (·.images)))) by rw [← HP.out, plan_eq])
      have hall : (rs.flatMap (·.images)).length ≤ 100000 := by have := flat_im (fun r hr => (HI.out r hr).1); have := HL.out; omega
      have hrange : ∀ k ∈ ((rs.flatMap (·.images)).map (·.block)).eraseDups, iRange k := by
        intro k hk
        rw [List.mem_eraseDups, List.mem_map] at hk
        obtain ⟨x, hx, rfl⟩ := hk
        obtain ⟨r, hr, hx⟩ := List.mem_flatMap.1 hx
        exact ((HI.out r hr).2 x hx).2
      have HBK := Lib.hid (best_keys (rs.flatMap (·.images)))
      generalize rs.flatMap (·.images) = ALL at HP1 HPE hall hrange HBK
      have hdl : (ALL.map (·.block)).eraseDups.length ≤ 100000 := by have := dups_len (ALL.map (·.block)); rw [List.length_map] at this; omega
      generalize bestOf ALL = f at HP1 HPE HBK
      obtain ⟨nn, D0, hown, hperm, hsz⟩ := mapR_keys HP1.out.map Tryz.underlying3 (ALL.map (·.block)).eraseDups (nodup_dups _) (fun k => by rw [List.mem_eraseDups, ← HBK.out k]; unfold fm; cases f k <;> rfl) hrange (by omega)
      have HSRT := Lib.hid (sorted_any w.heap.size nn D0 _ wr hown hsz)
      obtain ⟨K, hK⟩ : ∃ K, keysOf ALL = K := ⟨_, rfl⟩
      have hkl : K.length = (ALL.map (·.block)).eraseDups.length := by rw [← hK]; unfold keysOf; rw [List.length_mergeSort]
      have HKP := Lib.hid (show ∀ ss : List Int, ss.Perm (intKeys D0) → ss.mergeSort (fun x y => decide (x ≤ y)) = K ∧ ss.length = K.length from fun ss h => by
        have h1 := h.trans hperm
        refine ⟨?_, by rw [hkl]; exact h1.length_eq⟩
        rw [← hK]
        exact mergeSort_of_perm_i h1)
      have HKL := Lib.hid (show K.length ≤ 100000 by omega)
      rw [hK] at HPE
      have HFZ := Lib.hid (HP1.out.fut)
      clear hown hperm hsz hrange hall hdl hkl hK HBK
      go_wp2_with fail
      refine (mkeys_any (some w.heap.size) wr).mono ?_
      rintro e w1 ⟨rfl, rfl⟩
      go_wp2_with fail
      refine HSRT.out.mono ?_
      rintro e w2 ⟨v, ss, rfl, hss, hrow, hb2⟩
      obtain ⟨k1, k2⟩ := HKP.out ss hss
      rw [k1, k2] at hrow
      have hko := own_from (o := o1) (c := 0) hrow (fun g hg => HFZ.out g (by omega))
      obtain ⟨B, cb, rfl, _, _⟩ := own_form' hko
      have hp2 : PlanAt o1 w w2 w.heap.size f := (HP1.out.alloc (.cells #[.map (some w.heap.size)] 101)).below_ (by rw [show (wr.alloc (.cells #[.map (some w.heap.size)] 101)).heap.size = wr.heap.size + 1 by simp]; exact hb2)
      have HO2 := Lib.hid (show OutAt o1 w w2 w.heap.size f B K.length cb K (.slice none 0 0) [] from ⟨hp2, hko, OwnS.nil _ _ _ _ _⟩)
      obtain ⟨i0, hi0, hz0, hz1, hz2⟩ := info_parts info_im
      have hKI : (K.length : Int) ≤ 100000 := by have := HKL.out; omega
      clear hss hrow hb2 k1 k2 hko hp2 HP1 HFZ HKP HSRT
      go_wp2_with fail
      go_loopw [10, 57] (fun t10 t57 wr => ∃ (i : Nat) (A' : Option Addr) (cap' : Nat) (o3 : Nat → Nat), i ≤ K.length ∧ t10 = .slice A' i cap' ∧ t57 = .int .i64 i ∧ OutAt o3 w wr w.heap.size f B K.length cb K (.slice A' i cap') ((K.take i).map (keyG f))) (fun _ t57 _ => K.length - (intOf t57).toNat)
      case atStart => exact ⟨0, none, 0, o1, by omega, rfl, rfl, HO2.out⟩
      case round =>
        obtain ⟨i, A', cap', o3, hi, rfl, rfl, hout⟩ := hrel
        by_cases hlt2 : i < K.length
        · have hlt2I : (i : Int) < (K.length : Int) := by omega
          have HIL := Lib.hid hlt2
          obtain ⟨x, hx⟩ : ∃ x, K[i]? = some x := ⟨_, List.getElem?_eq_getElem hlt2⟩
          obtain ⟨ad, rfl, y0⟩ := keyRow (Reads.of_own hout.keys.1) hx
          have hget := hout.plan.get x
          have HTK := Lib.hid (show (K.take (i + 1)).map (keyG f) = (K.take i).map (keyG f) ++ [keyG f x] by rw [List.take_add_one, hx, Option.toList_some, List.map_append]; rfl)
          have hll : ((K.take i).map (keyG f)).length = i := by rw [List.length_map, List.length_take]; omega
          rw [show (f x).getD Im.zero = keyG f x from rfl] at hget
          obtain ⟨X, hX⟩ : ∃ X, keyG f x = X := ⟨_, rfl⟩
          rw [hX] at HTK hget
          generalize (K.take i).map (keyG f) = l at HTK hll hout
          subst hll
          have HOU := Lib.hid (hout.step ((Step.refl o3 (fun _ => False) wr).alloc (.cells #[.int .i64 X.block, .int .u64 X.ver, .string X.data] 40)) id id id)
          have hl1 : l.length ≤ 100000 := by have := HKL.out; omega
          clear hx hX hout
          go_wp2_with (at_builtin; refine wpList_append_S _ rfl (.tmp 61) (.tmp 65) 22 rfl 40 i0 _ 3 32 Tryz.underlying22 hi0 hz0 hz1 hz2 rfl (by omega) (.slice A' l.length cap') l.length (imcells l) rfl HOU.out.out (some ⟨wr.heap.size, 0, none⟩) 1 1 [.int .i64 X.block, .int .u64 X.ver, .string X.data] rfl (Reads.newAt wr 40 3 1 _ #[.int .i64 X.block, .int .u64 X.ver, .string X.data] _ rfl rfl rfl) (by simp [Value.oneCell']) (by unfold maxLen; omega) (by omega) ?_; intro v7 w7 hown7 hst7 hgr7 hat7)
          obtain ⟨A7, cap7, rfl, _, _⟩ := own_form' hown7
          have h8 := HOU.out.plan.step hst7 (by unfold only; omega) (by unfold only; omega)
          have h9 := HOU.out.keys.step hst7 (by unfold only; omega)
          have hlen : (l ++ [X]).length = l.length + 1 := by rw [List.length_append]; rfl
          have HF := Lib.hid (show OutAt _ w w7 w.heap.size f (some ad) K.length cb K (.slice A7 (l.length + 1) cap7) (l ++ [X]) from ⟨h8, h9, by rw [hlen, imcells_app]; exact hown7⟩)
          clear hown7 hst7 hgr7 hat7 h8 h9 hlen
          refine ⟨⟨l.length + 1, A7, cap7, _, by have := HIL.out; omega, rfl, by go_num, by rw [HTK.out]; exact HF.out⟩, ?_⟩
          have := HIL.out
          simp [intOf]
          omega
        · have hlt2I : ¬ (i : Int) < (K.length : Int) := by omega
          obtain rfl : i = K.length := by omega
          rw [List.take_length, ← HPE.out] at hout
          have hpl : P.length = K.length := by rw [HPE.out, List.length_map]
          have HOU := Lib.hid hout
          have HPL := Lib.hid hpl
          clear hout hpl
          go_wp2_with fail
          go_ret
          have h9 := HOU.out.out
          have h10 := HOU.out.plan.env
          have hnew : ∀ g, (Value.slice A' P.length cap').ownBlock = some g → w.heap.size ≤ g := by
            intro g hg
            rcases Nat.lt_or_ge g w.heap.size with h1 | h1
            · have h2 := h10.old g h1
              have h3 := h9.2 g (by rw [← HPL.out]; exact hg)
              omega
            · exact h1
          rw [← HPL.out] at h9 ⊢
          exact ⟨A', cap', rfl, ⟨h9.1, fun g hg => band_in (hnew g hg) (h9.lt g hg)⟩, h10.low⟩
end Go.Proofs.YtianlhigeabehaaGreatDoor

/- The document's Stamp; bytes that are made; ValidShape, Size. -/
namespace Go.Proofs.YtianlhigeabehaaGreatDoor
open Go.RowKit

theorem made_zer (n : Nat) : (madeCells #[.int .u8 0] (n * 1)).toList = bvs (zer n) := by
  unfold madeCells
  rw [Nat.mul_one, Array.toList_map, Array.toList_range]
  have e : ∀ l : List Nat, l.map (fun x : Nat => (#[Value.int .u8 0])[x % (#[Value.int .u8 0]).size]!) = List.replicate l.length (Value.int .u8 0) := by
    intro l
    induction l with
    | nil => rfl
    | cons a l ih =>
      rw [List.map_cons, ih, List.length_cons, List.replicate_succ]
      have : a % (#[Value.int IntKind.u8 0]).size = 0 := Nat.mod_one a
      rw [this]
      rfl
  rw [e, List.length_range]
  unfold bvs zer
  rw [List.map_replicate]
  rfl
/-- make([]byte, n), and what it is as a string -/
theorem mkbytes (w : World) (n : Nat) (hn : n ≤ 100000) : ∃ w', (Instr.makeSlice 112 (.int .i64 (n : Int)) (.int .i64 (n : Int))).run Tryz.prog w = .ok (.slice (some ⟨w.heap.size, 0, none⟩) n n) w' ∧
    w'.ownsRow w.heap.size 5 1 (.slice (some ⟨w.heap.size, 0, none⟩) n n) n (bvs (zer n)) ∧ Below w.heap.size w w' ∧ (convert 112 9 (.slice (some ⟨w.heap.size, 0, none⟩) n n)).run Tryz.prog w' = .ok (.string (str (zer n))) w' := by
  obtain ⟨i0, hi, hz0, hz1, hz2⟩ := info_parts info_u8
  obtain ⟨w', h1, h2, h3⟩ := run_makeSlice_full (w := w) w.heap.size 112 5 i0 _ 1 Tryz.underlying112 hi hz0 hz1 .i64 .i64 n (by omega) (by rw [hz2]; omega) (by unfold maxLen; omega) (Nat.le_refl _)
  have h2' : w'.ownsRow w.heap.size 5 1 (.slice (some ⟨w.heap.size, 0, none⟩) n n) n (bvs (zer n)) := by
    rw [← made_zer n]
    exact h2
  refine ⟨w', h1, h2', ⟨h3.os, h3.tape, h3.output, h3.size, fun k hk => h3.block k hk (by simp)⟩, ?_⟩
  have h4 : OwnS (fun _ => 0) 0 w' 5 1 (.slice (some ⟨w.heap.size, 0, none⟩) (zer n).length n) (zer n).length (bvs (zer n)) := by
    rw [zer_len]
    exact own_from h2' (fun _ _ => rfl)
  have := conv_own 112 9 Tryz.underlying112 Tryz.underlying5 Tryz.underlying9 h4
  rw [zer_len] at this
  exact this
theorem xval' (s : ByteArray) (v : Nat) (hv : sumOf s.data.toList = v) (w : World) (hs : s.size ≤ maxLen) :
    Calls Tryz.prog 114 #[.string s] w fun e w' => e = .returned (.int .u32 (v : Int)) ∧ w = w' := hv ▸ xsum_any s w hs
set_option maxRecDepth 100000 in
set_option maxHeartbeats 2000000 in
theorem xstamp_any (s : ByteArray) (hs : s.size ≤ 60) (w : World) : Calls Tryz.prog 67 #[.string s, .int .i64 64] w fun e w' => e = .returned (.tuple #[.string (str (stampL s.data.toList 64)), .int .i64 0]) ∧ Below w.heap.size w w' := by
  obtain ⟨n, hn⟩ : ∃ n, 60 - s.size = n := ⟨_, rfl⟩
  obtain ⟨w', h1, _, h3, h4⟩ := mkbytes w n (by omega)
  have hI : ¬ (60 : Int) < (s.size : Int) := by omega
  have e1 : IntKind.i64.wrap 60 = 60 := by rw [IntKind.wrap_i64]; decide
  have e2 : IntKind.i64.wrap (60 - (s.size : Int)) = (n : Int) := by rw [IntWalk.i64_in _ (by omega)]; omega
  obtain ⟨T, hT⟩ : ∃ T, s ++ str (zer n) = T := ⟨_, rfl⟩
  have hTS : T.size = 60 := by rw [← hT, ByteArray.size_append, str_size, zer_len]; omega
  have hTL : T.data.toList = padL s.data.toList 64 := by
    rw [← hT]
    have h5 := str_append s.data.toList (zer n)
    rw [str_of] at h5
    rw [h5, str_list]
    unfold padL
    have : s.data.toList.length = s.size := rfl
    rw [this, ← hn]
  have hcat : ¬ 9223372036854775807 < s.size + (str (zer n)).size := by rw [str_size, zer_len]; omega
  obtain ⟨Z, hZ⟩ : ∃ Z, str (zer n) = Z := ⟨_, rfl⟩
  rw [hZ] at hT hcat h4
  have HB := Lib.hid h3
  have HTS := Lib.hid (show T.size ≤ maxLen by unfold maxLen; omega)
  obtain ⟨v, hv⟩ : ∃ v, sumOf T.data.toList = v := ⟨_, rfl⟩
  have HV := Lib.hid hv
  have HVL := Lib.hid (show v < 4294967296 by rw [← hv]; exact sumOf_lt _)
  have HR := Lib.hid (show T ++ str (four v) = str (stampL s.data.toList 64) by
    have h5 := str_append T.data.toList (four v)
    rw [str_of] at h5
    rw [h5, ← hv, hTL]
    rfl)
  have h4s : (str (four v)).size = 4 := by rw [str_size]; simp [four, le_len]
  have hcat2 : ¬ 9223372036854775807 < T.size + (str (four v)).size := by rw [h4s]; omega
  obtain ⟨Q, hQ⟩ : ∃ Q, str (four v) = Q := ⟨_, rfl⟩
  rw [hQ] at HR hcat2
  have HQ := Lib.hid hQ
  clear h3 hTS hTL hZ hv h4s hQ hs
  go_enter Tryz.func67, Tryz.ntmps67
  go_wp2_with fail
  refine (xval' T v HV.out _ HTS.out).mono ?_
  rintro e w2 ⟨rfl, rfl⟩
  go_wp2_with fail
  refine (xfour_any v HVL.out _).mono ?_
  rintro e w3 ⟨rfl, hb3⟩
  rw [HQ.out]
  have HB3 := Lib.hid (HB.out.trans (hb3.mono HB.out.size))
  clear hb3
  go_wp2_with fail
  go_ret2
  exact ⟨by rw [← HR.out]; rfl, HB3.out⟩
end Go.Proofs.YtianlhigeabehaaGreatDoor

/- The document's ValidShape, Size, PutShape at the one shape; the law's Shape and One. -/
namespace Go.Proofs.YtianlhigeabehaaGreatDoor
open Go.RowKit

set_option maxRecDepth 100000 in
set_option maxHeartbeats 2000000 in
theorem refvalid_any (w : World) : Calls Tryz.prog 58 #[.agg #[.int .i64 2, .int .i64 10, .int .i64 8, .int .i64 4, .int .i64 32]] w fun e w' => e = .returned (.bool true) ∧ Below w.heap.size w w' := by
  have HB := Lib.hid ((Below.refl w.heap.size w).alloc (Nat.le_refl _) (.cells #[.int .i64 2, .int .i64 10, .int .i64 8, .int .i64 4, .int .i64 32] 29))
  obtain ⟨x0, x1, x2, x3, x4⟩ := (Blk.new w 29 #[.int .i64 2, .int .i64 10, .int .i64 8, .int .i64 4, .int .i64 32]).five
  go_enter Tryz.func58, Tryz.ntmps58
  go_wp2_with fail
  go_ret
  exact ⟨rfl, HB.out⟩
set_option maxRecDepth 100000 in
set_option maxHeartbeats 2000000 in
theorem refsize_any (w : World) : Calls Tryz.prog 22 #[.agg #[.int .i64 2, .int .i64 10, .int .i64 8, .int .i64 4, .int .i64 32]] w fun e w' => e = .returned (.int .i64 37) ∧ Below w.heap.size w w' := by
  have HB := Lib.hid ((Below.refl w.heap.size w).alloc (Nat.le_refl _) (.cells #[.int .i64 2, .int .i64 10, .int .i64 8, .int .i64 4, .int .i64 32] 29))
  have HK := Lib.hid (Blk.new w 29 #[.int .i64 2, .int .i64 10, .int .i64 8, .int .i64 4, .int .i64 32])
  have e1 : IntKind.i64.wrap 16 = 16 := by rw [IntKind.wrap_i64]; decide
  have e2 : IntKind.i64.wrap 17 = 17 := by rw [IntKind.wrap_i64]; decide
  have e3 : IntKind.i64.wrap 20 = 20 := by rw [IntKind.wrap_i64]; decide
  have e4 : IntKind.i64.wrap 37 = 37 := by rw [IntKind.wrap_i64]; decide
  go_enter Tryz.func22, Tryz.ntmps22
  obtain ⟨z0, z1, z2, z3, z4⟩ := HK.out.five
  go_wp2_with fail
  refine (refvalid_any _).mono ?_
  rintro e w1 ⟨rfl, hb1⟩
  have HB1 := Lib.hid (HB.out.trans (hb1.mono HB.out.size))
  obtain ⟨x0, x1, x2, x3, x4⟩ := (HK.out.below_ hb1).five
  clear hb1 z0 z1 z2 z3 z4
  go_wp2_with fail
  go_ret
  exact ⟨rfl, HB1.out⟩
theorem shape9_any (w : World) : Calls Tryz.prog 20 #[] w fun e w' => e = .returned (.agg #[.int .i64 2, .int .i64 10, .int .i64 8, .int .i64 4, .int .i64 32]) ∧ Below w.heap.size w w' := by
  have hb := (Blk.new w 29 #[.int .i64 2, .int .i64 10, .int .i64 8, .int .i64 4, .int .i64 32])
  obtain ⟨q0, q1, q2, q3, q4⟩ := hb.five
  have HB := Lib.hid ((Below.refl w.heap.size w).alloc (Nat.le_refl _) (.cells #[.int .i64 2, .int .i64 10, .int .i64 8, .int .i64 4, .int .i64 32] 29))
  go_enter Tryz.func20, Tryz.ntmps20
  go_wp2_with fail
  exact bodyPost_ret (v := .agg #[.int .i64 2, .int .i64 10, .int .i64 8, .int .i64 4, .int .i64 32]) (by simp [results, Tryz.results20, go_sem, q0, q1, q2, q3, q4]) rfl ⟨rfl, HB.out⟩
end Go.Proofs.YtianlhigeabehaaGreatDoor
