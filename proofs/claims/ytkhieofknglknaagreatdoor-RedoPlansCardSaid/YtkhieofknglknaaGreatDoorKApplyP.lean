/- Redo: Plan. -/
import Derived.Test.YtkhieofknglknaaGreatDoorKLogP
import Derived.Test.YtkhieofknglknaaGreatDoorKRecG
import Derived.Test.YtkhieofknglknaaGreatDoorKBlkD
import Derived.ArgAppend
import Derived.Lib.SlBytesConst
import Derived.Test.YtkhieofknglknaaGreatDoorKLogD
namespace Go.Proofs.YtkhieofknglknaaGreatDoor
open Go.RowKit

/-- the map of the best images under way -/
structure PlanAt (o : Nat → Nat) (w wr : World) (m : Nat) (f : Int → Option Im) : Prop where
  map : MapR o 1 wr m (fm f)
  env : Env o w wr
  fut : Fut o wr
section
variable {o o' : Nat → Nat} {w wr w' : World} {m : Nat} {f : Int → Option Im} {C : Nat → Prop}
theorem PlanAt.step (h : PlanAt o w wr m f) (hs : Step o C wr o' w') (h0 : ¬ C 0) (h1 : ¬ C 1) : PlanAt o' w w' m f := ⟨h.map.step hs h1, h.env.step hs h0, h.fut.step hs⟩
theorem PlanAt.below_ (h : PlanAt o w wr m f) (hb : Below wr.heap.size wr w') : PlanAt o w w' m f := h.step (Step.of_below o (fun _ => False) hb) id id
theorem PlanAt.alloc (h : PlanAt o w wr m f) (x : Obj) : PlanAt o w (wr.alloc x) m f := h.below_ ((Below.refl _ _).alloc (Nat.le_refl _) x)
theorem PlanAt.setCell (h : PlanAt o w wr m f) {g i : Nat} (hg : o g = 0) (hw : w.heap.size ≤ g) (u : Value) : PlanAt o w (wr.setCell ⟨g, i, none⟩ u) m f := by
  have hs := (Step.refl o (only 0) wr).setCell (p := ⟨g, i, none⟩) hg u
  refine ⟨h.map.step hs (by unfold only; omega), ⟨?_, h.env.old⟩, h.fut.step hs⟩
  have := h.env.low
  exact this.setCell (p := ⟨g, i, none⟩) hw u
theorem PlanAt.look (h : PlanAt o w wr m f) (k : Int) (x : Im) (hx : f k = some x) : (Instr.lookup 99 (.map (some m)) (.int .i64 k) true).run Tryz.prog wr = .ok (.tuple #[.agg #[.int .i64 x.block, .int .u64 x.ver, .string x.data], .bool true]) wr := by
  have := h.map.look Tryz.underlying99 Tryz.underlying3 (z := .agg #[.int .i64 0, .int .u64 0, .string ⟨#[]⟩]) (show (zeroValue 72).run Tryz.prog wr = _ by kernel_rfl) k true
  rw [this]
  simp only [fm, hx]
  rfl
theorem PlanAt.miss (h : PlanAt o w wr m f) (k : Int) (hx : f k = none) : (Instr.lookup 99 (.map (some m)) (.int .i64 k) true).run Tryz.prog wr = .ok (.tuple #[.agg #[.int .i64 0, .int .u64 0, .string ⟨#[]⟩], .bool false]) wr := by
  have := h.map.look Tryz.underlying99 Tryz.underlying3 (z := .agg #[.int .i64 0, .int .u64 0, .string ⟨#[]⟩]) (show (zeroValue 72).run Tryz.prog wr = _ by kernel_rfl) k true
  rw [this]
  simp only [fm, hx]
  rfl
theorem PlanAt.get (h : PlanAt o w wr m f) (k : Int) : (Instr.lookup 99 (.map (some m)) (.int .i64 k) false).run Tryz.prog wr = .ok (.agg #[.int .i64 ((f k).getD Im.zero).block, .int .u64 ((f k).getD Im.zero).ver, .string ((f k).getD Im.zero).data]) wr := by
  have := h.map.look Tryz.underlying99 Tryz.underlying3 (z := .agg #[.int .i64 0, .int .u64 0, .string ⟨#[]⟩]) (show (zeroValue 72).run Tryz.prog wr = _ by kernel_rfl) k false
  rw [this]
  unfold fm
  cases f k <;> rfl
theorem PlanAt.put (h : PlanAt o w wr m f) (x : Im) : ∃ w', (Instr.mapUpdate 99 (.map (some m)) (.int .i64 x.block) (.agg #[.int .i64 x.block, .int .u64 x.ver, .string x.data])).run Tryz.prog wr = .ok () w' ∧ PlanAt o w w' m (upd f x.block x) := by
  obtain ⟨w', h1, h2, h3, h4⟩ := h.map.put Tryz.underlying99 Tryz.underlying3 x.block x.agg
  refine ⟨w', h1, ⟨?_, h.env.step h3 (by unfold only; omega), h.fut.step h3⟩⟩
  rw [fm_upd]
  exact h2
end
theorem flat_im : ∀ {rs : List Rc}, (∀ r ∈ rs, r.images.length ≤ 100) → (rs.flatMap (·.images)).length ≤ rs.length * 100
  | [], _ => Nat.le_refl _
  | r :: rs, h => by
    rw [List.flatMap_cons, List.length_append, List.length_cons]
    have := flat_im (rs := rs) (fun x hx => h x (List.mem_cons_of_mem _ hx))
    have := h r (List.mem_cons_self ..)
    omega
def keyG (f : Int → Option Im) (k : Int) : Im := (f k).getD Im.zero
theorem plan_eq (rs : List Rc) : planOf rs = (keysOf (rs.flatMap (·.images))).map (keyG (bestOf (rs.flatMap (·.images)))) := rfl
/-- the list of images under way, beside the map and the keys -/
structure OutAt (o : Nat → Nat) (w wr : World) (m : Nat) (f : Int → Option Im) (B : Option Addr) (n cb : Nat) (K : List Int) (V : Value) (l : List Im) : Prop where
  plan : PlanAt o w wr m f
  keys : OwnS o 0 wr 3 1 (.slice B n cb) n (K.map encZ)
  out : OwnS o 2 wr 72 3 V l.length (imcells l)
theorem OutAt.step {o o' : Nat → Nat} {w wr w' : World} {m : Nat} {f : Int → Option Im} {B : Option Addr} {n cb : Nat} {K : List Int} {V : Value} {l : List Im} {C : Nat → Prop} (h : OutAt o w wr m f B n cb K V l) (hs : Step o C wr o' w') (h0 : ¬ C 0) (h1 : ¬ C 1) (h2 : ¬ C 2) : OutAt o' w w' m f B n cb K V l :=
  ⟨h.plan.step hs h0 h1, h.keys.step hs h0, h.out.step hs h2⟩
theorem keyRow {w : World} {B : Option Addr} {K : List Int} (h : Reads w 1 B K.length (K.map encZ)) {k : Nat} {x : Int} (hx : K[k]? = some x) : ∃ ad, B = some ad ∧ w.cell? (ad.add k) = some (.int .i64 x) := by
  have hl : K.map encZ = K.flatMap (fun x => [encZ x]) := by
    clear h hx
    induction K with
    | nil => rfl
    | cons a l ih => rw [List.map_cons, List.flatMap_cons, ih]; rfl
  rw [hl] at h
  obtain ⟨ad, rfl, hc⟩ := Reads.row (f := fun x : Int => [encZ x]) (fun _ => rfl) h hx
  refine ⟨ad, rfl, ?_⟩
  have := hc 0 _ rfl
  rw [Nat.mul_one] at this
  exact this
def iRange (k : Int) : Prop := -9223372036854775808 ≤ k ∧ k ≤ 9223372036854775807
set_option maxRecDepth 100000 in
set_option maxHeartbeats 8000000 in
theorem eplan_any (oo : Nat → Nat) (d : Nat) (rs : List Rc) (vs : List Value) (A : Option Addr) (cap : Nat) (w : World) (h : RecsRd w A rs vs) (hl : rs.length ≤ 1000) (hi : ∀ r ∈ rs, r.images.length ≤ 100 ∧ ∀ i ∈ r.images, i.data.size ≤ 281474976710656 ∧ iRange i.block) :
    Calls Tryz.prog 7 #[.slice A rs.length cap] w fun e w' => ∃ A' cap', e = .returned (.slice A' (planOf rs).length cap') ∧ OwnS (band oo w.heap.size w'.heap.size d) d w' 72 3 (.slice A' (planOf rs).length cap') (planOf rs).length (imcells (planOf rs)) ∧ Below w.heap.size w w' := by
  have HRD := Lib.hid h
  have HL := Lib.hid hl
  have HI := Lib.hid hi
  have hlI : (rs.length : Int) ≤ 1000 := by omega
  obtain ⟨P, hP⟩ : ∃ P, planOf rs = P := ⟨_, rfl⟩
  have HP := Lib.hid hP
  rw [hP]
  clear h hl hi hP
  obtain ⟨o0, ho, hs0⟩ := alloc_as (fun _ => 0) w (.map #[] 0) 1
  have HM0 := Lib.hid (show PlanAt o0 w (w.alloc (.map #[] 0)) w.heap.size (fun _ => none) from ⟨MapR.newAs o0 w 1 ho, (Env.start w).step hs0 id, (show Fut (fun _ => 0) w from fun _ _ => rfl).step hs0⟩)
  clear ho hs0
  have hmm := @run_makeMap Tryz.prog
  go_enter Tryz.func7, Tryz.ntmps7
  go_wp2_with fail
  clear hmm
  generalize w.alloc (.map #[] 0) = W0 at HM0 ⊢
  go_loopw [16] (fun t16 wr => ∃ (j : Nat) (o1 : Nat → Nat), j ≤ rs.length ∧ t16 = .int .i64 j ∧ PlanAt o1 w wr w.heap.size (bestOf ((rs.take j).flatMap (·.images)))) (fun t16 _ => rs.length - (intOf t16).toNat)
  case atStart => exact ⟨0, o0, by omega, rfl, HM0.out⟩
  case round =>
    obtain ⟨j, o1, hj, rfl, hp⟩ := hrel
    have HP1 := Lib.hid hp
    have HJ := Lib.hid hj
    clear hp
    by_cases hlt : j < rs.length
    · have hltI : (j : Int) < (rs.length : Int) := by omega
      have HJL := Lib.hid hlt
      obtain ⟨r, hr⟩ : ∃ r, rs[j]? = some r := ⟨_, List.getElem?_eq_getElem hlt⟩
      obtain ⟨ad, B, cp, rfl, y0, y1, y2, hrd⟩ := HRD.out.row hr
      have y0 := cell_below y0 HP1.out.env.low
      have y1 := cell_below y1 HP1.out.env.low
      have y2 := cell_below y2 HP1.out.env.low
      have HTK := Lib.hid (take_im hr)
      obtain ⟨hr1, hr2⟩ := HI.out r (List.mem_of_getElem? hr)
      have HR1 := Lib.hid hr1
      have HR2 := Lib.hid hr2
      have hrI : (r.images.length : Int) ≤ 100 := by omega
      have HRI := Lib.hid hrd
      have HP2 := Lib.hid (HP1.out.alloc (.cells #[.int .u64 r.epoch, .int .u64 r.lsn, .slice B r.images.length cp] 29))
      have HXR := Lib.hid (Blk.new wr 29 #[.int .u64 r.epoch, .int .u64 r.lsn, .slice B r.images.length cp])
      clear hr hrd hr1 hr2
      go_upto_region 5 with (fail)
      generalize wr.alloc (.cells #[.int .u64 r.epoch, .int .u64 r.lsn, .slice B r.images.length cp] 29) = W1 at HP2 HXR ⊢
      generalize wr.heap.size = XR at HXR ⊢
      clear y0 y1 y2
      obtain ⟨x0, x1, x2⟩ := HXR.out.three
      go_wp2_with fail
      clear x0 x1 x2
      obtain ⟨PRE, hPRE⟩ : ∃ l, (rs.take j).flatMap (·.images) = l := ⟨_, rfl⟩
      rw [hPRE] at HP2 HTK
      obtain ⟨L, hL⟩ : ∃ l, r.images = l := ⟨_, rfl⟩
      rw [hL] at HTK HR1 HR2 hrI HRI ⊢
      clear hPRE hL
      go_loopw [23] (fun t23 wi => ∃ (i : Nat) (o2 : Nat → Nat), i ≤ L.length ∧ t23 = .int .i64 i ∧ PlanAt o2 w wi w.heap.size (bestOf (PRE ++ L.take i))) (fun t23 _ => L.length - (intOf t23).toNat)
      case atStart => exact ⟨0, o1, by omega, rfl, by rw [List.take_zero, List.append_nil]; exact HP2.out⟩
      case round =>
        obtain ⟨i, o2, hi, rfl, hp2⟩ := hrel
        by_cases hlt2 : i < L.length
        · have hlt2I : (i : Int) < (L.length : Int) := by omega
          have HIL := Lib.hid hlt2
          obtain ⟨x, hx⟩ : ∃ x, L[i]? = some x := ⟨_, List.getElem?_eq_getElem hlt2⟩
          obtain ⟨ai, rfl, y0, y1, y2⟩ := (HRI.out.below' (by omega) hp2.env.low).imrow hx
          have HXB := Lib.hid (HR2.out x (List.mem_of_getElem? hx))
          have HTX := Lib.hid (show bestOf (PRE ++ L.take (i + 1)) = bestStep (bestOf (PRE ++ L.take i)) x by rw [List.take_add_one, hx, Option.toList_some, ← List.append_assoc, bestOf_add])
          generalize bestOf (PRE ++ L.take i) = f at HTX hp2
          have HP3 := Lib.hid (hp2.alloc (.cells #[.int .i64 x.block, .int .u64 x.ver, .string x.data] 72))
          have HX3 := Lib.hid (Keep.new hp2.fut 72 #[.int .i64 x.block, .int .u64 x.ver, .string x.data])
          have HXW := Lib.hid (show w.heap.size ≤ wr.heap.size from hp2.env.low.size)
          clear hp2 hx
          go_upto_region 8 with (fail)
          generalize wr.alloc (.cells #[.int .i64 x.block, .int .u64 x.ver, .string x.data] 72) = W3 at HP3 HX3 ⊢
          generalize wr.heap.size = X at HX3 HXW ⊢
          clear y0 y1 y2
          obtain ⟨z0, z1, z2⟩ := HX3.out.1.three
          -- behind the look-up: the image is put into the map
          have PUT := Lib.hid (fun (W : World) (hp : PlanAt o2 w W w.heap.size f) (hx : Keep o2 W X 72 #[.int .i64 x.block, .int .u64 x.ver, .string x.data]) => (hp.setCell (g := X) (i := 2) hx.2 HXW.out (.string x.data)).put x)
          cases hfx : f x.block with
          | none =>
            have hlook := HP3.out.miss x.block hfx
            have HB := Lib.hid (show bestOf (PRE ++ L.take (i + 1)) = upd f x.block x by rw [HTX.out, best_none hfx])
            have HP4 := Lib.hid (HP3.out.alloc (.cells #[.int .i64 0, .int .u64 0, .string ⟨#[]⟩] 72))
            have HX4 := Lib.hid (HX3.out.alloc (.cells #[.int .i64 0, .int .u64 0, .string ⟨#[]⟩] 72))
            clear hfx
            go_upto_region 10 with (fail)
            generalize W3.alloc (.cells #[.int .i64 0, .int .u64 0, .string ⟨#[]⟩] 72) = W4 at HP4 HX4 ⊢
            obtain ⟨v0, v1, v2⟩ := HX4.out.1.three
            clear z0 z1 z2 hlook
            go_wp2_with fail
            refine (clone_any x.data W4 HXB.out.1).mono ?_
            rintro e w5 ⟨rfl, hb5⟩
            have HP5 := Lib.hid (HP4.out.below_ hb5)
            have HX5 := Lib.hid (HX4.out.below_ hb5)
            obtain ⟨w6, hput, hp6⟩ := PUT.out w5 HP5.out HX5.out
            have HP6 := Lib.hid hp6
            obtain ⟨y0, y1, y2⟩ := HX5.out.1.three
            have f2 := HX5.out.1.frozen 2
            clear hb5 hp6 v0 v1 v2
            go_wp2_with fail
            go_roundw
            case rel => exact ⟨i + 1, o2, by have := HIL.out; omega, by go_num, by rw [HB.out]; exact HP6.out⟩
            case measure => have := HIL.out; simp [intOf]; omega
          | some was =>
            have hlook := HP3.out.look x.block was hfx
            have HP4 := Lib.hid (HP3.out.alloc (.cells #[.int .i64 was.block, .int .u64 was.ver, .string was.data] 72))
            have HX4 := Lib.hid (HX3.out.alloc (.cells #[.int .i64 was.block, .int .u64 was.ver, .string was.data] 72))
            have HBS := Lib.hid (best_some hfx)
            have HY4 := Lib.hid (Blk.new W3 72 #[.int .i64 was.block, .int .u64 was.ver, .string was.data])
            clear hfx
            go_upto_region 9 with (fail)
            generalize W3.alloc (.cells #[.int .i64 was.block, .int .u64 was.ver, .string was.data] 72) = W4 at HP4 HX4 HY4 ⊢
            generalize W3.heap.size = Y at HY4 ⊢
            obtain ⟨v0, v1, v2⟩ := HX4.out.1.three
            obtain ⟨u0, u1, u2⟩ := HY4.out.three
            clear z0 z1 z2 hlook
            by_cases hv : was.ver ≤ x.ver
            · have HB := Lib.hid (show bestOf (PRE ++ L.take (i + 1)) = upd f x.block x by rw [HTX.out, HBS.out, if_pos hv])
              have hvI : (was.ver : Int) ≤ (x.ver : Int) := by omega
              have hvI2 : ¬ (x.ver : Int) < (was.ver : Int) := by omega
              clear hv
              go_wp2_with fail
              refine (clone_any x.data W4 HXB.out.1).mono ?_
              rintro e w5 ⟨rfl, hb5⟩
              have HP5 := Lib.hid (HP4.out.below_ hb5)
              have HX5 := Lib.hid (HX4.out.below_ hb5)
              obtain ⟨w6, hput, hp6⟩ := PUT.out w5 HP5.out HX5.out
              have HP6 := Lib.hid hp6
              obtain ⟨y0, y1, y2⟩ := HX5.out.1.three
              have f2 := HX5.out.1.frozen 2
              clear hb5 hp6 v0 v1 v2 u0 u1 u2
              go_wp2_with fail
              go_roundw
              case rel => exact ⟨i + 1, o2, by have := HIL.out; omega, by go_num, by rw [HB.out]; exact HP6.out⟩
              case measure => have := HIL.out; simp [intOf]; omega
            · have HB := Lib.hid (show bestOf (PRE ++ L.take (i + 1)) = f by rw [HTX.out, HBS.out, if_neg hv])
              have hvI : ¬ (was.ver : Int) ≤ (x.ver : Int) := by omega
              have hvI2 : (x.ver : Int) < (was.ver : Int) := by omega
              clear hv
              go_wp2_with fail
              go_roundw
              case rel => exact ⟨i + 1, o2, by have := HIL.out; omega, by go_num, by rw [HB.out]; exact HP4.out⟩
              case measure => have := HIL.out; simp [intOf]; omega
        · have hlt2I : ¬ (i : Int) < (L.length : Int) := by omega
          obtain rfl : i = L.length := by omega
          rw [List.take_length, ← HTK.out] at hp2
          have HP9 := Lib.hid hp2
          clear hp2
          go_wp2_with fail
          go_roundw
          case rel => exact ⟨j + 1, o2, by have := HJL.out; omega, by go_num, HP9.out⟩
          case measure => have := HJL.out; simp [intOf]; omega
    · have hltI : ¬ (j : Int) < (rs.length : Int) := by omega
      obtain rfl : j = rs.length := by omega
      rw [List.take_length] at HP1
      have HPE := Lib.hid (show P = (keysOf (rs.flatMap (·.images))).map (keyG (bestOf (rs.flatMap (·.images)))) by rw [← HP.out, plan_eq])
      have hall : (rs.flatMap (·.images)).length ≤ 100000 := by have := flat_im (fun r hr => (HI.out r hr).1); have := HL.out; omega
      have hrange : ∀ k ∈ ((rs.flatMap (·.images)).map (·.block)).eraseDups, iRange k := by
        intro k hk
        rw [List.mem_eraseDups, List.mem_map] at hk
        obtain ⟨x, hx, rfl⟩ := hk
        obtain ⟨r, hr, hx⟩ := List.mem_flatMap.1 hx
        exact ((HI.out r hr).2 x hx).2
      have HBK := Lib.hid (best_keys (rs.flatMap (·.images)))
      generalize rs.flatMap (·.images) = ALL at HP1 HPE hall hrange HBK
      have hdl : (ALL.map (·.block)).eraseDups.length ≤ 100000 := by have := dups_len (ALL.map (·.block)); rw [List.length_map] at this; omega
      generalize bestOf ALL = f at HP1 HPE HBK
      obtain ⟨nn, D0, hown, hperm, hsz⟩ := mapR_keys HP1.out.map Tryz.underlying3 (ALL.map (·.block)).eraseDups (nodup_dups _) (fun k => by rw [List.mem_eraseDups, ← HBK.out k]; unfold fm; cases f k <;> rfl) hrange (by omega)
      have HSRT := Lib.hid (sorted_any w.heap.size nn D0 _ wr hown hsz)
      obtain ⟨K, hK⟩ : ∃ K, keysOf ALL = K := ⟨_, rfl⟩
      have hkl : K.length = (ALL.map (·.block)).eraseDups.length := by rw [← hK]; unfold keysOf; rw [List.length_mergeSort]
      have HKP := Lib.hid (show ∀ ss : List Int, ss.Perm (intKeys D0) → ss.mergeSort (fun x y => decide (x ≤ y)) = K ∧ ss.length = K.length from fun ss h => by
        have h1 := h.trans hperm
        refine ⟨?_, by rw [hkl]; exact h1.length_eq⟩
        rw [← hK]
        exact mergeSort_of_perm_i h1)
      have HKL := Lib.hid (show K.length ≤ 100000 by omega)
      rw [hK] at HPE
      have HFZ := Lib.hid (HP1.out.fut)
      clear hown hperm hsz hrange hall hdl hkl hK HBK
      go_wp2_with fail
      refine (mkeys_any (some w.heap.size) wr).mono ?_
      rintro e w1 ⟨rfl, rfl⟩
      go_wp2_with fail
      refine HSRT.out.mono ?_
      rintro e w2 ⟨v, ss, rfl, hss, hrow, hb2⟩
      obtain ⟨k1, k2⟩ := HKP.out ss hss
      rw [k1, k2] at hrow
      have hko := own_from (o := o1) (c := 0) hrow (fun g hg => HFZ.out g (by omega))
      obtain ⟨B, cb, rfl, _, _⟩ := own_form' hko
      have hp2 : PlanAt o1 w w2 w.heap.size f := (HP1.out.alloc (.cells #[.map (some w.heap.size)] 99)).below_ (by rw [show (wr.alloc (.cells #[.map (some w.heap.size)] 99)).heap.size = wr.heap.size + 1 by simp]; exact hb2)
      have HO2 := Lib.hid (show OutAt o1 w w2 w.heap.size f B K.length cb K (.slice none 0 0) [] from ⟨hp2, hko, OwnS.nil _ _ _ _ _⟩)
      obtain ⟨i0, hi0, hz0, hz1, hz2⟩ := info_parts info_im
      have hKI : (K.length : Int) ≤ 100000 := by have := HKL.out; omega
      clear hss hrow hb2 k1 k2 hko hp2 HP1 HFZ HKP HSRT
      go_wp2_with fail
      go_loopw [10, 57] (fun t10 t57 wr => ∃ (i : Nat) (A' : Option Addr) (cap' : Nat) (o3 : Nat → Nat), i ≤ K.length ∧ t10 = .slice A' i cap' ∧ t57 = .int .i64 i ∧ OutAt o3 w wr w.heap.size f B K.length cb K (.slice A' i cap') ((K.take i).map (keyG f))) (fun _ t57 _ => K.length - (intOf t57).toNat)
      case atStart => exact ⟨0, none, 0, o1, by omega, rfl, rfl, HO2.out⟩
      case round =>
        obtain ⟨i, A', cap', o3, hi, rfl, rfl, hout⟩ := hrel
        by_cases hlt2 : i < K.length
        · have hlt2I : (i : Int) < (K.length : Int) := by omega
          have HIL := Lib.hid hlt2
          obtain ⟨x, hx⟩ : ∃ x, K[i]? = some x := ⟨_, List.getElem?_eq_getElem hlt2⟩
          obtain ⟨ad, rfl, y0⟩ := keyRow (Reads.of_own hout.keys.1) hx
          have hget := hout.plan.get x
          have HTK := Lib.hid (show (K.take (i + 1)).map (keyG f) = (K.take i).map (keyG f) ++ [keyG f x] by rw [List.take_add_one, hx, Option.toList_some, List.map_append]; rfl)
          have hll : ((K.take i).map (keyG f)).length = i := by rw [List.length_map, List.length_take]; omega
          rw [show (f x).getD Im.zero = keyG f x from rfl] at hget
          obtain ⟨X, hX⟩ : ∃ X, keyG f x = X := ⟨_, rfl⟩
          rw [hX] at HTK hget
          generalize (K.take i).map (keyG f) = l at HTK hll hout
          subst hll
          have HOU := Lib.hid (hout.step ((Step.refl o3 (fun _ => False) wr).alloc (.cells #[.int .i64 X.block, .int .u64 X.ver, .string X.data] 72)) id id id)
          have hl1 : l.length ≤ 100000 := by have := HKL.out; omega
          clear hx hX hout
          go_wp2_with (at_builtin; refine wpList_append_S _ rfl (.tmp 61) (.tmp 65) 23 rfl 72 i0 _ 3 32 Tryz.underlying23 hi0 hz0 hz1 hz2 rfl (by omega) (.slice A' l.length cap') l.length (imcells l) rfl HOU.out.out (some ⟨wr.heap.size, 0, none⟩) 1 1 [.int .i64 X.block, .int .u64 X.ver, .string X.data] rfl (Reads.newAt wr 72 3 1 _ #[.int .i64 X.block, .int .u64 X.ver, .string X.data] _ rfl rfl rfl) (by simp [Value.oneCell']) (by unfold maxLen; omega) (by omega) ?_; intro v7 w7 hown7 hst7 hgr7 hat7)
          obtain ⟨A7, cap7, rfl, _, _⟩ := own_form' hown7
          have h8 := HOU.out.plan.step hst7 (by unfold only; omega) (by unfold only; omega)
          have h9 := HOU.out.keys.step hst7 (by unfold only; omega)
          have hlen : (l ++ [X]).length = l.length + 1 := by rw [List.length_append]; rfl
          have HF := Lib.hid (show OutAt _ w w7 w.heap.size f (some ad) K.length cb K (.slice A7 (l.length + 1) cap7) (l ++ [X]) from ⟨h8, h9, by rw [hlen, imcells_app]; exact hown7⟩)
          clear hown7 hst7 hgr7 hat7 h8 h9 hlen
          refine ⟨⟨l.length + 1, A7, cap7, _, by have := HIL.out; omega, rfl, by go_num, by rw [HTK.out]; exact HF.out⟩, ?_⟩
          have := HIL.out
          simp [intOf]
          omega
        · have hlt2I : ¬ (i : Int) < (K.length : Int) := by omega
          obtain rfl : i = K.length := by omega
          rw [List.take_length, ← HPE.out] at hout
          have hpl : P.length = K.length := by rw [HPE.out, List.length_map]
          have HOU := Lib.hid hout
          have HPL := Lib.hid hpl
          clear hout hpl
          go_wp2_with fail
          go_ret
          have h9 := HOU.out.out
          have h10 := HOU.out.plan.env
          have hnew : ∀ g, (Value.slice A' P.length cap').ownBlock = some g → w.heap.size ≤ g := by
            intro g hg
            rcases Nat.lt_or_ge g w.heap.size with h1 | h1
            · have h2 := h10.old g h1
              have h3 := h9.2 g (by rw [← HPL.out]; exact hg)
              omega
            · exact h1
          rw [← HPL.out] at h9 ⊢
          exact ⟨A', cap', rfl, ⟨h9.1, fun g hg => band_in (hnew g hg) (h9.lt g hg)⟩, h10.low⟩
end Go.Proofs.YtkhieofknglknaaGreatDoor

/- The document's Stamp; bytes that are made; ValidShape, Size. -/
namespace Go.Proofs.YtkhieofknglknaaGreatDoor
open Go.RowKit

theorem made_zer (n : Nat) : (madeCells #[.int .u8 0] (n * 1)).toList = bvs (zer n) := by
  unfold madeCells
  rw [Nat.mul_one, Array.toList_map, Array.toList_range]
  have e : ∀ l : List Nat, l.map (fun x : Nat => (#[Value.int .u8 0])[x % (#[Value.int .u8 0]).size]!) = List.replicate l.length (Value.int .u8 0) := by
    intro l
    induction l with
    | nil => rfl
    | cons a l ih =>
      rw [List.map_cons, ih, List.length_cons, List.replicate_succ]
      have : a % (#[Value.int IntKind.u8 0]).size = 0 := Nat.mod_one a
      rw [this]
      rfl
  rw [e, List.length_range]
  unfold bvs zer
  rw [List.map_replicate]
  rfl
/-- make([]byte, n), and what it is as a string -/
theorem mkbytes (w : World) (n : Nat) (hn : n ≤ 100000) : ∃ w', (Instr.makeSlice 164 (.int .i64 (n : Int)) (.int .i64 (n : Int))).run Tryz.prog w = .ok (.slice (some ⟨w.heap.size, 0, none⟩) n n) w' ∧
    w'.ownsRow w.heap.size 5 1 (.slice (some ⟨w.heap.size, 0, none⟩) n n) n (bvs (zer n)) ∧ Below w.heap.size w w' ∧ (convert 164 9 (.slice (some ⟨w.heap.size, 0, none⟩) n n)).run Tryz.prog w' = .ok (.string (str (zer n))) w' := by
  obtain ⟨i0, hi, hz0, hz1, hz2⟩ := info_parts info_u8
  obtain ⟨w', h1, h2, h3⟩ := run_makeSlice_full (w := w) w.heap.size 164 5 i0 _ 1 Tryz.underlying164 hi hz0 hz1 .i64 .i64 n (by omega) (by rw [hz2]; omega) (by unfold maxLen; omega) (Nat.le_refl _)
  have h2' : w'.ownsRow w.heap.size 5 1 (.slice (some ⟨w.heap.size, 0, none⟩) n n) n (bvs (zer n)) := by
    rw [← made_zer n]
    exact h2
  refine ⟨w', h1, h2', ⟨h3.os, h3.tape, h3.output, h3.size, fun k hk => h3.block k hk (by simp)⟩, ?_⟩
  have h4 : OwnS (fun _ => 0) 0 w' 5 1 (.slice (some ⟨w.heap.size, 0, none⟩) (zer n).length n) (zer n).length (bvs (zer n)) := by
    rw [zer_len]
    exact own_from h2' (fun _ _ => rfl)
  have := conv_own 164 9 Tryz.underlying164 Tryz.underlying5 Tryz.underlying9 h4
  rw [zer_len] at this
  exact this
theorem xval' (s : ByteArray) (v : Nat) (hv : sumOf s.data.toList = v) (w : World) (hs : s.size ≤ maxLen) :
    Calls Tryz.prog 223 #[.string s] w fun e w' => e = .returned (.int .u32 (v : Int)) ∧ w = w' := hv ▸ xsum_any s w hs
set_option maxRecDepth 100000 in
set_option maxHeartbeats 2000000 in
theorem xstamp_any (s : ByteArray) (hs : s.size ≤ 60) (w : World) : Calls Tryz.prog 144 #[.string s, .int .i64 64] w fun e w' => e = .returned (.tuple #[.string (str (stampL s.data.toList 64)), .int .i64 0]) ∧ Below w.heap.size w w' := by
  obtain ⟨n, hn⟩ : ∃ n, 60 - s.size = n := ⟨_, rfl⟩
  obtain ⟨w', h1, _, h3, h4⟩ := mkbytes w n (by omega)
  have hI : ¬ (60 : Int) < (s.size : Int) := by omega
  have e1 : IntKind.i64.wrap 60 = 60 := by rw [IntKind.wrap_i64]; decide
  have e2 : IntKind.i64.wrap (60 - (s.size : Int)) = (n : Int) := by rw [IntWalk.i64_in _ (by omega)]; omega
  obtain ⟨T, hT⟩ : ∃ T, s ++ str (zer n) = T := ⟨_, rfl⟩
  have hTS : T.size = 60 := by rw [← hT, ByteArray.size_append, str_size, zer_len]; omega
  have hTL : T.data.toList = padL s.data.toList 64 := by
    rw [← hT]
    have h5 := str_append s.data.toList (zer n)
    rw [str_of] at h5
    rw [h5, str_list]
    unfold padL
    have : s.data.toList.length = s.size := rfl
    rw [this, ← hn]
  have hcat : ¬ 9223372036854775807 < s.size + (str (zer n)).size := by rw [str_size, zer_len]; omega
  obtain ⟨Z, hZ⟩ : ∃ Z, str (zer n) = Z := ⟨_, rfl⟩
  rw [hZ] at hT hcat h4
  have HB := Lib.hid h3
  have HTS := Lib.hid (show T.size ≤ maxLen by unfold maxLen; omega)
  obtain ⟨v, hv⟩ : ∃ v, sumOf T.data.toList = v := ⟨_, rfl⟩
  have HV := Lib.hid hv
  have HVL := Lib.hid (show v < 4294967296 by rw [← hv]; exact sumOf_lt _)
  have HR := Lib.hid (show T ++ str (four v) = str (stampL s.data.toList 64) by
    have h5 := str_append T.data.toList (four v)
    rw [str_of] at h5
    rw [h5, ← hv, hTL]
    rfl)
  have h4s : (str (four v)).size = 4 := by rw [str_size]; simp [four, le_len]
  have hcat2 : ¬ 9223372036854775807 < T.size + (str (four v)).size := by rw [h4s]; omega
  obtain ⟨Q, hQ⟩ : ∃ Q, str (four v) = Q := ⟨_, rfl⟩
  rw [hQ] at HR hcat2
  have HQ := Lib.hid hQ
  clear h3 hTS hTL hZ hv h4s hQ hs
  go_enter Tryz.func144, Tryz.ntmps144
  go_wp2_with fail
  refine (xval' T v HV.out _ HTS.out).mono ?_
  rintro e w2 ⟨rfl, rfl⟩
  go_wp2_with fail
  refine (xfour_any v HVL.out _).mono ?_
  rintro e w3 ⟨rfl, hb3⟩
  rw [HQ.out]
  have HB3 := Lib.hid (HB.out.trans (hb3.mono HB.out.size))
  clear hb3
  go_wp2_with fail
  go_ret2
  exact ⟨by rw [← HR.out]; rfl, HB3.out⟩
end Go.Proofs.YtkhieofknglknaaGreatDoor

/- The document's ValidShape, Size, PutShape at the one shape; the law's Shape and One. -/
namespace Go.Proofs.YtkhieofknglknaaGreatDoor
open Go.RowKit

set_option maxRecDepth 100000 in
set_option maxHeartbeats 2000000 in
theorem refvalid_any (w : World) : Calls Tryz.prog 137 #[.agg #[.int .i64 2, .int .i64 10, .int .i64 8, .int .i64 4, .int .i64 32]] w fun e w' => e = .returned (.bool true) ∧ Below w.heap.size w w' := by
  have HB := Lib.hid ((Below.refl w.heap.size w).alloc (Nat.le_refl _) (.cells #[.int .i64 2, .int .i64 10, .int .i64 8, .int .i64 4, .int .i64 32] 34))
  obtain ⟨x0, x1, x2, x3, x4⟩ := (Blk.new w 34 #[.int .i64 2, .int .i64 10, .int .i64 8, .int .i64 4, .int .i64 32]).five
  go_enter Tryz.func137, Tryz.ntmps137
  go_wp2_with fail
  go_ret
  exact ⟨rfl, HB.out⟩
set_option maxRecDepth 100000 in
set_option maxHeartbeats 2000000 in
theorem refsize_any (w : World) : Calls Tryz.prog 29 #[.agg #[.int .i64 2, .int .i64 10, .int .i64 8, .int .i64 4, .int .i64 32]] w fun e w' => e = .returned (.int .i64 37) ∧ Below w.heap.size w w' := by
  have HB := Lib.hid ((Below.refl w.heap.size w).alloc (Nat.le_refl _) (.cells #[.int .i64 2, .int .i64 10, .int .i64 8, .int .i64 4, .int .i64 32] 34))
  have HK := Lib.hid (Blk.new w 34 #[.int .i64 2, .int .i64 10, .int .i64 8, .int .i64 4, .int .i64 32])
  have e1 : IntKind.i64.wrap 16 = 16 := by rw [IntKind.wrap_i64]; decide
  have e2 : IntKind.i64.wrap 17 = 17 := by rw [IntKind.wrap_i64]; decide
  have e3 : IntKind.i64.wrap 20 = 20 := by rw [IntKind.wrap_i64]; decide
  have e4 : IntKind.i64.wrap 37 = 37 := by rw [IntKind.wrap_i64]; decide
  go_enter Tryz.func29, Tryz.ntmps29
  obtain ⟨z0, z1, z2, z3, z4⟩ := HK.out.five
  go_wp2_with fail
  refine (refvalid_any _).mono ?_
  rintro e w1 ⟨rfl, hb1⟩
  have HB1 := Lib.hid (HB.out.trans (hb1.mono HB.out.size))
  obtain ⟨x0, x1, x2, x3, x4⟩ := (HK.out.below_ hb1).five
  clear hb1 z0 z1 z2 z3 z4
  go_wp2_with fail
  go_ret
  exact ⟨rfl, HB1.out⟩
theorem shape9_any (w : World) : Calls Tryz.prog 27 #[] w fun e w' => e = .returned (.agg #[.int .i64 2, .int .i64 10, .int .i64 8, .int .i64 4, .int .i64 32]) ∧ Below w.heap.size w w' := by
  have hb := (Blk.new w 34 #[.int .i64 2, .int .i64 10, .int .i64 8, .int .i64 4, .int .i64 32])
  obtain ⟨q0, q1, q2, q3, q4⟩ := hb.five
  have HB := Lib.hid ((Below.refl w.heap.size w).alloc (Nat.le_refl _) (.cells #[.int .i64 2, .int .i64 10, .int .i64 8, .int .i64 4, .int .i64 32] 34))
  go_enter Tryz.func27, Tryz.ntmps27
  go_wp2_with fail
  exact bodyPost_ret (v := .agg #[.int .i64 2, .int .i64 10, .int .i64 8, .int .i64 4, .int .i64 32]) (by simp [results, Tryz.results27, go_sem, q0, q1, q2, q3, q4]) rfl ⟨rfl, HB.out⟩
end Go.Proofs.YtkhieofknglknaaGreatDoor

/- The document's writer behind a constant's row: the first number. -/
namespace Go.Proofs.YtkhieofknglknaaGreatDoor
open Go.RowKit

def bs8 : List UInt8 := [67, 79, 77, 77, 79, 78, 83, 49]
theorem xfail_blk {p : Nat} {V : Value} {w : World} (hb : Blk w p 181 #[V, .int .i64 0]) : Calls Tryz.prog 221 #[.pointer (some ⟨p, 0, none⟩), .int .i64 0] w fun r w' => r = .returned (.bool false) ∧ w' = w.setCell ⟨p, 1, none⟩ (.int .i64 0) := by
  have x1 : w.cell? ⟨p, 1, none⟩ = some (.int .i64 0) := hb.cell 1
  have f1 := hb.frozen 1
  clear hb
  go_enter Tryz.func221, Tryz.ntmps221
  go_wp2
  go_ret
  exact ⟨rfl, rfl⟩
set_option maxRecDepth 100000 in
set_option maxHeartbeats 2000000 in
theorem xnum_first {o : Nat → Nat} {c p g : Nat} {w : World} (hb : Blk w p 181 #[.slice (some ⟨g, 0, none⟩) 8 8, .int .i64 0]) (hc : o p = c) (hgl : g < w.heap.size) (hog : o g ≠ c) (hrd : ∀ j u, (bvs bs8)[j]? = some u → w.cell? ((⟨g, 0, none⟩ : Addr).add j) = some u) (v : Nat) (hv : v < 4294967296) :
    Calls Tryz.prog 143 #[.pointer (some ⟨p, 0, none⟩), .int .u64 v, .int .i64 4] w fun r w' => r = .returned (.tuple #[]) ∧ ∃ o', WrAt 181 o' c w' p ⟨bs8 ++ le v 4, 0⟩ ∧ Step o (only c) w o' w' := by
  obtain ⟨i0, hi0, hz0, hz1, hz2⟩ := info_parts info_u8
  have HB0 := Lib.hid hb
  have HC := Lib.hid hc
  have HGL := Lib.hid hgl
  have HOG := Lib.hid hog
  have HRD := Lib.hid hrd
  have HV0 := Lib.hid hv
  have HB1 := Lib.hid (hb.set_ 1 (.int .i64 0))
  have HS1 := Lib.hid ((Step.refl o (only c) w).setCell (p := ⟨p, 1, none⟩) hc (.int .i64 0))
  have HPL := Lib.hid hb.lt
  clear hb hc hgl hog hrd hv
  go_enter Tryz.func143, Tryz.ntmps143
  go_wp2_with fail
  refine (xfail_blk HB0.out).mono ?_
  rintro e w1 ⟨rfl, rfl⟩
  generalize w.setCell ⟨p, 1, none⟩ (.int .i64 0) = W1 at HB1 HS1 ⊢
  go_wp2_with fail
  go_loopw [1, 6, 7] (fun t1 t6 t7 wr => ∃ (k : Nat) (o' : Nat → Nat), k ≤ 4 ∧ t7 = .int .i64 k ∧ t1 = .int .u64 ((v / 256 ^ k : Nat) : Int) ∧ OwnS o' (c + 1) wr 5 1 t6 k (bvs (le v k)) ∧ (∀ g, t6.ownBlock = some g → w.heap.size ≤ g) ∧ Blk wr p 181 #[.slice (some ⟨g, 0, none⟩) 8 8, .int .i64 0] ∧ Step o (only c) w o' wr) (fun _ _ t7 _ => 4 - (intOf t7).toNat)
  case atStart => exact ⟨0, o, Nat.zero_le _, rfl, by simp, OwnS.nil _ _ _ _ _, by simp [Value.ownBlock], HB1.out, HS1.out⟩
  case round =>
    obtain ⟨k, o1, hk, rfl, rfl, hown6, hblk6, hw, hst⟩ := hrel
    obtain ⟨A6, cap6, rfl, hle6, hcap6⟩ := own_form' hown6
    unfold maxLen at hcap6
    have hu : v / 256 ^ k < 18446744073709551616 := Nat.lt_of_le_of_lt (Nat.div_le_self _ _) (by have := HV0.out; omega)
    have HNX := Lib.hid (show v / 256 ^ (k + 1) = v / 256 ^ k / 256 by rw [Nat.pow_succ, Nat.div_div_eq_div_mul])
    have HSN := Lib.hid (show le v (k + 1) = le v k ++ [UInt8.ofNat (v / 256 ^ k)] from rfl)
    have HZ4 := Lib.hid (show k = 4 → v / 256 ^ k = 0 from fun e => by rw [e]; exact Nat.div_eq_of_lt HV0.out)
    generalize v / 256 ^ k = u at hu HNX HSN HZ4
    have HO6 := Lib.hid hown6
    have HB6 := Lib.hid hblk6
    have HWK := Lib.hid hw
    have HST := Lib.hid hst
    clear hown6 hblk6 hw hst
    by_cases hlt : k < 4
    · have hltI : (k : Int) < 4 := by omega
      have HU := Lib.hid hu
      clear hu
      go_wp2_with (at_builtin; refine wpList_append_S _ rfl (.tmp 23) (.tmp 27) 164 rfl 5 i0 _ 1 1 Tryz.underlying164 hi0 hz0 hz1 hz2 rfl (by omega) (.slice A6 k cap6) k (bvs (le v k)) rfl (HO6.out.alloc _) (some ⟨wr.heap.size, 0, none⟩) 1 1 [.int .u8 ((u : Int) % 256)] rfl (Reads.newAt wr 5 1 1 [.int .u8 ((u : Int) % 256)] #[.int .u8 ((u : Int) % 256)] wr.heap.size rfl rfl rfl) (by simp [Value.oneCell']) (by unfold maxLen; omega) (by omega) ?_; intro v2 w2 hown hst hg hat; have HO2 := Lib.hid hown; have HS2 := Lib.hid hst; have HG2 := Lib.hid hg; have HA2 := Lib.hid hat; clear hown hst hg hat)
      go_roundw
      case rel =>
        have hbv : bvs (le v k) ++ [.int .u8 ((u : Int) % 256)] = bvs (le v (k + 1)) := by
          rw [HSN.out, bvs_app]
          simp [bvs, bv]
        have hst0 := HST.out.size
        refine ⟨k + 1, _, by omega, by go_num, by rw [HNX.out, IntKind.wrap_u64]; have h9 := HU.out; congr 1; omega, by rw [← hbv]; exact HO2.out, ?_, (HWK.out.alloc _).step HS2.out (by rw [HST.out.old p HPL.out, HC.out]; unfold only; omega), (HST.out.alloc _).grownNew (c + 1) HG2.out HB6.out⟩
        intro g hg
        rcases HA2.out with h2 | h2
        · exact HB6.out g (h2 ▸ hg)
        · rw [h2] at hg
          injection hg with hg
          simp at hg
          omega
      case measure => simp [intOf]; omega
    · have hltI : ¬ (k : Int) < 4 := by omega
      obtain rfl : k = 4 := by omega
      obtain rfl : u = 0 := HZ4.out rfl
      have hbg : wr.heap[g]? = w.heap[g]? := HST.out.block g HGL.out HOG.out
      have HCL := Lib.hid (show ∀ b, some (⟨g, 0, none⟩ : Addr) = some b → ∀ j u, (bvs bs8)[j]? = some u → wr.cell? (b.add j) = some u from fun b e j u hj => by
        injection e with e
        subst e
        have h1 : wr.cell? ((⟨g, 0, none⟩ : Addr).add j) = w.cell? ((⟨g, 0, none⟩ : Addr).add j) := World.cell?_of_block (by rw [block_of_add]; exact hbg)
        exact h1.trans (HRD.out j u hj))
      obtain ⟨ax, rfl, hrx⟩ := (Reads.of_own HO6.out.1).2 (by omega)
      have HRX := Lib.hid hrx
      have y0 : wr.cell? ⟨p, 0, none⟩ = some (.slice (some ⟨g, 0, none⟩) 8 8) := HWK.out.cell 0
      have y1 : wr.cell? ⟨p, 1, none⟩ = some (.int .i64 0) := HWK.out.cell 1
      have f0 := HWK.out.frozen 0
      clear hbg hrx
      go_wp2_with (at_builtin; refine wpList_append_grows _ rfl (.tmp 39) (.tmp 40) 164 rfl 5 i0 _ 1 1 Tryz.underlying164 hi0 hz0 hz1 hz2 rfl (by omega) (some ⟨g, 0, none⟩) 8 8 (bvs bs8) rfl (fun e => by cases e) rfl HCL.out ax 4 cap6 (bvs (le v 4)) rfl (by rw [bvs_len, le_len]) HRX.out (bvs_one _) (by omega) (by unfold maxLen; omega) (by omega) ?_; intro v2 w2 hrow hg; obtain ⟨A2, cap2, rfl, _, _⟩ := own_form' (own_band (o := o1) (c := c) hrow); have hb2 : Blk w2 p 181 #[.slice (some ⟨g, 0, none⟩) 8 8, .int .i64 0] := (hg.block p HWK.out.lt (by simp)).trans HWK.out; have z0 := hb2.cell 0; have z1 := hb2.frozen 0; simp at z0; have HRW := Lib.hid hrow; have HG2 := Lib.hid hg; have HB2 := Lib.hid hb2; clear hrow hg hb2)
      first | go_end0 | refine bodyPost_ret (v := .tuple #[]) (by simp [results, Tryz.results143, go_sem]) rfl ?_
      have hs2 : Step o (only c) w (band o1 wr.heap.size w2.heap.size c) w2 := HST.out.grown HG2.out (fun k e => by cases e)
      have hcol : band o1 wr.heap.size w2.heap.size c p = c := (hs2.old p HPL.out).trans HC.out
      have hll : (bs8 ++ le v 4).length = 8 + 4 := by rw [List.length_append, le_len]; rfl
      have ho2 := own_band (o := o1) (c := c) HRW.out
      have h4 := WrAt.setB (W := ⟨bs8, 0⟩) (l := bs8 ++ le v 4) HB2.out hcol (by decide) (by rw [hll, bvs_app]; exact ho2)
      refine ⟨rfl, _, ?_, hs2.setCell (p := ⟨p, 0, none⟩) hcol _⟩
      rw [hll] at h4
      exact h4
end Go.Proofs.YtkhieofknglknaaGreatDoor

/- The document's PutShape at the one shape (printed by gen/mkreff.py). -/
namespace Go.Proofs.YtkhieofknglknaaGreatDoor
open Go.RowKit

theorem marked_cell {W : World} {g : Nat} {C : Array Value} {t : TypeId} {fr : Nat × Nat} (h : W.heap[g]? = some (.cells C t fr)) {xs : List Value} (hx : C.toList = xs) : ∀ j u, xs[j]? = some u → W.cell? ((⟨g, 0, none⟩ : Addr).add j) = some u := by
  intro j u hj
  have e : (⟨g, 0, none⟩ : Addr).add j = ⟨g, j, none⟩ := by unfold Addr.add; split <;> simp_all
  rw [e, ← hj, ← hx, Array.getElem?_toList]
  unfold World.cell?
  simp [h]
theorem put_start {w w1 : World} {g : Nat} (hb : Below w.heap.size w w1) (hk : Blk w1 g 34 #[.int .i64 2, .int .i64 10, .int .i64 8, .int .i64 4, .int .i64 32]) : ∃ o, Blk ((w1.alloc (.cells #[.int .u8 67, .int .u8 79, .int .u8 77, .int .u8 77, .int .u8 79, .int .u8 78, .int .u8 83, .int .u8 49] 5 (8, 9))).alloc (.cells #[.slice (some ⟨w1.heap.size, 0, none⟩) 8 8, .int .i64 0] 181)) (w1.heap.size + 1) 181 #[.slice (some ⟨w1.heap.size, 0, none⟩) 8 8, .int .i64 0] ∧ o (w1.heap.size + 1) = 1 ∧ w1.heap.size < ((w1.alloc (.cells #[.int .u8 67, .int .u8 79, .int .u8 77, .int .u8 77, .int .u8 79, .int .u8 78, .int .u8 83, .int .u8 49] 5 (8, 9))).alloc (.cells #[.slice (some ⟨w1.heap.size, 0, none⟩) 8 8, .int .i64 0] 181)).heap.size ∧ o w1.heap.size ≠ 1 ∧ (∀ j u, (bvs bs8)[j]? = some u → ((w1.alloc (.cells #[.int .u8 67, .int .u8 79, .int .u8 77, .int .u8 77, .int .u8 79, .int .u8 78, .int .u8 83, .int .u8 49] 5 (8, 9))).alloc (.cells #[.slice (some ⟨w1.heap.size, 0, none⟩) 8 8, .int .i64 0] 181)).cell? ((⟨w1.heap.size, 0, none⟩ : Addr).add j) = some u) ∧ Env o w ((w1.alloc (.cells #[.int .u8 67, .int .u8 79, .int .u8 77, .int .u8 77, .int .u8 79, .int .u8 78, .int .u8 83, .int .u8 49] 5 (8, 9))).alloc (.cells #[.slice (some ⟨w1.heap.size, 0, none⟩) 8 8, .int .i64 0] 181)) ∧ Fut o ((w1.alloc (.cells #[.int .u8 67, .int .u8 79, .int .u8 77, .int .u8 77, .int .u8 79, .int .u8 78, .int .u8 83, .int .u8 49] 5 (8, 9))).alloc (.cells #[.slice (some ⟨w1.heap.size, 0, none⟩) 8 8, .int .i64 0] 181)) ∧ Keep o ((w1.alloc (.cells #[.int .u8 67, .int .u8 79, .int .u8 77, .int .u8 77, .int .u8 79, .int .u8 78, .int .u8 83, .int .u8 49] 5 (8, 9))).alloc (.cells #[.slice (some ⟨w1.heap.size, 0, none⟩) 8 8, .int .i64 0] 181)) g 34 #[.int .i64 2, .int .i64 10, .int .i64 8, .int .i64 4, .int .i64 32] := by
  have z1 : (w1.alloc (.cells #[.int .u8 67, .int .u8 79, .int .u8 77, .int .u8 77, .int .u8 79, .int .u8 78, .int .u8 83, .int .u8 49] 5 (8, 9))).heap.size = w1.heap.size + 1 := by simp
  obtain ⟨o2, h2, s2⟩ := alloc_as (fun _ => 0) w1 (.cells #[.int .u8 67, .int .u8 79, .int .u8 77, .int .u8 77, .int .u8 79, .int .u8 78, .int .u8 83, .int .u8 49] 5 (8, 9)) 0
  obtain ⟨o3, h3, s3⟩ := alloc_as o2 (w1.alloc (.cells #[.int .u8 67, .int .u8 79, .int .u8 77, .int .u8 77, .int .u8 79, .int .u8 78, .int .u8 83, .int .u8 49] 5 (8, 9))) (.cells #[.slice (some ⟨w1.heap.size, 0, none⟩) 8 8, .int .i64 0] 181) 1
  have s := s2.trans s3
  have b2 := Blk.new (w1.alloc (.cells #[.int .u8 67, .int .u8 79, .int .u8 77, .int .u8 77, .int .u8 79, .int .u8 78, .int .u8 83, .int .u8 49] 5 (8, 9))) 181 #[.slice (some ⟨w1.heap.size, 0, none⟩) 8 8, .int .i64 0]
  rw [z1] at h3 b2
  have c1 : o3 w1.heap.size = 0 := (s3.old _ (by rw [z1]; omega)).trans h2
  have hg : ((w1.alloc (.cells #[.int .u8 67, .int .u8 79, .int .u8 77, .int .u8 77, .int .u8 79, .int .u8 78, .int .u8 83, .int .u8 49] 5 (8, 9))).alloc (.cells #[.slice (some ⟨w1.heap.size, 0, none⟩) 8 8, .int .i64 0] 181)).heap[w1.heap.size]? = some (.cells #[.int .u8 67, .int .u8 79, .int .u8 77, .int .u8 77, .int .u8 79, .int .u8 78, .int .u8 83, .int .u8 49] 5 (8, 9)) := (Below.heap_alloc _ _ _ (by rw [z1]; omega)).trans (heap_alloc_new w1 _)
  exact ⟨o3, b2, h3, by simp; omega, by rw [c1]; decide, marked_cell hg rfl, ((Env.start w).below_ hb).step s id, (show Fut (fun _ => 0) w1 from fun _ _ => rfl).step s, hk.step s id, s.old g hk.lt⟩
theorem bs_add (k : Nat) : (bs8 ++ preP k) ++ le (shp k) (Int.toNat 4) = bs8 ++ preP (k + 1) := by
  rw [List.append_assoc]
  rfl
theorem bs_len (k : Nat) (h : k ≤ 5) : (bs8 ++ preP k).length ≤ 1000000000 := by
  rw [List.length_append, preP_len]
  show 8 + 4 * k ≤ _
  omega
theorem shp_ok (k : Nat) : numOk (shp k) 4 := by
  have := shp_le k
  unfold numOk
  refine ⟨by omega, by omega, ?_⟩
  show shp k < 4294967296
  omega
set_option maxRecDepth 100000 in
set_option maxHeartbeats 4000000 in
theorem refputshape_any (w : World) : Calls Tryz.prog 32 #[.agg #[.int .i64 2, .int .i64 10, .int .i64 8, .int .i64 4, .int .i64 32]] w fun e w' => e = .returned (.tuple #[.string (str superL), .int .i64 0]) ∧ Below w.heap.size w w' := by
  have HB := Lib.hid ((Below.refl w.heap.size w).alloc (Nat.le_refl _) (.cells #[.int .i64 2, .int .i64 10, .int .i64 8, .int .i64 4, .int .i64 32] 34))
  have HK := Lib.hid (Blk.new w 34 #[.int .i64 2, .int .i64 10, .int .i64 8, .int .i64 4, .int .i64 32])
  go_enter Tryz.func32, Tryz.ntmps32
  obtain ⟨x0, x1, x2, x3, x4⟩ := HK.out.five
  go_wp2_with fail
  refine (refvalid_any _).mono ?_
  rintro e w1 ⟨rfl, hb1⟩
  obtain ⟨o0, hwb, hwc, hgl, hog, hrd, henv, hfut, hk⟩ := put_start (HB.out.trans (hb1.mono HB.out.size)) (HK.out.below_ hb1)
  have HF1 := Lib.hid (xnum_first hwb hwc hgl hog hrd (shp 0) (by have := shp_le 0; omega))
  have HEN := Lib.hid henv
  have HFU := Lib.hid hfut
  have HK0 := Lib.hid hk
  clear hk hb1 x0 x1 x2 x3 x4 hwb hwc hgl hog hrd henv hfut
  have kc := Lib.run_convert_bytes_const (P := Tryz.prog) w1 164 5 #[.int .u8 67, .int .u8 79, .int .u8 77, .int .u8 77, .int .u8 79, .int .u8 78, .int .u8 83, .int .u8 49] 8 8 Tryz.underlying164 Tryz.underlying5
  go_upto_region 4 with (fail)
  clear kc
  generalize ((w1.alloc (.cells #[.int .u8 67, .int .u8 79, .int .u8 77, .int .u8 77, .int .u8 79, .int .u8 78, .int .u8 83, .int .u8 49] 5 (8, 9))).alloc (.cells #[.slice (some ⟨w1.heap.size, 0, none⟩) 8 8, .int .i64 0] 181)) = W0 at HF1 HEN HFU HK0 ⊢
  generalize w1.heap.size + 1 = p at HF1 ⊢
  obtain ⟨x0, x1, x2, x3, x4⟩ := HK0.out.1.five
  go_wp2_with fail
  refine HF1.out.mono ?_
  rintro e w2 ⟨rfl, o1, hx, hs⟩
  have HX1 := Lib.hid (show Xg o1 w w2 p (bs8 ++ preP 1) from ⟨hx, HEN.out.step hs no10, HFU.out.step hs⟩)
  have HK1 := Lib.hid (HK0.out.step hs no10)
  clear hx hs x0 x1 x2 x3 x4
  obtain ⟨x0, x1, x2, x3, x4⟩ := HK1.out.1.five
  go_wp2_with fail
  refine (xnum_ok HX1.out (shp 1) 4 (shp_ok 1) (by have := shp_le 1; omega) (bs_len 1 (by omega))).mono ?_
  rintro e w3 ⟨rfl, o2, hx, hs⟩
  rw [bs_add 1] at hx
  have HX2 := Lib.hid hx
  have HK2 := Lib.hid (HK1.out.step hs no10)
  clear hx hs x0 x1 x2 x3 x4
  obtain ⟨x0, x1, x2, x3, x4⟩ := HK2.out.1.five
  go_wp2_with fail
  refine (xnum_ok HX2.out (shp 2) 4 (shp_ok 2) (by have := shp_le 2; omega) (bs_len 2 (by omega))).mono ?_
  rintro e w4 ⟨rfl, o3, hx, hs⟩
  rw [bs_add 2] at hx
  have HX3 := Lib.hid hx
  have HK3 := Lib.hid (HK2.out.step hs no10)
  clear hx hs x0 x1 x2 x3 x4
  obtain ⟨x0, x1, x2, x3, x4⟩ := HK3.out.1.five
  go_wp2_with fail
  refine (xnum_ok HX3.out (shp 3) 4 (shp_ok 3) (by have := shp_le 3; omega) (bs_len 3 (by omega))).mono ?_
  rintro e w5 ⟨rfl, o4, hx, hs⟩
  rw [bs_add 3] at hx
  have HX4 := Lib.hid hx
  have HK4 := Lib.hid (HK3.out.step hs no10)
  clear hx hs x0 x1 x2 x3 x4
  obtain ⟨x0, x1, x2, x3, x4⟩ := HK4.out.1.five
  go_wp2_with fail
  refine (xnum_ok HX4.out (shp 4) 4 (shp_ok 4) (by have := shp_le 4; omega) (bs_len 4 (by omega))).mono ?_
  rintro e w6 ⟨rfl, o5, hx, hs⟩
  rw [bs_add 4] at hx
  have HX5 := Lib.hid hx
  have HK5 := Lib.hid (HK4.out.step hs no10)
  clear hx hs x0 x1 x2 x3 x4
  obtain ⟨A, cap, c0, hcv⟩ := HX5.out.conv
  have HSB := Lib.hid (show str (bs8 ++ preP 5) = str superT from rfl)
  rw [HSB.out] at hcv
  have HZ := Lib.hid (show (str superT).size ≤ 60 by rw [str_size, superT_len]; omega)
  have HF := Lib.hid (show str (stampL (str superT).data.toList 64) = str superL by rw [str_list]; rfl)
  generalize (bs8 ++ preP 5).length = L at c0 hcv
  generalize str superT = Q at hcv HZ HF
  go_wp2_with fail
  refine (xstamp_any Q HZ.out w6).mono ?_
  rintro e w7 ⟨rfl, hb7⟩
  rw [HF.out]
  have HB7 := Lib.hid (HX5.out.env.low.trans (hb7.mono HX5.out.env.low.size))
  clear hb7
  go_wp2_with fail
  go_ret2
  exact ⟨rfl, HB7.out⟩
end Go.Proofs.YtkhieofknglknaaGreatDoor

/- Apply and Run, plain. -/
namespace Go.Proofs.YtkhieofknglknaaGreatDoor
open Go.RowKit

structure ApR where
  n : Nat
  e : Int
  D : Dk
def tornE (e : Int) : Bool := decide (e = 6 ∨ e = 4)
def applyGo (node : Int) (epoch : Nat) : List Im → Nat → Dk → ApR
  | [], n, D => ⟨n, 0, D⟩
  | i :: l, n, D => if (D.load i.block).2 ≠ 0 ∧ tornE (D.load i.block).2 = false then ⟨0, (D.load i.block).2, D⟩
    else if tornE (D.load i.block).2 = false ∧ i.ver ≤ (D.load i.block).1.ver then applyGo node epoch l n D
    else if (D.store node epoch i).1 ≠ 0 then ⟨0, (D.store node epoch i).1, (D.store node epoch i).2⟩
    else applyGo node epoch l (n + 1) (D.store node epoch i).2
def applyR (D : Dk) (node : Int) (epoch : Nat) (l : List Im) : ApR :=
  if (applyGo node epoch l 0 D).e ≠ 0 then applyGo node epoch l 0 D else if (applyGo node epoch l 0 D).n = 0 then applyGo node epoch l 0 D
  else if ((applyGo node epoch l 0 D).D.barrier node epoch).1 ≠ 0 then ⟨0, ((applyGo node epoch l 0 D).D.barrier node epoch).1, ((applyGo node epoch l 0 D).D.barrier node epoch).2⟩
  else ⟨(applyGo node epoch l 0 D).n, 0, ((applyGo node epoch l 0 D).D.barrier node epoch).2⟩
/-- a log of an epoch is done again, by another node -/
def runR (D : Dk) (node : Int) (of_ : Nat) (by_ : Int) (epoch : Nat) : ApR :=
  if D.headE node ≠ 0 then ⟨0, D.headE node, D⟩ else if D.headI node = false ∨ (D.headH node).epoch ≠ of_ then ⟨0, 0, D⟩
  else if D.scanE node ≠ 0 then ⟨0, D.scanE node, D⟩
  else if (applyR D by_ epoch (planOf (D.scan node))).e ≠ 0 then ⟨0, (applyR D by_ epoch (planOf (D.scan node))).e, (applyR D by_ epoch (planOf (D.scan node))).D⟩
  else if ((applyR D by_ epoch (planOf (D.scan node))).D.write by_ epoch (logAt node).1 (str (zer 64))).1 ≠ 0 then ⟨0, ((applyR D by_ epoch (planOf (D.scan node))).D.write by_ epoch (logAt node).1 (str (zer 64))).1, ((applyR D by_ epoch (planOf (D.scan node))).D.write by_ epoch (logAt node).1 (str (zer 64))).2⟩
  else if (((applyR D by_ epoch (planOf (D.scan node))).D.write by_ epoch (logAt node).1 (str (zer 64))).2.barrier by_ epoch).1 ≠ 0 then ⟨0, (((applyR D by_ epoch (planOf (D.scan node))).D.write by_ epoch (logAt node).1 (str (zer 64))).2.barrier by_ epoch).1, (((applyR D by_ epoch (planOf (D.scan node))).D.write by_ epoch (logAt node).1 (str (zer 64))).2.barrier by_ epoch).2⟩
  else ⟨(applyR D by_ epoch (planOf (D.scan node))).n, 0, (((applyR D by_ epoch (planOf (D.scan node))).D.write by_ epoch (logAt node).1 (str (zer 64))).2.barrier by_ epoch).2⟩
theorem Tame.store {D : Dk} {k : Nat} (h : Tame D k) (n : Int) (e : Nat) (i : Im) : Tame (D.store n e i).2 (k + 2) := by
  unfold Dk.store
  split
  · exact h.mono (by omega)
  · split
    · exact h.mono (by omega)
    · rename_i hr
      have hr : i.right := Classical.byContradiction hr
      exact (h.write _ _ _ _).mono (by rw [str_size, blkL_len hr]; omega)
theorem applyGo_cons (node : Int) (epoch : Nat) (i : Im) (l : List Im) (n : Nat) (D : Dk) : applyGo node epoch (i :: l) n D = if (D.load i.block).2 ≠ 0 ∧ tornE (D.load i.block).2 = false then ⟨0, (D.load i.block).2, D⟩
    else if tornE (D.load i.block).2 = false ∧ i.ver ≤ (D.load i.block).1.ver then applyGo node epoch l n D
    else if (D.store node epoch i).1 ≠ 0 then ⟨0, (D.store node epoch i).1, (D.store node epoch i).2⟩
    else applyGo node epoch l (n + 1) (D.store node epoch i).2 := rfl
end Go.Proofs.YtkhieofknglknaaGreatDoor
