/- RedoPlans: every records, and every images that are stored where they are newer; what is handed in stays; lists kept, marked, grown (printed by gen/mkplansa.py). -/
import Derived.Test.YtkhieofknglknaaGreatDoorKPlansK
namespace Go.Proofs.YtkhieofknglknaaGreatDoor
open Go.RowKit

/-- records as the document has them -/
def xrecs (rs : List Rc) (vs : List Value) : List Value := (rs.zip vs).flatMap (fun x => [.int .u64 x.1.epoch, .int .u64 x.1.lsn, x.2])
theorem xrecs_one {rs : List Rc} {vs : List Value} (hl : vs.length = rs.length) {j : Nat} {r : Rc} {v : Value} (hr : rs[j]? = some r) (hv : vs[j]? = some v) : xrecs (rs.take (j + 1)) (vs.take (j + 1)) = xrecs (rs.take j) (vs.take j) ++ [.int .u64 r.epoch, .int .u64 r.lsn, v] := by
  unfold xrecs
  have e1 : rs.take (j + 1) = rs.take j ++ [r] := by rw [List.take_add_one, hr]; rfl
  have e2 : vs.take (j + 1) = vs.take j ++ [v] := by rw [List.take_add_one, hv]; rfl
  have hl : (rs.take j).length = (vs.take j).length := by rw [List.length_take, List.length_take, hl]
  rw [e1, e2, List.zip_append hl, List.flatMap_append]
  rfl
theorem info_xrec : (Tryz.prog.info? 30).map (fun i => (i.zero, i.size, i.bytes)) = some (some (.agg #[.int .u64 0, .int .u64 0, .slice none 0 0]), 3, 40) := by kernel_rfl
/-- while the records are laid anew -/
structure Pl1 (W : World) (rs : List Rc) (vs : List Value) (j : Nat) (V : Value) (o : Nat → Nat) (w : World) : Prop where
  own : OwnS o 50 w 30 3 V j (xrecs (rs.take j) (vs.take j))
  few : ∀ r ∈ rs.take j, LightI r.images 30 3000
  fut : Fut o w
  step : Step (fun _ => 0) nz W o w
section
variable {W w w' w7 : World} {rs : List Rc} {vs : List Value} {j : Nat} {V V' : Value} {o o7 : Nat → Nat} {A0 : Option Addr} {r : Rc} {v : Value}
theorem Pl1.below_ (h : Pl1 W rs vs j V o w) (hb : Below w.heap.size w w') : Pl1 W rs vs j V o w' :=
  ⟨h.own.below_ hb, h.few, h.fut.below hb, h.step.trans (Step.of_below o nz hb)⟩
theorem Pl1.low (h : Pl1 W rs vs j V o w) : Below W.heap.size W w := h.step.below (fun _ _ h => h rfl) (Nat.le_refl _)
theorem Pl1.next (h : Pl1 W rs vs j V o w) (hl : vs.length = rs.length) (hr : rs[j]? = some r) (hv : vs[j]? = some v) (hf : LightI r.images 30 3000) (hown : OwnS o7 50 w7 30 3 V' (j + 1) (xrecs (rs.take j) (vs.take j) ++ [.int .u64 r.epoch, .int .u64 r.lsn, v])) (hs : Step o (only 50) (w.alloc (.cells #[.int .u64 r.epoch, .int .u64 r.lsn, v] 30)).drew o7 w7) : Pl1 W rs vs (j + 1) V' o7 w7 := by
  have h1 := (h.below_ ((Below.refl _ _).alloc (Nat.le_refl _) (.cells #[.int .u64 r.epoch, .int .u64 r.lsn, v] 30)))
  refine ⟨by rw [xrecs_one hl hr hv]; exact hown, fun x hx => ?_, (Fut.drew h1.fut).step hs, (h1.step.drew).trans (hs.mono (fun y hy => by unfold only at hy; unfold nz; omega))⟩
  rw [List.take_add_one, hr] at hx
  rcases List.mem_append.1 hx with hx | hx
  · exact h.few x hx
  · rw [List.mem_singleton.1 (show x ∈ [r] from hx)]
    exact hf
end
/-- while images are applied -/
structure Pl2 (W : World) (p r g pb : Nat) (cs : Array Value) (v v' : Value) (s s' : List Value) (L : List (List Im)) (k : Nat) (D : Dk) (R : RF) (o : Nat → Nat) (w : World) : Prop where
  disk : DiskAt o 1 w p D
  ref : RFAt o 10 w r R
  sim : Sim D R
  left : R.leftOk
  mild : Mild R (1 + 60 * k)
  tame : Tame D (49 + 60 * k)
  lay : Keep o w g 36 #[.int .i64 2, .int .i64 10, .int .i64 8, .int .i64 4, .int .i64 32]
  book : BookIm o w pb cs L v v' s s'
  one : L.length = 1
  fut : Fut o w
  step : Step (fun _ => 0) nz W o w
section
variable {W w w' w1 w2 : World} {p r g pb : Nat} {cs : Array Value} {v v' : Value} {s s' : List Value} {L : List (List Im)} {k k' : Nat} {D D' : Dk} {R R' : RF} {o o' o1 : Nat → Nat}
theorem Pl2.move (h : Pl2 W p r g pb cs v v' s s' L k D R o w) (hs : Step o (fun _ => False) w o' w') : Pl2 W p r g pb cs v v' s s' L k D R o' w' :=
  ⟨h.disk.step hs (fun _ _ _ => id), h.ref.step hs (fun _ _ => id), h.sim, h.left, h.mild, h.tame, h.lay.step hs id, h.book.step hs (by have := h.one; omega) (fun _ _ _ => id), h.one, h.fut.step hs, h.step.trans (hs.mono (fun _ h => h.elim))⟩
theorem Pl2.below_ (h : Pl2 W p r g pb cs v v' s s' L k D R o w) (hb : Below w.heap.size w w') : Pl2 W p r g pb cs v v' s s' L k D R o w' := h.move (Step.of_below o _ hb)
theorem Pl2.low (h : Pl2 W p r g pb cs v v' s s' L k D R o w) : Below W.heap.size W w := h.step.below (fun _ _ h => h rfl) (Nat.le_refl _)
/-- the real disk has gone on -/
theorem Pl2.one_ (h : Pl2 W p r g pb cs v v' s s' L k D R o w) (hs : Step o (six 1) w o' w') : RFAt o' 10 w' r R ∧ Keep o' w' g 36 #[.int .i64 2, .int .i64 10, .int .i64 8, .int .i64 4, .int .i64 32] ∧ BookIm o' w' pb cs L v v' s s' ∧ Fut o' w' ∧ Step (fun _ => 0) nz W o' w' :=
  ⟨h.ref.step hs (by unfold three six; omega), h.lay.step hs (no_six (by omega)), h.book.step hs (by have := h.one; omega) (by unfold six; omega), h.fut.step hs, h.step.trans (hs.mono (nz_six 1 (by omega)))⟩
theorem Pl2.next (h : Pl2 W p r g pb cs v v' s s' L k D R o w) (h1 : DiskAt o' 1 w' p D') (hs : Step o (six 1) w o' w') (h2 : RFAt o1 10 w1 r R') (hs1 : Step o' (logL 10) w' o1 w1) (hsim : Sim D' R') (hl : R'.leftOk) (hm : Mild R' (1 + 60 * k')) (ht : Tame D' (49 + 60 * k')) : Pl2 W p r g pb cs v v' s s' L k' D' R' o1 w1 := by
  obtain ⟨a, b, c, d, e⟩ := h.one_ hs
  exact ⟨h1.step hs1 (by unfold logL; omega), h2, hsim, hl, hm, ht, b.step hs1 (by unfold logL; omega), c.step hs1 (by have := h.one; omega) (by unfold logL; omega), h.one, d.step hs1, e.trans (hs1.mono (nz_logL 10 (by omega)))⟩
end
set_option maxRecDepth 100000 in
set_option maxHeartbeats 16000000 in
theorem redoPlans_any (rs : List Rc) (vs : List Value) (f s : List Im) (W : World) (A0 A1 A2 : Option Addr) (cap0 cap1 cap2 : Nat) (hrd0 : RecsRd W A0 rs vs) (hrd1 : Reads W 3 A1 f.length (imcells f)) (hrd2 : Reads W 3 A2 s.length (imcells s)) (hin0 : ∀ r ∈ rs, RcIn r) (hin1 : ∀ i ∈ f, ImIn i) (hin2 : ∀ i ∈ s, ImIn i) (hl0 : rs.length ≤ maxLen) (hl1 : f.length ≤ maxLen) (hl2 : s.length ≤ maxLen) :
    Calls Tryz.prog 3 #[.slice A0 rs.length cap0, .slice A1 f.length cap1, .slice A2 s.length cap2] W fun e w' => e = .returned (.bool true) ∧ Below W.heap.size W w' := by
  have HR0 := Lib.hid hrd0
  have HR1 := Lib.hid hrd1
  have HR2 := Lib.hid hrd2
  have HI0 := Lib.hid hin0
  have HI1 := Lib.hid hin1
  have HI2 := Lib.hid hin2
  have HL1 := Lib.hid hl1
  have HL2 := Lib.hid hl2
  have hl0I : (rs.length : Int) ≤ 9223372036854775807 := by unfold maxLen at hl0; omega
  clear hrd0 hrd1 hrd2 hin0 hin1 hin2 hl0 hl1 hl2
  have HBW := Lib.hid (Below.refl W.heap.size W)
  by_cases c20 : (20 : Int) < (rs.length : Int)
  · go_enter Tryz.func3, Tryz.ntmps3
    go_wp2_with fail
    refine (alive13_any (o := fun _ => 0) (fun _ _ => rfl)).mono ?_
    rintro e w9 ⟨rfl, o9, hs⟩
    have HB9 := Lib.hid (HBW.out.trans ((hs.below (fun _ _ h => h rfl) (Nat.le_refl _)).mono HBW.out.size))
    clear hs
    go_wp2_with fail
    go_ret
    exact ⟨rfl, HB9.out⟩
  have HN0 := Lib.hid (show rs.length ≤ 20 by omega)
  go_enter Tryz.func3, Tryz.ntmps3
  go_wp2_with fail
  refine (light_im2 f W A1 cap1 30 6000 HR1.out HL1.out (fun i hi => (HI1.out i hi).2.1) (by omega)).mono ?_
  rintro e w0 ⟨b, rfl, hb4, hb0⟩
  have HB0 := Lib.hid hb0
  clear hb0
  cases b with
  | false =>
    go_wp2_with fail
    refine (alive13_any (o := fun _ => 0) (fun _ _ => rfl)).mono ?_
    rintro e w9 ⟨rfl, o9, hs⟩
    have HB9 := Lib.hid (HB0.out.trans ((hs.below (fun _ _ h => h rfl) (Nat.le_refl _)).mono HB0.out.size))
    clear hs
    go_wp2_with fail
    go_ret
    exact ⟨rfl, HB9.out⟩
  | true =>
  have HN1 := Lib.hid (hb4 rfl)
  clear hb4
  go_wp2_with fail
  refine (light_im2 s w0 A2 cap2 30 6000 (HR2.out.below' (by omega) HB0.out) HL2.out (fun i hi => (HI2.out i hi).2.1) (by omega)).mono ?_
  rintro e w1 ⟨b, rfl, hb4, hb1⟩
  have HB1 := Lib.hid (HB0.out.trans (hb1.mono HB0.out.size))
  clear hb1
  cases b with
  | false =>
    go_wp2_with fail
    refine (alive13_any (o := fun _ => 0) (fun _ _ => rfl)).mono ?_
    rintro e w9 ⟨rfl, o9, hs⟩
    have HB9 := Lib.hid (HB1.out.trans ((hs.below (fun _ _ h => h rfl) (Nat.le_refl _)).mono HB1.out.size))
    clear hs
    go_wp2_with fail
    go_ret
    exact ⟨rfl, HB9.out⟩
  | true =>
  have HN2 := Lib.hid (hb4 rfl)
  have HP1 := Lib.hid (show Pl1 W rs vs 0 (.slice none 0 0) (fun _ => 0) w1 from ⟨OwnS.nil _ _ _ _ _, (fun r hr => by simp at hr), fun _ _ => rfl, Step.of_below (fun _ => 0) nz HB1.out⟩)
  clear hb4 HB0 HBW HB1
  obtain ⟨i0, hi0, hz0, hz1, hz2⟩ := info_parts info_xrec
  have HI9 := Lib.hid hi0
  have HZ0 := Lib.hid hz0
  have HZ1 := Lib.hid hz1
  have HZ2 := Lib.hid hz2
  clear hi0 hz0 hz1 hz2
  go_wp2_with fail
  go_loopw [7, 8] (fun t7 t8 wr => ∃ (j : Nat) (A : Option Addr) (cap : Nat) (o : Nat → Nat), j ≤ rs.length ∧ t7 = .slice A j cap ∧ t8 = .int .i64 j ∧ Pl1 W rs vs j (.slice A j cap) o wr) (fun _ t8 _ => rs.length - (intOf t8).toNat)
  case atStart => exact ⟨0, none, 0, fun _ => 0, by omega, rfl, rfl, HP1.out⟩
  case round =>
    obtain ⟨j, A, cap, o1, hj, rfl, rfl, hpl⟩ := hrel
    have HP := Lib.hid hpl
    clear hpl HP1
    by_cases hlt : j < rs.length
    · have hltI : (j : Int) < (rs.length : Int) := by omega
      obtain ⟨r, hr⟩ : ∃ r, rs[j]? = some r := ⟨_, List.getElem?_eq_getElem hlt⟩
      have hlv : j < vs.length := by rw [HR0.out.len]; exact hlt
      obtain ⟨v, hv⟩ : ∃ v, vs[j]? = some v := ⟨_, List.getElem?_eq_getElem hlv⟩
      have HRI := Lib.hid (HI0.out r (List.mem_of_getElem? hr))
      have HXR := Lib.hid hr
      have HXV := Lib.hid hv
      obtain ⟨B, cp, rfl, hri⟩ := HR0.out.ims j r v hr hv
      obtain ⟨ad, rfl, y0, y1, y2⟩ := (HR0.out.below_ HP.out.low).row2 hr hv
      have HRIM := Lib.hid hri
      have hj20 : j < 20 := by have := HN0.out; omega
      clear hri hr hlv hv
      go_wp2_with fail
      refine (light_im2 r.images wr B cp 30 3000 (HRIM.out.below' (by omega) HP.out.low) HRI.out.2.2.1 (fun i hi => (HRI.out.2.2.2 i hi).2.1) (by omega)).mono ?_
      rintro e w2 ⟨b, rfl, hb4, hb2⟩
      have HP2 := Lib.hid (HP.out.below_ hb2)
      clear hb2
      cases b with
      | false =>
        go_wp2_with fail
        refine (alive13_any (o := fun _ => 0) (fun _ _ => rfl)).mono ?_
        rintro e w9 ⟨rfl, o9, hs⟩
        have HB9 := Lib.hid (HP2.out.low.trans ((hs.below (fun _ _ h => h rfl) (Nat.le_refl _)).mono HP2.out.low.size))
        clear hs
        go_wp2_with fail
        go_ret
        exact ⟨rfl, HB9.out⟩
      | true =>
      have HN3 := Lib.hid (hb4 rfl)
      clear hb4 y0 y1 y2 HP
      obtain ⟨ad', had', y0, y1, y2⟩ := (HR0.out.below_ HP2.out.low).row2 HXR.out HXV.out
      injection had' with had'
      subst had'
      have dn0 := World.new_ne w2 _ y0
      have dn1 := World.new_ne w2 _ y1
      have dn2 := World.new_ne w2 _ y2
      have HOA := Lib.hid (HP2.out.own.alloc (.cells #[.int .u64 r.epoch, .int .u64 r.lsn, .slice B r.images.length cp] 30)).drew
      have HRA := Lib.hid (Reads.newAt w2 30 3 1 [.int .u64 r.epoch, .int .u64 r.lsn, .slice B r.images.length cp] #[.int .u64 r.epoch, .int .u64 r.lsn, .slice B r.images.length cp] w2.heap.size rfl rfl rfl).drew
      have HONE := Lib.hid (show ∀ u ∈ [Value.int .u64 r.epoch, .int .u64 r.lsn, .slice B r.images.length cp], u.oneCell' = true by simp [Value.oneCell'])
      have HML := Lib.hid (show j + 1 ≤ maxLen by unfold maxLen; omega)
      have HBY := Lib.hid (show (j + 1) * 40 ≤ 140737488355328 by omega)
      go_upto_region 9 with (fail)
      go_region_held3 (fun w' => w'.cell? (ad.add (j * 3)) = some (.int .u64 r.epoch) ∧ w'.cell? ⟨(ad.add (j * 3)).block, (ad.add (j * 3)).off + 1, none⟩ = some (.int .u64 r.lsn) ∧ w'.cell? ⟨(ad.add (j * 3)).block, (ad.add (j * 3)).off + 2, none⟩ = some (.slice B r.images.length cp))
        (first | exact ⟨y0, y1, y2⟩ | exact KX | go_keep)
        (first | (refine step_append_S _ rfl (.tmp 52) (.tmp 69) 26 rfl 30 i0 _ 3 40 Tryz.underlying26 HI9.out HZ0.out HZ1.out HZ2.out rfl (by decide) (.slice A j cap) j (xrecs (rs.take j) (vs.take j)) rfl HOA.out (some ⟨w2.heap.size, 0, none⟩) 1 1 [.int .u64 r.epoch, .int .u64 r.lsn, .slice B r.images.length cp] rfl HRA.out HONE.out HML.out HBY.out ?_; intro v7 w7 hown7 hst7 hgr7 hat7; have HP3 := Lib.hid (HP2.out.next HR0.out.len HXR.out HXV.out HN3.out hown7 hst7); have KX : w7.cell? (ad.add (j * 3)) = some (.int .u64 r.epoch) ∧ w7.cell? ⟨(ad.add (j * 3)).block, (ad.add (j * 3)).off + 1, none⟩ = some (.int .u64 r.lsn) ∧ w7.cell? ⟨(ad.add (j * 3)).block, (ad.add (j * 3)).off + 2, none⟩ = some (.slice B r.images.length cp) := (by obtain ⟨ad5, had5, k0, k1, k2⟩ := (HR0.out.below_ HP3.out.low).row2 HXR.out HXV.out; injection had5 with had5; subst had5; exact ⟨k0, k1, k2⟩); obtain ⟨A7, cap7, hv7, _, _⟩ := own_form' hown7; subst hv7))
      clear hown7 hst7 hgr7 hat7 y0 y1 y2 dn0 dn1 dn2 KX HP2 HOA HRA
      go_wp2_with fail
      go_roundw
      case rel => exact ⟨j + 1, A7, cap7, _, by omega, rfl, by go_num, HP3.out⟩
      case measure => simp [intOf]; omega
    · have hltI : ¬ (j : Int) < (rs.length : Int) := by omega
      obtain rfl : j = rs.length := by omega
      clear hlt hj hl0I
      have hall : rs.take rs.length = rs := List.take_of_length_le (Nat.le_refl _)
      have hall2 : vs.take rs.length = vs := List.take_of_length_le (by rw [HR0.out.len]; exact Nat.le_refl _)
      have HFEW := Lib.hid (show ∀ r ∈ rs, LightI r.images 30 3000 from fun r hr => HP.out.few r (by rw [hall]; exact hr))
      have HM := Lib.hid (show OwnS o1 50 wr 30 3 (.slice A rs.length cap) rs.length (xrecs rs vs) by have := HP.out.own; rw [hall, hall2] at this; exact this)
      clear hall hall2
      go_wp2_with fail
      refine (ready_any (o := o1) (cd := 1) (cr := 10) HP.out.fut (by omega) (by omega)).mono ?_
      rintro e w3 ⟨p, r, rfl, o3, hd, hrf, hs⟩
      have hst := HP.out.step.trans (hs.mono nz_ready)
      have hf3 := HP.out.fut.step hs
      have HM3 := Lib.hid (HM.out.step hs (by unfold readyC six logL; omega))
      have HX := Lib.hid (Keep.new hf3 36 #[.int .i64 2, .int .i64 10, .int .i64 8, .int .i64 4, .int .i64 32])
      have HD := Lib.hid (hd.alloc (.cells #[.int .i64 2, .int .i64 10, .int .i64 8, .int .i64 4, .int .i64 32] 36))
      have HRF := Lib.hid ((RFAt.of hrf).alloc (.cells #[.int .i64 2, .int .i64 10, .int .i64 8, .int .i64 4, .int .i64 32] 36))
      have HF := Lib.hid (hf3.alloc (.cells #[.int .i64 2, .int .i64 10, .int .i64 8, .int .i64 4, .int .i64 32] 36))
      have HS := Lib.hid (hst.alloc (.cells #[.int .i64 2, .int .i64 10, .int .i64 8, .int .i64 4, .int .i64 32] 36))
      have HM4 := Lib.hid (HM3.out.alloc (.cells #[.int .i64 2, .int .i64 10, .int .i64 8, .int .i64 4, .int .i64 32] 36))
      clear hd hrf hs hst hf3 HP HM HM3
      go_upto_region 13 with (fail)
      generalize w3.alloc (.cells #[.int .i64 2, .int .i64 10, .int .i64 8, .int .i64 4, .int .i64 32] 36) = W1 at HX HD HRF HF HS HM4 ⊢
      generalize w3.heap.size = g at HX ⊢
      obtain ⟨o4, hc4, hs4⟩ := alloc_as o3 W1 (.cells #[.slice none 0 0, .slice none 0 0, .slice none 0 0, .slice none 0 0, .slice none 0 0, .slice none 0 0, .slice none 0 0, .slice none 0 0, .slice none 0 0, .slice none 0 0, .slice none 0 0, .slice none 0 0, .slice none 0 0, .slice none 0 0, .slice none 0 0, .slice none 0 0, .slice none 0 0, .slice none 0 0, .slice none 0 0, .slice none 0 0, .slice none 0 0, .slice none 0 0, .slice none 0 0, .slice none 0 0, .slice none 0 0, .slice none 0 0, .slice none 0 0, .slice none 0 0, .slice none 0 0, .slice none 0 0] 56) 20
      have HBK := Lib.hid (BookIm.empty o4 (W1.alloc (.cells #[.slice none 0 0, .slice none 0 0, .slice none 0 0, .slice none 0 0, .slice none 0 0, .slice none 0 0, .slice none 0 0, .slice none 0 0, .slice none 0 0, .slice none 0 0, .slice none 0 0, .slice none 0 0, .slice none 0 0, .slice none 0 0, .slice none 0 0, .slice none 0 0, .slice none 0 0, .slice none 0 0, .slice none 0 0, .slice none 0 0, .slice none 0 0, .slice none 0 0, .slice none 0 0, .slice none 0 0, .slice none 0 0, .slice none 0 0, .slice none 0 0, .slice none 0 0, .slice none 0 0, .slice none 0 0] 56)) W1.heap.size ⟨Blk.new _ _ _, hc4⟩)
      have HX2 := Lib.hid (HX.out.step hs4 id)
      have HD2 := Lib.hid (HD.out.step hs4 (fun _ _ _ => id))
      have HRF2 := Lib.hid (HRF.out.step hs4 (fun _ _ => id))
      have HF2 := Lib.hid (show Fut o4 (W1.alloc (.cells #[.slice none 0 0, .slice none 0 0, .slice none 0 0, .slice none 0 0, .slice none 0 0, .slice none 0 0, .slice none 0 0, .slice none 0 0, .slice none 0 0, .slice none 0 0, .slice none 0 0, .slice none 0 0, .slice none 0 0, .slice none 0 0, .slice none 0 0, .slice none 0 0, .slice none 0 0, .slice none 0 0, .slice none 0 0, .slice none 0 0, .slice none 0 0, .slice none 0 0, .slice none 0 0, .slice none 0 0, .slice none 0 0, .slice none 0 0, .slice none 0 0, .slice none 0 0, .slice none 0 0, .slice none 0 0] 56)) from HF.out.step hs4)
      have HS2 := Lib.hid (HS.out.trans (hs4.mono (fun _ h => h.elim)))
      have HM5 := Lib.hid (HM4.out.step hs4 id)
      clear hc4 hs4 HX HD HRF HF HS HM4
      go_upto_region 14 with (fail)
      generalize W1.alloc (.cells #[.slice none 0 0, .slice none 0 0, .slice none 0 0, .slice none 0 0, .slice none 0 0, .slice none 0 0, .slice none 0 0, .slice none 0 0, .slice none 0 0, .slice none 0 0, .slice none 0 0, .slice none 0 0, .slice none 0 0, .slice none 0 0, .slice none 0 0, .slice none 0 0, .slice none 0 0, .slice none 0 0, .slice none 0 0, .slice none 0 0, .slice none 0 0, .slice none 0 0, .slice none 0 0, .slice none 0 0, .slice none 0 0, .slice none 0 0, .slice none 0 0, .slice none 0 0, .slice none 0 0, .slice none 0 0] 56) = W2 at HBK HX2 HD2 HRF2 HF2 HS2 HM5 ⊢
      generalize W1.heap.size = pb at HBK ⊢
      have HLW := Lib.hid (HS2.out.below (fun _ _ h => h rfl) (Nat.le_refl _))
      have hlp := plan_len (k := 30) (rs := rs) (fun r hr => by have := (HFEW.out r hr).1; omega)
      have hlp2 : (planOf rs).length ≤ 600 := by have := HN0.out; omega
      go_wp2_with fail
      refine (eplan_any o4 1000 rs vs _ cap0 W2 (HR0.out.below_ HLW.out) (by have := HN0.out; omega) (fun r hr => ⟨by have := (HFEW.out r hr).1; omega, fun i hi => ⟨by have := (HFEW.out r hr).2 i hi; omega, ((HI0.out r hr).2.2.2 i hi).2.2⟩⟩)).mono ?_
      rintro e w5 ⟨A5, cap5, rfl, how, hb⟩
      have hs5 : Step o4 (fun _ => False) W2 (band o4 W2.heap.size w5.heap.size 1000) w5 := Step.of_below_band o4 _ 1000 hb
      generalize band o4 W2.heap.size w5.heap.size 1000 = o5 at how hs5
      have HW5 := Lib.hid how
      have HBK5 := Lib.hid (HBK.out.step hs5 (Nat.zero_le _) (fun _ _ _ => id))
      have HX5 := Lib.hid (HX2.out.step hs5 id)
      have HD5 := Lib.hid (HD2.out.step hs5 (fun _ _ _ => id))
      have HRF5 := Lib.hid (HRF2.out.step hs5 (fun _ _ => id))
      have HF5 := Lib.hid (HF2.out.step hs5)
      have HS5 := Lib.hid (HS2.out.trans (hs5.mono (fun _ h => h.elim)))
      have HM6 := Lib.hid (HM5.out.step hs5 id)
      clear how hb hs5 HBK HX2 HD2 HRF2 HF2 HS2 HM5 HLW hlp
      have HLP := Lib.hid hlp2
      clear hlp2
      go_wp2_with fail
      refine (bimgs_any o5 w5 pb _ _ _ [] [] [] (planOf rs) A5 cap5 HBK5.out.book ((HBK5.out.book.1.cell 10).trans HBK5.out.c10) ((HBK5.out.book.1.cell 11).trans HBK5.out.c11) HBK5.out.k10 HBK5.out.k11 (OwnW.of_own HW5.out) (by have := HLP.out; omega) (by decide)).mono ?_
      rintro e w6 ⟨rfl, o6, u, u', v2, v2', hbk, hk1, hk2, hs6⟩
      have HBK6 := Lib.hid (HBK5.out.one hbk hk1 hk2)
      have HW6 := Lib.hid (HW5.out.step hs6 (by decide))
      have HX6 := Lib.hid (HX5.out.step hs6 (by decide))
      have HD6 := Lib.hid (HD5.out.step hs6 (by intro x h1 h2; simp only [List.length_nil]; omega))
      have HRF6 := Lib.hid (HRF5.out.step hs6 (by intro x h1; unfold three at h1; simp only [List.length_nil]; omega))
      have HF6 := Lib.hid (HF5.out.step hs6)
      have HS6 := Lib.hid (HS5.out.trans (hs6.mono (by intro x h1; simp only [List.length_nil] at h1; unfold nz; omega)))
      have HM7 := Lib.hid (HM6.out.step hs6 (by decide))
      clear hbk hk1 hk2 hs6 HBK5 HW5 HX5 HD5 HRF5 HF5 HS5 HM6
      have HLW := Lib.hid (HS6.out.below (fun _ _ h => h rfl) (Nat.le_refl _))
      have HXR := Lib.hid (show RecsRd w6 A rs vs from ⟨HR0.out.len, Reads.of_own HM7.out.1, (HR0.out.below_ HLW.out).ims⟩)
      go_wp2_with fail
      refine (refplan_any o6 70 rs vs A cap w6 HXR.out (by have := HN0.out; omega) (fun r hr => by have := (HFEW.out r hr).1; omega)).mono ?_
      rintro e w7 ⟨A7, cap7, rfl, how, hb⟩
      have hs7 : Step o6 (fun _ => False) w6 (band o6 w6.heap.size w7.heap.size 70) w7 := Step.of_below_band o6 _ 70 hb
      generalize band o6 w6.heap.size w7.heap.size 70 = o7 at how hs7
      have HQ7 := Lib.hid (Reads.of_own how.1)
      have HW7 := Lib.hid (Reads.of_own (HW6.out.step hs7 id).1)
      have HPL := Lib.hid (show Pl2 W p r g pb _ v2 v2' [u] [u'] [planOf rs] 0 readyD (RF.of readyR) o7 w7 from
        ⟨HD6.out.step hs7 (fun _ _ _ => id), HRF6.out.step hs7 (fun _ _ => id), ready_sim.1, (show (0 : Int) ≤ 9223372036854775807 by decide), ready_sim.2, ready_facts.1.tame, HX6.out.step hs7 id, HBK6.out.step hs7 (show 1 ≤ 1000 by decide) (fun _ _ _ => id), rfl, HF6.out.step hs7, HS6.out.trans (hs7.mono (fun _ h => h.elim))⟩)
      clear how hb hs7 HBK6 HW6 HX6 HD6 HRF6 HF6 HS6 HM7 HLW HXR
      generalize readyD = D0 at HPL
      generalize RF.of readyR = R0 at HPL
      go_wp2_with fail
      refine (sameimgs_yes w7 A5 A7 cap5 cap7 (planOf rs) HW7.out HQ7.out (by have := HLP.out; omega)).mono ?_
      rintro e w8 ⟨rfl, n8, rfl⟩
      have HPL8 := Lib.hid (HPL.out.below_ (w' := w7.drewN n8) ⟨rfl, rfl, rfl, Nat.le_refl _, fun _ _ => rfl⟩)
      clear HPL HW7 HQ7
      generalize w7.drewN n8 = W8 at HPL8 ⊢
      have HLP2 := Lib.hid (show ∀ l ∈ [planOf rs], l.length ≤ 900 from fun l hl => by rw [List.mem_singleton.1 hl]; have := HLP.out; omega)
      clear HLP
      generalize planOf rs = PL at HPL8 HLP2 ⊢
      generalize (((#[.slice none 0 0, .slice none 0 0, .slice none 0 0, .slice none 0 0, .slice none 0 0, .slice none 0 0, .slice none 0 0, .slice none 0 0, .slice none 0 0, .slice none 0 0, .slice none 0 0, .slice none 0 0, .slice none 0 0, .slice none 0 0, .slice none 0 0, .slice none 0 0, .slice none 0 0, .slice none 0 0, .slice none 0 0, .slice none 0 0, .slice none 0 0, .slice none 0 0, .slice none 0 0, .slice none 0 0, .slice none 0 0, .slice none 0 0, .slice none 0 0, .slice none 0 0, .slice none 0 0, .slice none 0 0] : Array Value)).setIfInBounds 10 v2).setIfInBounds 11 v2' = cs at HPL8
      go_wp2_with fail
      go_loopw [15] (fun t15 wr => ∃ (k : Nat) (D : Dk) (R : RF) (o : Nat → Nat), k ≤ 2 ∧ t15 = .int .i64 k ∧ Pl2 W p r g pb cs v2 v2' [u] [u'] [PL] k D R o wr) (fun t15 _ => 2 - (intOf t15).toNat)
      case atStart => exact ⟨0, D0, R0, o7, by omega, rfl, HPL8.out⟩
      case round =>
        obtain ⟨k, D, R, o, hk, rfl, hpl⟩ := hrel
        have HP := Lib.hid hpl
        clear hpl HPL8
        by_cases hk2 : k = 2
        · subst hk2
          obtain ⟨s0, s1, s2, s3, s4⟩ := HP.out.lay.1.five
          go_wp2_with fail
          refine (escan_nil wr 1).mono ?_
          rintro e w1 ⟨rfl, hb1⟩
          have HP1 := Lib.hid (HP.out.below_ hb1)
          clear hb1 HP s0 s1 s2 s3 s4
          go_wp2_with fail
          refine (alive13_any (o := fun _ => 0) (fun _ _ => rfl)).mono ?_
          rintro e w2 ⟨rfl, o9, hs⟩
          have HP2 := Lib.hid (HP1.out.below_ (hs.below (fun _ _ h => h rfl) (Nat.le_refl _)))
          clear hs HP1
          go_wp2_with fail
          refine (aparti_any o w2 pb cs [PL] v2 v2' [u] [u'] HP2.out.book (show 1 ≤ 200 by decide) HLP2.out).mono ?_
          rintro e w3 ⟨rfl, o3, hs3⟩
          have HB3 := Lib.hid ((HP2.out.step.trans (hs3.mono (fun x hx => by unfold bigI at hx; unfold nz; omega))).below (fun _ _ h => h rfl) (Nat.le_refl _))
          clear hs3
          go_wp2_with fail
          go_ret
          exact ⟨rfl, HB3.out⟩
        · rcases (show k = 0 ∨ k = 1 by omega) with rfl | rfl
          · go_upto_region 24 with (fail)
            have HLX := Lib.hid (show f.length ≤ 30 by have := HN1.out.1; omega)
            go_wp2_with fail
            refine (lentimgs_any (fun _ => 0) 2 wr A1 cap1 f (HR1.out.below' (by omega) HP.out.low) (by have := HLX.out; omega)).mono ?_
            rintro e w1 ⟨B1, c1, oi, rfl, hc1, hol, hbl, hold⟩
            obtain ⟨o1', ho1, hs1⟩ := recolorS hol hbl hold o 60
            have HP1 := Lib.hid (HP.out.move hs1)
            have HO1 := Lib.hid ho1
            have HC1 := Lib.hid hc1
            clear hol hbl hold ho1 hs1 hc1 HP
            have HLS := Lib.hid (show OwnS o1' 60 w1 72 3 (.slice B1 f.length c1) f.length (imcells f) by
              have := HO1.out.less (m := f.length) (by omega) (by omega)
              rwa [← imcells_take, List.take_left' rfl] at this)
            obtain ⟨s0, s1, s2, s3, s4⟩ := HP1.out.lay.1.five
            have hap := eapply_any HP1.out.disk HP1.out.tame (by omega) (by omega) HP1.out.fut (by unfold six; omega) f B1 c1 HLS.out (by have := HLX.out; omega) (fun i hi => ⟨(HI1.out i hi).2.1, (HI1.out i hi).1⟩) 1 9
            obtain ⟨a1, a2, a3, a4⟩ := HP1.out.sim.apply HP1.out.left 1 9 f
            have hmi := HP1.out.mild.apply 1 9 f
            rw [a1, a2] at hap
            have HA3 := Lib.hid a3
            have HA4 := Lib.hid a4
            have HMI := Lib.hid hmi
            clear a1 a2 a3 a4 hmi
            generalize (applyR D 1 9 f).D = D1 at hap HA3
            have HXB := Lib.hid (show ∀ x ∈ f, x.ver < 18446744073709551616 ∧ -9223372036854775808 ≤ x.block ∧ x.block ≤ 9223372036854775807 from fun x hx => ⟨(HI1.out x hx).1, (HI1.out x hx).2.2⟩)
            go_wp2_with fail
            refine hap.mono ?_
            clear hap
            rintro e w2 ⟨rfl, o2, hd2, ht2, hs2⟩
            have HD2 := Lib.hid hd2
            have HT2 := Lib.hid ht2
            have HS2 := Lib.hid hs2
            obtain ⟨q1, q2, q3, q4, q5⟩ := HP1.out.one_ hs2
            have HO2 := Lib.hid (HO1.out.step hs2 (by unfold six; omega))
            have hra := refapply_calm q1 HP1.out.mild (by omega) (by omega) q4 f A1 cap1 (fun o' w' hs' => HR1.out.below' (by omega) ((q5.trans (hs'.mono (nz_logL 10 (by omega)))).below (fun _ _ h => h rfl) (Nat.le_refl _))) (by have := HLX.out; omega) HXB.out 1 9
            generalize (applyF R 1 9 f).n = Nn at hra ⊢
            generalize (applyF R 1 9 f).e = Ee at hra ⊢
            generalize (applyF R 1 9 f).R = R1 at hra HA3 HA4 HMI
            clear s0 s1 s2 s3 s4
            obtain ⟨s0, s1, s2, s3, s4⟩ := q2.1.five
            clear q1 q2 q3 q4 q5 hd2 ht2 hs2
            go_wp2_with fail
            refine hra.mono ?_
            clear hra
            rintro e w3 ⟨rfl, o3, hr3, hs3⟩
            have HP3 := Lib.hid (HP1.out.next (k' := 1) HD2.out HS2.out hr3 hs3 HA3.out HA4.out (HMI.out.mono (by have := HLX.out; omega)) (HT2.out.mono (by have := HLX.out; omega)))
            have HO3 := Lib.hid (HO2.out.step hs3 (by unfold logL; omega))
            clear hr3 hs3 HP1 HO1 HO2 HD2 HT2 HS2 HLS HA3 HA4 HMI s0 s1 s2 s3 s4
            obtain ⟨kv, hin, _⟩ := HP3.out.ref
            have HIN := Lib.hid hin
            clear hin
            have hwt := HP3.out.tame.waits
            have hws := HP3.out.mild.ws
            have hrm : R1.room ≤ 20000 := by have := HP3.out.sim.room; rw [HP3.out.tame.sectors] at this; omega
            have HSA := Lib.hid (same8_any HP3.out.disk HIN.out HP3.out.sim HP3.out.tame.wf HP3.out.mild.wf hrm (by omega) (by omega))
            clear hwt hws hrm
            go_wp2_with fail
            refine HSA.out.mono ?_
            rintro e w4 ⟨rfl, hb4⟩
            have HP4 := Lib.hid (HP3.out.below_ hb4)
            have HO4 := Lib.hid (HO3.out.below_ hb4)
            clear hb4 HP3 HO3 HSA HIN
            obtain ⟨l1, l2⟩ := Reads.lentI HO4.out
            have HST := Lib.hid (staysimgs_any w4 B1 A1 c1 cap1 f l1 l2 (HR1.out.below' (by omega) HP4.out.low) HC1.out (by have := HLX.out; omega))
            clear l1 l2
            go_wp2_with fail
            refine HST.out.mono ?_
            rintro e w5 ⟨rfl, n5, rfl⟩
            have HP5 := Lib.hid (HP4.out.below_ (w' := w4.drewN n5) ⟨rfl, rfl, rfl, Nat.le_refl _, fun _ _ => rfl⟩)
            clear HP4 HO4 HST
            go_wp2_with fail
            go_roundw
            case rel => exact ⟨1, D1, R1, o3, by omega, by go_num, HP5.out⟩
            case measure => simp [intOf]
          · go_upto_region 24 with (fail)
            have HLX := Lib.hid (show s.length ≤ 30 by have := HN2.out.1; omega)
            go_wp2_with fail
            refine (lentimgs_any (fun _ => 0) 2 wr A2 cap2 s (HR2.out.below' (by omega) HP.out.low) (by have := HLX.out; omega)).mono ?_
            rintro e w1 ⟨B1, c1, oi, rfl, hc1, hol, hbl, hold⟩
            obtain ⟨o1', ho1, hs1⟩ := recolorS hol hbl hold o 60
            have HP1 := Lib.hid (HP.out.move hs1)
            have HO1 := Lib.hid ho1
            have HC1 := Lib.hid hc1
            clear hol hbl hold ho1 hs1 hc1 HP
            have HLS := Lib.hid (show OwnS o1' 60 w1 72 3 (.slice B1 s.length c1) s.length (imcells s) by
              have := HO1.out.less (m := s.length) (by omega) (by omega)
              rwa [← imcells_take, List.take_left' rfl] at this)
            obtain ⟨s0, s1, s2, s3, s4⟩ := HP1.out.lay.1.five
            have hap := eapply_any HP1.out.disk HP1.out.tame (by omega) (by omega) HP1.out.fut (by unfold six; omega) s B1 c1 HLS.out (by have := HLX.out; omega) (fun i hi => ⟨(HI2.out i hi).2.1, (HI2.out i hi).1⟩) 1 9
            obtain ⟨a1, a2, a3, a4⟩ := HP1.out.sim.apply HP1.out.left 1 9 s
            have hmi := HP1.out.mild.apply 1 9 s
            rw [a1, a2] at hap
            have HA3 := Lib.hid a3
            have HA4 := Lib.hid a4
            have HMI := Lib.hid hmi
            clear a1 a2 a3 a4 hmi
            generalize (applyR D 1 9 s).D = D1 at hap HA3
            have HXB := Lib.hid (show ∀ x ∈ s, x.ver < 18446744073709551616 ∧ -9223372036854775808 ≤ x.block ∧ x.block ≤ 9223372036854775807 from fun x hx => ⟨(HI2.out x hx).1, (HI2.out x hx).2.2⟩)
            go_wp2_with fail
            refine hap.mono ?_
            clear hap
            rintro e w2 ⟨rfl, o2, hd2, ht2, hs2⟩
            have HD2 := Lib.hid hd2
            have HT2 := Lib.hid ht2
            have HS2 := Lib.hid hs2
            obtain ⟨q1, q2, q3, q4, q5⟩ := HP1.out.one_ hs2
            have HO2 := Lib.hid (HO1.out.step hs2 (by unfold six; omega))
            have hra := refapply_calm q1 HP1.out.mild (by omega) (by omega) q4 s A2 cap2 (fun o' w' hs' => HR2.out.below' (by omega) ((q5.trans (hs'.mono (nz_logL 10 (by omega)))).below (fun _ _ h => h rfl) (Nat.le_refl _))) (by have := HLX.out; omega) HXB.out 1 9
            generalize (applyF R 1 9 s).n = Nn at hra ⊢
            generalize (applyF R 1 9 s).e = Ee at hra ⊢
            generalize (applyF R 1 9 s).R = R1 at hra HA3 HA4 HMI
            clear s0 s1 s2 s3 s4
            obtain ⟨s0, s1, s2, s3, s4⟩ := q2.1.five
            clear q1 q2 q3 q4 q5 hd2 ht2 hs2
            go_wp2_with fail
            refine hra.mono ?_
            clear hra
            rintro e w3 ⟨rfl, o3, hr3, hs3⟩
            have HP3 := Lib.hid (HP1.out.next (k' := 2) HD2.out HS2.out hr3 hs3 HA3.out HA4.out (HMI.out.mono (by have := HLX.out; omega)) (HT2.out.mono (by have := HLX.out; omega)))
            have HO3 := Lib.hid (HO2.out.step hs3 (by unfold logL; omega))
            clear hr3 hs3 HP1 HO1 HO2 HD2 HT2 HS2 HLS HA3 HA4 HMI s0 s1 s2 s3 s4
            obtain ⟨kv, hin, _⟩ := HP3.out.ref
            have HIN := Lib.hid hin
            clear hin
            have hwt := HP3.out.tame.waits
            have hws := HP3.out.mild.ws
            have hrm : R1.room ≤ 20000 := by have := HP3.out.sim.room; rw [HP3.out.tame.sectors] at this; omega
            have HSA := Lib.hid (same8_any HP3.out.disk HIN.out HP3.out.sim HP3.out.tame.wf HP3.out.mild.wf hrm (by omega) (by omega))
            clear hwt hws hrm
            go_wp2_with fail
            refine HSA.out.mono ?_
            rintro e w4 ⟨rfl, hb4⟩
            have HP4 := Lib.hid (HP3.out.below_ hb4)
            have HO4 := Lib.hid (HO3.out.below_ hb4)
            clear hb4 HP3 HO3 HSA HIN
            obtain ⟨l1, l2⟩ := Reads.lentI HO4.out
            have HST := Lib.hid (staysimgs_any w4 B1 A2 c1 cap2 s l1 l2 (HR2.out.below' (by omega) HP4.out.low) HC1.out (by have := HLX.out; omega))
            clear l1 l2
            go_wp2_with fail
            refine HST.out.mono ?_
            rintro e w5 ⟨rfl, n5, rfl⟩
            have HP5 := Lib.hid (HP4.out.below_ (w' := w4.drewN n5) ⟨rfl, rfl, rfl, Nat.le_refl _, fun _ _ => rfl⟩)
            clear HP4 HO4 HST
            go_wp2_with fail
            go_roundw
            case rel => exact ⟨2, D1, R1, o3, by omega, by go_num, HP5.out⟩
            case measure => simp [intOf]
end Go.Proofs.YtkhieofknglknaaGreatDoor
