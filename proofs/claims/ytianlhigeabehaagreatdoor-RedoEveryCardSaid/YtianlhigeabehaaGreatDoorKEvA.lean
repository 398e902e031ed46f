/- RedoEvery: wherever the power goes while a log is done again. -/
import Derived.Test.YtianlhigeabehaaGreatDoorKAlvA
import Derived.Test.YtianlhigeabehaaGreatDoorKEvKit
import Derived.Test.YtianlhigeabehaaGreatDoorKRows0
namespace Go.Proofs.YtianlhigeabehaaGreatDoor
open Go.RowKit

/-- inputs read as they did -/
theorem Step.inz {o' : Nat → Nat} {W w : World} {A : Option Addr} {n : Nat} {xs : List Value} {s : Nat} (hs : Step (fun _ => 0) nz W o' w) (h0 : 0 < s) (h : Reads W s A n xs) : Reads w s A n xs :=
  h.below' h0 (hs.below (fun _ _ h => h rfl) (Nat.le_refl _))
/-- images that may be added and done again -/
def Fit (i : Im) : Prop := i.right ∧ 0 < i.ver ∧ i.ver < 18446744073709551616 ∧ i.block ≤ 9
theorem rsE_fit {ds : List Im} (hn : ds.length ≤ 2) (hd : ∀ i ∈ ds, Fit i) : (rsE ds).length ≤ 1000 ∧ ∀ r ∈ rsE ds, r.images.length ≤ 100 ∧ ∀ i ∈ r.images, i.data.size ≤ 281474976710656 ∧ iRange i.block := by
  have key : ∀ r ∈ rsE ds, r.images.length ≤ 100 ∧ ∀ i ∈ r.images, i ∈ ds := by
    match ds, hn with
    | [], _ => intro r hr; cases hr
    | [i], _ =>
      intro r hr
      rw [List.mem_singleton.1 (show r ∈ [rcI 1 i] from hr)]
      exact ⟨show 1 ≤ 100 by decide, fun x hx => hx⟩
    | [i, j], _ =>
      intro r hr
      rcases List.mem_cons.1 (show r ∈ [rcI 1 i, rcI 2 j] from hr) with rfl | hr
      · exact ⟨show 1 ≤ 100 by decide, fun x hx => by rw [List.mem_singleton.1 (show x ∈ [i] from hx)]; simp⟩
      · rw [List.mem_singleton.1 hr]
        exact ⟨show 1 ≤ 100 by decide, fun x hx => by rw [List.mem_singleton.1 (show x ∈ [j] from hx)]; simp⟩
  refine ⟨?_, fun r hr => ⟨(key r hr).1, fun i hi => ?_⟩⟩
  · match ds, hn with
    | [], _ => exact Nat.zero_le _
    | [_], _ => exact show 1 ≤ 1000 by decide
    | [_, _], _ => exact show 2 ≤ 1000 by decide
  · obtain ⟨h1, _, _, h4⟩ := hd i ((key r hr).2 i hi)
    have := h1.2.2
    have := h1.1
    exact ⟨by omega, by unfold iRange; omega⟩
/-- what the last loop keeps -/
structure Ev3 (W : World) (p g : Nat) (D : Dk) (V : Value) (l2 : List Im) (o : Nat → Nat) (w : World) : Prop where
  disk : DiskAt o 1 w p D
  own : OwnS o 31 w 40 3 V l2.length (imcells l2)
  lay : Keep o w g 31 #[.int .i64 2, .int .i64 10, .int .i64 8, .int .i64 4, .int .i64 32]
  fut : Fut o w
  step : Step (fun _ => 0) nz W o w
section
variable {W w w' w5 : World} {p g : Nat} {D : Dk} {V : Value} {l2 : List Im} {o o' : Nat → Nat} {C : Nat → Prop}
theorem Ev3.move (h : Ev3 W p g D V l2 o w) (hs : Step o C w o' w') (hc : ∀ x, C x → x = 32) : Ev3 W p g D V l2 o' w' :=
  ⟨h.disk.step hs (fun x h1 h2 h3 => by have := hc x h3; omega), h.own.step hs (fun h3 => by have := hc _ h3; omega), h.lay.step hs (fun h3 => by have := hc _ h3; omega), h.fut.step hs, h.step.trans (hs.mono (fun x h3 => by have := hc x h3; unfold nz; omega))⟩
theorem undrew {a b : World} (hb : Below a.drew.heap.size a.drew b) : Below a.heap.size a b := ⟨hb.os, hb.tape, hb.output, hb.size, hb.block⟩
theorem Ev3.below_ (h : Ev3 W p g D V l2 o w) (hb : Below w.heap.size w w') : Ev3 W p g D V l2 o w' := h.move (Step.of_below o (fun _ => False) hb) (fun _ h => h.elim)
theorem ev_late (h : Ev3 W p g D V l2 o w) (hb : Below w.drew.heap.size w.drew w5) (cs : Array Value) : ∃ o6, Ev3 W p g D V l2 o6 (w5.alloc (.cells cs 40)) ∧ Blk (w5.alloc (.cells cs 40)) w5.heap.size 40 cs :=
  ⟨o, (h.below_ (undrew hb)).move ((Step.refl o (fun _ => False) w5).alloc _) (fun _ h => h.elim), Blk.new _ _ _⟩
theorem ev_early (h : Ev3 W p g D V l2 o w) (hb : Below (w.alloc (.cells #[.int .i64 0, .int .u64 0, .string ⟨#[]⟩] 40)).drew.heap.size (w.alloc (.cells #[.int .i64 0, .int .u64 0, .string ⟨#[]⟩] 40)).drew w5) (a b c : Value) :
    ∃ o6, Ev3 W p g D V l2 o6 (((w5.setCell ⟨w.heap.size, 0, none⟩ a).setCell ⟨w.heap.size, 1, none⟩ b).setCell ⟨w.heap.size, 2, none⟩ c) ∧ Blk (((w5.setCell ⟨w.heap.size, 0, none⟩ a).setCell ⟨w.heap.size, 1, none⟩ b).setCell ⟨w.heap.size, 2, none⟩ c) w.heap.size 40 #[a, b, c] := by
  obtain ⟨o2, h0, hs2⟩ := alloc_as o w (.cells #[.int .i64 0, .int .u64 0, .string ⟨#[]⟩] 40) 32
  have h1 := (h.move hs2 (fun _ h => h.elim)).below_ (undrew hb)
  have b5 := (Blk.new w 40 #[.int .i64 0, .int .u64 0, .string ⟨#[]⟩]).below_ (undrew hb)
  have st : Step o2 (only 32) w5 o2 (((w5.setCell ⟨w.heap.size, 0, none⟩ a).setCell ⟨w.heap.size, 1, none⟩ b).setCell ⟨w.heap.size, 2, none⟩ c) :=
    (((Step.refl o2 (only 32) w5).setCell (p := ⟨w.heap.size, 0, none⟩) h0 _).setCell (p := ⟨w.heap.size, 1, none⟩) h0 _).setCell (p := ⟨w.heap.size, 2, none⟩) h0 _
  exact ⟨o2, h1.move st (fun x hx => hx), ((b5.set_ 0 a).set_ 1 b).set_ 2 c⟩
theorem early_below (hb : Below (w.alloc (.cells #[.int .i64 0, .int .u64 0, .string ⟨#[]⟩] 40)).drew.heap.size (w.alloc (.cells #[.int .i64 0, .int .u64 0, .string ⟨#[]⟩] 40)).drew w5) : Below w.heap.size w w5 := by
  have h1 := (Below.refl w.heap.size w).alloc (Nat.le_refl _) (.cells #[.int .i64 0, .int .u64 0, .string ⟨#[]⟩] 40)
  exact h1.trans ((undrew hb).mono h1.size)
theorem new_row3 (w w5 : World) (hb : Below (w.alloc (.cells #[.int .i64 0, .int .u64 0, .string ⟨#[]⟩] 40)).drew.heap.size (w.alloc (.cells #[.int .i64 0, .int .u64 0, .string ⟨#[]⟩] 40)).drew w5) :
    (w5.cell? ⟨w.heap.size, 0, none⟩ = some (.int .i64 0) ∧ w5.cell? ⟨w.heap.size, 1, none⟩ = some (.int .u64 0) ∧ w5.cell? ⟨w.heap.size, 2, none⟩ = some (.string ⟨#[]⟩)) ∧ w5.frozen? ⟨w.heap.size, 0, none⟩ = false ∧ w5.frozen? ⟨w.heap.size, 1, none⟩ = false ∧ w5.frozen? ⟨w.heap.size, 2, none⟩ = false := by
  have h := (Blk.new w 40 #[.int .i64 0, .int .u64 0, .string ⟨#[]⟩]).below_ (undrew hb)
  exact ⟨⟨h.cell 0, h.cell 1, h.cell 2⟩, h.frozen 0, h.frozen 1, h.frozen 2⟩
end
set_option maxRecDepth 100000 in
set_option maxHeartbeats 8000000 in
theorem redoEvery_any (l : List Im) (ts keep : List Int) (W : World) (A0 A1 A2 : Option Addr) (cap0 cap1 cap2 : Nat) (hrd0 : Reads W 3 A0 l.length (imcells l)) (hrd1 : Reads W 1 A1 ts.length (intcells ts)) (hrd2 : Reads W 1 A2 keep.length (intcells keep)) (hlc0 : l.length ≤ cap0) (hcm0 : cap0 ≤ maxLen) (hln1 : ts.length ≤ maxLen) (hln2 : keep.length ≤ maxLen)
    (hp0 : ∀ i ∈ l, i.ver < 18446744073709551616 ∧ i.data.size ≤ maxLen ∧ -9223372036854775808 ≤ i.block ∧ i.block ≤ 9223372036854775807) :
    Calls Tryz.prog 3 #[.slice A0 l.length cap0, .slice A1 ts.length cap1, .slice A2 keep.length cap2] W fun e w' => e = .returned (.bool true) ∧ Below W.heap.size W w' := by
  have HR0 := Lib.hid hrd0
  have HR1 := Lib.hid hrd1
  have HR2 := Lib.hid hrd2
  have HP := Lib.hid hp0
  have hl0 : (l.length : Int) ≤ 9223372036854775807 := by unfold maxLen at hcm0; omega
  have hl1 : (ts.length : Int) ≤ 9223372036854775807 := by unfold maxLen at hln1; omega
  have hl2 : (keep.length : Int) ≤ 9223372036854775807 := by unfold maxLen at hln2; omega
  have HL0 := Lib.hid (show l.length ≤ maxLen from Nat.le_trans hlc0 hcm0)
  clear hrd0 hrd1 hrd2 hp0 hlc0 hcm0 hln1 hln2
  go_enter Tryz.func3, Tryz.ntmps3
  go_upto_region 1 with (fail)
  go_wp2_with fail
  refine (light_im l W A0 cap0 4 600 HR0.out HL0.out (fun i hi => (HP.out i hi).2.1) (by omega)).mono ?_
  rintro e w0 ⟨b, rfl, hb4, hb0⟩
  have HS0 := Lib.hid (Step.of_below (fun _ => 0) nz hb0)
  have HF0 := Lib.hid (show Fut (fun _ => 0) w0 from fun _ _ => rfl)
  clear hb0
  cases b with
  | false =>
    go_wp2_with fail
    refine (alive13_any HF0.out).mono ?_
    rintro e w1 ⟨rfl, o1, hs⟩
    go_wp2_with fail
    go_ret
    exact ⟨rfl, (HS0.out.trans hs).below (fun _ _ h => h rfl) (Nat.le_refl _)⟩
  | true =>
  have hN0 : (l.length : Int) ≤ 4 := hb4 rfl
  clear hb4
  by_cases c1 : (6 : Int) < (ts.length : Int)
  · go_wp2_with fail
    refine (alive13_any HF0.out).mono ?_
    rintro e w1 ⟨rfl, o1, hs⟩
    go_wp2_with fail
    go_ret
    exact ⟨rfl, (HS0.out.trans hs).below (fun _ _ h => h rfl) (Nat.le_refl _)⟩
  by_cases c2 : (60 : Int) < (keep.length : Int)
  · go_wp2_with fail
    refine (alive13_any HF0.out).mono ?_
    rintro e w1 ⟨rfl, o1, hs⟩
    go_wp2_with fail
    go_ret
    exact ⟨rfl, (HS0.out.trans hs).below (fun _ _ h => h rfl) (Nat.le_refl _)⟩
  clear hl0 hl1 hl2
  go_wp2_with fail
  refine (ready_any (cd := 1) (cr := 10) HF0.out (by omega) (by omega)).mono ?_
  rintro e w1 ⟨p, r, rfl, o1, hd, _, hs⟩
  have HV := Lib.hid readyV
  have HQ := Lib.hid quiet_ready
  have HZ := Lib.hid zeros_ready
  generalize readyD = D0 at hd HV HQ HZ
  generalize D0.table 2 = T2 at HV
  have hf1 := HF0.out.step hs
  have HX := Lib.hid (Keep.new hf1 31 #[.int .i64 2, .int .i64 10, .int .i64 8, .int .i64 4, .int .i64 32])
  have HD := Lib.hid (hd.alloc (.cells #[.int .i64 2, .int .i64 10, .int .i64 8, .int .i64 4, .int .i64 32] 31))
  have HF1 := Lib.hid (hf1.alloc (.cells #[.int .i64 2, .int .i64 10, .int .i64 8, .int .i64 4, .int .i64 32] 31))
  have HS1 := Lib.hid ((HS0.out.trans (hs.mono nz_ready)).alloc (.cells #[.int .i64 2, .int .i64 10, .int .i64 8, .int .i64 4, .int .i64 32] 31))
  clear hd hs hf1 HF0 HS0
  go_upto_region 6 with (fail)
  generalize w1.alloc (.cells #[.int .i64 2, .int .i64 10, .int .i64 8, .int .i64 4, .int .i64 32] 31) = W1 at HX HD HF1 HS1 ⊢
  generalize w1.heap.size = g at HX ⊢
  obtain ⟨s0, s1, s2, s3, s4⟩ := HX.out.1.five
  go_wp2_with fail
  refine (gopen_any (c := 20) HD.out HV.out.calm.tame (by omega) (by omega) (by omega) HF1.out 1 9 1 rfl (by omega) HV.out.openV.1).mono ?_
  rintro e w2 ⟨q, rfl, o2, hd, hl, hs⟩
  have hv := HV.out.openV.2
  have hq := HV.out.openD.1 HQ.out
  have hz := HV.out.openD.2 HZ.out
  change DiskAt o2 1 w2 p (D0.lhead lg0 ⟨9, 1, 0⟩).2 at hd
  change LogAt o2 20 w2 q lg0 p at hl
  generalize (D0.lhead lg0 ⟨9, 1, 0⟩).2 = D1 at hd hv hq hz
  have HV2 := Lib.hid hv
  have HQ2 := Lib.hid hq
  have HZ2 := Lib.hid hz
  have HD2 := Lib.hid hd
  have HL2 := Lib.hid hl
  have HX2 := Lib.hid (HX.out.step hs (no_six (by omega)))
  have HF2 := Lib.hid (HF1.out.step hs)
  have HS2 := Lib.hid (HS1.out.trans (hs.mono (nz_six 1 (by omega))))
  clear hd hl hs hv hq hz HV HD HX HF1 HS1 HQ HZ s0 s1 s2 s3 s4
  go_wp2_with fail
  go_loopw [6, 13, 14] (fun _ t13 t14 wr => ∃ (i : Nat) (ds : List Im) (A : Option Addr) (cap : Nat) (o3 : Nat → Nat), t13 = .slice A ds.length cap ∧ t14 = .int .i64 i ∧ i ≤ l.length ∧ ds.length ≤ 2 ∧ (∀ x ∈ ds, Fit x) ∧ OwnS o3 30 wr 40 3 (.slice A ds.length cap) ds.length (imcells ds) ∧ DiskAt o3 1 wr p D1 ∧ LogAt o3 20 wr q (gD ds) p ∧ Keep o3 wr g 31 #[.int .i64 2, .int .i64 10, .int .i64 8, .int .i64 4, .int .i64 32] ∧ Fut o3 wr ∧ Step (fun _ => 0) nz W o3 wr) (fun _ _ t14 _ => l.length - (intOf t14).toNat)
  case atStart => exact ⟨0, [], none, 0, o2, rfl, rfl, by omega, by simp, by simp, OwnS.nil _ _ _ _ _, HD2.out, HL2.out, HX2.out, HF2.out, HS2.out⟩
  case round =>
    obtain ⟨i, ds, A, cap, o3, rfl, rfl, hi, hds, hfit, how, hd, hl, hx, hf, hs⟩ := hrel
    have HFI := Lib.hid hfit
    have HDS := Lib.hid hds
    have HOW := Lib.hid how
    have HDr := Lib.hid hd
    have HLr := Lib.hid hl
    have HXr := Lib.hid hx
    have HFr := Lib.hid hf
    have HSr := Lib.hid hs
    clear hfit hds how hd hl hx hf hs HD2 HL2 HX2 HF2 HS2
    by_cases hlt : i < l.length
    · have hltI : (i : Int) < (l.length : Int) := by omega
      obtain ⟨x, hx⟩ : ∃ x, l[i]? = some x := ⟨_, List.getElem?_eq_getElem hlt⟩
      obtain ⟨ad, rfl, y0, y1, y2⟩ := (HSr.out.inz (by omega) HR0.out).imrow hx
      have HPX := Lib.hid (HP.out x (List.mem_of_getElem? hx))
      have HXI := Lib.hid hx
      clear hx
      obtain ⟨xb, xv, xd⟩ := x
      simp only at y0 y1 y2
      by_cases k1 : xb < 0
      · go_wp2_with fail
        refine (alive13_any HFr.out).mono ?_
        rintro e w9 ⟨rfl, o9, hs⟩
        go_wp2_with fail
        go_ret
        exact ⟨rfl, (HSr.out.trans hs).below (fun _ _ h => h rfl) (Nat.le_refl _)⟩
      · by_cases k2 : 9 < xb
        · go_wp2_with fail
          refine (alive13_any HFr.out).mono ?_
          rintro e w9 ⟨rfl, o9, hs⟩
          go_wp2_with fail
          go_ret
          exact ⟨rfl, (HSr.out.trans hs).below (fun _ _ h => h rfl) (Nat.le_refl _)⟩
        · by_cases k3 : xv = 0
          · have k3I : (xv : Int) = 0 := by omega
            go_wp2_with fail
            refine (alive13_any HFr.out).mono ?_
            rintro e w9 ⟨rfl, o9, hs⟩
            go_wp2_with fail
            go_ret
            exact ⟨rfl, (HSr.out.trans hs).below (fun _ _ h => h rfl) (Nat.le_refl _)⟩
          · have k3I : ¬ (xv : Int) = 0 := by omega
            have k3B : ((xv : Int) == 0) = false := by simp; omega
            go_wp2_with fail
            have HR := Lib.hid (Reads.newAt wr 40 3 1 (imcells [(⟨xb, xv, xd⟩ : Im)]) #[.int .i64 xb, .int .u64 xv, .string xd] wr.heap.size rfl rfl rfl)
            have HD3 := Lib.hid (HDr.out.alloc (.cells #[.int .i64 xb, .int .u64 xv, .string xd] 40))
            have HL3 := Lib.hid (HLr.out.alloc (.cells #[.int .i64 xb, .int .u64 xv, .string xd] 40))
            have HX3 := Lib.hid (HXr.out.alloc (.cells #[.int .i64 xb, .int .u64 xv, .string xd] 40))
            have HF3 := Lib.hid (HFr.out.alloc (.cells #[.int .i64 xb, .int .u64 xv, .string xd] 40))
            have HS3 := Lib.hid (HSr.out.alloc (.cells #[.int .i64 xb, .int .u64 xv, .string xd] 40))
            have HW3 := Lib.hid (HOW.out.alloc (.cells #[.int .i64 xb, .int .u64 xv, .string xd] 40))
            generalize wr.alloc (.cells #[.int .i64 xb, .int .u64 xv, .string xd] 40) = W3 at HR HD3 HL3 HX3 HF3 HS3 HW3 ⊢
            generalize wr.heap.size = gI at HR ⊢
            obtain ⟨gf1, gf2, gf3, gf4, gf5, gf6, gf7⟩ := gD_facts HDS.out
            have hadd := gadd_any HL3.out [(⟨xb, xv, xd⟩ : Im)] (some ⟨gI, 0, none⟩) 1 HR.out (show 1 ≤ 1000000 by decide) (show 1 ≤ 1 by decide) (by decide) (by intro j hj; rw [List.mem_singleton.1 hj]; exact HPX.out.2.1) (by intro j hj; rw [List.mem_singleton.1 hj]; exact HPX.out.1) (by rw [gf1]; omega) (by omega) (by omega) (by omega) gf5 (by omega) HF3.out
            clear gf1 gf2 gf3 gf4 gf5 gf6 gf7 y0 y1 y2
            generalize (gD ds).addN [(⟨xb, xv, xd⟩ : Im)] = an at hadd
            by_cases hr : (⟨xb, xv, xd⟩ : Im).right
            · by_cases h2 : ds.length < 2
              · obtain ⟨ha1, ha2⟩ := gD_add h2 hr
                rw [ha1, ha2] at hadd
                refine hadd.mono ?_
                clear hadd ha1 ha2
                rintro e w4 ⟨rfl, o4, hl, hs⟩
                have HL4 := Lib.hid hl
                have HW4 := Lib.hid (HW3.out.step hs (by unfold logL; omega))
                have HD4 := Lib.hid (HD3.out.step hs (by unfold logL; omega))
                have HX4 := Lib.hid (HX3.out.step hs (by unfold logL; omega))
                have HF4 := Lib.hid (HF3.out.step hs)
                have HS4 := Lib.hid (HS3.out.trans (hs.mono (nz_logL 20 (by omega))))
                clear hl hs HR HL3 HD3 HX3 HF3 HS3 HW3
                obtain ⟨ad4, hA4, y0, y1, y2⟩ := (HS4.out.inz (by omega) HR0.out).imrow HXI.out
                injection hA4 with hA4
                subst hA4
                simp only at y0 y1 y2
                obtain ⟨i0, hi0, hz0, hz1, hz2⟩ := info_parts info_im
                have HFX := Lib.hid (show ∀ y ∈ ds ++ [(⟨xb, xv, xd⟩ : Im)], Fit y from fun y hy => by
                  rcases List.mem_append.1 hy with hy | hy
                  · exact HFI.out y hy
                  · rw [List.mem_singleton.1 hy]
                    exact ⟨hr, show 0 < xv by omega, HPX.out.1, show xb ≤ 9 by omega⟩)
                have HW5 := Lib.hid (HW4.out.alloc (.cells #[.int .i64 xb, .int .u64 xv, .string xd] 40))
                have HD5 := Lib.hid (HD4.out.alloc (.cells #[.int .i64 xb, .int .u64 xv, .string xd] 40))
                have HL5 := Lib.hid (HL4.out.alloc (.cells #[.int .i64 xb, .int .u64 xv, .string xd] 40))
                have HX5 := Lib.hid (HX4.out.alloc (.cells #[.int .i64 xb, .int .u64 xv, .string xd] 40))
                have HF5 := Lib.hid (HF4.out.alloc (.cells #[.int .i64 xb, .int .u64 xv, .string xd] 40))
                have HS5 := Lib.hid (HS4.out.alloc (.cells #[.int .i64 xb, .int .u64 xv, .string xd] 40))
                go_wp2_with (at_builtin; refine wpList_append_S _ rfl (.tmp 103) (.tmp 108) 22 rfl 40 i0 _ 3 32 Tryz.underlying22 hi0 hz0 hz1 hz2 rfl (by omega) (.slice A ds.length cap) ds.length (imcells ds) rfl HW5.out (some ⟨w4.heap.size, 0, none⟩) 1 1 [.int .i64 xb, .int .u64 xv, .string xd] rfl (Reads.newAt w4 40 3 1 _ #[.int .i64 xb, .int .u64 xv, .string xd] _ rfl rfl rfl) (by simp [Value.oneCell']) (by unfold maxLen; omega) (by omega) ?_; intro v7 w7 hown7 hst7 hgr7 hat7)
                obtain ⟨A7, cap7, rfl, _, _⟩ := own_form' hown7
                refine ⟨⟨i + 1, ds ++ [⟨xb, xv, xd⟩], A7, cap7, _, ?_, by go_num, by omega, ?_, HFX.out, ?_, HD5.out.step hst7 (by unfold only; omega), HL5.out.step hst7 (by unfold only; omega) (by unfold only; omega), HX5.out.step hst7 (by unfold only; omega), HF5.out.step hst7, HS5.out.trans (hst7.mono (fun y hy => by unfold only at hy; unfold nz; omega))⟩, ?_⟩
                · rw [List.length_append]; rfl
                · rw [List.length_append]; show ds.length + 1 ≤ 2; omega
                · rw [List.length_append]
                  have e9 : imcells (ds ++ [(⟨xb, xv, xd⟩ : Im)]) = imcells ds ++ [.int .i64 xb, .int .u64 xv, .string xd] := by
                    unfold imcells
                    rw [List.flatMap_append]
                    rfl
                  rw [e9]
                  exact hown7
                · simp [intOf]; omega
              · have H2E := Lib.hid (show ds.length = 2 by have := HDS.out; omega)
                obtain ⟨ha1, ha2⟩ := gD_full H2E.out hr
                rw [ha1, ha2] at hadd
                refine hadd.mono ?_
                clear hadd ha1 ha2
                rintro e w4 ⟨rfl, o4, hl, hs⟩
                have HL4 := Lib.hid hl
                have HW4 := Lib.hid (HW3.out.step hs (by unfold logL; omega))
                have HD4 := Lib.hid (HD3.out.step hs (by unfold logL; omega))
                have HX4 := Lib.hid (HX3.out.step hs (by unfold logL; omega))
                have HF4 := Lib.hid (HF3.out.step hs)
                have HS4 := Lib.hid (HS3.out.trans (hs.mono (nz_logL 20 (by omega))))
                clear hl hs HR HL3 HD3 HX3 HF3 HS3 HW3
                go_wp2_with fail
                go_roundw
                case rel => exact ⟨i + 1, ds, A, cap, o4, rfl, by go_num, by omega, HDS.out, HFI.out, HW4.out, HD4.out, HL4.out, HX4.out, HF4.out, HS4.out⟩
                case measure => simp [intOf]; omega
            · obtain ⟨ha1, ha2⟩ := gD_bad HDS.out hr
              rw [ha1, ha2] at hadd
              refine hadd.mono ?_
              clear hadd ha1 ha2
              rintro e w4 ⟨rfl, o4, hl, hs⟩
              have HL4 := Lib.hid hl
              have HW4 := Lib.hid (HW3.out.step hs (by unfold logL; omega))
              have HD4 := Lib.hid (HD3.out.step hs (by unfold logL; omega))
              have HX4 := Lib.hid (HX3.out.step hs (by unfold logL; omega))
              have HF4 := Lib.hid (HF3.out.step hs)
              have HS4 := Lib.hid (HS3.out.trans (hs.mono (nz_logL 20 (by omega))))
              clear hl hs HR HL3 HD3 HX3 HF3 HS3 HW3
              go_wp2_with fail
              go_roundw
              case rel => exact ⟨i + 1, ds, A, cap, o4, rfl, by go_num, by omega, HDS.out, HFI.out, HW4.out, HD4.out, HL4.out, HX4.out, HF4.out, HS4.out⟩
              case measure => simp [intOf]; omega
    · have hltI : ¬ (i : Int) < (l.length : Int) := by omega
      obtain ⟨gf1, gf2, gf3, gf4, gf5, gf6, gf7⟩ := gD_facts HDS.out
      obtain ⟨hy1, hy2, hy3, hy4⟩ := HV2.out.syncD HDS.out
      go_wp2_with fail
      have hsy := gsync_any HLr.out HDr.out HV2.out.calm.tame (by omega) (by omega) (by omega) HFr.out (by omega) (by omega) gf7
      rw [hy1] at hsy
      have hq5 := hy3 HQ2.out
      have hz5 := hy4 HZ2.out
      generalize (syncR D1 (gD ds)).D = D5 at hsy hy2 hq5 hz5
      generalize (syncR D1 (gD ds)).g = g5 at hsy
      refine hsy.mono ?_
      clear hsy hy1 hy3 hy4 gf1 gf2 gf3 gf4 gf5 gf6 gf7
      rintro e w5 ⟨rfl, o5, hd, _, _, hs⟩
      have HV5 := Lib.hid (hy2.mono (j := 60) (by omega))
      have HQ5 := Lib.hid hq5
      have HZ5 := Lib.hid hz5
      have HD5 := Lib.hid hd
      have HX5 := Lib.hid (HXr.out.step hs (by unfold logC six; omega))
      have HF5 := Lib.hid (HFr.out.step hs)
      have HS5 := Lib.hid (HSr.out.trans (hs.mono (nz_logC 1 20 (by omega) (by omega))))
      clear hd hs hy2 hq5 hz5 HLr HDr HXr HFr HSr HV2 HQ2 HZ2 HOW
      go_wp2_with fail
      refine (dfence_k (n := 1) HD5.out HV5.out.calm (by omega) (by omega)).mono ?_
      rintro e w6 ⟨rfl, o6, hd, hs⟩
      have hv := HV5.out.fence1.2
      have hq := HQ5.out.fence HV5.out.calm (n := 1) (by omega)
      have hz := HZ5.out.now (fence_now HV5.out.calm (n := 1) (by omega))
      generalize (D5.fence ((1 : Nat) : Int)).2 = D6 at hd hv hq hz
      have HV6 := Lib.hid hv
      have HQ6 := Lib.hid hq
      have HZ6 := Lib.hid hz
      have HD6 := Lib.hid hd
      have HX6 := Lib.hid (HX5.out.step hs (no_six (by omega)))
      have HF6 := Lib.hid (HF5.out.step hs)
      have HS6 := Lib.hid (HS5.out.trans (hs.mono (nz_six 1 (by omega))))
      clear hd hs hv hq hz HD5 HX5 HF5 HS5 HV5 HQ5 HZ5
      go_wp2_with fail
      have hls : D6.last < 20 := by rw [HV6.out.last]; omega
      refine (dadmit_k (n := 2) (e := 20) HD6.out HV6.out.calm (by omega) hls).mono ?_
      rintro e w7 ⟨rfl, o7, hd, hs⟩
      have hv := (HV6.out.admit2 (e := 20) (by omega)).2
      have hq := HQ6.out.admit HV6.out.calm (n := 2) (by omega) hls
      have hz := HZ6.out.now (admit_now HV6.out.calm (n := 2) (by omega) hls)
      generalize (D6.admit ((2 : Nat) : Int) 20).2 = D7 at hd hv hq hz
      obtain ⟨se1, se2, se3⟩ := scan_E HDS.out (fun i hi => ⟨(HFI.out i hi).1, (HFI.out i hi).2.2.1⟩)
      have hsc := hv.scan
      rw [se1] at hsc
      have hw2 : Wants (planOf (rsE ds)) := plan_wants (by rw [se3]; exact HFI.out)
      have hpl : planOf (scanL 9 10 1 (str (D7.readL 2 7))) = planOf (rsE ds) := by rw [← (live_scan hv.calm.live hv.head).1, hsc.1]
      have HOK := Lib.hid (ok2_start hv hq hz hw2)
      have HT7 := Lib.hid (hv.calm.tame.mono (m := 100) (by omega))
      have HAR := Lib.hid hv.calm.armed
      have HSC := Lib.hid hsc.1
      have HSE := Lib.hid hsc.2.1
      have HSL := Lib.hid se2
      have HWA := Lib.hid hw2
      have HPL := Lib.hid hpl
      have HRF := Lib.hid (rsE_fit HDS.out HFI.out)
      have HD7 := Lib.hid hd
      have HX7 := Lib.hid (HX6.out.step hs (no_six (by omega)))
      have HF7 := Lib.hid (HF6.out.step hs)
      have HS7 := Lib.hid (HS6.out.trans (hs.mono (nz_six 1 (by omega))))
      clear hd hs hv hq hz hls hsc hw2 hpl se1 se2 se3 HD6 HX6 HF6 HS6 HV6 HQ6 HZ6
      obtain ⟨s0, s1, s2, s3, s4⟩ := HX7.out.1.five
      go_wp2_with fail
      have hscan := escan_any HD7.out (by rw [HT7.out.sectors]; omega) HT7.out.wf 1
      rw [HSC.out, HSE.out] at hscan
      refine hscan.mono ?_
      clear hscan s0 s1 s2 s3 s4
      rintro e w8 ⟨A8, cap8, rfl, o8, vs8, hra⟩
      have hpn := eplan_any o7 31 (rsE ds) vs8 A8 cap8 w8 hra.rd HRF.out.1 HRF.out.2
      have HD8 := Lib.hid (HD7.out.below_ hra.env.low)
      have HX8 := Lib.hid (HX7.out.below_ hra.env.low)
      have HF8 := Lib.hid (HF7.out.below hra.env.low)
      have HS8 := Lib.hid (HS7.out.trans (Step.of_below o7 nz hra.env.low))
      rw [HSL.out] at hpn ⊢
      generalize planOf (rsE ds) = l2 at hpn HWA HPL HOK
      clear hra HD7 HX7 HF7 HS7 HSC HSE HRF
      go_wp2_with fail
      refine hpn.mono ?_
      clear hpn
      rintro e w9 ⟨A9, cap9, rfl, how, hb⟩
      have hs9 : Step o7 (fun _ => False) w8 (band o7 w8.heap.size w9.heap.size 31) w9 := Step.of_below_band o7 _ 31 hb
      generalize band o7 w8.heap.size w9.heap.size 31 = o9 at how hs9
      have HW9 := Lib.hid how
      have HD9 := Lib.hid (HD8.out.step hs9 (fun _ _ _ => id))
      have HX9 := Lib.hid (HX8.out.step hs9 id)
      have HF9 := Lib.hid (HF8.out.step hs9)
      have HS9 := Lib.hid (HS8.out.trans (hs9.mono (fun _ h => h.elim)))
      clear how hb hs9 HD8 HX8 HF8 HS8
      go_wp2_with fail
      go_loopw [20] (fun t20 wr => ∃ (i : Nat) (D : Dk) (o : Nat → Nat), i ≤ ts.length ∧ t20 = .int .i64 i ∧ DiskAt o 1 wr p D ∧ Ok2 l2 D7.sec D ∧ D.armed = false ∧ Tame D (100 + 2001 * i) ∧ OwnS o 31 wr 40 3 (.slice A9 l2.length cap9) l2.length (imcells l2) ∧ Keep o wr g 31 #[.int .i64 2, .int .i64 10, .int .i64 8, .int .i64 4, .int .i64 32] ∧ Fut o wr ∧ Step (fun _ => 0) nz W o wr) (fun t20 _ => ts.length - (intOf t20).toNat)
      case atStart => exact ⟨0, D7, o9, by omega, rfl, HD9.out, HOK.out, HAR.out, HT7.out, HW9.out, HX9.out, HF9.out, HS9.out⟩
      case round =>
        obtain ⟨j, D, oj, hj, rfl, hd, hok, har, ht, how, hx, hf, hs⟩ := hrel
        have HOJ := Lib.hid hok
        have HAJ := Lib.hid har
        have HTJ := Lib.hid ht
        have HWJ := Lib.hid how
        have HDj := Lib.hid hd
        have HXj := Lib.hid hx
        have HFj := Lib.hid hf
        have HSj := Lib.hid hs
        clear hd hok har ht how hx hf hs HD9 HX9 HF9 HS9 HW9 HOK HAR HT7
        by_cases hjt : j < ts.length
        · have hjtI : (j : Int) < (ts.length : Int) := by omega
          obtain ⟨ad, rfl, c0⟩ := (HSj.out.inz (by omega) HR1.out).int hjt
          obtain ⟨tv, htv⟩ : ∃ tv, ts.getD j 0 = tv := ⟨_, rfl⟩
          rw [htv] at c0
          clear htv
          go_wp2_with fail
          obtain ⟨na, hna⟩ : ∃ na, bits BinOp.and IntKind.i64 tv 15 = na := ⟨_, rfl⟩
          rw [hna]
          refine (darm_any HDj.out na keep A2 cap2 (HSj.out.inz (by omega) HR2.out) (by omega)).mono ?_
          rintro e v1 ⟨rfl, q1, hd, hs⟩
          have HD1 := Lib.hid hd
          have HT1 := Lib.hid (show Tame (D.arm na keep) (100 + 2001 * j) from ⟨HTJ.out.sectors, HTJ.out.waits, HTJ.out.seq, HTJ.out.wf⟩)
          have HO1 := Lib.hid (ok2_again HWA.out HPL.out HOJ.out na keep)
          have HW1 := Lib.hid (HWJ.out.step hs (by unfold only; omega))
          have HX1 := Lib.hid (HXj.out.step hs (by unfold only; omega))
          have HF1 := Lib.hid (HFj.out.step hs)
          have HS1 := Lib.hid (HSj.out.trans (hs.mono (fun y hy => by unfold only at hy; unfold nz; omega)))
          clear hd hs c0 hna HDj HWJ HXj HFj HSj HOJ HTJ
          generalize D.arm na keep = Da at HD1 HT1 HO1
          obtain ⟨s0, s1, s2, s3, s4⟩ := HX1.out.1.five
          go_wp2_with fail
          have hrun := erun_any HD1.out HT1.out (by omega) (by omega) HF1.out 1 9 ((2 : Nat) : Int) 20
          generalize runR Da 1 9 ((2 : Nat) : Int) 20 = R at hrun HO1
          obtain ⟨rn, re, rD⟩ := R
          simp only at HO1
          refine hrun.mono ?_
          clear hrun
          rintro e v2 ⟨rfl, q2, hd, ht, hs⟩
          have HD2 := Lib.hid hd
          have HT2 := Lib.hid ht
          have HW2 := Lib.hid (HW1.out.step hs (by unfold six; omega))
          have HX2 := Lib.hid (HX1.out.step hs (no_six (by omega)))
          have HF2 := Lib.hid (HF1.out.step hs)
          have HS2 := Lib.hid (HS1.out.trans (hs.mono (nz_six 1 (by omega))))
          clear hd ht hs HD1 HT1 HW1 HX1 HF1 HS1 s0 s1 s2 s3 s4
          go_wp2_with fail
          refine (darm_any HD2.out (-1) [] none 0 (Reads.none_ _ _ _) (by simp)).mono ?_
          rintro e v3 ⟨rfl, q3, hd, hs⟩
          have HD3 := Lib.hid hd
          have HT3 := Lib.hid (show Tame (rD.arm (-1) []) (100 + 2001 * j + 2001) from ⟨HT2.out.sectors, HT2.out.waits, HT2.out.seq, HT2.out.wf⟩)
          have HA3 := Lib.hid (show (rD.arm (-1) []).armed = false from rfl)
          have HW3 := Lib.hid (HW2.out.step hs (by unfold only; omega))
          have HX3 := Lib.hid (HX2.out.step hs (by unfold only; omega))
          have HF3 := Lib.hid (HF2.out.step hs)
          have HS3 := Lib.hid (HS2.out.trans (hs.mono (fun y hy => by unfold only at hy; unfold nz; omega)))
          clear hd hs HD2 HT2 HW2 HX2 HF2 HS2
          generalize rD.arm (-1) [] = Db at HD3 HT3 HA3 HO1
          go_wp2_with fail
          refine (drestore_any HD3.out (by rw [HT3.out.sectors]; omega)).mono ?_
          rintro e v4 ⟨rfl, q4, hd, hs⟩
          have HD4 := Lib.hid hd
          have HT4 := Lib.hid (show Tame Db.restore (100 + 2001 * (j + 1)) from ⟨HT3.out.sectors, Nat.le_trans HT3.out.waits (by omega), Nat.le_trans HT3.out.seq (by omega), HT3.out.wf⟩)
          have HA4 := Lib.hid (show Db.restore.armed = false from HA3.out)
          have HW4 := Lib.hid (HW3.out.step hs (by unfold only; omega))
          have HX4 := Lib.hid (HX3.out.step hs (by unfold only; omega))
          have HF4 := Lib.hid (HF3.out.step hs)
          have HS4 := Lib.hid (HS3.out.trans (hs.mono (fun y hy => by unfold only at hy; unfold nz; omega)))
          clear hd hs HD3 HT3 HW3 HX3 HF3 HS3 HA3
          go_wp2_with fail
          go_roundw
          case rel => exact ⟨j + 1, Db.restore, q4, by omega, by go_num, HD4.out, HO1.out, HA4.out, HT4.out, HW4.out, HX4.out, HF4.out, HS4.out⟩
          case measure => simp [intOf]; omega
        · have hjtI : ¬ (j : Int) < (ts.length : Int) := by omega
          obtain ⟨z1, z2, z3, z4⟩ := ok2_last HWA.out HPL.out HOJ.out HAJ.out
          obtain ⟨s0, s1, s2, s3, s4⟩ := HXj.out.1.five
          go_wp2_with fail
          have hrun := erun_any HDj.out HTJ.out (by omega) (by omega) HFj.out 1 9 ((2 : Nat) : Int) 20
          generalize runR D 1 9 ((2 : Nat) : Int) 20 = R at hrun z1 z2 z3 z4
          obtain ⟨rn, re, rD⟩ := R
          simp only at z1 z2 z3 z4
          subst z1
          refine hrun.mono ?_
          clear hrun
          rintro e v2 ⟨rfl, q2, hd, ht, hs⟩
          have HSC := Lib.hid z2
          have HSE := Lib.hid z3
          have HLD := Lib.hid z4
          have HD2 := Lib.hid hd
          have HT2 := Lib.hid ht
          have HW2 := Lib.hid (HWJ.out.step hs (by unfold six; omega))
          have HX2 := Lib.hid (HXj.out.step hs (no_six (by omega)))
          have HF2 := Lib.hid (HFj.out.step hs)
          have HS2 := Lib.hid (HSj.out.trans (hs.mono (nz_six 1 (by omega))))
          clear hd ht hs HDj HTJ HWJ HXj HFj HSj HOJ HAJ s0 s1 s2 s3 s4 z2 z3 z4
          obtain ⟨s0, s1, s2, s3, s4⟩ := HX2.out.1.five
          go_wp2_with fail
          have hscan := escan_any HD2.out (by rw [HT2.out.sectors]; omega) HT2.out.wf 1
          rw [HSC.out, HSE.out] at hscan
          refine hscan.mono ?_
          clear hscan s0 s1 s2 s3 s4
          rintro e v3 ⟨A3, cap3, rfl, q3, vs3, hra⟩
          have HD3 := Lib.hid (HD2.out.below_ hra.env.low)
          have HW3 := Lib.hid (HW2.out.below_ hra.env.low)
          have HX3 := Lib.hid (HX2.out.below_ hra.env.low)
          have HF3 := Lib.hid (HF2.out.below hra.env.low)
          have HS3 := Lib.hid (HS2.out.trans (Step.of_below q2 nz hra.env.low))
          clear hra HD2 HW2 HX2 HF2 HS2 HSC HSE
          have hl2I : (l2.length : Int) ≤ 9223372036854775807 := by
            obtain ⟨_, _, e9, h9, h10⟩ := own_form' HW3.out
            unfold maxLen at h10
            injection e9 with _ _ e9
            subst e9
            omega
          have HE3 := Lib.hid (show Ev3 W p g rD (.slice A9 l2.length cap9) l2 q2 v3 from ⟨HD3.out, HW3.out, HX3.out, HF3.out, HS3.out⟩)
          clear HD3 HW3 HX3 HF3 HS3
          go_wp2_with fail
          go_loopw [6, 25] (fun _ t25 wr => ∃ (k : Nat) (o : Nat → Nat), k ≤ l2.length ∧ t25 = .int .i64 k ∧ Ev3 W p g rD (.slice A9 l2.length cap9) l2 o wr) (fun _ t25 _ => l2.length - (intOf t25).toNat)
          case atStart => exact ⟨0, q2, by omega, rfl, HE3.out⟩
          case round =>
            obtain ⟨k, o5, hk, rfl, hev⟩ := hrel
            have HEV := Lib.hid hev
            clear hev HE3
            by_cases hkt : k < l2.length
            · have hktI : (k : Int) < (l2.length : Int) := by omega
              obtain ⟨x, hx⟩ : ∃ x, l2[k]? = some x := ⟨_, List.getElem?_eq_getElem hkt⟩
              have HLX := Lib.hid (HLD.out x (List.mem_of_getElem? hx))
              have HXI := Lib.hid hx
              obtain ⟨ad, rfl, y0, y1, y2⟩ := (Reads.of_own HEV.out.own.1).imrow hx
              clear hx
              obtain ⟨xb, xv, xd⟩ := x
              simp only at y0 y1 y2
              have HKL := Lib.hid (show ∀ W5, Below wr.heap.size wr W5 → Calls Tryz.prog 17 #[.pointer (some ⟨p, 0, none⟩), .agg #[.int .i64 2, .int .i64 10, .int .i64 8, .int .i64 4, .int .i64 32], .int .i64 xb] W5 fun e w' => e = .returned (.tuple #[.agg #[.int .i64 xb, .int .u64 xv, .string xd], .int .i64 0]) ∧ Below W5.heap.size W5 w' from fun W5 hb => by
                have h9 := kload_any (HEV.out.disk.below_ hb) (by rw [HT2.out.sectors]; omega) HT2.out.wf xb
                have h10 : rD.load xb = ((⟨xb, xv, xd⟩ : Im), 0) := HLX.out
                rw [h10] at h9
                exact h9)
              have HY0 := Lib.hid y0
              go_upto_region 38 with (fail)
              go_cut [26, 27] from 180 to 206 (fun t26 t27 wx => ∃ (X : Nat) (o6 : Nat → Nat), t26 = .pointer (some ⟨X, 0, none⟩) ∧ t27 = .int .i64 0 ∧ Ev3 W p g rD (.slice (some ad) l2.length cap9) l2 o6 wx ∧ Blk wx X 40 #[.int .i64 xb, .int .u64 xv, .string xd])
              case first =>
                obtain ⟨s0, s1, s2, s3, s4⟩ := HEV.out.lay.1.five
                have dn0 := World.new_ne wr _ s0
                have dn1 := World.new_ne wr _ s1
                have dn2 := World.new_ne wr _ s2
                have dn3 := World.new_ne wr _ s3
                have dn4 := World.new_ne wr _ s4
                have dn5 := World.new_ne wr _ y0
                clear y1 y2
                go_region_held3 (fun w' => (w'.cell? ⟨g, 0, none⟩ = some (.int .i64 2) ∧ w'.cell? ⟨g, 1, none⟩ = some (.int .i64 10) ∧ w'.cell? ⟨g, 2, none⟩ = some (.int .i64 8) ∧ w'.cell? ⟨g, 3, none⟩ = some (.int .i64 4) ∧ w'.cell? ⟨g, 4, none⟩ = some (.int .i64 32)) ∧ w'.cell? (ad.add (k * 3)) = some (.int .i64 xb))
                  (first | exact ⟨⟨s0, s1, s2, s3, s4⟩, y0⟩ | exact ⟨hz5, hy5⟩ | go_keep)
                  (first | (go_at_call 17; ((with_reducible refine (HKL.out _ (by first | exact (Below.refl _ _).drew | exact ((Below.refl _ _).alloc (Nat.le_refl _) _).drew)).mono ?_); rintro e w5 ⟨rfl, hb5⟩; have hbw : Below wr.heap.size wr w5 := (by first | exact undrew hb5 | exact early_below hb5); have hz5 := (HEV.out.below_ hbw).lay.1.five; have hy5 := (hbw.cell (World.block_lt_of_cell? wr _ HY0.out)).trans HY0.out; first | (have hx5 := new_row3 wr w5 hb5; obtain ⟨⟨x0, x1, x2⟩, g0, g1, g2⟩ := hx5) | skip)))
                · have HW := Lib.hid (ev_late HEV.out hb5 #[.int .i64 xb, .int .u64 xv, .string xd])
                  clear s0 s1 s2 s3 s4 dn0 dn1 dn2 dn3 dn4 dn5 hz5 hy5 hb5 hbw HY0 y0
                  go_wp2_with fail
                  go_meet
                  case rel => exact ⟨_, HW.out.choose, rfl, rfl, HW.out.choose_spec⟩
                · have HW := Lib.hid (ev_early HEV.out hb5 (.int .i64 xb) (.int .u64 xv) (.string xd))
                  clear s0 s1 s2 s3 s4 dn0 dn1 dn2 dn3 dn4 dn5 hz5 hy5 hb5 hbw HY0 y0
                  clear x0 x1 x2 g0 g1 g2
                  go_wp2_with fail
                  go_meet
                  case rel => exact ⟨_, HW.out.choose, rfl, rfl, HW.out.choose_spec⟩
              case rest =>
                obtain ⟨X, o6, rfl, rfl, hev, hbx⟩ := hcut
                have HE6 := Lib.hid hev
                obtain ⟨b0, b1, b2⟩ := hbx.three
                obtain ⟨ad2, hA2, c0, c1, c2⟩ := (Reads.of_own hev.own.1).imrow HXI.out
                injection hA2 with hA2
                subst hA2
                simp only at c0 c1 c2
                clear hev hbx y0 y1 y2
                go_upto_region 39 with (fail)
                go_quiet (fail)
                go_wp2_with fail
                go_roundw
                case rel => exact ⟨k + 1, o6, by omega, by go_num, HE6.out.below_ ⟨rfl, rfl, rfl, Nat.le_refl _, fun _ _ => rfl⟩⟩
                case measure => simp [intOf]; omega
            · have hktI : ¬ (k : Int) < (l2.length : Int) := by omega
              go_wp2_with fail
              refine (alive13_any HEV.out.fut).mono ?_
              rintro e w9 ⟨rfl, o9, hs⟩
              have HS9 := Lib.hid (HEV.out.step.trans hs)
              clear hs
              go_wp2_with fail
              go_ret
              exact ⟨rfl, HS9.out.below (fun _ _ h => h rfl) (Nat.le_refl _)⟩
end Go.Proofs.YtianlhigeabehaaGreatDoor
