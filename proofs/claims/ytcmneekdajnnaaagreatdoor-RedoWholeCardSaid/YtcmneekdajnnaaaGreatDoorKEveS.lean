/- The ring of a log's entries: Drop. -/
import Derived.Test.YtcmneekdajnnaaaGreatDoorKRecE
import Derived.Test.YtcmneekdajnnaaaGreatDoorKLawP
import Derived.Test.YtcmneekdajnnaaaGreatDoorKEveQ
namespace Go.Proofs.YtcmneekdajnnaaaGreatDoor
open Go.RowKit

set_option maxHeartbeats 400000 in
theorem edrop_zero {o : Nat → Nat} {c : Nat} {w : World} {r : Nat} {most : Int} {l : List En} (h : EringAt o c w r most l) :
    Calls Tryz.prog 55 #[.pointer (some ⟨r, 0, none⟩), .int .i64 0] w fun e w' => e = .returned (.int .i64 0) ∧ w = w' := by
  have HR := Lib.hid h
  clear h
  go_enter Tryz.func55, Tryz.ntmps55
  go_wp2_with (go_at_call 56; refine (elen_any HR.out).mono ?_; rintro e w' ⟨rfl, rfl⟩)
  all_goals go_ret
  all_goals exact ⟨by simp <;> omega, rfl⟩
theorem encells_drop : ∀ (l : List En) (k : Nat), encells (l.drop k) = (encells l).drop (k * 5)
  | l, 0 => by simp
  | [], k + 1 => by simp [encells]
  | y :: l, k + 1 => by
    rw [show (k + 1) * 5 = k * 5 + 1 + 1 + 1 + 1 + 1 from by omega]
    simp only [List.drop_succ_cons, encells_cons]
    exact encells_drop l k
set_option maxRecDepth 100000 in
set_option maxHeartbeats 400000 in
theorem edrop_some {o : Nat → Nat} {c : Nat} {w : World} {r : Nat} {most : Int} {l : List En} (h : EringAt o c w r most l) (hm : l.length ≤ 100000) (k : Nat) (hk : 0 < k) (hk2 : k ≤ l.length) :
    Calls Tryz.prog 55 #[.pointer (some ⟨r, 0, none⟩), .int .i64 k] w fun e w' => e = .returned (.int .i64 k) ∧ ∃ o', EringAt o' c w' r most (l.drop k) ∧ Step o (only c) w o' w' := by
  have HR := Lib.hid h
  obtain ⟨A0, cap0, h0, h1, hfz, hc1, hc2, HB, HV, HO, HNE⟩ := h.open_
  clear h
  obtain ⟨i0, hi, hz0, hz1, hz2⟩ := info_parts info_en
  have hrl := HB.out.lt
  have hkI : (0 : Int) < (k : Int) := by omega
  have hkI2 : (k : Int) ≤ (l.length : Int) := by omega
  have hcapI : (k : Int) ≤ (cap0 : Int) := by omega
  have hmax : (cap0 : Int) ≤ 9223372036854775807 := by omega
  have hmin : min (k : Int) (l.length : Int) = k := by omega
  have hmx : max (k : Int) 0 = k := by omega
  go_enter Tryz.func55, Tryz.ntmps55
  go_wp2_with (first | (go_at_call 56; refine (elen_any HR.out).mono ?_; rintro e w' ⟨rfl, rfl⟩) | (at_builtin; refine wpList_append_S _ rfl (.const (.slice none 0 0)) (.tmp 18) 101 rfl 92 i0 _ 5 48 Tryz.underlying101 hi hz0 hz1 hz2 rfl (by omega) (.slice none 0 0) 0 [] rfl (OwnS.nil o c _ _ _) _ (l.length - k) (cap0 - k) ((encells l).drop (k * 5)) rfl (Reads.cut (Reads.of_own HV.out.1) hk2 hc1) (fun u hu => encells_one l u (List.mem_of_mem_drop hu)) (by unfold maxLen; omega) (by omega) ?_; intro v' w1 hown hk' hg hat; have hbl : Below w.heap.size w w1 := ⟨hg.os, hg.tape, hg.output, hg.size, fun k hk => hg.block k hk (by simp [Value.ownBlock])⟩; simp only [Nat.zero_add, List.nil_append] at hown; obtain ⟨A1, cap1, rfl, _, _⟩ := own_form_e hown; have HOWN := Lib.hid hown; have HBL := Lib.hid hbl; have HB1 := Lib.hid (HB.out.below_ hbl); have k0 := HB1.out.cell 0; have k1 := HB1.out.frozen 0; simp at k0 k1; clear hown hk' hg hat hbl))
  all_goals
    go_ret
    have hor : (band o w.heap.size w1.heap.size c) r = c := (band_lt HB.out.lt).trans HO.out
    refine ⟨rfl, _, ⟨_, HB1.out.set_ 0 _, hor, ?_⟩, (Step.of_below_band o (only c) c HBL.out).setCell (p := ⟨r, 0, none⟩) hor _⟩
    rw [encells_drop, List.length_drop]
    exact HOWN.out.setCell (p := ⟨r, 0, none⟩) (own_blk_ne HOWN.out HB1.out (by decide)) _
theorem edrop_any {o : Nat → Nat} {c : Nat} {w : World} {r : Nat} {most : Int} {l : List En} (h : EringAt o c w r most l) (hm : l.length ≤ 100000) (k : Nat) (hk2 : k ≤ l.length) :
    Calls Tryz.prog 55 #[.pointer (some ⟨r, 0, none⟩), .int .i64 k] w fun e w' => e = .returned (.int .i64 k) ∧ ∃ o', EringAt o' c w' r most (l.drop k) ∧ Step o (only c) w o' w' := by
  by_cases hk : 0 < k
  · exact edrop_some h hm k hk hk2
  · obtain rfl : k = 0 := by omega
    refine (edrop_zero h).mono ?_
    rintro e w' ⟨rfl, rfl⟩
    exact ⟨rfl, o, h, Step.refl _ _ _⟩
end Go.Proofs.YtcmneekdajnnaaaGreatDoor

/- A node's log: Free; Synced, First, Written. -/
namespace Go.Proofs.YtcmneekdajnnaaaGreatDoor
open Go.RowKit

/-- the entries that stay where those below one are freed -/
def Lg.left (g : Lg) (b : Nat) : List En := g.live.dropWhile (fun x : En => decide (x.lsn < b))
def Lg.leftAt (g : Lg) (b : Nat) : Nat := match g.left b with
  | [] => g.at_
  | x :: _ => x.at_
def Lg.freed (g : Lg) (b : Nat) : Lg := { g with live := g.left b, first := b, synced := max g.synced g.written }
def freeR (D : Dk) (g : Lg) (b : Nat) : LgR :=
  if g.mayE ≠ 0 then ⟨0, g.mayE, D, g⟩ else if g.synced + 1 < b then ⟨0, 1, D, g⟩ else if b ≤ g.first then ⟨0, 0, D, g⟩
  else if (D.lhead g ⟨g.epoch, b, (g.leftAt b : Int)⟩).1 ≠ 0 then ⟨0, (D.lhead g ⟨g.epoch, b, (g.leftAt b : Int)⟩).1, (D.lhead g ⟨g.epoch, b, (g.leftAt b : Int)⟩).2, g.failG (D.lhead g ⟨g.epoch, b, (g.leftAt b : Int)⟩).1⟩
  else ⟨0, 0, (D.lhead g ⟨g.epoch, b, (g.leftAt b : Int)⟩).2, g.freed b⟩
section
variable {o : Nat → Nat} {c cd p q k : Nat} {w : World} {g : Lg} {D : Dk}
theorem gsynced_any (h : LogAt o c w q g p) : Calls Tryz.prog 13 #[.pointer (some ⟨q, 0, none⟩)] w fun e w' => e = .returned (.int .u64 g.synced) ∧ w = w' := by
  have H := Lib.hid h
  obtain ⟨r, hb, _, _⟩ := h
  have x13 : w.cell? ⟨q, 13, none⟩ = some (.int .u64 g.synced) := hb.cell 13
  clear hb
  go_enter Tryz.func13, Tryz.ntmps13
  go_wp2_with fail
  refine (gnone_any H.out).mono ?_
  rintro e w1 ⟨rfl, rfl⟩
  go_wp2_with fail
  go_ret
  exact ⟨rfl, rfl⟩
theorem gfirst_any (h : LogAt o c w q g p) : Calls Tryz.prog 12 #[.pointer (some ⟨q, 0, none⟩)] w fun e w' => e = .returned (.int .u64 g.first) ∧ w = w' := by
  have H := Lib.hid h
  obtain ⟨r, hb, _, _⟩ := h
  have x10 : w.cell? ⟨q, 10, none⟩ = some (.int .u64 g.first) := hb.cell 10
  clear hb
  go_enter Tryz.func12, Tryz.ntmps12
  go_wp2_with fail
  refine (gnone_any H.out).mono ?_
  rintro e w1 ⟨rfl, rfl⟩
  go_wp2_with fail
  go_ret
  exact ⟨rfl, rfl⟩
theorem gwritten_any (h : LogAt o c w q g p) : Calls Tryz.prog 14 #[.pointer (some ⟨q, 0, none⟩)] w fun e w' => e = .returned (.int .u64 g.written) ∧ w = w' := by
  have H := Lib.hid h
  obtain ⟨r, hb, _, _⟩ := h
  have x12 : w.cell? ⟨q, 12, none⟩ = some (.int .u64 g.written) := hb.cell 12
  clear hb
  go_enter Tryz.func14, Tryz.ntmps14
  go_wp2_with fail
  refine (gnone_any H.out).mono ?_
  rintro e w1 ⟨rfl, rfl⟩
  go_wp2_with fail
  go_ret
  exact ⟨rfl, rfl⟩
theorem drop_while_len (f : En → Bool) : ∀ l : List En, l.drop (l.length - (l.dropWhile f).length) = l.dropWhile f ∧ (l.dropWhile f).length ≤ l.length
  | [] => by simp
  | x :: l => by
    obtain ⟨h1, h2⟩ := drop_while_len f l
    by_cases hx : f x = true
    · rw [List.dropWhile_cons_of_pos hx]
      refine ⟨?_, by simp; omega⟩
      rw [List.length_cons, show l.length + 1 - (l.dropWhile f).length = (l.length - (l.dropWhile f).length) + 1 by omega]
      exact h1
    · rw [List.dropWhile_cons_of_neg hx]
      simp
def lenOf : Value → Nat
  | .slice _ n _ => n
  | _ => 0
theorem Reads.entail2 {w : World} {ad : Addr} {x : En} {l : List En} {cap : Nat} (h : Reads w 5 (some ad) (x :: l).length (encells (x :: l))) (hc : l.length + 1 ≤ cap) :
    Reads w 5 (if cap = 1 then some ad else some ⟨ad.block, ad.off + 5, none⟩) l.length (encells l) := by
  have h1 := h.cut (k := 1) (cap := cap) (by simp) hc
  have e : ad.add (1 * 5) = ⟨ad.block, ad.off + 5, none⟩ := by unfold Addr.add; simp
  rw [show (some ad).map (·.add (1 * 5)) = some (ad.add (1 * 5)) from rfl, e] at h1
  exact h1
theorem edrop_w {o : Nat → Nat} {c : Nat} {w : World} {r : Nat} {most : Int} {l : List En} (h : EringAt o c w r most l) (hm : l.length ≤ 100000) (n : Nat) (hn : n ≤ l.length) (hw : IntKind.i64.wrap ((l.length : Int) - (n : Int)) = (l.length : Int) - (n : Int)) :
    Calls Tryz.prog 55 #[.pointer (some ⟨r, 0, none⟩), .int .i64 ((l.length : Int) - (n : Int))] w fun e w' => e = .returned (.int .i64 ((l.length : Int) - (n : Int))) ∧ ∃ o', EringAt o' c w' r most (l.drop (l.length - n)) ∧ Step o (only c) w o' w' := by
  have h1 := edrop_any h hm (l.length - n) (by omega)
  rw [show ((l.length - n : Nat) : Int) = (l.length : Int) - (n : Int) by omega] at h1
  exact h1
set_option maxRecDepth 100000 in
set_option maxHeartbeats 8000000 in
theorem gfree_any (h : LogAt o c w q g p) (hd : DiskAt o cd w p D) (ht : Tame D k) (hk : k ≤ 600000) (hcd : 1 ≤ cd) (hc : cd + 5 < c) (hep : g.epoch < 18446744073709551616) (hl : g.live.length ≤ 1000) (hsy : g.synced ≤ 1000000) (b : Nat) (hb : b < 18446744073709551616) :
    Calls Tryz.prog 11 #[.pointer (some ⟨q, 0, none⟩), .int .u64 b] w fun e w' => e = .returned (.int .i64 (freeR D g b).e) ∧ ∃ o', DiskAt o' cd w' p (freeR D g b).D ∧ LogAt o' c w' q (freeR D g b).g p ∧ Tame (freeR D g b).D (k + 1) ∧ Step o (logC cd c) w o' w' := by
  have H := Lib.hid h
  have HD := Lib.hid hd
  have HT := Lib.hid ht
  have HN1 := Lib.hid (show ¬ six cd c by unfold six; omega)
  have HN2 := Lib.hid (show ¬ six cd (c + 1) by unfold six; omega)
  have HCX := Lib.hid hc
  have HK := Lib.hid hk
  have HCD := Lib.hid hcd
  have HEP := Lib.hid hep
  have HL := Lib.hid hl
  have HBB := Lib.hid hb
  have HFE := Lib.hid (show freeR D g b = if g.mayE ≠ 0 then ⟨0, g.mayE, D, g⟩ else if g.synced + 1 < b then ⟨0, 1, D, g⟩ else if b ≤ g.first then ⟨0, 0, D, g⟩
    else if (D.lhead g ⟨g.epoch, b, (g.leftAt b : Int)⟩).1 ≠ 0 then ⟨0, (D.lhead g ⟨g.epoch, b, (g.leftAt b : Int)⟩).1, (D.lhead g ⟨g.epoch, b, (g.leftAt b : Int)⟩).2, g.failG (D.lhead g ⟨g.epoch, b, (g.leftAt b : Int)⟩).1⟩
    else ⟨0, 0, (D.lhead g ⟨g.epoch, b, (g.leftAt b : Int)⟩).2, g.freed b⟩ from rfl)
  generalize freeR D g b = R at HFE ⊢
  obtain ⟨M, hM⟩ : ∃ M, g.mayE = M := ⟨_, rfl⟩
  rw [hM] at HFE
  have HMM := Lib.hid hM
  obtain ⟨r, hb', hc', hr⟩ := h
  have x13 : w.cell? ⟨q, 13, none⟩ = some (.int .u64 g.synced) := hb'.cell 13
  have x10 : w.cell? ⟨q, 10, none⟩ = some (.int .u64 g.first) := hb'.cell 10
  have HB := Lib.hid hb'
  have HC := Lib.hid hc'
  have HR := Lib.hid hr
  have hw1 : IntKind.u64.wrap ((g.synced : Int) + 1) = (g.synced : Int) + 1 := by rw [IntWalk.u64_in _ (by omega)]
  clear hd ht hk hcd hc hep hl hb hM hb' hc' hr hsy
  by_cases h0 : M = 0
  · subst h0
    by_cases h1 : g.synced + 1 < b
    · have HR2 := Lib.hid (show R = ⟨0, 1, D, g⟩ by rw [HFE.out]; simp [h1])
      have h1I : (g.synced : Int) + 1 < (b : Int) := by omega
      clear HFE h1
      go_enter Tryz.func11, Tryz.ntmps11
      go_wp2_with fail
      refine (gmay_any H.out).mono ?_
      rintro e w1 ⟨rfl, rfl⟩
      rw [HMM.out]
      go_wp2_with fail
      go_ret
      exact ⟨by rw [HR2.out]; rfl, o, by rw [HR2.out]; exact HD.out, by rw [HR2.out]; exact H.out, by rw [HR2.out]; exact HT.out.mono (by omega), Step.refl _ _ _⟩
    · have h1I : ¬ (g.synced : Int) + 1 < (b : Int) := by omega
      by_cases h2 : b ≤ g.first
      · have HR2 := Lib.hid (show R = ⟨0, 0, D, g⟩ by rw [HFE.out]; simp [h1, h2])
        have h2I : (b : Int) ≤ (g.first : Int) := by omega
        clear HFE h1 h2
        go_enter Tryz.func11, Tryz.ntmps11
        go_wp2_with fail
        refine (gmay_any H.out).mono ?_
        rintro e w1 ⟨rfl, rfl⟩
        rw [HMM.out]
        go_wp2_with fail
        go_ret
        exact ⟨by rw [HR2.out]; rfl, o, by rw [HR2.out]; exact HD.out, by rw [HR2.out]; exact H.out, by rw [HR2.out]; exact HT.out.mono (by omega), Step.refl _ _ _⟩
      · have HR2 := Lib.hid (show R = if (D.lhead g ⟨g.epoch, b, (g.leftAt b : Int)⟩).1 ≠ 0 then ⟨0, (D.lhead g ⟨g.epoch, b, (g.leftAt b : Int)⟩).1, (D.lhead g ⟨g.epoch, b, (g.leftAt b : Int)⟩).2, g.failG (D.lhead g ⟨g.epoch, b, (g.leftAt b : Int)⟩).1⟩ else ⟨0, 0, (D.lhead g ⟨g.epoch, b, (g.leftAt b : Int)⟩).2, g.freed b⟩ by rw [HFE.out]; simp [h1, h2])
        have h2I : ¬ (b : Int) ≤ (g.first : Int) := by omega
        clear HFE h1 h2
        go_enter Tryz.func11, Tryz.ntmps11
        go_wp2_with fail
        refine (gmay_any H.out).mono ?_
        rintro e w1 ⟨rfl, rfl⟩
        rw [HMM.out]
        go_upto_region 8 with (fail)
        have z2 : w.drew.cell? ⟨q, 14, none⟩ = some (.pointer (some ⟨r, 0, none⟩)) ∧ w.drew.cell? ⟨q, 11, none⟩ = some (.int .i64 g.at_) := ⟨HB.out.cell 14, HB.out.cell 11⟩
        go_region_held3 (fun w' => w'.cell? ⟨q, 14, none⟩ = some (.pointer (some ⟨r, 0, none⟩)) ∧ w'.cell? ⟨q, 11, none⟩ = some (.int .i64 g.at_))
          (first | exact z2 | exact ⟨hbb.cell 14, hbb.cell 11⟩ | go_keep)
          (first | (go_at_call 50; ((with_reducible refine (elist_any 0 HR.out.drew (by have := HL.out; omega)).mono ?_); rintro e2 w2 ⟨A, cap, rfl, hv2, hb2⟩; have hbb := HB.out.drew.below_ hb2)))
        have HB2 := Lib.hid hbb
        have HD2 := Lib.hid ((HD.out.drewN 1).below_ hb2)
        have H2 := Lib.hid (H.out.drew.below_ hb2)
        have HS2 := Lib.hid ((Step.of_below o (logC cd c) hb2).of_drew)
        obtain ⟨A0, cap0, e0, hcn, hcm⟩ := own_form_e hv2
        injection e0 with e1 e2 e3
        subst e1
        subst e3
        have HV2 := Lib.hid (Reads.of_own hv2.1)
        have HCN := Lib.hid hcn
        have HCM := Lib.hid hcm
        clear hbb hb2 hv2 e2 hcn hcm z2 x13 x10 HB HC HR
        go_wp2_with fail
        go_loopw [6] (fun t6 wr => ∃ (l : List En) (A' : Option Addr) (cap' : Nat), wr = w2 ∧ t6 = .slice A' l.length cap' ∧ l.length ≤ cap' ∧ cap' ≤ maxLen ∧ l.length ≤ g.live.length ∧ Reads w2 5 A' l.length (encells l) ∧ g.left b = l.dropWhile (fun x : En => decide (x.lsn < b))) (fun t6 _ => lenOf t6)
        case atStart => exact ⟨g.live, A, cap, rfl, rfl, HCN.out, HCM.out, by omega, HV2.out, rfl⟩
        case round =>
          obtain ⟨l, A', cap', rfl, rfl, hcn, hcm, hll, hrd, hlf⟩ := hrel
          have hcmI : (cap' : Int) ≤ 9223372036854775807 := by unfold maxLen at hcm; omega
          have hcnI : (l.length : Int) ≤ (cap' : Int) := by omega
          have HRD := Lib.hid hrd
          have HLF := Lib.hid hlf
          have HCM2 := Lib.hid hcm
          clear hrd hlf hcm
          cases l with
          | nil =>
            have HLE := Lib.hid (show g.left b = [] by rw [HLF.out]; rfl)
            obtain ⟨atv, hatv⟩ : ∃ n : Nat, n = g.at_ := ⟨_, rfl⟩
            have HAT := Lib.hid (show g.leftAt b = atv by unfold Lg.leftAt; rw [HLE.out, hatv])
            have hatI : (g.at_ : Int) = (atv : Int) := by rw [hatv]
            obtain ⟨n, hn⟩ : ∃ n : Nat, ([] : List En).length = n := ⟨_, rfl⟩
            have HNL := Lib.hid (show (g.left b).length = n by rw [HLE.out, hn])
            rw [hn] at hcn hcnI hll ⊢
            have hnz : ¬ (0 : Int) < (n : Int) := by simp at hn; omega
            have hn := Lib.hid hn
            go_upto_region 13 with (fail)
            clear hatI hatv hn hcn hcnI hnz
            clear HRD HLF HCM2
            have HAB : Hid (n ≤ g.live.length) := Lib.hid hll
            have hnI : (n : Int) ≤ (g.live.length : Int) := by omega
            have hLI : (g.live.length : Int) ≤ 1000 := by have := HL.out; omega
            have hwd : IntKind.i64.wrap ((g.live.length : Int) - (n : Int)) = (g.live.length : Int) - (n : Int) := by rw [IntWalk.i64_in _ (by omega)]
            have HH := Lib.hid (ghead_any H2.out HD2.out HT.out (by have := HK.out; omega) HCD.out HCX.out HEP.out b HBB.out (atv : Int))
            rw [HAT.out] at HR2
            go_wp2_with fail
            refine HH.out.mono ?_
            rintro e w3 ⟨rfl, o3, hd3, hs3⟩
            have HD3 := Lib.hid hd3
            have HS3 := Lib.hid (HS2.out.trans (hs3.mono (logC_six cd c)))
            have H3 := Lib.hid (H2.out.step hs3 HN1.out HN2.out)
            have HT3 := Lib.hid (HT.out.lhead g ⟨g.epoch, b, (atv : Int)⟩)
            clear hd3 hs3 HH
            obtain ⟨F, hF⟩ : ∃ F, D.lhead g ⟨g.epoch, b, (atv : Int)⟩ = F := ⟨_, rfl⟩
            rw [hF] at HR2 HD3 HT3 ⊢
            obtain ⟨F, D3⟩ := F
            simp only at HD3 HT3 HR2 ⊢
            clear hF
            by_cases hF0 : F = 0
            · subst hF0
              have HR4 := Lib.hid (show R = ⟨0, 0, D3, g.freed b⟩ by rw [HR2.out]; simp)
              clear HR2
              obtain ⟨r3, HB3, HC3, HR3, v14, _⟩ := H3.out.out_
              go_upto_region 16 with (fail)
              have z14 : w3.drew.cell? ⟨q, 14, none⟩ = some (.pointer (some ⟨r3, 0, none⟩)) := v14
              have HDR := Lib.hid (edrop_w HR3.out.drew (by have := HL.out; omega) n HAB.out hwd)
              clear v14
              go_region_held3 (fun w' => w'.cell? ⟨q, 14, none⟩ = some (.pointer (some ⟨r3, 0, none⟩)))
                (first | exact z14 | exact hb5.cell 14 | go_keep)
                (first | (go_at_call 56; ((with_reducible refine (elen_any HR3.out.drew).mono ?_); rintro e4 w4 ⟨rfl, rfl⟩)) | (go_at_call 55; ((with_reducible refine HDR.out.mono ?_); rintro e5 w5 ⟨rfl, o5, hr5, hs5⟩; have hb5 := HB3.out.drew.step hs5 (by rw [HC3.out]; unfold only; omega))))
              have hc5 : o5 q = c := (hs5.old q HB3.out.lt).trans HC3.out
              have hle : g.live.drop (g.live.length - n) = g.left b := by rw [← HNL.out]; exact (drop_while_len _ g.live).1
              rw [hle] at hr5
              have HB5 := Lib.hid hb5
              have HR5 := Lib.hid hr5
              have HC5 := Lib.hid hc5
              have HS5 := Lib.hid (HS3.out.trans (hs5.of_drew.mono (logC_ring cd c)))
              have HD5 := Lib.hid (HD3.out.step hs5.of_drew (by have := HCX.out; unfold only; omega))
              have x10 : w5.cell? ⟨q, 10, none⟩ = some (.int .u64 g.first) := hb5.cell 10
              have x12 : w5.cell? ⟨q, 12, none⟩ = some (.int .u64 g.written) := hb5.cell 12
              have x13 : w5.cell? ⟨q, 13, none⟩ = some (.int .u64 g.synced) := hb5.cell 13
              have f10 := hb5.frozen 10
              have f13 := hb5.frozen 13
              have HMX := Lib.hid (show ((max g.synced g.written : Nat) : Int) = max (g.synced : Int) (g.written : Int) by omega)
              clear hc5 hle hr5 hb5 hs5 z14
              go_upto_region 17 with (fail)
              go_region
              go_wp2_with fail
              go_ret
              rw [← HMX.out]
              have S6 := ((Step.refl o5 (only c) w5).setCell (p := ⟨q, 10, none⟩) HC5.out (.int .u64 (b : Int))).setCell (p := ⟨q, 13, none⟩) HC5.out (.int .u64 ((max g.synced g.written : Nat) : Int))
              have H6 : LogAt o5 c ((w5.setCell ⟨q, 10, none⟩ (.int .u64 (b : Int))).setCell ⟨q, 13, none⟩ (.int .u64 ((max g.synced g.written : Nat) : Int))) q (g.freed b) p := ⟨r3, (HB5.out.set_ 10 (.int .u64 (b : Int))).set_ 13 (.int .u64 ((max g.synced g.written : Nat) : Int)), HC5.out, HR5.out.step S6 (by unfold only; omega)⟩
              exact ⟨by rw [HR4.out]; rfl, o5, by rw [HR4.out]; exact (HD5.out.step S6 (by have := HCX.out; unfold only; omega)).drewN 1, by rw [HR4.out]; exact H6.drew, by rw [HR4.out]; exact HT3.out, (HS5.out.trans (S6.mono (logC_log cd c))).drewN 1⟩
            · have t1 : (F != 0) = true := bne_iff_ne.2 hF0
              have HR4 := Lib.hid (show R = ⟨0, F, D3, g.failG F⟩ by rw [HR2.out, if_pos hF0])
              clear HR2 hF0
              go_wp2_with fail
              refine (gfail_any H3.out F).mono ?_
              rintro e w4 ⟨rfl, hl4, hs4⟩
              have HL4 := Lib.hid hl4
              have HS4 := Lib.hid (HS3.out.trans (hs4.mono (logC_log cd c)))
              have HD4 := Lib.hid (HD3.out.step hs4 (by have := HCX.out; unfold only; omega))
              clear hl4 hs4
              go_wp2_with fail
              go_ret
              exact ⟨by rw [HR4.out]; rfl, o3, by rw [HR4.out]; exact HD4.out, by rw [HR4.out]; exact HL4.out, by rw [HR4.out]; exact HT3.out, HS4.out⟩
          | cons x l =>
            obtain ⟨ad, rfl, y0, y1, _, _, _⟩ := Reads.enrow (k := 0) HRD.out rfl
            have ez : ad.add (0 * 5) = ad := by unfold Addr.add; split <;> simp_all
            rw [ez] at y0 y1
            have hpos : (0 : Int) < (l.length : Int) + 1 := by omega
            simp only [List.length_cons] at hcn hcnI hll
            by_cases hlt : x.lsn < b
            · have hltI : (x.lsn : Int) < (b : Int) := by omega
              have HLT := Lib.hid hlt
              clear ez hlt
              go_wp2_with fail
              go_roundw
              case rel =>
                refine ⟨l, _, cap' - 1, trivial, rfl, by omega, by have := HCM2.out; omega, by omega, ?_, ?_⟩
                · exact HRD.out.entail2 hcn
                · rw [HLF.out, List.dropWhile_cons_of_pos (by simpa using HLT.out)]
              case measure => simp [lenOf]
            · have hltI : ¬ (x.lsn : Int) < (b : Int) := by omega
              have HLE := Lib.hid (show g.left b = x :: l by rw [HLF.out, List.dropWhile_cons_of_neg (by simpa using hlt)])
              have HAT := Lib.hid (show g.leftAt b = x.at_ by unfold Lg.leftAt; rw [HLE.out])
              have HNL := Lib.hid (show (g.left b).length = l.length + 1 by rw [HLE.out]; rfl)
              clear ez hlt
              go_upto_region 13 with (fail)
              obtain ⟨atv, hatv⟩ : ∃ n : Nat, x.at_ = n := ⟨_, rfl⟩
              rw [hatv] at HAT ⊢
              rw [List.length_cons]
              obtain ⟨n, hn⟩ : ∃ n : Nat, l.length + 1 = n := ⟨_, rfl⟩
              rw [hn] at HNL hll ⊢
              clear hatv hn hpos hcn hcnI y0 y1 hltI
              clear HRD HLF HCM2
              have HAB : Hid (n ≤ g.live.length) := Lib.hid hll
              have hnI : (n : Int) ≤ (g.live.length : Int) := by omega
              have hLI : (g.live.length : Int) ≤ 1000 := by have := HL.out; omega
              have hwd : IntKind.i64.wrap ((g.live.length : Int) - (n : Int)) = (g.live.length : Int) - (n : Int) := by rw [IntWalk.i64_in _ (by omega)]
              have HH := Lib.hid (ghead_any H2.out HD2.out HT.out (by have := HK.out; omega) HCD.out HCX.out HEP.out b HBB.out (atv : Int))
              rw [HAT.out] at HR2
              go_wp2_with fail
              refine HH.out.mono ?_
              rintro e w3 ⟨rfl, o3, hd3, hs3⟩
              have HD3 := Lib.hid hd3
              have HS3 := Lib.hid (HS2.out.trans (hs3.mono (logC_six cd c)))
              have H3 := Lib.hid (H2.out.step hs3 HN1.out HN2.out)
              have HT3 := Lib.hid (HT.out.lhead g ⟨g.epoch, b, (atv : Int)⟩)
              clear hd3 hs3 HH
              obtain ⟨F, hF⟩ : ∃ F, D.lhead g ⟨g.epoch, b, (atv : Int)⟩ = F := ⟨_, rfl⟩
              rw [hF] at HR2 HD3 HT3 ⊢
              obtain ⟨F, D3⟩ := F
              simp only at HD3 HT3 HR2 ⊢
              clear hF
              by_cases hF0 : F = 0
              · subst hF0
                have HR4 := Lib.hid (show R = ⟨0, 0, D3, g.freed b⟩ by rw [HR2.out]; simp)
                clear HR2
                obtain ⟨r3, HB3, HC3, HR3, v14, _⟩ := H3.out.out_
                go_upto_region 16 with (fail)
                have z14 : w3.drew.cell? ⟨q, 14, none⟩ = some (.pointer (some ⟨r3, 0, none⟩)) := v14
                have HDR := Lib.hid (edrop_w HR3.out.drew (by have := HL.out; omega) n HAB.out hwd)
                clear v14
                go_region_held3 (fun w' => w'.cell? ⟨q, 14, none⟩ = some (.pointer (some ⟨r3, 0, none⟩)))
                  (first | exact z14 | exact hb5.cell 14 | go_keep)
                  (first | (go_at_call 56; ((with_reducible refine (elen_any HR3.out.drew).mono ?_); rintro e4 w4 ⟨rfl, rfl⟩)) | (go_at_call 55; ((with_reducible refine HDR.out.mono ?_); rintro e5 w5 ⟨rfl, o5, hr5, hs5⟩; have hb5 := HB3.out.drew.step hs5 (by rw [HC3.out]; unfold only; omega))))
                have hc5 : o5 q = c := (hs5.old q HB3.out.lt).trans HC3.out
                have hle : g.live.drop (g.live.length - n) = g.left b := by rw [← HNL.out]; exact (drop_while_len _ g.live).1
                rw [hle] at hr5
                have HB5 := Lib.hid hb5
                have HR5 := Lib.hid hr5
                have HC5 := Lib.hid hc5
                have HS5 := Lib.hid (HS3.out.trans (hs5.of_drew.mono (logC_ring cd c)))
                have HD5 := Lib.hid (HD3.out.step hs5.of_drew (by have := HCX.out; unfold only; omega))
                have x10 : w5.cell? ⟨q, 10, none⟩ = some (.int .u64 g.first) := hb5.cell 10
                have x12 : w5.cell? ⟨q, 12, none⟩ = some (.int .u64 g.written) := hb5.cell 12
                have x13 : w5.cell? ⟨q, 13, none⟩ = some (.int .u64 g.synced) := hb5.cell 13
                have f10 := hb5.frozen 10
                have f13 := hb5.frozen 13
                have HMX := Lib.hid (show ((max g.synced g.written : Nat) : Int) = max (g.synced : Int) (g.written : Int) by omega)
                clear hc5 hle hr5 hb5 hs5 z14
                go_upto_region 17 with (fail)
                go_region
                go_wp2_with fail
                go_ret
                rw [← HMX.out]
                have S6 := ((Step.refl o5 (only c) w5).setCell (p := ⟨q, 10, none⟩) HC5.out (.int .u64 (b : Int))).setCell (p := ⟨q, 13, none⟩) HC5.out (.int .u64 ((max g.synced g.written : Nat) : Int))
                have H6 : LogAt o5 c ((w5.setCell ⟨q, 10, none⟩ (.int .u64 (b : Int))).setCell ⟨q, 13, none⟩ (.int .u64 ((max g.synced g.written : Nat) : Int))) q (g.freed b) p := ⟨r3, (HB5.out.set_ 10 (.int .u64 (b : Int))).set_ 13 (.int .u64 ((max g.synced g.written : Nat) : Int)), HC5.out, HR5.out.step S6 (by unfold only; omega)⟩
                exact ⟨by rw [HR4.out]; rfl, o5, by rw [HR4.out]; exact (HD5.out.step S6 (by have := HCX.out; unfold only; omega)).drewN 1, by rw [HR4.out]; exact H6.drew, by rw [HR4.out]; exact HT3.out, (HS5.out.trans (S6.mono (logC_log cd c))).drewN 1⟩
              · have t1 : (F != 0) = true := bne_iff_ne.2 hF0
                have HR4 := Lib.hid (show R = ⟨0, F, D3, g.failG F⟩ by rw [HR2.out, if_pos hF0])
                clear HR2 hF0
                go_wp2_with fail
                refine (gfail_any H3.out F).mono ?_
                rintro e w4 ⟨rfl, hl4, hs4⟩
                have HL4 := Lib.hid hl4
                have HS4 := Lib.hid (HS3.out.trans (hs4.mono (logC_log cd c)))
                have HD4 := Lib.hid (HD3.out.step hs4 (by have := HCX.out; unfold only; omega))
                clear hl4 hs4
                go_wp2_with fail
                go_ret
                exact ⟨by rw [HR4.out]; rfl, o3, by rw [HR4.out]; exact HD4.out, by rw [HR4.out]; exact HL4.out, by rw [HR4.out]; exact HT3.out, HS4.out⟩
  · have HR2 := Lib.hid (show R = ⟨0, M, D, g⟩ by rw [HFE.out, if_pos h0])
    have t1 : (M != 0) = true := bne_iff_ne.2 h0
    clear HFE h0
    go_enter Tryz.func11, Tryz.ntmps11
    go_wp2_with fail
    refine (gmay_any H.out).mono ?_
    rintro e w1 ⟨rfl, rfl⟩
    rw [HMM.out]
    go_wp2_with fail
    go_ret
    exact ⟨by rw [HR2.out]; rfl, o, by rw [HR2.out]; exact HD.out, by rw [HR2.out]; exact H.out, by rw [HR2.out]; exact HT.out.mono (by omega), Step.refl _ _ _⟩
end
end Go.Proofs.YtcmneekdajnnaaaGreatDoor

/- A log that lives, plain: Add, Write, Sync, Free; it lives on, or the power has gone. -/
namespace Go.Proofs.YtcmneekdajnnaaaGreatDoor
open Go.RowKit

section
variable {ims : List Im} {D : Dk} {g : Lg}
theorem Lv.mono (h : Lv ims D g) {m : Nat} {m' : Nat} {c c' : Nat} (h1 : g.first ≤ m) (h2 : m ≤ ims.length) (h3 : g.first ≤ m') (h4 : m' ≤ ims.length) (hc : c < 3) (hc' : c' < 3) (e : plc m c = plc m' c') : m = m' ∧ c = c' := by
  have := h.few
  have := h.f1
  by_cases hm : m = m'
  · subst hm
    exact ⟨rfl, plc_inj hc hc' e⟩
  · exfalso
    rcases (show m = m' + 1 ∨ m' = m + 1 by omega) with e1 | e1
    · exact plc_ne (m := m) (m' := m') (by omega) e1 hc hc' e
    · exact plc_ne (m := m') (m' := m) (by omega) e1 hc' hc e.symm
theorem done_written (x : En) : x.done.written = true := rfl
theorem enM_written (m : Nat) (i : Im) : (enM m i).written = false := rfl
/-- one record more is written -/
theorem Lv.put (h : Lv ims D g) (hw : g.written < ims.length) {im : Im} (him : ims[g.written]? = some im) :
    (D.armed = true ∧ (D.put_ g (enM (g.written + 1) im)).1 = 14 ∧ Off1 (D.put_ g (enM (g.written + 1) im)).2 9 (AA ims (fun H => H = g.first) g.first g.synced)) ∨
    ((D.put_ g (enM (g.written + 1) im)).1 = 0 ∧ Lv ims (D.put_ g (enM (g.written + 1) im)).2 (g.wrote (g.written + 1 - g.first) (enM (g.written + 1) im)) ∧ (D.put_ g (enM (g.written + 1) im)).2.armed = D.armed) := by
  have f1 := h.f1
  have f2 := h.f2
  have sw := h.sw
  have few := h.few
  have len := h.len
  have htl : (ims.take g.written).length = g.written := by rw [List.length_take]; omega
  have htl2 : (ims.take (g.written + 1)).length = g.written + 1 := by rw [List.length_take]; omega
  rcases put_go (ims := ims.take (g.written + 1)) (g := g) (m := g.written + 1) (im := im) h.node h.epoch h.base f1 (by omega) (by omega) (by omega) (tk_get (by simpa using him) (by omega)) 3 0 D (by omega) (by omega) (h.run.more f1 (by omega) (tk_more (by omega))) with ⟨p0, p1, p2⟩ | ⟨p1, p2, p3, p6, p4, p5⟩
  · exact .inl ⟨p0, p1, p2.more f1 (by omega) tk_sub⟩
  · right
    refine ⟨p1, ⟨p2, h.node, h.epoch, h.base, h.next, h.at_, h.whole, f1, f2, ?_, ?_, few, h.fine, ?_, ?_, ?_, h.few60, p6.trans h.last⟩, p3⟩
    · show g.synced ≤ g.written + 1
      omega
    · show g.written + 1 ≤ ims.length
      omega
    · show (g.live.set _ _).length = _
      rw [List.length_set]
      exact len
    · intro t x hx
      have hx : (g.live.set (g.written + 1 - g.first) (enM (g.written + 1) im).done)[t]? = some x := hx
      show ∃ i, ims[g.first + t - 1]? = some i ∧ x = if g.first + t ≤ g.written + 1 then (enM (g.first + t) i).done else enM (g.first + t) i
      by_cases ht : t = g.written + 1 - g.first
      · subst ht
        have hl := (List.getElem?_eq_some_iff.1 hx).1
        rw [List.length_set] at hl
        rw [List.getElem?_set_self hl] at hx
        injection hx with hx
        have e : g.first + (g.written + 1 - g.first) = g.written + 1 := by omega
        rw [e]
        exact ⟨im, by simpa using him, by rw [if_pos (Nat.le_refl _)]; exact hx.symm⟩
      · rw [List.getElem?_set_ne (by omega)] at hx
        obtain ⟨i, i0, i1⟩ := h.live t x hx
        refine ⟨i, i0, ?_⟩
        rw [i1]
        by_cases h1 : g.first + t ≤ g.written
        · rw [if_pos h1, if_pos (by omega)]
        · rw [if_neg h1, if_neg (by omega)]
    · intro m i c m1 m2 mi hc
      have m2 : m ≤ g.written + 1 := m2
      by_cases hm : m = g.written + 1
      · subst hm
        have : i = im := by
          rw [Nat.add_sub_cancel, him] at mi
          injection mi with mi
          exact mi.symm
        subst this
        exact p4 c (by omega) hc
      · have m1 : g.first ≤ m := m1
        have e := p5 (2 + ((plc m c : Nat) : Int)) (fun d _ d2 e => hm (h.mono (m := m) (m' := g.written + 1) m1 (by omega) (by omega) (by omega) hc d2 (by omega)).1)
        exact e.trans (h.now m i c m1 (by omega) mi hc)
/-- how Write and Sync end -/
structure Goes (ims : List Im) (D : Dk) (g : Lg) (R : LgR) : Prop where
  err : R.e = 0
  lv : Lv ims R.D R.g
  armed : R.D.armed = D.armed
  first : R.g.first = g.first
  more : g.synced ≤ R.g.synced
def Falls (ims : List Im) (D : Dk) (g : Lg) (R : LgR) : Prop := D.armed = true ∧ R.e = 14 ∧ Off1 R.D 9 (AA ims (fun H => H = g.first) g.first g.synced)
theorem Lv.wrGo : ∀ (l : List En) (k n : Nat) (D : Dk) (g : Lg), Lv ims D g → l = g.live.drop k → (∀ t, t < k → t < g.live.length → g.first + t ≤ g.written) →
    Falls ims D g (wrGo l k n D g) ∨ (Goes ims D g (wrGo l k n D g) ∧ (wrGo l k n D g).g.written = ims.length ∧ (wrGo l k n D g).g.synced = g.synced)
  | [], k, n, D, g, h, hl, hk => by
    have f2 := h.f2
    have sw := h.sw
    have wn := h.wn
    have len := h.len
    have hkl : g.live.length ≤ k := List.drop_eq_nil_iff.1 hl.symm
    refine .inr ⟨⟨rfl, h, rfl, rfl, Nat.le_refl _⟩, ?_, rfl⟩
    show g.written = ims.length
    by_cases h0 : g.live.length = 0
    · omega
    · have := hk (g.live.length - 1) (by omega) (by omega)
      omega
  | x :: l, k, n, D, g, h, hl, hk => by
    have f2 := h.f2
    have sw := h.sw
    have wn := h.wn
    have len := h.len
    have hx : g.live[k]? = some x := by
      have := congrArg (fun z : List En => z[0]?) hl
      simpa using this.symm
    have hkl := (List.getElem?_eq_some_iff.1 hx).1
    have hl2 : l = g.live.drop (k + 1) := by
      have := congrArg List.tail hl
      simpa [List.tail_drop] using this
    obtain ⟨i, i0, i1⟩ := h.live k x hx
    by_cases hw : g.first + k ≤ g.written
    · rw [if_pos hw] at i1
      rw [wrGo_true (by rw [i1]; rfl)]
      refine Lv.wrGo l (k + 1) n D g h hl2 (fun t h1 h2 => ?_)
      by_cases ht : t = k
      · subst ht
        exact hw
      · exact hk t (by omega) h2
    · rw [if_neg hw] at i1
      have em : g.first + k = g.written + 1 := by
        by_cases hk0 : k = 0
        · omega
        · have := hk (k - 1) (by omega) (by omega)
          omega
      have hwl : g.written < ims.length := by omega
      rw [em] at i0 i1
      subst i1
      rw [wrGo_false (enM_written _ _)]
      rcases h.put hwl (by simpa using i0) with ⟨p0, p1, p2⟩ | ⟨p1, p2, p3⟩
      · rw [if_pos (by rw [p1]; decide)]
        exact .inl ⟨p0, p1, p2⟩
      · rw [if_neg (by rw [p1]; decide)]
        have ek : g.written + 1 - g.first = k := by omega
        rw [ek] at p2
        have hlen2 : (g.wrote k (enM (g.written + 1) i)).live.length = g.live.length := by
          show (g.live.set k _).length = _
          rw [List.length_set]
        rcases Lv.wrGo l (k + 1) (n + 1) _ _ p2 (by show l = (g.live.set k _).drop (k + 1); rw [List.drop_set_of_lt (by omega)]; exact hl2) (fun t h1 h2 => by
          show g.first + t ≤ g.written + 1
          omega) with ⟨q0, q1, q2⟩ | ⟨q1, q2, q3⟩
        · exact .inl ⟨by rw [← p3]; exact q0, q1, q2⟩
        · exact .inr ⟨⟨q1.err, q1.lv, q1.armed.trans p3, q1.first, q1.more⟩, q2, q3⟩
theorem Lv.may (h : Lv ims D g) : g.mayE = 0 := by
  unfold Lg.mayE
  rw [if_neg (by rw [h.whole]; decide)]
theorem Lv.write (h : Lv ims D g) : Falls ims D g (writeR D g) ∨ (Goes ims D g (writeR D g) ∧ (writeR D g).g.written = ims.length ∧ (writeR D g).g.synced = g.synced) := by
  unfold writeR
  rw [if_neg (by rw [h.may]; decide)]
  exact Lv.wrGo g.live 0 0 D g h rfl (fun t h1 => by omega)
/-- what stands, stands as it is to -/
theorem Lv.settled (h : Lv ims D g) : Run1 (D.settle (1 : Nat)) 9 (AA (ims.take g.written) (fun H => H = g.first) g.first g.written) := by
  obtain ⟨r1, r2⟩ := h.run.settle
  refine r1.weak r2 (fun k => ?_)
  have h1 := r1.safe.sec r1.sane k
  refine ⟨h1.head, h1.ring, fun m i c m1 m2 mi hc e => ?_, h1.rest⟩
  rw [settle_sec, e]
  exact h.now m i c m1 m2 (tk_sub _ _ mi) hc
theorem Lv.sync (h : Lv ims D g) : Falls ims D g (syncR D g) ∨ (Goes ims D g (syncR D g) ∧ (syncR D g).g.synced = ims.length) := by
  rcases h.write with ⟨p0, p1, p2⟩ | ⟨q, qw, qs⟩
  · left
    have : syncR D g = writeR D g := by
      unfold syncR
      rw [if_pos (by rw [p1]; decide)]
    rw [this]
    exact ⟨p0, p1, p2⟩
  · have hv := q.lv
    by_cases hle : (writeR D g).g.written ≤ (writeR D g).g.synced
    · right
      have : syncR D g = writeR D g := by
        unfold syncR
        rw [if_neg (by rw [q.err]; decide), if_pos hle]
      rw [this]
      have := hv.sw
      exact ⟨q, by omega⟩
    · have es : syncR D g = if ((writeR D g).D.barrier (writeR D g).g.node (writeR D g).g.epoch).1 ≠ 0 then ⟨0, ((writeR D g).D.barrier (writeR D g).g.node (writeR D g).g.epoch).1, ((writeR D g).D.barrier (writeR D g).g.node (writeR D g).g.epoch).2, (writeR D g).g.failG ((writeR D g).D.barrier (writeR D g).g.node (writeR D g).g.epoch).1⟩
          else ⟨0, 0, ((writeR D g).D.barrier (writeR D g).g.node (writeR D g).g.epoch).2, { (writeR D g).g with synced := (writeR D g).g.written }⟩ := by
        unfold syncR
        rw [if_neg (by rw [q.err]; decide), if_neg hle]
      rw [es]
      have qf := q.first
      have qa := q.armed
      clear es
      generalize writeR D g = R at hv qw qs hle qf qa ⊢
      obtain ⟨wn_, we, E, G⟩ := R
      simp only at hv qw qs hle qf qa ⊢
      rw [hv.node, hv.epoch]
      rcases hv.run.barrier (by decide) with ⟨b0, b1, b2⟩ | ⟨l, b1⟩
      · left
        rw [if_pos (by rw [b1]; decide)]
        refine ⟨by rw [← qa]; exact b0, b1, ?_⟩
        rw [← qf, ← qs]
        exact b2.more hv.f1 (by rw [List.length_take]; have := hv.sw; have := hv.wn; omega) tk_sub
      · right
        rw [b1, if_neg (by simp)]
        have hv2 : Lv ims ({ E with left := l } : Dk) G := ⟨hv.run.left l, hv.node, hv.epoch, hv.base, hv.next, hv.at_, hv.whole, hv.f1, hv.f2, hv.sw, hv.wn, hv.few, hv.fine, hv.len, hv.live, hv.now, hv.few60, hv.last⟩
        have hs := hv2.settled
        have := hv.sw
        have := hv.f2
        refine ⟨⟨rfl, ⟨hs, rfl, rfl, hv.base, hv.next, hv.at_, hv.whole, hv.f1, ?_, Nat.le_refl _, hv.wn, hv.few, hv.fine, hv.len, hv.live, fun m i c m1 m2 mi hc => ?_, hv.few60, ?_⟩, ?_, qf, ?_⟩, ?_⟩
        · show G.first ≤ G.written + 1
          omega
        · show (({ E with left := l } : Dk).settle ((1 : Nat) : Int)).sec _ = _
          rw [settle_sec]
          exact hv.now m i c m1 m2 mi hc
        · show (({ E with left := l } : Dk).settle ((1 : Nat) : Int)).last = 9
          rw [(settle_same _ _).2.2.2.1]
          exact hv.last
        · show (({ E with left := l } : Dk).settle ((1 : Nat) : Int)).armed = _
          rw [(settle_same _ _).2.1]
          exact qa
        · show g.synced ≤ G.written
          omega
        · exact qw
/-- Free: nothing, or the head is laid anew -/
theorem hd_ok {H a : Nat} (h1 : 1 ≤ H) (h2 : a < 7) : ¬ (Hd.mk 9 H ((a : Nat) : Int)).bad := by
  unfold Hd.bad
  simp only
  omega
theorem drop_while {live : List En} {F b : Nat} (hl : ∀ (t : Nat) x, live[t]? = some x → x.lsn = F + t) (hb : F ≤ b) : live.dropWhile (fun x : En => decide (x.lsn < b)) = live.drop (b - F) := by
  induction live generalizing F with
  | nil => simp
  | cons x l ih =>
    have h0 := hl 0 x rfl
    by_cases h1 : b = F
    · subst h1
      rw [Nat.sub_self, List.drop_zero, List.dropWhile_cons_of_neg (by simp; omega)]
    · rw [List.dropWhile_cons_of_pos (by simp; omega), show b - F = (b - (F + 1)) + 1 by omega, List.drop_succ_cons]
      exact ih (F := F + 1) (fun t y hy => by
        have := hl (t + 1) y (by simpa using hy)
        omega) (by omega)
theorem Lv.lsn (h : Lv ims D g) : ∀ (t : Nat) x, g.live[t]? = some x → x.lsn = g.first + t ∧ x.at_ = 3 * (g.first + t - 1) % 7 := by
  intro t x hx
  obtain ⟨i, _, e⟩ := h.live t x hx
  rw [e]
  split <;> exact ⟨rfl, rfl⟩
theorem Lv.leftOf (h : Lv ims D g) {b : Nat} (hb : g.first ≤ b) (hb2 : b ≤ g.synced + 1) : g.left b = g.live.drop (b - g.first) ∧ g.leftAt b = 3 * (b - 1) % 7 := by
  have e : g.left b = g.live.drop (b - g.first) := drop_while (fun t x hx => (h.lsn t x hx).1) hb
  refine ⟨e, ?_⟩
  unfold Lg.leftAt
  rw [e]
  have len := h.len
  have f1 := h.f1
  have sw := h.sw
  have wn := h.wn
  cases hd : g.live.drop (b - g.first) with
  | nil =>
    have := List.drop_eq_nil_iff.1 hd
    show g.at_ = _
    rw [h.at_]
    congr 2
    omega
  | cons x l =>
    have hx : g.live[b - g.first]? = some x := by
      have := congrArg (fun z : List En => z[0]?) hd
      simpa using this
    show x.at_ = _
    rw [(h.lsn _ x hx).2]
    congr 2
    omega
theorem Lv.free (h : Lv ims D g) (b : Nat) :
    (D.armed = true ∧ (freeR D g b).e = 14 ∧ g.first < b ∧ b ≤ g.synced + 1 ∧ Off1 (freeR D g b).D 9 (AA ims (fun H => H = g.first ∨ H = b) g.first g.synced)) ∨
    (freeR D g b = ⟨0, 1, D, g⟩) ∨ ((freeR D g b).e = 0 ∧ Lv ims (freeR D g b).D (freeR D g b).g ∧ (freeR D g b).D.armed = D.armed ∧ (freeR D g b).g.first = max g.first b ∧ g.synced ≤ (freeR D g b).g.synced) := by
  unfold freeR
  rw [if_neg (by rw [h.may]; decide)]
  by_cases h1 : g.synced + 1 < b
  · rw [if_pos h1]
    exact .inr (.inl rfl)
  rw [if_neg h1]
  by_cases h2 : b ≤ g.first
  · rw [if_pos h2]
    exact .inr (.inr ⟨rfl, h, rfl, by show g.first = _; omega, Nat.le_refl _⟩)
  rw [if_neg h2]
  have f1 := h.f1
  have sw := h.sw
  have wn := h.wn
  have f2 := h.f2
  have few := h.few
  have len := h.len
  obtain ⟨l1, l2⟩ := h.leftOf (b := b) (by omega) (by omega)
  rw [l2, h.epoch]
  obtain ⟨a, ha⟩ : ∃ a, 3 * (b - 1) % 7 = a := ⟨_, rfl⟩
  have hal : a < 7 := by omega
  have hnb := hd_ok (H := b) (a := a) (by omega) hal
  have hdb : hdB b = str (headL ⟨9, b, ((a : Nat) : Int)⟩) := by unfold hdB; rw [ha]
  rw [ha]
  have hpe : (Hd.mk 9 b ((a : Nat) : Int)).putE = 0 := if_neg hnb
  have hps : (Hd.mk 9 b ((a : Nat) : Int)).putS = str (headL ⟨9, b, ((a : Nat) : Int)⟩) := if_neg hnb
  have hsz : (str (headL ⟨9, b, ((a : Nat) : Int)⟩)).size = 1 * 64 := by rw [str_size, headL_len]
  have el : D.lhead g ⟨9, b, ((a : Nat) : Int)⟩ = if (D.write (1 : Nat) 9 ((1 : Nat) : Int) (str (headL ⟨9, b, ((a : Nat) : Int)⟩))).1 ≠ 0 then D.write (1 : Nat) 9 ((1 : Nat) : Int) (str (headL ⟨9, b, ((a : Nat) : Int)⟩)) else (D.write (1 : Nat) 9 ((1 : Nat) : Int) (str (headL ⟨9, b, ((a : Nat) : Int)⟩))).2.barrier (1 : Nat) 9 := by
    unfold Dk.lhead
    rw [if_neg (by rw [hpe]; decide), hps, h.node, h.epoch, h.base]
  have htl : (ims.take g.written).length = g.written := by rw [List.length_take]; omega
  have hr0 : Run1 D 9 (AA (ims.take g.written) (fun H => H = g.first ∨ H = b) g.first g.synced) := ⟨h.run.on, h.run.sectors, h.run.t1, h.run.sane, ⟨fun k => (h.run.safe.last k).mono (fun _ e => .inl e) (Nat.le_refl _) (Nat.le_refl _), fun x hx => (h.run.safe.wait x hx).mono (fun _ e => .inl e) (Nat.le_refl _) (Nat.le_refl _)⟩⟩
  have hsc0 : sect (str (headL ⟨9, b, ((a : Nat) : Int)⟩)) 0 = hdB b := by
    rw [hdb]
    unfold sect
    rw [extract_str]
    congr 1
    all_goals rw [Nat.zero_mul, List.drop_zero, List.take_of_length_le (by rw [headL_len]; first | done | omega)]
  generalize D.lhead g ⟨9, b, ((a : Nat) : Int)⟩ = L at el ⊢
  rcases hr0.write (by decide) hsz (by omega) (by omega) (a := ((1 : Nat) : Int)) (by omega) (by omega) with ⟨w0, w1, w2⟩ | ⟨l, w1⟩
  · left
    rw [if_pos (by rw [w1]; decide)] at el
    subst el
    rw [if_pos (by rw [w1]; decide)]
    exact ⟨w0, w1, by omega, by omega, w2.more f1 (by omega) tk_sub⟩
  · rw [w1, if_neg (by simp)] at el
    have hr1 := (hr0.left l).wrote (a := ((1 : Nat) : Int)) (data := str (headL ⟨9, b, ((a : Nat) : Int)⟩)) (m := 1) (fun j hj => by
      obtain rfl : j = 0 := by omega
      rw [hsc0]
      exact ⟨fun _ => ⟨b, .inr rfl, rfl⟩, fun j' hj' e => by omega, fun m i c _ _ _ _ e => by omega, fun e => by omega⟩)
    have harm := (writeN_same ({ D with left := l } : Dk) ((1 : Nat) : Int) ((1 : Nat) : Int) (str (headL ⟨9, b, ((a : Nat) : Int)⟩)) 1).2.1
    have hlas := (writeN_same ({ D with left := l } : Dk) ((1 : Nat) : Int) ((1 : Nat) : Int) (str (headL ⟨9, b, ((a : Nat) : Int)⟩)) 1).2.2.2.1
    have hsc := writeN_sec ({ D with left := l } : Dk) ((1 : Nat) : Int) ((1 : Nat) : Int) (str (headL ⟨9, b, ((a : Nat) : Int)⟩)) 1
    simp only at el
    generalize (({ D with left := l } : Dk).writeN ((1 : Nat) : Int) ((1 : Nat) : Int) (str (headL ⟨9, b, ((a : Nat) : Int)⟩)) 1) = E at hr1 harm hlas hsc el
    have harm : E.armed = D.armed := harm
    have hlas : E.last = D.last := hlas
    have hsc : ∀ k : Int, E.sec k = if ((1 : Nat) : Int) ≤ k ∧ k < ((1 : Nat) : Int) + ((1 : Nat) : Int) then sect (str (headL ⟨9, b, ((a : Nat) : Int)⟩)) (k - ((1 : Nat) : Int)).toNat else D.sec k := hsc
    rcases hr1.barrier (by decide) with ⟨b0, b1, b2⟩ | ⟨l', b1⟩
    · left
      subst el
      rw [if_pos (by rw [b1]; decide)]
      exact ⟨by rw [← harm]; exact b0, b1, by omega, by omega, b2.more f1 (by omega) tk_sub⟩
    · right
      right
      rw [b1] at el
      subst el
      rw [if_neg (by simp)]
      obtain ⟨r1, r2⟩ := (hr1.left l').settle
      have hsec : ∀ k : Int, k ≠ 1 → (({ E with left := l' } : Dk).settle ((1 : Nat) : Int)).sec k = D.sec k := fun k hk => by
        rw [settle_sec]
        show E.sec k = _
        rw [hsc, if_neg (by omega)]
      have hnow : ∀ (m : Nat) i (c : Nat), b ≤ m → m ≤ g.written → ims[m - 1]? = some i → c < 3 → (({ E with left := l' } : Dk).settle ((1 : Nat) : Int)).sec (2 + ((plc m c : Nat) : Int)) = str (secR m i c) := fun m i c m1 m2 mi hc => by
        rw [hsec _ (by omega)]
        exact h.now m i c (by omega) m2 mi hc
      have hr3 : Run1 (({ E with left := l' } : Dk).settle ((1 : Nat) : Int)) 9 (AA (ims.take g.written) (fun H => H = b) b (max g.synced g.written)) := by
        refine r1.weak r2 (fun k => ?_)
        have h1 := r1.safe.sec r1.sane k
        refine ⟨fun e => ⟨b, rfl, ?_⟩, h1.ring, fun m i c m1 m2 mi hc e => ?_, h1.rest⟩
        · rw [settle_sec]
          show E.sec k = _
          rw [hsc, if_pos (by omega), show (k - ((1 : Nat) : Int)).toNat = 0 by omega, hsc0]
        · rw [e]
          exact hnow m i c m1 (by omega) (tk_sub _ _ mi) hc
      refine ⟨rfl, ⟨hr3, h.node, h.epoch, h.base, h.next, h.at_, h.whole, ?_, ?_, ?_, h.wn, ?_, h.fine, ?_, ?_, hnow, h.few60, ?_⟩, ?_, ?_, ?_⟩
      · show 1 ≤ b
        omega
      · show b ≤ max g.synced g.written + 1
        omega
      · show max g.synced g.written ≤ g.written
        omega
      · show ims.length < b + 2
        omega
      · show (g.left b).length = ims.length + 1 - b
        rw [l1, List.length_drop, len]
        omega
      · intro t x hx
        have hx : (g.left b)[t]? = some x := hx
        rw [l1, List.getElem?_drop] at hx
        obtain ⟨i, i0, i1⟩ := h.live _ x hx
        rw [show g.first + (b - g.first + t) = b + t by omega] at i0 i1
        exact ⟨i, i0, i1⟩
      · show (({ E with left := l' } : Dk).settle ((1 : Nat) : Int)).last = 9
        rw [(settle_same _ _).2.2.2.1]
        exact hlas.trans h.last
      · show (({ E with left := l' } : Dk).settle ((1 : Nat) : Int)).armed = D.armed
        rw [(settle_same _ _).2.1]
        exact harm
      · show b = max g.first b
        omega
      · show g.synced ≤ max g.synced g.written
        omega
end
end Go.Proofs.YtcmneekdajnnaaaGreatDoor
