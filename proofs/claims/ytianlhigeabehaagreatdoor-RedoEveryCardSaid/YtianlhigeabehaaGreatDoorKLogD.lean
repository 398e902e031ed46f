/- A node's log: Write, Sync. -/
import Derived.Test.YtianlhigeabehaaGreatDoorKLogB
namespace Go.Proofs.YtianlhigeabehaaGreatDoor
open Go.RowKit

/-- the disk's colours, and the log's -/
def logC (cd c : Nat) : Nat → Prop := fun x => six cd x ∨ x = c ∨ x = c + 1
theorem logC_six (cd c : Nat) : ∀ x, six cd x → logC cd c x := fun _ h => .inl h
theorem logC_log (cd c : Nat) : ∀ x, only c x → logC cd c x := fun _ h => .inr (.inl h)
theorem logC_ring (cd c : Nat) : ∀ x, only (c + 1) x → logC cd c x := fun _ h => .inr (.inr h)
/-- what a call tells: how many, the error; the disk, and the log, behind it -/
structure LgR where
  n : Nat
  e : Int
  D : Dk
  g : Lg
def En.done (x : En) : En := { x with written := true, bytes := ⟨#[]⟩ }
def Lg.wrote (g : Lg) (k : Nat) (x : En) : Lg := { g with live := g.live.set k x.done, written := x.lsn }
def wrGo : List En → Nat → Nat → Dk → Lg → LgR
  | [], _, n, D, g => ⟨n, 0, D, g⟩
  | x :: l, k, n, D, g => if x.written then wrGo l (k + 1) n D g else if (D.put_ g x).1 ≠ 0 then ⟨0, (D.put_ g x).1, (D.put_ g x).2, g.failG (D.put_ g x).1⟩ else wrGo l (k + 1) (n + 1) (D.put_ g x).2 (g.wrote k x)
def writeR (D : Dk) (g : Lg) : LgR := if g.mayE ≠ 0 then ⟨0, g.mayE, D, g⟩ else wrGo g.live 0 0 D g
/-- entries that may be put -/
def Ens (l : List En) : Prop := ∀ x ∈ l, x.at_ < 7 ∧ x.n ≤ 7 ∧ (x.written = false → x.bytes.size = x.n * 64)
theorem Fut.band0 {o : Nat → Nat} {w : World} (hf : Fut o w) (m : Nat) : band o w.heap.size m 0 = o := by
  funext k
  unfold band
  split
  · exact (hf k (by omega)).symm
  · rfl
theorem wrGo_drop {l : List En} {k : Nat} {x : En} (h : l[k]? = some x) : l.drop k = x :: l.drop (k + 1) := by
  obtain ⟨hk, e⟩ := List.getElem?_eq_some_iff.1 h
  rw [← e]
  exact List.drop_eq_getElem_cons hk
theorem wrGo_true {x : En} (h : x.written = true) (l : List En) (k n : Nat) (D : Dk) (g : Lg) : wrGo (x :: l) k n D g = wrGo l (k + 1) n D g := by
  show (if x.written = true then _ else _) = _
  rw [if_pos h]
theorem wrGo_false {x : En} (h : x.written = false) (l : List En) (k n : Nat) (D : Dk) (g : Lg) : wrGo (x :: l) k n D g = if (D.put_ g x).1 ≠ 0 then ⟨0, (D.put_ g x).1, (D.put_ g x).2, g.failG (D.put_ g x).1⟩ else wrGo l (k + 1) (n + 1) (D.put_ g x).2 (g.wrote k x) := by
  show (if x.written = true then _ else _) = _
  rw [if_neg (by rw [h]; decide)]
theorem LogAt.out_ {o : Nat → Nat} {c p q : Nat} {w : World} {g : Lg} (h : LogAt o c w q g p) : ∃ r, Hid (Blk w q 77 (g.cells p r)) ∧ Hid (o q = c) ∧ Hid (EringAt o (c + 1) w r 100000 g.live) ∧ w.cell? ⟨q, 14, none⟩ = some (.pointer (some ⟨r, 0, none⟩)) ∧ w.frozen? ⟨q, 12, none⟩ = false := by
  obtain ⟨r, h1, h2, h3⟩ := h
  exact ⟨r, h1, h2, h3, h1.cell 14, h1.frozen 12⟩
theorem EringAt.drew {o : Nat → Nat} {c : Nat} {w : World} {r : Nat} {most : Int} {l : List En} (h : EringAt o c w r most l) : EringAt o c w.drew r most l := h
theorem eset_done {o : Nat → Nat} {c : Nat} {w : World} {r : Nat} {most : Int} {l : List En} (h : EringAt o c w r most l) (k : Nat) (hk : k < l.length) (x : En) :
    Calls Tryz.prog 84 #[.pointer (some ⟨r, 0, none⟩), .int .i64 k, .agg #[.int .u64 x.lsn, .int .i64 x.at_, .int .i64 x.n, .string ⟨#[]⟩, .bool true]] w fun e w' => e = .returned (.bool true) ∧ EringAt o c w' r most (l.set k x.done) ∧ Step o (only c) w o w' := eset_any h k hk x.done
section
variable {o : Nat → Nat} {c cd p q k : Nat} {w : World} {g : Lg} {D : Dk}
set_option maxRecDepth 100000 in
set_option maxHeartbeats 8000000 in
theorem gwrite_any (h : LogAt o c w q g p) (hd : DiskAt o cd w p D) (ht : Tame D k) (hk : k ≤ 600000) (hcd : 1 ≤ cd) (hc : cd + 5 < c) (hf : Fut o w) (hb : g.base ≤ 1000) (hl : g.live.length ≤ 1000) (hen : Ens g.live) :
    Calls Tryz.prog 40 #[.pointer (some ⟨q, 0, none⟩)] w fun e w' => e = .returned (.tuple #[.int .i64 (writeR D g).n, .int .i64 (writeR D g).e]) ∧ ∃ o', DiskAt o' cd w' p (writeR D g).D ∧ LogAt o' c w' q (writeR D g).g p ∧ Tame (writeR D g).D (k + 7 * g.live.length) ∧ Step o (logC cd c) w o' w' := by
  have H := Lib.hid h
  have HD := Lib.hid hd
  have HT := Lib.hid ht
  have HN0 := Lib.hid (show ¬ logC cd c 0 by unfold logC six; omega)
  have HN1 := Lib.hid (show ¬ six cd c by unfold six; omega)
  have HN2 := Lib.hid (show ¬ six cd (c + 1) by unfold six; omega)
  have HCX := Lib.hid hc
  have HNS := Lib.hid (no_six hcd)
  have HK := Lib.hid hk
  have HCD := Lib.hid hcd
  have HBA := Lib.hid hb
  have HL := Lib.hid hl
  have HEN := Lib.hid hen
  have HFU := Lib.hid hf
  have HWE := Lib.hid (show writeR D g = if g.mayE ≠ 0 then ⟨0, g.mayE, D, g⟩ else wrGo g.live 0 0 D g from rfl)
  generalize writeR D g = R at HWE ⊢
  obtain ⟨M, hM⟩ : ∃ M, g.mayE = M := ⟨_, rfl⟩
  rw [hM] at HWE
  have HMM := Lib.hid hM
  obtain ⟨r, hb', hc', hr⟩ := h
  have x14 : w.cell? ⟨q, 14, none⟩ = some (.pointer (some ⟨r, 0, none⟩)) := hb'.cell 14
  have HR := Lib.hid hr
  clear hd ht hk hcd hc hb hl hen hf hM hb' hc' hr
  by_cases h0 : M = 0
  · subst h0
    have HW2 := Lib.hid (show R = wrGo g.live 0 0 D g by rw [HWE.out]; simp)
    clear HWE
    go_enter Tryz.func40, Tryz.ntmps40
    go_wp2_with fail
    refine (gmay_any H.out).mono ?_
    rintro e w1 ⟨rfl, rfl⟩
    rw [HMM.out]
    go_wp2_with fail
    refine (elist_any 0 HR.out (by have := HL.out; omega)).mono ?_
    rintro e w1 ⟨A, cap, rfl, hv, hb1⟩
    rw [HFU.out.band0] at hv
    have HV := Lib.hid hv
    have HS1 := Lib.hid (Step.of_below o (logC cd c) hb1)
    have H1 := Lib.hid (H.out.below_ hb1)
    have HD1 := Lib.hid (HD.out.below_ hb1)
    have HF1 := Lib.hid (HFU.out.below hb1)
    obtain ⟨N, hN⟩ : ∃ N, g.live.length = N := ⟨_, rfl⟩
    have HN := Lib.hid hN
    have hNI : (N : Int) ≤ 1000 := by have := HL.out; omega
    rw [hN]
    clear hv hb1 x14 hN
    go_wp2_with fail
    go_loopw [5, 20] (fun t5 t20 wr => ∃ (j n : Nat) (D1 : Dk) (g1 : Lg) (o1 : Nat → Nat), j ≤ N ∧ n ≤ j ∧ t5 = .int .i64 n ∧ t20 = .int .i64 j ∧ DiskAt o1 cd wr p D1 ∧ Tame D1 (k + 7 * j) ∧ Step o (logC cd c) w o1 wr ∧ LogAt o1 c wr q g1 p ∧ Fut o1 wr ∧ OwnS o1 0 wr 75 5 (.slice A N cap) N (encells g.live) ∧ R = wrGo (g.live.drop j) j n D1 g1 ∧ g1.base = g.base ∧ g1.live.length = N) (fun _ t20 _ => N - (intOf t20).toNat)
    case atStart => exact ⟨0, 0, D, g, o, by omega, by omega, rfl, rfl, HD1.out, HT.out, HS1.out, H1.out, HF1.out, by have h := HV.out; rw [HN.out] at h; exact h, HW2.out, rfl, HN.out⟩
    case round =>
      obtain ⟨j, n, D1, g1, o1, hj, hn, rfl, rfl, hd, ht, hs, hh, hf, hv, hr, hg1, hg2⟩ := hrel
      have HDr := Lib.hid hd
      have HTr := Lib.hid ht
      have HSr := Lib.hid hs
      have Hr := Lib.hid hh
      have HFr := Lib.hid hf
      have HVr := Lib.hid hv
      have HRr := Lib.hid hr
      have HG1 := Lib.hid hg1
      have HG2 := Lib.hid hg2
      have HNJ := Lib.hid hn
      clear hd ht hs hh hf hv hr hg1 hg2 hn
      by_cases hlt : j < N
      · have hltI : (j : Int) < (N : Int) := by omega
        obtain ⟨x, hx⟩ : ∃ x, g.live[j]? = some x := ⟨_, List.getElem?_eq_getElem (by rw [HN.out]; exact hlt)⟩
        have HDR := Lib.hid (wrGo_drop hx)
        have HX := Lib.hid (HEN.out x (List.mem_of_getElem? hx))
        obtain ⟨ad, rfl, y0, y1, y2, y3, y4⟩ := Reads.enrow (l := g.live) (A := A) (w := wr) (by rw [HN.out]; exact Reads.of_own HVr.out.1) hx
        have HE := Lib.hid (Keep.new HFr.out 75 #[.int .u64 x.lsn, .int .i64 x.at_, .int .i64 x.n, .string x.bytes, .bool x.written])
        have HD2 := Lib.hid (HDr.out.alloc (.cells #[.int .u64 x.lsn, .int .i64 x.at_, .int .i64 x.n, .string x.bytes, .bool x.written] 75))
        have HS2 := Lib.hid (HSr.out.alloc (.cells #[.int .u64 x.lsn, .int .i64 x.at_, .int .i64 x.n, .string x.bytes, .bool x.written] 75))
        have H2 := Lib.hid (Hr.out.alloc (.cells #[.int .u64 x.lsn, .int .i64 x.at_, .int .i64 x.n, .string x.bytes, .bool x.written] 75))
        have HF2 := Lib.hid (HFr.out.alloc (.cells #[.int .u64 x.lsn, .int .i64 x.at_, .int .i64 x.n, .string x.bytes, .bool x.written] 75))
        have HV2 := Lib.hid (HVr.out.alloc (.cells #[.int .u64 x.lsn, .int .i64 x.at_, .int .i64 x.n, .string x.bytes, .bool x.written] 75))
        have HJ := Lib.hid hj
        have HJL := Lib.hid hlt
        clear hx
        cases hw : x.written with
        | true =>
          rw [hw] at y4
          have HR2 := Lib.hid (show R = wrGo (g.live.drop (j + 1)) (j + 1) n D1 g1 by rw [HRr.out, HDR.out, wrGo_true hw])
          rw [hw] at HD2 HS2 H2 HF2 HV2
          clear hw
          go_wp2_with fail
          go_roundw
          case rel => exact ⟨j + 1, n, D1, g1, o1, by omega, by have := HNJ.out; omega, by go_num, by go_num, HD2.out, HTr.out.mono (by omega), HS2.out, H2.out, HF2.out, HV2.out, HR2.out, HG1.out, HG2.out⟩
          case measure => simp [intOf]; omega
        | false =>
          have HXS := Lib.hid (HX.out.2.2 hw)
          have HR2 := Lib.hid (show R = if (D1.put_ g1 x).1 ≠ 0 then ⟨0, (D1.put_ g1 x).1, (D1.put_ g1 x).2, g1.failG (D1.put_ g1 x).1⟩ else wrGo (g.live.drop (j + 1)) (j + 1) (n + 1) (D1.put_ g1 x).2 (g1.wrote j x) by
            rw [HRr.out, HDR.out, wrGo_false hw])
          rw [hw] at y4 HE HD2 HS2 H2 HF2 HV2
          have HWF := Lib.hid hw
          clear hw
          go_upto_region 9 with (fail)
          generalize wr.alloc (.cells #[.int .u64 x.lsn, .int .i64 x.at_, .int .i64 x.n, .string x.bytes, .bool false] 75) = W at HE HD2 HS2 H2 HF2 HV2 ⊢
          have HVN := Lib.hid (show ∀ g, (Value.slice (some ad) N cap).ownBlock = some g → g ≠ wr.heap.size from fun g hg => Nat.ne_of_lt (HVr.out.lt g hg))
          have HXW := Lib.hid (show w.heap.size ≤ wr.heap.size from HSr.out.size)
          generalize wr.heap.size = X at HE HVN HXW ⊢
          clear y0 y1 y2 y3 y4
          obtain ⟨z0, z1, z2, z3, z4⟩ := HE.out.1.five
          go_wp2_with fail
          have hput := gput_any H2.out HD2.out HTr.out (by have := HK.out; have := HL.out; have := HJ.out; have := HN.out; omega) HCD.out HCX.out HF2.out (by rw [HG1.out]; exact HBA.out) x HX.out.1 HX.out.2.1 HXS.out
          rw [show x.agg = .agg #[.int .u64 x.lsn, .int .i64 x.at_, .int .i64 x.n, .string x.bytes, .bool false] by unfold En.agg; rw [HWF.out]] at hput
          refine hput.mono ?_
          clear hput
          rintro e w2 ⟨rfl, o2, hd2, ht2, hs2⟩
          have HD3 := Lib.hid hd2
          have HT3 := Lib.hid (ht2.mono (m := k + 7 * (j + 1)) (by have := HX.out.2.1; omega))
          have HE3 := Lib.hid (HE.out.step hs2 HNS.out)
          have HS3 := Lib.hid (HS2.out.trans (hs2.mono (logC_six cd c)))
          have H3 := Lib.hid (H2.out.step hs2 HN1.out HN2.out)
          have HF3 := Lib.hid (HF2.out.step hs2)
          have HV3 := Lib.hid (HV2.out.step hs2 HNS.out)
          clear hd2 ht2 hs2 z0 z1 z2 z3 z4
          obtain ⟨F, hF⟩ : ∃ F, D1.put_ g1 x = F := ⟨_, rfl⟩
          rw [hF] at HR2 HD3 HT3 ⊢
          obtain ⟨F, D3⟩ := F
          simp only at HD3 HT3 HR2 ⊢
          clear hF
          by_cases h1 : F = 0
          · subst h1
            have HR3 := Lib.hid (show R = wrGo (g.live.drop (j + 1)) (j + 1) (n + 1) D3 (g1.wrote j x) by rw [HR2.out]; simp)
            clear HR2
            obtain ⟨z0, z1, z2, z3, z4⟩ := HE3.out.1.five
            have f3 := HE3.out.1.frozen 3
            have f4 := HE3.out.1.frozen 4
            go_upto_region 13 with (fail)
            have HE4 := Lib.hid ((HE3.out.set_ 4 (.bool true)).set_ 3 (.string ⟨#[]⟩))
            have S4 := ((Step.refl o2 (only 0) w2).setCell (p := ⟨X, 4, none⟩) HE3.out.2 (.bool true)).setCell (p := ⟨X, 3, none⟩) HE3.out.2 (.string ⟨#[]⟩)
            have HD4 := Lib.hid (HD3.out.step S4 (by have := HCD.out; unfold only; omega))
            have H4 := Lib.hid (H3.out.step S4 (by have := HCX.out; unfold only; omega) (by unfold only; omega))
            have HS4 := Lib.hid ((HS3.out.setNew (p := ⟨X, 4, none⟩) HXW.out (.bool true)).setNew (p := ⟨X, 3, none⟩) HXW.out (.string ⟨#[]⟩))
            have HV4 := Lib.hid ((HV3.out.setCell (p := ⟨X, 4, none⟩) (fun e => HVN.out X e rfl) (.bool true)).setCell (p := ⟨X, 3, none⟩) (fun e => HVN.out X e rfl) (.string ⟨#[]⟩))
            have HF4 := Lib.hid ((HF3.out.setCell ⟨X, 4, none⟩ (.bool true)).setCell ⟨X, 3, none⟩ (.string ⟨#[]⟩))
            clear S4 z0 z1 z2 z3 z4 f3 f4
            generalize (w2.setCell ⟨X, 4, none⟩ (.bool true)).setCell ⟨X, 3, none⟩ (.string ⟨#[]⟩) = W4 at HE4 HD4 H4 HS4 HV4 HF4 ⊢
            obtain ⟨r4, HB4, HC4, HR4, v14, _⟩ := H4.out.out_
            have z14 : W4.drew.cell? ⟨q, 14, none⟩ = some (.pointer (some ⟨r4, 0, none⟩)) := v14
            have z5 := HE4.out.drew.1.five
            go_region_held3 (fun w' => w'.cell? ⟨q, 14, none⟩ = some (.pointer (some ⟨r4, 0, none⟩)) ∧ w'.cell? ⟨X, 0, none⟩ = some (.int .u64 x.lsn) ∧ w'.cell? ⟨X, 1, none⟩ = some (.int .i64 x.at_) ∧ w'.cell? ⟨X, 2, none⟩ = some (.int .i64 x.n) ∧ w'.cell? ⟨X, 3, none⟩ = some (.string ⟨#[]⟩) ∧ w'.cell? ⟨X, 4, none⟩ = some (.bool true))
              (first | exact ⟨z14, z5.1, z5.2.1, z5.2.2.1, z5.2.2.2.1, z5.2.2.2.2⟩ | exact ⟨hb5.cell 14, hk5.1.cell 0, hk5.1.cell 1, hk5.1.cell 2, hk5.1.cell 3, hk5.1.cell 4⟩ | go_keep)
              (first | (go_at_call 84; ((with_reducible refine (eset_done HR4.out.drew j (by rw [HG2.out]; exact HJL.out) x).mono ?_); rintro e5 w5 ⟨rfl, hr5, hs5⟩; have hb5 := HB4.out.drew.step hs5 (by rw [HC4.out]; unfold only; omega); have hk5 := HE4.out.drew.step hs5 (by unfold only; omega))))
            have g12 := hb5.frozen 12
            have y12 : w5.cell? ⟨q, 12, none⟩ = some (.int .u64 g1.written) := hb5.cell 12
            have hc5 : o2 q = c := HC4.out
            have S6 := (Step.refl o2 (only c) w5).setCell (p := ⟨q, 12, none⟩) hc5 (.int .u64 x.lsn)
            have H6 := Lib.hid (show LogAt o2 c (w5.setCell ⟨q, 12, none⟩ (.int .u64 x.lsn)) q (g1.wrote j x) p from ⟨r4, hb5.set_ 12 (.int .u64 x.lsn), hc5, hr5.step S6 (by unfold only; omega)⟩)
            have HS6 := Lib.hid ((HS4.out.trans (hs5.of_drew.mono (logC_ring cd c))).trans (S6.mono (logC_log cd c)))
            have HD6 := Lib.hid ((HD4.out.step hs5.of_drew (by have := HCX.out; unfold only; omega)).step S6 (by have := HCX.out; unfold only; omega))
            have HF6 := Lib.hid ((HF4.out.step hs5.of_drew).step S6)
            have HV6 := Lib.hid ((HV4.out.step hs5.of_drew (by unfold only; omega)).step S6 (by have := HCX.out; unfold only; omega))
            have y0 : w5.cell? ⟨X, 0, none⟩ = some (.int .u64 x.lsn) := hk5.1.cell 0
            have hw1 : IntKind.i64.wrap ((n : Int) + 1) = ((n + 1 : Nat) : Int) := by rw [IntWalk.i64_in _ (by have := HNJ.out; omega)]; omega
            clear hb5 hk5 hr5 hs5 S6 hc5 z14 z5 v14
            go_wp2_with fail
            go_roundw
            case rel => exact ⟨j + 1, n + 1, D3, g1.wrote j x, o2, by omega, by have := HNJ.out; omega, by go_num, by go_num, HD6.out, HT3.out, HS6.out, H6.out, HF6.out, HV6.out, HR3.out, HG1.out, by show (g1.live.set j x.done).length = N; rw [List.length_set]; exact HG2.out⟩
            case measure => simp [intOf]; omega
          · have t1 : (F != 0) = true := bne_iff_ne.2 h1
            have HR3 := Lib.hid (show R = ⟨0, F, D3, g1.failG F⟩ by rw [HR2.out, if_pos h1])
            clear HR2 h1
            go_wp2_with fail
            refine (gfail_any H3.out F).mono ?_
            rintro e w4 ⟨rfl, hl4, hs4⟩
            have HL4 := Lib.hid hl4
            have HS4 := Lib.hid (HS3.out.trans (hs4.mono (logC_log cd c)))
            have HD4 := Lib.hid (HD3.out.step hs4 (by have := HCX.out; unfold only; omega))
            clear hl4 hs4
            go_wp2_with fail
            go_ret2
            exact ⟨by rw [HR3.out]; rfl, o2, by rw [HR3.out]; exact HD4.out, by rw [HR3.out]; exact HL4.out, by rw [HR3.out]; exact HT3.out.mono (by have := HJ.out; have := HN.out; have := HJL.out; omega), HS4.out⟩
      · have hltI : ¬ (j : Int) < (N : Int) := by omega
        obtain rfl : j = N := by omega
        have HR2 := Lib.hid (show R = ⟨n, 0, D1, g1⟩ by rw [HRr.out, ← HN.out, List.drop_length]; rfl)
        go_wp2_with fail
        go_ret2
        exact ⟨by rw [HR2.out]; rfl, o1, by rw [HR2.out]; exact HDr.out, by rw [HR2.out]; exact Hr.out, by rw [HR2.out]; exact HN.out ▸ HTr.out, HSr.out⟩
  · have HR2 := Lib.hid (show R = ⟨0, M, D, g⟩ by rw [HWE.out, if_pos h0])
    have t1 : (M != 0) = true := bne_iff_ne.2 h0
    clear HWE h0
    go_enter Tryz.func40, Tryz.ntmps40
    go_wp2_with fail
    refine (gmay_any H.out).mono ?_
    rintro e w1 ⟨rfl, rfl⟩
    rw [HMM.out]
    go_wp2_with fail
    go_ret2
    exact ⟨by rw [HR2.out]; rfl, o, by rw [HR2.out]; exact HD.out, by rw [HR2.out]; exact H.out, by rw [HR2.out]; exact HT.out.mono (by omega), Step.refl _ _ _⟩
end
end Go.Proofs.YtianlhigeabehaaGreatDoor

/- A node's log: Sync. -/
namespace Go.Proofs.YtianlhigeabehaaGreatDoor
open Go.RowKit

def syncR (D : Dk) (g : Lg) : LgR := if (writeR D g).e ≠ 0 then writeR D g else if (writeR D g).g.written ≤ (writeR D g).g.synced then writeR D g
  else if ((writeR D g).D.barrier (writeR D g).g.node (writeR D g).g.epoch).1 ≠ 0 then ⟨0, ((writeR D g).D.barrier (writeR D g).g.node (writeR D g).g.epoch).1, ((writeR D g).D.barrier (writeR D g).g.node (writeR D g).g.epoch).2, (writeR D g).g.failG ((writeR D g).D.barrier (writeR D g).g.node (writeR D g).g.epoch).1⟩
  else ⟨0, 0, ((writeR D g).D.barrier (writeR D g).g.node (writeR D g).g.epoch).2, { (writeR D g).g with synced := (writeR D g).g.written }⟩
section
variable {o : Nat → Nat} {c cd p q k : Nat} {w : World} {g : Lg} {D : Dk}
set_option maxRecDepth 100000 in
set_option maxHeartbeats 8000000 in
theorem gsync_any (h : LogAt o c w q g p) (hd : DiskAt o cd w p D) (ht : Tame D k) (hk : k ≤ 600000) (hcd : 1 ≤ cd) (hc : cd + 5 < c) (hf : Fut o w) (hb : g.base ≤ 1000) (hl : g.live.length ≤ 1000) (hen : Ens g.live) :
    Calls Tryz.prog 9 #[.pointer (some ⟨q, 0, none⟩)] w fun e w' => e = .returned (.int .i64 (syncR D g).e) ∧ ∃ o', DiskAt o' cd w' p (syncR D g).D ∧ LogAt o' c w' q (syncR D g).g p ∧ Tame (syncR D g).D (k + 7 * g.live.length) ∧ Step o (logC cd c) w o' w' := by
  have HS := Lib.hid (show syncR D g = if (writeR D g).e ≠ 0 then writeR D g else if (writeR D g).g.written ≤ (writeR D g).g.synced then writeR D g
    else if ((writeR D g).D.barrier (writeR D g).g.node (writeR D g).g.epoch).1 ≠ 0 then ⟨0, ((writeR D g).D.barrier (writeR D g).g.node (writeR D g).g.epoch).1, ((writeR D g).D.barrier (writeR D g).g.node (writeR D g).g.epoch).2, (writeR D g).g.failG ((writeR D g).D.barrier (writeR D g).g.node (writeR D g).g.epoch).1⟩
    else ⟨0, 0, ((writeR D g).D.barrier (writeR D g).g.node (writeR D g).g.epoch).2, { (writeR D g).g with synced := (writeR D g).g.written }⟩ from rfl)
  generalize syncR D g = S at HS ⊢
  have HW := Lib.hid (gwrite_any h hd ht hk hcd hc hf hb hl hen)
  have HL := Lib.hid hl
  have HK := Lib.hid hk
  have HCX := Lib.hid hc
  have HCD := Lib.hid hcd
  have HN1 := Lib.hid (show ¬ six cd c by unfold six; omega)
  have HN2 := Lib.hid (show ¬ six cd (c + 1) by unfold six; omega)
  clear h hd ht hk hcd hc hf hb hl hen
  generalize writeR D g = R at HS HW
  obtain ⟨n1, e1, D1, g1⟩ := R
  simp only at HS HW
  go_enter Tryz.func9, Tryz.ntmps9
  go_wp2_with fail
  refine HW.out.mono ?_
  rintro e w1 ⟨rfl, o1, hd1, hg1, ht1, hs1⟩
  have HD1 := Lib.hid hd1
  have H1 := Lib.hid hg1
  have HT1 := Lib.hid ht1
  have HS1 := Lib.hid hs1
  clear hd1 hg1 ht1 hs1 HW
  by_cases h0 : e1 = 0
  · subst h0
    obtain ⟨r1, HB1, HC1, HR1, _, _⟩ := H1.out.out_
    have x12 : w1.cell? ⟨q, 12, none⟩ = some (.int .u64 g1.written) := HB1.out.cell 12
    have x13 : w1.cell? ⟨q, 13, none⟩ = some (.int .u64 g1.synced) := HB1.out.cell 13
    by_cases h2 : g1.written ≤ g1.synced
    · have HR := Lib.hid (show S = ⟨n1, 0, D1, g1⟩ by rw [HS.out]; simp [h2])
      have h2I : ¬ (g1.synced : Int) < (g1.written : Int) := by omega
      clear HS h2
      go_wp2_with fail
      go_quiet (fail)
      go_wp2_with fail
      go_ret
      exact ⟨by rw [HR.out]; rfl, o1, by rw [HR.out]; exact HD1.out.drewN nq, by rw [HR.out]; exact H1.out.drewN nq, by rw [HR.out]; exact HT1.out, HS1.out.drewN nq⟩
    · have HS2 := Lib.hid (show S = if (D1.barrier g1.node g1.epoch).1 ≠ 0 then ⟨0, (D1.barrier g1.node g1.epoch).1, (D1.barrier g1.node g1.epoch).2, g1.failG (D1.barrier g1.node g1.epoch).1⟩ else ⟨0, 0, (D1.barrier g1.node g1.epoch).2, { g1 with synced := g1.written }⟩ by rw [HS.out]; simp [h2])
      have h2I : (g1.synced : Int) < (g1.written : Int) := by omega
      clear HS h2
      go_upto_region 4 with (fail)
      go_quiet (fail)
      have HD2 := Lib.hid (HD1.out.drewN nq)
      have H2 := Lib.hid (H1.out.drewN nq)
      have HS3 := Lib.hid (HS1.out.drewN nq)
      generalize w1.drewN nq = W2 at HD2 H2 HS3 ⊢
      clear x12 x13 HB1 HC1 HR1
      go_upto_region 5 with (fail)
      have x3 := H2.out.drew.three
      go_region_held3 (fun w' => w'.cell? ⟨q, 0, none⟩ = some (.pointer (some ⟨p, 0, none⟩)) ∧ w'.cell? ⟨q, 6, none⟩ = some (.int .i64 g1.node) ∧ w'.cell? ⟨q, 7, none⟩ = some (.int .u64 g1.epoch))
        (first | exact x3 | exact hx3.three | go_keep)
        (first | (go_at_call 41; ((with_reducible refine (dbarrier_calm HD2.out.drew g1.node g1.epoch (by have := HT1.out.waits; have := HK.out; have := HL.out; omega)).mono ?_); rintro e3 w3 ⟨rfl, o3, hd3, hs3⟩; have hx3 := H2.out.drew.step hs3 HN1.out HN2.out)))
      have HD3 := Lib.hid hd3
      have H3 := Lib.hid hx3
      have HS4 := Lib.hid (HS3.out.trans (hs3.of_drew.mono (logC_six cd c)))
      have HT3 := Lib.hid (HT1.out.barrier g1.node g1.epoch)
      clear hx3 hd3 hs3 x3
      obtain ⟨F, hF⟩ : ∃ F, D1.barrier g1.node g1.epoch = F := ⟨_, rfl⟩
      rw [hF] at HS2 HD3 HT3 ⊢
      obtain ⟨F, D3⟩ := F
      simp only at HD3 HT3 HS2 ⊢
      clear hF
      obtain ⟨r3, HB3, HC3, HR3, _, _⟩ := H3.out.out_
      by_cases h1 : F = 0
      · subst h1
        have HR := Lib.hid (show S = ⟨0, 0, D3, { g1 with synced := g1.written }⟩ by rw [HS2.out]; simp)
        clear HS2
        have x12 : w3.cell? ⟨q, 12, none⟩ = some (.int .u64 g1.written) := HB3.out.cell 12
        have x13 : w3.cell? ⟨q, 13, none⟩ = some (.int .u64 g1.synced) := HB3.out.cell 13
        have f13 := HB3.out.frozen 13
        have S6 := (Step.refl o3 (only c) w3).setCell (p := ⟨q, 13, none⟩) HC3.out (.int .u64 g1.written)
        have H6 := Lib.hid (show LogAt o3 c (w3.setCell ⟨q, 13, none⟩ (.int .u64 g1.written)) q { g1 with synced := g1.written } p from ⟨r3, HB3.out.set_ 13 (.int .u64 g1.written), HC3.out, HR3.out.step S6 (by unfold only; omega)⟩)
        have HS6 := Lib.hid (HS4.out.trans (S6.mono (logC_log cd c)))
        have HD6 := Lib.hid (HD3.out.step S6 (by have := HCX.out; unfold only; omega))
        clear S6
        go_wp2_with fail
        go_ret
        exact ⟨by rw [HR.out]; rfl, o3, by rw [HR.out]; exact HD6.out, by rw [HR.out]; exact H6.out, by rw [HR.out]; exact HT3.out, HS6.out⟩
      · have t1 : (F != 0) = true := bne_iff_ne.2 h1
        have HR := Lib.hid (show S = ⟨0, F, D3, g1.failG F⟩ by rw [HS2.out, if_pos h1])
        clear HS2 h1
        go_wp2_with fail
        refine (gfail_any H3.out F).mono ?_
        rintro e w4 ⟨rfl, hl4, hs4⟩
        have HL4 := Lib.hid hl4
        have HS5 := Lib.hid (HS4.out.trans (hs4.mono (logC_log cd c)))
        have HD4 := Lib.hid (HD3.out.step hs4 (by have := HCX.out; unfold only; omega))
        clear hl4 hs4
        go_wp2_with fail
        go_ret
        exact ⟨by rw [HR.out]; rfl, o3, by rw [HR.out]; exact HD4.out, by rw [HR.out]; exact HL4.out, by rw [HR.out]; exact HT3.out, HS5.out⟩
  · have t1 : (e1 != 0) = true := bne_iff_ne.2 h0
    have HR := Lib.hid (show S = ⟨n1, e1, D1, g1⟩ by rw [HS.out, if_pos h0])
    clear HS h0
    go_wp2_with fail
    go_ret
    exact ⟨by rw [HR.out]; rfl, o1, by rw [HR.out]; exact HD1.out, by rw [HR.out]; exact H1.out, by rw [HR.out]; exact HT1.out, HS1.out⟩
end
end Go.Proofs.YtianlhigeabehaaGreatDoor
