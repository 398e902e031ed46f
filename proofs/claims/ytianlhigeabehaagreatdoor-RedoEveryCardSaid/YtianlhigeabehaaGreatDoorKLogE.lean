/- Records: Put; a log's head put. -/
import Derived.Test.YtianlhigeabehaaGreatDoorKRecB
import Derived.Test.YtianlhigeabehaaGreatDoorKLogD
namespace Go.Proofs.YtianlhigeabehaaGreatDoor
open Go.RowKit

def recTo (r : Rc) (k : Nat) : List UInt8 := (List.range k).flatMap (recS r)
theorem recTo_succ (r : Rc) (k : Nat) : recTo r (k + 1) = recTo r k ++ recS r k := by simp [recTo, List.range_succ]
theorem recS_eq (r : Rc) (k : Nat) : recS r k = stampL ((le r.epoch 8 ++ (le r.lsn 8 ++ (le k 1 ++ le r.images.length 1))) ++ chunk (bodyL r.images) k) 64 := rfl
set_option maxRecDepth 100000 in
set_option maxHeartbeats 4000000 in
theorem cput_any (r : Rc) (w : World) (A : Option Addr) (cap : Nat) (h : Reads w 3 A r.images.length (imcells r.images)) (hl : r.images.length ≤ 1000000) (hcap : r.images.length ≤ cap) (hcm : cap ≤ maxLen) (hd : ∀ i ∈ r.images, i.data.size ≤ maxLen) (hv : ∀ i ∈ r.images, i.ver < 18446744073709551616) (he : r.epoch < 18446744073709551616) (hls : r.lsn < 18446744073709551616) :
    Calls Tryz.prog 34 #[.agg #[.int .u64 r.epoch, .int .u64 r.lsn, .slice A r.images.length cap]] w fun e w' => e = .returned (.tuple #[.string r.putS, .int .i64 r.wrongE]) ∧ Below w.heap.size w w' := by
  have HCW := Lib.hid (fun W (hb : Below w.heap.size w W) => cwrong_any r W A cap (h.below' (by omega) hb) hl hcap hcm hd)
  have HBD := Lib.hid (fun (hw : r.wrongE = 0) W (hb : Below w.heap.size w W) => cbody_any r.images W A cap (h.below' (by omega) hb) (wrong_zero hw).2.2.2.2.2 hcap hcm (wrong_zero hw).2.2.2.1 hv)
  have HWZ := Lib.hid (fun (hw : r.wrongE = 0) => wrong_zero hw)
  have HRS := Lib.hid (recS_eq r)
  have HPS := Lib.hid (show r.putS = if r.wrongE = 0 then str (recL r) else ⟨#[]⟩ from rfl)
  have HRL := Lib.hid (show recTo r (secsOf r.images.length) = recL r from rfl)
  have HTL := Lib.hid (fun k => (show (recTo r k).length = k * 64 from recs_len r k))
  have HTS := Lib.hid (recTo_succ r)
  have HR0 := Lib.hid (show recTo r 0 = [] from rfl)
  have HRZ := Lib.hid (fun k => recS_len r k)
  obtain ⟨ep, ls, l⟩ := r
  simp only at hcap he hls HCW HBD HRS HRL ⊢
  have HE := Lib.hid he
  have HLS := Lib.hid hls
  have HB := Lib.hid ((Below.refl w.heap.size w).alloc (Nat.le_refl _) (.cells #[.int .u64 ep, .int .u64 ls, .slice A l.length cap] 81))
  have HBK := Lib.hid (Blk.new w 81 #[.int .u64 ep, .int .u64 ls, .slice A l.length cap])
  obtain ⟨R, hR⟩ : ∃ R : Rc, R = ⟨ep, ls, l⟩ := ⟨_, rfl⟩
  rw [← hR] at HCW HBD HRS HRL HPS HTL HTS HWZ HR0 HRZ ⊢
  have HRI := Lib.hid (show R.images = l by rw [hR])
  clear h hl hcm hd hv he hls hR
  go_enter Tryz.func34, Tryz.ntmps34
  go_wp2_with fail
  generalize w.alloc (.cells #[.int .u64 ep, .int .u64 ls, .slice A l.length cap] 81) = W at HB HBK ⊢
  refine (HCW.out W HB.out).mono ?_
  rintro e w1 ⟨rfl, hb1⟩
  have HB1 := Lib.hid (HB.out.trans (hb1.mono HB.out.size))
  have HBK1 := Lib.hid (HBK.out.below_ hb1)
  clear hb1
  by_cases hw : R.wrongE = 0
  · have HWR := Lib.hid hw
    have HP := Lib.hid (show R.putS = str (recL R) by rw [HPS.out, if_pos hw])
    obtain ⟨_, _, n1, n2, _, n3⟩ := HWZ.out hw
    rw [HRI.out] at n1 n2 n3
    have hn1 : 1 ≤ l.length := List.length_pos_iff.2 n1
    have HBL := Lib.hid (bodyL_len n2)
    have HSN := Lib.hid (secs_pos hn1 n3)
    rw [hw]
    clear hw n1 n2
    obtain ⟨x0, x1, x2⟩ := HBK1.out.three
    go_wp2_with fail
    refine (HBD.out HWR.out w1 HB1.out).mono ?_
    rintro e w2 ⟨rfl, hb2⟩
    have HB2 := Lib.hid (HB1.out.trans (hb2.mono HB1.out.size))
    have HBK2 := Lib.hid (HBK1.out.below_ hb2)
    clear hb2 x0 x1 x2
    have x2 : w2.cell? ⟨w.heap.size, 2, none⟩ = some (.slice A l.length cap) := HBK2.out.cell 2
    obtain ⟨B, hB⟩ : ∃ B, B = str (bodyL l) := ⟨_, rfl⟩
    have HBS := Lib.hid (show B.size = 108 * l.length by rw [hB, str_size, HBL.out])
    have HBB := Lib.hid hB
    rw [← hB]
    clear hB
    go_wp2_with fail
    refine (secs_any (l.length : Int) w2).mono ?_
    rintro e w3 ⟨rfl, rfl⟩
    rw [HSN.out]
    rw [HSN.out] at HRL
    obtain ⟨q, hq⟩ : ∃ q, (108 * l.length + 41) / 42 = q := ⟨_, rfl⟩
    rw [hq] at HRL ⊢
    have hq1 : q ≤ 155 := by omega
    have hq2 : q * 42 ≤ 108 * l.length + 41 := by omega
    clear x2 hq
    go_wp2_with fail
    go_loopw [6, 22] (fun t6 t22 wr => ∃ k : Nat, k ≤ q ∧ t22 = .int .i64 k ∧ t6 = .string (str (recTo R k)) ∧ Below w.heap.size w wr ∧ Blk wr w.heap.size 81 #[.int .u64 ep, .int .u64 ls, .slice A l.length cap]) (fun _ t22 _ => q - (intOf t22).toNat)
    case atStart => exact ⟨0, by omega, rfl, by rw [HR0.out]; rfl, HB2.out, HBK2.out⟩
    case round =>
      obtain ⟨k, hk, rfl, rfl, hb, hbk⟩ := hrel
      have HBr := Lib.hid hb
      have HKr := Lib.hid hbk
      clear hb hbk
      by_cases hlt : k < q
      · have hltI : (k : Int) < (q : Int) := by omega
        have HPL := Lib.hid (show k < 256 by omega)
        have HNN := Lib.hid (show l.length < 256 by omega)
        obtain ⟨lo, hlo⟩ : ∃ lo, k * 42 = lo := ⟨_, rfl⟩
        obtain ⟨hi, hhi⟩ : ∃ hi, (k + 1) * 42 = hi := ⟨_, rfl⟩
        obtain ⟨m, hm⟩ : ∃ m, min hi (108 * l.length) = m := ⟨_, rfl⟩
        have e1 : IntKind.i64.wrap ((k : Int) * 42) = (lo : Int) := by rw [IntWalk.i64_in _ (by omega)]; omega
        have e2 : IntKind.i64.wrap ((k : Int) + 1) = (k : Int) + 1 := IntWalk.i64_in _ (by omega)
        have e3 : IntKind.i64.wrap (((k : Int) + 1) * 42) = (hi : Int) := by rw [IntWalk.i64_in _ (by omega)]; omega
        have b0 : (0 : Int) ≤ (lo : Int) := by omega
        have b1 : (lo : Int) ≤ (m : Int) := by omega
        have b2 : (m : Int) ≤ (B.size : Int) := by rw [HBS.out]; omega
        have hmin : ∀ (w : World) (ts : Array TypeId) (t : TypeId), (Builtin.min_ ts t #[.int .i64 (hi : Int), .int .i64 (B.size : Int)]).run Tryz.prog w = .ok (.int .i64 (m : Int)) w := by
          intro w ts t
          simp only [Builtin.min_, Builtin.min2, HBS.out]
          rw [← hm]
          by_cases hc : hi < 108 * l.length
          · simp [Builtin.min_, Builtin.min2]
            omega
          · simp [Builtin.min_, Builtin.min2]
            omega
        have hch : B.extract lo m = str (chunk (bodyL l) k) := by
          rw [HBB.out, extract_str]
          unfold chunk
          rw [hlo, hhi, ← hm]
          congr 2
          rw [← HBL.out]
          rcases Nat.le_total hi (bodyL l).length with hh | hh
          · rw [Nat.min_eq_left hh]
          · rw [Nat.min_eq_right hh, List.take_of_length_le (Nat.le_refl _), List.take_of_length_le hh]
        have hcl : (chunk (bodyL l) k).length ≤ 42 := by rw [chunk_len]; omega
        have HLB := Lib.hid (show (le ep 8 ++ (le ls 8 ++ (le k 1 ++ le l.length 1))).length = 18 by simp [le_len])
        obtain ⟨L, hL⟩ : ∃ L, str (le ep 8 ++ (le ls 8 ++ (le k 1 ++ le l.length 1))) = L := ⟨_, rfl⟩
        obtain ⟨C, hC⟩ : ∃ C, B.extract lo m = C := ⟨_, rfl⟩
        have hls : L.size = 18 := by rw [← hL, str_size, HLB.out]
        have hcs : C.size ≤ 42 := by rw [← hC, hch, str_size]; exact hcl
        have hcat : ¬ 9223372036854775807 < L.size + C.size := by omega
        have HZ := Lib.hid (show (L ++ C).size ≤ 60 by rw [ByteArray.size_append]; omega)
        have HF := Lib.hid (show str (stampL (L ++ C).data.toList 64) = str (recS R k) by
          rw [← hC, ← hL, hch, str_append, str_list, HRS.out k])
        have HLL := Lib.hid hL
        clear hls hcs hL
        have HC2 := Lib.hid (show (str (recTo R k)).size + (str (recS R k)).size ≤ 9223372036854775807 by rw [str_size, str_size, HTL.out, HRZ.out]; omega)
        have HCC := Lib.hid (show str (recTo R k) ++ str (recS R k) = str (recTo R (k + 1)) by rw [str_append, HTS.out])
        have hc2 := Nat.not_lt.2 HC2.out
        clear hlo hhi hm hch hcl hq2
        go_upto_region 8 with (fail)
        obtain ⟨x0, x1, x2⟩ := HKr.out.drew.three
        go_region_held3 (fun w' => w'.cell? ⟨w.heap.size, 0, none⟩ = some (.int .u64 ep) ∧ w'.cell? ⟨w.heap.size, 1, none⟩ = some (.int .u64 ls) ∧ w'.cell? ⟨w.heap.size, 2, none⟩ = some (.slice A l.length cap))
          (first | exact ⟨x0, x1, x2⟩ | exact hk5.three | exact hk4.three | go_keep)
          (first | (go_at_call 79; ((with_reducible refine (clabel_any ep ls k l.length A l.length cap _ HE.out HLS.out HPL.out HNN.out).mono ?_); rintro e4 w4 ⟨rfl, hb4⟩; rw [HLL.out]; have hk4 := HKr.out.drew.below_ hb4)) | (go_at_call 78; ((with_reducible refine (stamp_any (L ++ C) HZ.out _).mono ?_); rintro e5 w5 ⟨rfl, hb5⟩; rw [HF.out]; have hk5 := hk4.below_ hb5)))
        all_goals
          have HB5 := Lib.hid ((HBr.out.trans ((below_of_drew hb4).mono HBr.out.size)).trans (hb5.mono (Nat.le_trans HBr.out.size hb4.size)))
          have HK5 := Lib.hid hk5
          clear hb4 hk4 hb5 hk5 x0 x1 x2 e1 e2 e3 hmin hcat hC
          go_wp2_with fail
          first
            | exact ⟨⟨k + 1, by omega, by go_num, by rw [← HCC.out], HB5.out, HK5.out⟩, by simp [intOf]; omega⟩
            | (go_roundw
               case rel => exact ⟨k + 1, by omega, by go_num, by rw [← HCC.out], HB5.out, HK5.out⟩
               case measure => simp [intOf]; omega)
      · have hltI : ¬ (k : Int) < (q : Int) := by omega
        obtain rfl : k = q := by omega
        go_wp2_with fail
        go_ret2
        exact ⟨by rw [HP.out, HWR.out, ← HRL.out]; rfl, HBr.out⟩
  · have HP := Lib.hid (show R.putS = ⟨#[]⟩ by rw [HPS.out, if_neg hw])
    obtain ⟨E, hE⟩ : ∃ E, R.wrongE = E := ⟨_, rfl⟩
    rw [hE] at hw ⊢
    have t1 : (E != 0) = true := bne_iff_ne.2 hw
    have HEE := Lib.hid hE
    clear hw hE
    go_wp2_with fail
    go_ret2
    exact ⟨by rw [HP.out, HEE.out]; rfl, HB1.out⟩
end Go.Proofs.YtianlhigeabehaaGreatDoor

/- A node's log: Add. -/
namespace Go.Proofs.YtianlhigeabehaaGreatDoor
open Go.RowKit

/-- the log's colours alone -/
def logL (c : Nat) : Nat → Prop := fun x => x = c ∨ x = c + 1
/-- the number that Add tells -/
def Lg.addN (g : Lg) (l : List Im) : Nat := if g.addE l = 0 then g.next else 0
theorem logL_log (c : Nat) : ∀ x, only c x → logL c x := fun _ h => .inl h
theorem logL_ring (c : Nat) : ∀ x, only (c + 1) x → logL c x := fun _ h => .inr h
theorem reads_entry (w : World) (x : En) : Reads (w.alloc (.cells #[.int .u64 x.lsn, .int .i64 x.at_, .int .i64 x.n, .string x.bytes, .bool x.written] 75)) 5 (some ⟨w.heap.size, 0, none⟩) 1 x.cells := Reads.newAt w 75 5 1 _ #[.int .u64 x.lsn, .int .i64 x.at_, .int .i64 x.n, .string x.bytes, .bool x.written] _ rfl rfl rfl
section
variable {o : Nat → Nat} {c p q : Nat} {w : World} {g : Lg}
set_option maxRecDepth 100000 in
set_option maxHeartbeats 8000000 in
theorem gadd_any (h : LogAt o c w q g p) (l : List Im) (A : Option Addr) (cap : Nat) (hrd : Reads w 3 A l.length (imcells l)) (hll : l.length ≤ 1000000) (hcap : l.length ≤ cap) (hcm : cap ≤ maxLen) (hd : ∀ i ∈ l, i.data.size ≤ maxLen) (hv : ∀ i ∈ l, i.ver < 18446744073709551616)
    (he : g.epoch < 18446744073709551616) (hn : g.next < 18446744073709551616) (hl : g.live.length ≤ 1000) (hu : g.used ≤ 1000000) (hat : g.at_ < 7) (hc : 1 ≤ c) (hf : Fut o w) :
    Calls Tryz.prog 8 #[.pointer (some ⟨q, 0, none⟩), .slice A l.length cap] w fun e w' => e = .returned (.tuple #[.int .u64 (g.addN l), .int .i64 (g.addE l)]) ∧ ∃ o', LogAt o' c w' q (g.addG l) p ∧ Step o (logL c) w o' w' := by
  have H := Lib.hid h
  have HRD := Lib.hid hrd
  have HCP := Lib.hid (fun W (hb : Below w.heap.size w W) => cput_any ⟨g.epoch, g.next, l⟩ W A cap (hrd.below' (by omega) hb) hll hcap hcm hd hv he hn)
  have HLL := Lib.hid hll
  have HN := Lib.hid hn
  have HL := Lib.hid hl
  have HU := Lib.hid hu
  have HAT := Lib.hid hat
  have HC := Lib.hid hc
  have HF := Lib.hid hf
  obtain ⟨r, HB, HCC, HR, x14, _⟩ := h.out_
  have HAE := Lib.hid (show g.addE l = if g.broken then 13 else if (Rc.mk g.epoch g.next l).wrongE ≠ 0 then (Rc.mk g.epoch g.next l).wrongE else if 1 < l.length then 31 else if 7 < secsOf l.length + g.used then 10 else 0 from rfl)
  have HAG := Lib.hid (show g.addG l = if g.addE l ≠ 0 then g else { g with live := g.live ++ [g.entry l], at_ := (g.at_ + secsOf l.length) % 7, next := (g.next + 1) % 18446744073709551616 } from rfl)
  have x3 : w.cell? ⟨q, 3, none⟩ = some (.int .i64 8) := HB.out.cell 3
  obtain ⟨M, hM⟩ : ∃ M, g.mayE = M := ⟨_, rfl⟩
  have HMM := Lib.hid hM
  have HM2 := Lib.hid (show g.mayE = if g.broken then 13 else 0 from rfl)
  clear h hrd hll hcap hcm hd hv he hn hl hu hat hc hf x14 hM
  go_enter Tryz.func8, Tryz.ntmps8
  go_wp2_with fail
  refine (gmay_any H.out).mono ?_
  rintro e w1 ⟨rfl, rfl⟩
  rw [HMM.out]
  by_cases h0 : M = 0
  · subst h0
    have HBR := Lib.hid (show g.broken = false by have h1 := HM2.out; rw [HMM.out] at h1; cases hb : g.broken with | false => rfl | true => rw [hb] at h1; simp at h1)
    go_upto_region 4 with (fail)
    have x7 : w.drew.cell? ⟨q, 7, none⟩ = some (.int .u64 g.epoch) := HB.out.cell 7
    have x9 : w.drew.cell? ⟨q, 9, none⟩ = some (.int .u64 g.next) := HB.out.cell 9
    go_region_held3 (fun w' => w'.cell? ⟨q, 7, none⟩ = some (.int .u64 g.epoch) ∧ w'.cell? ⟨q, 9, none⟩ = some (.int .u64 g.next))
      (first | exact ⟨x7, x9⟩ | exact ⟨hbk.cell 7, hbk.cell 9⟩ | go_keep)
      (first | (go_at_call 34; ((with_reducible refine (HCP.out w.drew (below_drew' (Below.refl _ _))).mono ?_); rintro e2 w2 ⟨rfl, hb2⟩; have hbk := HB.out.drew.below_ hb2)))
    have hb3 : Below w.heap.size w w2 := below_of_drew hb2
    have HB2 := Lib.hid hbk
    have HS2 := Lib.hid (Step.of_below o (logL c) hb3)
    have H2 := Lib.hid (H.out.below_ hb3)
    have HF2 := Lib.hid (HF.out.below hb3)
    have HAB := Lib.hid (show ∀ e, g.addE l = e → e ≠ 0 → g.addE l = e ∧ g.addG l = g ∧ g.addN l = 0 from fun e h1 h2 => ⟨h1, by rw [HAG.out, if_pos (by rw [h1]; exact h2)], by unfold Lg.addN; rw [if_neg (by rw [h1]; exact h2)]⟩)
    clear hb2 hb3 hbk x7 x9 HCP HRD HR HB
    obtain ⟨E, hE⟩ : ∃ E, (Rc.mk g.epoch g.next l).wrongE = E := ⟨_, rfl⟩
    have HWR := Lib.hid hE
    obtain ⟨PS, hPS⟩ : ∃ S, (Rc.mk g.epoch g.next l).putS = S := ⟨_, rfl⟩
    have HPS := Lib.hid hPS
    rw [hE] at HAE ⊢
    rw [hPS]
    clear hE hPS
    by_cases h1 : E = 0
    · subst h1
      have hl1 : 1 ≤ l.length := by have := (wrong_zero HWR.out).2.2.1; cases l with | nil => exact absurd rfl this | cons x l => simp
      by_cases h2 : 1 < l.length
      · have HE := Lib.hid (HAB.out 31 (by rw [HAE.out, HBR.out]; simp [h2]) (by decide))
        have h2I : (1 : Int) < (l.length : Int) := by omega
        have x3' : w2.cell? ⟨q, 3, none⟩ = some (.int .i64 8) := HB2.out.cell 3
        clear h2 hl1
        go_wp2_with fail
        refine (most_eight _).mono ?_
        rintro e w3 ⟨rfl, rfl⟩
        go_wp2_with fail
        go_ret2
        obtain ⟨r1, r2, r3⟩ := HE.out
        exact ⟨by rw [r3, r1]; rfl, o, by rw [r2]; exact H2.out, HS2.out⟩
      · obtain ⟨i0, hi0⟩ : ∃ i, l = [i] := by
          match l, hl1, h2 with
          | [i], _, _ => exact ⟨i, rfl⟩
          | _ :: _ :: _, _, h => exact absurd (by simp) h
        have hle : l.length = 1 := by rw [hi0]; rfl
        have HI0 := Lib.hid hi0
        have x3' : w2.cell? ⟨q, 3, none⟩ = some (.int .i64 8) := HB2.out.cell 3
        clear hi0 hl1 h2
        go_wp2_with fail
        refine (most_eight _).mono ?_
        rintro e w3 ⟨rfl, rfl⟩
        go_wp2_with fail
        refine (gfits_any H2.out (by have := HL.out; omega) HU.out 1).mono ?_
        rintro e w3 ⟨rfl, hb3⟩
        have HB3 := Lib.hid (HB2.out.below_ hb3)
        have HS3 := Lib.hid (HS2.out.trans (Step.of_below o (logL c) hb3))
        have H3 := Lib.hid (H2.out.below_ hb3)
        have HF3 := Lib.hid (HF2.out.below hb3)
        have HFT := Lib.hid (show g.fits 1 = decide (3 + g.used ≤ 7) by unfold Lg.fits; rw [HMM.out]; simp)
        rw [HFT.out]
        clear hb3 x3' HFT
        have hs3 : secsOf ((1 : Nat) : Int) = 3 := by decide
        have HA2 := Lib.hid (show g.addE l = if 7 < 3 + g.used then 10 else 0 by rw [HAE.out, HBR.out, hle, hs3]; simp)
        clear hs3
        by_cases h3 : 3 + g.used ≤ 7
        · have hd3 : decide (3 + g.used ≤ 7) = true := decide_eq_true h3
          have HE0 := Lib.hid (show g.addE l = 0 by rw [HA2.out, if_neg (by omega)])
          rw [hd3]
          go_upto_region 11 with (fail)
          have x9 : w3.drew.cell? ⟨q, 9, none⟩ = some (.int .u64 g.next) := HB3.out.cell 9
          have x11 : w3.drew.cell? ⟨q, 11, none⟩ = some (.int .i64 g.at_) := HB3.out.cell 11
          have hs3 : secsOf 1 = 3 := by decide
          have v9 : w3.cell? ⟨q, 9, none⟩ = some (.int .u64 g.next) := x9
          have v11 : w3.cell? ⟨q, 11, none⟩ = some (.int .i64 g.at_) := x11
          have dn := World.new_ne w3 _ v9
          have dn2 := World.new_ne w3 _ v11
          go_cut [9] from 50 to 62 (fun t9 wx => t9 = .pointer (some ⟨w3.heap.size, 0, none⟩) ∧ wx = (w3.alloc (.cells #[.int .u64 g.next, .int .i64 g.at_, .int .i64 3, .string PS, .bool false] 75)).drew)
          case first =>
            go_region_held3 (fun w' => w'.cell? ⟨q, 9, none⟩ = some (.int .u64 g.next) ∧ w'.cell? ⟨q, 11, none⟩ = some (.int .i64 g.at_))
              (first | exact ⟨x9, x11⟩ | go_keep)
              (first | (go_at_call 37; ((with_reducible refine (secs_any 1 _).mono ?_); rintro e4 w4 ⟨rfl, rfl⟩; rw [hs3])))
            all_goals
              go_wp2_with fail
              go_meet
              case rel => exact ⟨rfl, rfl⟩
          case rest =>
            obtain ⟨rfl, rfl⟩ := hcut
            have HX4 := Lib.hid (Keep.new HF3.out 75 #[.int .u64 g.next, .int .i64 g.at_, .int .i64 3, .string PS, .bool false]).drew
            have HB4 := Lib.hid (HB3.out.alloc (.cells #[.int .u64 g.next, .int .i64 g.at_, .int .i64 3, .string PS, .bool false] 75)).drew
            have HS4 := Lib.hid (HS3.out.alloc (.cells #[.int .u64 g.next, .int .i64 g.at_, .int .i64 3, .string PS, .bool false] 75)).drew
            have H4 := Lib.hid (H3.out.alloc (.cells #[.int .u64 g.next, .int .i64 g.at_, .int .i64 3, .string PS, .bool false] 75)).drew
            have HF4 := Lib.hid (HF3.out.alloc (.cells #[.int .u64 g.next, .int .i64 g.at_, .int .i64 3, .string PS, .bool false] 75)).drew
            have HXW := Lib.hid (show w.heap.size ≤ w3.heap.size from HS3.out.size)
            generalize (w3.alloc (.cells #[.int .u64 g.next, .int .i64 g.at_, .int .i64 3, .string PS, .bool false] 75)).drew = W4 at HX4 HB4 HS4 H4 HF4 ⊢
            generalize w3.heap.size = X at HX4 HXW ⊢
            clear x9 x11 v9 v11 dn dn2
            obtain ⟨r4, HBr, HCr, HRr, y14, _⟩ := H4.out.out_
            have z14 : W4.drew.cell? ⟨q, 14, none⟩ = some (.pointer (some ⟨r4, 0, none⟩)) := y14
            have z5 := HX4.out.drew.1.five
            obtain ⟨v0, v1, v2, v3, v4⟩ := HX4.out.1.five
            have dn := World.new_ne W4 _ y14
            have dn0 := World.new_ne W4 _ v0
            have HRE := Lib.hid (show Reads (W4.alloc (.cells #[.int .u64 g.next, .int .i64 g.at_, .int .i64 3, .string PS, .bool false] 75)).drew 5 (some ⟨W4.heap.size, 0, none⟩) 1 (En.cells ⟨g.next, g.at_, 3, PS, false⟩) from (reads_entry W4 ⟨g.next, g.at_, 3, PS, false⟩).drew)
            have HLI := Lib.hid (show (g.live.length : Int) < 100000 by have := HL.out; omega)
            have HEN := Lib.hid (show g.entry l = ⟨g.next, g.at_, 3, PS, false⟩ by unfold Lg.entry; rw [HPS.out, hle]; rfl)
            go_upto_region 12 with (fail)
            go_region_held3 (fun w' => w'.cell? ⟨q, 14, none⟩ = some (.pointer (some ⟨r4, 0, none⟩)) ∧ w'.cell? ⟨X, 0, none⟩ = some (.int .u64 g.next) ∧ w'.cell? ⟨X, 1, none⟩ = some (.int .i64 g.at_) ∧ w'.cell? ⟨X, 2, none⟩ = some (.int .i64 3) ∧ w'.cell? ⟨X, 3, none⟩ = some (.string PS) ∧ w'.cell? ⟨X, 4, none⟩ = some (.bool false))
              (first | exact ⟨z14, z5.1, z5.2.1, z5.2.2.1, z5.2.2.2.1, z5.2.2.2.2⟩ | exact ⟨hb5.cell 14, hk5.1.cell 0, hk5.1.cell 1, hk5.1.cell 2, hk5.1.cell 3, hk5.1.cell 4⟩ | go_keep)
              (first | (go_at_call 38; ((with_reducible refine (epush_any (HRr.out.alloc (.cells #[.int .u64 g.next, .int .i64 g.at_, .int .i64 3, .string PS, .bool false] 75)).drew (by omega) HLI.out (some ⟨W4.heap.size, 0, none⟩) 1 ⟨g.next, g.at_, 3, PS, false⟩ HRE.out (by omega) (by unfold maxLen; omega)).mono ?_); rintro e5 w5 ⟨rfl, o5, hr5, hs5⟩; have hb5 := (HBr.out.alloc (.cells #[.int .u64 g.next, .int .i64 g.at_, .int .i64 3, .string PS, .bool false] 75)).drew.step hs5 (by rw [HCr.out]; unfold only; omega); have hk5 := (HX4.out.alloc (.cells #[.int .u64 g.next, .int .i64 g.at_, .int .i64 3, .string PS, .bool false] 75)).drew.step hs5 (by unfold only; omega))))
            have HX5 := Lib.hid hk5
            have HB5 := Lib.hid hb5
            have hc5 : o5 q = c := (hs5.old q (by simp; exact Nat.lt_succ_of_lt HBr.out.lt)).trans HCr.out
            have H5 := Lib.hid (show LogAt o5 c w5 q { g with live := g.live ++ [⟨g.next, g.at_, 3, PS, false⟩] } p from ⟨r4, hb5, hc5, hr5⟩)
            have HS5 := Lib.hid ((HS4.out.alloc (.cells #[.int .u64 g.next, .int .i64 g.at_, .int .i64 3, .string PS, .bool false] 75)).trans (hs5.of_drew.mono (logL_ring c)))
            have x11 : w5.cell? ⟨q, 11, none⟩ = some (.int .i64 g.at_) := hb5.cell 11
            have f11 := hb5.frozen 11
            have xn : w5.cell? ⟨X, 2, none⟩ = some (.int .i64 3) := hk5.1.cell 2
            obtain ⟨m, hm⟩ : ∃ m, (g.at_ + 3) % 7 = m := ⟨_, rfl⟩
            have e1 : IntKind.i64.wrap ((g.at_ : Int) + 3) = (g.at_ : Int) + 3 := IntWalk.i64_in _ (by have := HAT.out; omega)
            have e2 : ((g.at_ : Int) + 3).tmod 7 = (m : Int) := by rw [Int.tmod_eq_emod_of_nonneg (by omega)]; omega
            have e3 : IntKind.i64.wrap (m : Int) = (m : Int) := IntWalk.i64_in _ (by omega)
            have HM := Lib.hid hm
            clear hb5 hk5 hs5 z14 z5 v0 v1 v2 v3 v4 dn dn0 y14 hm
            go_upto_region 13 with (fail)
            go_cut [] from 70 to 82 (fun wx => wx = (w5.setCell ⟨q, 11, none⟩ (.int .i64 m)).drew)
            case first =>
              go_region_with (go_at_call 39; ((with_reducible refine (gsize_any H5.out.drew).mono ?_); rintro e6 w6 ⟨rfl, rfl⟩))
              all_goals
                go_wp2_with fail
                go_meet
                case rel => rfl
            case rest =>
              obtain rfl := hcut
              have S6 := (Step.refl o5 (only c) w5).setCell (p := ⟨q, 11, none⟩) hc5 (.int .i64 m)
              have HB6 := Lib.hid (HB5.out.set_ 11 (.int .i64 m)).drew
              have HX6 := Lib.hid (HX5.out.step S6 (by have := HC.out; unfold only; omega)).drew
              have HS6 := Lib.hid (HS5.out.trans (S6.mono (logL_log c))).drew
              have HR6 := Lib.hid (hr5.step S6 (by unfold only; omega)).drew
              clear S6 x11 f11 xn e1 e2 e3
              generalize (w5.setCell ⟨q, 11, none⟩ (.int .i64 m)).drew = W6 at HB6 HX6 HS6 HR6 ⊢
              have x9 : W6.cell? ⟨q, 9, none⟩ = some (.int .u64 g.next) := HB6.out.cell 9
              have f9 := HB6.out.frozen 9
              have x0 : W6.cell? ⟨X, 0, none⟩ = some (.int .u64 g.next) := HX6.out.1.cell 0
              have S7 := (Step.refl o5 (only c) W6).setCell (p := ⟨q, 9, none⟩) hc5 (.int .u64 ((g.next + 1) % 18446744073709551616 : Nat))
              have x0' : (W6.setCell ⟨q, 9, none⟩ (.int .u64 ((g.next + 1) % 18446744073709551616 : Nat))).cell? ⟨X, 0, none⟩ = some (.int .u64 g.next) := (HX6.out.step S7 (by have := HC.out; unfold only; omega)).1.cell 0
              have HS7 := Lib.hid (HS6.out.trans (S7.mono (logL_log c)))
              have HR7 := Lib.hid (HR6.out.step S7 (by unfold only; omega))
              have HB7 := Lib.hid (HB6.out.set_ 9 (.int .u64 ((g.next + 1) % 18446744073709551616 : Nat)))
              have hw : IntKind.u64.wrap ((g.next : Int) + 1) = (((g.next + 1) % 18446744073709551616 : Nat) : Int) := by rw [IntKind.wrap_u64]; omega
              have HAG2 := Lib.hid (show g.addG l = { g with live := g.live ++ [⟨g.next, g.at_, 3, PS, false⟩], at_ := m, next := (g.next + 1) % 18446744073709551616 } by
                rw [HAG.out, if_neg (by rw [HE0.out]; decide), HEN.out, hle, show secsOf ((1 : Nat) : Int) = 3 from hs3, HM.out])
              have HAN := Lib.hid (show g.addN l = g.next from if_pos HE0.out)
              clear S7
              go_wp2_with fail
              go_ret2
              exact ⟨by rw [HAN.out, HE0.out]; rfl, o5, by rw [HAG2.out]; exact ⟨r4, HB7.out, hc5, HR7.out⟩, HS7.out⟩
        · have hd3 : decide (3 + g.used ≤ 7) = false := decide_eq_false h3
          have HE := Lib.hid (HAB.out 10 (by rw [HA2.out, if_pos (by omega)]) (by decide))
          rw [hd3]
          go_wp2_with fail
          go_ret2
          obtain ⟨r1, r2, r3⟩ := HE.out
          exact ⟨by rw [r3, r1]; rfl, o, by rw [r2]; exact H3.out, HS3.out⟩
    · have t1 : (E != 0) = true := bne_iff_ne.2 h1
      have HE := Lib.hid (HAB.out E (by rw [HAE.out, HBR.out]; simp [h1]) h1)
      clear h1
      go_wp2_with fail
      go_ret2
      obtain ⟨r1, r2, r3⟩ := HE.out
      exact ⟨by rw [r3, r1]; rfl, o, by rw [r2]; exact H2.out, HS2.out⟩
  · have t1 : (M != 0) = true := bne_iff_ne.2 h0
    have HE := Lib.hid (show g.addE l = M ∧ g.addG l = g ∧ g.addN l = 0 by
      have h1 := HM2.out
      rw [HMM.out] at h1
      have hb : g.broken = true := by cases hb : g.broken with | true => rfl | false => rw [hb] at h1; exact absurd h1 h0
      have h2 : g.addE l = 13 := by rw [HAE.out, if_pos hb]
      have h3 : M = 13 := by rw [h1, if_pos hb]
      exact ⟨h2.trans h3.symm, by rw [HAG.out, if_pos (by rw [h2]; decide)], by unfold Lg.addN; rw [h2]; rfl⟩)
    clear h0
    go_wp2_with fail
    go_ret2
    obtain ⟨r1, r2, r3⟩ := HE.out
    exact ⟨by rw [r3, r1]; rfl, o, by rw [r2]; exact H.out, Step.refl _ _ _⟩
end
end Go.Proofs.YtianlhigeabehaaGreatDoor
