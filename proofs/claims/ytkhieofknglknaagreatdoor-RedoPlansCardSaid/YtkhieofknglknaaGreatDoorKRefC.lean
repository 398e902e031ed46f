/- Records: Put; a log's head put. -/
import Derived.Test.YtkhieofknglknaaGreatDoorKRedoA
import Derived.Test.YtkhieofknglknaaGreatDoorKLogD
namespace Go.Proofs.YtkhieofknglknaaGreatDoor
open Go.RowKit

def recTo (r : Rc) (k : Nat) : List UInt8 := (List.range k).flatMap (recS r)
theorem recTo_succ (r : Rc) (k : Nat) : recTo r (k + 1) = recTo r k ++ recS r k := by simp [recTo, List.range_succ]
theorem recS_eq (r : Rc) (k : Nat) : recS r k = stampL ((le r.epoch 8 ++ (le r.lsn 8 ++ (le k 1 ++ le r.images.length 1))) ++ chunk (bodyL r.images) k) 64 := rfl
set_option maxRecDepth 100000 in
set_option maxHeartbeats 4000000 in
theorem cput_any (r : Rc) (w : World) (A : Option Addr) (cap : Nat) (h : Reads w 3 A r.images.length (imcells r.images)) (hl : r.images.length ≤ 1000000) (hcap : r.images.length ≤ cap) (hcm : cap ≤ maxLen) (hd : ∀ i ∈ r.images, i.data.size ≤ maxLen) (hv : ∀ i ∈ r.images, i.ver < 18446744073709551616) (he : r.epoch < 18446744073709551616) (hls : r.lsn < 18446744073709551616) :
    Calls Tryz.prog 122 #[.agg #[.int .u64 r.epoch, .int .u64 r.lsn, .slice A r.images.length cap]] w fun e w' => e = .returned (.tuple #[.string r.putS, .int .i64 r.wrongE]) ∧ Below w.heap.size w w' := by
  have HCW := Lib.hid (fun W (hb : Below w.heap.size w W) => cwrong_any r W A cap (h.below' (by omega) hb) hl hcap hcm hd)
  have HBD := Lib.hid (fun (hw : r.wrongE = 0) W (hb : Below w.heap.size w W) => cbody_any r.images W A cap (h.below' (by omega) hb) (wrong_zero hw).2.2.2.2.2 hcap hcm (wrong_zero hw).2.2.2.1 hv)
  have HWZ := Lib.hid (fun (hw : r.wrongE = 0) => wrong_zero hw)
  have HRS := Lib.hid (recS_eq r)
  have HPS := Lib.hid (show r.putS = if r.wrongE = 0 then str (recL r) else ⟨#[]⟩ from rfl)
  have HRL := Lib.hid (show recTo r (secsOf r.images.length) = recL r from rfl)
  have HTL := Lib.hid (fun k => (show (recTo r k).length = k * 64 from recs_len r k))
  have HTS := Lib.hid (recTo_succ r)
  have HR0 := Lib.hid (show recTo r 0 = [] from rfl)
  have HRZ := Lib.hid (fun k => recS_len r k)
  obtain ⟨ep, ls, l⟩ := r
  simp only at hcap he hls HCW HBD HRS HRL ⊢
  have HE := Lib.hid he
  have HLS := Lib.hid hls
  have HB := Lib.hid ((Below.refl w.heap.size w).alloc (Nat.le_refl _) (.cells #[.int .u64 ep, .int .u64 ls, .slice A l.length cap] 29))
  have HBK := Lib.hid (Blk.new w 29 #[.int .u64 ep, .int .u64 ls, .slice A l.length cap])
  obtain ⟨R, hR⟩ : ∃ R : Rc, R = ⟨ep, ls, l⟩ := ⟨_, rfl⟩
  rw [← hR] at HCW HBD HRS HRL HPS HTL HTS HWZ HR0 HRZ ⊢
  have HRI := Lib.hid (show R.images = l by rw [hR])
  clear h hl hcm hd hv he hls hR
  go_enter Tryz.func122, Tryz.ntmps122
  go_wp2_with fail
  generalize w.alloc (.cells #[.int .u64 ep, .int .u64 ls, .slice A l.length cap] 29) = W at HB HBK ⊢
  refine (HCW.out W HB.out).mono ?_
  rintro e w1 ⟨rfl, hb1⟩
  have HB1 := Lib.hid (HB.out.trans (hb1.mono HB.out.size))
  have HBK1 := Lib.hid (HBK.out.below_ hb1)
  clear hb1
  by_cases hw : R.wrongE = 0
  · have HWR := Lib.hid hw
    have HP := Lib.hid (show R.putS = str (recL R) by rw [HPS.out, if_pos hw])
    obtain ⟨_, _, n1, n2, _, n3⟩ := HWZ.out hw
    rw [HRI.out] at n1 n2 n3
    have hn1 : 1 ≤ l.length := List.length_pos_iff.2 n1
    have HBL := Lib.hid (bodyL_len n2)
    have HSN := Lib.hid (secs_pos hn1 n3)
    rw [hw]
    clear hw n1 n2
    obtain ⟨x0, x1, x2⟩ := HBK1.out.three
    go_wp2_with fail
    refine (HBD.out HWR.out w1 HB1.out).mono ?_
    rintro e w2 ⟨rfl, hb2⟩
    have HB2 := Lib.hid (HB1.out.trans (hb2.mono HB1.out.size))
    have HBK2 := Lib.hid (HBK1.out.below_ hb2)
    clear hb2 x0 x1 x2
    have x2 : w2.cell? ⟨w.heap.size, 2, none⟩ = some (.slice A l.length cap) := HBK2.out.cell 2
    obtain ⟨B, hB⟩ : ∃ B, B = str (bodyL l) := ⟨_, rfl⟩
    have HBS := Lib.hid (show B.size = 108 * l.length by rw [hB, str_size, HBL.out])
    have HBB := Lib.hid hB
    rw [← hB]
    clear hB
    go_wp2_with fail
    refine (secs_any (l.length : Int) w2).mono ?_
    rintro e w3 ⟨rfl, rfl⟩
    rw [HSN.out]
    rw [HSN.out] at HRL
    obtain ⟨q, hq⟩ : ∃ q, (108 * l.length + 41) / 42 = q := ⟨_, rfl⟩
    rw [hq] at HRL ⊢
    have hq1 : q ≤ 155 := by omega
    have hq2 : q * 42 ≤ 108 * l.length + 41 := by omega
    clear x2 hq
    go_wp2_with fail
    go_loopw [6, 22] (fun t6 t22 wr => ∃ k : Nat, k ≤ q ∧ t22 = .int .i64 k ∧ t6 = .string (str (recTo R k)) ∧ Below w.heap.size w wr ∧ Blk wr w.heap.size 29 #[.int .u64 ep, .int .u64 ls, .slice A l.length cap]) (fun _ t22 _ => q - (intOf t22).toNat)
    case atStart => exact ⟨0, by omega, rfl, by rw [HR0.out]; rfl, HB2.out, HBK2.out⟩
    case round =>
      obtain ⟨k, hk, rfl, rfl, hb, hbk⟩ := hrel
      have HBr := Lib.hid hb
      have HKr := Lib.hid hbk
      clear hb hbk
      by_cases hlt : k < q
      · have hltI : (k : Int) < (q : Int) := by omega
        have HPL := Lib.hid (show k < 256 by omega)
        have HNN := Lib.hid (show l.length < 256 by omega)
        obtain ⟨lo, hlo⟩ : ∃ lo, k * 42 = lo := ⟨_, rfl⟩
        obtain ⟨hi, hhi⟩ : ∃ hi, (k + 1) * 42 = hi := ⟨_, rfl⟩
        obtain ⟨m, hm⟩ : ∃ m, min hi (108 * l.length) = m := ⟨_, rfl⟩
        have e1 : IntKind.i64.wrap ((k : Int) * 42) = (lo : Int) := by rw [IntWalk.i64_in _ (by omega)]; omega
        have e2 : IntKind.i64.wrap ((k : Int) + 1) = (k : Int) + 1 := IntWalk.i64_in _ (by omega)
        have e3 : IntKind.i64.wrap (((k : Int) + 1) * 42) = (hi : Int) := by rw [IntWalk.i64_in _ (by omega)]; omega
        have b0 : (0 : Int) ≤ (lo : Int) := by omega
        have b1 : (lo : Int) ≤ (m : Int) := by omega
        have b2 : (m : Int) ≤ (B.size : Int) := by rw [HBS.out]; omega
        have hmin : ∀ (w : World) (ts : Array TypeId) (t : TypeId), (Builtin.min_ ts t #[.int .i64 (hi : Int), .int .i64 (B.size : Int)]).run Tryz.prog w = .ok (.int .i64 (m : Int)) w := by
          intro w ts t
          simp only [Builtin.min_, HBS.out]
          rw [← hm]
          by_cases hc : hi < 108 * l.length
          · simp [Builtin.min2]
            omega
          · simp [Builtin.min2]
            omega
        have hch : B.extract lo m = str (chunk (bodyL l) k) := by
          rw [HBB.out, extract_str]
          unfold chunk
          rw [hlo, hhi, ← hm]
          congr 2
          rw [← HBL.out]
          rcases Nat.le_total hi (bodyL l).length with hh | hh
          · rw [Nat.min_eq_left hh]
          · rw [Nat.min_eq_right hh, List.take_of_length_le (Nat.le_refl _), List.take_of_length_le hh]
        have hcl : (chunk (bodyL l) k).length ≤ 42 := by rw [chunk_len]; omega
        have HLB := Lib.hid (show (le ep 8 ++ (le ls 8 ++ (le k 1 ++ le l.length 1))).length = 18 by simp [le_len])
        obtain ⟨L, hL⟩ : ∃ L, str (le ep 8 ++ (le ls 8 ++ (le k 1 ++ le l.length 1))) = L := ⟨_, rfl⟩
        obtain ⟨C, hC⟩ : ∃ C, B.extract lo m = C := ⟨_, rfl⟩
        have hls : L.size = 18 := by rw [← hL, str_size, HLB.out]
        have hcs : C.size ≤ 42 := by rw [← hC, hch, str_size]; exact hcl
        have hcat : ¬ 9223372036854775807 < L.size + C.size := by omega
        have HZ := Lib.hid (show (L ++ C).size ≤ 60 by rw [ByteArray.size_append]; omega)
        have HF := Lib.hid (show str (stampL (L ++ C).data.toList 64) = str (recS R k) by
          rw [← hC, ← hL, hch, str_append, str_list, HRS.out k])
        have HLL := Lib.hid hL
        clear hls hcs hL
        have HC2 := Lib.hid (show (str (recTo R k)).size + (str (recS R k)).size ≤ 9223372036854775807 by rw [str_size, str_size, HTL.out, HRZ.out]; omega)
        have HCC := Lib.hid (show str (recTo R k) ++ str (recS R k) = str (recTo R (k + 1)) by rw [str_append, HTS.out])
        have hc2 := Nat.not_lt.2 HC2.out
        clear hlo hhi hm hch hcl hq2
        go_upto_region 8 with (fail)
        obtain ⟨x0, x1, x2⟩ := HKr.out.drew.three
        go_region_held3 (fun w' => w'.cell? ⟨w.heap.size, 0, none⟩ = some (.int .u64 ep) ∧ w'.cell? ⟨w.heap.size, 1, none⟩ = some (.int .u64 ls) ∧ w'.cell? ⟨w.heap.size, 2, none⟩ = some (.slice A l.length cap))
          (first | exact ⟨x0, x1, x2⟩ | exact hk5.three | exact hk4.three | go_keep)
          (first | (go_at_call 168; ((with_reducible refine (clabel_any ep ls k l.length A l.length cap _ HE.out HLS.out HPL.out HNN.out).mono ?_); rintro e4 w4 ⟨rfl, hb4⟩; rw [HLL.out]; have hk4 := HKr.out.drew.below_ hb4)) | (go_at_call 203; ((with_reducible refine (stamp_any (L ++ C) HZ.out _).mono ?_); rintro e5 w5 ⟨rfl, hb5⟩; rw [HF.out]; have hk5 := hk4.below_ hb5)))
        all_goals
          have HB5 := Lib.hid ((HBr.out.trans ((below_of_drew hb4).mono HBr.out.size)).trans (hb5.mono (Nat.le_trans HBr.out.size hb4.size)))
          have HK5 := Lib.hid hk5
          clear hb4 hk4 hb5 hk5 x0 x1 x2 e1 e2 e3 hmin hcat hC
          go_wp2_with fail
          first
            | exact ⟨⟨k + 1, by omega, by go_num, by rw [← HCC.out], HB5.out, HK5.out⟩, by simp [intOf]; omega⟩
            | (go_roundw
               case rel => exact ⟨k + 1, by omega, by go_num, by rw [← HCC.out], HB5.out, HK5.out⟩
               case measure => simp [intOf]; omega)
      · have hltI : ¬ (k : Int) < (q : Int) := by omega
        obtain rfl : k = q := by omega
        go_wp2_with fail
        go_ret2
        exact ⟨by rw [HP.out, HWR.out, ← HRL.out]; rfl, HBr.out⟩
  · have HP := Lib.hid (show R.putS = ⟨#[]⟩ by rw [HPS.out, if_neg hw])
    obtain ⟨E, hE⟩ : ∃ E, R.wrongE = E := ⟨_, rfl⟩
    rw [hE] at hw ⊢
    have t1 : (E != 0) = true := bne_iff_ne.2 hw
    have HEE := Lib.hid hE
    clear hw hE
    go_wp2_with fail
    go_ret2
    exact ⟨by rw [HP.out, HEE.out]; rfl, HB1.out⟩
end Go.Proofs.YtkhieofknglknaaGreatDoor

/- A node's log: Add. -/
namespace Go.Proofs.YtkhieofknglknaaGreatDoor
open Go.RowKit

/-- the log's colours alone -/
def logL (c : Nat) : Nat → Prop := fun x => x = c ∨ x = c + 1
/-- the number that Add tells -/
def Lg.addN (g : Lg) (l : List Im) : Nat := if g.addE l = 0 then g.next else 0
theorem logL_log (c : Nat) : ∀ x, only c x → logL c x := fun _ h => .inl h
theorem logL_ring (c : Nat) : ∀ x, only (c + 1) x → logL c x := fun _ h => .inr h
theorem reads_entry (w : World) (x : En) : Reads (w.alloc (.cells #[.int .u64 x.lsn, .int .i64 x.at_, .int .i64 x.n, .string x.bytes, .bool x.written] 157)) 5 (some ⟨w.heap.size, 0, none⟩) 1 x.cells := Reads.newAt w 157 5 1 _ #[.int .u64 x.lsn, .int .i64 x.at_, .int .i64 x.n, .string x.bytes, .bool x.written] _ rfl rfl rfl
section
variable {o : Nat → Nat} {c p q : Nat} {w : World} {g : Lg}
set_option maxRecDepth 100000 in
set_option maxHeartbeats 8000000 in
theorem gadd_any (h : LogAt o c w q g p) (l : List Im) (A : Option Addr) (cap : Nat) (hrd : Reads w 3 A l.length (imcells l)) (hll : l.length ≤ 1000000) (hcap : l.length ≤ cap) (hcm : cap ≤ maxLen) (hd : ∀ i ∈ l, i.data.size ≤ maxLen) (hv : ∀ i ∈ l, i.ver < 18446744073709551616)
    (he : g.epoch < 18446744073709551616) (hn : g.next < 18446744073709551616) (hl : g.live.length ≤ 1000) (hu : g.used ≤ 1000000) (hat : g.at_ < 7) (hc : 1 ≤ c) (hf : Fut o w) :
    Calls Tryz.prog 20 #[.pointer (some ⟨q, 0, none⟩), .slice A l.length cap] w fun e w' => e = .returned (.tuple #[.int .u64 (g.addN l), .int .i64 (g.addE l)]) ∧ ∃ o', LogAt o' c w' q (g.addG l) p ∧ Step o (logL c) w o' w' := by
  have H := Lib.hid h
  have HRD := Lib.hid hrd
  have HCP := Lib.hid (fun W (hb : Below w.heap.size w W) => cput_any ⟨g.epoch, g.next, l⟩ W A cap (hrd.below' (by omega) hb) hll hcap hcm hd hv he hn)
  have HLL := Lib.hid hll
  have HN := Lib.hid hn
  have HL := Lib.hid hl
  have HU := Lib.hid hu
  have HAT := Lib.hid hat
  have HC := Lib.hid hc
  have HF := Lib.hid hf
  obtain ⟨r, HB, HCC, HR, x14, _⟩ := h.out_
  have HAE := Lib.hid (show g.addE l = if g.broken then 13 else if (Rc.mk g.epoch g.next l).wrongE ≠ 0 then (Rc.mk g.epoch g.next l).wrongE else if 1 < l.length then 31 else if 7 < secsOf l.length + g.used then 10 else 0 from rfl)
  have HAG := Lib.hid (show g.addG l = if g.addE l ≠ 0 then g else { g with live := g.live ++ [g.entry l], at_ := (g.at_ + secsOf l.length) % 7, next := (g.next + 1) % 18446744073709551616 } from rfl)
  have x3 : w.cell? ⟨q, 3, none⟩ = some (.int .i64 8) := HB.out.cell 3
  obtain ⟨M, hM⟩ : ∃ M, g.mayE = M := ⟨_, rfl⟩
  have HMM := Lib.hid hM
  have HM2 := Lib.hid (show g.mayE = if g.broken then 13 else 0 from rfl)
  clear h hrd hll hcap hcm hd hv he hn hl hu hat hc hf x14 hM
  go_enter Tryz.func20, Tryz.ntmps20
  go_wp2_with fail
  refine (gmay_any H.out).mono ?_
  rintro e w1 ⟨rfl, rfl⟩
  rw [HMM.out]
  by_cases h0 : M = 0
  · subst h0
    have HBR := Lib.hid (show g.broken = false by have h1 := HM2.out; rw [HMM.out] at h1; cases hb : g.broken with | false => rfl | true => rw [hb] at h1; simp at h1)
    go_upto_region 4 with (fail)
    have x7 : w.drew.cell? ⟨q, 7, none⟩ = some (.int .u64 g.epoch) := HB.out.cell 7
    have x9 : w.drew.cell? ⟨q, 9, none⟩ = some (.int .u64 g.next) := HB.out.cell 9
    go_region_held3 (fun w' => w'.cell? ⟨q, 7, none⟩ = some (.int .u64 g.epoch) ∧ w'.cell? ⟨q, 9, none⟩ = some (.int .u64 g.next))
      (first | exact ⟨x7, x9⟩ | exact ⟨hbk.cell 7, hbk.cell 9⟩ | go_keep)
      (first | (go_at_call 122; ((with_reducible refine (HCP.out w.drew (below_drew' (Below.refl _ _))).mono ?_); rintro e2 w2 ⟨rfl, hb2⟩; have hbk := HB.out.drew.below_ hb2)))
    have hb3 : Below w.heap.size w w2 := below_of_drew hb2
    have HB2 := Lib.hid hbk
    have HS2 := Lib.hid (Step.of_below o (logL c) hb3)
    have H2 := Lib.hid (H.out.below_ hb3)
    have HF2 := Lib.hid (HF.out.below hb3)
    have HAB := Lib.hid (show ∀ e, g.addE l = e → e ≠ 0 → g.addE l = e ∧ g.addG l = g ∧ g.addN l = 0 from fun e h1 h2 => ⟨h1, by rw [HAG.out, if_pos (by rw [h1]; exact h2)], by unfold Lg.addN; rw [if_neg (by rw [h1]; exact h2)]⟩)
    clear hb2 hb3 hbk x7 x9 HCP HRD HR HB
    obtain ⟨E, hE⟩ : ∃ E, (Rc.mk g.epoch g.next l).wrongE = E := ⟨_, rfl⟩
    have HWR := Lib.hid hE
    obtain ⟨PS, hPS⟩ : ∃ S, (Rc.mk g.epoch g.next l).putS = S := ⟨_, rfl⟩
    have HPS := Lib.hid hPS
    rw [hE] at HAE ⊢
    rw [hPS]
    clear hE hPS
    by_cases h1 : E = 0
    · subst h1
      have hl1 : 1 ≤ l.length := by have := (wrong_zero HWR.out).2.2.1; cases l with | nil => exact absurd rfl this | cons x l => simp
      by_cases h2 : 1 < l.length
      · have HE := Lib.hid (HAB.out 31 (by rw [HAE.out, HBR.out]; simp [h2]) (by decide))
        have h2I : (1 : Int) < (l.length : Int) := by omega
        have x3' : w2.cell? ⟨q, 3, none⟩ = some (.int .i64 8) := HB2.out.cell 3
        clear h2 hl1
        go_wp2_with fail
        refine (most_eight _).mono ?_
        rintro e w3 ⟨rfl, rfl⟩
        go_wp2_with fail
        go_ret2
        obtain ⟨r1, r2, r3⟩ := HE.out
        exact ⟨by rw [r3, r1]; rfl, o, by rw [r2]; exact H2.out, HS2.out⟩
      · obtain ⟨i0, hi0⟩ : ∃ i, l = [i] := by
          match l, hl1, h2 with
          | [i], _, _ => exact ⟨i, rfl⟩
          | _ :: _ :: _, _, h => exact absurd (by simp) h
        have hle : l.length = 1 := by rw [hi0]; rfl
        have HI0 := Lib.hid hi0
        have x3' : w2.cell? ⟨q, 3, none⟩ = some (.int .i64 8) := HB2.out.cell 3
        clear hi0 hl1 h2
        go_wp2_with fail
        refine (most_eight _).mono ?_
        rintro e w3 ⟨rfl, rfl⟩
        go_wp2_with fail
        refine (gfits_any H2.out (by have := HL.out; omega) HU.out 1).mono ?_
        rintro e w3 ⟨rfl, hb3⟩
        have HB3 := Lib.hid (HB2.out.below_ hb3)
        have HS3 := Lib.hid (HS2.out.trans (Step.of_below o (logL c) hb3))
        have H3 := Lib.hid (H2.out.below_ hb3)
        have HF3 := Lib.hid (HF2.out.below hb3)
        have HFT := Lib.hid (show g.fits 1 = decide (3 + g.used ≤ 7) by unfold Lg.fits; rw [HMM.out]; simp)
        rw [HFT.out]
        clear hb3 x3' HFT
        have hs3 : secsOf ((1 : Nat) : Int) = 3 := by decide
        have HA2 := Lib.hid (show g.addE l = if 7 < 3 + g.used then 10 else 0 by rw [HAE.out, HBR.out, hle, hs3]; simp)
        clear hs3
        by_cases h3 : 3 + g.used ≤ 7
        · have hd3 : decide (3 + g.used ≤ 7) = true := decide_eq_true h3
          have HE0 := Lib.hid (show g.addE l = 0 by rw [HA2.out, if_neg (by omega)])
          rw [hd3]
          go_upto_region 11 with (fail)
          have x9 : w3.drew.cell? ⟨q, 9, none⟩ = some (.int .u64 g.next) := HB3.out.cell 9
          have x11 : w3.drew.cell? ⟨q, 11, none⟩ = some (.int .i64 g.at_) := HB3.out.cell 11
          have hs3 : secsOf 1 = 3 := by decide
          have v9 : w3.cell? ⟨q, 9, none⟩ = some (.int .u64 g.next) := x9
          have v11 : w3.cell? ⟨q, 11, none⟩ = some (.int .i64 g.at_) := x11
          have dn := World.new_ne w3 _ v9
          have dn2 := World.new_ne w3 _ v11
          go_cut [9] from 50 to 62 (fun t9 wx => t9 = .pointer (some ⟨w3.heap.size, 0, none⟩) ∧ wx = (w3.alloc (.cells #[.int .u64 g.next, .int .i64 g.at_, .int .i64 3, .string PS, .bool false] 157)).drew)
          case first =>
            go_region_held3 (fun w' => w'.cell? ⟨q, 9, none⟩ = some (.int .u64 g.next) ∧ w'.cell? ⟨q, 11, none⟩ = some (.int .i64 g.at_))
              (first | exact ⟨x9, x11⟩ | go_keep)
              (first | (go_at_call 125; ((with_reducible refine (secs_any 1 _).mono ?_); rintro e4 w4 ⟨rfl, rfl⟩; rw [hs3])))
            all_goals
              go_wp2_with fail
              go_meet
              case rel => exact ⟨rfl, rfl⟩
          case rest =>
            obtain ⟨rfl, rfl⟩ := hcut
            have HX4 := Lib.hid (Keep.new HF3.out 157 #[.int .u64 g.next, .int .i64 g.at_, .int .i64 3, .string PS, .bool false]).drew
            have HB4 := Lib.hid (HB3.out.alloc (.cells #[.int .u64 g.next, .int .i64 g.at_, .int .i64 3, .string PS, .bool false] 157)).drew
            have HS4 := Lib.hid (HS3.out.alloc (.cells #[.int .u64 g.next, .int .i64 g.at_, .int .i64 3, .string PS, .bool false] 157)).drew
            have H4 := Lib.hid (H3.out.alloc (.cells #[.int .u64 g.next, .int .i64 g.at_, .int .i64 3, .string PS, .bool false] 157)).drew
            have HF4 := Lib.hid (HF3.out.alloc (.cells #[.int .u64 g.next, .int .i64 g.at_, .int .i64 3, .string PS, .bool false] 157)).drew
            have HXW := Lib.hid (show w.heap.size ≤ w3.heap.size from HS3.out.size)
            generalize (w3.alloc (.cells #[.int .u64 g.next, .int .i64 g.at_, .int .i64 3, .string PS, .bool false] 157)).drew = W4 at HX4 HB4 HS4 H4 HF4 ⊢
            generalize w3.heap.size = X at HX4 HXW ⊢
            clear x9 x11 v9 v11 dn dn2
            obtain ⟨r4, HBr, HCr, HRr, y14, _⟩ := H4.out.out_
            have z14 : W4.drew.cell? ⟨q, 14, none⟩ = some (.pointer (some ⟨r4, 0, none⟩)) := y14
            have z5 := HX4.out.drew.1.five
            obtain ⟨v0, v1, v2, v3, v4⟩ := HX4.out.1.five
            have dn := World.new_ne W4 _ y14
            have dn0 := World.new_ne W4 _ v0
            have HRE := Lib.hid (show Reads (W4.alloc (.cells #[.int .u64 g.next, .int .i64 g.at_, .int .i64 3, .string PS, .bool false] 157)).drew 5 (some ⟨W4.heap.size, 0, none⟩) 1 (En.cells ⟨g.next, g.at_, 3, PS, false⟩) from (reads_entry W4 ⟨g.next, g.at_, 3, PS, false⟩).drew)
            have HLI := Lib.hid (show (g.live.length : Int) < 100000 by have := HL.out; omega)
            have HEN := Lib.hid (show g.entry l = ⟨g.next, g.at_, 3, PS, false⟩ by unfold Lg.entry; rw [HPS.out, hle]; rfl)
            go_upto_region 12 with (fail)
            go_region_held3 (fun w' => w'.cell? ⟨q, 14, none⟩ = some (.pointer (some ⟨r4, 0, none⟩)) ∧ w'.cell? ⟨X, 0, none⟩ = some (.int .u64 g.next) ∧ w'.cell? ⟨X, 1, none⟩ = some (.int .i64 g.at_) ∧ w'.cell? ⟨X, 2, none⟩ = some (.int .i64 3) ∧ w'.cell? ⟨X, 3, none⟩ = some (.string PS) ∧ w'.cell? ⟨X, 4, none⟩ = some (.bool false))
              (first | exact ⟨z14, z5.1, z5.2.1, z5.2.2.1, z5.2.2.2.1, z5.2.2.2.2⟩ | exact ⟨hb5.cell 14, hk5.1.cell 0, hk5.1.cell 1, hk5.1.cell 2, hk5.1.cell 3, hk5.1.cell 4⟩ | go_keep)
              (first | (go_at_call 126; ((with_reducible refine (epush_any (HRr.out.alloc (.cells #[.int .u64 g.next, .int .i64 g.at_, .int .i64 3, .string PS, .bool false] 157)).drew (by omega) HLI.out (some ⟨W4.heap.size, 0, none⟩) 1 ⟨g.next, g.at_, 3, PS, false⟩ HRE.out (by omega) (by unfold maxLen; omega)).mono ?_); rintro e5 w5 ⟨rfl, o5, hr5, hs5⟩; have hb5 := (HBr.out.alloc (.cells #[.int .u64 g.next, .int .i64 g.at_, .int .i64 3, .string PS, .bool false] 157)).drew.step hs5 (by rw [HCr.out]; unfold only; omega); have hk5 := (HX4.out.alloc (.cells #[.int .u64 g.next, .int .i64 g.at_, .int .i64 3, .string PS, .bool false] 157)).drew.step hs5 (by unfold only; omega))))
            have HX5 := Lib.hid hk5
            have HB5 := Lib.hid hb5
            have hc5 : o5 q = c := (hs5.old q (by simp; exact Nat.lt_succ_of_lt HBr.out.lt)).trans HCr.out
            have H5 := Lib.hid (show LogAt o5 c w5 q { g with live := g.live ++ [⟨g.next, g.at_, 3, PS, false⟩] } p from ⟨r4, hb5, hc5, hr5⟩)
            have HS5 := Lib.hid ((HS4.out.alloc (.cells #[.int .u64 g.next, .int .i64 g.at_, .int .i64 3, .string PS, .bool false] 157)).trans (hs5.of_drew.mono (logL_ring c)))
            have x11 : w5.cell? ⟨q, 11, none⟩ = some (.int .i64 g.at_) := hb5.cell 11
            have f11 := hb5.frozen 11
            have xn : w5.cell? ⟨X, 2, none⟩ = some (.int .i64 3) := hk5.1.cell 2
            obtain ⟨m, hm⟩ : ∃ m, (g.at_ + 3) % 7 = m := ⟨_, rfl⟩
            have e1 : IntKind.i64.wrap ((g.at_ : Int) + 3) = (g.at_ : Int) + 3 := IntWalk.i64_in _ (by have := HAT.out; omega)
            have e2 : ((g.at_ : Int) + 3).tmod 7 = (m : Int) := by rw [Int.tmod_eq_emod_of_nonneg (by omega)]; omega
            have e3 : IntKind.i64.wrap (m : Int) = (m : Int) := IntWalk.i64_in _ (by omega)
            have HM := Lib.hid hm
            clear hb5 hk5 hs5 z14 z5 v0 v1 v2 v3 v4 dn dn0 y14 hm
            go_upto_region 13 with (fail)
            go_cut [] from 70 to 82 (fun wx => wx = (w5.setCell ⟨q, 11, none⟩ (.int .i64 m)).drew)
            case first =>
              go_region_with (go_at_call 127; ((with_reducible refine (gsize_any H5.out.drew).mono ?_); rintro e6 w6 ⟨rfl, rfl⟩))
              all_goals
                go_wp2_with fail
                go_meet
                case rel => rfl
            case rest =>
              obtain rfl := hcut
              have S6 := (Step.refl o5 (only c) w5).setCell (p := ⟨q, 11, none⟩) hc5 (.int .i64 m)
              have HB6 := Lib.hid (HB5.out.set_ 11 (.int .i64 m)).drew
              have HX6 := Lib.hid (HX5.out.step S6 (by have := HC.out; unfold only; omega)).drew
              have HS6 := Lib.hid (HS5.out.trans (S6.mono (logL_log c))).drew
              have HR6 := Lib.hid (hr5.step S6 (by unfold only; omega)).drew
              clear S6 x11 f11 xn e1 e2 e3
              generalize (w5.setCell ⟨q, 11, none⟩ (.int .i64 m)).drew = W6 at HB6 HX6 HS6 HR6 ⊢
              have x9 : W6.cell? ⟨q, 9, none⟩ = some (.int .u64 g.next) := HB6.out.cell 9
              have f9 := HB6.out.frozen 9
              have x0 : W6.cell? ⟨X, 0, none⟩ = some (.int .u64 g.next) := HX6.out.1.cell 0
              have S7 := (Step.refl o5 (only c) W6).setCell (p := ⟨q, 9, none⟩) hc5 (.int .u64 ((g.next + 1) % 18446744073709551616 : Nat))
              have x0' : (W6.setCell ⟨q, 9, none⟩ (.int .u64 ((g.next + 1) % 18446744073709551616 : Nat))).cell? ⟨X, 0, none⟩ = some (.int .u64 g.next) := (HX6.out.step S7 (by have := HC.out; unfold only; omega)).1.cell 0
              have HS7 := Lib.hid (HS6.out.trans (S7.mono (logL_log c)))
              have HR7 := Lib.hid (HR6.out.step S7 (by unfold only; omega))
              have HB7 := Lib.hid (HB6.out.set_ 9 (.int .u64 ((g.next + 1) % 18446744073709551616 : Nat)))
              have hw : IntKind.u64.wrap ((g.next : Int) + 1) = (((g.next + 1) % 18446744073709551616 : Nat) : Int) := by rw [IntKind.wrap_u64]; omega
              have HAG2 := Lib.hid (show g.addG l = { g with live := g.live ++ [⟨g.next, g.at_, 3, PS, false⟩], at_ := m, next := (g.next + 1) % 18446744073709551616 } by
                rw [HAG.out, if_neg (by rw [HE0.out]; decide), HEN.out, hle, show secsOf ((1 : Nat) : Int) = 3 from hs3, HM.out])
              have HAN := Lib.hid (show g.addN l = g.next from if_pos HE0.out)
              clear S7
              go_wp2_with fail
              go_ret2
              exact ⟨by rw [HAN.out, HE0.out]; rfl, o5, by rw [HAG2.out]; exact ⟨r4, HB7.out, hc5, HR7.out⟩, HS7.out⟩
        · have hd3 : decide (3 + g.used ≤ 7) = false := decide_eq_false h3
          have HE := Lib.hid (HAB.out 10 (by rw [HA2.out, if_pos (by omega)]) (by decide))
          rw [hd3]
          go_wp2_with fail
          go_ret2
          obtain ⟨r1, r2, r3⟩ := HE.out
          exact ⟨by rw [r3, r1]; rfl, o, by rw [r2]; exact H3.out, HS3.out⟩
    · have t1 : (E != 0) = true := bne_iff_ne.2 h1
      have HE := Lib.hid (HAB.out E (by rw [HAE.out, HBR.out]; simp [h1]) h1)
      clear h1
      go_wp2_with fail
      go_ret2
      obtain ⟨r1, r2, r3⟩ := HE.out
      exact ⟨by rw [r3, r1]; rfl, o, by rw [r2]; exact H2.out, HS2.out⟩
  · have t1 : (M != 0) = true := bne_iff_ne.2 h0
    have HE := Lib.hid (show g.addE l = M ∧ g.addG l = g ∧ g.addN l = 0 by
      have h1 := HM2.out
      rw [HMM.out] at h1
      have hb : g.broken = true := by cases hb : g.broken with | true => rfl | false => rw [hb] at h1; exact absurd h1 h0
      have h2 : g.addE l = 13 := by rw [HAE.out, if_pos hb]
      have h3 : M = 13 := by rw [h1, if_pos hb]
      exact ⟨h2.trans h3.symm, by rw [HAG.out, if_pos (by rw [h2]; decide)], by unfold Lg.addN; rw [h2]; rfl⟩)
    clear h0
    go_wp2_with fail
    go_ret2
    obtain ⟨r1, r2, r3⟩ := HE.out
    exact ⟨by rw [r3, r1]; rfl, o, by rw [r2]; exact H.out, Step.refl _ _ _⟩
end
end Go.Proofs.YtkhieofknglknaaGreatDoor

/- The document's disk (commonsref8), not armed and on: Admit, Fence, Barrier. -/
namespace Go.Proofs.YtkhieofknglknaaGreatDoor
open Go.RowKit

structure RW where
  node : Int
  at_ : Int
  data : ByteArray
  lasts : Bool
def RW.cells (x : RW) : List Value := [.int .i64 x.node, .int .i64 x.at_, .string x.data, .bool x.lasts]
def rwcells (l : List RW) : List Value := l.flatMap RW.cells
structure RK where
  room : Nat
  ws : List RW
  table : Nat → Nat
  words : Nat → Nat
  last : Nat
def RK.cells (R : RK) (lv : Value) : Array Value :=
  #[.int .i64 R.room, lv, .bool false,
    .int .u64 (R.table 0), .int .u64 (R.table 1), .int .u64 (R.table 2), .int .u64 (R.table 3), .int .u64 (R.table 4), .int .u64 (R.table 5), .int .u64 (R.table 6), .int .u64 (R.table 7), .int .u64 (R.table 8), .int .u64 (R.table 9), .int .u64 (R.table 10), .int .u64 (R.table 11), .int .u64 (R.table 12), .int .u64 (R.table 13), .int .u64 (R.table 14), .int .u64 (R.table 15), .int .u64 (R.table 16),
    .int .u64 (R.words 0), .int .u64 (R.words 1), .int .u64 (R.words 2), .int .u64 (R.words 3), .int .u64 (R.words 4), .int .u64 (R.words 5), .int .u64 (R.words 6), .int .u64 (R.words 7), .int .u64 (R.words 8), .int .u64 (R.words 9), .int .u64 (R.words 10), .int .u64 (R.words 11), .int .u64 (R.words 12), .int .u64 (R.words 13), .int .u64 (R.words 14), .int .u64 (R.words 15), .int .u64 (R.words 16),
    .int .u64 R.last, .bool false, .int .i64 0, .slice none 0 0]
/-- the document's disk at p, of colour c (its writes: c + 1) -/
def RefAt (o : Nat → Nat) (c : Nat) (w : World) (p : Nat) (R : RK) : Prop := ∃ lv, Blk w p 95 (R.cells lv) ∧ o p = c ∧ OwnS o (c + 1) w 185 4 lv R.ws.length (rwcells R.ws)
section
variable {o o' : Nat → Nat} {c p : Nat} {C : Nat → Prop} {w w' : World} {R : RK}
theorem RefAt.step (h : RefAt o c w p R) (hs : Step o C w o' w') (h0 : ¬ C c) (h1 : ¬ C (c + 1)) : RefAt o' c w' p R := by
  obtain ⟨lv, hb, hc, ho⟩ := h
  exact ⟨lv, hb.step hs (by rw [hc]; exact h0), (hs.old p hb.lt).trans hc, ho.step hs h1⟩
theorem RefAt.below_ (h : RefAt o c w p R) (hb : Below w.heap.size w w') : RefAt o c w' p R := h.step (Step.of_below o (fun _ => False) hb) id id
theorem RefAt.alloc (h : RefAt o c w p R) (x : Obj) : RefAt o c (w.alloc x) p R := h.below_ ((Below.refl _ _).alloc (Nat.le_refl _) x)
theorem rk_table (R : RK) (lv : Value) (k : Nat) (hk : k ≤ 16) : (R.cells lv)[3 + k]? = some (.int .u64 (R.table k)) := by
  rcases k with _ | _ | _ | _ | _ | _ | _ | _ | _ | _ | _ | _ | _ | _ | _ | _ | _ | k <;> first | rfl | omega
theorem rk_put (R : RK) (lv : Value) (k : Nat) (hk : k ≤ 16) (v : Nat) : (R.cells lv).setIfInBounds (3 + k) (.int .u64 v) = ({ R with table := fun j => if j = k then v else R.table j } : RK).cells lv := by
  rcases k with _ | _ | _ | _ | _ | _ | _ | _ | _ | _ | _ | _ | _ | _ | _ | _ | _ | k <;> first | rfl | omega
theorem refnode_any (n : Int) (w : World) : Calls Tryz.prog 145 #[.int .i64 n] w fun e w' => e = .returned (.bool (decide (0 ≤ n ∧ n ≤ 16))) ∧ w = w' := by
  by_cases h0 : 0 ≤ n
  · by_cases h1 : n ≤ 16
    · go_enter Tryz.func145, Tryz.ntmps145
      go_wp2_with fail
      go_ret
      exact ⟨by simp [h0, h1], rfl⟩
    · go_enter Tryz.func145, Tryz.ntmps145
      go_wp2_with fail
      go_ret
      exact ⟨by simp [h1], rfl⟩
  · go_enter Tryz.func145, Tryz.ntmps145
    go_wp2_with fail
    go_ret
    exact ⟨by simp; omega, rfl⟩
theorem refspend_any (h : RefAt o c w p R) : Calls Tryz.prog 146 #[.pointer (some ⟨p, 0, none⟩)] w fun e w' => e = .returned (.int .i64 0) ∧ w = w' := by
  obtain ⟨lv, hb, _, _⟩ := h
  have x38 : w.cell? ⟨p, 38, none⟩ = some (.bool false) := hb.cell 38
  clear hb
  go_enter Tryz.func146, Tryz.ntmps146
  go_wp2
  all_goals go_ret
  all_goals exact ⟨rfl, rfl⟩
theorem refmay_ok (h : RefAt o c w p R) (k e : Nat) (hk : k ≤ 16) (he : R.table k = e) (h0 : e ≠ 0) : Calls Tryz.prog 147 #[.pointer (some ⟨p, 0, none⟩), .int .i64 (k : Int), .int .u64 (e : Int)] w fun r w' => r = .returned (.int .i64 0) ∧ w = w' := by
  obtain ⟨lv, hb, _, _⟩ := h
  have x2 : w.cell? ⟨p, 2, none⟩ = some (.bool false) := hb.cell 2
  have ct : w.cell? ⟨p, 3 + k, none⟩ = some (.int .u64 (e : Int)) := by rw [hb.cell, rk_table R lv k hk, he]
  have hd : decide ((0 : Int) ≤ (k : Int) ∧ (k : Int) ≤ 16) = true := decide_eq_true (by omega)
  have h0I : ¬ (e : Int) = 0 := by omega
  have hkI : (k : Int) < 17 := by omega
  clear hb
  go_enter Tryz.func147, Tryz.ntmps147
  go_wp2_with fail
  refine (refnode_any k w).mono ?_
  rintro r w1 ⟨rfl, rfl⟩
  rw [hd]
  go_wp2_with fail
  go_ret
  exact ⟨rfl, rfl⟩
def RK.admit (R : RK) (k e : Nat) : RK := { R with table := fun j => if j = k then e else R.table j, last := e }
set_option maxRecDepth 100000 in
theorem refadmit_ok (h : RefAt o c w p R) (k e : Nat) (hk : k ≤ 16) (he : R.last < e) : Calls Tryz.prog 33 #[.pointer (some ⟨p, 0, none⟩), .int .i64 (k : Int), .int .u64 (e : Int)] w fun r w' => r = .returned (.int .i64 0) ∧ RefAt o c w' p (R.admit k e) ∧ Step o (only c) w o w' := by
  have H := Lib.hid h
  obtain ⟨lv, hb, hc, ho⟩ := h
  have x2 : w.cell? ⟨p, 2, none⟩ = some (.bool false) := hb.cell 2
  have x37 : w.cell? ⟨p, 37, none⟩ = some (.int .u64 R.last) := hb.cell 37
  have ct : w.cell? ⟨p, 3 + k, none⟩ = some (.int .u64 (R.table k : Int)) := by rw [hb.cell, rk_table R lv k hk]
  have ft := hb.frozen (3 + k)
  have f37 := hb.frozen 37
  have hd : decide ((0 : Int) ≤ (k : Int) ∧ (k : Int) ≤ 16) = true := decide_eq_true (by omega)
  have heI : ¬ (e : Int) ≤ (R.last : Int) := by omega
  have hkI : (k : Int) < 17 := by omega
  have hne : ¬ 3 + k = 37 := by omega
  have hb2 := (hb.set_ (3 + k) (.int .u64 e))
  rw [rk_put R lv k hk e] at hb2
  have HB3 := Lib.hid (hb2.set_ 37 (.int .u64 e))
  have S2 := ((Step.refl o (only c) w).setCell (p := ⟨p, 3 + k, none⟩) hc (.int .u64 e)).setCell (p := ⟨p, 37, none⟩) hc (.int .u64 e)
  have HS := Lib.hid S2
  have HO := Lib.hid (ho.step S2 (by unfold only; omega))
  have HC := Lib.hid hc
  have y37 : (w.setCell ⟨p, 3 + k, none⟩ (.int .u64 e)).cell? ⟨p, 37, none⟩ = some (.int .u64 R.last) := hb2.cell 37
  have g37 := hb2.frozen 37
  clear hb hb2 S2 hc ho
  go_enter Tryz.func33, Tryz.ntmps33
  go_wp2_with fail
  refine (refnode_any k w).mono ?_
  rintro r w1 ⟨rfl, rfl⟩
  rw [hd]
  go_wp2_with fail
  refine (refspend_any H.out).mono ?_
  rintro r w1 ⟨rfl, rfl⟩
  go_wp2_with fail
  go_ret
  exact ⟨rfl, ⟨lv, HB3.out, HC.out, HO.out⟩, HS.out⟩
/-- what of node k waits lasts -/
def RW.keep (k : Int) (x : RW) : RW := if x.node = k then { x with lasts := true } else x
theorem rw_get {l : List RW} {k : Nat} {x : RW} (h : l[k]? = some x) : (rwcells l)[k * 4]? = some (.int .i64 x.node) ∧ (rwcells l)[k * 4 + 3]? = some (.bool x.lasts) := by
  induction l generalizing k with
  | nil => simp at h
  | cons y l ih =>
    cases k with
    | zero =>
      simp at h
      subst h
      exact ⟨rfl, rfl⟩
    | succ k =>
      obtain ⟨a, b⟩ := ih (k := k) (by simpa using h)
      rw [show (k + 1) * 4 = k * 4 + 1 + 1 + 1 + 1 from by omega]
      exact ⟨a, b⟩
theorem rw_set {x : RW} : ∀ {l : List RW} {k : Nat}, l[k]? = some x → (rwcells l).set (k * 4 + 3) (.bool true) = rwcells (l.set k { x with lasts := true })
  | y :: l, 0, h => by
    simp at h
    subst h
    rfl
  | y :: l, k + 1, h => by
    have ih := rw_set (l := l) (k := k) (by simpa using h)
    rw [show (k + 1) * 4 + 3 = k * 4 + 3 + 1 + 1 + 1 + 1 from by omega, List.set_cons_succ]
    show _ :: _ :: _ :: _ :: (rwcells l).set (k * 4 + 3) (.bool true) = _
    rw [ih]
    rfl
theorem rw_one (l : List RW) : ∀ u ∈ rwcells l, u.oneCell' = true := by
  intro u hu
  unfold rwcells at hu
  obtain ⟨x, _, hx⟩ := List.mem_flatMap.1 hu
  simp only [RW.cells, List.mem_cons, List.mem_nil_iff, or_false] at hx
  rcases hx with rfl | rfl | rfl | rfl <;> rfl
theorem rw_len (l : List RW) : (rwcells l).length = l.length * 4 := by
  unfold rwcells
  induction l with
  | nil => rfl
  | cons x r ih => simp only [List.flatMap_cons, List.length_append, ih, List.length_cons]; simp [RW.cells]; omega
theorem info_rw : (Tryz.prog.info? 185).map (fun i => (i.zero, i.size, i.bytes)) = some (some (.agg #[.int .i64 0, .int .i64 0, .string ⟨#[]⟩, .bool false]), 4, 40) := by kernel_rfl
/-- the first j have been looked at -/
def keepTo (k : Int) (l : List RW) (j : Nat) : List RW := (l.take j).map (RW.keep k) ++ l.drop j
theorem keepTo_len (k : Int) (l : List RW) (j : Nat) : (keepTo k l j).length = l.length := by
  unfold keepTo
  rw [List.length_append, List.length_map, List.length_take, List.length_drop]
  omega
theorem keepTo_get {k : Int} {l : List RW} {j : Nat} (h : j < l.length) : (keepTo k l j)[j]? = l[j]? := by
  unfold keepTo
  rw [List.getElem?_append_right (by rw [List.length_map, List.length_take]; omega), List.length_map, List.length_take, List.getElem?_drop]
  congr 1
  omega
theorem keepTo_succ {k : Int} {l : List RW} {j : Nat} {x : RW} (h : l[j]? = some x) : keepTo k l (j + 1) = (keepTo k l j).set j (RW.keep k x) := by
  obtain ⟨hj, e⟩ := List.getElem?_eq_some_iff.1 h
  unfold keepTo
  rw [List.set_append_right _ _ (by rw [List.length_map, List.length_take]; omega), List.length_map, List.length_take, List.take_add_one, h, List.drop_eq_getElem_cons hj, e]
  have : j - min j l.length = 0 := by omega
  rw [this]
  simp
end
end Go.Proofs.YtkhieofknglknaaGreatDoor

/- The document's disk: keep, Fence, Barrier. -/
namespace Go.Proofs.YtkhieofknglknaaGreatDoor
open Go.RowKit

def RK.keep (R : RK) (k : Int) : RK := { R with ws := R.ws.map (RW.keep k) }
theorem keepTo_all (k : Int) (l : List RW) : keepTo k l l.length = l.map (RW.keep k) := by
  unfold keepTo
  rw [List.take_length, List.drop_length, List.append_nil]
theorem RefAt.row {o : Nat → Nat} {c p : Nat} {w : World} {R : RK} (h : RefAt o c w p R) : ∃ A cap, Hid (Blk w p 95 (R.cells (.slice A R.ws.length cap))) ∧ Hid (o p = c) ∧ Hid (OwnS o (c + 1) w 185 4 (.slice A R.ws.length cap) R.ws.length (rwcells R.ws)) ∧ w.cell? ⟨p, 1, none⟩ = some (.slice A R.ws.length cap) ∧ w.frozen? ⟨p, 1, none⟩ = false ∧ R.ws.length ≤ cap ∧ cap ≤ maxLen := by
  obtain ⟨lv, hb, hc, ho⟩ := h
  obtain ⟨A, cap, rfl, h1, h2⟩ := own_form' ho
  exact ⟨A, cap, hb, hc, ho, hb.cell 1, hb.frozen 1, h1, h2⟩
theorem set_self {α : Type} {l : List α} {j : Nat} {x : α} (h : l[j]? = some x) : l.set j x = l := by
  obtain ⟨hj, e⟩ := List.getElem?_eq_some_iff.1 h
  rw [← e]
  exact List.set_getElem_self hj
theorem blk_row {w : World} {g i m : Nat} {e : TypeId} {cur : Array Value} {xs : List Value} {u : Value} (hb : Blk w g e cur) (ht : cur.toList.take m = xs) (hi : i < m) (hx : xs[i]? = some u) : w.cell? ⟨g, i, none⟩ = some u := by
  rw [hb.cell, ← Array.getElem?_toList, ← hx, ← ht, List.getElem?_take_of_lt hi]
section
variable {o : Nat → Nat} {c p : Nat} {w : World} {R : RK}
set_option maxRecDepth 100000 in
set_option maxHeartbeats 4000000 in
theorem refkeep_any (h : RefAt o c w p R) (k : Int) (hl : R.ws.length ≤ 100000) : Calls Tryz.prog 148 #[.pointer (some ⟨p, 0, none⟩), .int .i64 k] w fun r w' => r = .returned (.tuple #[]) ∧ ∃ o', RefAt o' c w' p (R.keep k) ∧ Step o (logL c) w o' w' := by
  obtain ⟨A, cap, HB, HC, HO, x1, f1, hcap, hcm⟩ := h.row
  obtain ⟨i0, hi, hz0, hz1, hz2⟩ := info_parts info_rw
  have HL := Lib.hid hl
  have hcmx : cap ≤ 9223372036854775807 := by unfold maxLen at hcm; omega
  have HCM := Lib.hid hcm
  clear h hcm
  go_enter Tryz.func148, Tryz.ntmps148
  go_wp2_with (at_builtin; refine wpList_append_S _ rfl (.const (.slice none 0 0)) (.tmp 9) 91 rfl 185 i0 _ 4 40 Tryz.underlying91 hi hz0 hz1 hz2 rfl (by omega) (.slice none 0 0) 0 [] rfl (OwnS.nil o (c + 1) _ _ _) A R.ws.length cap (rwcells R.ws) rfl (Reads.of_own HO.out.1) (rw_one R.ws) (by unfold maxLen; omega) (by omega) ?_; intro v7 w7 hown7 hst7 hgr7 hat7; simp only [Nat.zero_add, List.nil_append] at hown7; obtain ⟨A7, cap7, rfl, hq1, hq2⟩ := own_form' hown7; have hb7 := HB.out.step hst7 (by rw [HC.out]; unfold only; omega); have y1 : w7.cell? ⟨p, 1, none⟩ = some (.slice A R.ws.length cap) := hb7.cell 1; have g1 := hb7.frozen 1; have HB7 := Lib.hid hb7; have HO7 := Lib.hid hown7; have HS7 := Lib.hid hst7; clear hown7 hst7 hgr7 hat7 hb7)
  obtain ⟨o7, ho7⟩ : ∃ o7, band o w.heap.size w7.heap.size (c + 1) = o7 := ⟨_, rfl⟩
  rw [ho7] at HO7 HS7
  have hc7 : o7 p = c := (HS7.out.old p HB.out.lt).trans HC.out
  have hr7 : RefAt o7 c (w7.setCell ⟨p, 1, none⟩ (.slice A7 R.ws.length cap7)) p R := ⟨.slice A7 R.ws.length cap7, HB7.out.set_ 1 (.slice A7 R.ws.length cap7), hc7, HO7.out.setCell (p := ⟨p, 1, none⟩) (own_blk_ne HO7.out HB7.out (by decide)) _⟩
  have HR7 := Lib.hid hr7
  have HS8 := Lib.hid ((HS7.out.mono (logL_ring c)).setCell (p := ⟨p, 1, none⟩) (.inl hc7) (.slice A7 R.ws.length cap7))
  clear hr7 ho7 y1 g1 x1 f1
  generalize w7.setCell ⟨p, 1, none⟩ (.slice A7 R.ws.length cap7) = W8 at HR7 HS8 ⊢
  go_loopw [4] (fun t4 wr => ∃ j : Nat, j ≤ R.ws.length ∧ t4 = .int .i64 j ∧ RefAt o7 c wr p { R with ws := keepTo k R.ws j } ∧ Step o (logL c) w o7 wr) (fun t4 _ => R.ws.length - (intOf t4).toNat)
  case atStart => exact ⟨0, by omega, rfl, HR7.out, HS8.out⟩
  case round =>
    obtain ⟨j, hj, rfl, hr, hs⟩ := hrel
    obtain ⟨A9, cap9, HB9, HC9, HO9, x1, f1, hcap9, hcm9⟩ := hr.row
    have HRR := Lib.hid hr
    have HSS := Lib.hid hs
    clear hr hs
    simp only [keepTo_len] at HO9 HB9 x1 hcap9
    have hcm9' : cap9 ≤ 9223372036854775807 := by unfold maxLen at hcm9; omega
    have HCM9 := Lib.hid hcm9
    clear hcm9
    by_cases hlt : j < R.ws.length
    · have hltI : (j : Int) < (R.ws.length : Int) := by omega
      have HJL := Lib.hid hlt
      have hlI : (R.ws.length : Int) ≤ 100000 := by have := HL.out; omega
      obtain ⟨x, hx⟩ : ∃ x, R.ws[j]? = some x := ⟨_, List.getElem?_eq_getElem hlt⟩
      have hx2 := (keepTo_get (k := k) hlt).trans hx
      obtain ⟨g, cur, rfl, hb, hg, _, hcm2, hsz, htk⟩ := HO9.out.blk (by omega)
      have hc0 := rw_get hx2
      have y0 := blk_row (m := R.ws.length * 4) hb htk (by omega) hc0.1
      have y3 := blk_row (m := R.ws.length * 4) hb htk (by omega) hc0.2
      have g3 := hb.frozen (j * 4 + 3)
      have HBB := Lib.hid hb
      have HGG := Lib.hid hg
      have HSZ := Lib.hid hsz
      have HTK := Lib.hid htk
      have HKS := Lib.hid (keepTo_succ (k := k) hx)
      have HX2 := Lib.hid hx2
      clear hb hg hsz htk hx hx2 hcm2 hc0
      by_cases hk : x.node = k
      · have HK2 := Lib.hid (show keepTo k R.ws (j + 1) = (keepTo k R.ws j).set j { x with lasts := true } by rw [HKS.out]; unfold RW.keep; rw [if_pos hk])
        have hgp : g ≠ p := HBB.out.ne_ HB9.out (by decide)
        go_wp2_with fail
        go_roundw
        case rel =>
          refine ⟨j + 1, by have := HJL.out; omega, by go_num, ⟨_, HB9.out.far (p := ⟨g, j * 4 + 3, none⟩) hgp.symm (.bool true), HC9.out, ?_⟩, HSS.out.setCell (p := ⟨g, j * 4 + 3, none⟩) (.inr HGG.out) (.bool true)⟩
          have hl2 : (keepTo k R.ws (j + 1)).length = R.ws.length := keepTo_len _ _ _
          show OwnS _ _ _ _ _ _ (keepTo k R.ws (j + 1)).length (rwcells (keepTo k R.ws (j + 1)))
          rw [hl2, HK2.out, ← rw_set HX2.out, ← HTK.out]
          exact OwnS.of_blk (HBB.out.set_ (j * 4 + 3) (.bool true)) HGG.out hcap9 HCM9.out (by simp [HSZ.out]) (by simp [List.take_set])
        case measure => have := HJL.out; simp [intOf]; omega
      · have HK2 := Lib.hid (show keepTo k R.ws (j + 1) = keepTo k R.ws j by rw [HKS.out]; unfold RW.keep; rw [if_neg hk]; exact set_self HX2.out)
        go_wp2_with fail
        go_roundw
        case rel => exact ⟨j + 1, by have := HJL.out; omega, by go_num, by rw [HK2.out]; exact HRR.out, HSS.out⟩
        case measure => have := HJL.out; simp [intOf]; omega
    · have hltI : ¬ (j : Int) < (R.ws.length : Int) := by omega
      obtain rfl : j = R.ws.length := by omega
      rw [keepTo_all] at HRR
      go_wp2_with fail
      go_end0
      exact ⟨rfl, o7, HRR.out, HSS.out⟩
end
end Go.Proofs.YtkhieofknglknaaGreatDoor

/- The document's disk: Fence, Barrier, Write. -/
namespace Go.Proofs.YtkhieofknglknaaGreatDoor
open Go.RowKit

def RK.fence (R : RK) (k : Nat) : RK := { R.keep k with table := fun j => if j = k then 0 else R.table j }
section
variable {o : Nat → Nat} {c p : Nat} {w : World} {R : RK}
theorem reffence_ok (h : RefAt o c w p R) (k : Nat) (hk : k ≤ 16) (hl : R.ws.length ≤ 100000) : Calls Tryz.prog 36 #[.pointer (some ⟨p, 0, none⟩), .int .i64 (k : Int)] w fun r w' => r = .returned (.int .i64 0) ∧ ∃ o', RefAt o' c w' p (R.fence k) ∧ Step o (logL c) w o' w' := by
  have H := Lib.hid h
  have HL := Lib.hid hl
  have HK := Lib.hid hk
  obtain ⟨lv, hb, hc, ho⟩ := h
  have x2 : w.cell? ⟨p, 2, none⟩ = some (.bool false) := hb.cell 2
  have hd : decide ((0 : Int) ≤ (k : Int) ∧ (k : Int) ≤ 16) = true := decide_eq_true (by omega)
  have hkI : (k : Int) < 17 := by omega
  clear hb hc ho hl hk
  go_enter Tryz.func36, Tryz.ntmps36
  go_wp2_with fail
  refine (refnode_any k w).mono ?_
  rintro r w1 ⟨rfl, rfl⟩
  rw [hd]
  go_wp2_with fail
  refine (refspend_any H.out).mono ?_
  rintro r w1 ⟨rfl, rfl⟩
  clear x2
  go_wp2_with fail
  refine (refkeep_any H.out k HL.out).mono ?_
  rintro r w2 ⟨rfl, o2, hr2, hs2⟩
  obtain ⟨lv, hb, hc, ho⟩ := hr2
  have ct : w2.cell? ⟨p, 3 + k, none⟩ = some (.int .u64 ((R.keep k).table k : Int)) := by rw [hb.cell, rk_table (R.keep k) lv k HK.out]
  have ft := hb.frozen (3 + k)
  have hb2 := hb.set_ (3 + k) (.int .u64 (0 : Nat))
  rw [rk_put (R.keep k) lv k HK.out 0] at hb2
  have S2 := (Step.refl o2 (only c) w2).setCell (p := ⟨p, 3 + k, none⟩) hc (.int .u64 (0 : Nat))
  have HF := Lib.hid (show RefAt o2 c (w2.setCell ⟨p, 3 + k, none⟩ (.int .u64 0)) p (R.fence k) from ⟨lv, hb2, hc, ho.step S2 (by unfold only; omega)⟩)
  have HS := Lib.hid (hs2.trans (S2.mono (logL_log c)))
  clear hb hb2 S2 hs2 ho hc
  go_wp2_with fail
  go_ret
  exact ⟨rfl, o2, HF.out, HS.out⟩
theorem refbarrier_ok (h : RefAt o c w p R) (k e : Nat) (hk : k ≤ 16) (he : R.table k = e) (h0 : e ≠ 0) (hl : R.ws.length ≤ 100000) : Calls Tryz.prog 35 #[.pointer (some ⟨p, 0, none⟩), .int .i64 (k : Int), .int .u64 (e : Int)] w fun r w' => r = .returned (.int .i64 0) ∧ ∃ o', RefAt o' c w' p (R.keep k) ∧ Step o (logL c) w o' w' := by
  have H := Lib.hid h
  have HL := Lib.hid hl
  have HM := Lib.hid (refmay_ok h k e hk he h0)
  clear h hl hk he h0
  go_enter Tryz.func35, Tryz.ntmps35
  go_wp2_with fail
  refine HM.out.mono ?_
  rintro r w1 ⟨rfl, rfl⟩
  go_wp2_with fail
  refine (refspend_any H.out).mono ?_
  rintro r w1 ⟨rfl, rfl⟩
  go_wp2_with fail
  refine (refkeep_any H.out k HL.out).mono ?_
  rintro r w2 ⟨rfl, o2, hr2, hs2⟩
  have HF := Lib.hid hr2
  have HS := Lib.hid hs2
  clear hr2 hs2
  go_wp2_with fail
  go_ret
  exact ⟨rfl, o2, HF.out, HS.out⟩
/-- the first i sectors of a text, as writes -/
def rwsN (n at_ : Int) (data : ByteArray) (i : Nat) : List RW := (List.range i).map (fun t : Nat => ⟨n, at_ + t, sect data t, false⟩)
theorem rwsN_succ (n at_ : Int) (data : ByteArray) (i : Nat) : rwsN n at_ data (i + 1) = rwsN n at_ data i ++ [⟨n, at_ + i, sect data i, false⟩] := by
  unfold rwsN
  rw [List.range_succ, List.map_append]
  rfl
theorem rwcells_app (l m : List RW) : rwcells (l ++ m) = rwcells l ++ rwcells m := by simp [rwcells]
def RK.write (R : RK) (n at_ : Int) (data : ByteArray) (m : Nat) : RK := { R with ws := R.ws ++ rwsN n at_ data m }
set_option maxRecDepth 100000 in
set_option maxHeartbeats 4000000 in
theorem refwrite_ok (h : RefAt o c w p R) (k e : Nat) (at_ : Int) (data : ByteArray) (m : Nat) (hk : k ≤ 16) (he : R.table k = e) (h0 : e ≠ 0) (hd : data.size = m * 64) (h1 : 1 ≤ m) (h2 : m ≤ 16) (h3 : 0 ≤ at_) (h4 : at_ + m ≤ R.room) (hr : R.room ≤ 100000) (hl : R.ws.length ≤ 90000) :
    Calls Tryz.prog 34 #[.pointer (some ⟨p, 0, none⟩), .int .i64 (k : Int), .int .u64 (e : Int), .int .i64 at_, .string data] w fun r w' => r = .returned (.int .i64 0) ∧ ∃ o', RefAt o' c w' p (R.write k at_ data m) ∧ Step o (logL c) w o' w' := by
  have H := Lib.hid h
  have HL := Lib.hid hl
  have HM := Lib.hid (refmay_ok h k e hk he h0)
  have HDS := Lib.hid hd
  have HM2 := Lib.hid h2
  obtain ⟨lv, hb, hc, ho⟩ := h
  have x0 : w.cell? ⟨p, 0, none⟩ = some (.int .i64 R.room) := hb.cell 0
  have x2 : w.cell? ⟨p, 2, none⟩ = some (.bool false) := hb.cell 2
  have hn : decide ((0 : Int) ≤ (k : Int) ∧ (k : Int) ≤ 16) = true := decide_eq_true (by omega)
  have hq : (data.size : Int).tdiv 64 = (m : Int) := tdiv64 (by omega)
  have hqw : IntKind.i64.wrap (m : Int) = (m : Int) := IntWalk.i64_in _ (by omega)
  have hrem : (data.size : Int).tmod 64 = 0 := tmod64 (r := 0) (by omega)
  have hm1 : ¬ (m : Int) < 1 := by omega
  have hm2 : ¬ 16 < (m : Int) := by omega
  have hm1' : (1 : Int) ≤ (m : Int) := by omega
  have hm2' : (m : Int) ≤ 16 := by omega
  have hsub : IntKind.i64.wrap ((R.room : Int) - (m : Int)) = (R.room : Int) - (m : Int) := IntWalk.i64_in _ (by omega)
  have hat : ¬ (R.room : Int) - (m : Int) < at_ := by omega
  have hat2 : at_ ≤ (R.room : Int) - (m : Int) := by omega
  have hat0 : ¬ at_ < 0 := by omega
  have HAT := Lib.hid h4
  have HRM := Lib.hid hr
  clear hb hc ho hl hk he h0 hd h1 h2 h4 hr
  go_enter Tryz.func34, Tryz.ntmps34
  go_wp2_with fail
  refine (refnode_any k w).mono ?_
  rintro r w1 ⟨rfl, rfl⟩
  rw [hn]
  go_wp2_with fail
  refine HM.out.mono ?_
  rintro r w1 ⟨rfl, rfl⟩
  go_wp2_with fail
  refine (refspend_any H.out).mono ?_
  rintro r w1 ⟨rfl, rfl⟩
  go_wp2_with fail
  clear x0 x2 hn hq hqw hrem hm1 hm2 hm1' hm2' hsub hat hat2
  have H0 := Lib.hid (show RefAt o c w p (R.write k at_ data 0) by have e : R.write k at_ data 0 = R := by unfold RK.write rwsN; simp
                                                                   rw [e]; exact H.out)
  go_loopw [13] (fun t13 wr => ∃ (i : Nat) (o1 : Nat → Nat), i ≤ m ∧ t13 = .int .i64 i ∧ RefAt o1 c wr p (R.write k at_ data i) ∧ Step o (logL c) w o1 wr) (fun t13 _ => m - (intOf t13).toNat)
  case atStart => exact ⟨0, o, by omega, rfl, H0.out, Step.refl _ _ _⟩
  case round =>
    obtain ⟨i, o1, hi, rfl, hr, hs⟩ := hrel
    have HRR := Lib.hid hr
    have HSS := Lib.hid hs
    clear hr hs
    by_cases hlt : i < m
    · have hltI : (i : Int) < (m : Int) := by omega
      have HIL := Lib.hid hlt
      obtain ⟨A9, cap9, HB9, HC9, HO9, x1, f1, hcap9, hcm9⟩ := HRR.out.row
      obtain ⟨i0, hi0, hz0, hz1, hz2⟩ := info_parts info_rw
      have hWL : (R.write k at_ data i).ws.length = R.ws.length + i := by show (R.ws ++ rwsN k at_ data i).length = _; rw [List.length_append]; unfold rwsN; rw [List.length_map, List.length_range]
      have HWS := Lib.hid (show (R.write k at_ data (i + 1)).ws = (R.write k at_ data i).ws ++ [⟨k, at_ + i, sect data i, false⟩] by show R.ws ++ rwsN k at_ data (i + 1) = (R.ws ++ rwsN k at_ data i) ++ _; rw [rwsN_succ, List.append_assoc])
      obtain ⟨Q, hQ⟩ : ∃ Q, R.write k at_ data i = Q := ⟨_, rfl⟩
      have HQC := Lib.hid (show ∀ lv, (R.write k at_ data (i + 1)).cells lv = Q.cells lv from fun lv => by rw [← hQ]; rfl)
      rw [hQ] at HB9 HO9 x1 hcap9 hWL HWS
      have hWL2 : Q.ws.length ≤ 100000 := by have := HL.out; have := HM2.out; omega
      have hcm9' : cap9 ≤ 9223372036854775807 := by unfold maxLen at hcm9; omega
      have HCM9 := Lib.hid hcm9
      clear hcm9 hWL hQ
      obtain ⟨lo, hlo⟩ : ∃ lo, i * 64 = lo := ⟨_, rfl⟩
      obtain ⟨hi', hhi⟩ : ∃ hi', (i + 1) * 64 = hi' := ⟨_, rfl⟩
      have hhs : hi' ≤ data.size := by have := HDS.out; omega
      have e1 : IntKind.i64.wrap (at_ + (i : Int)) = at_ + i := IntWalk.i64_in _ (by have := HAT.out; have := HRM.out; omega)
      have e2 : IntKind.i64.wrap (64 * (i : Int)) = (lo : Int) := by rw [IntWalk.i64_in _ (by have := HM2.out; omega)]; omega
      have e3 : IntKind.i64.wrap ((lo : Int) + 64) = (hi' : Int) := by rw [IntWalk.i64_in _ (by have := HM2.out; omega)]; omega
      have b0 : (0 : Int) ≤ (lo : Int) := by omega
      have b1 : (lo : Int) ≤ (hi' : Int) := by omega
      have b2 : (hi' : Int) ≤ (data.size : Int) := by omega
      obtain ⟨S, hS⟩ : ∃ S, data.extract lo hi' = S := ⟨_, rfl⟩
      have HSE := Lib.hid (show sect data i = S by unfold sect; rw [hlo, hhi, hS])
      have HO10 := Lib.hid (HO9.out.alloc (.cells #[.int .i64 (k : Int), .int .i64 (at_ + (i : Int)), .string S, .bool false] 185)).drew
      have HB10 := Lib.hid (HB9.out.alloc (.cells #[.int .i64 (k : Int), .int .i64 (at_ + (i : Int)), .string S, .bool false] 185)).drew
      have HSA := Lib.hid (HSS.out.alloc (.cells #[.int .i64 (k : Int), .int .i64 (at_ + (i : Int)), .string S, .bool false] 185)).drew
      have z1 : wr.drew.cell? ⟨p, 1, none⟩ = some (.slice A9 Q.ws.length cap9) := x1
      have z1b : (wr.alloc (.cells #[.int .i64 (k : Int), .int .i64 (at_ + (i : Int)), .string S, .bool false] 185)).cell? ⟨p, 1, none⟩ = some (.slice A9 Q.ws.length cap9) := (HB9.out.alloc (.cells #[.int .i64 (k : Int), .int .i64 (at_ + (i : Int)), .string S, .bool false] 185)).cell 1
      clear hlo hhi hhs
      go_upto_region 17 with (fail)
      go_region_law ((refine step_append_S _ rfl (.tmp 71) (.tmp 84) 91 rfl 185 i0 _ 4 40 Tryz.underlying91 hi0 hz0 hz1 hz2 rfl (by omega) (.slice A9 Q.ws.length cap9) Q.ws.length (rwcells Q.ws) rfl HO10.out (some ⟨wr.heap.size, 0, none⟩) 1 1 [.int .i64 (k : Int), .int .i64 (at_ + (i : Int)), .string S, .bool false] rfl (Reads.newAt wr 185 4 1 _ #[.int .i64 (k : Int), .int .i64 (at_ + (i : Int)), .string S, .bool false] _ rfl rfl rfl).drew (by simp [Value.oneCell']) (by unfold maxLen; omega) (by omega) ?_; intro v7 w7 hown7 hst7 hgr7 hat7; obtain ⟨A7, cap7, rfl, _, _⟩ := own_form' hown7; have hb7 := HB10.out.step hst7 (by rw [HC9.out]; unfold only; omega); have y1 : w7.cell? ⟨p, 1, none⟩ = some (.slice A9 Q.ws.length cap9) := hb7.cell 1; have g1 := hb7.frozen 1; have HB7 := Lib.hid hb7; have HO7 := Lib.hid hown7; have HS7 := Lib.hid hst7; clear hown7 hst7 hgr7 hat7 hb7))
      all_goals
        have hc7 := (HS7.out.old p HB10.out.lt).trans HC9.out
        have hne := own_blk_ne HO7.out HB7.out (by decide)
        have HF := Lib.hid (show ∃ o2, RefAt o2 c (w7.setCell ⟨p, 1, none⟩ (.slice A7 (Q.ws.length + 1) cap7)) p (R.write k at_ data (i + 1)) ∧ Step o (logL c) w o2 (w7.setCell ⟨p, 1, none⟩ (.slice A7 (Q.ws.length + 1) cap7)) from by
          refine ⟨_, ⟨.slice A7 (Q.ws.length + 1) cap7, ?_, hc7, ?_⟩, (HSA.out.trans (HS7.out.mono (logL_ring c))).setCell (p := ⟨p, 1, none⟩) (.inl hc7) _⟩
          · rw [HQC.out]
            exact HB7.out.set_ 1 (.slice A7 (Q.ws.length + 1) cap7)
          · have h2 := HO7.out.setCell (p := ⟨p, 1, none⟩) hne (.slice A7 (Q.ws.length + 1) cap7)
            rw [HWS.out, rwcells_app, HSE.out, List.length_append]
            exact h2)
        clear hc7 hne HO7 HS7 HB7
        go_wp2_with fail
        go_roundw
        case rel => exact ⟨i + 1, HF.out.choose, by have := HIL.out; omega, by go_num, HF.out.choose_spec.1, HF.out.choose_spec.2⟩
        case measure => have := HIL.out; simp [intOf]; omega
    · have hltI : ¬ (i : Int) < (m : Int) := by omega
      obtain rfl : i = m := by omega
      go_wp2_with fail
      go_ret
      exact ⟨rfl, o1, HRR.out, HSS.out⟩
end
end Go.Proofs.YtkhieofknglknaaGreatDoor
