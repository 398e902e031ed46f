/- The document's writer and seal, as far as the document's disk needs them (printed by gen/mkrefx.py). -/
import Derived.Test.YtkhieofknglknaaGreatDoorKRefC
import Derived.Test.YtkhieofknglknaaGreatDoorKWireD
import Derived.Test.YtkhieofknglknaaGreatDoorKBlkB
import Derived.Test.YtkhieofknglknaaGreatDoorKSumA
import Derived.Test.YtkhieofknglknaaGreatDoorKShelf
import Derived.Shelf.SortM.Plain
import Derived.Shelf.SortM.SortNone
import Derived.Ground.GgzProg
import Derived.Ground.SlgmProg
import Derived.Test.YtkhieofknglknaaGreatDoorKLogP
namespace Go.Proofs.YtkhieofknglknaaGreatDoor
open Go.RowKit
section
variable {o : Nat → Nat} {c : Nat} {w : World} {p : Nat} {W : Wr}
set_option maxHeartbeats 400000 in
theorem xfail_old (h : WrAt 181 o c w p W) (he : W.e ≠ 0) (e : Int) :
    Calls Tryz.prog 221 #[.pointer (some ⟨p, 0, none⟩), .int .i64 e] w fun r w' => r = .returned (.bool true) ∧ w = w' := by
  obtain ⟨A, cap, h0, h1, f0, f1, hc1, hc2, hlt, HB, HC, HV⟩ := h.open_
  have t1 : (W.e == 0) = false := beq_eq_false_iff_ne.2 he
  have t2 : (W.e != 0) = true := bne_iff_ne.2 he
  clear h
  go_enter Tryz.func221, Tryz.ntmps221
  go_wp2
  go_ret
  exact ⟨rfl, rfl⟩
set_option maxHeartbeats 400000 in
theorem xfail_new (h : WrAt 181 o c w p W) (he : W.e = 0) (e : Int) (hne : e ≠ 0) :
    Calls Tryz.prog 221 #[.pointer (some ⟨p, 0, none⟩), .int .i64 e] w fun r w' => r = .returned (.bool true) ∧ WrAt 181 o c w' p { W with e := e } ∧ Step o (only c) w o w' := by
  have HW := Lib.hid h
  obtain ⟨A, cap, h0, h1, f0, f1, hc1, hc2, hlt, HB, HC, HV⟩ := h.open_
  rw [he] at h1
  have t2 : (e != 0) = true := bne_iff_ne.2 hne
  clear h he
  go_enter Tryz.func221, Tryz.ntmps221
  go_wp2
  go_ret
  exact ⟨rfl, HW.out.setE (by decide) e, (Step.refl o (only c) w).setCell (p := ⟨p, 1, none⟩) HC.out _⟩
set_option maxHeartbeats 400000 in
theorem xfail_ok (h : WrAt 181 o c w p W) (he : W.e = 0) :
    Calls Tryz.prog 221 #[.pointer (some ⟨p, 0, none⟩), .int .i64 0] w fun r w' => r = .returned (.bool false) ∧ WrAt 181 o c w' p W ∧ Step o (only c) w o w' := by
  have HW := Lib.hid h
  obtain ⟨A, cap, h0, h1, f0, f1, hc1, hc2, hlt, HB, HC, HV⟩ := h.open_
  rw [he] at h1
  have HE := Lib.hid he
  clear h he
  go_enter Tryz.func221, Tryz.ntmps221
  go_wp2
  go_ret
  have h9 := HW.out.setE (by decide) 0
  have e9 : ({ W with e := 0 } : Wr) = W := by
    have := HE.out
    cases W
    simp at this
    subst this
    rfl
  rw [e9] at h9
  exact ⟨rfl, h9, (Step.refl o (only c) w).setCell (p := ⟨p, 1, none⟩) HC.out _⟩
end
theorem numOk_div {v : Nat} {m : Nat} (h1 : 1 ≤ m) (h8 : m ≤ 8) : numOk v (m : Int) ↔ v / 256 ^ m = 0 := by
  unfold numOk
  rw [Int.toNat_natCast, Nat.div_eq_zero_iff_lt (Nat.pow_pos (by decide))]
  exact ⟨fun h => h.2.2, fun h => ⟨by omega, by omega, h⟩⟩
section
variable {o : Nat → Nat} {c : Nat} {w : World} {p : Nat} {W : Wr}
set_option maxRecDepth 100000 in
set_option maxHeartbeats 1000000 in
theorem xnum_any (h : WrAt 181 o c w p W) (v : Nat) (n : Int) (hv : v < 18446744073709551616) (hb : W.bs.length ≤ 1000000000) :
    Calls Tryz.prog 143 #[.pointer (some ⟨p, 0, none⟩), .int .u64 v, .int .i64 n] w fun r w' => r = .returned (.tuple #[]) ∧ ∃ o', WrAt 181 o' c w' p (W.num v n) ∧ Step o (only c) w o' w' := by
  have HW := Lib.hid h
  clear h
  have HV0 := Lib.hid hv
  clear hv
  by_cases he : W.e = 0
  · have HE := Lib.hid he
    by_cases hr : n < 1 ∨ 8 < n
    · have e1 : W.num v n = { W with e := 1 } := by unfold Wr.num; rw [if_neg (by simpa using he), if_neg (by unfold numOk; omega)]
      have E1 := Lib.hid e1
      clear e1 he
      by_cases h1 : n < 1
      · clear hr
        go_enter Tryz.func143, Tryz.ntmps143
        go_wp2_with fail
        refine (xfail_ok HW.out HE.out).mono ?_
        rintro e w1 ⟨rfl, hw1, hs1⟩
        have HW1 := Lib.hid hw1
        have HS1 := Lib.hid hs1
        clear hw1 hs1
        go_wp2_with fail
        refine (xfail_new HW1.out HE.out 1 (by decide)).mono ?_
        rintro e w2 ⟨rfl, hw2, hs2⟩
        have HW2 := Lib.hid hw2
        have HS2 := Lib.hid hs2
        clear hw2 hs2
        go_wp2_with fail
        first | go_end0 | refine bodyPost_ret (v := .tuple #[]) (by simp [results, Tryz.results143, go_sem]) rfl ?_
        exact ⟨rfl, o, by rw [E1.out]; exact HW2.out, HS1.out.trans HS2.out⟩
      · have h8 : 8 < n := by omega
        clear hr
        go_enter Tryz.func143, Tryz.ntmps143
        go_wp2_with fail
        refine (xfail_ok HW.out HE.out).mono ?_
        rintro e w1 ⟨rfl, hw1, hs1⟩
        have HW1 := Lib.hid hw1
        have HS1 := Lib.hid hs1
        clear hw1 hs1
        go_wp2_with fail
        refine (xfail_new HW1.out HE.out 1 (by decide)).mono ?_
        rintro e w2 ⟨rfl, hw2, hs2⟩
        have HW2 := Lib.hid hw2
        have HS2 := Lib.hid hs2
        clear hw2 hs2
        go_wp2_with fail
        first | go_end0 | refine bodyPost_ret (v := .tuple #[]) (by simp [results, Tryz.results143, go_sem]) rfl ?_
        exact ⟨rfl, o, by rw [E1.out]; exact HW2.out, HS1.out.trans HS2.out⟩
    · obtain ⟨m, rfl⟩ : ∃ m : Nat, n = m := ⟨n.toNat, by omega⟩
      have hm1 : ¬ (m : Int) < 1 := by omega
      have hm8 : ¬ (8 : Int) < (m : Int) := by omega
      have E1 := Lib.hid (show v / 256 ^ m = 0 → W.num v m = { W with bs := W.bs ++ le v m } from fun h0 => by
        unfold Wr.num; rw [if_neg (by simpa using he), if_pos ((numOk_div (by omega) (by omega)).2 h0), Int.toNat_natCast])
      have E2 := Lib.hid (show v / 256 ^ m ≠ 0 → W.num v m = { W with e := 1 } from fun h0 => by
        unfold Wr.num; rw [if_neg (by simpa using he), if_neg (fun h1 => h0 ((numOk_div (by omega) (by omega)).1 h1))])
      clear hr he
      obtain ⟨i0, hi0, hz0, hz1, hz2⟩ := info_parts info_u8
      go_enter Tryz.func143, Tryz.ntmps143
      go_wp2_with fail
      refine (xfail_ok HW.out HE.out).mono ?_
      rintro e w1 ⟨rfl, hw1, hs1⟩
      have HW1 := Lib.hid hw1
      have HS1 := Lib.hid hs1
      clear hw1 hs1
      go_wp2_with fail
      go_loopw [1, 6, 7] (fun t1 t6 t7 wr => ∃ (k : Nat) (o' : Nat → Nat), k ≤ m ∧ t7 = .int .i64 k ∧ t1 = .int .u64 ((v / 256 ^ k : Nat) : Int) ∧ OwnS o' (c + 1) wr 5 1 t6 k (bvs (le v k)) ∧ (∀ g, t6.ownBlock = some g → w.heap.size ≤ g) ∧ WrAt 181 o' c wr p W ∧ Step o (only c) w o' wr) (fun _ _ t7 _ => m - (intOf t7).toNat)
      case atStart => exact ⟨0, o, Nat.zero_le _, rfl, by simp, OwnS.nil _ _ _ _ _, by simp [Value.ownBlock], HW1.out, HS1.out⟩
      case round =>
        obtain ⟨k, o1, hk, rfl, rfl, hown6, hblk6, hw, hst⟩ := hrel
        obtain ⟨A6, cap6, rfl, hle6, hcap6⟩ := own_form' hown6
        unfold maxLen at hcap6
        have hu : v / 256 ^ k < 18446744073709551616 := Nat.lt_of_le_of_lt (Nat.div_le_self _ _) HV0.out
        have HNX := Lib.hid (show v / 256 ^ (k + 1) = v / 256 ^ k / 256 by rw [Nat.pow_succ, Nat.div_div_eq_div_mul])
        have HSN := Lib.hid (show le v (k + 1) = le v k ++ [UInt8.ofNat (v / 256 ^ k)] from rfl)
        have HL6 := Lib.hid (le_len v k)
        have HF := Lib.hid (show k = m → v / 256 ^ k = v / 256 ^ m from fun e => by rw [e])
        generalize v / 256 ^ k = u at hu HNX HSN HF
        have HO6 := Lib.hid hown6
        have HB6 := Lib.hid hblk6
        have HWK := Lib.hid hw
        have HST := Lib.hid hst
        clear hown6 hblk6 hw hst
        by_cases hlt : k < m
        · have hltI : (k : Int) < (m : Int) := by omega
          have HU := Lib.hid hu
          clear hu
          go_wp2_with (at_builtin; refine wpList_append_S _ rfl (.tmp 23) (.tmp 27) 164 rfl 5 i0 _ 1 1 Tryz.underlying164 hi0 hz0 hz1 hz2 rfl (by omega) (.slice A6 k cap6) k (bvs (le v k)) rfl (HO6.out.alloc _) (some ⟨wr.heap.size, 0, none⟩) 1 1 [.int .u8 ((u : Int) % 256)] rfl (Reads.newAt wr 5 1 1 [.int .u8 ((u : Int) % 256)] #[.int .u8 ((u : Int) % 256)] wr.heap.size rfl rfl rfl) (by simp [Value.oneCell']) (by unfold maxLen; omega) (by omega) ?_; intro v2 w2 hown hst hg hat; have HO2 := Lib.hid hown; have HS2 := Lib.hid hst; have HG2 := Lib.hid hg; have HA2 := Lib.hid hat; clear hown hst hg hat)
          go_roundw
          case rel =>
            have hbv : bvs (le v k) ++ [.int .u8 ((u : Int) % 256)] = bvs (le v (k + 1)) := by
              rw [HSN.out, bvs_app]
              simp [bvs, bv]
            have hst0 := HST.out.size
            refine ⟨k + 1, _, by omega, by go_num, by rw [HNX.out, IntKind.wrap_u64]; have h9 := HU.out; congr 1; omega, by rw [← hbv]; exact HO2.out, ?_, (HWK.out.alloc _).step HS2.out (by unfold only; omega), (HST.out.alloc _).grownNew (c + 1) HG2.out HB6.out⟩
            intro g hg
            rcases HA2.out with h2 | h2
            · exact HB6.out g (h2 ▸ hg)
            · rw [h2] at hg
              injection hg with hg
              simp at hg
              omega
          case measure => simp [intOf]; omega
        · have hltI : ¬ (k : Int) < (m : Int) := by omega
          obtain rfl : k = m := by omega
          have hum := HF.out rfl
          by_cases hz : u = 0
          · have hzI : ¬ (0 : Int) < (u : Int) := by omega
            have E3 := Lib.hid (E1.out (by rw [← hum]; exact hz))
            clear hum hz E1 E2 HF HNX HSN hu
            obtain ⟨A, cap, c0, c1, f0, f1, hc1, hc2, hpl, HB, HC, HV⟩ := HWK.out.open_
            have HNE := Lib.hid (own_blk_ne HV.out HB.out (by decide))
            go_wp2_with (at_builtin; refine wpList_append_S _ rfl (.tmp 39) (.tmp 40) 164 rfl 5 i0 _ 1 1 Tryz.underlying164 hi0 hz0 hz1 hz2 rfl (by omega) (.slice A W.bs.length cap) W.bs.length (bvs W.bs) rfl HV.out A6 k cap6 (bvs (le v k)) rfl (Reads.of_own HO6.out.1) (bvs_one _) (by unfold maxLen; omega) (by omega) ?_; intro v2 w2 hown hst hg hat; have hb2 : Blk w2 p 181 _ := (hg.block p hpl (fun e => HNE.out e.symm)).trans HB.out; have k0 := hb2.cell 0; have k1 := hb2.frozen 0; simp at k0 k1; obtain ⟨A2, cap2, rfl, _, _⟩ := own_form' hown; have HO2 := Lib.hid hown; have HS2 := Lib.hid hst; have HB2 := Lib.hid hb2; clear hown hst hg hat hb2)
            first | go_end0 | refine bodyPost_ret (v := .tuple #[]) (by simp [results, Tryz.results143, go_sem]) rfl ?_
            have hcol := (HS2.out.old p hpl).trans HC.out
            have hll : (W.bs ++ le v k).length = W.bs.length + k := by rw [List.length_append, le_len]
            have h4 := WrAt.setB (W := W) (l := W.bs ++ le v k) HB2.out hcol (by decide) (by rw [hll, bvs_app]; exact HO2.out)
            refine ⟨rfl, _, ?_, (HST.out.trans HS2.out).setCell (p := ⟨p, 0, none⟩) hcol _⟩
            rw [E3.out]
            rw [hll] at h4
            exact h4
          · have hzI : (0 : Int) < (u : Int) := by omega
            have E3 := Lib.hid (E2.out (by rw [← hum]; exact hz))
            clear hum hz E1 E2 HF HNX HSN hu
            go_wp2_with fail
            refine (xfail_new HWK.out HE.out 1 (by decide)).mono ?_
            rintro e w2 ⟨rfl, hw2, hs2⟩
            have HW2 := Lib.hid hw2
            have HS2 := Lib.hid hs2
            clear hw2 hs2
            go_wp2_with fail
            first | go_end0 | refine bodyPost_ret (v := .tuple #[]) (by simp [results, Tryz.results143, go_sem]) rfl ?_
            exact ⟨rfl, o1, by rw [E3.out]; exact HW2.out, HST.out.trans HS2.out⟩
  · have e1 : W.num v n = W := by unfold Wr.num; rw [if_pos he]
    have E1 := Lib.hid e1
    have HE := Lib.hid he
    clear e1 he
    go_enter Tryz.func143, Tryz.ntmps143
    go_wp2_with fail
    refine (xfail_old HW.out HE.out _).mono ?_
    rintro e w1 ⟨rfl, rfl⟩
    go_wp2_with fail
    first | go_end0 | refine bodyPost_ret (v := .tuple #[]) (by simp [results, Tryz.results143, go_sem]) rfl ?_
    exact ⟨rfl, o, by rw [E1.out]; exact HW.out, Step.refl _ _ _⟩
end
/-- a writer of the document's under way: its bytes; all is well; what lay before stays -/
structure Xg (o : Nat → Nat) (w0 w : World) (p : Nat) (bs : List UInt8) : Prop where
  wr : WrAt 181 o 1 w p ⟨bs, 0⟩
  env : Env o w0 w
  fut : Fut o w
theorem no10 : ¬ only 1 0 := by unfold only; omega
section
variable {o o' : Nat → Nat} {w0 w w' : World} {p : Nat} {bs bs' : List UInt8}
theorem Xg.next (h : Xg o w0 w p bs) (hw : WrAt 181 o' 1 w' p ⟨bs', 0⟩) (hs : Step o (only 1) w o' w') : Xg o' w0 w' p bs' := ⟨hw, h.env.step hs no10, h.fut.step hs⟩
theorem Xg.below_ (h : Xg o w0 w p bs) (hb : Below w.heap.size w w') : Xg o w0 w' p bs := ⟨h.wr.below_ hb, h.env.below_ hb, h.fut.below hb⟩
theorem Xg.alloc (h : Xg o w0 w p bs) (x : Obj) : Xg o w0 (w.alloc x) p bs := ⟨h.wr.alloc x, h.env.alloc x, h.fut.alloc x⟩
theorem Xg.drewN (h : Xg o w0 w p bs) (n : Nat) : Xg o w0 (w.drewN n) p bs := ⟨h.wr.drewN n, h.env.drewN n, h.fut.drewN n⟩
theorem Xg.start {w0 w1 : World} (hb : Below w0.heap.size w0 w1) : ∃ o, Xg o w0 (w1.alloc (.cells #[.slice none 0 0, .int .i64 0] 181)) w1.heap.size [] ∧ ∀ C, Step (fun _ => 0) C w1 o (w1.alloc (.cells #[.slice none 0 0, .int .i64 0] 181)) := by
  obtain ⟨o1, h1, hs⟩ := wr_new 181 (fun _ => 0) 1 w1
  exact ⟨o1, ⟨h1, ((Env.start w0).below_ hb).step (hs (fun _ => False)) (by simp), (show Fut (fun _ => 0) w1 from fun _ _ => rfl).step (hs (fun _ => False))⟩, hs⟩
theorem xnum_ok (h : Xg o w0 w p bs) (v : Nat) (n : Int) (hok : numOk v n) (hv : v < 18446744073709551616) (hb : bs.length ≤ 1000000000) :
    Calls Tryz.prog 143 #[.pointer (some ⟨p, 0, none⟩), .int .u64 v, .int .i64 n] w fun r w' => r = .returned (.tuple #[]) ∧ ∃ o', Xg o' w0 w' p (bs ++ le v n.toNat) ∧ Step o (only 1) w o' w' := by
  refine (xnum_any h.wr v n hv hb).mono ?_
  rintro e w1 ⟨rfl, o1, hw, hs⟩
  rw [Wr.num_ok rfl hok] at hw
  exact ⟨rfl, o1, h.next hw hs, hs⟩
/-- the bytes, as they are loaded and made a string -/
theorem Xg.conv (h : Xg o w0 w p bs) : ∃ A cap, w.cell? ⟨p, 0, none⟩ = some (.slice A bs.length cap) ∧ (convert 164 9 (.slice A bs.length cap)).run Tryz.prog w = .ok (.string (str bs)) w := by
  obtain ⟨A, cap, c0, c1, f0, f1, hc1, hc2, hpl, HB, HC, HV⟩ := h.wr.open_
  exact ⟨A, cap, c0, conv_own 164 9 Tryz.underlying164 Tryz.underlying5 Tryz.underlying9 HV.out⟩
end
theorem four_eq (v : Nat) : four v = [UInt8.ofNat v, UInt8.ofNat (v / 256), UInt8.ofNat (v / 65536), UInt8.ofNat (v / 16777216)] := by
  simp [four, le]
theorem u8_wrap (v : Nat) : IntKind.u8.wrap (v : Int) = ((UInt8.ofNat v).toNat : Int) := by
  rw [IntKind.wrap_u8, UInt8.toNat_ofNat']
  omega
set_option maxRecDepth 100000 in
set_option maxHeartbeats 1000000 in
theorem xfour_any (v : Nat) (hv : v < 4294967296) (w : World) : Calls Tryz.prog 222 #[.int .u32 v] w fun e w' => e = .returned (.string (str (four v))) ∧ Below w.heap.size w w' := by
  have e0 := u8_wrap v
  have e1 : IntKind.u8.wrap ((v : Int) / 256) = ((UInt8.ofNat (v / 256)).toNat : Int) := u8_wrap (v / 256)
  have e2 : IntKind.u8.wrap ((v : Int) / 65536) = ((UInt8.ofNat (v / 65536)).toNat : Int) := u8_wrap (v / 65536)
  have e3 : IntKind.u8.wrap ((v : Int) / 16777216) = ((UInt8.ofNat (v / 16777216)).toNat : Int) := u8_wrap (v / 16777216)
  have HF := Lib.hid (four_eq v)
  generalize UInt8.ofNat v = b0 at e0 HF
  generalize UInt8.ofNat (v / 256) = b1 at e1 HF
  generalize UInt8.ofNat (v / 65536) = b2 at e2 HF
  generalize UInt8.ofNat (v / 16777216) = b3 at e3 HF
  have hcv : ∀ cap, (convert 164 9 (.slice (some ⟨w.heap.size, 0, none⟩) 4 cap)).run Tryz.prog (w.alloc (.cells #[.int .u8 b0.toNat, .int .u8 b1.toNat, .int .u8 b2.toNat, .int .u8 b3.toNat] 5)) = .ok (.string (str (four v))) (w.alloc (.cells #[.int .u8 b0.toNat, .int .u8 b1.toNat, .int .u8 b2.toNat, .int .u8 b3.toNat] 5)) := fun cap => by
    rw [HF.out]
    exact conv_at (cap := cap) (l := [b0, b1, b2, b3]) (Blk.new w 5 #[.int .u8 b0.toNat, .int .u8 b1.toNat, .int .u8 b2.toNat, .int .u8 b3.toNat]) rfl rfl
  have hcv4 := hcv 4
  clear hcv
  generalize str (four v) = S at hcv4 ⊢
  go_enter Tryz.func222, Tryz.ntmps222
  go_wp2_with fail
  go_ret
  exact ⟨rfl, (Below.refl _ _).alloc (Nat.le_refl _) _⟩
end Go.Proofs.YtkhieofknglknaaGreatDoor

/- slices.Sorted(maps.Keys(m)) at this program, laid out of the shelf. -/
namespace Go.Proofs
open Go.RowKit Go.Maps Go.Sort Go.Shelf
shelf_lay_g SlLaysZI.n7 Ggz 7 at Tryz 39 as Tryz.keysA
shelf_lay_g SlLaysZI.n6 Ggz 6 at Tryz 38 as Tryz.sortedA
shelf_lay_g SlLaysM.n5 Slgm 5 at Tryz 151 as Tryz.sortA
theorem Tryz.sortsA (m : Nat) : AnyZI.SortsIn Tryz.prog Tryz.sortedA_ren Fence.wide m :=
  ⟨fun blk off cap ss W hH hblk hsz => callsIn_wide.2 (AnyM.slices_Sort_int Tryz.sortA blk off cap ss W hH hblk hsz),
   fun p cap W => callsIn_wide.2 (AnyM.slices_Sort_int_none Tryz.sortA p cap W)⟩
end Go.Proofs
namespace Go.Proofs.YtkhieofknglknaaGreatDoor
open Go.RowKit Go.Maps Go.Sort Go.Shelf Go.MapKept
theorem mkeys_any (mb : Option Nat) (w : World) : Calls Tryz.prog 39 #[.map mb] w fun e w' => e = .returned (.func (.func 152) #[] #[.pointer (some ⟨w.heap.size, 0, none⟩)]) ∧ w' = w.alloc (.cells #[.map mb] 99) :=
  (callsIn_wide (n := 5)).1 (AnyZI.keys_in Tryz.keysA Fence.wide 5 trivial rfl mb w)
set_option maxRecDepth 100000 in
set_option maxHeartbeats 2000000 in
theorem sorted_any {H : Type} (b nn : Nat) (D0 : DataW H) (R : Value → Option (DataW H × List MemPlace)) (w : World) (hown : w.ownsMap Tryz.prog 3 R b nn D0) (hmax : Maps.size D0 ≤ 1000000) :
    Calls Tryz.prog 38 #[.func (.func 152) #[] #[.pointer (some ⟨w.heap.size, 0, none⟩)]] (w.alloc (.cells #[.map (some b)] 99)) fun e w' => ∃ (v : Value) (ss : List Int), e = .returned v ∧ ss.Perm (intKeys D0) ∧
      w'.ownsRow (w.heap.size + 1) 3 1 v ss.length ((ss.mergeSort (fun x y => decide (x ≤ y))).map encZ) ∧ Below (w.heap.size + 1) (w.alloc (.cells #[.map (some b)] 99)) w' := by
  refine (callsIn_wide (n := 5)).1 ?_
  have hbl := hown.lt
  have hseq : SeqGives Fence.wide 2 Tryz.prog 152 #[.pointer (some ⟨w.heap.size, 0, none⟩)] encZ (fun ss => ss.Perm (intKeys D0)) (Maps.size D0) (w.alloc (.cells #[.map (some b)] 99)) :=
    AnyZI.keys_gives (ρ := Tryz.keysA_ren) { Tryz.keysA with } Fence.wide _ trivial rfl (by omega) w.heap.size b nn D0 _ (by simp) (by simp) (by
      obtain ⟨es, clock, hb, Ft, hs, hD⟩ := hown
      exact ⟨es, clock, (Below.heap_alloc _ _ b hbl).trans hb, Ft, hs, hD⟩)
  have cS := AnyZI.sorted_in Tryz.sortedA Fence.wide 5 trivial trivial trivial trivial rfl (by omega) (Tryz.sortsA _) (enters_of Tryz.func151 (by kernel_rfl) rfl) 152 #[.pointer (some ⟨w.heap.size, 0, none⟩)] trivial (enters_of Tryz.func152 (by kernel_rfl) rfl) _ _ (by unfold maxLen; omega) (by omega) _ hseq
  change CallsIn _ _ Tryz.prog 38 _ _ _ at cS
  refine cS.mono ?_
  rintro e w' ⟨v, ss, rfl, hS, hrow, hnil, hb⟩
  rw [show (w.alloc (.cells #[.map (some b)] 99)).heap.size = w.heap.size + 1 by simp] at hrow hb
  exact ⟨v, ss, rfl, hS, hrow, hb⟩
end Go.Proofs.YtkhieofknglknaaGreatDoor

/- Records: the first sector; the images. -/
namespace Go.Proofs.YtkhieofknglknaaGreatDoor
open Go.RowKit

def firstRx (b : ByteArray) : Rc := if firstE b = 0 then firstX b else Rc.zero
def firstNn (b : ByteArray) : Nat := if firstE b = 0 then firstN b else 0
set_option maxRecDepth 100000 in
set_option maxHeartbeats 4000000 in
theorem cfirst_any (b : ByteArray) (w : World) (hb : b.size ≤ 1000000000) :
    Calls Tryz.prog 166 #[.string b] w fun e w' => e = .returned (.tuple #[.agg #[.int .u64 (firstRx b).epoch, .int .u64 (firstRx b).lsn, .slice none 0 0], .int .i64 (firstNn b : Nat), .int .i64 (firstE b)]) ∧ Below w.heap.size w w' := by
  have HB0 := Lib.hid ((Env.start w).alloc (.cells #[.int .u64 0, .int .u64 0, .slice none 0 0] 29))
  have HZ0 := Lib.hid (Keep.new (fut0 w) 29 #[.int .u64 0, .int .u64 0, .slice none 0 0])
  have fin : ∀ (W : World) (a v n : Nat) (e : Int), Blk W w.heap.size 29 #[.int .u64 a, .int .u64 v, .slice none 0 0] → Below w.heap.size w W → firstRx b = ⟨a, v, []⟩ → firstNn b = n → firstE b = e →
      Blk W w.heap.size 29 #[.int .u64 a, .int .u64 v, .slice none 0 0] ∧ Below w.heap.size w W ∧ Ending.returned (.tuple #[.agg #[.int .u64 a, .int .u64 v, .slice none 0 0], .int .i64 n, .int .i64 e]) = .returned (.tuple #[.agg #[.int .u64 (firstRx b).epoch, .int .u64 (firstRx b).lsn, .slice none 0 0], .int .i64 (firstNn b : Nat), .int .i64 (firstE b)]) := fun W a v n e h1 h2 h3 h4 h5 => ⟨h1, h2, by rw [h3, h4, h5]⟩
  have FIN := Lib.hid fin
  have HFE := Lib.hid (show firstE b = if b.size < 64 then 5 else if readE (b.extract 0 64).data.toList ≠ 0 then readE (b.extract 0 64).data.toList else if firstBad b then 4 else 0 from rfl)
  have bad : ∀ e, firstE b = e → e ≠ 0 → firstRx b = ⟨0, 0, []⟩ ∧ firstNn b = 0 := fun e h1 h2 => ⟨if_neg (by rw [h1]; exact h2), if_neg (by rw [h1]; exact h2)⟩
  have BAD := Lib.hid bad
  clear fin bad
  by_cases hs : b.size < 64
  · have hsI : (b.size : Int) < 64 := by omega
    have HE := Lib.hid (show firstE b = 5 by rw [HFE.out, if_pos hs])
    obtain ⟨r1, r2⟩ := BAD.out 5 HE.out (by decide)
    obtain ⟨hz, hb0, he⟩ := FIN.out _ 0 0 0 5 HZ0.out.1 HB0.out.low r1 r2 HE.out
    rw [← he]
    clear hs he r1 r2
    go_enter Tryz.func166, Tryz.ntmps166
    go_wp2_with fail
    exact bodyPost_ret (v := .tuple #[.agg #[.int .u64 0, .int .u64 0, .slice none 0 0], .int .i64 0, .int .i64 5]) (by simp [results, Tryz.results166, go_sem]) rfl ⟨rfl, hb0⟩
  · have hsI : ¬ (b.size : Int) < 64 := by omega
    have b64 : (64 : Int) ≤ (b.size : Int) := by omega
    have hxs : (b.extract 0 64).size = 64 := by rw [ByteArray.size_extract]; omega
    have HXS := Lib.hid (show (b.extract 0 64).size ≤ 1000000000 by omega)
    have HXL := Lib.hid (show (b.extract 0 64).data.toList.length = 64 from hxs)
    have HFE2 := Lib.hid (show firstE b = if readE (b.extract 0 64).data.toList ≠ 0 then readE (b.extract 0 64).data.toList else if firstBad b then 4 else 0 by rw [HFE.out, if_neg hs])
    have HFR := Lib.hid (show firstR b = ⟨str (readL (b.extract 0 64).data.toList), 0⟩ from rfl)
    clear hs hxs hb
    go_enter Tryz.func166, Tryz.ntmps166
    go_wp2_with fail
    generalize w.alloc (.cells #[.int .u64 0, .int .u64 0, .slice none 0 0] 29) = W at HB0 HZ0 ⊢
    refine (sread_any (b.extract 0 64) HXS.out W).mono ?_
    rintro e w1 ⟨rfl, hb1⟩
    have HB1 := Lib.hid (HB0.out.below_ hb1)
    have HZ1 := Lib.hid (HZ0.out.below_ hb1)
    clear hb1
    obtain ⟨E, hE⟩ : ∃ E, readE (b.extract 0 64).data.toList = E := ⟨_, rfl⟩
    have HRL := Lib.hid (fun (h : readE (b.extract 0 64).data.toList = 0) => readL_len h)
    rw [hE] at HFE2 HRL ⊢
    clear hE
    by_cases h0 : E = 0
    · subst h0
      have ht := HRL.out rfl
      rw [HXL.out] at ht
      generalize readL (b.extract 0 64).data.toList = t at ht HFR ⊢
      have HN := Lib.hid (show (str t).size ≤ 1000000000 by rw [str_size, ht]; omega)
      have HN0 := Lib.hid (show ¬ only 1 0 by unfold only; omega)
      clear ht
      go_wp2_with fail
      refine (newreader_any (fun _ => 0) 1 (str t) w1 HN.out).mono ?_
      rintro e w2 ⟨p, o2, rfl, hrd, hb2, hst2⟩
      have HS2 := Lib.hid (show Gs 325 o2 w w2 p ⟨str t, 0⟩ from ⟨hrd, HB1.out.step (hst2 (fun _ => False)) (by simp), (show Fut (fun _ => 0) w1 from fun _ _ => rfl).step (hst2 (fun _ => False))⟩)
      have HK2 := Lib.hid (HZ1.out.step (hst2 (fun _ => False)) (by simp))
      clear hrd hb2 hst2
      go_wp2_with fail
      refine (rnum_g HS2.out 8).mono ?_
      rintro e w3 ⟨rfl, o3, hg3, hs3⟩
      have HS3 := Lib.hid hg3
      have HK3 := Lib.hid (HK2.out.step hs3 HN0.out)
      clear hg3 hs3
      go_wp2_with fail
      refine (rnum_g HS3.out 8).mono ?_
      rintro e w4 ⟨rfl, o4, hg4, hs4⟩
      obtain ⟨a, ha⟩ : ∃ a, (⟨str t, 0⟩ : Rd).numV 8 = a := ⟨_, rfl⟩
      obtain ⟨v, hv⟩ : ∃ v, ((⟨str t, 0⟩ : Rd).numR 8).numV 8 = v := ⟨_, rfl⟩
      have HFX := Lib.hid (show firstX b = ⟨a, v, []⟩ by unfold firstX; rw [HFR.out, ha, hv])
      rw [ha, hv]
      have HS4 := Lib.hid (hg4.alloc (.cells #[.int .u64 (a : Int), .int .u64 (v : Int), .slice none 0 0] 29))
      have HX4 := Lib.hid (Keep.new hg4.fut 29 #[.int .u64 (a : Int), .int .u64 (v : Int), .slice none 0 0])
      have HK4 := Lib.hid ((HK3.out.step hs4 HN0.out).alloc (.cells #[.int .u64 (a : Int), .int .u64 (v : Int), .slice none 0 0] 29))
      clear hg4 hs4 ha hv
      go_wp2_with fail
      generalize w4.alloc (.cells #[.int .u64 (a : Int), .int .u64 (v : Int), .slice none 0 0] 29) = W4 at HS4 HX4 HK4 ⊢
      generalize w4.heap.size = gX at HX4 ⊢
      refine (rnum_g HS4.out 1).mono ?_
      rintro e w5 ⟨rfl, o5, hg5, hs5⟩
      have HS5 := Lib.hid hg5
      have HX5 := Lib.hid (HX4.out.step hs5 HN0.out)
      have HK5 := Lib.hid (HK4.out.step hs5 HN0.out)
      clear hg5 hs5
      go_wp2_with fail
      refine (rnum_g HS5.out 1).mono ?_
      rintro e w6 ⟨rfl, o6, hg6, hs6⟩
      obtain ⟨pl, hpl⟩ : ∃ a, (((⟨str t, 0⟩ : Rd).numR 8).numR 8).numV 1 = a := ⟨_, rfl⟩
      obtain ⟨n, hn⟩ : ∃ v, ((((⟨str t, 0⟩ : Rd).numR 8).numR 8).numR 1).numV 1 = v := ⟨_, rfl⟩
      have HFP := Lib.hid (show firstP b = pl by unfold firstP; rw [HFR.out, hpl])
      have HFN := Lib.hid (show firstN b = n by unfold firstN; rw [HFR.out, hn])
      have hnl : n < 256 := by rw [← hn]; exact numV_lt _ 1 (by omega)
      have hwn := wrap_small (v := n) (by omega)
      rw [hpl, hn]
      have hX6 := (HX5.out.step hs6 HN0.out)
      have hK6 := (HK5.out.step hs6 HN0.out)
      have HK6 := Lib.hid hK6
      have HL6 := Lib.hid hg6.env.low
      have x0 := hX6.1.cell 0
      have x1 := hX6.1.cell 1
      have x2 := hX6.1.cell 2
      obtain ⟨y0, y1, y2⟩ := hK6.1.three
      have f0 := hK6.1.frozen 0
      have f1 := hK6.1.frozen 1
      have f2 := hK6.1.frozen 2
      simp at x0 x1 x2
      have HBD := Lib.hid (show firstBad b ↔ a = 0 ∨ v = 0 ∨ pl ≠ 0 ∨ secsOf n = 0 by unfold firstBad; rw [HFX.out, HFP.out, HFN.out])
      clear hg6 hs6 hX6 hK6 hpl hn
      by_cases hbad : a = 0 ∨ v = 0 ∨ pl ≠ 0 ∨ secsOf n = 0
      · have HE := Lib.hid (show firstE b = 4 by rw [HFE2.out, if_neg (by decide), if_pos (HBD.out.2 hbad)])
        obtain ⟨r1, r2⟩ := BAD.out 4 HE.out (by decide)
        obtain ⟨hz3, hb3, he⟩ := FIN.out _ 0 0 0 4 (HK6.out.1.put3 (.int .u64 0) (.int .u64 0) (.slice none 0 0)) (below_put3 HL6.out (Nat.le_refl _) _ _ _) r1 r2 HE.out
        have HZ3 := Lib.hid hz3
        have HB3 := Lib.hid hb3
        have HEE := Lib.hid he
        clear hz3 hb3 he r1 r2
        by_cases c0 : a = 0
        · have t0 : ((a : Int) == 0) = true := by simp [c0]
          clear hbad c0
          go_wp2_with fail
          clear x0 x1 x2 y0 y1 y2 f0 f1 f2
          rw [← HEE.out]
          generalize ((w6.setCell ⟨w.heap.size, 0, none⟩ (.int .u64 0)).setCell ⟨w.heap.size, 1, none⟩ (.int .u64 0)).setCell ⟨w.heap.size, 2, none⟩ (.slice none 0 0) = WE at HZ3 HB3 ⊢
          obtain ⟨q0, q1, q2⟩ := HZ3.out.three
          exact bodyPost_ret (v := .tuple #[.agg #[.int .u64 0, .int .u64 0, .slice none 0 0], .int .i64 0, .int .i64 4]) (by simp [results, Tryz.results166, go_sem, q0, q1, q2]) rfl ⟨rfl, HB3.out⟩
        · have t0 : ((a : Int) == 0) = false := by simp [c0]
          by_cases c1 : v = 0
          · have t1 : ((v : Int) == 0) = true := by simp [c1]
            clear hbad c0 c1
            go_wp2_with fail
            clear x0 x1 x2 y0 y1 y2 f0 f1 f2
            rw [← HEE.out]
            generalize ((w6.setCell ⟨w.heap.size, 0, none⟩ (.int .u64 0)).setCell ⟨w.heap.size, 1, none⟩ (.int .u64 0)).setCell ⟨w.heap.size, 2, none⟩ (.slice none 0 0) = WE at HZ3 HB3 ⊢
            obtain ⟨q0, q1, q2⟩ := HZ3.out.three
            exact bodyPost_ret (v := .tuple #[.agg #[.int .u64 0, .int .u64 0, .slice none 0 0], .int .i64 0, .int .i64 4]) (by simp [results, Tryz.results166, go_sem, q0, q1, q2]) rfl ⟨rfl, HB3.out⟩
          · have t1 : ((v : Int) == 0) = false := by simp [c1]
            by_cases c2 : pl = 0
            · have t2 : ((pl : Int) != 0) = false := by simp [c2]
              have HSE := Lib.hid (show secsOf n = 0 by rcases hbad with h | h | h | h <;> first | exact absurd h ‹_› | exact absurd c2 h | exact h)
              clear hbad c0 c1 c2
              go_wp2_with fail
              refine (secs_any (n : Int) w6).mono ?_
              rintro e w7 ⟨rfl, rfl⟩
              rw [HSE.out]
              go_wp2_with fail
              clear x0 x1 x2 y0 y1 y2 f0 f1 f2
              rw [← HEE.out]
              generalize ((w6.setCell ⟨w.heap.size, 0, none⟩ (.int .u64 0)).setCell ⟨w.heap.size, 1, none⟩ (.int .u64 0)).setCell ⟨w.heap.size, 2, none⟩ (.slice none 0 0) = WE at HZ3 HB3 ⊢
              obtain ⟨q0, q1, q2⟩ := HZ3.out.three
              exact bodyPost_ret (v := .tuple #[.agg #[.int .u64 0, .int .u64 0, .slice none 0 0], .int .i64 0, .int .i64 4]) (by simp [results, Tryz.results166, go_sem, q0, q1, q2]) rfl ⟨rfl, HB3.out⟩
            · have t2 : ((pl : Int) != 0) = true := by simp [c2]
              clear hbad c0 c1 c2
              go_wp2_with fail
              clear x0 x1 x2 y0 y1 y2 f0 f1 f2
              rw [← HEE.out]
              generalize ((w6.setCell ⟨w.heap.size, 0, none⟩ (.int .u64 0)).setCell ⟨w.heap.size, 1, none⟩ (.int .u64 0)).setCell ⟨w.heap.size, 2, none⟩ (.slice none 0 0) = WE at HZ3 HB3 ⊢
              obtain ⟨q0, q1, q2⟩ := HZ3.out.three
              exact bodyPost_ret (v := .tuple #[.agg #[.int .u64 0, .int .u64 0, .slice none 0 0], .int .i64 0, .int .i64 4]) (by simp [results, Tryz.results166, go_sem, q0, q1, q2]) rfl ⟨rfl, HB3.out⟩
      · have HE := Lib.hid (show firstE b = 0 by rw [HFE2.out, if_neg (by decide), if_neg (fun h => hbad (HBD.out.1 h))])
        have r1 : firstRx b = ⟨a, v, []⟩ := by unfold firstRx; rw [if_pos HE.out, HFX.out]
        have r2 : firstNn b = n := by unfold firstNn; rw [if_pos HE.out, HFN.out]
        obtain ⟨hz3, hb3, he⟩ := FIN.out _ a v n 0 (HK6.out.1.put3 (.int .u64 a) (.int .u64 v) (.slice none 0 0)) (below_put3 HL6.out (Nat.le_refl _) _ _ _) r1 r2 HE.out
        have HZ3 := Lib.hid hz3
        have HB3 := Lib.hid hb3
        have HEE := Lib.hid he
        have t0 : ((a : Int) == 0) = false := by simp; omega
        have t1 : ((v : Int) == 0) = false := by simp; omega
        have t2 : ((pl : Int) != 0) = false := by simp; omega
        have t3 : (((secsOf (n : Int) : Nat) : Int) == 0) = false := by simp; omega
        clear hz3 hb3 he r1 r2 hbad
        go_wp2_with fail
        refine (secs_any (n : Int) w6).mono ?_
        rintro e w7 ⟨rfl, rfl⟩
        generalize secsOf (n : Int) = q at t3 ⊢
        go_wp2_with fail
        clear x0 x1 x2 y0 y1 y2 f0 f1 f2
        rw [← HEE.out]
        generalize ((w6.setCell ⟨w.heap.size, 0, none⟩ (.int .u64 (a : Int))).setCell ⟨w.heap.size, 1, none⟩ (.int .u64 (v : Int))).setCell ⟨w.heap.size, 2, none⟩ (.slice none 0 0) = WE at HZ3 HB3 ⊢
        obtain ⟨q0, q1, q2⟩ := HZ3.out.three
        exact bodyPost_ret (v := .tuple #[.agg #[.int .u64 (a : Int), .int .u64 (v : Int), .slice none 0 0], .int .i64 (n : Int), .int .i64 0]) (by simp [results, Tryz.results166, go_sem, q0, q1, q2]) rfl ⟨rfl, HB3.out⟩
    · have t1 : (E != 0) = true := bne_iff_ne.2 h0
      have h2 : str (readL (b.extract 0 64).data.toList) = str (readL (b.extract 0 64).data.toList) := rfl
      generalize str (readL (b.extract 0 64).data.toList) = S at HFR h2 ⊢
      have HE := Lib.hid (show firstE b = E by rw [HFE2.out, if_pos h0])
      obtain ⟨r1, r2⟩ := BAD.out E HE.out h0
      obtain ⟨hz3, hb3, he⟩ := FIN.out _ 0 0 0 E (HZ1.out.1.put3 (.int .u64 0) (.int .u64 0) (.slice none 0 0)) (below_put3 HB1.out.low (Nat.le_refl _) _ _ _) r1 r2 HE.out
      have HZ3 := Lib.hid hz3
      have HB3 := Lib.hid hb3
      have HEE := Lib.hid he
      obtain ⟨y0, y1, y2⟩ := HZ1.out.1.three
      have f0 := HZ1.out.1.frozen 0
      have f1 := HZ1.out.1.frozen 1
      have f2 := HZ1.out.1.frozen 2
      clear h0 hz3 hb3 he r1 r2 h2
      go_wp2_with fail
      clear y0 y1 y2 f0 f1 f2
      rw [← HEE.out]
      generalize ((w1.setCell ⟨w.heap.size, 0, none⟩ (.int .u64 0)).setCell ⟨w.heap.size, 1, none⟩ (.int .u64 0)).setCell ⟨w.heap.size, 2, none⟩ (.slice none 0 0) = WE at HZ3 HB3 ⊢
      obtain ⟨q0, q1, q2⟩ := HZ3.out.three
      exact bodyPost_ret (v := .tuple #[.agg #[.int .u64 0, .int .u64 0, .slice none 0 0], .int .i64 0, .int .i64 E]) (by simp [results, Tryz.results166, go_sem, q0, q1, q2]) rfl ⟨rfl, HB3.out⟩
end Go.Proofs.YtkhieofknglknaaGreatDoor

/- Records: the images. -/
namespace Go.Proofs.YtkhieofknglknaaGreatDoor
open Go.RowKit

/-- images that are gathered: what lay before stays -/
structure ImsAt (o : Nat → Nat) (w wr : World) (V : Value) (n : Nat) (l : List Im) : Prop where
  own : OwnS o 2 wr 72 3 V n (imcells l)
  env : Env o w wr
  fut : Fut o wr
theorem own_new {o : Nat → Nat} {w wr : World} {V : Value} {n : Nat} {l : List Im} (h : ImsAt o w wr V n l) : ∀ g, V.ownBlock = some g → w.heap.size ≤ g := by
  intro g hg
  rcases Nat.lt_or_ge g w.heap.size with h1 | h1
  · have h2 := h.env.old g h1
    have h3 := h.own.2 g hg
    omega
  · exact h1
theorem ImsAt.done {o : Nat → Nat} {w wr : World} {V : Value} {n : Nat} {l : List Im} (h : ImsAt o w wr V n l) (oo : Nat → Nat) (d : Nat) : OwnS (band oo w.heap.size wr.heap.size d) d wr 72 3 V n (imcells l) :=
  ⟨h.own.1, fun g hg => band_in (own_new h g hg) (h.own.lt g hg)⟩
theorem imsG_succ (t : List UInt8) (k : Nat) : imsG t (k + 1) = imsG t k ++ [imG ((t.take ((k + 1) * 108)).drop (k * 108))] := by simp [imsG, List.range_succ]
set_option maxRecDepth 100000 in
set_option maxHeartbeats 4000000 in
theorem cimages_any (oo : Nat → Nat) (d : Nat) (t : List UInt8) (n : Nat) (w : World) (hn : n ≤ 60) (ht : n * 108 ≤ t.length) (ht2 : t.length ≤ 1000000) :
    Calls Tryz.prog 169 #[.string (str t), .int .i64 (n : Int)] w fun e w' => ∃ A cap, e = .returned (.slice A n cap) ∧ OwnS (band oo w.heap.size w'.heap.size d) d w' 72 3 (.slice A n cap) n (imcells (imsG t n)) ∧ Below w.heap.size w w' := by
  obtain ⟨i0, hi0, hz0, hz1, hz2⟩ := info_parts info_im
  have HSX := Lib.hid (fun lo hi => extract_str t lo hi)
  have HSZ := Lib.hid (show (str t).size = t.length from str_size t)
  obtain ⟨b, hb⟩ : ∃ b, b = str t := ⟨_, rfl⟩
  rw [← hb] at HSX HSZ ⊢
  have HSU := Lib.hid (imsG_succ t)
  have HN0 := Lib.hid (show ¬ only 1 0 by unfold only; omega)
  have HN2 := Lib.hid (show ¬ only 1 2 by unfold only; omega)
  have hbz : (b.size : Int) = (t.length : Int) := by rw [HSZ.out]
  clear hb
  go_enter Tryz.func169, Tryz.ntmps169
  go_wp2_with fail
  go_loopw [5, 10] (fun t5 t10 wr => ∃ (k : Nat) (A : Option Addr) (cap : Nat) (o : Nat → Nat), k ≤ n ∧ t10 = .int .i64 k ∧ t5 = .slice A k cap ∧ ImsAt o w wr (.slice A k cap) k (imsG t k)) (fun _ t10 _ => n - (intOf t10).toNat)
  case atStart => exact ⟨0, none, 0, fun _ => 0, by omega, rfl, rfl, ⟨OwnS.nil _ _ _ _ _, Env.start w, fun _ _ => rfl⟩⟩
  case round =>
    obtain ⟨k, A, cap, o, hk, rfl, rfl, him⟩ := hrel
    have HIM := Lib.hid him
    clear him
    by_cases hlt : k < n
    · have hltI : (k : Int) < (n : Int) := by omega
      obtain ⟨lo, hlo⟩ : ∃ lo, k * 108 = lo := ⟨_, rfl⟩
      obtain ⟨hi, hhi⟩ : ∃ hi, (k + 1) * 108 = hi := ⟨_, rfl⟩
      have hle : hi ≤ t.length := by have := Nat.mul_le_mul_right 108 (show k + 1 ≤ n from hlt); omega
      have e1 : (k : Int) * 108 = (lo : Int) := by omega
      have e2 : ((k : Int) + 1) * 108 = (hi : Int) := by omega
      have b0 : (0 : Int) ≤ (lo : Int) := by omega
      have b1 : (lo : Int) ≤ (hi : Int) := by omega
      have b2 : (hi : Int) ≤ (b.size : Int) := by rw [hbz]; omega
      obtain ⟨u, hu⟩ : ∃ u, (t.take hi).drop lo = u := ⟨_, rfl⟩
      have hul : u.length = 108 := by rw [← hu, List.length_drop, List.length_take]; omega
      have hsx : b.extract lo hi = str u := by rw [HSX.out, hu]
      have HU := Lib.hid (show imsG t (k + 1) = imsG t k ++ [imG u] by rw [HSU.out, hlo, hhi, hu])
      obtain ⟨s, hs⟩ : ∃ s, s = str u := ⟨_, rfl⟩
      have hss : s.size = 108 := by rw [hs, str_size, hul]
      rw [← hs] at hsx
      have s12 : (12 : Int) ≤ (s.size : Int) := by omega
      have HS9 := Lib.hid (show s.size ≤ 1000000000 by omega)
      have hs12 : s.extract 12 s.size = str (u.drop 12) := by rw [hs, rest_str]
      have HCZ := Lib.hid (show (str (u.drop 12)).size ≤ 281474976710656 by rw [str_size, List.length_drop]; omega)
      have HIG := Lib.hid (show imG u = ⟨((⟨s, 0⟩ : Rd).numV 4 : Nat), ((⟨s, 0⟩ : Rd).numR 4).numV 8, str (u.drop 12)⟩ by rw [hs]; rfl)
      clear hlo hhi hle hu hul hs hss
      go_upto_region 7 with (go_at_call 219; refine (newreader_any o 1 s _ HS9.out).mono ?_; rintro e w2 ⟨p, o2, rfl, hrd, hb2, hst2⟩)
      have HS2 := Lib.hid (show Gs 325 o2 w w2 p ⟨s, 0⟩ from ⟨hrd, HIM.out.env.step (hst2 (fun _ => False)) (by simp), HIM.out.fut.step (hst2 (fun _ => False))⟩)
      have HO2 := Lib.hid (HIM.out.own.step (hst2 (fun _ => False)) (by simp))
      obtain ⟨a, ha⟩ : ∃ a, a = (⟨s, 0⟩ : Rd).numV 4 := ⟨_, rfl⟩
      obtain ⟨v, hv⟩ : ∃ v, v = ((⟨s, 0⟩ : Rd).numR 4).numV 8 := ⟨_, rfl⟩
      have hal : a < 4294967296 := by rw [ha]; exact numV_lt _ 4 (by omega)
      have hwa := wrap_small hal
      have HA := Lib.hid ha
      have HV := Lib.hid hv
      obtain ⟨D, hD⟩ : ∃ D, D = str (u.drop 12) := ⟨_, rfl⟩
      rw [← hD] at hs12 HCZ HIG
      rw [← ha, ← hv] at HIG
      clear ha hv hal hD hrd hb2 hst2 hsx
      go_region_held3 (fun _ => True) (first | exact trivial)
        (first
          | (go_at_call 220; ((with_reducible refine (rnum_g HS2.out.drew 4).mono ?_); rintro e3 w3 ⟨rfl, o3, hg3, hs3⟩; have ho3 := HO2.out.drew.step hs3 HN2.out; rw [← HA.out]))
          | (go_at_call 220; ((with_reducible refine (rnum_g hg3 8).mono ?_); rintro e4 w4 ⟨rfl, o4, hg4, hs4⟩; have ho4 := ho3.step hs4 HN2.out; rw [← HV.out]))
          | (go_at_call 37; ((with_reducible refine (clone_any D _ HCZ.out).mono ?_); rintro e5 w5 ⟨rfl, hb5⟩; have hg5 := hg4.below_ hb5; have ho5 := ho4.below_ hb5; have hg6 := hg5.alloc (.cells #[.int .i64 (a : Int), .int .u64 (v : Int), .string D] 72); have ho6 := ho5.alloc (.cells #[.int .i64 (a : Int), .int .u64 (v : Int), .string D] 72)))
          | (refine step_append_S _ rfl (.tmp 22) (.tmp 32) 23 rfl 72 i0 _ 3 32 Tryz.underlying23 hi0 hz0 hz1 hz2 rfl (by omega) (.slice A k cap) k (imcells (imsG t k)) rfl ho6 _ 1 1 [.int .i64 (a : Int), .int .u64 (v : Int), .string D] rfl (Reads.newAt w5 72 3 1 _ #[.int .i64 (a : Int), .int .u64 (v : Int), .string D] _ rfl rfl rfl) (by simp [Value.oneCell']) (by unfold maxLen; omega) (by omega) ?_; intro v7 w7 hown7 hst7 hgr7 hat7; obtain ⟨A7, cap7, rfl, _, _⟩ := own_form' hown7; have HW7 := Lib.hid hown7; have HT7 := Lib.hid hst7; clear hown7 hst7 hgr7 hat7))
      have hF : ImsAt _ w w7 (.slice A7 (k + 1) cap7) (k + 1) (imsG t (k + 1)) := ⟨by
        have h := HW7.out
        rw [HU.out, imcells_app, HIG.out]
        exact h, hg6.env.step HT7.out (by unfold only; omega), hg6.fut.step HT7.out⟩
      have HF := Lib.hid hF
      clear hF HW7 HT7 hg3 hs3 ho3 hg4 hs4 ho4 hb5 hg5 ho5 hg6 ho6 hwa hs12
      go_wp2_with fail
      go_roundw
      case rel => exact ⟨k + 1, A7, cap7, _, by omega, by go_num, by go_num, HF.out⟩
      case measure => simp [intOf]; omega
    · have hltI : ¬ (k : Int) < (n : Int) := by omega
      obtain rfl : k = n := by omega
      go_wp2_with fail
      go_ret
      exact ⟨A, cap, rfl, HIM.out.done oo d, HIM.out.env.low⟩
end Go.Proofs.YtkhieofknglknaaGreatDoor
