/- The document's writer and seal, as far as the document's disk needs them (printed by gen/mkrefx.py). -/
import Derived.Test.YtianlhigeabehaaGreatDoorKRefC
import Derived.Test.YtianlhigeabehaaGreatDoorKWireD
import Derived.Test.YtianlhigeabehaaGreatDoorKMsgB
import Derived.Test.YtianlhigeabehaaGreatDoorKBlkB
import Derived.Test.YtianlhigeabehaaGreatDoorKMapR
import Derived.Test.YtianlhigeabehaaGreatDoorKERing
import Derived.Shelf.SlIterI.Nil
import Derived.Test.YtianlhigeabehaaGreatDoorKRecA
import Derived.Test.YtianlhigeabehaaGreatDoorKShelf
import Derived.Shelf.SortM.Plain
import Derived.Shelf.SortM.SortNone
import Derived.Ground.GgzProg
import Derived.Ground.SlgmProg
namespace Go.Proofs.YtianlhigeabehaaGreatDoor
open Go.RowKit
section
variable {o : Nat → Nat} {c : Nat} {w : World} {p : Nat} {W : Wr}
set_option maxHeartbeats 400000 in
theorem xfail_old (h : WrAt 120 o c w p W) (he : W.e ≠ 0) (e : Int) :
    Calls Tryz.prog 112 #[.pointer (some ⟨p, 0, none⟩), .int .i64 e] w fun r w' => r = .returned (.bool true) ∧ w = w' := by
  obtain ⟨A, cap, h0, h1, f0, f1, hc1, hc2, hlt, HB, HC, HV⟩ := h.open_
  have t1 : (W.e == 0) = false := beq_eq_false_iff_ne.2 he
  have t2 : (W.e != 0) = true := bne_iff_ne.2 he
  clear h
  go_enter Tryz.func112, Tryz.ntmps112
  go_wp2
  go_ret
  exact ⟨rfl, rfl⟩
set_option maxHeartbeats 400000 in
theorem xfail_new (h : WrAt 120 o c w p W) (he : W.e = 0) (e : Int) (hne : e ≠ 0) :
    Calls Tryz.prog 112 #[.pointer (some ⟨p, 0, none⟩), .int .i64 e] w fun r w' => r = .returned (.bool true) ∧ WrAt 120 o c w' p { W with e := e } ∧ Step o (only c) w o w' := by
  have HW := Lib.hid h
  obtain ⟨A, cap, h0, h1, f0, f1, hc1, hc2, hlt, HB, HC, HV⟩ := h.open_
  rw [he] at h1
  have t2 : (e != 0) = true := bne_iff_ne.2 hne
  clear h he
  go_enter Tryz.func112, Tryz.ntmps112
  go_wp2
  go_ret
  exact ⟨rfl, HW.out.setE (by decide) e, (Step.refl o (only c) w).setCell (p := ⟨p, 1, none⟩) HC.out _⟩
set_option maxHeartbeats 400000 in
theorem xfail_ok (h : WrAt 120 o c w p W) (he : W.e = 0) :
    Calls Tryz.prog 112 #[.pointer (some ⟨p, 0, none⟩), .int .i64 0] w fun r w' => r = .returned (.bool false) ∧ WrAt 120 o c w' p W ∧ Step o (only c) w o w' := by
  have HW := Lib.hid h
  obtain ⟨A, cap, h0, h1, f0, f1, hc1, hc2, hlt, HB, HC, HV⟩ := h.open_
  rw [he] at h1
  have HE := Lib.hid he
  clear h he
  go_enter Tryz.func112, Tryz.ntmps112
  go_wp2
  go_ret
  have h9 := HW.out.setE (by decide) 0
  have e9 : ({ W with e := 0 } : Wr) = W := by
    have := HE.out
    cases W
    simp at this
    subst this
    rfl
  rw [e9] at h9
  exact ⟨rfl, h9, (Step.refl o (only c) w).setCell (p := ⟨p, 1, none⟩) HC.out _⟩
end
theorem numOk_div {v : Nat} {m : Nat} (h1 : 1 ≤ m) (h8 : m ≤ 8) : numOk v (m : Int) ↔ v / 256 ^ m = 0 := by
  unfold numOk
  rw [Int.toNat_natCast, Nat.div_eq_zero_iff_lt (Nat.pow_pos (by decide))]
  exact ⟨fun h => h.2.2, fun h => ⟨by omega, by omega, h⟩⟩
section
variable {o : Nat → Nat} {c : Nat} {w : World} {p : Nat} {W : Wr}
set_option maxRecDepth 100000 in
set_option maxHeartbeats 1000000 in
theorem xnum_any (h : WrAt 120 o c w p W) (v : Nat) (n : Int) (hv : v < 18446744073709551616) (hb : W.bs.length ≤ 1000000000) :
    Calls Tryz.prog 66 #[.pointer (some ⟨p, 0, none⟩), .int .u64 v, .int .i64 n] w fun r w' => r = .returned (.tuple #[]) ∧ ∃ o', WrAt 120 o' c w' p (W.num v n) ∧ Step o (only c) w o' w' := by
  have HW := Lib.hid h
  clear h
  have HV0 := Lib.hid hv
  clear hv
  by_cases he : W.e = 0
  · have HE := Lib.hid he
    by_cases hr : n < 1 ∨ 8 < n
    · have e1 : W.num v n = { W with e := 1 } := by unfold Wr.num; rw [if_neg (by simpa using he), if_neg (by unfold numOk; omega)]
      have E1 := Lib.hid e1
      clear e1 he
      by_cases h1 : n < 1
      · clear hr
        go_enter Tryz.func66, Tryz.ntmps66
        go_wp2_with fail
        refine (xfail_ok HW.out HE.out).mono ?_
        rintro e w1 ⟨rfl, hw1, hs1⟩
        have HW1 := Lib.hid hw1
        have HS1 := Lib.hid hs1
        clear hw1 hs1
        go_wp2_with fail
        refine (xfail_new HW1.out HE.out 1 (by decide)).mono ?_
        rintro e w2 ⟨rfl, hw2, hs2⟩
        have HW2 := Lib.hid hw2
        have HS2 := Lib.hid hs2
        clear hw2 hs2
        go_wp2_with fail
        first | go_end0 | refine bodyPost_ret (v := .tuple #[]) (by simp [results, Tryz.results66, go_sem]) rfl ?_
        exact ⟨rfl, o, by rw [E1.out]; exact HW2.out, HS1.out.trans HS2.out⟩
      · have h8 : 8 < n := by omega
        clear hr
        go_enter Tryz.func66, Tryz.ntmps66
        go_wp2_with fail
        refine (xfail_ok HW.out HE.out).mono ?_
        rintro e w1 ⟨rfl, hw1, hs1⟩
        have HW1 := Lib.hid hw1
        have HS1 := Lib.hid hs1
        clear hw1 hs1
        go_wp2_with fail
        refine (xfail_new HW1.out HE.out 1 (by decide)).mono ?_
        rintro e w2 ⟨rfl, hw2, hs2⟩
        have HW2 := Lib.hid hw2
        have HS2 := Lib.hid hs2
        clear hw2 hs2
        go_wp2_with fail
        first | go_end0 | refine bodyPost_ret (v := .tuple #[]) (by simp [results, Tryz.results66, go_sem]) rfl ?_
        exact ⟨rfl, o, by rw [E1.out]; exact HW2.out, HS1.out.trans HS2.out⟩
    · obtain ⟨m, rfl⟩ : ∃ m : Nat, n = m := ⟨n.toNat, by omega⟩
      have hm1 : ¬ (m : Int) < 1 := by omega
      have hm8 : ¬ (8 : Int) < (m : Int) := by omega
      have E1 := Lib.hid (show v / 256 ^ m = 0 → W.num v m = { W with bs := W.bs ++ le v m } from fun h0 => by
        unfold Wr.num; rw [if_neg (by simpa using he), if_pos ((numOk_div (by omega) (by omega)).2 h0), Int.toNat_natCast])
      have E2 := Lib.hid (show v / 256 ^ m ≠ 0 → W.num v m = { W with e := 1 } from fun h0 => by
        unfold Wr.num; rw [if_neg (by simpa using he), if_neg (fun h1 => h0 ((numOk_div (by omega) (by omega)).1 h1))])
      clear hr he
      obtain ⟨i0, hi0, hz0, hz1, hz2⟩ := info_parts info_u8
      go_enter Tryz.func66, Tryz.ntmps66
      go_wp2_with fail
      refine (xfail_ok HW.out HE.out).mono ?_
      rintro e w1 ⟨rfl, hw1, hs1⟩
      have HW1 := Lib.hid hw1
      have HS1 := Lib.hid hs1
      clear hw1 hs1
      go_wp2_with fail
      go_loopw [1, 6, 7] (fun t1 t6 t7 wr => ∃ (k : Nat) (o' : Nat → Nat), k ≤ m ∧ t7 = .int .i64 k ∧ t1 = .int .u64 ((v / 256 ^ k : Nat) : Int) ∧ OwnS o' (c + 1) wr 5 1 t6 k (bvs (le v k)) ∧ (∀ g, t6.ownBlock = some g → w.heap.size ≤ g) ∧ WrAt 120 o' c wr p W ∧ Step o (only c) w o' wr) (fun _ _ t7 _ => m - (intOf t7).toNat)
      case atStart => exact ⟨0, o, Nat.zero_le _, rfl, by simp, OwnS.nil _ _ _ _ _, by simp [Value.ownBlock], HW1.out, HS1.out⟩
      case round =>
        obtain ⟨k, o1, hk, rfl, rfl, hown6, hblk6, hw, hst⟩ := hrel
        obtain ⟨A6, cap6, rfl, hle6, hcap6⟩ := own_form' hown6
        unfold maxLen at hcap6
        have hu : v / 256 ^ k < 18446744073709551616 := Nat.lt_of_le_of_lt (Nat.div_le_self _ _) HV0.out
        have HNX := Lib.hid (show v / 256 ^ (k + 1) = v / 256 ^ k / 256 by rw [Nat.pow_succ, Nat.div_div_eq_div_mul])
        have HSN := Lib.hid (show le v (k + 1) = le v k ++ [UInt8.ofNat (v / 256 ^ k)] from rfl)
        have HL6 := Lib.hid (le_len v k)
        have HF := Lib.hid (show k = m → v / 256 ^ k = v / 256 ^ m from fun e => by rw [e])
        generalize v / 256 ^ k = u at hu HNX HSN HF
        have HO6 := Lib.hid hown6
        have HB6 := Lib.hid hblk6
        have HWK := Lib.hid hw
        have HST := Lib.hid hst
        clear hown6 hblk6 hw hst
        by_cases hlt : k < m
        · have hltI : (k : Int) < (m : Int) := by omega
          have HU := Lib.hid hu
          clear hu
          go_wp2_with (at_builtin; refine wpList_append_S _ rfl (.tmp 23) (.tmp 27) 112 rfl 5 i0 _ 1 1 Tryz.underlying112 hi0 hz0 hz1 hz2 rfl (by omega) (.slice A6 k cap6) k (bvs (le v k)) rfl (HO6.out.alloc _) (some ⟨wr.heap.size, 0, none⟩) 1 1 [.int .u8 ((u : Int) % 256)] rfl (Reads.newAt wr 5 1 1 [.int .u8 ((u : Int) % 256)] #[.int .u8 ((u : Int) % 256)] wr.heap.size rfl rfl rfl) (by simp [Value.oneCell']) (by unfold maxLen; omega) (by omega) ?_; intro v2 w2 hown hst hg hat; have HO2 := Lib.hid hown; have HS2 := Lib.hid hst; have HG2 := Lib.hid hg; have HA2 := Lib.hid hat; clear hown hst hg hat)
          go_roundw
          case rel =>
            have hbv : bvs (le v k) ++ [.int .u8 ((u : Int) % 256)] = bvs (le v (k + 1)) := by
              rw [HSN.out, bvs_app]
              simp [bvs, bv]
            have hst0 := HST.out.size
            refine ⟨k + 1, _, by omega, by go_num, by rw [HNX.out, IntKind.wrap_u64]; have h9 := HU.out; congr 1; omega, by rw [← hbv]; exact HO2.out, ?_, (HWK.out.alloc _).step HS2.out (by unfold only; omega), (HST.out.alloc _).grownNew (c + 1) HG2.out HB6.out⟩
            intro g hg
            rcases HA2.out with h2 | h2
            · exact HB6.out g (h2 ▸ hg)
            · rw [h2] at hg
              injection hg with hg
              simp at hg
              omega
          case measure => simp [intOf]; omega
        · have hltI : ¬ (k : Int) < (m : Int) := by omega
          obtain rfl : k = m := by omega
          have hum := HF.out rfl
          by_cases hz : u = 0
          · have hzI : ¬ (0 : Int) < (u : Int) := by omega
            have E3 := Lib.hid (E1.out (by rw [← hum]; exact hz))
            clear hum hz E1 E2 HF HNX HSN hu
            obtain ⟨A, cap, c0, c1, f0, f1, hc1, hc2, hpl, HB, HC, HV⟩ := HWK.out.open_
            have HNE := Lib.hid (own_blk_ne HV.out HB.out (by decide))
            go_wp2_with (at_builtin; refine wpList_append_S _ rfl (.tmp 39) (.tmp 40) 112 rfl 5 i0 _ 1 1 Tryz.underlying112 hi0 hz0 hz1 hz2 rfl (by omega) (.slice A W.bs.length cap) W.bs.length (bvs W.bs) rfl HV.out A6 k cap6 (bvs (le v k)) rfl (Reads.of_own HO6.out.1) (bvs_one _) (by unfold maxLen; omega) (by omega) ?_; intro v2 w2 hown hst hg hat; have hb2 : Blk w2 p 120 _ := (hg.block p hpl (fun e => HNE.out e.symm)).trans HB.out; have k0 := hb2.cell 0; have k1 := hb2.frozen 0; simp at k0 k1; obtain ⟨A2, cap2, rfl, _, _⟩ := own_form' hown; have HO2 := Lib.hid hown; have HS2 := Lib.hid hst; have HB2 := Lib.hid hb2; clear hown hst hg hat hb2)
            first | go_end0 | refine bodyPost_ret (v := .tuple #[]) (by simp [results, Tryz.results66, go_sem]) rfl ?_
            have hcol := (HS2.out.old p hpl).trans HC.out
            have hll : (W.bs ++ le v k).length = W.bs.length + k := by rw [List.length_append, le_len]
            have h4 := WrAt.setB (W := W) (l := W.bs ++ le v k) HB2.out hcol (by decide) (by rw [hll, bvs_app]; exact HO2.out)
            refine ⟨rfl, _, ?_, (HST.out.trans HS2.out).setCell (p := ⟨p, 0, none⟩) hcol _⟩
            rw [E3.out]
            rw [hll] at h4
            exact h4
          · have hzI : (0 : Int) < (u : Int) := by omega
            have E3 := Lib.hid (E2.out (by rw [← hum]; exact hz))
            clear hum hz E1 E2 HF HNX HSN hu
            go_wp2_with fail
            refine (xfail_new HWK.out HE.out 1 (by decide)).mono ?_
            rintro e w2 ⟨rfl, hw2, hs2⟩
            have HW2 := Lib.hid hw2
            have HS2 := Lib.hid hs2
            clear hw2 hs2
            go_wp2_with fail
            first | go_end0 | refine bodyPost_ret (v := .tuple #[]) (by simp [results, Tryz.results66, go_sem]) rfl ?_
            exact ⟨rfl, o1, by rw [E3.out]; exact HW2.out, HST.out.trans HS2.out⟩
  · have e1 : W.num v n = W := by unfold Wr.num; rw [if_pos he]
    have E1 := Lib.hid e1
    have HE := Lib.hid he
    clear e1 he
    go_enter Tryz.func66, Tryz.ntmps66
    go_wp2_with fail
    refine (xfail_old HW.out HE.out _).mono ?_
    rintro e w1 ⟨rfl, rfl⟩
    go_wp2_with fail
    first | go_end0 | refine bodyPost_ret (v := .tuple #[]) (by simp [results, Tryz.results66, go_sem]) rfl ?_
    exact ⟨rfl, o, by rw [E1.out]; exact HW.out, Step.refl _ _ _⟩
end
/-- a writer of the document's under way: its bytes; all is well; what lay before stays -/
structure Xg (o : Nat → Nat) (w0 w : World) (p : Nat) (bs : List UInt8) : Prop where
  wr : WrAt 120 o 1 w p ⟨bs, 0⟩
  env : Env o w0 w
  fut : Fut o w
theorem no10 : ¬ only 1 0 := by unfold only; omega
section
variable {o o' : Nat → Nat} {w0 w w' : World} {p : Nat} {bs bs' : List UInt8}
theorem Xg.next (h : Xg o w0 w p bs) (hw : WrAt 120 o' 1 w' p ⟨bs', 0⟩) (hs : Step o (only 1) w o' w') : Xg o' w0 w' p bs' := ⟨hw, h.env.step hs no10, h.fut.step hs⟩
theorem Xg.below_ (h : Xg o w0 w p bs) (hb : Below w.heap.size w w') : Xg o w0 w' p bs := ⟨h.wr.below_ hb, h.env.below_ hb, h.fut.below hb⟩
theorem Xg.alloc (h : Xg o w0 w p bs) (x : Obj) : Xg o w0 (w.alloc x) p bs := ⟨h.wr.alloc x, h.env.alloc x, h.fut.alloc x⟩
theorem Xg.drewN (h : Xg o w0 w p bs) (n : Nat) : Xg o w0 (w.drewN n) p bs := ⟨h.wr.drewN n, h.env.drewN n, h.fut.drewN n⟩
theorem Xg.start {w0 w1 : World} (hb : Below w0.heap.size w0 w1) : ∃ o, Xg o w0 (w1.alloc (.cells #[.slice none 0 0, .int .i64 0] 120)) w1.heap.size [] ∧ ∀ C, Step (fun _ => 0) C w1 o (w1.alloc (.cells #[.slice none 0 0, .int .i64 0] 120)) := by
  obtain ⟨o1, h1, hs⟩ := wr_new 120 (fun _ => 0) 1 w1
  exact ⟨o1, ⟨h1, ((Env.start w0).below_ hb).step (hs (fun _ => False)) (by simp), (show Fut (fun _ => 0) w1 from fun _ _ => rfl).step (hs (fun _ => False))⟩, hs⟩
theorem xnum_ok (h : Xg o w0 w p bs) (v : Nat) (n : Int) (hok : numOk v n) (hv : v < 18446744073709551616) (hb : bs.length ≤ 1000000000) :
    Calls Tryz.prog 66 #[.pointer (some ⟨p, 0, none⟩), .int .u64 v, .int .i64 n] w fun r w' => r = .returned (.tuple #[]) ∧ ∃ o', Xg o' w0 w' p (bs ++ le v n.toNat) ∧ Step o (only 1) w o' w' := by
  refine (xnum_any h.wr v n hv hb).mono ?_
  rintro e w1 ⟨rfl, o1, hw, hs⟩
  rw [Wr.num_ok rfl hok] at hw
  exact ⟨rfl, o1, h.next hw hs, hs⟩
/-- the bytes, as they are loaded and made a string -/
theorem Xg.conv (h : Xg o w0 w p bs) : ∃ A cap, w.cell? ⟨p, 0, none⟩ = some (.slice A bs.length cap) ∧ (convert 112 9 (.slice A bs.length cap)).run Tryz.prog w = .ok (.string (str bs)) w := by
  obtain ⟨A, cap, c0, c1, f0, f1, hc1, hc2, hpl, HB, HC, HV⟩ := h.wr.open_
  exact ⟨A, cap, c0, conv_own 112 9 Tryz.underlying112 Tryz.underlying5 Tryz.underlying9 HV.out⟩
end
theorem four_eq (v : Nat) : four v = [UInt8.ofNat v, UInt8.ofNat (v / 256), UInt8.ofNat (v / 65536), UInt8.ofNat (v / 16777216)] := by
  simp [four, le]
theorem u8_wrap (v : Nat) : IntKind.u8.wrap (v : Int) = ((UInt8.ofNat v).toNat : Int) := by
  rw [IntKind.wrap_u8, UInt8.toNat_ofNat']
  omega
set_option maxRecDepth 100000 in
set_option maxHeartbeats 1000000 in
theorem xfour_any (v : Nat) (hv : v < 4294967296) (w : World) : Calls Tryz.prog 113 #[.int .u32 v] w fun e w' => e = .returned (.string (str (four v))) ∧ Below w.heap.size w w' := by
  have e0 := u8_wrap v
  have e1 : IntKind.u8.wrap ((v : Int) / 256) = ((UInt8.ofNat (v / 256)).toNat : Int) := u8_wrap (v / 256)
  have e2 : IntKind.u8.wrap ((v : Int) / 65536) = ((UInt8.ofNat (v / 65536)).toNat : Int) := u8_wrap (v / 65536)
  have e3 : IntKind.u8.wrap ((v : Int) / 16777216) = ((UInt8.ofNat (v / 16777216)).toNat : Int) := u8_wrap (v / 16777216)
  have HF := Lib.hid (four_eq v)
  generalize UInt8.ofNat v = b0 at e0 HF
  generalize UInt8.ofNat (v / 256) = b1 at e1 HF
  generalize UInt8.ofNat (v / 65536) = b2 at e2 HF
  generalize UInt8.ofNat (v / 16777216) = b3 at e3 HF
  have hcv : ∀ cap, (convert 112 9 (.slice (some ⟨w.heap.size, 0, none⟩) 4 cap)).run Tryz.prog (w.alloc (.cells #[.int .u8 b0.toNat, .int .u8 b1.toNat, .int .u8 b2.toNat, .int .u8 b3.toNat] 5)) = .ok (.string (str (four v))) (w.alloc (.cells #[.int .u8 b0.toNat, .int .u8 b1.toNat, .int .u8 b2.toNat, .int .u8 b3.toNat] 5)) := fun cap => by
    rw [HF.out]
    exact conv_at (cap := cap) (l := [b0, b1, b2, b3]) (Blk.new w 5 #[.int .u8 b0.toNat, .int .u8 b1.toNat, .int .u8 b2.toNat, .int .u8 b3.toNat]) rfl rfl
  have hcv4 := hcv 4
  clear hcv
  generalize str (four v) = S at hcv4 ⊢
  go_enter Tryz.func113, Tryz.ntmps113
  go_wp2_with fail
  go_ret
  exact ⟨rfl, (Below.refl _ _).alloc (Nat.le_refl _) _⟩
end Go.Proofs.YtianlhigeabehaaGreatDoor

/- A map with int keys as the shelf's texts know it: its keys. -/
namespace Go.Proofs.YtianlhigeabehaaGreatDoor
open Go.RowKit Go.MapKept Go.Maps

theorem nodup_dups (l : List Int) : l.eraseDups.Nodup := by
  obtain ⟨n, hn⟩ : ∃ n, l.length = n := ⟨_, rfl⟩
  induction n using Nat.strongRecOn generalizing l with
  | _ n ih =>
    cases l with
    | nil => exact List.nodup_nil
    | cons a l =>
      rw [List.eraseDups_cons, List.nodup_cons]
      refine ⟨?_, ih _ ?_ _ rfl⟩
      · rw [List.mem_eraseDups]
        simp
      · have := List.length_filter_le (fun b => !b == a) l
        simp at hn
        omega
theorem dups_len (l : List Int) : l.eraseDups.length ≤ l.length := by
  obtain ⟨n, hn⟩ : ∃ n, l.length = n := ⟨_, rfl⟩
  induction n using Nat.strongRecOn generalizing l with
  | _ n ih =>
    cases l with
    | nil => exact Nat.le_refl _
    | cons a l =>
      rw [List.eraseDups_cons, List.length_cons, List.length_cons]
      have h1 := List.length_filter_le (fun b => !b == a) l
      have := ih _ (by simp at hn; omega) (l.filter (fun b => !b == a)) rfl
      omega
theorem mapR_keys {o : Nat → Nat} {c : Nat} {w : World} {m : Nat} {f : Int → Option Value} {P : Program} {kt : TypeId} (h : MapR o c w m f) (hk : P.underlying kt = some (.int .i64)) (ks : List Int) (hnd : ks.Nodup) (hks : ∀ k, (f k).isSome = true ↔ k ∈ ks) (hin : ∀ k ∈ ks, -9223372036854775808 ≤ k ∧ k ≤ 9223372036854775807) (hlen : ks.length ≤ 1000000) :
    ∃ (n : Nat) (D0 : DataW Unit), w.ownsMap P kt (fun _ => some (.nil, [])) m n D0 ∧ (intKeys D0).Perm ks ∧ Maps.size D0 ≤ 1000000 := by
  obtain ⟨_, es, clock, h1, hst, hkey, hf⟩ := h
  -- the keys of the entries
  have hkl : ∀ x ∈ es.toList, ∃ k, x.key = .int .i64 k ∧ k ∈ ks := by
    intro x hx
    have h2 := hkey x hx
    obtain ⟨k, hk2⟩ : ∃ k, x.key = .int .i64 k := by
      revert h2
      cases hxk : x.key with
      | int kd a => cases kd <;> simp [IsKey]
      | _ => simp [IsKey]
    refine ⟨k, hk2, (hks k).1 ?_⟩
    rw [(hf k x.val).2 ⟨x, hx, hk2, rfl⟩]
    rfl
  let kf : MapEntry → Int := fun x => match x.key with | .int _ a => a | _ => 0
  have hkf : ∀ x ∈ es.toList, x.key = .int .i64 (kf x) ∧ kf x ∈ ks := by
    intro x hx
    obtain ⟨k, e, hm⟩ := hkl x hx
    have : kf x = k := by simp only [kf, e]
    rw [this]
    exact ⟨e, hm⟩
  have hnd2 : (es.toList.map kf).Nodup := by
    have h3 : (es.toList.map (·.key)).Nodup := hst.2.2
    rw [List.nodup_iff_pairwise_ne, List.pairwise_map] at h3 ⊢
    refine h3.imp_of_mem (fun {a b} ha hb hne e => hne ?_)
    rw [(hkf a ha).1, (hkf b hb).1, e]
  have hperm : (es.toList.map kf).Perm ks := (List.perm_ext_iff_of_nodup hnd2 hnd).2 fun k => by
    rw [List.mem_map]
    constructor
    · rintro ⟨x, hx, rfl⟩
      exact (hkf x hx).2
    · intro hk2
      obtain ⟨v, hv⟩ := Option.isSome_iff_exists.1 ((hks k).2 hk2)
      obtain ⟨x, hx, e, _⟩ := (hf k v).1 hv
      exact ⟨x, hx, by simp only [kf, e]⟩
  have hsz : es.size = ks.length := by
    have := hperm.length_eq
    rwa [List.length_map, Array.length_toList] at this
  have hrd : ∀ x ∈ es.toList, Go.WideElems.rd P kt (fun _ => some ((DataW.nil : DataW Unit), ([] : List MemPlace))) x = some (Lit.int .i64 (kf x), DataW.nil) := by
    intro x hx
    obtain ⟨e, hm⟩ := hkf x hx
    have hb := hin _ hm
    have hw : (Lit.int .i64 (kf x)).wf = true := by
      simp only [Lit.wf, Bool.and_eq_true, decide_eq_true_eq]
      exact ⟨hb.1, hb.2⟩
    unfold Go.WideElems.rd
    rw [e, keyOf_int_mk hk hw]
    rfl
  have hmap : (es.toList.map (Go.WideElems.rg P kt (fun _ => some ((DataW.nil : DataW Unit), ([] : List MemPlace))))).map (fun p => Go.intOf p.1) = es.toList.map kf := by
    rw [List.map_map]
    refine List.map_congr_left fun x hx => ?_
    show Go.intOf (Go.WideElems.rg P kt _ x).1 = kf x
    rw [Go.WideElems.rg_of (hrd x hx)]
    rfl
  refine ⟨es.size, .map ((es.toList.map (Go.WideElems.rg P kt (fun _ => some ((DataW.nil : DataW Unit), ([] : List MemPlace))))).foldr DataW.insert []), ⟨es, clock, h1, ⟨by rw [hsz]; unfold maxLen; omega, hst, fun x hx => ⟨_, hrd x hx⟩⟩, Nat.le_refl _, rfl⟩, ?_, ?_⟩
  · show (List.map (fun p : Lit × DataW Unit => Go.intOf p.1) _).Perm ks
    refine ((Go.WideShapes.sorted_perm _).map _).trans ?_
    rw [hmap]
    exact hperm
  · show (List.foldr DataW.insert [] _).length ≤ 1000000
    rw [(Go.WideShapes.sorted_perm _).length_eq, List.length_map, Array.length_toList]
    omega
end Go.Proofs.YtianlhigeabehaaGreatDoor

/- Plan, plain: the newest image of each block, step by step. -/
namespace Go.Proofs.YtianlhigeabehaaGreatDoor
open Go.RowKit

/-- the best images, as the map's values -/
def fm (f : Int → Option Im) : Int → Option Value := fun k => (f k).map Im.agg
theorem fm_none : fm (fun _ => none) = fun _ => none := rfl
theorem fm_upd (f : Int → Option Im) (k : Int) (x : Im) : fm (upd f k x) = upd (fm f) k x.agg := by
  funext j
  unfold fm upd
  split <;> rfl
theorem bestOf_add (l : List Im) (x : Im) : bestOf (l ++ [x]) = bestStep (bestOf l) x := by
  unfold bestOf
  rw [List.foldl_append]
  rfl
theorem best_none {f : Int → Option Im} {x : Im} (h : f x.block = none) : bestStep f x = upd f x.block x := by
  unfold bestStep
  rw [h]
theorem best_some {f : Int → Option Im} {x was : Im} (h : f x.block = some was) : bestStep f x = if was.ver ≤ x.ver then upd f x.block x else f := by
  unfold bestStep
  rw [h]
theorem best_keys (l : List Im) : ∀ k, (bestOf l k).isSome = true ↔ k ∈ l.map (·.block) := by
  have key : ∀ (l : List Im) (f : Int → Option Im) (k : Int), (l.foldl bestStep f k).isSome = true ↔ ((f k).isSome = true ∨ k ∈ l.map (·.block)) := by
    intro l
    induction l with
    | nil => intro f k; simp
    | cons x l ih =>
      intro f k
      rw [List.foldl_cons, ih, List.map_cons, List.mem_cons]
      have hup : ∀ k, (upd f x.block x k).isSome = true ↔ ((f k).isSome = true ∨ k = x.block) := by
        intro k
        unfold upd
        split
        · rename_i hk
          simp [hk]
        · rename_i hk
          simp [hk]
      have : (bestStep f x k).isSome = true ↔ ((f k).isSome = true ∨ k = x.block) := by
        cases h : f x.block with
        | none => rw [best_none h]; exact hup k
        | some was =>
          by_cases hv : was.ver ≤ x.ver
          · rw [best_some h, if_pos hv]; exact hup k
          · rw [best_some h, if_neg hv]
            constructor
            · exact .inl
            · rintro (h1 | rfl)
              · exact h1
              · rw [h]; rfl
      rw [this, or_assoc]
  intro k
  have := key l (fun _ => none) k
  unfold bestOf
  rw [this]
  simp
theorem take_im {rs : List Rc} {j : Nat} {r : Rc} (h : rs[j]? = some r) : (rs.take (j + 1)).flatMap (·.images) = (rs.take j).flatMap (·.images) ++ r.images := by
  rw [List.take_add_one, h]
  simp
/-- the records at a slice, with their images -/
structure RecsRd (w : World) (A : Option Addr) (rs : List Rc) (vs : List Value) : Prop where
  len : vs.length = rs.length
  rd : Reads w 3 A rs.length ((rs.zip vs).flatMap (fun x => [.int .u64 x.1.epoch, .int .u64 x.1.lsn, x.2]))
  ims : ∀ (k : Nat) (r : Rc) (v : Value), rs[k]? = some r → vs[k]? = some v → ∃ B cp, v = .slice B r.images.length cp ∧ Reads w 3 B r.images.length (imcells r.images)
theorem RecsRd.below_ {w w' : World} {A : Option Addr} {rs : List Rc} {vs : List Value} (h : RecsRd w A rs vs) (hb : Below w.heap.size w w') : RecsRd w' A rs vs :=
  ⟨h.len, h.rd.below' (by omega) hb, fun k r v h1 h2 => by obtain ⟨B, cp, e, hr⟩ := h.ims k r v h1 h2; exact ⟨B, cp, e, hr.below' (by omega) hb⟩⟩
theorem RecsRd.row {w : World} {A : Option Addr} {rs : List Rc} {vs : List Value} (h : RecsRd w A rs vs) {k : Nat} {r : Rc} (hk : rs[k]? = some r) :
    ∃ ad B cp, A = some ad ∧ w.cell? (ad.add (k * 3)) = some (.int .u64 r.epoch) ∧ w.cell? ⟨(ad.add (k * 3)).block, (ad.add (k * 3)).off + 1, none⟩ = some (.int .u64 r.lsn) ∧ w.cell? ⟨(ad.add (k * 3)).block, (ad.add (k * 3)).off + 2, none⟩ = some (.slice B r.images.length cp) ∧ Reads w 3 B r.images.length (imcells r.images) := by
  have hlt : k < vs.length := by rw [h.len]; exact (List.getElem?_eq_some_iff.1 hk).1
  obtain ⟨v, hv⟩ : ∃ v, vs[k]? = some v := ⟨_, List.getElem?_eq_getElem hlt⟩
  obtain ⟨B, cp, rfl, hr⟩ := h.ims k r v hk hv
  have hz : (rs.zip vs)[k]? = some (r, .slice B r.images.length cp) := by rw [List.getElem?_zip_eq_some]; exact ⟨hk, hv⟩
  have hl : (rs.zip vs).length = rs.length := by rw [List.length_zip, h.len, Nat.min_self]
  have h2 := h.rd
  rw [← hl] at h2
  obtain ⟨ad, rfl, hc⟩ := Reads.row (f := fun x : Rc × Value => [.int .u64 x.1.epoch, .int .u64 x.1.lsn, x.2]) (fun _ => rfl) h2 hz
  exact ⟨ad, B, cp, rfl, hc 0 _ rfl, hc 1 _ rfl, hc 2 _ rfl, hr⟩
end Go.Proofs.YtianlhigeabehaaGreatDoor

/- slices.Sorted(maps.Keys(m)) at this program, laid out of the shelf. -/
namespace Go.Proofs
open Go.RowKit Go.Maps Go.Sort Go.Shelf
shelf_lay_g SlLaysZI.n7 Ggz 7 at Tryz 51 as Tryz.keysA
shelf_lay_g SlLaysZI.n6 Ggz 6 at Tryz 50 as Tryz.sortedA
shelf_lay_g SlLaysM.n5 Slgm 5 at Tryz 99 as Tryz.sortA
theorem Tryz.sortsA (m : Nat) : AnyZI.SortsIn Tryz.prog Tryz.sortedA_ren Fence.wide m :=
  ⟨fun blk off cap ss W hH hblk hsz => callsIn_wide.2 (AnyM.slices_Sort_int Tryz.sortA blk off cap ss W hH hblk hsz),
   fun p cap W => callsIn_wide.2 (AnyM.slices_Sort_int_none Tryz.sortA p cap W)⟩
end Go.Proofs
namespace Go.Proofs.YtianlhigeabehaaGreatDoor
open Go.RowKit Go.Maps Go.Sort Go.Shelf Go.MapKept
theorem mkeys_any (mb : Option Nat) (w : World) : Calls Tryz.prog 51 #[.map mb] w fun e w' => e = .returned (.func (.func 100) #[] #[.pointer (some ⟨w.heap.size, 0, none⟩)]) ∧ w' = w.alloc (.cells #[.map mb] 101) :=
  (callsIn_wide (n := 5)).1 (AnyZI.keys_in Tryz.keysA Fence.wide 5 trivial rfl mb w)
set_option maxRecDepth 100000 in
set_option maxHeartbeats 2000000 in
theorem sorted_any {H : Type} (b nn : Nat) (D0 : DataW H) (R : Value → Option (DataW H × List MemPlace)) (w : World) (hown : w.ownsMap Tryz.prog 3 R b nn D0) (hmax : Maps.size D0 ≤ 1000000) :
    Calls Tryz.prog 50 #[.func (.func 100) #[] #[.pointer (some ⟨w.heap.size, 0, none⟩)]] (w.alloc (.cells #[.map (some b)] 101)) fun e w' => ∃ (v : Value) (ss : List Int), e = .returned v ∧ ss.Perm (intKeys D0) ∧
      w'.ownsRow (w.heap.size + 1) 3 1 v ss.length ((ss.mergeSort (fun x y => decide (x ≤ y))).map encZ) ∧ Below (w.heap.size + 1) (w.alloc (.cells #[.map (some b)] 101)) w' := by
  refine (callsIn_wide (n := 5)).1 ?_
  have hbl := hown.lt
  have hseq : SeqGives Fence.wide 2 Tryz.prog 100 #[.pointer (some ⟨w.heap.size, 0, none⟩)] encZ (fun ss => ss.Perm (intKeys D0)) (Maps.size D0) (w.alloc (.cells #[.map (some b)] 101)) :=
    AnyZI.keys_gives (ρ := Tryz.keysA_ren) { Tryz.keysA with } Fence.wide _ trivial rfl (by omega) w.heap.size b nn D0 _ (by simp) (by simp) (by
      obtain ⟨es, clock, hb, Ft, hs, hD⟩ := hown
      exact ⟨es, clock, (Below.heap_alloc _ _ b hbl).trans hb, Ft, hs, hD⟩)
  have cS := AnyZI.sorted_in Tryz.sortedA Fence.wide 5 trivial trivial trivial trivial rfl (by omega) (Tryz.sortsA _) (enters_of Tryz.func99 (by kernel_rfl) rfl) 100 #[.pointer (some ⟨w.heap.size, 0, none⟩)] trivial (enters_of Tryz.func100 (by kernel_rfl) rfl) _ _ (by unfold maxLen; omega) (by omega) _ hseq
  change CallsIn _ _ Tryz.prog 50 _ _ _ at cS
  refine cS.mono ?_
  rintro e w' ⟨v, ss, rfl, hS, hrow, hnil, hb⟩
  rw [show (w.alloc (.cells #[.map (some b)] 101)).heap.size = w.heap.size + 1 by simp] at hrow hb
  exact ⟨v, ss, rfl, hS, hrow, hb⟩
end Go.Proofs.YtianlhigeabehaaGreatDoor
