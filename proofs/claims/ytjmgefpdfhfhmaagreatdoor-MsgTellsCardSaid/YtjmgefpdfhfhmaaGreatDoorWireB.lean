/- A writer of bytes: Num, Int, Flag, Text, Pad, Bytes. -/
import Derived.Test.YtjmgefpdfhfhmaaGreatDoorWireA
import Derived.Deep.Cut
import Derived.Deep.DeepCutAuto
import Derived.Deep.CutBlock
import Derived.Deep.CutRange
namespace Go.Proofs.YtjmgefpdfhfhmaaGreatDoor
open Go.RowKit

/-- the k lowest bytes, the lowest first -/
def le (v : Nat) : Nat → List UInt8
  | 0 => []
  | k + 1 => le v k ++ [UInt8.ofNat (v / 256 ^ k)]
theorem le_len (v k : Nat) : (le v k).length = k := by
  induction k with
  | zero => rfl
  | succ k ih => simp [le, ih]
def Wr.num (W : Wr) (v : Nat) (n : Int) : Wr := if W.e ≠ 0 then W else if numOk v n then { W with bs := W.bs ++ le v n.toNat } else { W with e := 1 }
theorem info_u8 : (Tryz.prog.info? 5).map (fun i => (i.zero, i.size, i.bytes)) = some (some (.int .u8 0), 1, 1) := by kernel_rfl
theorem own_form' {o : Nat → Nat} {c : Nat} {w : World} {e : TypeId} {size n : Nat} {v : Value} {xs : List Value} (h : OwnS o c w e size v n xs) : ∃ A cap, v = .slice A n cap ∧ n ≤ cap ∧ cap ≤ maxLen := by
  rcases h.1.2 with ⟨rfl, rfl⟩ | ⟨g, cap, cur, rfl, _, _, h1, h2, _⟩
  · exact ⟨none, 0, rfl, Nat.le_refl _, Nat.zero_le _⟩
  · exact ⟨_, _, rfl, h1, h2⟩
section
variable {o : Nat → Nat} {c : Nat} {w : World} {p : Nat} {W : Wr}
set_option maxHeartbeats 1000000 in
theorem wnum_any (h : WrAt 71 o c w p W) (v : Nat) (n : Int) (hv : v < 18446744073709551616) (hb : W.bs.length ≤ 1000000000) :
    Calls Tryz.prog 20 #[.pointer (some ⟨p, 0, none⟩), .int .u64 v, .int .i64 n] w fun r w' => r = .returned (.pointer (some ⟨p, 0, none⟩)) ∧ ∃ o', WrAt 71 o' c w' p (W.num v n) ∧ Step o (only c) w o' w' := by
  have HW := Lib.hid h
  clear h
  by_cases he : W.e = 0
  · by_cases hok : numOk v n
    · have e1 : W.num v n = { W with bs := W.bs ++ le v n.toNat } := by unfold Wr.num; rw [if_neg (by simpa using he), if_pos hok]
      have E1 := Lib.hid e1
      obtain ⟨hn1, hn8, _⟩ := hok
      have hok' : (if numOk v n then (0 : Int) else 1) = 0 := if_pos ⟨hn1, hn8, by assumption⟩
      have HOK := Lib.hid hok'
      have HE := Lib.hid he
      have HV0 := Lib.hid hv
      clear e1 hok' he hv
      obtain ⟨i0, hi0, hz0, hz1, hz2⟩ := info_parts info_u8
      obtain ⟨m, rfl⟩ : ∃ m : Nat, n = m := ⟨n.toNat, by omega⟩
      go_enter Tryz.func20, Tryz.ntmps20
      go_wp2_with fail
      refine (wrongNum_any v m HV0.out _).mono ?_
      rintro e w1 ⟨rfl, rfl⟩
      rw [HOK.out]
      go_wp2_with fail
      refine (fails_ok HW.out HE.out).mono ?_
      rintro e w1 ⟨rfl, hw1, hs1⟩
      have HW1 := Lib.hid hw1
      have HS1 := Lib.hid hs1
      clear hw1 hs1
      go_wp2_with fail
      go_loopw [1, 18] (fun t1 t18 wr => ∃ (k : Nat) (o' : Nat → Nat), k ≤ m ∧ t18 = .int .i64 k ∧ t1 = .int .u64 ((v / 256 ^ k : Nat) : Int) ∧ WrAt 71 o' c wr p { bs := W.bs ++ le v k, e := 0 } ∧ Step o (only c) w o' wr) (fun _ t18 _ => m - (intOf t18).toNat)
      case atStart =>
        refine ⟨0, o, Nat.zero_le _, rfl, by simp, ?_, HS1.out⟩
        have := HW1.out
        have h0 := HE.out
        cases W
        simp at h0
        subst h0
        simpa [le] using this
      case round =>
        obtain ⟨k, o1, hk, rfl, rfl, hw, hst⟩ := hrel
        have hu : v / 256 ^ k < 18446744073709551616 := Nat.lt_of_le_of_lt (Nat.div_le_self _ _) HV0.out
        have hL : (W.bs ++ le v k).length ≤ 1000000008 := by rw [List.length_append, le_len]; omega
        have hnext : v / 256 ^ (k + 1) = v / 256 ^ k / 256 := by rw [Nat.pow_succ, Nat.div_div_eq_div_mul]
        have hsn : W.bs ++ le v (k + 1) = (W.bs ++ le v k) ++ [UInt8.ofNat (v / 256 ^ k)] := by simp [le]
        have hw0 := hw
        have HNX := Lib.hid hnext
        have HSN := Lib.hid hsn
        clear hnext hsn
        generalize v / 256 ^ k = u at hu HNX HSN
        generalize hbs : W.bs ++ le v k = bs at hL hw HSN
        have HBS := Lib.hid hbs
        clear hbs
        have HST := Lib.hid hst
        have HWK := Lib.hid hw0
        clear hst hw0
        by_cases hlt : k < m
        · have hltI : (k : Int) < (m : Int) := by omega
          have hop := hw.open_
          simp only at hop
          obtain ⟨A, cap, c0, c1, f0, f1, hc1, hc2, hpl, HB, HC, HV⟩ := hop
          have HU := Lib.hid hu
          clear hw hu
          have hne := own_blk_ne HV.out HB.out (by decide)
          have HNE := Lib.hid hne
          clear hne
          go_wp2_with (at_builtin; refine wpList_append_S _ rfl (.tmp 24) (.tmp 27) 69 rfl 5 i0 _ 1 1 Tryz.underlying69 hi0 hz0 hz1 hz2 rfl (by omega) (.slice A bs.length cap) bs.length (bvs bs) rfl (HV.out.alloc _) (some ⟨wr.heap.size, 0, none⟩) 1 1 [.int .u8 ((u : Int) % 256)] rfl (Reads.newAt wr 5 1 1 [.int .u8 ((u : Int) % 256)] #[.int .u8 ((u : Int) % 256)] wr.heap.size rfl rfl rfl) (by simp [Value.oneCell']) (by unfold maxLen; omega) (by omega) ?_; intro v2 w2 hown hst hg hat; have hb2 : Blk w2 p 71 _ := (hg.block p (by simp; omega) (fun e => HNE.out e.symm)).trans (HB.out.alloc _); have k0 := hb2.cell 0; have k1 := hb2.frozen 0; simp at k0 k1; obtain ⟨A2, cap2, rfl, _, _⟩ := own_form' hown; have HO2 := Lib.hid hown; have HS2 := Lib.hid hst; have HB2 := Lib.hid hb2; clear hown hst hg hat hb2)
          go_roundw
          case rel =>
            have hbv : bvs bs ++ [.int .u8 ((u : Int) % 256)] = bvs (bs ++ [UInt8.ofNat u]) := by
              rw [bvs_app]
              simp [bvs, bv]
            have h3 : OwnS (band o1 (wr.alloc (.cells #[.int .u8 ((u : Int) % 256)] 5)).heap.size w2.heap.size c) c w2 5 1 (.slice A2 (bs ++ [UInt8.ofNat u]).length cap2) (bs ++ [UInt8.ofNat u]).length (bvs (bs ++ [UInt8.ofNat u])) := by
              rw [← hbv, List.length_append]
              exact HO2.out
            have hcol := (HS2.out.old p (by simp; omega)).trans HC.out
            have h4 := WrAt.setB (W := ⟨bs, 0⟩) (l := bs ++ [UInt8.ofNat u]) HB2.out hcol (by decide) h3
            refine ⟨k + 1, _, by omega, by go_num, by rw [HNX.out]; simp, ?_, ((HST.out.alloc _).trans HS2.out).setCell (p := ⟨p, 0, none⟩) hcol _⟩
            rw [HSN.out]
            rw [List.length_append] at h4
            exact h4
          case measure => simp [intOf]; omega
        · have hltI : ¬ (k : Int) < (m : Int) := by omega
          go_wp2_with fail
          go_ret
          obtain rfl : k = m := by omega
          refine ⟨rfl, o1, ?_, HST.out⟩
          rw [E1.out, HE.out]
          exact HWK.out
    · have e1 : W.num v n = { W with e := 1 } := by unfold Wr.num; rw [if_neg (by simpa using he), if_neg hok]
      have E1 := Lib.hid e1
      have HOK := Lib.hid (show (if numOk v n then (0 : Int) else 1) = 1 from if_neg hok)
      have HE := Lib.hid he
      have HV0 := Lib.hid hv
      clear e1 hok he hv
      go_enter Tryz.func20, Tryz.ntmps20
      go_wp2_with fail
      refine (wrongNum_any v n HV0.out _).mono ?_
      rintro e w1 ⟨rfl, rfl⟩
      rw [HOK.out]
      go_wp2_with fail
      refine (fails_new HW.out HE.out 1 (by decide)).mono ?_
      rintro e w1 ⟨rfl, hw1, hs1⟩
      have HW1 := Lib.hid hw1
      have HS1 := Lib.hid hs1
      clear hw1 hs1
      go_wp2_with fail
      go_ret
      exact ⟨rfl, o, by rw [E1.out]; exact HW1.out, HS1.out⟩
  · have e1 : W.num v n = W := by unfold Wr.num; rw [if_pos he]
    have E1 := Lib.hid e1
    have HE := Lib.hid he
    have HV0 := Lib.hid hv
    clear e1 he hv
    go_enter Tryz.func20, Tryz.ntmps20
    go_wp2_with fail
    refine (wrongNum_any v n HV0.out _).mono ?_
    rintro e w1 ⟨rfl, rfl⟩
    generalize (if numOk v n then (0 : Int) else 1) = E
    go_wp2_with fail
    refine (fails_old HW.out HE.out _).mono ?_
    rintro e w1 ⟨rfl, rfl⟩
    go_wp2_with fail
    go_ret
    exact ⟨rfl, o, by rw [E1.out]; exact HW.out, Step.refl _ _ _⟩
end
end Go.Proofs.YtjmgefpdfhfhmaaGreatDoor
