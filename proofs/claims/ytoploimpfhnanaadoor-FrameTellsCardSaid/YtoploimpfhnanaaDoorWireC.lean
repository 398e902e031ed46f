/- A writer of bytes: Int, Flag, Text, Pad, Bytes; of nil ones. -/
import Derived.Test.YtoploimpfhnanaaDoorWireB
namespace Go.Proofs.YtoploimpfhnanaaDoor
open Go.RowKit

def Wr.text (W : Wr) (s : ByteArray) (room : Int) : Wr :=
  if W.e ≠ 0 then W else if room < 0 ∨ 60000 < room then { W with e := 1 } else if room < s.size then { W with e := 2 } else { W with bs := W.bs ++ le s.size 2 ++ s.data.toList }
def Wr.flag (W : Wr) (b : Bool) : Wr := W.num (if b then 1 else 0) 1
def Wr.pad (W : Wr) (n : Int) : Wr :=
  if W.e ≠ 0 then W else if 60000 < n then { W with e := 1 } else if n < W.bs.length then { W with e := 2 } else { W with bs := W.bs ++ List.replicate (n.toNat - W.bs.length) 0 }
theorem Wr.num_ok {W : Wr} {v : Nat} {n : Int} (he : W.e = 0) (h : numOk v n) : W.num v n = { W with bs := W.bs ++ le v n.toNat } := by unfold Wr.num; rw [if_neg (by simpa using he), if_pos h]
section
variable {o : Nat → Nat} {c : Nat} {w : World} {p : Nat} {W : Wr}
/-- an int as 64 bits -/
def u64 (v : Int) : Nat := (v % 18446744073709551616).toNat
theorem u64_lt (v : Int) : u64 v < 18446744073709551616 := by unfold u64; omega
set_option maxHeartbeats 400000 in
theorem wflag_any (h : WrAt 71 o c w p W) (b : Bool) (hb : W.bs.length ≤ 1000000000) :
    Calls Tryd.prog 44 #[.pointer (some ⟨p, 0, none⟩), .bool b] w fun r w' => r = .returned (.pointer (some ⟨p, 0, none⟩)) ∧ ∃ o', WrAt 71 o' c w' p (W.flag b) ∧ Step o (only c) w o' w' := by
  have HW := Lib.hid h
  clear h
  cases b with
  | true =>
    go_enter Tryd.func44, Tryd.ntmps44
    go_wp2_with fail
    refine (wnum_any HW.out 1 1 (by omega) hb).mono ?_
    rintro e w1 ⟨rfl, o1, h1, s1⟩
    go_wp2_with fail
    go_ret
    exact ⟨rfl, o1, h1, s1⟩
  | false =>
    go_enter Tryd.func44, Tryd.ntmps44
    go_wp2_with fail
    refine (wnum_any HW.out 0 1 (by omega) hb).mono ?_
    rintro e w1 ⟨rfl, o1, h1, s1⟩
    go_wp2_with fail
    go_ret
    exact ⟨rfl, o1, h1, s1⟩
set_option maxRecDepth 100000 in
set_option maxHeartbeats 1000000 in
theorem wtext_any (h : WrAt 71 o c w p W) (s : ByteArray) (room : Int) (hs : s.size ≤ 140737488351232) (hb : W.bs.length ≤ 1000000000) :
    Calls Tryd.prog 43 #[.pointer (some ⟨p, 0, none⟩), .string s, .int .i64 room] w fun r w' => r = .returned (.pointer (some ⟨p, 0, none⟩)) ∧ ∃ o', WrAt 71 o' c w' p (W.text s room) ∧ Step o (only c) w o' w' := by
  have HW := Lib.hid h
  clear h
  by_cases he : W.e = 0
  · by_cases hr : room < 0 ∨ 60000 < room
    · have e1 : W.text s room = { W with e := 1 } := by unfold Wr.text; rw [if_neg (by simpa using he), if_pos hr]
      have E1 := Lib.hid e1
      have HR := Lib.hid (show (if room < 0 ∨ 60000 < room then (1 : Int) else 0) = 1 from if_pos hr)
      have HE := Lib.hid he
      clear e1 hr he
      go_enter Tryd.func43, Tryd.ntmps43
      go_wp2_with fail
      refine (wrongRoom_any room _).mono ?_
      rintro e w1 ⟨rfl, rfl⟩
      rw [HR.out]
      go_wp2_with fail
      refine (fails_new HW.out HE.out 1 (by decide)).mono ?_
      rintro e w1 ⟨rfl, hw1, hs1⟩
      go_wp2_with fail
      go_ret
      exact ⟨rfl, o, by rw [E1.out]; exact hw1, hs1⟩
    · have HR := Lib.hid (show (if room < 0 ∨ 60000 < room then (1 : Int) else 0) = 0 from if_neg hr)
      have HE := Lib.hid he
      by_cases hl : room < s.size
      · have e1 : W.text s room = { W with e := 2 } := by unfold Wr.text; rw [if_neg (by simpa using he), if_neg hr, if_pos hl]
        have E1 := Lib.hid e1
        clear e1 hr he
        go_enter Tryd.func43, Tryd.ntmps43
        go_wp2_with fail
        refine (wrongRoom_any room _).mono ?_
        rintro e w1 ⟨rfl, rfl⟩
        rw [HR.out]
        go_wp2_with fail
        refine (fails_ok HW.out HE.out).mono ?_
        rintro e w1 ⟨rfl, hw1, hs1⟩
        have HW1 := Lib.hid hw1
        have HS1 := Lib.hid hs1
        clear hw1 hs1
        go_wp2_with fail
        refine (fails_new HW1.out HE.out 2 (by decide)).mono ?_
        rintro e w2 ⟨rfl, hw2, hs2⟩
        go_wp2_with fail
        go_ret
        exact ⟨rfl, o, by rw [E1.out]; exact hw2, HS1.out.trans hs2⟩
      · have e1 : W.text s room = { W with bs := W.bs ++ le s.size 2 ++ s.data.toList } := by unfold Wr.text; rw [if_neg (by simpa using he), if_neg hr, if_neg hl]
        have E1 := Lib.hid e1
        have hsz : s.size ≤ 60000 := by omega
        have e2 : W.num s.size 2 = { W with bs := W.bs ++ le s.size 2 } := Wr.num_ok he ⟨by omega, by omega, by show s.size < 256 ^ 2; omega⟩
        have E2 := Lib.hid e2
        have hlI : (s.size : Int) ≤ room := by omega
        have hszI : (s.size : Int) ≤ 60000 := by omega
        clear e1 e2 hr he hs
        obtain ⟨i0, hi0, hz0, hz1, hz2⟩ := info_parts info_u8
        go_enter Tryd.func43, Tryd.ntmps43
        go_wp2_with fail
        refine (wrongRoom_any room _).mono ?_
        rintro e w1 ⟨rfl, rfl⟩
        rw [HR.out]
        go_wp2_with fail
        refine (fails_ok HW.out HE.out).mono ?_
        rintro e w1 ⟨rfl, hw1, hs1⟩
        have HW1 := Lib.hid hw1
        have HS1 := Lib.hid hs1
        clear hw1 hs1
        go_wp2_with fail
        refine (wnum_any HW1.out s.size 2 (by omega) hb).mono ?_
        rintro e w2 ⟨rfl, o2, h2, s2⟩
        rw [E2.out] at h2
        have hop := h2.open_
        simp only at hop
        obtain ⟨A, cap, c0, c1, f0, f1, hc1, hc2, hpl, HB, HC, HV⟩ := hop
        have hL : (W.bs ++ le s.size 2).length ≤ 1000000002 := by rw [List.length_append, le_len]; omega
        have HS2 := Lib.hid (HS1.out.trans s2)
        have hne := own_blk_ne HV.out HB.out (by decide)
        have HNE := Lib.hid hne
        clear h2 s2 hne
        generalize hbs : W.bs ++ le s.size 2 = bs at hL c0 hc1 HB HV HNE
        have HBS := Lib.hid hbs
        clear hbs
        go_wp2_with (at_builtin; refine wpList_append_str_S _ rfl (.tmp 32) (.tmp 33) 68 9 rfl 5 i0 Tryd.underlying68 Tryd.underlying9 hi0 hz0 hz1 hz2 (.slice A bs.length cap) bs.length (bvs bs) rfl HV.out s rfl (by omega) ?_; intro v3 w3 hown hst hg; have hb3 : Blk w3 p 71 _ := (hg.block p hpl (fun e => HNE.out e.symm)).trans HB.out; have k0 := hb3.cell 0; have k1 := hb3.frozen 0; simp at k0 k1; obtain ⟨A3, cap3, rfl, _, _⟩ := own_form' hown; have HO3 := Lib.hid hown; have HS3 := Lib.hid hst; have HB3 := Lib.hid hb3; clear hown hst hg hb3)
        go_ret
        have hsl : (bs ++ s.data.toList).length = bs.length + s.size := by rw [List.length_append]; rfl
        have hcol := (HS3.out.old p hpl).trans HC.out
        have h4 := WrAt.setB (W := W) (l := bs ++ s.data.toList) HB3.out hcol (by decide) (by rw [hsl, bvs_app]; exact HO3.out)
        refine ⟨rfl, _, ?_, (HS2.out.trans HS3.out).setCell (p := ⟨p, 0, none⟩) hcol _⟩
        rw [E1.out, HBS.out]
        rw [hsl] at h4
        exact h4
  · have e1 : W.text s room = W := by unfold Wr.text; rw [if_pos he]
    have E1 := Lib.hid e1
    have HE := Lib.hid he
    clear e1 he
    go_enter Tryd.func43, Tryd.ntmps43
    go_wp2_with fail
    refine (wrongRoom_any room _).mono ?_
    rintro e w1 ⟨rfl, rfl⟩
    generalize (if room < 0 ∨ 60000 < room then (1 : Int) else 0) = E
    go_wp2_with fail
    refine (fails_old HW.out HE.out _).mono ?_
    rintro e w1 ⟨rfl, rfl⟩
    go_wp2_with fail
    go_ret
    exact ⟨rfl, o, by rw [E1.out]; exact HW.out, Step.refl _ _ _⟩
end
end Go.Proofs.YtoploimpfhnanaaDoor
