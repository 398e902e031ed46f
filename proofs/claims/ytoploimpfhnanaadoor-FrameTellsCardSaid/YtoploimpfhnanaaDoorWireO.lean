/- The document's writer of bytes: Text, Flag (the same plain functions). -/
import Derived.Test.YtoploimpfhnanaaDoorWireM
namespace Go.Proofs.YtoploimpfhnanaaDoor
open Go.RowKit
section
variable {o : Nat → Nat} {c : Nat} {w : World} {p : Nat} {W : Wr}
set_option maxHeartbeats 400000 in
theorem xflag_any (h : WrAt 104 o c w p W) (b : Bool) (hb : W.bs.length ≤ 1000000000) :
    Calls Tryd.prog 61 #[.pointer (some ⟨p, 0, none⟩), .bool b] w fun r w' => r = .returned (.tuple #[]) ∧ ∃ o', WrAt 104 o' c w' p (W.flag b) ∧ Step o (only c) w o' w' := by
  have HW := Lib.hid h
  clear h
  cases b with
  | true =>
    go_enter Tryd.func61, Tryd.ntmps61
    go_wp2_with fail
    refine (xnum_any HW.out 1 1 (by omega) hb).mono ?_
    rintro e w1 ⟨rfl, o1, h1, s1⟩
    go_wp2_with fail
    first | go_end0 | refine bodyPost_ret (v := .tuple #[]) (by simp [results, Tryd.results61, go_sem]) rfl ?_
    exact ⟨rfl, o1, h1, s1⟩
  | false =>
    go_enter Tryd.func61, Tryd.ntmps61
    go_wp2_with fail
    refine (xnum_any HW.out 0 1 (by omega) hb).mono ?_
    rintro e w1 ⟨rfl, o1, h1, s1⟩
    go_wp2_with fail
    first | go_end0 | refine bodyPost_ret (v := .tuple #[]) (by simp [results, Tryd.results61, go_sem]) rfl ?_
    exact ⟨rfl, o1, h1, s1⟩
set_option maxRecDepth 100000 in
set_option maxHeartbeats 1000000 in
theorem xtext_any (h : WrAt 104 o c w p W) (s : ByteArray) (room : Int) (hs : s.size ≤ 140737488351232) (hb : W.bs.length ≤ 1000000000) :
    Calls Tryd.prog 62 #[.pointer (some ⟨p, 0, none⟩), .string s, .int .i64 room] w fun r w' => r = .returned (.tuple #[]) ∧ ∃ o', WrAt 104 o' c w' p (W.text s room) ∧ Step o (only c) w o' w' := by
  have HW := Lib.hid h
  clear h
  by_cases he : W.e = 0
  · have HE := Lib.hid he
    by_cases hr : room < 0 ∨ 60000 < room
    · have e1 : W.text s room = { W with e := 1 } := by unfold Wr.text; rw [if_neg (by simpa using he), if_pos hr]
      have E1 := Lib.hid e1
      clear e1 he
      by_cases h1 : room < 0
      · clear hr
        go_enter Tryd.func62, Tryd.ntmps62
        go_wp2_with fail
        refine (xfail_ok HW.out HE.out).mono ?_
        rintro e w1 ⟨rfl, hw1, hs1⟩
        have HW1 := Lib.hid hw1
        have HS1 := Lib.hid hs1
        clear hw1 hs1
        go_wp2_with fail
        refine (xfail_new HW1.out HE.out 1 (by decide)).mono ?_
        rintro e w2 ⟨rfl, hw2, hs2⟩
        have HW2 := Lib.hid hw2
        have HS2 := Lib.hid hs2
        clear hw2 hs2
        go_wp2_with fail
        first | go_end0 | refine bodyPost_ret (v := .tuple #[]) (by simp [results, Tryd.results62, go_sem]) rfl ?_
        exact ⟨rfl, o, by rw [E1.out]; exact HW2.out, HS1.out.trans HS2.out⟩
      · have h8 : 60000 < room := by omega
        clear hr
        go_enter Tryd.func62, Tryd.ntmps62
        go_wp2_with fail
        refine (xfail_ok HW.out HE.out).mono ?_
        rintro e w1 ⟨rfl, hw1, hs1⟩
        have HW1 := Lib.hid hw1
        have HS1 := Lib.hid hs1
        clear hw1 hs1
        go_wp2_with fail
        refine (xfail_new HW1.out HE.out 1 (by decide)).mono ?_
        rintro e w2 ⟨rfl, hw2, hs2⟩
        have HW2 := Lib.hid hw2
        have HS2 := Lib.hid hs2
        clear hw2 hs2
        go_wp2_with fail
        first | go_end0 | refine bodyPost_ret (v := .tuple #[]) (by simp [results, Tryd.results62, go_sem]) rfl ?_
        exact ⟨rfl, o, by rw [E1.out]; exact HW2.out, HS1.out.trans HS2.out⟩
    · have hr0 : ¬ room < 0 := by omega
      have hr6 : ¬ 60000 < room := by omega
      by_cases hl : room < s.size
      · have e1 : W.text s room = { W with e := 2 } := by unfold Wr.text; rw [if_neg (by simpa using he), if_neg hr, if_pos hl]
        have E1 := Lib.hid e1
        clear e1 hr he
        go_enter Tryd.func62, Tryd.ntmps62
        go_wp2_with fail
        refine (xfail_ok HW.out HE.out).mono ?_
        rintro e w1 ⟨rfl, hw1, hs1⟩
        have HW1 := Lib.hid hw1
        have HS1 := Lib.hid hs1
        clear hw1 hs1
        go_wp2_with fail
        refine (xfail_new HW1.out HE.out 2 (by decide)).mono ?_
        rintro e w2 ⟨rfl, hw2, hs2⟩
        have HW2 := Lib.hid hw2
        have HS2 := Lib.hid hs2
        clear hw2 hs2
        go_wp2_with fail
        first | go_end0 | refine bodyPost_ret (v := .tuple #[]) (by simp [results, Tryd.results62, go_sem]) rfl ?_
        exact ⟨rfl, o, by rw [E1.out]; exact HW2.out, HS1.out.trans HS2.out⟩
      · have e1 : W.text s room = { W with bs := W.bs ++ le s.size 2 ++ s.data.toList } := by unfold Wr.text; rw [if_neg (by simpa using he), if_neg hr, if_neg hl]
        have E1 := Lib.hid e1
        have hsz : s.size ≤ 60000 := by omega
        have e2 : W.num s.size 2 = { W with bs := W.bs ++ le s.size 2 } := Wr.num_ok he ⟨by omega, by omega, by show s.size < 256 ^ 2; omega⟩
        have E2 := Lib.hid e2
        have hlI : (s.size : Int) ≤ room := by omega
        have hszI : (s.size : Int) ≤ 60000 := by omega
        clear e1 e2 hr he hs
        obtain ⟨i0, hi0, hz0, hz1, hz2⟩ := info_parts info_u8
        go_enter Tryd.func62, Tryd.ntmps62
        go_wp2_with fail
        refine (xfail_ok HW.out HE.out).mono ?_
        rintro e w1 ⟨rfl, hw1, hs1⟩
        have HW1 := Lib.hid hw1
        have HS1 := Lib.hid hs1
        clear hw1 hs1
        go_wp2_with fail
        refine (xnum_any HW1.out s.size 2 (by omega) hb).mono ?_
        rintro e w2 ⟨rfl, o2, h2, s2⟩
        rw [E2.out] at h2
        have hop := h2.open_
        simp only at hop
        obtain ⟨A, cap, c0, c1, f0, f1, hc1, hc2, hpl, HB, HC, HV⟩ := hop
        have hL : (W.bs ++ le s.size 2).length ≤ 1000000002 := by rw [List.length_append, le_len]; omega
        have HS2 := Lib.hid (HS1.out.trans s2)
        have hne := own_blk_ne HV.out HB.out (by decide)
        have HNE := Lib.hid hne
        clear h2 s2 hne
        generalize hbs : W.bs ++ le s.size 2 = bs at hL c0 hc1 HB HV HNE
        have HBS := Lib.hid hbs
        clear hbs
        go_wp2_with (at_builtin; refine wpList_append_str_S _ rfl (.tmp 31) (.tmp 32) 68 9 rfl 5 i0 Tryd.underlying68 Tryd.underlying9 hi0 hz0 hz1 hz2 (.slice A bs.length cap) bs.length (bvs bs) rfl HV.out s rfl (by omega) ?_; intro v3 w3 hown hst hg; have hb3 : Blk w3 p 104 _ := (hg.block p hpl (fun e => HNE.out e.symm)).trans HB.out; have k0 := hb3.cell 0; have k1 := hb3.frozen 0; simp at k0 k1; obtain ⟨A3, cap3, rfl, _, _⟩ := own_form' hown; have HO3 := Lib.hid hown; have HS3 := Lib.hid hst; have HB3 := Lib.hid hb3; clear hown hst hg hb3)
        first | go_end0 | refine bodyPost_ret (v := .tuple #[]) (by simp [results, Tryd.results62, go_sem]) rfl ?_
        have hsl : (bs ++ s.data.toList).length = bs.length + s.size := by rw [List.length_append]; rfl
        have hcol := (HS3.out.old p hpl).trans HC.out
        have h4 := WrAt.setB (W := W) (l := bs ++ s.data.toList) HB3.out hcol (by decide) (by rw [hsl, bvs_app]; exact HO3.out)
        refine ⟨rfl, _, ?_, (HS2.out.trans HS3.out).setCell (p := ⟨p, 0, none⟩) hcol _⟩
        rw [E1.out, HBS.out]
        rw [hsl] at h4
        exact h4
  · have e1 : W.text s room = W := by unfold Wr.text; rw [if_pos he]
    have E1 := Lib.hid e1
    have HE := Lib.hid he
    clear e1 he
    go_enter Tryd.func62, Tryd.ntmps62
    go_wp2_with fail
    refine (xfail_old HW.out HE.out _).mono ?_
    rintro e w1 ⟨rfl, rfl⟩
    go_wp2_with fail
    first | go_end0 | refine bodyPost_ret (v := .tuple #[]) (by simp [results, Tryd.results62, go_sem]) rfl ?_
    exact ⟨rfl, o, by rw [E1.out]; exact HW.out, Step.refl _ _ _⟩
end
end Go.Proofs.YtoploimpfhnanaaDoor
