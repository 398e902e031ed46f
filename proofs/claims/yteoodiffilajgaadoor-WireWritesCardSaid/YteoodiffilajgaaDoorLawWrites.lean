/- WireWrites: the law's walk. -/
import Derived.Test.YteoodiffilajgaaDoorLight
import Derived.Test.YteoodiffilajgaaDoorWireO
import Derived.LaidEqlPtr
namespace Go.Proofs.YteoodiffilajgaaDoor
open Go.RowKit

/-- the two writers, and what lay before -/
structure Wrs (o : Nat → Nat) (w0 w : World) (p q : Nat) (W : Wr) : Prop where
  a : WrAt 27 o 1 w p W
  b : WrAt 41 o 3 w q W
  env : Env o w0 w
  fut : Fut o w
section
variable {o o1 o2 : Nat → Nat} {w0 w w1 w2 : World} {p q : Nat} {W W' : Wr}
theorem Wrs.alloc (h : Wrs o w0 w p q W) (x : Obj) : Wrs o w0 (w.alloc x) p q W := ⟨h.a.alloc x, h.b.alloc x, h.env.alloc x, h.fut.alloc x⟩
theorem Wrs.both (h : Wrs o w0 w p q W) (ha : WrAt 27 o1 1 w1 p W') (hs : Step o (only 1) w o1 w1) (hb : WrAt 41 o2 3 w2 q W') (hs2 : Step o1 (only 3) w1 o2 w2) : Wrs o2 w0 w2 p q W' :=
  ⟨ha.step hs2 (by unfold only; omega), hb, (h.env.step hs (by unfold only; omega)).step hs2 (by unfold only; omega), (h.fut.step hs).step hs2⟩
theorem Wrs.below_ (h : Wrs o w0 w p q W) (hb : Below w.heap.size w w1) : Wrs o w0 w1 p q W := ⟨h.a.below_ hb, h.b.below_ hb, h.env.below_ hb, h.fut.below hb⟩
end

theorem neq_same (a : Addr) (w : World) : (binOp .neq 23 (.pointer (some a)) (.pointer (some a))).run Tryd.prog w = .ok (.bool false) w := by
  have hi : (Tryd.prog.info? 27).map (fun i => i.size) = some 2 := by kernel_rfl
  obtain ⟨j, hj, _⟩ := Option.map_eq_some_iff.1 hi
  have h : ∀ d : Nat, (Op.equalIn (d + 1) 23 (.pointer (some a)) (.pointer (some a))).run Tryd.prog w = .ok true w := fun d => by
    simp [Op.equalIn, run_underlying Tryd.underlying23, sizeOf, typeInfo, hj, run_sameAddr_same]
  simp only [binOp]
  simp [Op.equal, Op.maxDepth, h 9999]
set_option maxRecDepth 100000 in
set_option maxHeartbeats 4000000 in
theorem wireWrites_any (w : World) (A : Option Addr) (ca : Nat) (l : List Opr) (ha : Reads w 4 A l.length (ocells l)) (hz : ∀ x ∈ l, x.ok) (hlen : l.length ≤ maxLen) : Calls Tryd.prog 4 #[.slice A l.length ca] w fun e w' => e = .returned (.bool true) ∧ Below w.heap.size w w' := by
  have HA := Lib.hid ha
  have HZ := Lib.hid hz
  have HLEN := Lib.hid hlen
  clear ha hz hlen
  by_cases hL : Lt l
  · have HLT := Lib.hid hL
    obtain ⟨o0, hw0, hs0⟩ := wr_new 27 (fun _ => 0) 1 w
    obtain ⟨o1, hx1, hs1⟩ := wr_new 41 o0 3 (w.alloc (.cells #[.slice none 0 0, .int .i64 0] 27))
    have h2 : Wrs o1 w _ w.heap.size (w.alloc (.cells #[.slice none 0 0, .int .i64 0] 27)).heap.size ⟨[], 0⟩ :=
      ⟨hw0.step (hs1 (fun _ => False)) (by simp), hx1, ((Env.start w).step (hs0 (fun _ => False)) (by simp)).step (hs1 (fun _ => False)) (by simp), ((show Fut (fun _ => 0) w from fun _ _ => rfl).step (hs0 (fun _ => False))).step (hs1 (fun _ => False))⟩
    have H2 := Lib.hid h2
    have hl60 : l.length ≤ 60 := hL.1
    clear hw0 hs0 hx1 hs1 h2 hL
    go_enter Tryd.func4, Tryd.ntmps4
    go_wp2_with fail
    refine (light_any ca HA.out HLEN.out HZ.out).mono ?_
    rintro e w1 ⟨rfl, rfl⟩
    rw [decide_eq_true HLT.out]
    go_wp2_with fail

    go_loopw [5] (fun t5 wr => ∃ (k : Nat) (o2 : Nat → Nat) (W : Wr), k ≤ l.length ∧ t5 = .int .i64 k ∧ Wrs o2 w wr w.heap.size (w.heap.size + 1) W ∧ W.bs.length ≤ k * 61000) (fun t5 _ => l.length - (intOf t5).toNat)
    case atStart => exact ⟨0, o1, ⟨[], 0⟩, Nat.zero_le _, rfl, by simpa using H2.out, by simp⟩
    case round =>
      obtain ⟨k, o2, W, hk, rfl, hwrs, hbs⟩ := hrel
      have HWRS := Lib.hid hwrs
      have hbs9 : W.bs.length ≤ 10000000 := by omega
      have HBS := Lib.hid hbs
      have HB9 := Lib.hid (show W.bs.length ≤ 1000000000 by omega)
      clear hwrs hbs hbs9
      by_cases hlt : k < l.length
      · have hltI : (k : Int) < (l.length : Int) := by omega
        obtain ⟨y, hy⟩ : ∃ y, l[k]? = some y := ⟨_, List.getElem?_eq_getElem hlt⟩
        obtain ⟨ad, rfl, c0, c1, c2, c3⟩ := (HA.out.keep_ (fun ad had => HWRS.out.env.low.block _ (HA.out.lt (by decide) ad (by omega) had))).op hy
        obtain ⟨kd, n, v, s⟩ := y
        obtain ⟨hys, ⟨hk1, hk2⟩, ⟨hn1, hn2⟩, ⟨hv1, hv2⟩⟩ := HZ.out _ (List.mem_of_getElem? hy)
        simp only at c0 c1 c2 c3 hys hk1 hk2 hn1 hn2 hv1 hv2
        have hs300 : s.size ≤ 300 := HLT.out.2 _ (List.mem_of_getElem? hy)
        obtain ⟨m, rfl⟩ : ∃ m : Nat, v = m := ⟨v.toNat, by omega⟩
        have hm : m < 18446744073709551616 := by omega
        have HM := Lib.hid hm
        have HNB := Lib.hid (show i64' n from ⟨hn1, hn2⟩)
        clear hys hv1 hv2 hm hy hn1 hn2
        go_upto_block 2 with (fail)
        have hws := HWRS.out.alloc (.cells #[.int .i64 kd, .int .i64 n, .int .u64 m, .string s] 43)
        have hbx := Blk.new wr 43 #[.int .i64 kd, .int .i64 n, .int .u64 m, .string s]
        have hoB : o2 wr.heap.size = 0 := HWRS.out.fut.at_
        clear c0 c1 c2 c3
        generalize wr.alloc (.cells #[.int .i64 kd, .int .i64 n, .int .u64 m, .string s] 43) = V at hws hbx ⊢
        generalize wr.heap.size = B at hbx hoB ⊢
        have HWS := Lib.hid hws
        have HBX := Lib.hid hbx
        have HOB := Lib.hid hoB
        have x1 := hbx.cell 1
        have x2 := hbx.cell 2
        have x3 := hbx.cell 3
        simp at x1 x2 x3
        clear hws hbx hoB
        go_cut [7, 8] from 32 to 97 (fun t7 _ wx => ∃ (o4 : Nat → Nat) (W' : Wr), t7 = .pointer (some ⟨w.heap.size, 0, none⟩) ∧ Wrs o4 w wx w.heap.size (w.heap.size + 1) W' ∧ W'.bs.length ≤ W.bs.length + 61000)
        case first =>
          by_cases k1 : kd = 1
          · subst k1
            go_wp2_with fail
            refine (wnum_any HWS.out.a m n HM.out HB9.out).mono ?_
            rintro e w3 ⟨rfl, o3, hw3, hs3⟩
            have hb3 := HBX.out.step hs3 (by rw [HOB.out]; unfold only; omega)
            have y1 := hb3.cell 1
            have y2 := hb3.cell 2
            have y3 := hb3.cell 3
            simp at y1 y2 y3
            have HW3 := Lib.hid hw3
            have HS3 := Lib.hid hs3
            have HX3 := Lib.hid (HWS.out.b.step hs3 (by unfold only; omega))
            clear hw3 hs3 hb3 x1 x2 x3
            go_wp2_with fail
            refine (xnum_any HX3.out m n HM.out HB9.out).mono ?_
            rintro e w4 ⟨rfl, o4, hw4, hs4⟩
            have HW4 := Lib.hid (HWS.out.both HW3.out HS3.out hw4 hs4)
            clear hw4 hs4
            go_wp2_with fail
            go_meet
            case rel => exact ⟨o4, _, rfl, HW4.out, by have h9 := W.num_len m n; omega⟩
          · have k1I : (kd == 1) = false := beq_eq_false_iff_ne.2 k1
            by_cases k2 : kd = 2
            · subst k2
              go_wp2_with fail
              refine (wint_any HWS.out.a n HB9.out).mono ?_
              rintro e w3 ⟨rfl, o3, hw3, hs3⟩
              have hb3 := HBX.out.step hs3 (by rw [HOB.out]; unfold only; omega)
              have y1 := hb3.cell 1
              have y2 := hb3.cell 2
              have y3 := hb3.cell 3
              simp at y1 y2 y3
              have HW3 := Lib.hid hw3
              have HS3 := Lib.hid hs3
              have HX3 := Lib.hid (HWS.out.b.step hs3 (by unfold only; omega))
              clear hw3 hs3 hb3 x1 x2 x3
              go_wp2_with fail
              have hu : IntKind.u64.wrap n = ((Go.Proofs.YteoodiffilajgaaDoor.u64 n : Nat) : Int) := by
                rw [IntKind.wrap_u64]
                unfold Go.Proofs.YteoodiffilajgaaDoor.u64
                omega
              rw [hu]
              refine (xnum_any HX3.out (Go.Proofs.YteoodiffilajgaaDoor.u64 n) 8 (u64_lt n) HB9.out).mono ?_
              rintro e w4 ⟨rfl, o4, hw4, hs4⟩
              have HW4 := Lib.hid (HWS.out.both HW3.out HS3.out hw4 hs4)
              clear hw4 hs4
              go_wp2_with fail
              go_meet
              case rel => exact ⟨o4, _, rfl, HW4.out, by have h9 := W.num_len (Go.Proofs.YteoodiffilajgaaDoor.u64 n) 8; omega⟩
            · have k2I : (kd == 2) = false := beq_eq_false_iff_ne.2 k2
              by_cases k3 : kd = 3
              · subst k3
                go_wp2_with fail
                refine (wtext_any HWS.out.a s n (by omega) HB9.out).mono ?_
                rintro e w3 ⟨rfl, o3, hw3, hs3⟩
                have hb3 := HBX.out.step hs3 (by rw [HOB.out]; unfold only; omega)
                have y1 := hb3.cell 1
                have y2 := hb3.cell 2
                have y3 := hb3.cell 3
                simp at y1 y2 y3
                have HW3 := Lib.hid hw3
                have HS3 := Lib.hid hs3
                have HX3 := Lib.hid (HWS.out.b.step hs3 (by unfold only; omega))
                clear hw3 hs3 hb3 x1 x2 x3
                go_wp2_with fail
                refine (xtext_any HX3.out s n (by omega) HB9.out).mono ?_
                rintro e w4 ⟨rfl, o4, hw4, hs4⟩
                have HW4 := Lib.hid (HWS.out.both HW3.out HS3.out hw4 hs4)
                clear hw4 hs4
                go_wp2_with fail
                go_meet
                case rel => exact ⟨o4, _, rfl, HW4.out, by have h9 := W.text_len s n; omega⟩
              · have k3I : (kd == 3) = false := beq_eq_false_iff_ne.2 k3
                by_cases k4 : kd = 4
                · subst k4
                  go_wp2_with fail
                  refine (wflag_any HWS.out.a (decide (0 < n)) HB9.out).mono ?_
                  rintro e w3 ⟨rfl, o3, hw3, hs3⟩
                  have hb3 := HBX.out.step hs3 (by rw [HOB.out]; unfold only; omega)
                  have y1 := hb3.cell 1
                  have y2 := hb3.cell 2
                  have y3 := hb3.cell 3
                  simp at y1 y2 y3
                  have HW3 := Lib.hid hw3
                  have HS3 := Lib.hid hs3
                  have HX3 := Lib.hid (HWS.out.b.step hs3 (by unfold only; omega))
                  clear hw3 hs3 hb3 x1 x2 x3
                  go_wp2_with fail
                  refine (xflag_any HX3.out (decide (0 < n)) HB9.out).mono ?_
                  rintro e w4 ⟨rfl, o4, hw4, hs4⟩
                  have HW4 := Lib.hid (HWS.out.both HW3.out HS3.out hw4 hs4)
                  clear hw4 hs4
                  go_wp2_with fail
                  go_meet
                  case rel => exact ⟨o4, _, rfl, HW4.out, by have h9 := W.flag_len (decide (0 < n)); omega⟩
                · have k4I : (kd == 4) = false := beq_eq_false_iff_ne.2 k4
                  obtain ⟨hn1, hn2⟩ := HNB.out
                  by_cases p1 : n ≤ 900
                  · have e1 : min n 70000 = n := by omega
                    have e2 : min n 900 = n := by omega
                    go_wp2_with fail
                    refine (wpad_any HWS.out.a (n) ⟨by omega, by omega⟩ HB9.out).mono ?_
                    rintro e w3 ⟨rfl, o3, hw3, hs3⟩
                    have HW3 := Lib.hid hw3
                    have HS3 := Lib.hid hs3
                    have HX3 := Lib.hid (HWS.out.b.step hs3 (by unfold only; omega))
                    clear hw3 hs3 x1 x2 x3
                    go_wp2_with fail
                    refine (xpad_any HX3.out (n) HB9.out).mono ?_
                    rintro e w4 ⟨rfl, o4, hw4, hs4⟩
                    have HW4 := Lib.hid (HWS.out.both HW3.out HS3.out hw4 hs4)
                    clear hw4 hs4
                    go_wp2_with fail
                    go_meet
                    case rel => exact ⟨o4, _, rfl, HW4.out, by have h9 := W.pad_len (n); omega⟩
                  · by_cases p2 : n ≤ 60000
                    · have e1 : min n 70000 = n := by omega
                      have e2 : min n 900 = 900 := by omega
                      go_wp2_with fail
                      refine (wpad_any HWS.out.a (900) ⟨by omega, by omega⟩ HB9.out).mono ?_
                      rintro e w3 ⟨rfl, o3, hw3, hs3⟩
                      have HW3 := Lib.hid hw3
                      have HS3 := Lib.hid hs3
                      have HX3 := Lib.hid (HWS.out.b.step hs3 (by unfold only; omega))
                      clear hw3 hs3 x1 x2 x3
                      go_wp2_with fail
                      refine (xpad_any HX3.out (900) HB9.out).mono ?_
                      rintro e w4 ⟨rfl, o4, hw4, hs4⟩
                      have HW4 := Lib.hid (HWS.out.both HW3.out HS3.out hw4 hs4)
                      clear hw4 hs4
                      go_wp2_with fail
                      go_meet
                      case rel => exact ⟨o4, _, rfl, HW4.out, by have h9 := W.pad_len (900); omega⟩
                    · by_cases p3 : n ≤ 70000
                      · have e1 : min n 70000 = n := by omega
                        go_wp2_with fail
                        refine (wpad_any HWS.out.a (n) ⟨by omega, by omega⟩ HB9.out).mono ?_
                        rintro e w3 ⟨rfl, o3, hw3, hs3⟩
                        have HW3 := Lib.hid hw3
                        have HS3 := Lib.hid hs3
                        have HX3 := Lib.hid (HWS.out.b.step hs3 (by unfold only; omega))
                        clear hw3 hs3 x1 x2 x3
                        go_wp2_with fail
                        refine (xpad_any HX3.out (n) HB9.out).mono ?_
                        rintro e w4 ⟨rfl, o4, hw4, hs4⟩
                        have HW4 := Lib.hid (HWS.out.both HW3.out HS3.out hw4 hs4)
                        clear hw4 hs4
                        go_wp2_with fail
                        go_meet
                        case rel => exact ⟨o4, _, rfl, HW4.out, by have h9 := W.pad_len (n); omega⟩
                      · have e1 : min n 70000 = 70000 := by omega
                        go_wp2_with fail
                        refine (wpad_any HWS.out.a (70000) ⟨by omega, by omega⟩ HB9.out).mono ?_
                        rintro e w3 ⟨rfl, o3, hw3, hs3⟩
                        have HW3 := Lib.hid hw3
                        have HS3 := Lib.hid hs3
                        have HX3 := Lib.hid (HWS.out.b.step hs3 (by unfold only; omega))
                        clear hw3 hs3 x1 x2 x3
                        go_wp2_with fail
                        refine (xpad_any HX3.out (70000) HB9.out).mono ?_
                        rintro e w4 ⟨rfl, o4, hw4, hs4⟩
                        have HW4 := Lib.hid (HWS.out.both HW3.out HS3.out hw4 hs4)
                        clear hw4 hs4
                        go_wp2_with fail
                        go_meet
                        case rel => exact ⟨o4, _, rfl, HW4.out, by have h9 := W.pad_len (70000); omega⟩
        case rest =>
          obtain ⟨o4, W', rfl, hw4, hl4⟩ := hcut
          have HW4 := Lib.hid hw4
          clear hw4 x1 x2 x3
          go_wp2_with fail
          refine (wbytes_any HW4.out.a).mono ?_
          rintro e w5 ⟨rfl, hb5⟩
          have HW5 := Lib.hid (HW4.out.below_ hb5)
          clear hb5
          generalize hS : (if W'.e = 0 then str W'.bs else (⟨#[]⟩ : ByteArray)) = S
          have HSS := Lib.hid hS
          clear hS
          go_wp2_with fail
          refine (xbytes_any HW5.out.b).mono ?_
          rintro e w6 ⟨rfl, hb6⟩
          rw [HSS.out]
          have HW6 := Lib.hid (HW5.out.below_ hb6)
          clear hb6
          generalize W'.e = E
          have hneq := neq_same ⟨w.heap.size, 0, none⟩
          go_wp2_with fail
          go_roundw
          case rel => exact ⟨k + 1, o4, W', by omega, by go_num, HW6.out, by have h9 := HBS.out; omega⟩
          case measure => simp [intOf]; omega
      · have hltI : ¬ (k : Int) < (l.length : Int) := by omega
        go_wp2_with fail
        refine (alive1_any _).mono ?_
        rintro e w5 ⟨rfl, hb5⟩
        go_wp2_with fail
        go_ret
        exact ⟨rfl, (HWRS.out.env.below_ hb5).low⟩
  · have HLT := Lib.hid hL
    clear hL
    go_enter Tryd.func4, Tryd.ntmps4
    go_wp2_with fail
    refine (light_any ca HA.out HLEN.out HZ.out).mono ?_
    rintro e w1 ⟨rfl, rfl⟩
    rw [decide_eq_false HLT.out]
    go_wp2_with fail
    refine (alive1_any _).mono ?_
    rintro e w5 ⟨rfl, hb5⟩
    go_wp2_with fail
    go_ret
    exact ⟨rfl, hb5⟩
end Go.Proofs.YteoodiffilajgaaDoor
