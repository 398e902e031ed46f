/- The document's disk: at, Read, Waiting. -/
import Derived.Test.YtkhieofknglknaaGreatDoorKRefH
import Derived.Test.YtkhieofknglknaaGreatDoorKApplyP
import Derived.Test.YtkhieofknglknaaGreatDoorKRecG
import Derived.Test.YtkhieofknglknaaGreatDoorKMapR
import Derived.Test.YtkhieofknglknaaGreatDoorKDiskF
namespace Go.Proofs.YtkhieofknglknaaGreatDoor
open Go.RowKit

def fits (k : Int) (b : Bool) (x : RW) : Bool := decide (x.at_ = k) && (!b || x.lasts)
theorem pick_found {k : Int} {b : Bool} {l : List RW} {i : Nat} {x : RW} (hx : l[i]? = some x) (hm : fits k b x = true) (hn : ∀ j y, i + 1 ≤ j → l[j]? = some y → fits k b y = false) : pickAt k b l = some x := by
  obtain ⟨hi, e⟩ := List.getElem?_eq_some_iff.1 hx
  have hl : l = l.take i ++ x :: l.drop (i + 1) := by
    rw [← e, ← List.drop_eq_getElem_cons hi, List.take_append_drop]
  have hd : (l.drop (i + 1)).filter (fits k b) = [] := by
    refine List.filter_eq_nil_iff.2 (fun y hy => ?_)
    obtain ⟨j, hj, ej⟩ := List.getElem_of_mem hy
    have : l[i + 1 + j]? = some y := by rw [← List.getElem?_drop, List.getElem?_eq_getElem hj, ej]
    rw [hn _ y (by omega) this]
    decide
  show (l.filter (fits k b)).getLast? = some x
  rw [hl, List.filter_append, List.filter_cons, if_pos hm, hd]
  simp
theorem pick_none {k : Int} {b : Bool} {l : List RW} (hn : ∀ j y, 0 ≤ j → l[j]? = some y → fits k b y = false) : pickAt k b l = none := by
  show (l.filter (fits k b)).getLast? = none
  rw [List.filter_eq_nil_iff.2 (fun y hy => ?_)]
  · rfl
  · obtain ⟨j, hj, ej⟩ := List.getElem_of_mem hy
    rw [hn j y (Nat.zero_le _) (by rw [List.getElem?_eq_getElem hj, ej])]
    decide
theorem Reads.rwrow {w : World} {A : Option Addr} {l : List RW} (h : Reads w 4 A l.length (rwcells l)) {k : Nat} {y : RW} (hy : l[k]? = some y) :
    ∃ ad, A = some ad ∧ w.cell? (ad.add (k * 4)) = some (.int .i64 y.node) ∧ w.cell? ⟨(ad.add (k * 4)).block, (ad.add (k * 4)).off + 1, none⟩ = some (.int .i64 y.at_) ∧ w.cell? ⟨(ad.add (k * 4)).block, (ad.add (k * 4)).off + 2, none⟩ = some (.string y.data) ∧ w.cell? ⟨(ad.add (k * 4)).block, (ad.add (k * 4)).off + 3, none⟩ = some (.bool y.lasts) := by
  obtain ⟨ad, rfl, hc⟩ := Reads.row (f := RW.cells) (fun _ => rfl) h hy
  exact ⟨ad, rfl, hc 0 _ rfl, hc 1 _ rfl, hc 2 _ rfl, hc 3 _ rfl⟩
section
variable {o : Nat → Nat} {c p : Nat} {w : World} {R : RF} {kv : Value}
theorem at_found {k : Int} {b : Bool} {x : RW} (h : pickAt k b R.ws = some x) : R.at_ k b = x.data := by
  unfold RF.at_
  rw [h]
theorem at_none {k : Int} {b : Bool} (h : pickAt k b R.ws = none) : R.at_ k b = str (zer 64) := by
  unfold RF.at_
  rw [h]
set_option maxRecDepth 100000 in
set_option maxHeartbeats 4000000 in
theorem rfat_any (h : RefIn o c w p R kv) (k : Int) (b : Bool) (hl : R.ws.length ≤ 1000000) : Calls Tryz.prog 162 #[.pointer (some ⟨p, 0, none⟩), .int .i64 k, .bool b] w fun e w' => e = .returned (.string (R.at_ k b)) ∧ Below w.heap.size w w' := by
  obtain ⟨A, cap, HB, HC, HO, x1, f1, hcap, hcm⟩ := h.row
  have HR := Lib.hid (Reads.of_own HO.out.1)
  have HL := Lib.hid hl
  have hcmx : cap ≤ 9223372036854775807 := by unfold maxLen at hcm; omega
  have hlI : (R.ws.length : Int) ≤ 1000000 := by omega
  clear h hcm f1 HO HC HB
  go_enter Tryz.func162, Tryz.ntmps162
  go_wp2_with fail
  go_loopw [7] (fun t7 wr => ∃ i : Nat, i ≤ R.ws.length ∧ t7 = .int .i64 ((i : Int) - 1) ∧ wr = w ∧ ∀ j y, i ≤ j → R.ws[j]? = some y → fits k b y = false) (fun t7 _ => (intOf t7 + 1).toNat)
  case atStart => exact ⟨R.ws.length, by omega, (by first | go_num | trivial), (by first | rfl | trivial), fun j y hj hy => by have := (List.getElem?_eq_some_iff.1 hy).1; omega⟩
  case round =>
    obtain ⟨i, hi, rfl, rfl, hn⟩ := hrel
    have HN := Lib.hid hn
    clear hn
    cases i with
    | zero =>
      have e0 : ((0 : Nat) : Int) - 1 = -1 := by omega
      rw [e0]
      have HA := Lib.hid (at_none (pick_none HN.out) : R.at_ k b = str (zer 64))
      obtain ⟨w', h1, _, h3, h4⟩ := mkbytes wr 64 (by omega)
      have h1b : (Instr.makeSlice 164 (.int .i64 64) (.int .i64 64)).run Tryz.prog wr = _ := h1
      have HB := Lib.hid h3
      clear h3 x1 h1
      go_wp2_with fail
      go_ret
      exact ⟨by rw [HA.out]; first | done | rfl, HB.out⟩
    | succ m =>
      have e0 : ((m + 1 : Nat) : Int) - 1 = (m : Int) := by omega
      rw [e0]
      obtain ⟨x, hx⟩ : ∃ x, R.ws[m]? = some x := ⟨_, List.getElem?_eq_getElem (by omega)⟩
      have HX := Lib.hid hx
      have hm0 : (0 : Int) ≤ (m : Int) := by omega
      have hmI : (m : Int) < (R.ws.length : Int) := by omega
      obtain ⟨ad, rfl, _, y1, y2, y3⟩ := HR.out.rwrow hx
      clear hx
      by_cases ha : x.at_ = k
      · cases b with
        | false =>
          have HA := Lib.hid (at_found (pick_found HX.out (by unfold fits; simp [ha]) (fun j y hj hy => HN.out j y hj hy)) : R.at_ k false = x.data)
          go_wp2_with fail
          go_ret
          exact ⟨by rw [HA.out]; first | done | rfl, Below.refl _ _⟩
        | true =>
          cases hla : x.lasts with
          | true =>
            rw [hla] at y3
            have HA := Lib.hid (at_found (pick_found HX.out (by unfold fits; simp [ha, hla]) (fun j y hj hy => HN.out j y hj hy)) : R.at_ k true = x.data)
            go_wp2_with fail
            go_ret
            exact ⟨by rw [HA.out]; first | done | rfl, Below.refl _ _⟩
          | false =>
            rw [hla] at y3
            have HF := Lib.hid (show fits k true x = false by unfold fits; simp [hla])
            go_wp2_with fail
            go_roundw
            case rel => exact ⟨m, by omega, (by first | go_num | trivial), (by first | rfl | trivial), fun j y hj hy => by
              by_cases hjm : j = m
              · subst hjm
                rw [HX.out] at hy
                injection hy with hy
                rw [← hy]
                exact HF.out
              · exact HN.out j y (by omega) hy⟩
            case measure => simp [intOf] <;> omega
      · have HF := Lib.hid (show fits k b x = false by unfold fits; simp [ha])
        go_wp2_with fail
        go_roundw
        case rel => exact ⟨m, by omega, (by first | go_num | trivial), (by first | rfl | trivial), fun j y hj hy => by
          by_cases hjm : j = m
          · subst hjm
            rw [HX.out] at hy
            injection hy with hy
            rw [← hy]
            exact HF.out
          · exact HN.out j y (by omega) hy⟩
        case measure => simp [intOf] <;> omega
theorem at_size (hwf : ∀ x ∈ R.ws, x.data.size = 64) (k : Int) (b : Bool) : (R.at_ k b).size = 64 := by
  unfold RF.at_
  cases h : pickAt k b R.ws with
  | none => show (str (zer 64)).size = 64; rw [str_size, zer_len]
  | some x =>
    have hm : x ∈ R.ws.filter (fun x => decide (x.at_ = k) && (!b || x.lasts)) := List.mem_of_getLast? h
    exact hwf x (List.mem_filter.1 hm).1
theorem round_up {i m : Nat} (h : i < m) (hi : i ≤ 1000000) : wrap64 ((i : Int) + 1) = ((i + 1 : Nat) : Int) ∧ m - (intOf (.int .i64 (wrap64 ((i : Int) + 1)))).toNat < m - (intOf (.int .i64 (i : Int))).toNat := by
  have e : wrap64 ((i : Int) + 1) = ((i + 1 : Nat) : Int) := by rw [IntWalk.wrap64_in _ (by omega)]; omega
  refine ⟨e, ?_⟩
  rw [e]
  simp only [intOf, Int.toNat_natCast]
  omega
theorem rf_readL_succ (R : RF) (a : Int) (i : Nat) : R.readL a (i + 1) = R.readL a i ++ (R.at_ (a + i) false).data.toList := by
  unfold RF.readL
  rw [List.range_succ, List.flatMap_append]
  simp
theorem rf_readL_len (hwf : ∀ x ∈ R.ws, x.data.size = 64) (a : Int) : ∀ n, (R.readL a n).length = 64 * n
  | 0 => rfl
  | n + 1 => by
    rw [rf_readL_succ, List.length_append, rf_readL_len hwf a n]
    have : (R.at_ (a + n) false).data.toList.length = (R.at_ (a + n) false).size := rfl
    rw [this, at_size hwf]
    omega
set_option maxRecDepth 100000 in
set_option maxHeartbeats 4000000 in
theorem rfread_any (h : RefIn o c w p R kv) (at_ n : Int) (hl : R.ws.length ≤ 1000000) (hwf : ∀ x ∈ R.ws, x.data.size = 64) (hr : R.room ≤ 100000) :
    Calls Tryz.prog 55 #[.pointer (some ⟨p, 0, none⟩), .int .i64 at_, .int .i64 n] w fun e w' => e = .returned (.tuple #[.string (R.readS at_ n), .int .i64 (R.readE at_ n)]) ∧ Below w.heap.size w w' := by
  have HI := Lib.hid h
  have HL := Lib.hid hl
  have HWF := Lib.hid hwf
  obtain ⟨lv, hb, _, _⟩ := h
  have x0 : w.cell? ⟨p, 0, none⟩ = some (.int .i64 R.room) := hb.cell 0
  have x2 : w.cell? ⟨p, 2, none⟩ = some (.bool R.off) := hb.cell 2
  clear hb hl hwf
  unfold RF.readS
  obtain ⟨E, hE⟩ : ∃ E, R.readE at_ n = E := ⟨_, rfl⟩
  have HE := Lib.hid hE
  unfold RF.readE at hE
  rw [HE.out]
  cases hoff : R.off with
  | true =>
    rw [hoff] at x2 hE
    rw [if_pos rfl] at hE
    subst hE
    clear x0
    go_enter Tryz.func55, Tryz.ntmps55
    go_wp2_with fail
    go_ret2
    exact ⟨rfl, Below.refl _ _⟩
  | false =>
    rw [hoff] at x2 hE
    rw [if_neg (by decide)] at hE
    by_cases c1 : n < 1
    · rw [if_pos (.inl c1)] at hE
      subst hE
      clear x0
      go_enter Tryz.func55, Tryz.ntmps55
      go_wp2_with fail
      go_ret2
      exact ⟨rfl, Below.refl _ _⟩
    by_cases c2 : 400 < n
    · rw [if_pos (.inr (.inl c2))] at hE
      subst hE
      clear x0
      go_enter Tryz.func55, Tryz.ntmps55
      go_wp2_with fail
      go_ret2
      exact ⟨rfl, Below.refl _ _⟩
    by_cases c3 : at_ < 0
    · rw [if_pos (.inr (.inr (.inl c3)))] at hE
      subst hE
      clear x0
      go_enter Tryz.func55, Tryz.ntmps55
      go_wp2_with fail
      go_ret2
      exact ⟨rfl, Below.refl _ _⟩
    have wsub : IntKind.i64.wrap ((R.room : Int) - n) = (R.room : Int) - n := IntWalk.i64_in _ (by omega)
    by_cases c4 : (R.room : Int) - n < at_
    · rw [if_pos (.inr (.inr (.inr c4)))] at hE
      subst hE
      go_enter Tryz.func55, Tryz.ntmps55
      go_wp2_with fail
      go_ret2
      exact ⟨rfl, Below.refl _ _⟩
    rw [if_neg (by omega)] at hE
    subst hE
    rw [if_pos rfl]
    obtain ⟨m, rfl⟩ : ∃ m : Nat, n = m := ⟨n.toNat, by omega⟩
    rw [Int.toNat_natCast]
    have HAT := Lib.hid (show 0 ≤ at_ ∧ at_ ≤ 100000 by omega)
    have HM := Lib.hid (show m ≤ 400 by omega)
    obtain ⟨i0, hi0, hz0, hz1, hz2⟩ := info_parts info_u8
    go_enter Tryz.func55, Tryz.ntmps55
    go_wp2_with fail
    clear x0 x2 wsub c1 c2 c3 c4 hoff
    go_loopw [8, 9] (fun t8 t9 wr => ∃ (i : Nat) (o1 : Nat → Nat) (A : Option Addr) (cap : Nat) (l : List UInt8), i ≤ m ∧ l = R.readL at_ i ∧ t8 = .slice A l.length cap ∧ t9 = .int .i64 i ∧ OwnS o1 1 wr 5 1 (.slice A l.length cap) l.length (bvs l) ∧ Step (fun _ => 0) (only 1) w o1 wr) (fun _ t9 _ => m - (intOf t9).toNat)
    case atStart => exact ⟨0, fun _ => 0, none, 0, [], by omega, rfl, rfl, rfl, OwnS.nil _ _ _ _ _, Step.refl _ _ _⟩
    case round =>
      obtain ⟨i, o1, A, cap, l, hi, hli, rfl, rfl, how, hs⟩ := hrel
      have HLI := Lib.hid hli
      have HOW := Lib.hid how
      have HS := Lib.hid hs
      clear hli how hs
      by_cases hlt : i < m
      · have hltI : (i : Int) < (m : Int) := by omega
        have HE10 := Lib.hid (show wrap64 ((i : Int) + 1) = ((i + 1 : Nat) : Int) ∧ m - (intOf (.int .i64 (wrap64 ((i : Int) + 1)))).toNat < m - (intOf (.int .i64 (i : Int))).toNat from round_up hlt (by have := HM.out; omega))
        have e1 : IntKind.i64.wrap (at_ + (i : Int)) = at_ + (i : Int) := IntWalk.i64_in _ (by have := HAT.out; have := HM.out; omega)
        have HB := Lib.hid (HS.out.below (fun _ _ h => by unfold only at h; omega) (Nat.le_refl _) : Below w.heap.size w wr)
        have HLL := Lib.hid (show l.length ≤ 25600 by rw [HLI.out, rf_readL_len HWF.out]; have := HM.out; omega)
        go_wp2_with fail
        refine (rfat_any (HI.out.below_ HB.out) (at_ + (i : Int)) false HL.out).mono ?_
        rintro e w2 ⟨rfl, hb2⟩
        have HAS := Lib.hid (at_size HWF.out (at_ + (i : Int)) false)
        obtain ⟨T, hT⟩ : ∃ T, R.at_ (at_ + (i : Int)) false = T := ⟨_, rfl⟩
        have HT := Lib.hid hT
        rw [hT] at HAS
        rw [hT]
        clear hT
        have HOW2 := Lib.hid (HOW.out.below_ hb2)
        have HS2 := Lib.hid (HS.out.trans (Step.of_below o1 (only 1) hb2))
        clear hb2
        go_wp2_with (at_builtin; refine wpList_append_str_S _ rfl (.tmp 39) (.tmp 44) 164 9 rfl 5 i0 Tryz.underlying164 Tryz.underlying9 hi0 hz0 hz1 hz2 (.slice A l.length cap) l.length (bvs l) rfl HOW2.out T rfl (by have := HLL.out; have := HAS.out; omega) ?_; intro v3 w3 hown hst hg; obtain ⟨A3, cap3, rfl, _, _⟩ := own_form' hown; have HO3 := Lib.hid hown; have HS3 := Lib.hid (HS2.out.trans hst); clear hown hst hg)
        have HL3 := Lib.hid (show l ++ T.data.toList = R.readL at_ (i + 1) by rw [rf_readL_succ, HLI.out, HT.out])
        have hlen : (l ++ T.data.toList).length = l.length + T.size := by rw [List.length_append]; rfl
        have HO4 := Lib.hid (show OwnS (band o1 w2.heap.size w3.heap.size 1) 1 w3 5 1 (.slice A3 (l ++ T.data.toList).length cap3) (l ++ T.data.toList).length (bvs (l ++ T.data.toList)) by rw [hlen, bvs_app]; exact HO3.out)
        rw [← hlen]
        have hi400 : (i : Int) ≤ 400 := by have := HM.out; omega
        clear e1
        go_roundw
        case rel => exact ⟨i + 1, _, A3, cap3, l ++ T.data.toList, by omega, HL3.out, rfl, (by rw [HE10.out.1]), HO4.out, HS3.out⟩
        case measure => exact HE10.out.2
      · have hltI : ¬ (i : Int) < (m : Int) := by omega
        obtain rfl : i = m := by omega
        have hconv := conv_own 164 9 Tryz.underlying164 Tryz.underlying5 Tryz.underlying9 HOW.out
        have HB := Lib.hid (HS.out.below (fun _ _ h => by unfold only at h; omega) (Nat.le_refl _) : Below w.heap.size w wr)
        go_wp2_with fail
        go_ret2
        exact ⟨by rw [← HLI.out]; first | done | rfl, HB.out⟩
set_option maxRecDepth 100000 in
set_option maxHeartbeats 4000000 in
theorem rfwaiting_any (h : RefIn o c w p R kv) (n : Int) (hl : R.ws.length ≤ 1000000) : Calls Tryz.prog 53 #[.pointer (some ⟨p, 0, none⟩), .int .i64 n] w fun e w' => e = .returned (.int .i64 (R.waiting n)) ∧ w = w' := by
  obtain ⟨A, cap, HB, HC, HO, x1, f1, hcap, hcm⟩ := h.row
  have x2 : w.cell? ⟨p, 2, none⟩ = some (.bool R.off) := HB.out.cell 2
  have HR := Lib.hid (Reads.of_own HO.out.1)
  have hcmx : cap ≤ 9223372036854775807 := by unfold maxLen at hcm; omega
  have hlI : (R.ws.length : Int) ≤ 1000000 := by omega
  clear h hcm f1 HO HC HB
  obtain ⟨b, hb⟩ : ∃ b, R.off = b := ⟨_, rfl⟩
  have HOF := Lib.hid hb
  rw [hb] at x2
  clear hb
  cases b with
  | true =>
    rw [show R.waiting n = 0 from by unfold RF.waiting; rw [if_pos HOF.out]]
    go_enter Tryz.func53, Tryz.ntmps53
    go_wp2_with fail
    go_loopw [5, 6] (fun t5 t6 wr => t5 = .int .i64 0 ∧ t6 = .int .i64 0 ∧ wr = w) (fun _ _ _ => 0)
    case atStart => exact ⟨rfl, rfl, rfl⟩
    case round =>
      obtain ⟨rfl, rfl, rfl⟩ := hrel
      by_cases hlt : 0 < R.ws.length
      · have hltI : (0 : Int) < (R.ws.length : Int) := by omega
        go_wp2_with fail
        go_ret
        exact ⟨rfl, rfl⟩
      · have hltI : ¬ (0 : Int) < (R.ws.length : Int) := by omega
        go_wp2_with fail
        go_ret
        exact ⟨rfl, rfl⟩
  | false =>
    rw [show R.waiting n = (R.ws.filter (fun x => decide (x.node = n) && !x.lasts)).length from by unfold RF.waiting; rw [if_neg (by rw [HOF.out]; decide)]]
    go_enter Tryz.func53, Tryz.ntmps53
    go_wp2_with fail
    go_loopw [5, 6] (fun t5 t6 wr => ∃ i : Nat, i ≤ R.ws.length ∧ t5 = .int .i64 ((((R.ws.take i).filter (fun x => decide (x.node = n) && !x.lasts)).length : Nat) : Int) ∧ t6 = .int .i64 i ∧ wr = w) (fun _ t6 _ => R.ws.length - (intOf t6).toNat)
    case atStart => exact ⟨0, by omega, rfl, rfl, rfl⟩
    case round =>
      obtain ⟨i, hi, rfl, rfl, rfl⟩ := hrel
      by_cases hlt : i < R.ws.length
      · have hltI : (i : Int) < (R.ws.length : Int) := by omega
        obtain ⟨x, hx⟩ : ∃ x, R.ws[i]? = some x := ⟨_, List.getElem?_eq_getElem hlt⟩
        have ht : (R.ws.take (i + 1)).filter (fun x => decide (x.node = n) && !x.lasts) = (R.ws.take i).filter (fun x => decide (x.node = n) && !x.lasts) ++ (if (decide (x.node = n) && !x.lasts) = true then [x] else []) := by
          rw [List.take_add_one, hx, Option.toList_some, List.filter_append, List.filter_cons, List.filter_nil]
        have HT := Lib.hid ht
        have HQ := Lib.hid (show ((R.ws.take i).filter (fun x => decide (x.node = n) && !x.lasts)).length ≤ i from Nat.le_trans (List.length_filter_le _ _) (by rw [List.length_take]; omega))
        clear ht
        obtain ⟨q, hq⟩ : ∃ q, ((R.ws.take i).filter (fun x => decide (x.node = n) && !x.lasts)).length = q := ⟨_, rfl⟩
        have HQE := Lib.hid hq
        rw [hq] at HQ
        rw [hq]
        have hqI : q ≤ i := HQ.out
        clear hq
        obtain ⟨ad, rfl, y0, y1, y2, y3⟩ := HR.out.rwrow hx
        clear hx y1 y2
        by_cases hn : x.node = n
        · cases hla : x.lasts with
          | false =>
            rw [hla] at y3
            have HF := Lib.hid (show ((R.ws.take (i + 1)).filter (fun x => decide (x.node = n) && !x.lasts)).length = q + 1 by rw [HT.out, List.length_append, HQE.out]; simp [hn, hla])
            go_wp2_with fail
            go_roundw
            case rel => exact ⟨i + 1, by omega, by rw [HF.out]; go_num, by go_num, (by first | rfl | trivial)⟩
            case measure => simp [intOf]; omega
          | true =>
            rw [hla] at y3
            have HF := Lib.hid (show ((R.ws.take (i + 1)).filter (fun x => decide (x.node = n) && !x.lasts)).length = q by rw [HT.out, List.length_append, HQE.out]; simp [hla])
            go_wp2_with fail
            go_roundw
            case rel => exact ⟨i + 1, by omega, by rw [HF.out], by go_num, (by first | rfl | trivial)⟩
            case measure => simp [intOf]; omega
        · have HF := Lib.hid (show ((R.ws.take (i + 1)).filter (fun x => decide (x.node = n) && !x.lasts)).length = q by rw [HT.out, List.length_append, HQE.out]; simp [hn])
          clear y3
          go_wp2_with fail
          go_roundw
          case rel => exact ⟨i + 1, by omega, by rw [HF.out], by go_num, (by first | rfl | trivial)⟩
          case measure => simp [intOf]; omega
      · have hltI : ¬ (i : Int) < (R.ws.length : Int) := by omega
        obtain rfl : i = R.ws.length := by omega
        rw [List.take_length]
        go_wp2_with fail
        go_ret
        exact ⟨rfl, rfl⟩
end
end Go.Proofs.YtkhieofknglknaaGreatDoor

/- The document's reader of bytes: fail, take, Num (printed by gen/mkrefy.py). -/
namespace Go.Proofs.YtkhieofknglknaaGreatDoor
open Go.RowKit

theorem takeS_err (R : Rd) (h : R.e ≠ 0) (n : Int) : R.takeS n = ⟨#[]⟩ := by
  unfold Rd.takeS
  rw [if_neg (fun x => h x.1)]
theorem takeR_err (R : Rd) (h : R.e ≠ 0) (n : Int) : R.takeR n = R := by
  unfold Rd.takeR
  rw [if_pos h]
def Rd.takeO (R : Rd) (n : Int) : Bool := decide (R.e = 0 ∧ n ≤ R.b.size)
section
variable {o : Nat → Nat} {c : Nat} {w : World} {p : Nat} {R : Rd}
theorem yfail_any (h : RdAt 303 o c w p R) (e : Int) : Calls Tryz.prog 266 #[.pointer (some ⟨p, 0, none⟩), .int .i64 e] w fun r w' => r = .returned (.tuple #[]) ∧ RdAt 303 o c w' p (R.fail e) ∧ Step o (only c) w o w' := by
  have HR := Lib.hid h
  have c1 : w.cell? ⟨p, 1, none⟩ = some (.int .i64 R.e) := h.1.cell 1
  have f1 := h.1.frozen 1
  have hp := h.1.lt
  clear h
  by_cases he : R.e = 0
  · have e1 : R.fail e = { R with e := e } := by unfold Rd.fail; rw [if_pos he]
    have E1 := Lib.hid e1
    rw [he] at c1
    clear e1 he
    go_enter Tryz.func266, Tryz.ntmps266
    go_wp2
    go_end0
    exact ⟨rfl, by rw [E1.out]; exact HR.out.setE e, (Step.refl o (only c) w).setCell (p := ⟨p, 1, none⟩) HR.out.2.1 _⟩
  · have e1 : R.fail e = R := by unfold Rd.fail; rw [if_neg he]
    have E1 := Lib.hid e1
    have t1 : (R.e == 0) = false := beq_eq_false_iff_ne.2 he
    clear e1 he
    go_enter Tryz.func266, Tryz.ntmps266
    go_wp2
    go_end0
    exact ⟨rfl, by rw [E1.out]; exact HR.out, Step.refl _ _ _⟩
set_option maxHeartbeats 400000 in
theorem ytake_any (h : RdAt 303 o c w p R) (n : Int) (hn0 : 0 ≤ n) (hn1 : n ≤ 9223372036854775807) :
    Calls Tryz.prog 267 #[.pointer (some ⟨p, 0, none⟩), .int .i64 n] w fun r w' => r = .returned (.tuple #[.string (R.takeS n), .bool (R.takeO n)]) ∧ RdAt 303 o c w' p (R.takeR n) ∧ Step o (only c) w o w' := by
  have HR := Lib.hid h
  have c0 : w.cell? ⟨p, 0, none⟩ = some (.string R.b) := h.1.cell 0
  have c1 : w.cell? ⟨p, 1, none⟩ = some (.int .i64 R.e) := h.1.cell 1
  have f0 := h.1.frozen 0
  have f1 := h.1.frozen 1
  have hp := h.1.lt
  have hbs := h.2.2
  clear h
  by_cases he : R.e = 0
  · by_cases hl : n ≤ R.b.size
    · have e1 : R.takeR n = { R with b := R.b.extract n.toNat R.b.size } := by unfold Rd.takeR; rw [if_neg (by simpa using he), if_pos hl]
      have e2 : R.takeS n = R.b.extract 0 n.toNat := by unfold Rd.takeS; rw [if_pos ⟨he, hl⟩]
      have E3 := Lib.hid (show R.takeO n = true from decide_eq_true ⟨he, hl⟩)
      have E1 := Lib.hid e1
      have E2 := Lib.hid e2
      clear e1 e2
      obtain ⟨k, rfl⟩ : ∃ k : Nat, n = k := ⟨n.toNat, by omega⟩
      have hk : k ≤ R.b.size := by omega
      rw [he] at c1
      clear he
      go_enter Tryz.func267, Tryz.ntmps267
      go_wp2_with fail
      go_ret2
      refine ⟨by rw [E2.out, E3.out, Int.toNat_natCast]; rfl, ?_, (Step.refl o (only c) w).setCell (p := ⟨p, 0, none⟩) HR.out.2.1 _⟩
      rw [E1.out, Int.toNat_natCast]
      exact HR.out.setB _ (by rw [ByteArray.size_extract]; omega)
    · have e1 : R.takeR n = R.fail 5 := by unfold Rd.takeR Rd.fail; rw [if_neg (by simpa using he), if_neg hl, if_pos he]
      have e2 : R.takeS n = ⟨#[]⟩ := by unfold Rd.takeS; rw [if_neg (fun h => hl h.2)]
      have E3 := Lib.hid (show R.takeO n = false from decide_eq_false (fun h => hl h.2))
      have E1 := Lib.hid e1
      have E2 := Lib.hid e2
      have hl' : (R.b.size : Int) < n := by omega
      rw [he] at c1
      clear e1 e2 he
      go_enter Tryz.func267, Tryz.ntmps267
      go_wp2_with fail
      refine (yfail_any HR.out 5).mono ?_
      rintro e w1 ⟨rfl, h1, s1⟩
      have H1 := Lib.hid h1
      have S1 := Lib.hid s1
      clear h1 s1
      go_wp2_with fail
      go_ret2
      exact ⟨by rw [E2.out, E3.out]; rfl, by rw [E1.out]; exact H1.out, S1.out⟩
  · have e1 : R.takeR n = R := by unfold Rd.takeR; rw [if_pos he]
    have e2 : R.takeS n = ⟨#[]⟩ := by unfold Rd.takeS; rw [if_neg (fun h => he h.1)]
    have E3 := Lib.hid (show R.takeO n = false from decide_eq_false (fun h => he h.1))
    have E1 := Lib.hid e1
    have E2 := Lib.hid e2
    have t1 : (R.e != 0) = true := bne_iff_ne.2 he
    clear e1 e2 he
    go_enter Tryz.func267, Tryz.ntmps267
    go_wp2_with fail
    go_ret2
    exact ⟨by rw [E2.out, E3.out]; rfl, by rw [E1.out]; exact HR.out, Step.refl _ _ _⟩
end
theorem lev_drop (S : ByteArray) {j : Nat} (h : j < S.size) : lev (S.data.toList.drop j) = S[j].toNat + 256 * lev (S.data.toList.drop (j + 1)) := by
  rw [List.drop_eq_getElem_cons (l := S.data.toList) (i := j) h]
  rfl
theorem lev_step (S : ByteArray) {j : Nat} (h : j < S.size) (h8 : S.size ≤ 8) :
    IntKind.u64.wrap (IntKind.u64.wrap (((lev (S.data.toList.drop (j + 1)) : Nat) : Int) * 256) + IntKind.u64.wrap (S[j].toNat : Int)) = ((lev (S.data.toList.drop j) : Nat) : Int) := by
  rw [lev_drop S h]
  have h1 := lev_lt (S.data.toList.drop (j + 1))
  have h2 : (S.data.toList.drop (j + 1)).length ≤ 7 := by rw [List.length_drop]; show S.size - (j + 1) ≤ 7; omega
  have h3 : 256 ^ (S.data.toList.drop (j + 1)).length ≤ 256 ^ 7 := Nat.pow_le_pow_right (by decide) h2
  have h4 := S[j].toNat_lt
  generalize lev (S.data.toList.drop (j + 1)) = a at *
  generalize S[j].toNat = b at *
  have h5 : a < 72057594037927936 := Nat.lt_of_lt_of_le h1 h3
  rw [IntKind.wrap_u64, IntKind.wrap_u64, IntKind.wrap_u64]
  omega
section
variable {o : Nat → Nat} {c : Nat} {w : World} {p : Nat} {R : Rd}
set_option maxRecDepth 100000 in
set_option maxHeartbeats 1000000 in
theorem ynum_any (h : RdAt 303 o c w p R) (n : Int) :
    Calls Tryz.prog 231 #[.pointer (some ⟨p, 0, none⟩), .int .i64 n] w fun r w' => r = .returned (.int .u64 (R.numV n)) ∧ RdAt 303 o c w' p (R.numR n) ∧ Step o (only c) w o w' := by
  have HR := Lib.hid h
  clear h
  by_cases hn : 1 ≤ n ∧ n ≤ 8
  · have E1 := Lib.hid (show R.numR n = R.takeR n by unfold Rd.numR; rw [if_pos hn])
    have E2 := Lib.hid (show R.numV n = lev (R.takeS n).data.toList by unfold Rd.numV; rw [if_pos hn])
    obtain ⟨m, rfl⟩ : ∃ m : Nat, n = m := ⟨n.toNat, by omega⟩
    obtain ⟨hn1, hn8⟩ := hn
    have h1 : ¬ (m : Int) < 1 := by omega
    have h8 : ¬ (8 : Int) < (m : Int) := by omega
    go_enter Tryz.func231, Tryz.ntmps231
    go_wp2_with fail
    refine (ytake_any HR.out m (by omega) (by omega)).mono ?_
    rintro e w2 ⟨rfl, h2, s2⟩
    have H2 := Lib.hid h2
    have S2 := Lib.hid s2
    clear h2 s2
    by_cases ho : R.e = 0 ∧ (m : Int) ≤ R.b.size
    · rw [show R.takeO m = true from decide_eq_true ho]
      have hsz : (R.takeS m).size = m := by
        unfold Rd.takeS
        rw [if_pos ho, ByteArray.size_extract, Int.toNat_natCast]
        omega
      generalize hS : R.takeS m = S at hsz E2
      clear hS ho
      have hm0 : (0 : Int) ≤ (m : Int) - 1 := by omega
      go_wp2_with fail
      go_loop [7, 8] (fun t7 t8 => ∃ k : Nat, k ≤ m ∧ t8 = .int .i64 ((k : Int) - 1) ∧ t7 = .int .u64 ((lev (S.data.toList.drop k) : Nat) : Int)) (fun _ t8 => (intOf t8 + 1).toNat)
      case atStart => exact ⟨m, Nat.le_refl _, by go_num, by rw [List.drop_of_length_le (by show S.size ≤ m; omega)]; rfl⟩
      case round =>
        obtain ⟨k, hk, rfl, rfl⟩ := hrel
        rcases k with _ | j
        · rw [show (((0 : Nat) : Int) - 1) = -1 by omega]
          go_wp2_with fail
          go_ret
          exact ⟨by rw [E2.out]; rfl, by rw [E1.out]; exact H2.out, S2.out⟩
        · rw [show (((j + 1 : Nat) : Int) - 1) = (j : Int) by omega]
          have hjs : j < S.size := by omega
          have hL := Lib.hid (lev_step S hjs (by omega))
          go_wp2_with fail
          go_round
          case rel => exact ⟨j, by omega, rfl, by rw [hL.out]⟩
          case measure => simp [intOf]
    · rw [show R.takeO m = false from decide_eq_false ho]
      have hS : R.takeS m = ⟨#[]⟩ := by unfold Rd.takeS; rw [if_neg ho]
      rw [hS] at E2 ⊢
      clear hS ho
      have hm0 : (0 : Int) ≤ (m : Int) - 1 := by omega
      go_wp2_with fail
      go_loop [7, 8] (fun t7 t8 => t7 = .int .u64 0 ∧ t8 = .int .i64 ((m : Int) - 1)) (fun _ _ => 0)
      case atStart => exact ⟨rfl, rfl⟩
      case round =>
        obtain ⟨rfl, rfl⟩ := hrel
        go_wp2_with fail
        go_ret
        exact ⟨by rw [E2.out]; rfl, by rw [E1.out]; exact H2.out, S2.out⟩
  · have E1 := Lib.hid (show R.numR n = R.fail 1 by unfold Rd.numR; rw [if_neg hn])
    have E2 := Lib.hid (show R.numV n = 0 by unfold Rd.numV; rw [if_neg hn])
    by_cases h1 : n < 1
    · clear hn
      go_enter Tryz.func231, Tryz.ntmps231
      go_wp2_with fail
      refine (yfail_any HR.out 1).mono ?_
      rintro e w2 ⟨rfl, h2, s2⟩
      have H2 := Lib.hid h2
      have S2 := Lib.hid s2
      clear h2 s2
      go_wp2_with fail
      go_ret
      exact ⟨by rw [E2.out]; rfl, by rw [E1.out]; exact H2.out, S2.out⟩
    · have h8 : 8 < n := by omega
      clear hn
      go_enter Tryz.func231, Tryz.ntmps231
      go_wp2_with fail
      refine (yfail_any HR.out 1).mono ?_
      rintro e w2 ⟨rfl, h2, s2⟩
      have H2 := Lib.hid h2
      have S2 := Lib.hid s2
      clear h2 s2
      go_wp2_with fail
      go_ret
      exact ⟨by rw [E2.out]; rfl, by rw [E1.out]; exact H2.out, S2.out⟩
end
end Go.Proofs.YtkhieofknglknaaGreatDoor

/- The document's seal taken off; its blocks read: Read, BlockAt, GetBlock, Load. -/
namespace Go.Proofs.YtkhieofknglknaaGreatDoor
open Go.RowKit

theorem below_drew_of2 {B : Nat} {w w2 : World} (h : Below w.drew.heap.size w.drew w2) (hB : B ≤ w.heap.size) : Below B w w2 := ((show Below w.heap.size w w2 from ⟨h.os, h.tape, h.output, h.size, h.block⟩)).mono hB
set_option maxRecDepth 100000 in
set_option maxHeartbeats 1000000 in
theorem xread_any (b : ByteArray) (hs : b.size ≤ 1000000000) (w : World) : Calls Tryz.prog 230 #[.string b] w fun e w' => e = .returned (.tuple #[.string (str (readL b.data.toList)), .int .i64 (readE b.data.toList)]) ∧ Below w.heap.size w w' := by
  have hlen : b.data.toList.length = b.size := rfl
  by_cases h4 : b.size < 4
  · have e1 : readE b.data.toList = 5 := if_pos (by omega)
    have e2 : str (readL b.data.toList) = ⟨#[]⟩ := by unfold readL; rw [if_neg (by rw [e1]; decide)]; rfl
    rw [e1, e2]
    have h4I : (b.size : Int) < 4 := by omega
    clear e1 e2 hlen h4
    go_enter Tryz.func230, Tryz.ntmps230
    go_wp2_with fail
    go_ret2
    exact ⟨rfl, Below.refl _ _⟩
  · have h4I : ¬ (b.size : Int) < 4 := by omega
    obtain ⟨m, hm⟩ : ∃ m, b.size = m + 4 := ⟨b.size - 4, by omega⟩
    have hmI : IntKind.i64.wrap ((b.size : Int) - 4) = (m : Int) := by rw [IntWalk.i64_in _ (by omega)]; omega
    have hmB : (m : Int) ≤ (b.size : Int) := by omega
    have hmN : (0 : Int) ≤ (m : Int) := by omega
    have HR := Lib.hid (show (b.extract 0 m).size ≤ maxLen by rw [ByteArray.size_extract]; unfold maxLen; omega)
    obtain ⟨v, hv⟩ : ∃ v, sumOf (b.extract 0 m).data.toList = v := ⟨_, rfl⟩
    have HV := Lib.hid hv
    have HSL := Lib.hid (show v < 4294967296 by rw [← hv]; exact sumOf_lt _)
    have e0 := read_first b m hm
    have HL := Lib.hid (read_last b m hm)
    rw [e0] at hv
    by_cases hq : b.data.toList.drop (b.data.toList.length - 4) = four (sumOf (b.data.toList.take (b.data.toList.length - 4)))
    · have e1 : readE b.data.toList = 0 := by unfold readE; rw [if_neg (by omega), if_pos hq]
      have e2 : str (readL b.data.toList) = b.extract 0 m := by unfold readL; rw [if_pos e1, ← e0, str_of]
      rw [e1, e2]
      have HQ := Lib.hid (show str (four v) = b.extract m b.size by rw [HL.out, hq, hv])
      clear e1 e2 hq h4 hv e0 hlen hm
      go_enter Tryz.func230, Tryz.ntmps230
      go_upto_region 4 with (fail)
      go_region_held3 (fun _ => True) (first | exact trivial)
        (first | (go_at_call 223; ((with_reducible refine (xval' (b.extract 0 m) v HV.out _ HR.out).mono ?_); rintro e w1 ⟨rfl, rfl⟩)) | (go_at_call 222; ((with_reducible refine (xfour_any v HSL.out _).mono ?_); rintro e w2 ⟨rfl, hb2⟩)))
      have HB2 := Lib.hid (below_drew_of2 hb2 (Nat.le_refl _))
      rw [HQ.out]
      clear hb2
      rw [beq_self_eq_true (b.extract m b.size).toList]
      go_wp2_with fail
      go_ret2
      exact ⟨rfl, HB2.out⟩
    · have e1 : readE b.data.toList = 6 := by unfold readE; rw [if_neg (by omega), if_neg hq]
      have e2 : str (readL b.data.toList) = ⟨#[]⟩ := by unfold readL; rw [if_neg (by rw [e1]; decide)]; rfl
      rw [e1, e2]
      have HQ := str_neq (show str (four v) ≠ b.extract m b.size from fun e => hq (by
        rw [HL.out, ← hv] at e
        exact (str_inj e).symm))
      have HQ2 := Lib.hid HQ
      clear e1 e2 hq h4 HQ hv e0 hlen hm
      go_enter Tryz.func230, Tryz.ntmps230
      go_upto_region 4 with (fail)
      go_region_held3 (fun _ => True) (first | exact trivial)
        (first | (go_at_call 223; ((with_reducible refine (xval' (b.extract 0 m) v HV.out _ HR.out).mono ?_); rintro e w1 ⟨rfl, rfl⟩)) | (go_at_call 222; ((with_reducible refine (xfour_any v HSL.out _).mono ?_); rintro e w2 ⟨rfl, hb2⟩)))
      have HB2 := Lib.hid (below_drew_of2 hb2 (Nat.le_refl _))
      have HQ := HQ2.out
      clear hb2
      generalize str (four v) = S at HQ ⊢
      generalize b.extract m b.size = T at HQ ⊢
      rw [HQ]
      clear HQ
      go_wp2_with fail
      go_ret2
      exact ⟨rfl, HB2.out⟩
set_option maxRecDepth 100000 in
set_option maxHeartbeats 1000000 in
theorem refblockat_any (b : Int) (w : World) (hb : -9223372036854775808 ≤ b ∧ b ≤ 9223372036854775807) : Calls Tryz.prog 155 #[.agg #[.int .i64 2, .int .i64 10, .int .i64 8, .int .i64 4, .int .i64 32], .int .i64 b] w fun e w' => e = .returned (.tuple #[.int .i64 (blockAt b).1, .int .i64 (blockAt b).2]) ∧ Below w.heap.size w w' := by
  have HB0 := Lib.hid ((Below.refl w.heap.size w).alloc (Nat.le_refl _) (.cells #[.int .i64 2, .int .i64 10, .int .i64 8, .int .i64 4, .int .i64 32] 34))
  have HX := Lib.hid (Blk.new w 34 #[.int .i64 2, .int .i64 10, .int .i64 8, .int .i64 4, .int .i64 32])
  unfold blockAt
  by_cases c : b < 0 ∨ 9 < b
  · rw [if_pos c]
    go_enter Tryz.func155, Tryz.ntmps155
    go_upto_region 1 with (fail)
    generalize w.alloc (.cells #[.int .i64 2, .int .i64 10, .int .i64 8, .int .i64 4, .int .i64 32] 34) = W at HB0 HX ⊢
    generalize w.heap.size = g at HX ⊢
    obtain ⟨x0, x1, x2, x3, x4⟩ := HX.out.five
    go_wp2_with fail
    refine (refvalid_any W).mono ?_
    rintro e w1 ⟨rfl, hb1⟩
    obtain ⟨y0, y1, y2, y3, y4⟩ := (HX.out.below_ hb1).five
    have HB1 := Lib.hid (HB0.out.trans (hb1.mono HB0.out.size))
    clear x0 x1 x2 x3 x4 hb1
    by_cases c0 : b < 0
    · go_wp2_with fail
      go_ret2
      exact ⟨rfl, HB1.out⟩
    · have c1 : 10 ≤ b := by omega
      go_wp2_with fail
      go_ret2
      exact ⟨rfl, HB1.out⟩
  · rw [if_neg c]
    have c0 : ¬ b < 0 := by omega
    have c1 : ¬ 10 ≤ b := by omega
    have e1 : IntKind.i64.wrap (2 * b) = 2 * b := IntWalk.i64_in _ (by omega)
    have e2 : IntKind.i64.wrap (17 + 2 * b) = 17 + 2 * b := IntWalk.i64_in _ (by omega)
    go_enter Tryz.func155, Tryz.ntmps155
    go_upto_region 1 with (fail)
    generalize w.alloc (.cells #[.int .i64 2, .int .i64 10, .int .i64 8, .int .i64 4, .int .i64 32] 34) = W at HB0 HX ⊢
    generalize w.heap.size = g at HX ⊢
    obtain ⟨x0, x1, x2, x3, x4⟩ := HX.out.five
    go_wp2_with fail
    refine (refvalid_any W).mono ?_
    rintro e w1 ⟨rfl, hb1⟩
    obtain ⟨y0, y1, y2, y3, y4⟩ := (HX.out.below_ hb1).five
    have HB1 := Lib.hid (HB0.out.trans (hb1.mono HB0.out.size))
    clear x0 x1 x2 x3 x4 hb1
    go_wp2_with fail
    go_ret2
    exact ⟨rfl, HB1.out⟩
end Go.Proofs.YtkhieofknglknaaGreatDoor

/- The document's blocks, read: GetBlock, Load (printed by gen/mkrefk.py). -/
namespace Go.Proofs.YtkhieofknglknaaGreatDoor
open Go.RowKit

/-- two readers under way, and a row for the result -/
structure Two (w W : World) (o : Nat → Nat) (g1 g2 : Nat) (X Y : Rd) : Prop where
  z : Blk W w.heap.size 72 #[.int .i64 0, .int .u64 0, .string ⟨#[]⟩]
  r1 : RdAt 303 o 1 W g1 X
  r2 : RdAt 303 o 2 W g2 Y
  oz : o w.heap.size = 0
  low : ∀ k, k < w.heap.size → o k = 0
  below : Below w.heap.size w W
theorem Two.next1 {w W W' : World} {o o' : Nat → Nat} {g1 g2 : Nat} {X Y X' : Rd} (h : Two w W o g1 g2 X Y) (hr : RdAt 303 o' 1 W' g1 X') (hs : Step o (only 1) W o' W') : Two w W' o' g1 g2 X' Y :=
  ⟨h.z.step hs (by rw [h.oz]; unfold only; omega), hr, h.r2.step hs (by unfold only; omega), (hs.old _ h.z.lt).trans h.oz, fun k hk => (hs.old k (Nat.lt_of_lt_of_le hk h.below.size)).trans (h.low k hk), h.below.trans ⟨hs.os, hs.tape, hs.output, hs.size, fun k hk => hs.block k (Nat.lt_of_lt_of_le hk h.below.size) (by rw [h.low k hk]; unfold only; omega)⟩⟩
theorem Two.next2 {w W W' : World} {o o' : Nat → Nat} {g1 g2 : Nat} {X Y Y' : Rd} (h : Two w W o g1 g2 X Y) (hr : RdAt 303 o' 2 W' g2 Y') (hs : Step o (only 2) W o' W') : Two w W' o' g1 g2 X Y' :=
  ⟨h.z.step hs (by rw [h.oz]; unfold only; omega), h.r1.step hs (by unfold only; omega), hr, (hs.old _ h.z.lt).trans h.oz, fun k hk => (hs.old k (Nat.lt_of_lt_of_le hk h.below.size)).trans (h.low k hk), h.below.trans ⟨hs.os, hs.tape, hs.output, hs.size, fun k hk => hs.block k (Nat.lt_of_lt_of_le hk h.below.size) (by rw [h.low k hk]; unfold only; omega)⟩⟩
theorem two_new (w W : World) (X Y : ByteArray) (hz : Blk W w.heap.size 72 #[.int .i64 0, .int .u64 0, .string ⟨#[]⟩]) (hb : Below w.heap.size w W) (hX : X.size ≤ 1000000000) (hY : Y.size ≤ 1000000000) :
    (∃ o, Two w ((W.drew.alloc (.cells #[.string X, .int .i64 0] 303)).alloc (.cells #[.string Y, .int .i64 0] 303)) o W.heap.size (W.heap.size + 1) ⟨X, 0⟩ ⟨Y, 0⟩) ∧
    (∃ o, Two w ((W.drew.alloc (.cells #[.string Y, .int .i64 0] 303)).alloc (.cells #[.string X, .int .i64 0] 303)) o (W.heap.size + 1) W.heap.size ⟨X, 0⟩ ⟨Y, 0⟩) := by
  have hq : w.heap.size < W.heap.size := hz.lt
  have key : ∀ (A B : ByteArray), Blk ((W.drew.alloc (.cells #[.string A, .int .i64 0] 303)).alloc (.cells #[.string B, .int .i64 0] 303)) W.heap.size 303 #[.string A, .int .i64 0] ∧ Blk ((W.drew.alloc (.cells #[.string A, .int .i64 0] 303)).alloc (.cells #[.string B, .int .i64 0] 303)) (W.heap.size + 1) 303 #[.string B, .int .i64 0] ∧ Blk ((W.drew.alloc (.cells #[.string A, .int .i64 0] 303)).alloc (.cells #[.string B, .int .i64 0] 303)) w.heap.size 72 #[.int .i64 0, .int .u64 0, .string ⟨#[]⟩] ∧ Below w.heap.size w ((W.drew.alloc (.cells #[.string A, .int .i64 0] 303)).alloc (.cells #[.string B, .int .i64 0] 303)) := by
    intro A B
    have e : (W.drew.alloc (.cells #[.string A, .int .i64 0] 303)).heap.size = W.heap.size + 1 := by
      show (W.alloc _).heap.size = _
      simp
    refine ⟨(Blk.new W.drew 303 #[.string A, .int .i64 0]).alloc _, ?_, ((hz.drew).alloc _).alloc _, ((below_drew' hb).alloc (by exact hb.size) _).alloc (by rw [e]; have := hb.size; omega) _⟩
    have := Blk.new (W.drew.alloc (.cells #[.string A, .int .i64 0] 303)) 303 #[.string B, .int .i64 0]
    rwa [e] at this
  refine ⟨⟨fun k => if k = W.heap.size then 1 else if k = W.heap.size + 1 then 2 else 0, ?_⟩, ⟨fun k => if k = W.heap.size + 1 then 1 else if k = W.heap.size then 2 else 0, ?_⟩⟩
  · obtain ⟨a, b, c, d⟩ := key X Y
    exact ⟨c, ⟨a, by simp, hX⟩, ⟨b, by simp, hY⟩, by show (if _ then _ else _) = 0; rw [if_neg (by omega), if_neg (by omega)], fun k hk => by show (if _ then _ else _) = 0; rw [if_neg (by omega), if_neg (by omega)], d⟩
  · obtain ⟨a, b, c, d⟩ := key Y X
    exact ⟨c, ⟨b, by simp, hX⟩, ⟨a, by simp, hY⟩, by show (if _ then _ else _) = 0; rw [if_neg (by omega), if_neg (by omega)], fun k hk => by show (if _ then _ else _) = 0; rw [if_neg (by omega), if_neg (by omega)], d⟩
set_option maxRecDepth 100000 in
set_option maxHeartbeats 8000000 in
theorem refgetblock_any (block : Int) (b : ByteArray) (w : World) (_hb : b.size ≤ 1000000000) :
    Calls Tryz.prog 156 #[.int .i64 block, .string b] w fun e w' => e = .returned (.tuple #[(getB block b).1.agg, .int .i64 (getB block b).2]) ∧ Below w.heap.size w w' := by
  have HB0 := Lib.hid ((Below.refl w.heap.size w).alloc (Nat.le_refl _) (.cells #[.int .i64 0, .int .u64 0, .string ⟨#[]⟩] 72))
  have HZ0 := Lib.hid (Blk.new w 72 #[.int .i64 0, .int .u64 0, .string ⟨#[]⟩])
  have fin : ∀ (W : World) (x : Im) (e : Int), Blk W w.heap.size 72 #[.int .i64 x.block, .int .u64 x.ver, .string x.data] → Below w.heap.size w W → getB block b = (x, e) →
      Blk W w.heap.size 72 #[.int .i64 x.block, .int .u64 x.ver, .string x.data] ∧ Below w.heap.size w W ∧ Ending.returned (.tuple #[.agg #[.int .i64 x.block, .int .u64 x.ver, .string x.data], .int .i64 e]) = .returned (.tuple #[(getB block b).1.agg, .int .i64 (getB block b).2]) := fun W x e h1 h2 h3 => ⟨h1, h2, by rw [h3]; rfl⟩
  have FIN := Lib.hid fin
  clear fin
  by_cases hs : b.size = 128
  · have hsI : ((b.size : Int) != 128) = false := by simp; omega
    obtain ⟨W, hW⟩ : ∃ W, w.alloc (.cells #[.int .i64 0, .int .u64 0, .string ⟨#[]⟩] 72) = W := ⟨_, rfl⟩
    rw [hW] at HB0 HZ0
    obtain ⟨w', h1, _, h3, h4⟩ := mkbytes W 128 (by omega)
    have h1b : (Instr.makeSlice 164 (.int .i64 128) (.int .i64 128)).run Tryz.prog W = _ := h1
    clear h1
    have HB1 := Lib.hid (HB0.out.trans (h3.mono HB0.out.size))
    have HZ1 := Lib.hid (HZ0.out.below_ h3)
    by_cases hz : b = str (zer 128)
    · have HG := Lib.hid (show getB block b = (⟨block, 0, b.extract 0 96⟩, 0) by
        have e : b.extract 0 96 = str (zer 96) := by rw [hz, extract_str, List.drop_zero]; rfl
        unfold getB
        rw [if_neg (by omega), if_pos hz, e])
      rw [← hz] at h4
      have t1 : (b.toList == b.toList) = true := beq_self_eq_true _
      have b96 : (96 : Int) ≤ (b.size : Int) := by omega
      have y0 := HZ1.out.cell 0
      have y1 := HZ1.out.cell 1
      have y2 := HZ1.out.cell 2
      have f0 := HZ1.out.frozen 0
      have f1 := HZ1.out.frozen 1
      have f2 := HZ1.out.frozen 2
      simp at y0 y1 y2
      clear hz hs h3
      go_enter Tryz.func156, Tryz.ntmps156
      go_upto_region 1 with (fail)
      clear hW
      go_wp2_with fail
      obtain ⟨hz3, hb3, he⟩ := FIN.out _ ⟨block, 0, b.extract 0 96⟩ 0 (HZ1.out.put3 (.int .i64 block) (.int .u64 0) (.string (b.extract 0 96))) (below_put3 HB1.out (Nat.le_refl _) _ _ _) HG.out
      rw [← he]
      clear y0 y1 y2 f0 f1 f2 h1b h4
      generalize (((w').setCell ⟨w.heap.size, 0, none⟩ (.int .i64 block)).setCell ⟨w.heap.size, 1, none⟩ (.int .u64 0)).setCell ⟨w.heap.size, 2, none⟩ (.string (b.extract 0 96)) = WE at hz3 hb3 ⊢
      obtain ⟨q0, q1, q2⟩ := hz3.three
      exact bodyPost_ret (v := .tuple #[.agg #[.int .i64 block, .int .u64 0, .string (b.extract 0 96)], .int .i64 0]) (by simp [results, Tryz.results156, go_sem, q0, q1, q2]) rfl ⟨rfl, hb3⟩
    · have t1 := str_neq hz
      obtain ⟨Z, hZ⟩ : ∃ Z, str (zer 128) = Z := ⟨_, rfl⟩
      rw [hZ] at h4 t1
      have HS := Lib.hid hs
      have e2 : b.extract 64 128 = b.extract 64 b.size := by rw [hs]
      obtain ⟨B0, hB0⟩ : ∃ B, b.extract 0 64 = B := ⟨_, rfl⟩
      obtain ⟨B1, hB1⟩ : ∃ B, b.extract 64 b.size = B := ⟨_, rfl⟩
      have s0 : B0.size = 64 := by rw [← hB0, ByteArray.size_extract]; omega
      have s1 : B1.size = 64 := by rw [← hB1, ByteArray.size_extract]; omega
      have hG0 : secG b 0 = if readE B0.data.toList = 0 then (secI (readL B0.data.toList), 0) else (Im.zero, readE B0.data.toList) := by unfold secG; rw [show 0 * 64 = 0 from rfl, show (0 + 1) * 64 = 64 from rfl, hB0]
      have hG1 : secG b 1 = if readE B1.data.toList = 0 then (secI (readL B1.data.toList), 0) else (Im.zero, readE B1.data.toList) := by unfold secG; rw [show 1 * 64 = 64 from rfl, show (1 + 1) * 64 = 128 from rfl, e2, hB1]
      have HG : Hid (getB block b = if (secG b 0).2 ≠ 0 then (Im.zero, (secG b 0).2) else if (secG b 1).2 ≠ 0 then (Im.zero, (secG b 1).2) else if (secG b 0).1.block ≠ block ∨ (secG b 1).1.block ≠ block ∨ 4096 ≤ block then (Im.zero, 4) else if (secG b 0).1.ver ≠ (secG b 1).1.ver then (Im.zero, 6) else (⟨block, (secG b 0).1.ver, (secG b 0).1.data ++ (secG b 1).1.data⟩, 0)) := Lib.hid (by unfold getB; rw [if_neg (by omega), if_neg hz])
      have HG0 := Lib.hid hG0
      have HG1 := Lib.hid hG1
      have HS0 := Lib.hid s0
      have HS1 := Lib.hid s1
      have b64 : (64 : Int) ≤ (b.size : Int) := by omega
      have r0 : Hid (readE B0.data.toList = 0 → (readL B0.data.toList).length = 60) := Lib.hid (fun he => by rw [readL_len he]; show B0.size - 4 = 60; omega)
      have r1 : Hid (readE B1.data.toList = 0 → (readL B1.data.toList).length = 60) := Lib.hid (fun he => by rw [readL_len he]; show B1.size - 4 = 60; omega)
      clear hz hs hZ hG0 hG1 h3 s0 s1
      go_enter Tryz.func156, Tryz.ntmps156
      go_upto_region 1 with (fail)
      clear hW
      go_wp2_with fail
      clear h1b h4 t1
      refine (xread_any B0 (by have := HS0.out; omega) w').mono ?_
      rintro e w2 ⟨rfl, hb2⟩
      have HB2 := Lib.hid (HB1.out.trans (hb2.mono HB1.out.size))
      have HZ2 := Lib.hid (HZ1.out.below_ hb2)
      clear hb2
      obtain ⟨E0, hE0⟩ : ∃ E, readE B0.data.toList = E := ⟨_, rfl⟩
      rw [hE0] at HG0 r0 ⊢
      by_cases h0 : E0 = 0
      · subst h0
        obtain ⟨L0, hL0⟩ : ∃ L, readL B0.data.toList = L := ⟨_, rfl⟩
        rw [hL0] at HG0 r0 ⊢
        rw [if_pos rfl] at HG0
        have hlen0 := r0.out rfl
        go_wp2_with fail
        refine (xread_any B1 (by have := HS1.out; omega) w2).mono ?_
        rintro e w3 ⟨rfl, hb3⟩
        have HB3 := Lib.hid (HB2.out.trans (hb3.mono HB2.out.size))
        have HZ3 := Lib.hid (HZ2.out.below_ hb3)
        clear hb3
        obtain ⟨E1, hE1⟩ : ∃ E, readE B1.data.toList = E := ⟨_, rfl⟩
        rw [hE1] at HG1 r1 ⊢
        by_cases h1 : E1 = 0
        · subst h1
          obtain ⟨L1, hL1⟩ : ∃ L, readL B1.data.toList = L := ⟨_, rfl⟩
          rw [hL1] at HG1 r1 ⊢
          rw [if_pos rfl] at HG1
          have hlen1 := r1.out rfl
          have z0 : (48 : Int) ≤ ((str L0).size : Int) := by rw [str_size]; omega
          have z1 : (48 : Int) ≤ ((str L1).size : Int) := by rw [str_size]; omega
          rw [HG0.out, HG1.out] at HG
          have HX0 := Lib.hid (rest_str L0 48)
          have HX1 := Lib.hid (rest_str L1 48)
          have HY0 := Lib.hid (show (str L0).extract 0 48 = str (L0.take 48) by rw [extract_str, List.drop_zero])
          have HY1 := Lib.hid (show (str L1).extract 0 48 = str (L1.take 48) by rw [extract_str, List.drop_zero])
          have HN0 := Lib.hid (show (str (L0.drop 48)).size ≤ 1000000000 by rw [str_size, List.length_drop]; omega)
          have HN1 := Lib.hid (show (str (L1.drop 48)).size ≤ 1000000000 by rw [str_size, List.length_drop]; omega)
          have HLL := Lib.hid (And.intro hlen0 hlen1)
          clear hL0 hL1 hE0 hE1 hlen0 hlen1 r0 r1 b64
          have HT := Lib.hid (two_new w w3 (str (L0.drop 48)) (str (L1.drop 48)) HZ3.out HB3.out HN0.out HN1.out)
          go_upto_region 11 with (fail)
          go_cut [9, 10] from 47 to 54 (fun t9 t10 wx => ∃ (g1 g2 : Nat) (o : Nat → Nat), t9 = .pointer (some ⟨g1, 0, none⟩) ∧ t10 = .pointer (some ⟨g2, 0, none⟩) ∧ Two w wx o g1 g2 ⟨str (L0.drop 48), 0⟩ ⟨str (L1.drop 48), 0⟩)
          case first =>
            go_region
            · go_wp2_with fail
              go_meet
              case rel => exact ⟨_, _, HT.out.1.choose, rfl, rfl, by rw [HX0.out, HX1.out]; exact HT.out.1.choose_spec⟩
            · go_wp2_with fail
              go_meet
              case rel => exact ⟨_, _, HT.out.2.choose, rfl, rfl, by rw [HX0.out, HX1.out]; exact HT.out.2.choose_spec⟩
          case rest =>
            obtain ⟨g1, g2, o, rfl, rfl, ht⟩ := hcut
            have H0 := Lib.hid ht
            clear ht HT
            obtain ⟨a, ha⟩ : ∃ a, a = (⟨str (L0.drop 48), 0⟩ : Rd).numV 4 := ⟨_, rfl⟩
            obtain ⟨a1, ha1⟩ : ∃ a, a = (⟨str (L1.drop 48), 0⟩ : Rd).numV 4 := ⟨_, rfl⟩
            obtain ⟨v, hv⟩ : ∃ v, v = ((⟨str (L0.drop 48), 0⟩ : Rd).numR 4).numV 8 := ⟨_, rfl⟩
            obtain ⟨v1, hv1⟩ : ∃ v, v = ((⟨str (L1.drop 48), 0⟩ : Rd).numR 4).numV 8 := ⟨_, rfl⟩
            have hal : a < 4294967296 := by rw [ha]; exact numV_lt _ 4 (by omega)
            have hal1 : a1 < 4294967296 := by rw [ha1]; exact numV_lt _ 4 (by omega)
            have hwa := wrap_small hal
            have hwa1 := wrap_small hal1
            have HA := Lib.hid ha
            have HA1 := Lib.hid ha1
            have HV := Lib.hid hv
            have HV1 := Lib.hid hv1
            have HGG : Hid (getB block b = if (a : Int) ≠ block ∨ (a1 : Int) ≠ block ∨ 4096 ≤ block then (Im.zero, 4) else if v ≠ v1 then (Im.zero, 6) else (⟨block, v, (str L0).extract 0 48 ++ (str L1).extract 0 48⟩, 0)) := Lib.hid (by
              rw [HG.out, if_neg (by simp), if_neg (by simp)]
              unfold secI
              simp only [← ha, ← ha1, ← hv, ← hv1, HY0.out, HY1.out])
            clear ha ha1 hv hv1 hal hal1 HG HG0 HG1
            go_wp2_with fail
            refine (ynum_any H0.out.r1 4).mono ?_
            rintro e w4 ⟨rfl, hr, hs⟩
            have H1 := Lib.hid (H0.out.next1 hr hs)
            clear hr hs
            rw [← HA.out]
            go_wp2_with fail
            refine (ynum_any H1.out.r2 4).mono ?_
            rintro e w5 ⟨rfl, hr, hs⟩
            have H2 := Lib.hid (H1.out.next2 hr hs)
            clear hr hs
            rw [← HA1.out]
            go_wp2_with fail
            refine (ynum_any H2.out.r1 8).mono ?_
            rintro e w6 ⟨rfl, hr, hs⟩
            have H3 := Lib.hid (H2.out.next1 hr hs)
            clear hr hs
            rw [← HV.out]
            go_wp2_with fail
            refine (ynum_any H3.out.r2 8).mono ?_
            rintro e w7 ⟨rfl, hr, hs⟩
            have H4 := Lib.hid (H3.out.next2 hr hs)
            clear hr hs
            rw [← HV1.out]
            clear hwa hwa1
            have y0 := H4.out.z.cell 0
            have y1 := H4.out.z.cell 1
            have y2 := H4.out.z.cell 2
            have f0 := H4.out.z.frozen 0
            have f1 := H4.out.z.frozen 1
            have f2 := H4.out.z.frozen 2
            simp at y0 y1 y2
            by_cases c0 : (a : Int) = block
            · by_cases c1 : (a1 : Int) = block
              · by_cases c2 : 4096 ≤ block
                · have t0 : ((a : Int) != block) = false := by simp [c0]
                  have t1 : ((a1 : Int) != block) = false := by simp [c1]
                  have HE := Lib.hid (show getB block b = (Im.zero, 4) by rw [HGG.out, if_pos (.inr (.inr c2))])
                  clear c0 c1
                  go_wp2_with fail
                  obtain ⟨hz3, hb3, he⟩ := FIN.out _ Im.zero 4 (H4.out.z.put3 (.int .i64 0) (.int .u64 0) (.string ⟨#[]⟩)) (below_put3 H4.out.below (Nat.le_refl _) _ _ _) HE.out
                  rw [← he]
                  clear y0 y1 y2 f0 f1 f2
                  generalize (((w7).setCell ⟨w.heap.size, 0, none⟩ (.int .i64 0)).setCell ⟨w.heap.size, 1, none⟩ (.int .u64 0)).setCell ⟨w.heap.size, 2, none⟩ (.string ⟨#[]⟩) = WE at hz3 hb3 ⊢
                  obtain ⟨q0, q1, q2⟩ := hz3.three
                  exact bodyPost_ret (v := .tuple #[.agg #[.int .i64 0, .int .u64 0, .string ⟨#[]⟩], .int .i64 4]) (by simp [results, Tryz.results156, go_sem, q0, q1, q2, Im.zero]) rfl ⟨rfl, hb3⟩
                · have hno : ¬ ((a : Int) ≠ block ∨ (a1 : Int) ≠ block ∨ 4096 ≤ block) := fun h => by omega
                  have t0 : ((a : Int) != block) = false := by simp [c0]
                  have t1 : ((a1 : Int) != block) = false := by simp [c1]
                  by_cases c3 : v = v1
                  · have t3 : ((v : Int) != (v1 : Int)) = false := by simp [c3]
                    have HE := Lib.hid (show getB block b = (⟨block, v, (str L0).extract 0 48 ++ (str L1).extract 0 48⟩, 0) by rw [HGG.out, if_neg hno, if_neg (by simp [c3])])
                    have hcat : ((str L0).extract 0 48).size + ((str L1).extract 0 48).size ≤ 9223372036854775807 := by rw [ByteArray.size_extract, ByteArray.size_extract]; omega
                    obtain ⟨F0, hF0⟩ : ∃ F, (str L0).extract 0 48 = F := ⟨_, rfl⟩
                    obtain ⟨F1, hF1⟩ : ∃ F, (str L1).extract 0 48 = F := ⟨_, rfl⟩
                    rw [hF0, hF1] at hcat HE
                    clear c0 c1 c3 hno
                    go_upto_region 18 with (fail)
                    go_region
                    go_wp2_with fail
                    obtain ⟨hz3, hb3, he⟩ := FIN.out _ ⟨block, v, F0 ++ F1⟩ 0 ((H4.out.z.put3 (.int .i64 block) (.int .u64 v) (.string (F0 ++ F1))).drew) (below_drew' (below_put3 H4.out.below (Nat.le_refl _) _ _ _)) HE.out
                    rw [← he]
                    clear y0 y1 y2 f0 f1 f2
                    generalize (((w7.setCell ⟨w.heap.size, 0, none⟩ (.int .i64 block)).setCell ⟨w.heap.size, 1, none⟩ (.int .u64 v)).setCell ⟨w.heap.size, 2, none⟩ (.string (F0 ++ F1))).drew = WE at hz3 hb3 ⊢
                    obtain ⟨q0, q1, q2⟩ := hz3.three
                    exact bodyPost_ret (v := .tuple #[.agg #[.int .i64 block, .int .u64 v, .string (F0 ++ F1)], .int .i64 0]) (by simp [results, Tryz.results156, go_sem, q0, q1, q2]) rfl ⟨rfl, hb3⟩
                  · have t3 : ((v : Int) != (v1 : Int)) = true := by simp; omega
                    have HE := Lib.hid (show getB block b = (Im.zero, 6) by rw [HGG.out, if_neg hno, if_pos c3])
                    clear c0 c1 c3 hno
                    go_wp2_with fail
                    obtain ⟨hz3, hb3, he⟩ := FIN.out _ Im.zero 6 (H4.out.z.put3 (.int .i64 0) (.int .u64 0) (.string ⟨#[]⟩)) (below_put3 H4.out.below (Nat.le_refl _) _ _ _) HE.out
                    rw [← he]
                    clear y0 y1 y2 f0 f1 f2
                    generalize (((w7).setCell ⟨w.heap.size, 0, none⟩ (.int .i64 0)).setCell ⟨w.heap.size, 1, none⟩ (.int .u64 0)).setCell ⟨w.heap.size, 2, none⟩ (.string ⟨#[]⟩) = WE at hz3 hb3 ⊢
                    obtain ⟨q0, q1, q2⟩ := hz3.three
                    exact bodyPost_ret (v := .tuple #[.agg #[.int .i64 0, .int .u64 0, .string ⟨#[]⟩], .int .i64 6]) (by simp [results, Tryz.results156, go_sem, q0, q1, q2, Im.zero]) rfl ⟨rfl, hb3⟩
              · have t0 : ((a : Int) != block) = false := by simp [c0]
                have t1 : ((a1 : Int) != block) = true := by simp [c1]
                have HE := Lib.hid (show getB block b = (Im.zero, 4) by rw [HGG.out, if_pos (.inr (.inl c1))])
                clear c0 c1
                go_wp2_with fail
                obtain ⟨hz3, hb3, he⟩ := FIN.out _ Im.zero 4 (H4.out.z.put3 (.int .i64 0) (.int .u64 0) (.string ⟨#[]⟩)) (below_put3 H4.out.below (Nat.le_refl _) _ _ _) HE.out
                rw [← he]
                clear y0 y1 y2 f0 f1 f2
                generalize (((w7).setCell ⟨w.heap.size, 0, none⟩ (.int .i64 0)).setCell ⟨w.heap.size, 1, none⟩ (.int .u64 0)).setCell ⟨w.heap.size, 2, none⟩ (.string ⟨#[]⟩) = WE at hz3 hb3 ⊢
                obtain ⟨q0, q1, q2⟩ := hz3.three
                exact bodyPost_ret (v := .tuple #[.agg #[.int .i64 0, .int .u64 0, .string ⟨#[]⟩], .int .i64 4]) (by simp [results, Tryz.results156, go_sem, q0, q1, q2, Im.zero]) rfl ⟨rfl, hb3⟩
            · have t0 : ((a : Int) != block) = true := by simp [c0]
              have HE := Lib.hid (show getB block b = (Im.zero, 4) by rw [HGG.out, if_pos (.inl c0)])
              clear c0
              go_wp2_with fail
              obtain ⟨hz3, hb3, he⟩ := FIN.out _ Im.zero 4 (H4.out.z.put3 (.int .i64 0) (.int .u64 0) (.string ⟨#[]⟩)) (below_put3 H4.out.below (Nat.le_refl _) _ _ _) HE.out
              rw [← he]
              clear y0 y1 y2 f0 f1 f2
              generalize (((w7).setCell ⟨w.heap.size, 0, none⟩ (.int .i64 0)).setCell ⟨w.heap.size, 1, none⟩ (.int .u64 0)).setCell ⟨w.heap.size, 2, none⟩ (.string ⟨#[]⟩) = WE at hz3 hb3 ⊢
              obtain ⟨q0, q1, q2⟩ := hz3.three
              exact bodyPost_ret (v := .tuple #[.agg #[.int .i64 0, .int .u64 0, .string ⟨#[]⟩], .int .i64 4]) (by simp [results, Tryz.results156, go_sem, q0, q1, q2, Im.zero]) rfl ⟨rfl, hb3⟩
        · have t1 : (E1 != 0) = true := bne_iff_ne.2 h1
          have HE := Lib.hid (show getB block b = (Im.zero, E1) by rw [HG.out, HG0.out, HG1.out, if_neg h1, if_neg (by simp), if_pos h1])
          have h2 : str (readL B1.data.toList) = ⟨#[]⟩ := by unfold readL; rw [if_neg (by rw [hE1]; exact h1)]; rfl
          rw [h2]
          clear h1 h2
          have y0 := HZ3.out.cell 0
          have y1 := HZ3.out.cell 1
          have y2 := HZ3.out.cell 2
          have f0 := HZ3.out.frozen 0
          have f1 := HZ3.out.frozen 1
          have f2 := HZ3.out.frozen 2
          simp at y0 y1 y2
          go_wp2_with fail
          obtain ⟨hz3, hb3, he⟩ := FIN.out _ Im.zero E1 (HZ3.out.put3 (.int .i64 0) (.int .u64 0) (.string ⟨#[]⟩)) (below_put3 HB3.out (Nat.le_refl _) _ _ _) HE.out
          rw [← he]
          clear y0 y1 y2 f0 f1 f2
          generalize (((w3).setCell ⟨w.heap.size, 0, none⟩ (.int .i64 0)).setCell ⟨w.heap.size, 1, none⟩ (.int .u64 0)).setCell ⟨w.heap.size, 2, none⟩ (.string ⟨#[]⟩) = WE at hz3 hb3 ⊢
          obtain ⟨q0, q1, q2⟩ := hz3.three
          exact bodyPost_ret (v := .tuple #[.agg #[.int .i64 0, .int .u64 0, .string ⟨#[]⟩], .int .i64 E1]) (by simp [results, Tryz.results156, go_sem, q0, q1, q2, Im.zero]) rfl ⟨rfl, hb3⟩
      · have t0 : (E0 != 0) = true := bne_iff_ne.2 h0
        have HE := Lib.hid (show getB block b = (Im.zero, E0) by rw [HG.out, HG0.out, if_neg h0, if_pos h0])
        have h2 : str (readL B0.data.toList) = ⟨#[]⟩ := by unfold readL; rw [if_neg (by rw [hE0]; exact h0)]; rfl
        rw [h2]
        clear h0 h2
        have y0 := HZ2.out.cell 0
        have y1 := HZ2.out.cell 1
        have y2 := HZ2.out.cell 2
        have f0 := HZ2.out.frozen 0
        have f1 := HZ2.out.frozen 1
        have f2 := HZ2.out.frozen 2
        simp at y0 y1 y2
        go_wp2_with fail
        obtain ⟨hz3, hb3, he⟩ := FIN.out _ Im.zero E0 (HZ2.out.put3 (.int .i64 0) (.int .u64 0) (.string ⟨#[]⟩)) (below_put3 HB2.out (Nat.le_refl _) _ _ _) HE.out
        rw [← he]
        clear y0 y1 y2 f0 f1 f2
        generalize (((w2).setCell ⟨w.heap.size, 0, none⟩ (.int .i64 0)).setCell ⟨w.heap.size, 1, none⟩ (.int .u64 0)).setCell ⟨w.heap.size, 2, none⟩ (.string ⟨#[]⟩) = WE at hz3 hb3 ⊢
        obtain ⟨q0, q1, q2⟩ := hz3.three
        exact bodyPost_ret (v := .tuple #[.agg #[.int .i64 0, .int .u64 0, .string ⟨#[]⟩], .int .i64 E0]) (by simp [results, Tryz.results156, go_sem, q0, q1, q2, Im.zero]) rfl ⟨rfl, hb3⟩
  · have hsI : ((b.size : Int) != 128) = true := by simp; omega
    have HG := Lib.hid (show getB block b = (Im.zero, 5) by unfold getB; rw [if_pos hs])
    obtain ⟨W, hW⟩ : ∃ W, w.alloc (.cells #[.int .i64 0, .int .u64 0, .string ⟨#[]⟩] 72) = W := ⟨_, rfl⟩
    rw [hW] at HB0 HZ0
    have y0 := HZ0.out.cell 0
    have y1 := HZ0.out.cell 1
    have y2 := HZ0.out.cell 2
    have f0 := HZ0.out.frozen 0
    have f1 := HZ0.out.frozen 1
    have f2 := HZ0.out.frozen 2
    simp at y0 y1 y2
    clear hs
    go_enter Tryz.func156, Tryz.ntmps156
    go_upto_region 1 with (fail)
    clear hW
    go_wp2_with fail
    obtain ⟨hz3, hb3, he⟩ := FIN.out _ Im.zero 5 (HZ0.out.put3 (.int .i64 0) (.int .u64 0) (.string ⟨#[]⟩)) (below_put3 HB0.out (Nat.le_refl _) _ _ _) HG.out
    rw [← he]
    clear y0 y1 y2 f0 f1 f2
    generalize ((W.setCell ⟨w.heap.size, 0, none⟩ (.int .i64 0)).setCell ⟨w.heap.size, 1, none⟩ (.int .u64 0)).setCell ⟨w.heap.size, 2, none⟩ (.string ⟨#[]⟩) = WE at hz3 hb3 ⊢
    obtain ⟨q0, q1, q2⟩ := hz3.three
    exact bodyPost_ret (v := .tuple #[.agg #[.int .i64 0, .int .u64 0, .string ⟨#[]⟩], .int .i64 5]) (by simp [results, Tryz.results156, go_sem, q0, q1, q2, Im.zero]) rfl ⟨rfl, hb3⟩
end Go.Proofs.YtkhieofknglknaaGreatDoor
