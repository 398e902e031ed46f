/- MsgBack: the law's walk: what is put is got; bytes that are cut are refused. -/
import Derived.Test.YtoploimpfhnanaaDoorMsgD
namespace Go.Proofs.YtoploimpfhnanaaDoor
open Go.RowKit

theorem plain_lit (m : Mg) (w : World) (A : Option Addr) (ca : Nat) :
    Calls Tryd.prog 13 #[.agg #[.int .i64 m.kind, .int .i64 m.id, .int .i64 m.node, .int .i64 m.gen, .int .i64 m.stamp, .int .u64 m.epoch, .int .i64 m.err, .slice A m.locks.length ca]] w fun e w' => e = .returned (.agg #[.int .i64 m.kind, .int .i64 m.id, .int .i64 m.node, .int .i64 m.gen, .int .i64 m.stamp, .int .u64 m.epoch, .int .i64 m.err, .slice A m.locks.length ca]) ∧ Below w.heap.size w w' := plain_any m w A ca
theorem same_lit (m : Mg) (w : World) (A A2 : Option Addr) (ca cap2 : Nat) (ha : Reads w 3 A2 m.locks.length (lkcells m.locks)) (hb : Reads w 3 A m.locks.length (lkcells m.locks)) (hl : m.locks.length ≤ 1000000000) :
    Calls Tryd.prog 12 #[.agg #[.int .i64 m.kind, .int .i64 m.id, .int .i64 m.node, .int .i64 m.gen, .int .i64 m.stamp, .int .u64 m.epoch, .int .i64 m.err, .slice A2 m.locks.length cap2], .agg #[.int .i64 m.kind, .int .i64 m.id, .int .i64 m.node, .int .i64 m.gen, .int .i64 m.stamp, .int .u64 m.epoch, .int .i64 m.err, .slice A m.locks.length ca]] w fun e w' => e = .returned (.bool true) ∧ Below w.heap.size w w' := same_yes m w A2 A cap2 ca ha hb hl
set_option maxRecDepth 100000 in
set_option maxHeartbeats 4000000 in
theorem msgBack_any (m : Mg) (cut : Int) (w : World) (A : Option Addr) (ca : Nat) (ha : Reads w 3 A m.locks.length (lkcells m.locks)) (hl : m.locks.length ≤ maxLen) (he : m.epoch < 18446744073709551616) (hc : i64' cut) :
    Calls Tryd.prog 3 #[m.agg A ca, .int .i64 cut] w fun e w' => e = .returned (.bool true) ∧ Below w.heap.size w w' := by
  have HA := Lib.hid ha
  have HL := Lib.hid hl
  have HE := Lib.hid he
  unfold maxLen at hl
  obtain ⟨hc1, hc2⟩ := hc
  clear ha he
  have hb0 := (Below.refl w.heap.size w).alloc (Nat.le_refl _) (.cells #[.int .i64 m.kind, .int .i64 m.id, .int .i64 m.node, .int .i64 m.gen, .int .i64 m.stamp, .int .u64 m.epoch, .int .i64 m.err, .slice A m.locks.length ca] 26)
  have HB0 := Lib.hid hb0
  clear hb0
  have hagg : m.agg A ca = .agg #[.int .i64 m.kind, .int .i64 m.id, .int .i64 m.node, .int .i64 m.gen, .int .i64 m.stamp, .int .u64 m.epoch, .int .i64 m.err, .slice A m.locks.length ca] := rfl
  have HAG := Lib.hid hagg
  rw [hagg]
  clear hagg
  by_cases h230 : 230 < m.locks.length
  · have h230I : (230 : Int) < (m.locks.length : Int) := by omega
    go_enter Tryd.func3, Tryd.ntmps3
    go_wp2_with fail
    refine (alive20_any _).mono ?_
    rintro e w1 ⟨rfl, hb1⟩
    go_wp2_with fail
    go_ret
    exact ⟨rfl, HB0.out.trans (hb1.mono HB0.out.size)⟩
  · have h230I : ¬ (230 : Int) < (m.locks.length : Int) := by omega
    by_cases hok : m.ok
    · have p1 : m.putS = str m.enc := if_pos hok
      have p2 : m.putE = 0 := if_pos hok
      obtain ⟨g1, g2⟩ := got_put hok HE.out
      have P1 := Lib.hid p1
      have P2 := Lib.hid p2
      have G1 := Lib.hid g1
      have G2 := Lib.hid g2
      have hel := enc_len m
      have h200 := hok.1.2.2
      have hsz : (str m.enc).size = m.enc.length := str_size _
      have HSZ := Lib.hid (show (str m.enc).size ≤ 1000000000 by omega)
      have hsm : (str m.enc).size ≤ 2000 := by omega
      have HCUT := Lib.hid (show ∀ k, k < (str m.enc).size → gotE ((str m.enc).extract 0 k) ≠ 0 from fun k hk => got_cut hok (by rwa [hsz] at hk))
      clear p1 p2 g1 g2 hel h200 hok hsz
      go_enter Tryd.func3, Tryd.ntmps3
      go_wp2_with fail
      rw [← HAG.out]
      refine (put_any m _ A ca (HA.out.below (by decide) HB0.out) HL.out HE.out).mono ?_
      rintro e w1 ⟨rfl, hb1⟩
      rw [P1.out, P2.out, HAG.out]
      generalize hS : str m.enc = S at G1 G2 HSZ HCUT hsm
      clear hS
      have HK1 := Lib.hid ((Blk.new w 26 #[.int .i64 m.kind, .int .i64 m.id, .int .i64 m.node, .int .i64 m.gen, .int .i64 m.stamp, .int .u64 m.epoch, .int .i64 m.err, .slice A m.locks.length ca]).below_ hb1)
      have HB1 := Lib.hid (HB0.out.trans (hb1.mono HB0.out.size))
      clear hb1
      go_wp2_with fail
      refine (get_any S w1 HSZ.out).mono ?_
      rintro e w2 ⟨A2, cap2, oi, rfl, ho2, he2, hf2⟩
      rw [G1.out] at ho2 ⊢
      rw [G2.out]
      have hag2 : m.agg A2 cap2 = .agg #[.int .i64 m.kind, .int .i64 m.id, .int .i64 m.node, .int .i64 m.gen, .int .i64 m.stamp, .int .u64 m.epoch, .int .i64 m.err, .slice A2 m.locks.length cap2] := rfl
      rw [hag2]
      have HAG2 := Lib.hid hag2
      have HRD2 := Lib.hid (show Reads w2 3 A2 m.locks.length (lkcells m.locks) from Reads.of_own ho2.1)
      have HK2 := Lib.hid (HK1.out.below_ he2.low)
      have HB2 := Lib.hid (HB1.out.trans (he2.low.mono HB1.out.size))
      clear ho2 he2 hf2 hag2 HK1
      go_upto_region 7 with (fail)
      have HK3 := Lib.hid (HK2.out.alloc (.cells #[.int .i64 m.kind, .int .i64 m.id, .int .i64 m.node, .int .i64 m.gen, .int .i64 m.stamp, .int .u64 m.epoch, .int .i64 m.err, .slice A2 m.locks.length cap2] 26))
      have HN3 := Lib.hid (Blk.new w2 26 #[.int .i64 m.kind, .int .i64 m.id, .int .i64 m.node, .int .i64 m.gen, .int .i64 m.stamp, .int .u64 m.epoch, .int .i64 m.err, .slice A2 m.locks.length cap2])
      have HRD3 := Lib.hid (HRD2.out.below (by decide) ((Below.refl _ _).alloc (Nat.le_refl _) (.cells #[.int .i64 m.kind, .int .i64 m.id, .int .i64 m.node, .int .i64 m.gen, .int .i64 m.stamp, .int .u64 m.epoch, .int .i64 m.err, .slice A2 m.locks.length cap2] 26)))
      have HB3 := Lib.hid (HB2.out.alloc HB2.out.size (.cells #[.int .i64 m.kind, .int .i64 m.id, .int .i64 m.node, .int .i64 m.gen, .int .i64 m.stamp, .int .u64 m.epoch, .int .i64 m.err, .slice A2 m.locks.length cap2] 26))
      generalize hg0 : w.heap.size = g0 at HK3 HB3 ⊢
      have HG0 := Lib.hid hg0
      clear hg0
      generalize w2.alloc (.cells #[.int .i64 m.kind, .int .i64 m.id, .int .i64 m.node, .int .i64 m.gen, .int .i64 m.stamp, .int .u64 m.epoch, .int .i64 m.err, .slice A2 m.locks.length cap2] 26) = W3 at HK3 HN3 HRD3 HB3 ⊢
      generalize w2.heap.size = g2 at HN3 ⊢
      have HA3 := Lib.hid (HA.out.below (by decide) (by rw [HG0.out]; exact HB3.out))
      have HL9 := Lib.hid (show m.locks.length ≤ 1000000000 by omega)
      have H3P := Lib.hid (show 0 < 3 by decide)
      clear HRD2 HK2 HB2
      obtain ⟨x0, x1, x2, x3, x4, x5, x6, x7⟩ := HK3.out.eight
      obtain ⟨y0, y1, y2, y3, y4, y5, y6, y7⟩ := HN3.out.eight
      go_region_held3 (fun w' => (w'.cell? ⟨g2, 0, none⟩ = some (.int .i64 m.kind) ∧ w'.cell? ⟨g2, 1, none⟩ = some (.int .i64 m.id) ∧ w'.cell? ⟨g2, 2, none⟩ = some (.int .i64 m.node) ∧ w'.cell? ⟨g2, 3, none⟩ = some (.int .i64 m.gen) ∧ w'.cell? ⟨g2, 4, none⟩ = some (.int .i64 m.stamp) ∧ w'.cell? ⟨g2, 5, none⟩ = some (.int .u64 m.epoch) ∧ w'.cell? ⟨g2, 6, none⟩ = some (.int .i64 m.err) ∧ w'.cell? ⟨g2, 7, none⟩ = some (.slice A2 m.locks.length cap2)) ∧ w'.cell? ⟨g0, 0, none⟩ = some (.int .i64 m.kind) ∧ w'.cell? ⟨g0, 1, none⟩ = some (.int .i64 m.id) ∧ w'.cell? ⟨g0, 2, none⟩ = some (.int .i64 m.node) ∧ w'.cell? ⟨g0, 3, none⟩ = some (.int .i64 m.gen) ∧ w'.cell? ⟨g0, 4, none⟩ = some (.int .i64 m.stamp) ∧ w'.cell? ⟨g0, 5, none⟩ = some (.int .u64 m.epoch) ∧ w'.cell? ⟨g0, 6, none⟩ = some (.int .i64 m.err) ∧ w'.cell? ⟨g0, 7, none⟩ = some (.slice A m.locks.length ca))
        (first | exact ⟨⟨y0, y1, y2, y3, y4, y5, y6, y7⟩, x0, x1, x2, x3, x4, x5, x6, x7⟩ | exact ⟨(HN3.out.drew.below_ (hb4.trans (hb5.mono hb4.size))).eight, (HK3.out.drew.below_ (hb4.trans (hb5.mono hb4.size))).eight⟩ | exact ⟨(HN3.out.drew.below_ hb4).eight, (HK3.out.drew.below_ hb4).eight⟩ | go_keep)
        (first | (go_at_call 13; ((with_reducible refine (plain_lit m _ A ca).mono ?_); rintro e w4 ⟨rfl, hb4⟩)) | (go_at_call 12; ((with_reducible refine (same_lit m _ A A2 ca cap2 (HRD3.out.drew.below H3P.out hb4) (HA3.out.drew.below H3P.out hb4) HL9.out).mono ?_); rintro e w5 ⟨rfl, hb5⟩)))
      have HB5 := Lib.hid ((below_drew HB3.out).trans ((hb4.trans (hb5.mono hb4.size)).mono (show g0 ≤ W3.drew.heap.size by have h1 := HB3.out.size; have h2 := HG0.out; show g0 ≤ W3.heap.size; omega)))
      clear x0 x1 x2 x3 x4 x5 x6 x7 y0 y1 y2 y3 y4 y5 y6 y7 hb4 hb5 HK3 HN3 HRD3 HB3 HA3
      rw [← HG0.out] at HB5
      by_cases c0 : cut < 0
      · go_wp2_with fail
        refine (alive20_any _).mono ?_
        rintro e w6 ⟨rfl, hb6⟩
        go_wp2_with fail
        go_ret
        exact ⟨rfl, HB5.out.trans (hb6.mono HB5.out.size)⟩
      · by_cases c1 : cut < (S.size : Int)
        · obtain ⟨k, rfl⟩ : ∃ k : Nat, cut = k := ⟨cut.toNat, by omega⟩
          have c1I : (k : Int) ≤ (S.size : Int) := by omega
          have HK := Lib.hid (HCUT.out k (by omega))
          have hx : (S.extract 0 k).size ≤ 1000000000 := by rw [ByteArray.size_extract]; omega
          have HX := Lib.hid hx
          clear hx c0
          go_wp2_with fail
          refine (get_any (S.extract 0 k) w5 HX.out).mono ?_
          rintro e w6 ⟨A6, cap6, o6, rfl, ho6, he6, hf6⟩
          have hne : (gotE (S.extract 0 k) != 0) = true := bne_iff_ne.2 HK.out
          have hag6 : (gotM (S.extract 0 k)).agg A6 cap6 = .agg #[.int .i64 (gotM (S.extract 0 k)).kind, .int .i64 (gotM (S.extract 0 k)).id, .int .i64 (gotM (S.extract 0 k)).node, .int .i64 (gotM (S.extract 0 k)).gen, .int .i64 (gotM (S.extract 0 k)).stamp, .int .u64 (gotM (S.extract 0 k)).epoch, .int .i64 (gotM (S.extract 0 k)).err, .slice A6 (gotM (S.extract 0 k)).locks.length cap6] := rfl
          rw [hag6]
          generalize gotE (S.extract 0 k) = E6 at hne ⊢
          generalize gotM (S.extract 0 k) = M6
          have HB6 := Lib.hid (HB5.out.trans (he6.low.mono HB5.out.size))
          clear ho6 he6 hf6 hag6
          go_wp2_with fail
          refine (alive20_any _).mono ?_
          rintro e w7 ⟨rfl, hb7⟩
          go_wp2_with fail
          go_ret
          exact ⟨rfl, (HB6.out.alloc HB6.out.size _).trans (hb7.mono (HB6.out.alloc HB6.out.size _).size)⟩
        · go_wp2_with fail
          refine (alive20_any _).mono ?_
          rintro e w6 ⟨rfl, hb6⟩
          go_wp2_with fail
          go_ret
          exact ⟨rfl, HB5.out.trans (hb6.mono HB5.out.size)⟩
    · have p1 : m.putS = ⟨#[]⟩ := if_neg hok
      have p2 : m.putE = 1 := if_neg hok
      have P1 := Lib.hid p1
      have P2 := Lib.hid p2
      have HOK := Lib.hid hok
      clear p1 p2 hok
      go_enter Tryd.func3, Tryd.ntmps3
      go_wp2_with fail
      rw [← HAG.out]
      refine (put_any m _ A ca (HA.out.below (by decide) HB0.out) HL.out HE.out).mono ?_
      rintro e w1 ⟨rfl, hb1⟩
      rw [P1.out, P2.out, HAG.out]
      have hk1 := (Blk.new w 26 #[.int .i64 m.kind, .int .i64 m.id, .int .i64 m.node, .int .i64 m.gen, .int .i64 m.stamp, .int .u64 m.epoch, .int .i64 m.err, .slice A m.locks.length ca]).below_ hb1
      have HK1 := Lib.hid hk1
      have HB1 := Lib.hid (HB0.out.trans (hb1.mono HB0.out.size))
      clear hb1 hk1
      go_wp2_with fail
      refine (alive20_any _).mono ?_
      rintro e w2 ⟨rfl, hb2⟩
      have hk2 := HK1.out.below_ hb2
      obtain ⟨x0, x1, x2, x3, x4, x5, x6, x7⟩ := hk2.eight
      have HB2 := Lib.hid (HB1.out.trans (hb2.mono HB1.out.size))
      clear hb2 hk2
      go_wp2_with fail
      rw [← HAG.out]
      refine (valid_any m _ A ca (HA.out.below (by decide) HB2.out) HL.out).mono ?_
      rintro e w3 ⟨rfl, hb3⟩
      rw [decide_eq_false HOK.out]
      have HB3 := Lib.hid (HB2.out.trans (hb3.mono HB2.out.size))
      clear hb3
      go_wp2_with fail
      go_ret
      exact ⟨rfl, HB3.out⟩
end Go.Proofs.YtoploimpfhnanaaDoor
