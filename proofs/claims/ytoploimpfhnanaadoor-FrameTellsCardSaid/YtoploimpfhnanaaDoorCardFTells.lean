/- FrameTells, the row and the card: whatever comes in, the law returns true, and the arguments read as they did; the two listed tables are tied. No condition. -/
import Derived.Test.YtoploimpfhnanaaDoorLawFBack
import Derived.Test.YtoploimpfhnanaaDoorFrameD
import Derived.Test.YtoploimpfhnanaaDoorCardBase
import Derived.Test.YtoploimpfhnanaaDoorOpenFrame

/- FrameTells: the law's walk: every frame as bytes, every bytes as a frame. -/
namespace Go.Proofs.YtoploimpfhnanaaDoor
open Go.RowKit

theorem equal_rframe (f : Fr) (w : World) : (Op.equalIn 10000 61 f.agg f.agg).run Tryd.prog w = .ok true w := by
  have u3 := Tryd.underlying3
  have u9 := Tryd.underlying9
  have u4 := Tryd.underlying4
  have hS : Tryd.prog.underlying 61 = some (.struct (Tryd.prog.fieldsOf 61)) := by kernel_rfl
  have hp : Tryd.prog.stoodInHeld 61 = false := by kernel_rfl
  unfold Fr.agg
  rw [show (10000 : Nat) = 9999 + 1 from rfl, run_equalIn_agg w 9999 61 _ _ hS hp]
  simp only [Program.fieldsOf, Tryd.underlying61]
  go_simp
theorem eql_rframe (f : Fr) (w : World) : (binOp .eql 61 (.agg #[.int .i64 f.From, .int .i64 f.To, .int .i64 f.Mine, .int .i64 f.Yours, .int .i64 f.Seq, .int .i64 f.Ack, .string f.Data, .bool f.Has]) (.agg #[.int .i64 f.From, .int .i64 f.To, .int .i64 f.Mine, .int .i64 f.Yours, .int .i64 f.Seq, .int .i64 f.Ack, .string f.Data, .bool f.Has])).run Tryd.prog w = .ok (.bool true) w := by
  rw [run_eql_struct]
  have := equal_rframe f w
  unfold Fr.agg at this
  rw [this]
  rfl
set_option maxRecDepth 100000 in
theorem fplain_any (f : Fr) (w : World) : Calls Tryd.prog 35 #[.agg #[.int .i64 f.From, .int .i64 f.To, .int .i64 f.Mine, .int .i64 f.Yours, .int .i64 f.Seq, .int .i64 f.Ack, .string f.Data, .bool f.Has]] w fun e w' => e = .returned (.agg #[.int .i64 f.From, .int .i64 f.To, .int .i64 f.Mine, .int .i64 f.Yours, .int .i64 f.Seq, .int .i64 f.Ack, .string f.Data, .bool f.Has]) ∧ Below w.heap.size w w' := by
  go_enter Tryd.func35, Tryd.ntmps35
  go_wp2_with fail
  exact bodyPost_ret (v := .agg #[.int .i64 f.From, .int .i64 f.To, .int .i64 f.Mine, .int .i64 f.Yours, .int .i64 f.Seq, .int .i64 f.Ack, .string f.Data, .bool f.Has]) (by simp [results, Tryd.results35, go_sem]) rfl ⟨rfl, ((Below.refl w.heap.size w).alloc (Nat.le_refl _) _).alloc (by simp) _⟩
theorem bel_dr {w w1 : World} (h : Below w.drew.heap.size w.drew w1) : Below w.heap.size w w1 := ⟨h.os, h.tape, h.output, h.size, h.block⟩
set_option maxRecDepth 100000 in
set_option maxHeartbeats 4000000 in
theorem frameTells_any (f : Fr) (b : ByteArray) (w : World) (hi : f.i64s) (hbm : b.size ≤ maxLen) : Calls Tryd.prog 6 #[f.agg, .string b] w fun e w' => e = .returned (.bool true) ∧ Below w.heap.size w w' := by
  have HI := Lib.hid hi
  have hdm := hi.2.2.2.2.2.2
  unfold maxLen at hdm hbm
  have hb0 := (Below.refl w.heap.size w).alloc (Nat.le_refl _) (.cells #[.int .i64 f.From, .int .i64 f.To, .int .i64 f.Mine, .int .i64 f.Yours, .int .i64 f.Seq, .int .i64 f.Ack, .string f.Data, .bool f.Has] 58)
  have HB0 := Lib.hid hb0
  clear hi hb0
  have hagg : f.agg = .agg #[.int .i64 f.From, .int .i64 f.To, .int .i64 f.Mine, .int .i64 f.Yours, .int .i64 f.Seq, .int .i64 f.Ack, .string f.Data, .bool f.Has] := rfl
  have HAG := Lib.hid hagg
  rw [hagg]
  clear hagg
  by_cases h31 : 3100 < f.Data.size
  · have h31I : (3100 : Int) < (f.Data.size : Int) := by omega
    go_enter Tryd.func6, Tryd.ntmps6
    go_wp2_with fail
    refine (alive_any _).mono ?_
    rintro e w1 ⟨rfl, hb1⟩
    go_wp2_with fail
    go_ret
    exact ⟨rfl, HB0.out.trans (hb1.mono HB0.out.size)⟩
  by_cases h32 : 3200 < b.size
  · have h31I : ¬ (3100 : Int) < (f.Data.size : Int) := by omega
    have h32I : (3200 : Int) < (b.size : Int) := by omega
    go_enter Tryd.func6, Tryd.ntmps6
    go_wp2_with fail
    refine (alive_any _).mono ?_
    rintro e w1 ⟨rfl, hb1⟩
    go_wp2_with fail
    go_ret
    exact ⟨rfl, HB0.out.trans (hb1.mono HB0.out.size)⟩
  have h31I : ¬ (3100 : Int) < (f.Data.size : Int) := by omega
  have h32I : ¬ (3200 : Int) < (b.size : Int) := by omega
  have HBS := Lib.hid (show b.size ≤ 1000000000 by omega)
  obtain ⟨S, hS⟩ : ∃ S, S = f.putS := ⟨_, rfl⟩
  obtain ⟨E, hE⟩ : ∃ E, E = f.wrongE := ⟨_, rfl⟩
  have hsz : S.size ≤ 1000000000 := by
    rw [hS]
    unfold Fr.putS
    split
    · rw [str_size, seal_len, body_len]; omega
    · show 0 ≤ _; omega
  have hok : E = 0 → gotF S = f ∧ gotFE S = 0 := by
    intro h0
    rw [hE] at h0
    have p1 : f.putS = str (sealL f.body) := if_pos h0
    rw [hS, p1]
    exact frame_back h0 ⟨HI.out.2.2.1.2, HI.out.2.2.2.1.2, HI.out.2.2.2.2.1.2, HI.out.2.2.2.2.2.1.2⟩
  have HS := Lib.hid hS
  have HE := Lib.hid hE
  have HSZ := Lib.hid hsz
  have HOK := Lib.hid hok
  clear hS hE hsz hok
  go_enter Tryd.func6, Tryd.ntmps6
  go_wp2_with fail
  rw [← HAG.out]
  refine (fput_any f _ HI.out).mono ?_
  rintro e w1 ⟨rfl, hb1⟩
  rw [← HS.out, ← HE.out]
  try rw [HAG.out]
  have HK1 := Lib.hid ((Blk.new w 58 #[.int .i64 f.From, .int .i64 f.To, .int .i64 f.Mine, .int .i64 f.Yours, .int .i64 f.Seq, .int .i64 f.Ack, .string f.Data, .bool f.Has]).below_ hb1)
  have HB1 := Lib.hid (HB0.out.trans (hb1.mono HB0.out.size))
  clear hb1
  obtain ⟨x0, x1, x2, x3, x4, x5, x6, x7⟩ := HK1.out.eight
  go_wp2_with fail
  refine (fplain_any f w1).mono ?_
  rintro e w2 ⟨rfl, hb2⟩
  have HK2 := Lib.hid (HK1.out.below_ hb2)
  have HB2 := Lib.hid (HB1.out.trans (hb2.mono HB1.out.size))
  clear hb2 HK1 x0 x1 x2 x3 x4 x5 x6 x7
  go_wp2_with fail
  rw [← HAG.out]
  refine (xfput_any f _ HI.out).mono ?_
  rintro e w3 ⟨rfl, hb3⟩
  rw [← HS.out, ← HE.out]
  try rw [HAG.out]
  have HK3 := Lib.hid (HK2.out.below_ hb3)
  have HB3 := Lib.hid (HB2.out.trans (hb3.mono HB2.out.size))
  clear hb3 HK2
  go_wp2_with fail
  refine (fget_any b w3 HBS.out).mono ?_
  rintro e w4 ⟨rfl, hb4⟩
  obtain ⟨x, hx⟩ : ∃ x, x = gotF b := ⟨_, rfl⟩
  obtain ⟨EX, hex⟩ : ∃ v, v = gotFE b := ⟨_, rfl⟩
  rw [← hx, ← hex, show x.agg = .agg #[.int .i64 x.From, .int .i64 x.To, .int .i64 x.Mine, .int .i64 x.Yours, .int .i64 x.Seq, .int .i64 x.Ack, .string x.Data, .bool x.Has] from rfl]
  have HX := Lib.hid hx
  have HEX := Lib.hid hex
  clear hx hex
  have hk4 := (HK3.out.below_ hb4).alloc (.cells #[.int .i64 x.From, .int .i64 x.To, .int .i64 x.Mine, .int .i64 x.Yours, .int .i64 x.Seq, .int .i64 x.Ack, .string x.Data, .bool x.Has] 58)
  have hn4 := Blk.new w4 58 #[.int .i64 x.From, .int .i64 x.To, .int .i64 x.Mine, .int .i64 x.Yours, .int .i64 x.Seq, .int .i64 x.Ack, .string x.Data, .bool x.Has]
  have hb4' := (HB3.out.trans (hb4.mono HB3.out.size)).alloc (HB3.out.trans (hb4.mono HB3.out.size)).size (.cells #[.int .i64 x.From, .int .i64 x.To, .int .i64 x.Mine, .int .i64 x.Yours, .int .i64 x.Seq, .int .i64 x.Ack, .string x.Data, .bool x.Has] 58)
  go_upto_region 6 with (fail)
  clear hb4
  generalize w.heap.size = gF at hk4 ⊢
  generalize w4.alloc (.cells #[.int .i64 x.From, .int .i64 x.To, .int .i64 x.Mine, .int .i64 x.Yours, .int .i64 x.Seq, .int .i64 x.Ack, .string x.Data, .bool x.Has] 58) = W4 at hk4 hn4 hb4' ⊢
  generalize w4.heap.size = gX at hn4 ⊢
  have HK4 := Lib.hid hk4
  have HN4 := Lib.hid hn4
  have HB4 := Lib.hid hb4'
  clear hk4 hn4 hb4' HK3
  go_wp2_with fail
  refine (xfget_any b W4 HBS.out).mono ?_
  rintro e w5 ⟨rfl, hb5⟩
  rw [← HX.out, ← HEX.out, show x.agg = .agg #[.int .i64 x.From, .int .i64 x.To, .int .i64 x.Mine, .int .i64 x.Yours, .int .i64 x.Seq, .int .i64 x.Ack, .string x.Data, .bool x.Has] from rfl]
  have hk5 := (HK4.out.below_ hb5).alloc (.cells #[.int .i64 x.From, .int .i64 x.To, .int .i64 x.Mine, .int .i64 x.Yours, .int .i64 x.Seq, .int .i64 x.Ack, .string x.Data, .bool x.Has] 61)
  have hn5 := (HN4.out.below_ hb5).alloc (.cells #[.int .i64 x.From, .int .i64 x.To, .int .i64 x.Mine, .int .i64 x.Yours, .int .i64 x.Seq, .int .i64 x.Ack, .string x.Data, .bool x.Has] 61)
  have hy5 := Blk.new w5 61 #[.int .i64 x.From, .int .i64 x.To, .int .i64 x.Mine, .int .i64 x.Yours, .int .i64 x.Seq, .int .i64 x.Ack, .string x.Data, .bool x.Has]
  have hb5' := (HB4.out.trans (hb5.mono HB4.out.size)).alloc (HB4.out.trans (hb5.mono HB4.out.size)).size (.cells #[.int .i64 x.From, .int .i64 x.To, .int .i64 x.Mine, .int .i64 x.Yours, .int .i64 x.Seq, .int .i64 x.Ack, .string x.Data, .bool x.Has] 61)
  go_upto_region 7 with (fail)
  clear hb5
  generalize w5.alloc (.cells #[.int .i64 x.From, .int .i64 x.To, .int .i64 x.Mine, .int .i64 x.Yours, .int .i64 x.Seq, .int .i64 x.Ack, .string x.Data, .bool x.Has] 61) = W5 at hk5 hn5 hy5 hb5' ⊢
  generalize w5.heap.size = gY at hy5 ⊢
  have HK5 := Lib.hid hk5
  have HN5 := Lib.hid hn5
  have HY5 := Lib.hid hy5
  have HB5 := Lib.hid hb5'
  clear hk5 hn5 hy5 hb5' HK4 HN4
  go_wp2_with fail
  refine (fget_any S W5 HSZ.out).mono ?_
  rintro e w6 ⟨rfl, hb6⟩
  obtain ⟨u, hu⟩ : ∃ x, x = gotF S := ⟨_, rfl⟩
  obtain ⟨EU, heu⟩ : ∃ v, v = gotFE S := ⟨_, rfl⟩
  rw [← hu, ← heu, show u.agg = .agg #[.int .i64 u.From, .int .i64 u.To, .int .i64 u.Mine, .int .i64 u.Yours, .int .i64 u.Seq, .int .i64 u.Ack, .string u.Data, .bool u.Has] from rfl]
  have HOK2 := Lib.hid (show E = 0 → u = f ∧ EU = 0 by rw [hu, heu]; exact HOK.out)
  clear hu heu
  have hk6 := (HK5.out.below_ hb6).alloc (.cells #[.int .i64 u.From, .int .i64 u.To, .int .i64 u.Mine, .int .i64 u.Yours, .int .i64 u.Seq, .int .i64 u.Ack, .string u.Data, .bool u.Has] 58)
  have hn6 := (HN5.out.below_ hb6).alloc (.cells #[.int .i64 u.From, .int .i64 u.To, .int .i64 u.Mine, .int .i64 u.Yours, .int .i64 u.Seq, .int .i64 u.Ack, .string u.Data, .bool u.Has] 58)
  have hy6 := (HY5.out.below_ hb6).alloc (.cells #[.int .i64 u.From, .int .i64 u.To, .int .i64 u.Mine, .int .i64 u.Yours, .int .i64 u.Seq, .int .i64 u.Ack, .string u.Data, .bool u.Has] 58)
  have hu6 := Blk.new w6 58 #[.int .i64 u.From, .int .i64 u.To, .int .i64 u.Mine, .int .i64 u.Yours, .int .i64 u.Seq, .int .i64 u.Ack, .string u.Data, .bool u.Has]
  have hb6' := (HB5.out.trans (hb6.mono HB5.out.size)).alloc (HB5.out.trans (hb6.mono HB5.out.size)).size (.cells #[.int .i64 u.From, .int .i64 u.To, .int .i64 u.Mine, .int .i64 u.Yours, .int .i64 u.Seq, .int .i64 u.Ack, .string u.Data, .bool u.Has] 58)
  go_upto_region 8 with (fail)
  clear hb6
  generalize w6.alloc (.cells #[.int .i64 u.From, .int .i64 u.To, .int .i64 u.Mine, .int .i64 u.Yours, .int .i64 u.Seq, .int .i64 u.Ack, .string u.Data, .bool u.Has] 58) = W6 at hk6 hn6 hy6 hu6 hb6' ⊢
  generalize w6.heap.size = gU at hu6 ⊢
  have HK6 := Lib.hid hk6
  have HN6 := Lib.hid hn6
  have HY6 := Lib.hid hy6
  have HU6 := Lib.hid hu6
  have HB6 := Lib.hid hb6'
  have HSS := Lib.hid (show ((fun w' => (w'.cell? ⟨gX, 0, none⟩ = some (.int .i64 x.From) ∧ w'.cell? ⟨gX, 1, none⟩ = some (.int .i64 x.To) ∧ w'.cell? ⟨gX, 2, none⟩ = some (.int .i64 x.Mine) ∧ w'.cell? ⟨gX, 3, none⟩ = some (.int .i64 x.Yours) ∧ w'.cell? ⟨gX, 4, none⟩ = some (.int .i64 x.Seq) ∧ w'.cell? ⟨gX, 5, none⟩ = some (.int .i64 x.Ack) ∧ w'.cell? ⟨gX, 6, none⟩ = some (.string x.Data) ∧ w'.cell? ⟨gX, 7, none⟩ = some (.bool x.Has)) ∧ (w'.cell? ⟨gY, 0, none⟩ = some (.int .i64 x.From) ∧ w'.cell? ⟨gY, 1, none⟩ = some (.int .i64 x.To) ∧ w'.cell? ⟨gY, 2, none⟩ = some (.int .i64 x.Mine) ∧ w'.cell? ⟨gY, 3, none⟩ = some (.int .i64 x.Yours) ∧ w'.cell? ⟨gY, 4, none⟩ = some (.int .i64 x.Seq) ∧ w'.cell? ⟨gY, 5, none⟩ = some (.int .i64 x.Ack) ∧ w'.cell? ⟨gY, 6, none⟩ = some (.string x.Data) ∧ w'.cell? ⟨gY, 7, none⟩ = some (.bool x.Has)) ∧ (w'.cell? ⟨gU, 0, none⟩ = some (.int .i64 u.From) ∧ w'.cell? ⟨gU, 1, none⟩ = some (.int .i64 u.To) ∧ w'.cell? ⟨gU, 2, none⟩ = some (.int .i64 u.Mine) ∧ w'.cell? ⟨gU, 3, none⟩ = some (.int .i64 u.Yours) ∧ w'.cell? ⟨gU, 4, none⟩ = some (.int .i64 u.Seq) ∧ w'.cell? ⟨gU, 5, none⟩ = some (.int .i64 u.Ack) ∧ w'.cell? ⟨gU, 6, none⟩ = some (.string u.Data) ∧ w'.cell? ⟨gU, 7, none⟩ = some (.bool u.Has)) ∧ (w'.cell? ⟨gF, 0, none⟩ = some (.int .i64 f.From) ∧ w'.cell? ⟨gF, 1, none⟩ = some (.int .i64 f.To) ∧ w'.cell? ⟨gF, 2, none⟩ = some (.int .i64 f.Mine) ∧ w'.cell? ⟨gF, 3, none⟩ = some (.int .i64 f.Yours) ∧ w'.cell? ⟨gF, 4, none⟩ = some (.int .i64 f.Seq) ∧ w'.cell? ⟨gF, 5, none⟩ = some (.int .i64 f.Ack) ∧ w'.cell? ⟨gF, 6, none⟩ = some (.string f.Data) ∧ w'.cell? ⟨gF, 7, none⟩ = some (.bool f.Has))) W6) from ⟨hn6.eight, hy6.eight, hu6.eight, hk6.eight⟩)
  clear hk6 hn6 hy6 hu6 hb6' HK5 HN5 HY5
  have he1 := eql_rframe x
  have he2 := eql_frame f
  have t2 := beq_self_eq_true S.toList
  by_cases h0 : E = 0
  · obtain ⟨h1, rfl⟩ := HOK2.out h0
    have h2 := h1.symm
    subst h2
    subst h0
    go_region_held3 (fun w' => (w'.cell? ⟨gX, 0, none⟩ = some (.int .i64 x.From) ∧ w'.cell? ⟨gX, 1, none⟩ = some (.int .i64 x.To) ∧ w'.cell? ⟨gX, 2, none⟩ = some (.int .i64 x.Mine) ∧ w'.cell? ⟨gX, 3, none⟩ = some (.int .i64 x.Yours) ∧ w'.cell? ⟨gX, 4, none⟩ = some (.int .i64 x.Seq) ∧ w'.cell? ⟨gX, 5, none⟩ = some (.int .i64 x.Ack) ∧ w'.cell? ⟨gX, 6, none⟩ = some (.string x.Data) ∧ w'.cell? ⟨gX, 7, none⟩ = some (.bool x.Has)) ∧ (w'.cell? ⟨gY, 0, none⟩ = some (.int .i64 x.From) ∧ w'.cell? ⟨gY, 1, none⟩ = some (.int .i64 x.To) ∧ w'.cell? ⟨gY, 2, none⟩ = some (.int .i64 x.Mine) ∧ w'.cell? ⟨gY, 3, none⟩ = some (.int .i64 x.Yours) ∧ w'.cell? ⟨gY, 4, none⟩ = some (.int .i64 x.Seq) ∧ w'.cell? ⟨gY, 5, none⟩ = some (.int .i64 x.Ack) ∧ w'.cell? ⟨gY, 6, none⟩ = some (.string x.Data) ∧ w'.cell? ⟨gY, 7, none⟩ = some (.bool x.Has)) ∧ (w'.cell? ⟨gU, 0, none⟩ = some (.int .i64 f.From) ∧ w'.cell? ⟨gU, 1, none⟩ = some (.int .i64 f.To) ∧ w'.cell? ⟨gU, 2, none⟩ = some (.int .i64 f.Mine) ∧ w'.cell? ⟨gU, 3, none⟩ = some (.int .i64 f.Yours) ∧ w'.cell? ⟨gU, 4, none⟩ = some (.int .i64 f.Seq) ∧ w'.cell? ⟨gU, 5, none⟩ = some (.int .i64 f.Ack) ∧ w'.cell? ⟨gU, 6, none⟩ = some (.string f.Data) ∧ w'.cell? ⟨gU, 7, none⟩ = some (.bool f.Has)) ∧ (w'.cell? ⟨gF, 0, none⟩ = some (.int .i64 f.From) ∧ w'.cell? ⟨gF, 1, none⟩ = some (.int .i64 f.To) ∧ w'.cell? ⟨gF, 2, none⟩ = some (.int .i64 f.Mine) ∧ w'.cell? ⟨gF, 3, none⟩ = some (.int .i64 f.Yours) ∧ w'.cell? ⟨gF, 4, none⟩ = some (.int .i64 f.Seq) ∧ w'.cell? ⟨gF, 5, none⟩ = some (.int .i64 f.Ack) ∧ w'.cell? ⟨gF, 6, none⟩ = some (.string f.Data) ∧ w'.cell? ⟨gF, 7, none⟩ = some (.bool f.Has)))
      (first | exact HSS.out | exact ⟨((HN6.out.drew.below_ hb7).below_ hb8).eight, ((HY6.out.drew.below_ hb7).below_ hb8).eight, ((HU6.out.drew.below_ hb7).below_ hb8).eight, ((HK6.out.drew.below_ hb7).below_ hb8).eight⟩ | exact ⟨(HN6.out.drew.below_ hb7).eight, (HY6.out.drew.below_ hb7).eight, (HU6.out.drew.below_ hb7).eight, (HK6.out.drew.below_ hb7).eight⟩ | go_keep)
      (first | (go_at_call 32; ((with_reducible refine (alive_any _).mono ?_); rintro e7 w7 ⟨rfl, hb7⟩)) | (go_at_call 35; ((with_reducible refine (fplain_any x _).mono ?_); rintro e8 w8 ⟨rfl, hb8⟩)))
    have HB8 := Lib.hid (HB6.out.trans ((bel_dr hb7).trans (hb8.mono hb7.size) |>.mono HB6.out.size))
    clear hb7 hb8
    go_wp2_with fail
    go_ret
    exact ⟨rfl, HB8.out⟩
  have h12 : E = 1 ∨ E = 2 := by
    have h1 := HE.out
    unfold Fr.wrongE at h1
    split at h1
    · exact Or.inl h1
    · split at h1
      · exact Or.inr h1
      · exact absurd h1 h0
  clear h0
  rcases h12 with rfl | rfl
  all_goals
    clear HB0 HB1 HB2 HB3 HB4 HB5 HX HEX HOK HOK2 HAG HS HE HSZ HBS h31 h32 hdm hbm he2
    refine wp_region_held_drew (S := (fun w' => (w'.cell? ⟨gX, 0, none⟩ = some (.int .i64 x.From) ∧ w'.cell? ⟨gX, 1, none⟩ = some (.int .i64 x.To) ∧ w'.cell? ⟨gX, 2, none⟩ = some (.int .i64 x.Mine) ∧ w'.cell? ⟨gX, 3, none⟩ = some (.int .i64 x.Yours) ∧ w'.cell? ⟨gX, 4, none⟩ = some (.int .i64 x.Seq) ∧ w'.cell? ⟨gX, 5, none⟩ = some (.int .i64 x.Ack) ∧ w'.cell? ⟨gX, 6, none⟩ = some (.string x.Data) ∧ w'.cell? ⟨gX, 7, none⟩ = some (.bool x.Has)) ∧ (w'.cell? ⟨gY, 0, none⟩ = some (.int .i64 x.From) ∧ w'.cell? ⟨gY, 1, none⟩ = some (.int .i64 x.To) ∧ w'.cell? ⟨gY, 2, none⟩ = some (.int .i64 x.Mine) ∧ w'.cell? ⟨gY, 3, none⟩ = some (.int .i64 x.Yours) ∧ w'.cell? ⟨gY, 4, none⟩ = some (.int .i64 x.Seq) ∧ w'.cell? ⟨gY, 5, none⟩ = some (.int .i64 x.Ack) ∧ w'.cell? ⟨gY, 6, none⟩ = some (.string x.Data) ∧ w'.cell? ⟨gY, 7, none⟩ = some (.bool x.Has)))) (by kernel_rfl) ⟨HN6.out.drew.eight, HY6.out.drew.eight⟩ (fun hHeld => ?_)
    refine wpAnyH_ready (rs := [0]) (by kernel_rfl) (by simp) ?_
    refine AllReadyH.cons (o := { dst := some 51, op := Op.call { callee := Callee.value (Operand.func 32), args := #[], argTypes := #[] }, type := 4, pos := "law.go:69", after := #[], guard := none }) rfl (fun K hK => ?_) AllReadyH.nil
    go_simp
    refine (alive_any _).mono ?_
    rintro e7 w7 ⟨rfl, hb7⟩
    go_wp2_with fail
    refine hK.out _ _ ⟨(HN6.out.drew.below_ hb7).eight, (HY6.out.drew.below_ hb7).eight⟩ (fun hHeld2 => ?_)
    clear hK K hHeld
    have hHeld := hHeld2
    clear hHeld2
    try simp only [Act.put, List.setIfInBounds_toArray, List.set_cons_zero, List.set_cons_succ]
    refine wpAnyH_take (i := 1) (oi := { dst := some 52, op := Op.move (Operand.tmp 51), type := 4, pos := "law.go:69", after := #[{ on := 0, ground := Ground.data }, { on := 0, ground := Ground.chain }], guard := none }) (v := ?_) rfl (by kernel_rfl) (by kernel_rfl) (by kernel_rfl) (fun _ _ _ h => h) (Or.inl ⟨by rfl, ?_⟩) (by assumption) ?_
    rotate_left
    · (intro w hSw; (try dsimp only at hSw); go_simp; first | done | with_reducible rfl)
    try simp only [Act.put, List.setIfInBounds_toArray, List.set_cons_zero, List.set_cons_succ]
    refine wpAnyH_take (i := 2) (oi := { dst := some 53, op := Op.move (Operand.tmp 5), type := 9, pos := "law.go:69", after := #[{ on := 1, ground := Ground.guard }], guard := some (1, true) }) (v := ?_) rfl (by kernel_rfl) (by kernel_rfl) (by kernel_rfl) (fun _ _ _ h => h) (Or.inl ⟨by rfl, ?_⟩) (by assumption) ?_
    rotate_left
    · (intro w hSw; (try dsimp only at hSw); go_simp; first | done | with_reducible rfl)
    try simp only [Act.put, List.setIfInBounds_toArray, List.set_cons_zero, List.set_cons_succ]
    refine wpAnyH_take (i := 3) (oi := { dst := some 54, op := Op.move (Operand.tmp 7), type := 9, pos := "law.go:69", after := #[{ on := 1, ground := Ground.guard }], guard := some (1, true) }) (v := ?_) rfl (by kernel_rfl) (by kernel_rfl) (by kernel_rfl) (fun _ _ _ h => h) (Or.inl ⟨by rfl, ?_⟩) (by assumption) ?_
    rotate_left
    · (intro w hSw; (try dsimp only at hSw); go_simp; first | done | with_reducible rfl)
    try simp only [Act.put, List.setIfInBounds_toArray, List.set_cons_zero, List.set_cons_succ]
    refine wpAnyH_take (i := 4) (oi := { dst := some 55, op := Op.binOp BinOp.eql 9 (Operand.tmp 53) (Operand.tmp 54) 9, type := 4, pos := "law.go:69", after := #[{ on := 2, ground := Ground.data }, { on := 3, ground := Ground.data }, { on := 1, ground := Ground.guard }], guard := some (1, true) }) (v := ?_) rfl (by kernel_rfl) (by kernel_rfl) (by kernel_rfl) (fun _ _ _ h => h) (Or.inl ⟨by rfl, ?_⟩) (by assumption) ?_
    rotate_left
    · (intro w hSw; (try dsimp only at hSw); go_simp; first | done | with_reducible rfl)
    try simp only [Act.put, List.setIfInBounds_toArray, List.set_cons_zero, List.set_cons_succ]
    refine wpAnyH_take (i := 5) (oi := { dst := some 56, op := Op.pick (Operand.tmp 52) (Operand.tmp 55) (Operand.const (Value.bool false)), type := 4, pos := "law.go:69", after := #[{ on := 1, ground := Ground.data }, { on := 4, ground := Ground.data }], guard := none }) (v := ?_) rfl (by kernel_rfl) (by kernel_rfl) (by kernel_rfl) (fun _ _ _ h => h) (Or.inl ⟨by rfl, ?_⟩) (by assumption) ?_
    rotate_left
    · (intro w hSw; (try dsimp only at hSw); go_simp; first | done | with_reducible rfl)
    try simp only [Act.put, List.setIfInBounds_toArray, List.set_cons_zero, List.set_cons_succ]
    refine wpAnyH_take (i := 6) (oi := { dst := some 57, op := Op.move (Operand.tmp 56), type := 4, pos := "law.go:69", after := #[{ on := 5, ground := Ground.data }, { on := 1, ground := Ground.chain }], guard := none }) (v := ?_) rfl (by kernel_rfl) (by kernel_rfl) (by kernel_rfl) (fun _ _ _ h => h) (Or.inl ⟨by rfl, ?_⟩) (by assumption) ?_
    rotate_left
    · (intro w hSw; (try dsimp only at hSw); go_simp; first | done | with_reducible rfl)
    try simp only [Act.put, List.setIfInBounds_toArray, List.set_cons_zero, List.set_cons_succ]
    refine wpAnyH_take (i := 7) (oi := { dst := some 58, op := Op.move (Operand.tmp 6), type := 23, pos := "law.go:69", after := #[{ on := 6, ground := Ground.guard }], guard := some (6, true) }) (v := ?_) rfl (by kernel_rfl) (by kernel_rfl) (by kernel_rfl) (fun _ _ _ h => h) (Or.inl ⟨by rfl, ?_⟩) (by assumption) ?_
    rotate_left
    · (intro w hSw; (try dsimp only at hSw); go_simp; first | done | with_reducible rfl)
    try simp only [Act.put, List.setIfInBounds_toArray, List.set_cons_zero, List.set_cons_succ]
    refine wpAnyH_take (i := 8) (oi := { dst := some 59, op := Op.move (Operand.tmp 8), type := 23, pos := "law.go:69", after := #[{ on := 6, ground := Ground.guard }], guard := some (6, true) }) (v := ?_) rfl (by kernel_rfl) (by kernel_rfl) (by kernel_rfl) (fun _ _ _ h => h) (Or.inl ⟨by rfl, ?_⟩) (by assumption) ?_
    rotate_left
    · (intro w hSw; (try dsimp only at hSw); go_simp; first | done | with_reducible rfl)
    try simp only [Act.put, List.setIfInBounds_toArray, List.set_cons_zero, List.set_cons_succ]
    refine wpAnyH_take (i := 9) (oi := { dst := some 60, op := Op.binOp BinOp.eql 23 (Operand.tmp 58) (Operand.tmp 59) 23, type := 4, pos := "law.go:69", after := #[{ on := 7, ground := Ground.data }, { on := 8, ground := Ground.data }, { on := 6, ground := Ground.guard }], guard := some (6, true) }) (v := ?_) rfl (by kernel_rfl) (by kernel_rfl) (by kernel_rfl) (fun _ _ _ h => h) (Or.inl ⟨by rfl, ?_⟩) (by assumption) ?_
    rotate_left
    · (intro w hSw; (try dsimp only at hSw); go_simp; first | done | with_reducible rfl)
    try simp only [Act.put, List.setIfInBounds_toArray, List.set_cons_zero, List.set_cons_succ]
    refine wpAnyH_take (i := 10) (oi := { dst := some 61, op := Op.pick (Operand.tmp 57) (Operand.tmp 60) (Operand.const (Value.bool false)), type := 4, pos := "law.go:69", after := #[{ on := 6, ground := Ground.data }, { on := 9, ground := Ground.data }], guard := none }) (v := ?_) rfl (by kernel_rfl) (by kernel_rfl) (by kernel_rfl) (fun _ _ _ h => h) (Or.inl ⟨by rfl, ?_⟩) (by assumption) ?_
    rotate_left
    · (intro w hSw; (try dsimp only at hSw); go_simp; first | done | with_reducible rfl)
    try simp only [Act.put, List.setIfInBounds_toArray, List.set_cons_zero, List.set_cons_succ]
    refine wpAnyH_take (i := 11) (oi := { dst := some 62, op := Op.move (Operand.tmp 61), type := 4, pos := "law.go:69", after := #[{ on := 10, ground := Ground.data }, { on := 6, ground := Ground.chain }], guard := none }) (v := ?_) rfl (by kernel_rfl) (by kernel_rfl) (by kernel_rfl) (fun _ _ _ h => h) (Or.inl ⟨by rfl, ?_⟩) (by assumption) ?_
    rotate_left
    · (intro w hSw; (try dsimp only at hSw); go_simp; first | done | with_reducible rfl)
    try simp only [Act.put, List.setIfInBounds_toArray, List.set_cons_zero, List.set_cons_succ]
    refine wpAnyH_take (i := 12) (oi := { dst := some 63, op := Op.load 58 (Operand.tmp 9), type := 58, pos := "law.go:69", after := #[{ on := 11, ground := Ground.guard }], guard := some (11, true) }) (v := ?_) rfl (by kernel_rfl) (by kernel_rfl) (by kernel_rfl) (fun _ _ _ h => h) (Or.inl ⟨by rfl, ?_⟩) (by assumption) ?_
    rotate_left
    · (intro w hSw; (try dsimp only at hSw); go_simp; first | done | with_reducible rfl)
    try simp only [Act.put, List.setIfInBounds_toArray, List.set_cons_zero, List.set_cons_succ]
    refine wpAnyH_take (i := 14) (oi := { dst := some 65, op := Op.load 61 (Operand.tmp 11), type := 61, pos := "law.go:69", after := #[{ on := 11, ground := Ground.guard }], guard := some (11, true) }) (v := ?_) rfl (by kernel_rfl) (by kernel_rfl) (by kernel_rfl) (fun _ _ _ h => h) (Or.inl ⟨by rfl, ?_⟩) (by assumption) ?_
    rotate_left
    · (intro w hSw; (try dsimp only at hSw); go_simp; first | done | with_reducible rfl)
    try simp only [Act.put, List.setIfInBounds_toArray, List.set_cons_zero, List.set_cons_succ]
    refine wpAnyH_ready (rs := [13]) (by kernel_rfl) (by simp) ?_
    refine AllReadyH.cons (o := { dst := some 64, op := Op.call { callee := Callee.value (Operand.func 35), args := #[Operand.tmp 63], argTypes := #[58] }, type := 61, pos := "law.go:69", after := #[{ on := 12, ground := Ground.data }, { on := 11, ground := Ground.chain }, { on := 11, ground := Ground.guard }], guard := some (11, true) }) rfl (fun K hK => ?_) AllReadyH.nil
    go_simp
    refine (fplain_any x _).mono ?_
    rintro e8 w8 ⟨rfl, hb8⟩
    go_wp2_with fail
    refine hK.out _ _ ⟨((HN6.out.drew.below_ hb7).below_ hb8).eight, ((HY6.out.drew.below_ hb7).below_ hb8).eight⟩ (fun hHeld2 => ?_)
    clear hK K hHeld
    have hHeld := hHeld2
    clear hHeld2
    try simp only [Act.put, List.setIfInBounds_toArray, List.set_cons_zero, List.set_cons_succ]
    refine wpAnyH_take (i := 15) (oi := { dst := some 66, op := Op.binOp BinOp.eql 61 (Operand.tmp 64) (Operand.tmp 65) 61, type := 4, pos := "law.go:69", after := #[{ on := 13, ground := Ground.data }, { on := 14, ground := Ground.data }, { on := 11, ground := Ground.guard }], guard := some (11, true) }) (v := ?_) rfl (by kernel_rfl) (by kernel_rfl) (by kernel_rfl) (fun _ _ _ h => h) (Or.inl ⟨by rfl, ?_⟩) (by assumption) ?_
    rotate_left
    · (intro w hSw; (try dsimp only at hSw); go_simp; first | done | with_reducible rfl)
    try simp only [Act.put, List.setIfInBounds_toArray, List.set_cons_zero, List.set_cons_succ]
    refine wpAnyH_take (i := 16) (oi := { dst := some 67, op := Op.pick (Operand.tmp 62) (Operand.tmp 66) (Operand.const (Value.bool false)), type := 4, pos := "law.go:69", after := #[{ on := 11, ground := Ground.data }, { on := 15, ground := Ground.data }], guard := none }) (v := ?_) rfl (by kernel_rfl) (by kernel_rfl) (by kernel_rfl) (fun _ _ _ h => h) (Or.inl ⟨by rfl, ?_⟩) (by assumption) ?_
    rotate_left
    · (intro w hSw; (try dsimp only at hSw); go_simp; first | done | with_reducible rfl)
    try simp only [Act.put, List.setIfInBounds_toArray, List.set_cons_zero, List.set_cons_succ]
    refine wpAnyH_take (i := 17) (oi := { dst := some 68, op := Op.move (Operand.tmp 67), type := 4, pos := "law.go:69", after := #[{ on := 16, ground := Ground.data }, { on := 13, ground := Ground.chain }], guard := none }) (v := ?_) rfl (by kernel_rfl) (by kernel_rfl) (by kernel_rfl) (fun _ _ _ h => h) (Or.inl ⟨by rfl, ?_⟩) (by assumption) ?_
    rotate_left
    · (intro w hSw; (try dsimp only at hSw); go_simp; first | done | with_reducible rfl)
    try simp only [Act.put, List.setIfInBounds_toArray, List.set_cons_zero, List.set_cons_succ]
    refine wpAnyH_take (i := 18) (oi := { dst := some 69, op := Op.move (Operand.tmp 10), type := 23, pos := "law.go:69", after := #[{ on := 17, ground := Ground.guard }], guard := some (17, true) }) (v := ?_) rfl (by kernel_rfl) (by kernel_rfl) (by kernel_rfl) (fun _ _ _ h => h) (Or.inl ⟨by rfl, ?_⟩) (by assumption) ?_
    rotate_left
    · (intro w hSw; (try dsimp only at hSw); go_simp; first | done | with_reducible rfl)
    try simp only [Act.put, List.setIfInBounds_toArray, List.set_cons_zero, List.set_cons_succ]
    refine wpAnyH_take (i := 19) (oi := { dst := some 70, op := Op.move (Operand.tmp 12), type := 23, pos := "law.go:69", after := #[{ on := 17, ground := Ground.guard }], guard := some (17, true) }) (v := ?_) rfl (by kernel_rfl) (by kernel_rfl) (by kernel_rfl) (fun _ _ _ h => h) (Or.inl ⟨by rfl, ?_⟩) (by assumption) ?_
    rotate_left
    · (intro w hSw; (try dsimp only at hSw); go_simp; first | done | with_reducible rfl)
    try simp only [Act.put, List.setIfInBounds_toArray, List.set_cons_zero, List.set_cons_succ]
    refine wpAnyH_take (i := 20) (oi := { dst := some 71, op := Op.binOp BinOp.eql 23 (Operand.tmp 69) (Operand.tmp 70) 23, type := 4, pos := "law.go:69", after := #[{ on := 18, ground := Ground.data }, { on := 19, ground := Ground.data }, { on := 17, ground := Ground.guard }], guard := some (17, true) }) (v := ?_) rfl (by kernel_rfl) (by kernel_rfl) (by kernel_rfl) (fun _ _ _ h => h) (Or.inl ⟨by rfl, ?_⟩) (by assumption) ?_
    rotate_left
    · (intro w hSw; (try dsimp only at hSw); go_simp; first | done | with_reducible rfl)
    try simp only [Act.put, List.setIfInBounds_toArray, List.set_cons_zero, List.set_cons_succ]
    refine wpAnyH_take (i := 21) (oi := { dst := some 72, op := Op.pick (Operand.tmp 68) (Operand.tmp 71) (Operand.const (Value.bool false)), type := 4, pos := "law.go:69", after := #[{ on := 17, ground := Ground.data }, { on := 20, ground := Ground.data }], guard := none }) (v := ?_) rfl (by kernel_rfl) (by kernel_rfl) (by kernel_rfl) (fun _ _ _ h => h) (Or.inl ⟨by rfl, ?_⟩) (by assumption) ?_
    rotate_left
    · (intro w hSw; (try dsimp only at hSw); go_simp; first | done | with_reducible rfl)
    try simp only [Act.put, List.setIfInBounds_toArray, List.set_cons_zero, List.set_cons_succ]
    refine wpAnyH_take (i := 22) (oi := { dst := some 73, op := Op.move (Operand.tmp 72), type := 4, pos := "law.go:69", after := #[{ on := 21, ground := Ground.data }, { on := 17, ground := Ground.chain }], guard := none }) (v := ?_) rfl (by kernel_rfl) (by kernel_rfl) (by kernel_rfl) (fun _ _ _ h => h) (Or.inl ⟨by rfl, ?_⟩) (by assumption) ?_
    rotate_left
    · (intro w hSw; (try dsimp only at hSw); go_simp; first | done | with_reducible rfl)
    try simp only [Act.put, List.setIfInBounds_toArray, List.set_cons_zero, List.set_cons_succ]
    refine wpAnyH_take (i := 23) (oi := { dst := some 74, op := Op.move (Operand.tmp 6), type := 23, pos := "law.go:69", after := #[{ on := 22, ground := Ground.guard }], guard := some (22, true) }) (v := ?_) rfl (by kernel_rfl) (by kernel_rfl) (by kernel_rfl) (fun _ _ _ h => h) (Or.inl ⟨by rfl, ?_⟩) (by assumption) ?_
    rotate_left
    · (intro w hSw; (try dsimp only at hSw); go_simp; first | done | with_reducible rfl)
    try simp only [Act.put, List.setIfInBounds_toArray, List.set_cons_zero, List.set_cons_succ]
    refine wpAnyH_take (i := 24) (oi := { dst := some 75, op := Op.binOp BinOp.neq 23 (Operand.tmp 74) (Operand.const (Value.int IntKind.i64 0)) 23, type := 4, pos := "law.go:69", after := #[{ on := 23, ground := Ground.data }, { on := 22, ground := Ground.guard }], guard := some (22, true) }) (v := ?_) rfl (by kernel_rfl) (by kernel_rfl) (by kernel_rfl) (fun _ _ _ h => h) (Or.inl ⟨by rfl, ?_⟩) (by assumption) ?_
    rotate_left
    · (intro w hSw; (try dsimp only at hSw); go_simp; first | done | with_reducible rfl)
    try simp only [Act.put, List.setIfInBounds_toArray, List.set_cons_zero, List.set_cons_succ]
    refine wpAnyH_take (i := 25) (oi := { dst := some 76, op := Op.move (Operand.tmp 75), type := 4, pos := "law.go:69", after := #[{ on := 24, ground := Ground.data }, { on := 22, ground := Ground.chain }, { on := 22, ground := Ground.guard }], guard := some (22, true) }) (v := ?_) rfl (by kernel_rfl) (by kernel_rfl) (by kernel_rfl) (fun _ _ _ h => h) (Or.inl ⟨by rfl, ?_⟩) (by assumption) ?_
    rotate_left
    · (intro w hSw; (try dsimp only at hSw); go_simp; first | done | with_reducible rfl)
    try simp only [Act.put, List.setIfInBounds_toArray, List.set_cons_zero, List.set_cons_succ]
    refine wpAnyH_take (i := 26) (oi := { dst := some 77, op := Op.move (Operand.tmp 14), type := 23, pos := "law.go:69", after := #[{ on := 25, ground := Ground.guard }], guard := some (25, false) }) (v := undef) rfl (by kernel_rfl) (by kernel_rfl) (by kernel_rfl) (fun _ _ _ h => h) (Or.inr ⟨by rfl, rfl⟩) (by assumption) ?_
    try simp only [Act.put, List.setIfInBounds_toArray, List.set_cons_zero, List.set_cons_succ]
    refine wpAnyH_take (i := 27) (oi := { dst := some 78, op := Op.binOp BinOp.eql 23 (Operand.tmp 77) (Operand.const (Value.int IntKind.i64 0)) 23, type := 4, pos := "law.go:69", after := #[{ on := 26, ground := Ground.data }, { on := 25, ground := Ground.guard }], guard := some (25, false) }) (v := undef) rfl (by kernel_rfl) (by kernel_rfl) (by kernel_rfl) (fun _ _ _ h => h) (Or.inr ⟨by rfl, rfl⟩) (by assumption) ?_
    try simp only [Act.put, List.setIfInBounds_toArray, List.set_cons_zero, List.set_cons_succ]
    refine wpAnyH_take (i := 28) (oi := { dst := some 79, op := Op.move (Operand.tmp 78), type := 4, pos := "law.go:69", after := #[{ on := 27, ground := Ground.data }, { on := 25, ground := Ground.chain }, { on := 25, ground := Ground.guard }], guard := some (25, false) }) (v := undef) rfl (by kernel_rfl) (by kernel_rfl) (by kernel_rfl) (fun _ _ _ h => h) (Or.inr ⟨by rfl, rfl⟩) (by assumption) ?_
    try simp only [Act.put, List.setIfInBounds_toArray, List.set_cons_zero, List.set_cons_succ]
    refine wpAnyH_take (i := 29) (oi := { dst := some 80, op := Op.load 58 (Operand.tmp 13), type := 58, pos := "law.go:69", after := #[{ on := 28, ground := Ground.guard }], guard := some (28, true) }) (v := undef) rfl (by kernel_rfl) (by kernel_rfl) (by kernel_rfl) (fun _ _ _ h => h) (Or.inr ⟨by rfl, rfl⟩) (by assumption) ?_
    try simp only [Act.put, List.setIfInBounds_toArray, List.set_cons_zero, List.set_cons_succ]
    refine wpAnyH_take (i := 30) (oi := { dst := some 81, op := Op.load 58 (Operand.tmp 2), type := 58, pos := "law.go:69", after := #[{ on := 28, ground := Ground.guard }], guard := some (28, true) }) (v := undef) rfl (by kernel_rfl) (by kernel_rfl) (by kernel_rfl) (fun _ _ _ h => h) (Or.inr ⟨by rfl, rfl⟩) (by assumption) ?_
    try simp only [Act.put, List.setIfInBounds_toArray, List.set_cons_zero, List.set_cons_succ]
    refine wpAnyH_take (i := 31) (oi := { dst := some 82, op := Op.binOp BinOp.eql 58 (Operand.tmp 80) (Operand.tmp 81) 58, type := 4, pos := "law.go:69", after := #[{ on := 29, ground := Ground.data }, { on := 30, ground := Ground.data }, { on := 28, ground := Ground.guard }], guard := some (28, true) }) (v := undef) rfl (by kernel_rfl) (by kernel_rfl) (by kernel_rfl) (fun _ _ _ h => h) (Or.inr ⟨by rfl, rfl⟩) (by assumption) ?_
    try simp only [Act.put, List.setIfInBounds_toArray, List.set_cons_zero, List.set_cons_succ]
    refine wpAnyH_take (i := 32) (oi := { dst := some 83, op := Op.pick (Operand.tmp 79) (Operand.tmp 82) (Operand.const (Value.bool false)), type := 4, pos := "law.go:69", after := #[{ on := 28, ground := Ground.data }, { on := 31, ground := Ground.data }, { on := 25, ground := Ground.guard }], guard := some (25, false) }) (v := undef) rfl (by kernel_rfl) (by kernel_rfl) (by kernel_rfl) (fun _ _ _ h => h) (Or.inr ⟨by rfl, rfl⟩) (by assumption) ?_
    try simp only [Act.put, List.setIfInBounds_toArray, List.set_cons_zero, List.set_cons_succ]
    refine wpAnyH_take (i := 33) (oi := { dst := some 84, op := Op.pick (Operand.tmp 76) (Operand.const (Value.bool true)) (Operand.tmp 83), type := 4, pos := "law.go:69", after := #[{ on := 25, ground := Ground.data }, { on := 32, ground := Ground.data }, { on := 22, ground := Ground.guard }], guard := some (22, true) }) (v := ?_) rfl (by kernel_rfl) (by kernel_rfl) (by kernel_rfl) (fun _ _ _ h => h) (Or.inl ⟨by rfl, ?_⟩) (by assumption) ?_
    rotate_left
    · (intro w hSw; (try dsimp only at hSw); go_simp; first | done | with_reducible rfl)
    try simp only [Act.put, List.setIfInBounds_toArray, List.set_cons_zero, List.set_cons_succ]
    refine wpAnyH_take (i := 34) (oi := { dst := some 85, op := Op.pick (Operand.tmp 73) (Operand.tmp 84) (Operand.const (Value.bool false)), type := 4, pos := "law.go:69", after := #[{ on := 22, ground := Ground.data }, { on := 33, ground := Ground.data }], guard := none }) (v := ?_) rfl (by kernel_rfl) (by kernel_rfl) (by kernel_rfl) (fun _ _ _ h => h) (Or.inl ⟨by rfl, ?_⟩) (by assumption) ?_
    rotate_left
    · (intro w hSw; (try dsimp only at hSw); go_simp; first | done | with_reducible rfl)
    try simp only [Act.put, List.setIfInBounds_toArray, List.set_cons_zero, List.set_cons_succ]
    refine wpAnyH_take (i := 35) (oi := { dst := some 4, op := Op.assign (Operand.tmp 85), type := 4, pos := "law.go:69", after := #[{ on := 34, ground := Ground.data }, { on := 28, ground := Ground.chain }, { on := 0, ground := Ground.phase }, { on := 1, ground := Ground.phase }, { on := 2, ground := Ground.phase }, { on := 3, ground := Ground.phase }, { on := 4, ground := Ground.phase }, { on := 5, ground := Ground.phase }, { on := 6, ground := Ground.phase }, { on := 7, ground := Ground.phase }, { on := 8, ground := Ground.phase }, { on := 9, ground := Ground.phase }, { on := 10, ground := Ground.phase }, { on := 11, ground := Ground.phase }, { on := 12, ground := Ground.phase }, { on := 13, ground := Ground.phase }, { on := 14, ground := Ground.phase }, { on := 15, ground := Ground.phase }, { on := 16, ground := Ground.phase }, { on := 17, ground := Ground.phase }, { on := 18, ground := Ground.phase }, { on := 19, ground := Ground.phase }, { on := 20, ground := Ground.phase }, { on := 21, ground := Ground.phase }, { on := 22, ground := Ground.phase }, { on := 23, ground := Ground.phase }, { on := 24, ground := Ground.phase }, { on := 25, ground := Ground.phase }, { on := 26, ground := Ground.phase }, { on := 27, ground := Ground.phase }, { on := 28, ground := Ground.phase }, { on := 29, ground := Ground.phase }, { on := 30, ground := Ground.phase }, { on := 31, ground := Ground.phase }, { on := 32, ground := Ground.phase }, { on := 33, ground := Ground.phase }, { on := 34, ground := Ground.phase }], guard := none }) (v := ?_) rfl (by kernel_rfl) (by kernel_rfl) (by kernel_rfl) (fun _ _ _ h => h) (Or.inl ⟨by rfl, ?_⟩) (by assumption) ?_
    rotate_left
    · (intro w hSw; (try dsimp only at hSw); go_simp; first | done | with_reducible rfl)
    try simp only [Act.put, List.setIfInBounds_toArray, List.set_cons_zero, List.set_cons_succ]
    refine wpAnyH_done (by kernel_rfl) ?_ _
    have HB8 := Lib.hid (HB6.out.trans ((bel_dr hb7).trans (hb8.mono hb7.size) |>.mono HB6.out.size))
    clear hb7 hb8
    go_wp2_with fail
    go_ret
    exact ⟨rfl, HB8.out⟩
end Go.Proofs.YtoploimpfhnanaaDoor

namespace Go.Proofs.YtoploimpfhnanaaDoor
open Go.ChangeShapes Go.WideShapes Go.ChangeAt Go.RowKit Go.Joins Go.Deep

theorem frameTells_reads (os : Os) {H : Type} (enc : TypeId × Value → H) : ∃ places, DataW.whole enc Tryd.prog ((laidWorld os).forCall (fun _ _ => 0) ⟨#[], #[.agg #[.int .i64 0, .int .i64 0, .int .i64 0, .int .i64 0, .int .i64 0, .int .i64 0, .string ⟨#[]⟩, .bool false], .string ⟨#[]⟩], []⟩).memory Tryd.f6.params.toList Rows.frameTellsSpec.vars false (#[Value.agg #[.int .i64 0, .int .i64 0, .int .i64 0, .int .i64 0, .int .i64 0, .int .i64 0, .string ⟨#[]⟩, .bool false], Value.string ⟨#[]⟩] : Array Value).toList 8 = some ([.agg [.lit (.int .i64 0), .lit (.int .i64 0), .lit (.int .i64 0), .lit (.int .i64 0), .lit (.int .i64 0), .lit (.int .i64 0), .lit (.string []), .lit (.bool false)], .lit (.string [])], [], places) :=
  ⟨[], by kernel_rfl⟩
set_option maxRecDepth 100000 in
theorem frameTells_lifted (os : Os) (started : os.Started) (H : Type) (enc : TypeId × Value → H) (F : Stop.Interp) :
    ReturnsInHanded {} Tryd.checked os 6 .any ((OpenSpec.ofChange Rows.frameTellsSpec).preRow enc Tryd.prog Tryd.f6 Rows.frameTellsRow.domain false Rows.frameTellsRow.laid) (((OpenSpec.ofChange Rows.frameTellsSpec).at F).post enc Tryd.prog Tryd.f6 false true false false) := by
  obtain ⟨places, hx⟩ := frameTells_reads os enc
  refine returnsInHanded_of_row (C := Tryd.checked) (s := OpenSpec.ofChange Rows.frameTellsSpec) own_ started (by kernel_rfl) Tryd.func6
    (witness_row_at (enc := enc) (C := Tryd.checked) false (laidWorld os) #[.agg #[.int .i64 0, .int .i64 0, .int .i64 0, .int .i64 0, .int .i64 0, .int .i64 0, .string ⟨#[]⟩, .bool false], .string ⟨#[]⟩] rfl (by kernel_rfl) (by kernel_rfl) (by kernel_rfl)
      (OpenSpec.preRow_of_cond 8 hx (by kernel_rfl) (fun k hk => by cases hk) (by kernel_rfl) (laid_met os _))) ?_
  intro W base args ds gs before hval hW0 _ _ _ _ _ _
  have hW : DataW.Whole enc Tryd.prog Tryd.f6.params.toList Rows.frameTellsSpec.vars false W args.toList ds gs before := hW0
  have hW' := hW
  have hbl : ∀ p ∈ before, p.block < W.heap.size := fun p hp => hW.lt p hp
  obtain ⟨p, q, hA0, hV, rfl, hfz, hnd⟩ := hW
  have hA : DataW.TrodAll enc Tryd.prog W 0 (fun _ => true) true Tryd.f6.params.toList args.toList ds p := hA0
  have hall := hA
  have hval' : ∀ (j : Nat) t v, Tryd.f6.params[j]? = some t → args[j]? = some v → Value.okWide Tryd.prog W .any base t v := hval
  rw [Tryd.params6] at hA hval'
  obtain ⟨v0, r0, d0, e0, p0, q0, hargs0, rfl, rfl, h0, hA⟩ := trodAll_cons hA
  obtain ⟨v1, r1, d1, e1, p1, q1, hargs1, rfl, rfl, h1, hA⟩ := trodAll_cons hA
  obtain ⟨rfl, rfl, rfl⟩ := trodAll_nil hA
  subst hargs1
  obtain rfl : args = #[v0, v1] := by cases args; simp_all
  obtain ⟨rfl, rfl⟩ := trodVars_none hV
  obtain ⟨a1, rfl, rfl, rfl, w1⟩ := Go.ChangeMaps.open_string Tryd.underlying9 (hval' 1 9 v1 rfl rfl) h1
  obtain ⟨fr0, rfl, hfr0⟩ := open_frame (hval' 0 58 v0 rfl rfl) h0
  clear hA0 hval'
  refine (frameTells_any fr0 a1 W hfr0 w1).mono fun e W' ⟨he, hb⟩ => ?_
  subst he
  refine ⟨_, rfl, post_of_below (pv := []) hW' (fun _ _ _ => trodAll_mk1 (shut_bool Tryd.underlying4 _)) (fun sp hsp => ?_) (fun _ _ => rfl) rfl hb (ok_one (by kernel_rfl) rfl (okWide_bool_mk Tryd.underlying4 _))⟩
  exact trodAll_stays laidOut_ _ _ _ _ (fun t ht => by
    rw [Tryd.params6] at ht
    simp at ht
    rcases ht with rfl | rfl <;> exact ⟨by kernel_rfl, of_decide_eq_true (by kernel_rfl)⟩) hall (fun x hx => hb.same (hbl x (by simpa using hx))) (fun x hx => hsp x (by simpa using hx))

theorem frameTells_said : Rows.FrameTellsSaid :=
  OpenClaim.holds_of_cond 6 Tryd.f6 rfl rfl rfl rfl rfl rfl rfl ⟨rfl, rfl, rfl, rfl, rfl⟩ rfl rfl rfl rfl rfl (by kernel_rfl) Tryd.func6 (by kernel_rfl)
    (of_decide_eq_true (by kernel_rfl)) (by unfold Func.isWrapper; first | (rw [if_pos (by decide +kernel)]; kernel_rfl) | (rw [if_neg (by decide +kernel)]; exact ⟨rfl, rfl⟩))
    (fun os started H enc _ F => by rw [OpenClaim.pre_eq_preRow]; exact frameTells_lifted os started H enc F)
theorem frameTells_plain (f : FuncId) (fn : Func) (hf : Tryd.pinned.checked.prog.funcNamed "commons/commonslaw15.FrameTells" = some f) (hfn : Tryd.pinned.checked.prog.funcs[f]? = some fn) :
    false = Tryd.pinned.checked.prog.looks [] ∧ ∀ (j : Nat) t, fn.params[j]? = some t → Tryd.pinned.checked.prog.wantsStandIn t = false := by
  obtain rfl : f = 6 := Option.some.inj ((show Tryd.prog.funcNamed "commons/commonslaw15.FrameTells" = some 6 by kernel_rfl).symm.trans hf) |>.symm
  obtain rfl : fn = Tryd.f6 := (Option.some.inj (Tryd.func6.symm.trans hfn)).symm
  refine ⟨by kernel_rfl, fun j t ht => ?_⟩
  have hm := Array.mem_of_getElem? ht
  rw [Tryd.params6] at hm
  simp at hm
  rcases hm with rfl | rfl <;> exact (show Tryd.prog.wantsStandIn _ = false by kernel_rfl)
theorem frameTells_card : Rows.FrameTellsCardSaid :=
  Claim7.holds_tied_plain_at .later [] _ _ _ _ frameTells_said (fun _ h => by cases h) (by kernel_rfl) (fun _ h => by cases h) frameTells_row_tie rfl ⟨rfl, rfl⟩ (by kernel_rfl) rfl frameTells_plain (by kernel_rfl)
end Go.Proofs.YtoploimpfhnanaaDoor
