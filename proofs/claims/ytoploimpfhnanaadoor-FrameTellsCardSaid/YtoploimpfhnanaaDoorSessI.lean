/- The law's first call, whose answer the document fixes: alive() returns true. -/
import Derived.Test.YtoploimpfhnanaaDoorSessH
namespace Go.Proofs.YtoploimpfhnanaaDoor
open Go.RowKit

namespace AlS
def X : ByteArray := ⟨#[120]⟩
def A1 : St := ⟨1, 2, 1, 0, [⟨1, X, false, 0⟩], 1, 0, [], false⟩
def f1 : Fr := ⟨1, 2, 1, 0, 1, 0, X, true⟩
def A2 : St := ⟨1, 2, 1, 0, [⟨1, X, true, 0⟩], 1, 0, [], false⟩
def B1 : St := ⟨2, 1, 1, 1, [], 0, 0, [], true⟩
def g1 : Fr := ⟨2, 1, 1, 1, 0, 0, ⟨#[]⟩, false⟩
def B2 : St := ⟨2, 1, 1, 1, [], 0, 0, [], false⟩
def A3 : St := ⟨1, 2, 1, 1, [⟨1, X, false, 0⟩], 1, 0, [], false⟩
def f2 : Fr := ⟨1, 2, 1, 1, 1, 0, X, true⟩
def A4 : St := ⟨1, 2, 1, 1, [⟨1, X, true, 0⟩], 1, 0, [], false⟩
def B3 : St := ⟨2, 1, 1, 1, [], 0, 1, [], true⟩
theorem o1 : A1.outF = [f1] := rfl
theorem o1' : A1.outS = A2 := rfl
theorem t1 : (St.new 2 1 1).takeF f1 = ([], B1) := rfl
theorem o2 : B1.outF = [g1] := rfl
theorem o2' : B1.outS = B2 := rfl
theorem t2 : A2.takeF g1 = ([], A3) := rfl
theorem o3 : A3.outF = [f2] := rfl
theorem o3' : A3.outS = A4 := rfl
theorem t3 : B2.takeF f2 = ([X], B3) := rfl
theorem s1 : ({ St.new 1 2 1 with last := (St.new 1 2 1).last + 1, out := (St.new 1 2 1).out ++ [⟨(St.new 1 2 1).last + 1, X, false, 0⟩] } : St) = A1 := rfl
end AlS

/-- two sessions side by side, of colours 1 and 4 -/
structure Two (o : Nat → Nat) (w0 w : World) (pa : Nat) (a : St) (pb : Nat) (b : St) : Prop where
  sa : SessAt o 1 w pa a
  sb : SessAt o 4 w pb b
  fut : Fut o w
  low : Below w0.heap.size w0 w
  old : ∀ k, k < w0.heap.size → o k = 0
theorem Two.stepA {o o' : Nat → Nat} {w0 w w' : World} {pa pb : Nat} {a b a' : St} (h : Two o w0 w pa a pb b) (ha : SessAt o' 1 w' pa a') (hs : Step o (trio 1) w o' w') : Two o' w0 w' pa a' pb b :=
  ⟨ha, h.sb.step hs (by unfold trio; omega) (by unfold trio; omega) (by unfold trio; omega), h.fut.step hs, h.low.trans (hs.below (fun k hk => by rw [h.old k hk]; unfold trio; omega) h.low.size), fun k hk => (hs.old k (Nat.lt_of_lt_of_le hk h.low.size)).trans (h.old k hk)⟩
theorem Two.stepB {o o' : Nat → Nat} {w0 w w' : World} {pa pb : Nat} {a b b' : St} (h : Two o w0 w pa a pb b) (hb : SessAt o' 4 w' pb b') (hs : Step o (trio 4) w o' w') : Two o' w0 w' pa a pb b' :=
  ⟨h.sa.step hs (by unfold trio; omega) (by unfold trio; omega) (by unfold trio; omega), hb, h.fut.step hs, h.low.trans (hs.below (fun k hk => by rw [h.old k hk]; unfold trio; omega) h.low.size), fun k hk => (hs.old k (Nat.lt_of_lt_of_le hk h.low.size)).trans (h.old k hk)⟩

set_option maxRecDepth 100000 in
set_option maxHeartbeats 4000000 in
theorem alive_any (w : World) : Calls Tryd.prog 32 #[] w fun e w' => e = .returned (.bool true) ∧ Below w.heap.size w w' := by
  go_enter Tryd.func32, Tryd.ntmps32
  go_wp2_with fail
  refine (snew_any (fun _ => 0) 1 1 2 1 _).mono ?_
  rintro e w1 ⟨pa, o1, rfl, ha, hb1, hs1⟩
  have HA := Lib.hid ha
  have HS1 := Lib.hid (hs1 (fun _ => False))
  clear ha hs1
  go_wp2_with fail
  refine (snew_any o1 4 2 1 1 _).mono ?_
  rintro e w2 ⟨pb, o2, rfl, hb, hb2, hs2⟩
  have h2 : Two o2 w w2 pa (St.new 1 2 1) pb (St.new 2 1 1) := by
    have hz := hs2 (fun _ => False)
    exact ⟨HA.out.step hz (by simp) (by simp) (by simp), hb, ((show Fut (fun _ => 0) w from fun _ _ => rfl).step HS1.out).step hz, hb1.trans (hb2.mono hb1.size), fun k hk => (hz.old k (Nat.lt_of_lt_of_le hk hb1.size)).trans (HS1.out.old k hk)⟩
  have H2 := Lib.hid h2
  clear h2 hb hs2 HA HS1 hb1 hb2
  go_wp2_with fail
  refine (send_ok H2.out.sa AlS.X (by decide) (by decide) ⟨by decide, by decide⟩).mono ?_
  rintro e w3 ⟨rfl, o3, hs3, hst3⟩
  rw [AlS.s1] at hs3
  have H3 := Lib.hid (H2.out.stepA hs3 hst3)
  clear hs3 hst3
  go_wp2_with fail
  refine (out_as (d := 10) H3.out.sa H3.out.fut (by omega) (by omega) (by omega) (by decide) AlS.o1 AlS.o1').mono ?_
  rintro e w4 ⟨A4, cap4, o4, rfl, hl4, hcap4, hs4, hst4⟩
  have H4 := Lib.hid (H3.out.stepA hs4 hst4)
  have HL4 := Lib.hid hl4
  have HST4 := Lib.hid hst4
  clear hs4 hst4 hl4
  obtain ⟨g4, rfl, hg4, hc4⟩ := HL4.out.addr (by decide)
  have x0 := HL4.out.at_ (j := 0) (u := .int .i64 AlS.f1.From) rfl
  have x1 := HL4.out.at_ (j := 1) (u := .int .i64 AlS.f1.To) rfl
  have x2 := HL4.out.at_ (j := 2) (u := .int .i64 AlS.f1.Mine) rfl
  have x3 := HL4.out.at_ (j := 3) (u := .int .i64 AlS.f1.Yours) rfl
  have x4 := HL4.out.at_ (j := 4) (u := .int .i64 AlS.f1.Seq) rfl
  have x5 := HL4.out.at_ (j := 5) (u := .int .i64 AlS.f1.Ack) rfl
  have x6 := HL4.out.at_ (j := 6) (u := .string AlS.f1.Data) rfl
  have x7 := HL4.out.at_ (j := 7) (u := .bool AlS.f1.Has) rfl
  go_wp2_with fail
  refine (take_as (d := 11) (f := AlS.f1) H4.out.sb H4.out.fut (by omega) (by omega) (by omega) (by decide) rfl rfl (by decide) (by decide) (by decide) (by decide) (by decide) (by decide) (by decide) AlS.t1).mono ?_
  rintro e w5 ⟨A5, cap5, o5, rfl, hl5, hcap5, hs5, hst5⟩
  have H5 := Lib.hid (H4.out.stepB hs5 hst5)
  have HL5 := Lib.hid hl5
  have HST5 := Lib.hid hst5
  clear hs5 hst5 hl5 x0 x1 x2 x3 x4 x5 x6 x7
  go_wp2_with fail
  refine (out_as (d := 12) H5.out.sb H5.out.fut (by omega) (by omega) (by omega) (by decide) AlS.o2 AlS.o2').mono ?_
  rintro e w6 ⟨A6, cap6, o6, rfl, hl6, hcap6, hs6, hst6⟩
  have H6 := Lib.hid (H5.out.stepB hs6 hst6)
  have HL6 := Lib.hid hl6
  have HST6 := Lib.hid hst6
  clear hs6 hst6 hl6
  obtain ⟨g6, rfl, hg6, hc6⟩ := HL6.out.addr (by decide)
  have y0 := HL6.out.at_ (j := 0) (u := .int .i64 AlS.g1.From) rfl
  have y1 := HL6.out.at_ (j := 1) (u := .int .i64 AlS.g1.To) rfl
  have y2 := HL6.out.at_ (j := 2) (u := .int .i64 AlS.g1.Mine) rfl
  have y3 := HL6.out.at_ (j := 3) (u := .int .i64 AlS.g1.Yours) rfl
  have y4 := HL6.out.at_ (j := 4) (u := .int .i64 AlS.g1.Seq) rfl
  have y5 := HL6.out.at_ (j := 5) (u := .int .i64 AlS.g1.Ack) rfl
  have y6 := HL6.out.at_ (j := 6) (u := .string AlS.g1.Data) rfl
  have y7 := HL6.out.at_ (j := 7) (u := .bool AlS.g1.Has) rfl
  go_wp2_with fail
  refine (take_as (d := 11) (f := AlS.g1) H6.out.sa H6.out.fut (by omega) (by omega) (by omega) (by decide) rfl rfl (by decide) (by decide) (by decide) (by decide) (by decide) (by decide) (by decide) AlS.t2).mono ?_
  rintro e w7 ⟨A7, cap7, o7, rfl, hl7, hcap7, hs7, hst7⟩
  have H7 := Lib.hid (H6.out.stepA hs7 hst7)
  have HL7 := Lib.hid hl7
  have HST7 := Lib.hid hst7
  clear hs7 hst7 hl7 y0 y1 y2 y3 y4 y5 y6 y7
  go_wp2_with fail
  refine (out_as (d := 10) H7.out.sa H7.out.fut (by omega) (by omega) (by omega) (by decide) AlS.o3 AlS.o3').mono ?_
  rintro e w8 ⟨A8, cap8, o8, rfl, hl8, hcap8, hs8, hst8⟩
  have H8 := Lib.hid (H7.out.stepA hs8 hst8)
  have HL8 := Lib.hid hl8
  have HST8 := Lib.hid hst8
  clear hs8 hst8 hl8
  obtain ⟨g8, rfl, hg8, hc8⟩ := HL8.out.addr (by decide)
  have z0 := HL8.out.at_ (j := 0) (u := .int .i64 AlS.f2.From) rfl
  have z1 := HL8.out.at_ (j := 1) (u := .int .i64 AlS.f2.To) rfl
  have z2 := HL8.out.at_ (j := 2) (u := .int .i64 AlS.f2.Mine) rfl
  have z3 := HL8.out.at_ (j := 3) (u := .int .i64 AlS.f2.Yours) rfl
  have z4 := HL8.out.at_ (j := 4) (u := .int .i64 AlS.f2.Seq) rfl
  have z5 := HL8.out.at_ (j := 5) (u := .int .i64 AlS.f2.Ack) rfl
  have z6 := HL8.out.at_ (j := 6) (u := .string AlS.f2.Data) rfl
  have z7 := HL8.out.at_ (j := 7) (u := .bool AlS.f2.Has) rfl
  go_wp2_with fail
  refine (take_as (d := 11) (f := AlS.f2) H8.out.sb H8.out.fut (by omega) (by omega) (by omega) (by decide) rfl rfl (by decide) (by decide) (by decide) (by decide) (by decide) (by decide) (by decide) AlS.t3).mono ?_
  rintro e w9 ⟨A9, cap9, o9, rfl, hl9, hcap9, hs9, hst9⟩
  have H9 := Lib.hid (H8.out.stepB hs9 hst9)
  have HL9 := Lib.hid hl9
  have HST9 := Lib.hid hst9
  clear hs9 hst9 hl9 z0 z1 z2 z3 z4 z5 z6 z7
  obtain ⟨g9, rfl, hg9, hc9⟩ := HL9.out.addr (by decide)
  have v0 := HL9.out.at_ (j := 0) (u := .string AlS.X) rfl
  go_wp2_with fail
  go_ret
  have hX : (AlS.X.toList == [120]) = true := by decide +kernel
  refine ⟨?_, H9.out.low⟩
  show Ending.returned (.bool (AlS.X.toList == [120])) = _
  rw [hX]
end Go.Proofs.YtoploimpfhnanaaDoor
