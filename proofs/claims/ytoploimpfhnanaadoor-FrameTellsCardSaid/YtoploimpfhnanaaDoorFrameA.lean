/- Frames: when one can't be; Put lays one. -/
import Derived.Test.YtoploimpfhnanaaDoorFrameP
import Derived.Test.YtoploimpfhnanaaDoorSumB
import Derived.Test.YtoploimpfhnanaaDoorSessI
import Derived.Test.YtoploimpfhnanaaDoorWireU
namespace Go.Proofs.YtoploimpfhnanaaDoor
open Go.RowKit

def m2 (x y : Int) : Int := if y < x then y else x
def mn6 (a b c d e g : Int) : Int := m2 (m2 (m2 (m2 (m2 a b) c) d) e) g
theorem m2_neg (x y : Int) : m2 x y < 0 ↔ x < 0 ∨ y < 0 := by unfold m2; split <;> omega
theorem mn6_neg (a b c d e g : Int) : mn6 a b c d e g < 0 ↔ a < 0 ∨ b < 0 ∨ c < 0 ∨ d < 0 ∨ e < 0 ∨ g < 0 := by
  unfold mn6
  simp only [m2_neg, or_assoc]
theorem run_min6 (P : Program) (w : World) (ts : Array TypeId) (t : TypeId) (a b c d e g : Int) : (Builtin.min_ ts t #[.int .i64 a, .int .i64 b, .int .i64 c, .int .i64 d, .int .i64 e, .int .i64 g]).run P w = .ok (.int .i64 (mn6 a b c d e g)) w := by
  simp [Builtin.min_, Builtin.min2]
  rfl
set_option maxRecDepth 100000 in
set_option maxHeartbeats 1000000 in
theorem fwrong_any (f : Fr) (w : World) (hd : f.Data.size ≤ maxLen) : Calls Tryd.prog 58 #[f.agg] w fun e w' => e = .returned (.int .i64 f.wrongE) ∧ Below w.heap.size w w' := by
  unfold maxLen at hd
  obtain ⟨a, b, c, d, e, g, D, h⟩ := f
  simp only at hd
  unfold Fr.agg
  have hmn := fun w ts t => run_min6 Tryd.prog w ts t a b c d e g
  by_cases h1 : a < 0 ∨ b < 0 ∨ c < 0 ∨ d < 0 ∨ e < 0 ∨ g < 0
  · have e1 : Fr.wrongE ⟨a, b, c, d, e, g, D, h⟩ = 1 := if_pos (by unfold Fr.bad; simp only; omega)
    have hneg : mn6 a b c d e g < 0 := (mn6_neg a b c d e g).2 h1
    rw [e1]
    clear e1 h1
    generalize mn6 a b c d e g = m at hmn hneg
    go_enter Tryd.func58, Tryd.ntmps58
    go_wp2_with fail
    go_ret
    exact ⟨rfl, (Below.refl _ _).alloc (Nat.le_refl _) _⟩
  · have hneg : ¬ mn6 a b c d e g < 0 := fun h => h1 ((mn6_neg a b c d e g).1 h)
    generalize mn6 a b c d e g = m at hmn hneg
    by_cases h2 : 65535 < a ∨ 65535 < b
    · have e1 : Fr.wrongE ⟨a, b, c, d, e, g, D, h⟩ = 1 := if_pos (by unfold Fr.bad; simp only; omega)
      rw [e1]
      have hmx : 65535 < (if b > a then b else a) := by split <;> omega
      clear e1 h1 h2
      have hmb : ∀ (w : World) (ts : Array TypeId) (t : TypeId), (Builtin.max_ ts t #[.int .i64 a, .int .i64 b]).run Tryd.prog w = .ok (.int .i64 (if b > a then b else a)) w := fun w ts t => by simp [Builtin.max_, Builtin.max2]
      generalize (if b > a then b else a) = x at hmx hmb
      go_enter Tryd.func58, Tryd.ntmps58
      go_wp2_with fail
      go_ret
      exact ⟨rfl, (Below.refl _ _).alloc (Nat.le_refl _) _⟩
    · have hnb : ¬ Fr.bad ⟨a, b, c, d, e, g, D, h⟩ := by unfold Fr.bad; simp only; omega
      have hmx : ¬ 65535 < (if b > a then b else a) := by split <;> omega
      have hmb : ∀ (w : World) (ts : Array TypeId) (t : TypeId), (Builtin.max_ ts t #[.int .i64 a, .int .i64 b]).run Tryd.prog w = .ok (.int .i64 (if b > a then b else a)) w := fun w ts t => by simp [Builtin.max_, Builtin.max2]
      generalize (if b > a then b else a) = x at hmx hmb
      by_cases h3 : 3000 < D.size
      · have e1 : Fr.wrongE ⟨a, b, c, d, e, g, D, h⟩ = 2 := by unfold Fr.wrongE; rw [if_neg hnb, if_pos h3]
        have h3I : (3000 : Int) < (D.size : Int) := by omega
        rw [e1]
        clear e1 h1 h2 hnb
        go_enter Tryd.func58, Tryd.ntmps58
        go_wp2_with fail
        go_ret
        exact ⟨rfl, (Below.refl _ _).alloc (Nat.le_refl _) _⟩
      · have e1 : Fr.wrongE ⟨a, b, c, d, e, g, D, h⟩ = 0 := by unfold Fr.wrongE; rw [if_neg hnb, if_neg h3]
        have h3I : ¬ (3000 : Int) < (D.size : Int) := by omega
        rw [e1]
        clear e1 h1 h2 hnb
        go_enter Tryd.func58, Tryd.ntmps58
        go_wp2_with fail
        go_ret
        exact ⟨rfl, (Below.refl _ _).alloc (Nat.le_refl _) _⟩
section
variable {o : Nat → Nat} {w0 w : World} {p : Nat} {bs : List UInt8}
theorem wbytes_ok2 (h : Wg o w0 w p bs) : Calls Tryd.prog 39 #[.pointer (some ⟨p, 0, none⟩)] w fun r w' => r = .returned (.tuple #[.string (str bs), .int .i64 0]) ∧ Wg o w0 w' p bs ∧ Below w.heap.size w w' := by
  refine (wbytes_any h.wr).mono ?_
  rintro e w1 ⟨rfl, hb⟩
  exact ⟨rfl, h.below_ hb, hb⟩
def b01 (b : Bool) : Nat := if b then 1 else 0
theorem wflag_ok (h : Wg o w0 w p bs) (b : Bool) (hb : bs.length ≤ 1000000000) :
    Calls Tryd.prog 44 #[.pointer (some ⟨p, 0, none⟩), .bool b] w fun r w' => r = .returned (.pointer (some ⟨p, 0, none⟩)) ∧ ∃ o', Wg o' w0 w' p (bs ++ le (b01 b) 1) ∧ Step o (only 1) w o' w' := by
  refine (wflag_any h.wr b hb).mono ?_
  rintro e w1 ⟨rfl, o1, hw, hs⟩
  have e1 : Wr.flag ⟨bs, 0⟩ b = ⟨bs ++ le (b01 b) 1, 0⟩ := Wr.num_ok rfl ⟨by omega, by omega, by cases b <;> decide⟩
  rw [e1] at hw
  exact ⟨rfl, o1, h.next hw hs, hs⟩
theorem wtext_ok (h : Wg o w0 w p bs) (s : ByteArray) (n : Int) (h0 : (s.size : Int) ≤ n) (h1 : n ≤ 60000) (hb : bs.length ≤ 1000000000) :
    Calls Tryd.prog 43 #[.pointer (some ⟨p, 0, none⟩), .string s, .int .i64 n] w fun r w' => r = .returned (.pointer (some ⟨p, 0, none⟩)) ∧ ∃ o', Wg o' w0 w' p (bs ++ le s.size 2 ++ s.data.toList) ∧ Step o (only 1) w o' w' := by
  refine (wtext_any h.wr s n (by omega) hb).mono ?_
  rintro e w1 ⟨rfl, o1, hw, hs⟩
  rw [Wr.text_ok rfl h0 h1] at hw
  exact ⟨rfl, o1, h.next hw hs, hs⟩
end
theorem wrapu_big {v : Nat} (h : v ≤ 9223372036854775807) : IntKind.u64.wrap (v : Int) = (v : Int) := by rw [IntKind.wrap_u64]; omega
def Fr.i64s (f : Fr) : Prop := i64' f.From ∧ i64' f.To ∧ i64' f.Mine ∧ i64' f.Yours ∧ i64' f.Seq ∧ i64' f.Ack ∧ f.Data.size ≤ maxLen
theorem Fr.nats {f : Fr} (hi : f.i64s) (h : f.wrongE = 0) : ∃ (a b c d e g : Nat), f = ⟨a, b, c, d, e, g, f.Data, f.Has⟩ ∧ a ≤ 65535 ∧ b ≤ 65535 ∧ c ≤ 9223372036854775807 ∧ d ≤ 9223372036854775807 ∧ e ≤ 9223372036854775807 ∧ g ≤ 9223372036854775807 := by
  obtain ⟨⟨_, _⟩, ⟨_, _⟩, ⟨_, q3⟩, ⟨_, q4⟩, ⟨_, q5⟩, ⟨_, q6⟩, _⟩ := hi
  obtain ⟨hb, _⟩ := wrongE_zero h
  unfold Fr.bad at hb
  refine ⟨f.From.toNat, f.To.toNat, f.Mine.toNat, f.Yours.toNat, f.Seq.toNat, f.Ack.toNat, ?_, by omega, by omega, by omega, by omega, by omega, by omega⟩
  cases f
  simp only [Fr.mk.injEq, and_true] at *
  omega
set_option maxRecDepth 100000 in
set_option maxHeartbeats 4000000 in
theorem fput_ok (a b c d e g : Nat) (D : ByteArray) (h : Bool) (w : World) (ha : a ≤ 65535) (hb : b ≤ 65535) (hc : c ≤ 9223372036854775807) (hd : d ≤ 9223372036854775807) (he : e ≤ 9223372036854775807) (hg : g ≤ 9223372036854775807) (hD : D.size ≤ 3000) :
    Calls Tryd.prog 33 #[.agg #[.int .i64 (a : Int), .int .i64 (b : Int), .int .i64 (c : Int), .int .i64 (d : Int), .int .i64 (e : Int), .int .i64 (g : Int), .string D, .bool h]] w fun e' w' => e' = .returned (.tuple #[.string (str (sealL (Fr.body ⟨a, b, c, d, e, g, D, h⟩))), .int .i64 0]) ∧ Below w.heap.size w w' := by
  have hw0 : Fr.wrongE ⟨a, b, c, d, e, g, D, h⟩ = 0 := by
    unfold Fr.wrongE
    rw [if_neg (by unfold Fr.bad; simp only; omega), if_neg (by simp only; omega)]
  have HW0 := Lib.hid hw0
  have HDM := Lib.hid (show D.size ≤ maxLen by unfold maxLen; omega)
  have HNA := Lib.hid (show numOk a 2 from ⟨by omega, by omega, by simp; omega⟩)
  have HNB := Lib.hid (show numOk b 2 from ⟨by omega, by omega, by simp; omega⟩)
  have HNC := Lib.hid (show numOk c 8 from ⟨by omega, by omega, by simp; omega⟩)
  have HND := Lib.hid (show numOk d 8 from ⟨by omega, by omega, by simp; omega⟩)
  have HNE := Lib.hid (show numOk e 8 from ⟨by omega, by omega, by simp; omega⟩)
  have HNG := Lib.hid (show numOk g 8 from ⟨by omega, by omega, by simp; omega⟩)
  have HA6 := Lib.hid (show a < 18446744073709551616 by omega)
  have HB6 := Lib.hid (show b < 18446744073709551616 by omega)
  have HC6 := Lib.hid (show c < 18446744073709551616 by omega)
  have HD6 := Lib.hid (show d < 18446744073709551616 by omega)
  have HE6 := Lib.hid (show e < 18446744073709551616 by omega)
  have HG6 := Lib.hid (show g < 18446744073709551616 by omega)
  have wa := wrapu_big (v := a) (by omega)
  have wb := wrapu_big (v := b) (by omega)
  have wc := wrapu_big hc
  have wd := wrapu_big hd
  have we := wrapu_big he
  have wg := wrapu_big hg
  have HBL := Lib.hid (show ∀ l : List UInt8, l.length ≤ 100 → l.length ≤ 1000000000 from fun l h => by omega)
  have HDI := Lib.hid (show (D.size : Int) ≤ 3000 by omega)
  have H36 := Lib.hid (show (3000 : Int) ≤ 60000 by omega)
  have HN0 := Lib.hid (show ¬ only 1 0 by unfold only; omega)
  have HWB := Lib.hid (show (Fr.body ⟨a, b, c, d, e, g, D, h⟩).length ≤ 100000 by rw [body_len]; simp only; omega)
  clear hw0 hc hd he hg
  go_enter Tryd.func33, Tryd.ntmps33
  go_wp2_with fail
  refine (fwrong_any ⟨a, b, c, d, e, g, D, h⟩ _ HDM.out).mono ?_
  rintro e1 w1 ⟨rfl, hb1⟩
  rw [HW0.out]
  have hb0 := (Below.refl w.heap.size w).alloc (Nat.le_refl _) (.cells #[.int .i64 (a : Int), .int .i64 (b : Int), .int .i64 (c : Int), .int .i64 (d : Int), .int .i64 (e : Int), .int .i64 (g : Int), .string D, .bool h] 58)
  obtain ⟨o2, hw2, hs2⟩ := Wg.start (w0 := w) (hb0.trans (hb1.mono hb0.size))
  have hk2 : Keep o2 _ _ _ _ := Keep.step (o := fun _ => 0) ⟨(Blk.new w 58 #[.int .i64 (a : Int), .int .i64 (b : Int), .int .i64 (c : Int), .int .i64 (d : Int), .int .i64 (e : Int), .int .i64 (g : Int), .string D, .bool h]).below_ hb1, rfl⟩ (hs2 (fun _ => False)) (by simp)
  have HW2 := Lib.hid hw2
  have HK2 := Lib.hid hk2
  clear hb0 hb1 hw2 hs2 hk2
  go_upto_region 5 with (fail)
  generalize w1.alloc (.cells #[.slice none 0 0, .int .i64 0] 71) = W at HW2 HK2 ⊢
  generalize w1.heap.size = p at HW2 ⊢
  generalize w.heap.size = q at HK2 ⊢
  obtain ⟨x0, x1, x2, x3, x4, x5, x6, x7⟩ := HK2.out.1.eight
  have HL0 := Lib.hid (HBL.out [] (by simp))
  have HL1 := Lib.hid (HBL.out ([] ++ le a (2 : Int).toNat) (by simp [le_len]))
  go_region_held3 (fun w' => w'.cell? ⟨q, 0, none⟩ = some (.int .i64 (a : Int)) ∧ w'.cell? ⟨q, 1, none⟩ = some (.int .i64 (b : Int)) ∧ w'.cell? ⟨q, 2, none⟩ = some (.int .i64 (c : Int)) ∧ w'.cell? ⟨q, 3, none⟩ = some (.int .i64 (d : Int)) ∧ w'.cell? ⟨q, 4, none⟩ = some (.int .i64 (e : Int)) ∧ w'.cell? ⟨q, 5, none⟩ = some (.int .i64 (g : Int)) ∧ w'.cell? ⟨q, 6, none⟩ = some (.string D) ∧ w'.cell? ⟨q, 7, none⟩ = some (.bool h))
    (first | exact ⟨x0, x1, x2, x3, x4, x5, x6, x7⟩ | exact hk4.1.eight | exact hk3.1.eight | go_keep)
    (first | (go_at_call 38; ((with_reducible refine (wnum_ok HW2.out.drew a 2 HNA.out HA6.out HL0.out).mono ?_); rintro e3 w3 ⟨rfl, o3, hw3, hs3⟩; have hk3 := HK2.out.drew.step hs3 HN0.out)) | (go_at_call 38; ((with_reducible refine (wnum_ok hw3 b 2 HNB.out HB6.out HL1.out).mono ?_); rintro e4 w4 ⟨rfl, o4, hw4, hs4⟩; have hk4 := hk3.step hs4 HN0.out)))
  have HW4 := Lib.hid hw4
  have HK4 := Lib.hid hk4
  clear hw3 hs3 hk3 hw4 hs4 hk4 x0 x1 x2 x3 x4 x5 x6 x7 wa wb
  go_upto_region 6 with (fail)
  obtain ⟨bs4, hbs4⟩ : ∃ bs4, bs4 = [] ++ le a (2 : Int).toNat ++ le b (2 : Int).toNat := ⟨_, rfl⟩
  rw [← hbs4] at HW4
  have hl4 : bs4.length ≤ 8 := by rw [hbs4]; simp [le_len]
  have HBS4 := Lib.hid hbs4
  have HM0 := Lib.hid (HBL.out bs4 (by omega))
  have HM1 := Lib.hid (HBL.out (bs4 ++ le c (8 : Int).toNat) (by simp [le_len]; omega))
  have HM2 := Lib.hid (HBL.out (bs4 ++ le c (8 : Int).toNat ++ le d (8 : Int).toNat) (by simp [le_len]; omega))
  have HM3 := Lib.hid (HBL.out (bs4 ++ le c (8 : Int).toNat ++ le d (8 : Int).toNat ++ le e (8 : Int).toNat) (by simp [le_len]; omega))
  have HM4 := Lib.hid (HBL.out (bs4 ++ le c (8 : Int).toNat ++ le d (8 : Int).toNat ++ le e (8 : Int).toNat ++ le g (8 : Int).toNat) (by simp [le_len]; omega))
  have HM5 := Lib.hid (HBL.out (bs4 ++ le c (8 : Int).toNat ++ le d (8 : Int).toNat ++ le e (8 : Int).toNat ++ le g (8 : Int).toNat ++ le (b01 h) 1) (by simp [le_len]; omega))
  clear hbs4 hl4
  obtain ⟨x0, x1, x2, x3, x4, x5, x6, x7⟩ := HK4.out.1.eight
  go_region_held3 (fun w' => w'.cell? ⟨q, 0, none⟩ = some (.int .i64 (a : Int)) ∧ w'.cell? ⟨q, 1, none⟩ = some (.int .i64 (b : Int)) ∧ w'.cell? ⟨q, 2, none⟩ = some (.int .i64 (c : Int)) ∧ w'.cell? ⟨q, 3, none⟩ = some (.int .i64 (d : Int)) ∧ w'.cell? ⟨q, 4, none⟩ = some (.int .i64 (e : Int)) ∧ w'.cell? ⟨q, 5, none⟩ = some (.int .i64 (g : Int)) ∧ w'.cell? ⟨q, 6, none⟩ = some (.string D) ∧ w'.cell? ⟨q, 7, none⟩ = some (.bool h))
    (first | exact ⟨x0, x1, x2, x3, x4, x5, x6, x7⟩ | exact hk8.1.eight | exact hk7.1.eight | exact hk6.1.eight | exact hk5.1.eight | go_keep)
    (first | (go_at_call 38; ((with_reducible refine (wnum_ok HW4.out.drew c 8 HNC.out HC6.out HM0.out).mono ?_); rintro e5 w5 ⟨rfl, o5, hw5, hs5⟩; have hk5 := HK4.out.drew.step hs5 HN0.out)) | (go_at_call 38; ((with_reducible refine (wnum_ok hw5 d 8 HND.out HD6.out HM1.out).mono ?_); rintro e6 w6 ⟨rfl, o6, hw6, hs6⟩; have hk6 := hk5.step hs6 HN0.out)) | (go_at_call 38; ((with_reducible refine (wnum_ok hw6 e 8 HNE.out HE6.out HM2.out).mono ?_); rintro e7 w7 ⟨rfl, o7, hw7, hs7⟩; have hk7 := hk6.step hs7 HN0.out)) | (go_at_call 38; ((with_reducible refine (wnum_ok hw7 g 8 HNG.out HG6.out HM3.out).mono ?_); rintro e8 w8 ⟨rfl, o8, hw8, hs8⟩; have hk8 := hk7.step hs8 HN0.out)))
  have HW8 := Lib.hid hw8
  have HK8 := Lib.hid hk8
  clear hw5 hs5 hk5 hw6 hs6 hk6 hw7 hs7 hk7 hw8 hs8 hk8 x0 x1 x2 x3 x4 x5 x6 x7 wc wd we wg HW4 HK4
  go_upto_region 7 with (fail)
  obtain ⟨x0, x1, x2, x3, x4, x5, x6, x7⟩ := HK8.out.1.eight
  go_region_held3 (fun w' => w'.cell? ⟨q, 0, none⟩ = some (.int .i64 (a : Int)) ∧ w'.cell? ⟨q, 1, none⟩ = some (.int .i64 (b : Int)) ∧ w'.cell? ⟨q, 2, none⟩ = some (.int .i64 (c : Int)) ∧ w'.cell? ⟨q, 3, none⟩ = some (.int .i64 (d : Int)) ∧ w'.cell? ⟨q, 4, none⟩ = some (.int .i64 (e : Int)) ∧ w'.cell? ⟨q, 5, none⟩ = some (.int .i64 (g : Int)) ∧ w'.cell? ⟨q, 6, none⟩ = some (.string D) ∧ w'.cell? ⟨q, 7, none⟩ = some (.bool h))
    (first | exact ⟨x0, x1, x2, x3, x4, x5, x6, x7⟩ | exact hk11.1.eight | exact hk10.1.eight | exact hk9.1.eight | go_keep)
    (first | (go_at_call 44; ((with_reducible refine (wflag_ok HW8.out.drew h HM4.out).mono ?_); rintro e9 w9 ⟨rfl, o9, hw9, hs9⟩; have hk9 := HK8.out.drew.step hs9 HN0.out)) | (go_at_call 43; ((with_reducible refine (wtext_ok hw9 D 3000 HDI.out H36.out HM5.out).mono ?_); rintro e10 w10 ⟨rfl, o10, hw10, hs10⟩; have hk10 := hk9.step hs10 HN0.out)) | (go_at_call 39; ((with_reducible refine (wbytes_ok2 hw10).mono ?_); rintro e11 w11 ⟨rfl, hw11, hb11⟩; have hk11 := hk10.below_ hb11)))
  have HW11 := Lib.hid hw11
  have hbody : bs4 ++ (le c 8 ++ (le d 8 ++ (le e 8 ++ (le g 8 ++ (le (b01 h) 1 ++ (le D.size 2 ++ D.data.toList)))))) = Fr.body ⟨a, b, c, d, e, g, D, h⟩ := by
    rw [HBS4.out]
    simp [Fr.body, Fr.head, b01]
  rw [hbody]
  have hsz : (str (Fr.body ⟨a, b, c, d, e, g, D, h⟩)).size ≤ 1000000000 := by rw [str_size]; have := HWB.out; omega
  have HSZ := Lib.hid hsz
  have HSE := Lib.hid (show str (sealL (str (Fr.body ⟨a, b, c, d, e, g, D, h⟩)).data.toList) = str (sealL (Fr.body ⟨a, b, c, d, e, g, D, h⟩)) by rw [str_list])
  have HE := Lib.hid HW11.out.env.low
  clear hw9 hs9 hk9 hw10 hs10 hk10 hw11 hb11 hk11 x0 x1 x2 x3 x4 x5 x6 x7 hbody hsz
  generalize hB : str (Fr.body ⟨a, b, c, d, e, g, D, h⟩) = B at HSZ HSE ⊢
  clear hB
  go_wp2_with fail
  refine (seal_any B HSZ.out _).mono ?_
  rintro e12 w12 ⟨rfl, hb12⟩
  rw [HSE.out]
  have HB12 := Lib.hid (HE.out.trans (hb12.mono HE.out.size))
  clear hb12
  go_wp2_with fail
  go_ret2
  exact ⟨rfl, HB12.out⟩
theorem fput_no (f : Fr) (w : World) (hd : f.Data.size ≤ maxLen) (hw : f.wrongE ≠ 0) : Calls Tryd.prog 33 #[f.agg] w fun e w' => e = .returned (.tuple #[.string ⟨#[]⟩, .int .i64 f.wrongE]) ∧ Below w.heap.size w w' := by
  obtain ⟨E, hE⟩ : ∃ E, E = f.wrongE := ⟨_, rfl⟩
  rw [← hE] at hw ⊢
  have HEE := Lib.hid hE
  clear hE
  have t1 : (E != 0) = true := bne_iff_ne.2 hw
  have HD := Lib.hid hd
  have hagg : f.agg = .agg #[.int .i64 f.From, .int .i64 f.To, .int .i64 f.Mine, .int .i64 f.Yours, .int .i64 f.Seq, .int .i64 f.Ack, .string f.Data, .bool f.Has] := rfl
  have HAG := Lib.hid hagg
  rw [hagg]
  clear hagg hw
  go_enter Tryd.func33, Tryd.ntmps33
  go_wp2_with fail
  rw [← HAG.out]
  refine (fwrong_any f _ HD.out).mono ?_
  rintro e1 w1 ⟨rfl, hb1⟩
  have hb0 := (Below.refl w.heap.size w).alloc (Nat.le_refl _) (.cells #[.int .i64 f.From, .int .i64 f.To, .int .i64 f.Mine, .int .i64 f.Yours, .int .i64 f.Seq, .int .i64 f.Ack, .string f.Data, .bool f.Has] 58)
  have HB := Lib.hid (hb0.trans (hb1.mono hb0.size))
  clear hb0 hb1
  rw [← HEE.out]
  go_wp2_with fail
  go_ret2
  exact ⟨rfl, HB.out⟩
theorem fput_any (f : Fr) (w : World) (hi : f.i64s) : Calls Tryd.prog 33 #[f.agg] w fun e w' => e = .returned (.tuple #[.string f.putS, .int .i64 f.wrongE]) ∧ Below w.heap.size w w' := by
  by_cases hw : f.wrongE = 0
  · obtain ⟨a, b, c, d, e, g, hf, ha, hb, hc, hd, he, hg⟩ := Fr.nats hi hw
    have hD := (wrongE_zero hw).2
    have e1 : f.putS = str (sealL f.body) := if_pos hw
    rw [e1, hw]
    obtain ⟨A1, A2, A3, A4, A5, A6, D, h⟩ := f
    simp only [Fr.mk.injEq, and_true] at hf
    obtain ⟨rfl, rfl, rfl, rfl, rfl, rfl⟩ := hf
    exact fput_ok a b c d e g D h w ha hb hc hd he hg hD
  · have e1 : f.putS = ⟨#[]⟩ := if_neg hw
    rw [e1]
    exact fput_no f w hi.2.2.2.2.2.2 hw
end Go.Proofs.YtoploimpfhnanaaDoor
