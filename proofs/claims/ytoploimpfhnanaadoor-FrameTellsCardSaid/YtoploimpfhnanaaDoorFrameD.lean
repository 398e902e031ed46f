/- Frames, the document's: GetFrame. -/
import Derived.Test.YtoploimpfhnanaaDoorFrameB
import Derived.Test.YtoploimpfhnanaaDoorMsgX

/- Frames, the document's: four, Seal, Open, PutFrame. -/
namespace Go.Proofs.YtoploimpfhnanaaDoor
open Go.RowKit

theorem four_eq (v : Nat) : four v = [UInt8.ofNat v, UInt8.ofNat (v / 256), UInt8.ofNat (v / 65536), UInt8.ofNat (v / 16777216)] := by
  simp [four, le]
theorem u8_wrap (v : Nat) : IntKind.u8.wrap (v : Int) = ((UInt8.ofNat v).toNat : Int) := by
  rw [IntKind.wrap_u8, UInt8.toNat_ofNat']
  omega
set_option maxRecDepth 100000 in
set_option maxHeartbeats 1000000 in
theorem xfour_any (v : Nat) (hv : v < 4294967296) (w : World) : Calls Tryd.prog 88 #[.int .u32 v] w fun e w' => e = .returned (.string (str (four v))) ∧ Below w.heap.size w w' := by
  have e0 := u8_wrap v
  have e1 : IntKind.u8.wrap ((v : Int) / 256) = ((UInt8.ofNat (v / 256)).toNat : Int) := u8_wrap (v / 256)
  have e2 : IntKind.u8.wrap ((v : Int) / 65536) = ((UInt8.ofNat (v / 65536)).toNat : Int) := u8_wrap (v / 65536)
  have e3 : IntKind.u8.wrap ((v : Int) / 16777216) = ((UInt8.ofNat (v / 16777216)).toNat : Int) := u8_wrap (v / 16777216)
  have HF := Lib.hid (four_eq v)
  generalize UInt8.ofNat v = b0 at e0 HF
  generalize UInt8.ofNat (v / 256) = b1 at e1 HF
  generalize UInt8.ofNat (v / 65536) = b2 at e2 HF
  generalize UInt8.ofNat (v / 16777216) = b3 at e3 HF
  have hcv : ∀ cap, (convert 68 9 (.slice (some ⟨w.heap.size, 0, none⟩) 4 cap)).run Tryd.prog (w.alloc (.cells #[.int .u8 b0.toNat, .int .u8 b1.toNat, .int .u8 b2.toNat, .int .u8 b3.toNat] 5)) = .ok (.string (str (four v))) (w.alloc (.cells #[.int .u8 b0.toNat, .int .u8 b1.toNat, .int .u8 b2.toNat, .int .u8 b3.toNat] 5)) := fun cap => by
    rw [HF.out]
    exact conv_at (cap := cap) (l := [b0, b1, b2, b3]) (Blk.new w 5 #[.int .u8 b0.toNat, .int .u8 b1.toNat, .int .u8 b2.toNat, .int .u8 b3.toNat]) rfl rfl
  have hcv4 := hcv 4
  clear hcv
  generalize str (four v) = S at hcv4 ⊢
  go_enter Tryd.func88, Tryd.ntmps88
  go_wp2_with fail
  go_ret
  exact ⟨rfl, (Below.refl _ _).alloc (Nat.le_refl _) _⟩
theorem below_drew_of {w w1 : World} (h : Below w.drew.heap.size w.drew w1) : Below w.heap.size w w1 := ⟨h.os, h.tape, h.output, h.size, h.block⟩
theorem xval (s : ByteArray) (v : Nat) (hv : sumOf s.data.toList = v) (w : World) (hs : s.size ≤ maxLen) :
    Calls Tryd.prog 89 #[.string s] w fun e w' => e = .returned (.int .u32 (v : Int)) ∧ w = w' := hv ▸ xsum_any s w hs
theorem xseal_any (s : ByteArray) (hs : s.size ≤ 1000000000) (w : World) : Calls Tryd.prog 63 #[.string s] w fun e w' => e = .returned (.string (str (sealL s.data.toList))) ∧ Below w.heap.size w w' := by
  have h4 : (str (four (sumOf s.data.toList))).size = 4 := by rw [str_size]; simp [four, le_len]
  have hse : str (four (sumOf s.data.toList)) ++ s = str (sealL s.data.toList) := by
    have := str_append (four (sumOf s.data.toList)) s.data.toList
    rwa [str_of] at this
  rw [← hse]
  have hsl := sumOf_lt s.data.toList
  obtain ⟨v, hv⟩ : ∃ v, sumOf s.data.toList = v := ⟨_, rfl⟩
  rw [hv] at hsl h4 ⊢
  have HV := Lib.hid hv
  have HSL := Lib.hid hsl
  have HM := Lib.hid (show s.size ≤ maxLen by unfold maxLen; omega)
  clear hv hsl hse
  go_enter Tryd.func63, Tryd.ntmps63
  go_wp2_with fail
  refine (xval s v HV.out _ HM.out).mono ?_
  rintro e w2 ⟨rfl, rfl⟩
  go_wp2_with fail
  refine (xfour_any v HSL.out _).mono ?_
  rintro e w3 ⟨rfl, hb3⟩
  have HB3 := Lib.hid hb3
  clear hb3
  go_wp2_with fail
  go_ret
  exact ⟨rfl, HB3.out⟩
set_option maxRecDepth 100000 in
set_option maxHeartbeats 1000000 in
theorem xopen_any (b : ByteArray) (hs : b.size ≤ 1000000000) (w : World) : Calls Tryd.prog 65 #[.string b] w fun e w' => e = .returned (.tuple #[.string (openS b), .int .i64 (openE b.data.toList)]) ∧ Below w.heap.size w w' := by
  have hlen : b.data.toList.length = b.size := rfl
  by_cases h4 : b.size < 4
  · have e1 : openE b.data.toList = 5 := if_pos (by omega)
    have e2 : openS b = ⟨#[]⟩ := if_neg (by rw [e1]; decide)
    rw [e1, e2]
    have h4I : (b.size : Int) < 4 := by omega
    clear e1 e2 hlen h4
    go_enter Tryd.func65, Tryd.ntmps65
    go_wp2_with fail
    go_ret2
    exact ⟨rfl, Below.refl _ _⟩
  · have h4I : ¬ (b.size : Int) < 4 := by omega
    have hr : (b.extract 4 b.size).size ≤ maxLen := by rw [ByteArray.size_extract]; unfold maxLen; omega
    have HR := Lib.hid hr
    have hsl := sumOf_lt (b.extract 4 b.size).data.toList
    obtain ⟨v, hv⟩ : ∃ v, sumOf (b.extract 4 b.size).data.toList = v := ⟨_, rfl⟩
    rw [hv] at hsl
    have HSL := Lib.hid hsl
    have HV := Lib.hid hv
    have h4c : 4 ≤ b.size := by omega
    have h4d : (4 : Int) ≤ (b.size : Int) := by omega
    rw [seal_rest] at hv
    clear hr hsl hlen
    by_cases hq : four (sumOf (b.data.toList.drop 4)) = b.data.toList.take 4
    · have e1 : openE b.data.toList = 0 := by unfold openE; rw [if_neg (show ¬ b.data.toList.length < 4 from h4), if_pos hq]
      have e2 : openS b = b.extract 4 b.size := if_pos e1
      rw [e1, e2]
      have HQ := Lib.hid (show str (four v) = b.extract 0 4 by rw [← hv, hq, seal_first])
      clear e1 e2 hq h4 hv
      go_enter Tryd.func65, Tryd.ntmps65
      go_upto_region 3 with (fail)
      go_region_held3 (fun _ => True) (first | exact trivial)
        (first | (go_at_call 89; ((with_reducible refine (xval (b.extract 4 b.size) v HV.out _ HR.out).mono ?_); rintro e w1 ⟨rfl, rfl⟩)) | (go_at_call 88; ((with_reducible refine (xfour_any v HSL.out _).mono ?_); rintro e w2 ⟨rfl, hb2⟩)))
      have HB2 := Lib.hid (below_drew_of hb2)
      rw [HQ.out]
      clear hb2
      rw [beq_self_eq_true (b.extract 0 4).toList]
      go_wp2_with fail
      go_ret2
      exact ⟨rfl, HB2.out⟩
    · have e1 : openE b.data.toList = 6 := by unfold openE; rw [if_neg (show ¬ b.data.toList.length < 4 from h4), if_neg hq]
      have e2 : openS b = ⟨#[]⟩ := if_neg (by rw [e1]; decide)
      rw [e1, e2]
      have HQ := str_neq (show str (four v) ≠ b.extract 0 4 from fun e => hq (by
        rw [seal_first, ← hv] at e
        exact str_inj e))
      have HQ2 := Lib.hid HQ
      clear e1 e2 hq h4 HQ hv
      go_enter Tryd.func65, Tryd.ntmps65
      go_upto_region 3 with (fail)
      go_region_held3 (fun _ => True) (first | exact trivial)
        (first | (go_at_call 89; ((with_reducible refine (xval (b.extract 4 b.size) v HV.out _ HR.out).mono ?_); rintro e w1 ⟨rfl, rfl⟩)) | (go_at_call 88; ((with_reducible refine (xfour_any v HSL.out _).mono ?_); rintro e w2 ⟨rfl, hb2⟩)))
      have HB2 := Lib.hid (below_drew_of hb2)
      have HQ := HQ2.out
      clear hb2
      generalize str (four v) = S at HQ ⊢
      generalize b.extract 0 4 = T at HQ ⊢
      rw [HQ]
      clear HQ
      go_wp2_with fail
      go_ret2
      exact ⟨rfl, HB2.out⟩
section
variable {o : Nat → Nat} {w0 w : World} {p : Nat} {bs : List UInt8}
theorem xflag_ok (h : Xg o w0 w p bs) (b : Bool) (hb : bs.length ≤ 1000000000) :
    Calls Tryd.prog 61 #[.pointer (some ⟨p, 0, none⟩), .bool b] w fun r w' => r = .returned (.tuple #[]) ∧ ∃ o', Xg o' w0 w' p (bs ++ le (b01 b) 1) ∧ Step o (only 1) w o' w' := by
  refine (xflag_any h.wr b hb).mono ?_
  rintro e w1 ⟨rfl, o1, hw, hs⟩
  have e1 : Wr.flag ⟨bs, 0⟩ b = ⟨bs ++ le (b01 b) 1, 0⟩ := Wr.num_ok rfl ⟨by omega, by omega, by cases b <;> decide⟩
  rw [e1] at hw
  exact ⟨rfl, o1, h.next hw hs, hs⟩
theorem xtext_ok (h : Xg o w0 w p bs) (s : ByteArray) (n : Int) (h0 : (s.size : Int) ≤ n) (h1 : n ≤ 60000) (hb : bs.length ≤ 1000000000) :
    Calls Tryd.prog 62 #[.pointer (some ⟨p, 0, none⟩), .string s, .int .i64 n] w fun r w' => r = .returned (.tuple #[]) ∧ ∃ o', Xg o' w0 w' p (bs ++ le s.size 2 ++ s.data.toList) ∧ Step o (only 1) w o' w' := by
  refine (xtext_any h.wr s n (by omega) hb).mono ?_
  rintro e w1 ⟨rfl, o1, hw, hs⟩
  rw [Wr.text_ok rfl h0 h1] at hw
  exact ⟨rfl, o1, h.next hw hs, hs⟩
end
set_option maxRecDepth 100000 in
set_option maxHeartbeats 4000000 in
theorem xfput_ok (a b c d e g : Nat) (D : ByteArray) (h : Bool) (w : World) (ha : a ≤ 65535) (hb : b ≤ 65535) (hc : c ≤ 9223372036854775807) (hd : d ≤ 9223372036854775807) (he : e ≤ 9223372036854775807) (hg : g ≤ 9223372036854775807) (hD : D.size ≤ 3000) :
    Calls Tryd.prog 34 #[.agg #[.int .i64 (a : Int), .int .i64 (b : Int), .int .i64 (c : Int), .int .i64 (d : Int), .int .i64 (e : Int), .int .i64 (g : Int), .string D, .bool h]] w fun e' w' => e' = .returned (.tuple #[.string (str (sealL (Fr.body ⟨a, b, c, d, e, g, D, h⟩))), .int .i64 0]) ∧ Below w.heap.size w w' := by
  have HNA := Lib.hid (show numOk a 2 from ⟨by omega, by omega, by simp; omega⟩)
  have HNB := Lib.hid (show numOk b 2 from ⟨by omega, by omega, by simp; omega⟩)
  have HNC := Lib.hid (show numOk c 8 from ⟨by omega, by omega, by simp; omega⟩)
  have HND := Lib.hid (show numOk d 8 from ⟨by omega, by omega, by simp; omega⟩)
  have HNE := Lib.hid (show numOk e 8 from ⟨by omega, by omega, by simp; omega⟩)
  have HNG := Lib.hid (show numOk g 8 from ⟨by omega, by omega, by simp; omega⟩)
  have HA6 := Lib.hid (show a < 18446744073709551616 by omega)
  have HB6 := Lib.hid (show b < 18446744073709551616 by omega)
  have HC6 := Lib.hid (show c < 18446744073709551616 by omega)
  have HD6 := Lib.hid (show d < 18446744073709551616 by omega)
  have HE6 := Lib.hid (show e < 18446744073709551616 by omega)
  have HG6 := Lib.hid (show g < 18446744073709551616 by omega)
  have wa := wrapu_big (v := a) (by omega)
  have wb := wrapu_big (v := b) (by omega)
  have wc := wrapu_big hc
  have wd := wrapu_big hd
  have we := wrapu_big he
  have wg := wrapu_big hg
  have HBL := Lib.hid (show ∀ l : List UInt8, l.length ≤ 100 → l.length ≤ 1000000000 from fun l h => by omega)
  have HDI := Lib.hid (show (D.size : Int) ≤ 3000 by omega)
  have H36 := Lib.hid (show (3000 : Int) ≤ 60000 by omega)
  have HWB := Lib.hid (show (Fr.body ⟨a, b, c, d, e, g, D, h⟩).length ≤ 100000 by rw [body_len]; simp only; omega)
  have hmn := fun w ts t => run_min6 Tryd.prog w ts t (a : Int) b c d e g
  have hneg : ¬ mn6 a b c d e g < 0 := fun h => by have := (mn6_neg a b c d e g).1 h; omega
  have hmx : ¬ 65535 < (if (b : Int) > a then (b : Int) else a) := by split <;> omega
  have hmb : ∀ (w : World) (ts : Array TypeId) (t : TypeId), (Builtin.max_ ts t #[.int .i64 (a : Int), .int .i64 (b : Int)]).run Tryd.prog w = .ok (.int .i64 (if (b : Int) > a then (b : Int) else a)) w := fun w ts t => by simp [Builtin.max_, Builtin.max2]
  have h3I : ¬ (3000 : Int) < (D.size : Int) := by omega
  generalize mn6 a b c d e g = mm at hmn hneg
  generalize (if (b : Int) > a then (b : Int) else a) = xx at hmx hmb
  clear hc hd he hg ha hb
  go_enter Tryd.func34, Tryd.ntmps34
  go_upto_region 6 with (fail)
  have hb0 := (Below.refl w.heap.size w).alloc (Nat.le_refl _) (.cells #[.int .i64 (a : Int), .int .i64 (b : Int), .int .i64 (c : Int), .int .i64 (d : Int), .int .i64 (e : Int), .int .i64 (g : Int), .string D, .bool h] 61)
  obtain ⟨o2, hw2, hs2⟩ := Xg.start (w0 := w) hb0
  have hk2 : Keep o2 _ _ _ _ := Keep.step (o := fun _ => 0) ⟨Blk.new w 61 #[.int .i64 (a : Int), .int .i64 (b : Int), .int .i64 (c : Int), .int .i64 (d : Int), .int .i64 (e : Int), .int .i64 (g : Int), .string D, .bool h], rfl⟩ (hs2 (fun _ => False)) (by simp)
  have HW2 := Lib.hid (show Xg o2 w _ (w.heap.size + 1) [] by simpa using hw2)
  have HK2 := Lib.hid hk2
  clear hb0 hw2 hs2 hk2 hmn hneg hmx hmb h3I
  generalize (w.alloc (.cells #[.int .i64 (a : Int), .int .i64 (b : Int), .int .i64 (c : Int), .int .i64 (d : Int), .int .i64 (e : Int), .int .i64 (g : Int), .string D, .bool h] 61)).alloc (.cells #[.slice none 0 0, .int .i64 0] 104) = W at HW2 HK2 ⊢
  generalize w.heap.size + 1 = p at HW2 ⊢
  generalize w.heap.size = q at HK2 ⊢
  obtain ⟨x0, x1, x2, x3, x4, x5, x6, x7⟩ := HK2.out.1.eight
  go_wp2_with fail
  refine (xnum_ok HW2.out a 2 HNA.out HA6.out (HBL.out ([]) (by simp))).mono ?_
  rintro e3 w3 ⟨rfl, o3, hw3, hs3⟩
  have hk3 := HK2.out.step hs3 no10
  clear x0 x1 x2 x3 x4 x5 x6 x7
  obtain ⟨x0, x1, x2, x3, x4, x5, x6, x7⟩ := hk3.1.eight
  have HW3 := Lib.hid hw3
  have HK3 := Lib.hid hk3
  clear hw3 hs3 hk3 HW2 HK2
  go_wp2_with fail
  refine (xnum_ok HW3.out b 2 HNB.out HB6.out (HBL.out ([] ++ le a (2 : Int).toNat) (by simp [le_len]))).mono ?_
  rintro e4 w4 ⟨rfl, o4, hw4, hs4⟩
  have hk4 := HK3.out.step hs4 no10
  clear x0 x1 x2 x3 x4 x5 x6 x7
  obtain ⟨x0, x1, x2, x3, x4, x5, x6, x7⟩ := hk4.1.eight
  have HW4 := Lib.hid hw4
  have HK4 := Lib.hid hk4
  clear hw4 hs4 hk4 HW3 HK3
  go_wp2_with fail
  refine (xnum_ok HW4.out c 8 HNC.out HC6.out (HBL.out ([] ++ le a (2 : Int).toNat ++ le b (2 : Int).toNat) (by simp [le_len]))).mono ?_
  rintro e5 w5 ⟨rfl, o5, hw5, hs5⟩
  have hk5 := HK4.out.step hs5 no10
  clear x0 x1 x2 x3 x4 x5 x6 x7
  obtain ⟨x0, x1, x2, x3, x4, x5, x6, x7⟩ := hk5.1.eight
  have HW5 := Lib.hid hw5
  have HK5 := Lib.hid hk5
  clear hw5 hs5 hk5 HW4 HK4
  go_wp2_with fail
  refine (xnum_ok HW5.out d 8 HND.out HD6.out (HBL.out ([] ++ le a (2 : Int).toNat ++ le b (2 : Int).toNat ++ le c (8 : Int).toNat) (by simp [le_len]))).mono ?_
  rintro e6 w6 ⟨rfl, o6, hw6, hs6⟩
  have hk6 := HK5.out.step hs6 no10
  clear x0 x1 x2 x3 x4 x5 x6 x7
  obtain ⟨x0, x1, x2, x3, x4, x5, x6, x7⟩ := hk6.1.eight
  have HW6 := Lib.hid hw6
  have HK6 := Lib.hid hk6
  clear hw6 hs6 hk6 HW5 HK5
  go_wp2_with fail
  refine (xnum_ok HW6.out e 8 HNE.out HE6.out (HBL.out ([] ++ le a (2 : Int).toNat ++ le b (2 : Int).toNat ++ le c (8 : Int).toNat ++ le d (8 : Int).toNat) (by simp [le_len]))).mono ?_
  rintro e7 w7 ⟨rfl, o7, hw7, hs7⟩
  have hk7 := HK6.out.step hs7 no10
  clear x0 x1 x2 x3 x4 x5 x6 x7
  obtain ⟨x0, x1, x2, x3, x4, x5, x6, x7⟩ := hk7.1.eight
  have HW7 := Lib.hid hw7
  have HK7 := Lib.hid hk7
  clear hw7 hs7 hk7 HW6 HK6
  go_wp2_with fail
  refine (xnum_ok HW7.out g 8 HNG.out HG6.out (HBL.out ([] ++ le a (2 : Int).toNat ++ le b (2 : Int).toNat ++ le c (8 : Int).toNat ++ le d (8 : Int).toNat ++ le e (8 : Int).toNat) (by simp [le_len]))).mono ?_
  rintro e8 w8 ⟨rfl, o8, hw8, hs8⟩
  have hk8 := HK7.out.step hs8 no10
  clear x0 x1 x2 x3 x4 x5 x6 x7
  obtain ⟨x0, x1, x2, x3, x4, x5, x6, x7⟩ := hk8.1.eight
  have HW8 := Lib.hid hw8
  have HK8 := Lib.hid hk8
  clear hw8 hs8 hk8 HW7 HK7
  go_wp2_with fail
  refine (xflag_ok HW8.out h (HBL.out ([] ++ le a (2 : Int).toNat ++ le b (2 : Int).toNat ++ le c (8 : Int).toNat ++ le d (8 : Int).toNat ++ le e (8 : Int).toNat ++ le g (8 : Int).toNat) (by simp [le_len]))).mono ?_
  rintro e9 w9 ⟨rfl, o9, hw9, hs9⟩
  have hk9 := HK8.out.step hs9 no10
  clear x0 x1 x2 x3 x4 x5 x6 x7
  obtain ⟨x0, x1, x2, x3, x4, x5, x6, x7⟩ := hk9.1.eight
  have HW9 := Lib.hid hw9
  have HK9 := Lib.hid hk9
  clear hw9 hs9 hk9 HW8 HK8
  go_wp2_with fail
  refine (xtext_ok HW9.out D 3000 HDI.out H36.out (HBL.out ([] ++ le a (2 : Int).toNat ++ le b (2 : Int).toNat ++ le c (8 : Int).toNat ++ le d (8 : Int).toNat ++ le e (8 : Int).toNat ++ le g (8 : Int).toNat ++ le (b01 h) 1) (by simp [le_len]))).mono ?_
  rintro e10 w10 ⟨rfl, o10, hw10, hs10⟩
  have hk10 := HK9.out.step hs10 no10
  clear x0 x1 x2 x3 x4 x5 x6 x7
  obtain ⟨x0, x1, x2, x3, x4, x5, x6, x7⟩ := hk10.1.eight
  have HW10 := Lib.hid hw10
  have HK10 := Lib.hid hk10
  clear hw10 hs10 hk10 HW9 HK9
  obtain ⟨A, cap, y0, y1⟩ := HW10.out.conv
  have hbody : [] ++ le a (2 : Int).toNat ++ le b (2 : Int).toNat ++ le c (8 : Int).toNat ++ le d (8 : Int).toNat ++ le e (8 : Int).toNat ++ le g (8 : Int).toNat ++ le (b01 h) 1 ++ le D.size 2 ++ D.data.toList = Fr.body ⟨a, b, c, d, e, g, D, h⟩ := by
    simp [Fr.body, Fr.head, b01]
  rw [hbody] at y0 y1
  have HEN := Lib.hid HW10.out.env.low
  have HSE := Lib.hid (show str (sealL (str (Fr.body ⟨a, b, c, d, e, g, D, h⟩)).data.toList) = str (sealL (Fr.body ⟨a, b, c, d, e, g, D, h⟩)) by rw [str_list])
  have HSZ := Lib.hid (show (str (Fr.body ⟨a, b, c, d, e, g, D, h⟩)).size ≤ 1000000000 by rw [str_size]; have := HWB.out; omega)
  have hpl : p < w10.heap.size := HW10.out.wr.lt
  clear hbody x0 x1 x2 x3 x4 x5 x6 x7
  generalize hB : str (Fr.body ⟨a, b, c, d, e, g, D, h⟩) = B at HSZ HSE y1
  generalize (Fr.body ⟨a, b, c, d, e, g, D, h⟩).length = L at y0 y1
  clear hB
  go_wp2_with fail
  refine (xseal_any B HSZ.out _).mono ?_
  rintro e12 w12 ⟨rfl, hb12⟩
  rw [HSE.out]
  have HB12 := Lib.hid (HEN.out.trans (hb12.mono HEN.out.size))
  clear hb12
  go_wp2_with fail
  go_ret2
  exact ⟨rfl, HB12.out⟩
set_option maxRecDepth 100000 in
set_option maxHeartbeats 1000000 in
theorem xfput_no (f : Fr) (w : World) (hd : f.Data.size ≤ maxLen) (hw : f.wrongE ≠ 0) : Calls Tryd.prog 34 #[f.agg] w fun e w' => e = .returned (.tuple #[.string ⟨#[]⟩, .int .i64 f.wrongE]) ∧ Below w.heap.size w w' := by
  unfold maxLen at hd
  obtain ⟨a, b, c, d, e, g, D, h⟩ := f
  simp only at hd
  unfold Fr.agg
  have hmn := fun w ts t => run_min6 Tryd.prog w ts t a b c d e g
  by_cases h1 : a < 0 ∨ b < 0 ∨ c < 0 ∨ d < 0 ∨ e < 0 ∨ g < 0
  · have e1 : Fr.wrongE ⟨a, b, c, d, e, g, D, h⟩ = 1 := if_pos (by unfold Fr.bad; simp only; omega)
    have hneg : mn6 a b c d e g < 0 := (mn6_neg a b c d e g).2 h1
    rw [e1]
    clear e1 h1 hw
    generalize mn6 a b c d e g = m at hmn hneg
    go_enter Tryd.func34, Tryd.ntmps34
    go_wp2_with fail
    go_ret2
    exact ⟨rfl, (Below.refl _ _).alloc (Nat.le_refl _) _⟩
  · have hneg : ¬ mn6 a b c d e g < 0 := fun h => h1 ((mn6_neg a b c d e g).1 h)
    generalize mn6 a b c d e g = m at hmn hneg
    by_cases h2 : 65535 < a ∨ 65535 < b
    · have e1 : Fr.wrongE ⟨a, b, c, d, e, g, D, h⟩ = 1 := if_pos (by unfold Fr.bad; simp only; omega)
      rw [e1]
      have hmx : 65535 < (if b > a then b else a) := by split <;> omega
      clear e1 h1 h2 hw
      have hmb : ∀ (w : World) (ts : Array TypeId) (t : TypeId), (Builtin.max_ ts t #[.int .i64 a, .int .i64 b]).run Tryd.prog w = .ok (.int .i64 (if b > a then b else a)) w := fun w ts t => by simp [Builtin.max_, Builtin.max2]
      generalize (if b > a then b else a) = x at hmx hmb
      go_enter Tryd.func34, Tryd.ntmps34
      go_wp2_with fail
      go_ret2
      exact ⟨rfl, (Below.refl _ _).alloc (Nat.le_refl _) _⟩
    · have hnb : ¬ Fr.bad ⟨a, b, c, d, e, g, D, h⟩ := by unfold Fr.bad; simp only; omega
      have hmx : ¬ 65535 < (if b > a then b else a) := by split <;> omega
      have hmb : ∀ (w : World) (ts : Array TypeId) (t : TypeId), (Builtin.max_ ts t #[.int .i64 a, .int .i64 b]).run Tryd.prog w = .ok (.int .i64 (if b > a then b else a)) w := fun w ts t => by simp [Builtin.max_, Builtin.max2]
      generalize (if b > a then b else a) = x at hmx hmb
      have h3 : 3000 < D.size := by
        rcases Nat.lt_or_ge 3000 D.size with h3 | h3
        · exact h3
        · exact absurd (show Fr.wrongE ⟨a, b, c, d, e, g, D, h⟩ = 0 by unfold Fr.wrongE; rw [if_neg hnb, if_neg (Nat.not_lt.2 h3)]) hw
      have e1 : Fr.wrongE ⟨a, b, c, d, e, g, D, h⟩ = 2 := by unfold Fr.wrongE; rw [if_neg hnb, if_pos h3]
      have h3I : (3000 : Int) < (D.size : Int) := by omega
      rw [e1]
      clear e1 h1 h2 hnb hw
      go_enter Tryd.func34, Tryd.ntmps34
      go_wp2_with fail
      go_ret2
      exact ⟨rfl, (Below.refl _ _).alloc (Nat.le_refl _) _⟩
theorem xfput_any (f : Fr) (w : World) (hi : f.i64s) : Calls Tryd.prog 34 #[f.agg] w fun e w' => e = .returned (.tuple #[.string f.putS, .int .i64 f.wrongE]) ∧ Below w.heap.size w w' := by
  by_cases hw : f.wrongE = 0
  · obtain ⟨a, b, c, d, e, g, hf, ha, hb, hc, hd, he, hg⟩ := Fr.nats hi hw
    have hD := (wrongE_zero hw).2
    have e1 : f.putS = str (sealL f.body) := if_pos hw
    rw [e1, hw]
    obtain ⟨A1, A2, A3, A4, A5, A6, D, h⟩ := f
    simp only [Fr.mk.injEq, and_true] at hf
    obtain ⟨rfl, rfl, rfl, rfl, rfl, rfl⟩ := hf
    exact xfput_ok a b c d e g D h w ha hb hc hd he hg hD
  · have e1 : f.putS = ⟨#[]⟩ := if_neg hw
    rw [e1]
    exact xfput_no f w hi.2.2.2.2.2.2 hw
end Go.Proofs.YtoploimpfhnanaaDoor

namespace Go.Proofs.YtoploimpfhnanaaDoor
open Go.RowKit

set_option maxRecDepth 100000 in
set_option maxHeartbeats 4000000 in
theorem xfget_any (b : ByteArray) (w : World) (hb : b.size ≤ 1000000000) :
    Calls Tryd.prog 37 #[.string b] w fun e w' => e = .returned (.tuple #[(gotF b).agg, .int .i64 (gotFE b)]) ∧ Below w.heap.size w w' := by
  have HB := Lib.hid hb
  have HB2 := Lib.hid (show (openS b).size ≤ 1000000000 by have := openS_le b; omega)
  clear hb
  go_enter Tryd.func37, Tryd.ntmps37
  go_wp2_with fail
  refine (xopen_any b HB.out _).mono ?_
  rintro e w1 ⟨rfl, hb1⟩
  have hb0 := (Below.refl w.heap.size w).alloc (Nat.le_refl _) (.cells #[.int .i64 0, .int .i64 0, .int .i64 0, .int .i64 0, .int .i64 0, .int .i64 0, .string ⟨#[]⟩, .bool false] 61)
  have hz1 := (Keep.new (o := fun _ => 0) (w := w) (fun _ _ => rfl) 61 #[.int .i64 0, .int .i64 0, .int .i64 0, .int .i64 0, .int .i64 0, .int .i64 0, .string ⟨#[]⟩, .bool false]).below_ hb1
  have HZ1 := Lib.hid hz1
  have HE1 := Lib.hid (hb0.trans (hb1.mono hb0.size))
  clear hb0 hb1 hz1
  generalize hgr : w.heap.size = gR at HZ1 ⊢
  have HGQ := Lib.hid hgr
  clear hgr
  by_cases ho : openE b.data.toList = 0
  · have HO := Lib.hid ho
    have hos : openS b = rest4 b := if_pos ho
    rw [ho, hos]
    obtain ⟨s, hs⟩ : ∃ s, s = rest4 b := ⟨_, rfl⟩
    rw [hos, ← hs] at HB2
    rw [← hs]
    have HS := Lib.hid hs
    clear ho hos hs
    obtain ⟨o1, hg2, hs1⟩ := Gs.startX (w0 := w) HE1.out s HB2.out
    have hz2 := HZ1.out.step (hs1 (fun _ => False)) (by simp)
    have hm2 := Keep.new hg2.fut 61 #[.int .i64 0, .int .i64 0, .int .i64 0, .int .i64 0, .int .i64 0, .int .i64 0, .string ⟨#[]⟩, .bool false]
    have hg3 := hg2.alloc (.cells #[.int .i64 0, .int .i64 0, .int .i64 0, .int .i64 0, .int .i64 0, .int .i64 0, .string ⟨#[]⟩, .bool false] 61)
    have hz3 := hz2.alloc (.cells #[.int .i64 0, .int .i64 0, .int .i64 0, .int .i64 0, .int .i64 0, .int .i64 0, .string ⟨#[]⟩, .bool false] 61)
    have HLE := Lib.hid hg2.env.low.size
    have HRM := Lib.hid hz2.1.lt
    go_upto_region 6 with (fail)
    have hsz2 : (w1.alloc (.cells #[.string s, .int .i64 0] 45)).heap.size = w1.heap.size + 1 := by simp
    rw [hsz2] at hm2 HLE HRM
    clear hs1 hg2 hz2 hsz2
    generalize (w1.alloc (.cells #[.string s, .int .i64 0] 45)).alloc (.cells #[.int .i64 0, .int .i64 0, .int .i64 0, .int .i64 0, .int .i64 0, .int .i64 0, .string ⟨#[]⟩, .bool false] 61) = W3 at hm2 hg3 hz3 ⊢
    generalize w1.heap.size + 1 = gM at hm2 HLE HRM ⊢
    generalize w1.heap.size = p at hg3 ⊢
    have HGa := Lib.hid hg3
    have HZa := Lib.hid hz3
    have HMa := Lib.hid hm2
    clear hg3 hz3 hm2
    obtain ⟨v1, hv1⟩ : ∃ v, v = (⟨s, 0⟩ : Rd).numV 2 := ⟨_, rfl⟩
    have hb1 := numV_lt (⟨s, 0⟩ : Rd) 2 (by omega)
    rw [← hv1] at hb1
    have hl1 : v1 < 65536 := by simpa using hb1
    have HV1 := Lib.hid hv1
    clear hv1 hb1
    go_wp2_with fail
    refine (ynum_g HGa.out 2).mono ?_
    rintro e wb ⟨rfl, hg, hs⟩
    rw [← HV1.out]
    have HGb0 := Lib.hid (show Gs 45 _ w wb p (fR1 s) from hg)
    have HZb0 := Lib.hid (HZa.out.step hs no10)
    have HMb0 := Lib.hid (HMa.out.step hs no10)
    clear hg hs HGa HZa HMa
    have hxc := HMb0.out.1.cell 0
    have hxf := HMb0.out.1.frozen 0
    simp at hxc
    go_upto_region 7 with (fail)
    have hg := HGb0.out.setCell HMb0.out.2 HLE.out 0 (.int .i64 (v1 : Int))
    have hz := HZb0.out.far (Nat.ne_of_lt HRM.out) 0 (.int .i64 (v1 : Int))
    have hm : Keep o1 (wb.setCell ⟨gM, 0, none⟩ (.int .i64 (v1 : Int))) gM 61 #[.int .i64 (v1 : Int), .int .i64 0, .int .i64 0, .int .i64 0, .int .i64 0, .int .i64 0, .string ⟨#[]⟩, .bool false] := HMb0.out.set_ 0 (.int .i64 (v1 : Int))
    generalize wb.setCell ⟨gM, 0, none⟩ (.int .i64 (v1 : Int)) = Wb at hg hz hm ⊢
    have HGb := Lib.hid hg
    have HZb := Lib.hid hz
    have HMb := Lib.hid hm
    clear hg hz hm HGb0 HZb0 HMb0 hxc hxf
    obtain ⟨v2, hv2⟩ : ∃ v, v = (fR1 s).numV 2 := ⟨_, rfl⟩
    have hb2 := numV_lt (fR1 s) 2 (by omega)
    rw [← hv2] at hb2
    have hl2 : v2 < 65536 := by simpa using hb2
    have HV2 := Lib.hid hv2
    clear hv2 hb2
    go_wp2_with fail
    refine (ynum_g HGb.out 2).mono ?_
    rintro e wc ⟨rfl, hg, hs⟩
    rw [← HV2.out]
    have HGc0 := Lib.hid (show Gs 45 _ w wc p (fR2 s) from hg)
    have HZc0 := Lib.hid (HZb.out.step hs no10)
    have HMc0 := Lib.hid (HMb.out.step hs no10)
    clear hg hs HGb HZb HMb
    have hxc := HMc0.out.1.cell 1
    have hxf := HMc0.out.1.frozen 1
    simp at hxc
    go_upto_region 8 with (fail)
    have hg := HGc0.out.setCell HMc0.out.2 HLE.out 1 (.int .i64 (v2 : Int))
    have hz := HZc0.out.far (Nat.ne_of_lt HRM.out) 1 (.int .i64 (v2 : Int))
    have hm : Keep o1 (wc.setCell ⟨gM, 1, none⟩ (.int .i64 (v2 : Int))) gM 61 #[.int .i64 (v1 : Int), .int .i64 (v2 : Int), .int .i64 0, .int .i64 0, .int .i64 0, .int .i64 0, .string ⟨#[]⟩, .bool false] := HMc0.out.set_ 1 (.int .i64 (v2 : Int))
    generalize wc.setCell ⟨gM, 1, none⟩ (.int .i64 (v2 : Int)) = Wc at hg hz hm ⊢
    have HGc := Lib.hid hg
    have HZc := Lib.hid hz
    have HMc := Lib.hid hm
    clear hg hz hm HGc0 HZc0 HMc0 hxc hxf
    obtain ⟨v3, hv3⟩ : ∃ v, v = (fR2 s).numV 8 := ⟨_, rfl⟩
    obtain ⟨n1, hn3⟩ : ∃ u, u = wrap64 (v3 : Int) := ⟨_, rfl⟩
    have hwu : IntKind.i64.wrap (v3 : Int) = n1 := by rw [wrap_is64, hn3]
    have hwu2 : wrap64 (v3 : Int) = n1 := hn3.symm
    have HV3 := Lib.hid (show n1 = wrap64 (((fR2 s).numV 8 : Nat) : Int) by rw [← hv3]; exact hn3)
    have HW3 := Lib.hid hv3
    clear hv3 hn3
    go_wp2_with fail
    refine (ynum_g HGc.out 8).mono ?_
    rintro e wd ⟨rfl, hg, hs⟩
    rw [← HW3.out]
    have HGd0 := Lib.hid (show Gs 45 _ w wd p (fR3 s) from hg)
    have HZd0 := Lib.hid (HZc.out.step hs no10)
    have HMd0 := Lib.hid (HMc.out.step hs no10)
    clear hg hs HGc HZc HMc
    have hxc := HMd0.out.1.cell 2
    have hxf := HMd0.out.1.frozen 2
    simp at hxc
    go_upto_region 9 with (fail)
    have hg := HGd0.out.setCell HMd0.out.2 HLE.out 2 (.int .i64 n1)
    have hz := HZd0.out.far (Nat.ne_of_lt HRM.out) 2 (.int .i64 n1)
    have hm : Keep o1 (wd.setCell ⟨gM, 2, none⟩ (.int .i64 n1)) gM 61 #[.int .i64 (v1 : Int), .int .i64 (v2 : Int), .int .i64 n1, .int .i64 0, .int .i64 0, .int .i64 0, .string ⟨#[]⟩, .bool false] := HMd0.out.set_ 2 (.int .i64 n1)
    clear hwu hwu2
    generalize wd.setCell ⟨gM, 2, none⟩ (.int .i64 n1) = Wd at hg hz hm ⊢
    have HGd := Lib.hid hg
    have HZd := Lib.hid hz
    have HMd := Lib.hid hm
    clear hg hz hm HGd0 HZd0 HMd0 hxc hxf
    obtain ⟨v4, hv4⟩ : ∃ v, v = (fR3 s).numV 8 := ⟨_, rfl⟩
    obtain ⟨n2, hn4⟩ : ∃ u, u = wrap64 (v4 : Int) := ⟨_, rfl⟩
    have hwu : IntKind.i64.wrap (v4 : Int) = n2 := by rw [wrap_is64, hn4]
    have hwu2 : wrap64 (v4 : Int) = n2 := hn4.symm
    have HV4 := Lib.hid (show n2 = wrap64 (((fR3 s).numV 8 : Nat) : Int) by rw [← hv4]; exact hn4)
    have HW4 := Lib.hid hv4
    clear hv4 hn4
    go_wp2_with fail
    refine (ynum_g HGd.out 8).mono ?_
    rintro e we ⟨rfl, hg, hs⟩
    rw [← HW4.out]
    have HGe0 := Lib.hid (show Gs 45 _ w we p (fR4 s) from hg)
    have HZe0 := Lib.hid (HZd.out.step hs no10)
    have HMe0 := Lib.hid (HMd.out.step hs no10)
    clear hg hs HGd HZd HMd
    have hxc := HMe0.out.1.cell 3
    have hxf := HMe0.out.1.frozen 3
    simp at hxc
    go_upto_region 10 with (fail)
    have hg := HGe0.out.setCell HMe0.out.2 HLE.out 3 (.int .i64 n2)
    have hz := HZe0.out.far (Nat.ne_of_lt HRM.out) 3 (.int .i64 n2)
    have hm : Keep o1 (we.setCell ⟨gM, 3, none⟩ (.int .i64 n2)) gM 61 #[.int .i64 (v1 : Int), .int .i64 (v2 : Int), .int .i64 n1, .int .i64 n2, .int .i64 0, .int .i64 0, .string ⟨#[]⟩, .bool false] := HMe0.out.set_ 3 (.int .i64 n2)
    clear hwu hwu2
    generalize we.setCell ⟨gM, 3, none⟩ (.int .i64 n2) = We at hg hz hm ⊢
    have HGe := Lib.hid hg
    have HZe := Lib.hid hz
    have HMe := Lib.hid hm
    clear hg hz hm HGe0 HZe0 HMe0 hxc hxf
    obtain ⟨v5, hv5⟩ : ∃ v, v = (fR4 s).numV 8 := ⟨_, rfl⟩
    obtain ⟨n3, hn5⟩ : ∃ u, u = wrap64 (v5 : Int) := ⟨_, rfl⟩
    have hwu : IntKind.i64.wrap (v5 : Int) = n3 := by rw [wrap_is64, hn5]
    have hwu2 : wrap64 (v5 : Int) = n3 := hn5.symm
    have HV5 := Lib.hid (show n3 = wrap64 (((fR4 s).numV 8 : Nat) : Int) by rw [← hv5]; exact hn5)
    have HW5 := Lib.hid hv5
    clear hv5 hn5
    go_wp2_with fail
    refine (ynum_g HGe.out 8).mono ?_
    rintro e wf ⟨rfl, hg, hs⟩
    rw [← HW5.out]
    have HGf0 := Lib.hid (show Gs 45 _ w wf p (fR5 s) from hg)
    have HZf0 := Lib.hid (HZe.out.step hs no10)
    have HMf0 := Lib.hid (HMe.out.step hs no10)
    clear hg hs HGe HZe HMe
    have hxc := HMf0.out.1.cell 4
    have hxf := HMf0.out.1.frozen 4
    simp at hxc
    go_upto_region 11 with (fail)
    have hg := HGf0.out.setCell HMf0.out.2 HLE.out 4 (.int .i64 n3)
    have hz := HZf0.out.far (Nat.ne_of_lt HRM.out) 4 (.int .i64 n3)
    have hm : Keep o1 (wf.setCell ⟨gM, 4, none⟩ (.int .i64 n3)) gM 61 #[.int .i64 (v1 : Int), .int .i64 (v2 : Int), .int .i64 n1, .int .i64 n2, .int .i64 n3, .int .i64 0, .string ⟨#[]⟩, .bool false] := HMf0.out.set_ 4 (.int .i64 n3)
    clear hwu hwu2
    generalize wf.setCell ⟨gM, 4, none⟩ (.int .i64 n3) = Wf at hg hz hm ⊢
    have HGf := Lib.hid hg
    have HZf := Lib.hid hz
    have HMf := Lib.hid hm
    clear hg hz hm HGf0 HZf0 HMf0 hxc hxf
    obtain ⟨v6, hv6⟩ : ∃ v, v = (fR5 s).numV 8 := ⟨_, rfl⟩
    obtain ⟨n4, hn6⟩ : ∃ u, u = wrap64 (v6 : Int) := ⟨_, rfl⟩
    have hwu : IntKind.i64.wrap (v6 : Int) = n4 := by rw [wrap_is64, hn6]
    have hwu2 : wrap64 (v6 : Int) = n4 := hn6.symm
    have HV6 := Lib.hid (show n4 = wrap64 (((fR5 s).numV 8 : Nat) : Int) by rw [← hv6]; exact hn6)
    have HW6 := Lib.hid hv6
    clear hv6 hn6
    go_wp2_with fail
    refine (ynum_g HGf.out 8).mono ?_
    rintro e wg ⟨rfl, hg, hs⟩
    rw [← HW6.out]
    have HGg0 := Lib.hid (show Gs 45 _ w wg p (fR6 s) from hg)
    have HZg0 := Lib.hid (HZf.out.step hs no10)
    have HMg0 := Lib.hid (HMf.out.step hs no10)
    clear hg hs HGf HZf HMf
    have hxc := HMg0.out.1.cell 5
    have hxf := HMg0.out.1.frozen 5
    simp at hxc
    go_upto_region 12 with (fail)
    have hg := HGg0.out.setCell HMg0.out.2 HLE.out 5 (.int .i64 n4)
    have hz := HZg0.out.far (Nat.ne_of_lt HRM.out) 5 (.int .i64 n4)
    have hm : Keep o1 (wg.setCell ⟨gM, 5, none⟩ (.int .i64 n4)) gM 61 #[.int .i64 (v1 : Int), .int .i64 (v2 : Int), .int .i64 n1, .int .i64 n2, .int .i64 n3, .int .i64 n4, .string ⟨#[]⟩, .bool false] := HMg0.out.set_ 5 (.int .i64 n4)
    clear hwu hwu2
    generalize wg.setCell ⟨gM, 5, none⟩ (.int .i64 n4) = Wg at hg hz hm ⊢
    have HGg := Lib.hid hg
    have HZg := Lib.hid hz
    have HMg := Lib.hid hm
    clear hg hz hm HGg0 HZg0 HMg0 hxc hxf
    obtain ⟨v7, hv7⟩ : ∃ v, v = (fR6 s).flagV := ⟨_, rfl⟩
    have HV7 := Lib.hid hv7
    clear hv7
    go_wp2_with fail
    refine (yflag_g HGg.out).mono ?_
    rintro e wh ⟨rfl, hg, hs⟩
    rw [← HV7.out]
    have HGh0 := Lib.hid (show Gs 45 _ w wh p (fR7 s) from hg)
    have HZh0 := Lib.hid (HZg.out.step hs no10)
    have HMh0 := Lib.hid (HMg.out.step hs no10)
    clear hg hs HGg HZg HMg
    have hxc := HMh0.out.1.cell 7
    have hxf := HMh0.out.1.frozen 7
    simp at hxc
    go_upto_region 13 with (fail)
    have hg := HGh0.out.setCell HMh0.out.2 HLE.out 7 (.bool v7)
    have hz := HZh0.out.far (Nat.ne_of_lt HRM.out) 7 (.bool v7)
    have hm : Keep o1 (wh.setCell ⟨gM, 7, none⟩ (.bool v7)) gM 61 #[.int .i64 (v1 : Int), .int .i64 (v2 : Int), .int .i64 n1, .int .i64 n2, .int .i64 n3, .int .i64 n4, .string ⟨#[]⟩, .bool v7] := HMh0.out.set_ 7 (.bool v7)
    generalize wh.setCell ⟨gM, 7, none⟩ (.bool v7) = Wh at hg hz hm ⊢
    have HGh := Lib.hid hg
    have HZh := Lib.hid hz
    have HMh := Lib.hid hm
    clear hg hz hm HGh0 HZh0 HMh0 hxc hxf
    obtain ⟨v8, hv8⟩ : ∃ v, v = (fR7 s).textV 3000 := ⟨_, rfl⟩
    have HV8 := Lib.hid hv8
    clear hv8
    go_wp2_with fail
    refine (ytext_g HGh.out 3000).mono ?_
    rintro e wi ⟨rfl, hg, hs⟩
    rw [← HV8.out]
    have HGi0 := Lib.hid (show Gs 45 _ w wi p (fR8 s) from hg)
    have HZi0 := Lib.hid (HZh.out.step hs no10)
    have HMi0 := Lib.hid (HMh.out.step hs no10)
    clear hg hs HGh HZh HMh
    have hxc := HMi0.out.1.cell 6
    have hxf := HMi0.out.1.frozen 6
    simp at hxc
    go_upto_region 14 with (fail)
    have hg := HGi0.out.setCell HMi0.out.2 HLE.out 6 (.string v8)
    have hz := HZi0.out.far (Nat.ne_of_lt HRM.out) 6 (.string v8)
    have hm : Keep o1 (wi.setCell ⟨gM, 6, none⟩ (.string v8)) gM 61 #[.int .i64 (v1 : Int), .int .i64 (v2 : Int), .int .i64 n1, .int .i64 n2, .int .i64 n3, .int .i64 n4, .string v8, .bool v7] := HMi0.out.set_ 6 (.string v8)
    generalize wi.setCell ⟨gM, 6, none⟩ (.string v8) = Wi at hg hz hm ⊢
    have HGi := Lib.hid hg
    have HZi := Lib.hid hz
    have HMi := Lib.hid hm
    clear hg hz hm HGi0 HZi0 HMi0 hxc hxf
    have hgf : getF s = ⟨v1, v2, n1, n2, n3, n4, v8, v7⟩ := by
      rw [HV1.out, HV2.out, HV3.out, HV4.out, HV5.out, HV6.out, HV7.out, HV8.out]
      rfl
    have HGF := Lib.hid hgf
    clear hgf
    obtain ⟨ev, hev⟩ : ∃ v, v = (fR8 s).endV := ⟨_, rfl⟩
    have HEV := Lib.hid hev
    clear hev
    go_wp2_with fail
    refine (yend_any HGi.out.rd).mono ?_
    rintro e w11 ⟨rfl, hb11⟩
    rw [← HEV.out]
    have HG11 := Lib.hid (HGi.out.below_ hb11)
    have HZ11 := Lib.hid (HZi.out.below_ hb11)
    have HM11 := Lib.hid (HMi.out.below_ hb11)
    clear hb11 HGi HZi HMi
    have zb := HZ11.out.1
    obtain ⟨z0, z1, z2, z3, z4, z5, z6, z7⟩ := zb.eight
    have y0 := zb.frozen 0
    have y1 := zb.frozen 1
    have y2 := zb.frozen 2
    have y3 := zb.frozen 3
    have y4 := zb.frozen 4
    have y5 := zb.frozen 5
    have y6 := zb.frozen 6
    have y7 := zb.frozen 7
    clear zb
    have hog : ∀ x y, gotF b = x → gotFE b = y → Ending.returned (.tuple #[x.agg, .int .i64 y]) = .returned (.tuple #[(gotF b).agg, .int .i64 (gotFE b)]) := fun x y h1 h2 => by rw [h1, h2]
    have HOG := Lib.hid hog
    have hgg : gotF b = frF s b ∧ gotFE b = frE s b := by
      unfold gotF gotFE
      rw [HO.out, if_neg (by simp), if_neg (by simp), HS.out]
      exact ⟨rfl, rfl⟩
    have HGG := Lib.hid hgg
    clear hog hgg
    by_cases he : ev = 0
    · have HE := Lib.hid he
      have t1 : (ev != 0) = false := by rw [he]; rfl
      have HE8 := Lib.hid (show (fR8 s).endV = 0 by rw [← HEV.out]; exact he)
      obtain ⟨x0, x1, x2, x3, x4, x5, x6, x7⟩ := HM11.out.1.eight
      have hag : Fr.agg ⟨v1, v2, n1, n2, n3, n4, v8, v7⟩ = .agg #[.int .i64 (v1 : Int), .int .i64 (v2 : Int), .int .i64 n1, .int .i64 n2, .int .i64 n3, .int .i64 n4, .string v8, .bool v7] := rfl
      have HAG := Lib.hid hag
      have HI := Lib.hid (show (Fr.mk v1 v2 n1 n2 n3 n4 v8 v7).i64s by rw [← HGF.out]; exact getF_i64s s)
      clear he hag
      go_wp2_with fail
      rw [← HAG.out]
      refine (xfput_any ⟨v1, v2, n1, n2, n3, n4, v8, v7⟩ w11 HI.out).mono ?_
      rintro e w12 ⟨rfl, hb12⟩
      try rw [HAG.out]
      have HG12 := Lib.hid (HG11.out.below_ hb12)
      have HZ12 := Lib.hid (HZ11.out.below_ hb12)
      have HM12 := Lib.hid (HM11.out.below_ hb12)
      clear hb12 x0 x1 x2 x3 x4 x5 x6 x7 z0 z1 z2 z3 z4 z5 z6 z7 y0 y1 y2 y3 y4 y5 y6 y7
      have zb := HZ12.out.1
      obtain ⟨z0, z1, z2, z3, z4, z5, z6, z7⟩ := zb.eight
      have y0 := zb.frozen 0
      have y1 := zb.frozen 1
      have y2 := zb.frozen 2
      have y3 := zb.frozen 3
      have y4 := zb.frozen 4
      have y5 := zb.frozen 5
      have y6 := zb.frozen 6
      have y7 := zb.frozen 7
      clear zb
      obtain ⟨x0, x1, x2, x3, x4, x5, x6, x7⟩ := HM12.out.1.eight
      have hne : gM ≠ gR := (Nat.ne_of_lt HRM.out).symm
      obtain ⟨F, hF⟩ : ∃ F, F = Fr.mk v1 v2 n1 n2 n3 n4 v8 v7 := ⟨_, rfl⟩
      rw [← hF] at HGF ⊢
      have HF := Lib.hid hF
      clear hF
      by_cases hok : F.wrongE = 0
      · have p1 : F.putS = str (sealL F.body) := if_pos hok
        rw [p1, hok]
        clear p1
        by_cases hbe : str (sealL F.body) = b
        · rw [hbe]
          have hgd : goodF s b := by unfold goodF; rw [HGF.out]; exact ⟨hok, hbe⟩
          have e1 : gotF b = F := by rw [HGG.out.1]; unfold frF; rw [if_pos ⟨HE8.out, hgd⟩, HGF.out]
          have e2 : gotFE b = 0 := by rw [HGG.out.2]; unfold frE; rw [if_neg (by rw [HE8.out]; simp), if_pos hgd]
          have E1 := Lib.hid e1
          have E2 := Lib.hid e2
          have t2 : (b.toList == b.toList) = true := beq_self_eq_true _
          clear hbe e1 e2 hok hgd
          go_wp2_with fail
          have hg13 := HG12.out.set8 HZ12.out.2 (by have := HGQ.out; omega) (.int .i64 (v1 : Int)) (.int .i64 (v2 : Int)) (.int .i64 n1) (.int .i64 n2) (.int .i64 n3) (.int .i64 n4) (.string v8) (.bool v7)
          have hz13 := HZ12.out.set8 (.int .i64 (v1 : Int)) (.int .i64 (v2 : Int)) (.int .i64 n1) (.int .i64 n2) (.int .i64 n3) (.int .i64 n4) (.string v8) (.bool v7)
          generalize ((((((((w12.setCell ⟨gR, 0, none⟩ (.int .i64 (v1 : Int))).setCell ⟨gR, 1, none⟩ (.int .i64 (v2 : Int))).setCell ⟨gR, 2, none⟩ (.int .i64 n1)).setCell ⟨gR, 3, none⟩ (.int .i64 n2)).setCell ⟨gR, 4, none⟩ (.int .i64 n3)).setCell ⟨gR, 5, none⟩ (.int .i64 n4)).setCell ⟨gR, 6, none⟩ (.string v8)).setCell ⟨gR, 7, none⟩ (.bool v7)) = W13 at hg13 hz13 ⊢
          obtain ⟨q0, q1, q2, q3, q4, q5, q6, q7⟩ := hz13.1.eight
          refine bodyPost_ret (v := .tuple #[.agg #[.int .i64 (v1 : Int), .int .i64 (v2 : Int), .int .i64 n1, .int .i64 n2, .int .i64 n3, .int .i64 n4, .string v8, .bool v7], .int .i64 0]) (by simp [results, Tryd.results37, go_sem, q0, q1, q2, q3, q4, q5, q6, q7]) rfl ⟨?_, hg13.env.low⟩
          rw [← HOG.out F 0 E1.out E2.out, HF.out]
          rfl
        · have hgd : ¬ goodF s b := fun h => hbe (by have := h.2; rwa [HGF.out] at this)
          have e1 : gotF b = Fr.zero := by rw [HGG.out.1]; unfold frF; rw [if_neg (fun h => hgd h.2)]
          have e2 : gotFE b = 4 := by rw [HGG.out.2]; unfold frE; rw [if_neg (by rw [HE8.out]; simp), if_neg hgd]
          have E1 := Lib.hid e1
          have E2 := Lib.hid e2
          obtain ⟨S, hS⟩ : ∃ S, S = str (sealL F.body) := ⟨_, rfl⟩
          rw [← hS] at hbe ⊢
          have t2 := str_neq hbe
          clear hbe e1 e2 hok hS hgd
          go_wp2_with fail
          have hg13 := HG12.out.set8 HZ12.out.2 (by have := HGQ.out; omega) (.int .i64 0) (.int .i64 0) (.int .i64 0) (.int .i64 0) (.int .i64 0) (.int .i64 0) (.string ⟨#[]⟩) (.bool false)
          have hz13 := HZ12.out.set8 (.int .i64 0) (.int .i64 0) (.int .i64 0) (.int .i64 0) (.int .i64 0) (.int .i64 0) (.string ⟨#[]⟩) (.bool false)
          generalize ((((((((w12.setCell ⟨gR, 0, none⟩ (.int .i64 0)).setCell ⟨gR, 1, none⟩ (.int .i64 0)).setCell ⟨gR, 2, none⟩ (.int .i64 0)).setCell ⟨gR, 3, none⟩ (.int .i64 0)).setCell ⟨gR, 4, none⟩ (.int .i64 0)).setCell ⟨gR, 5, none⟩ (.int .i64 0)).setCell ⟨gR, 6, none⟩ (.string ⟨#[]⟩)).setCell ⟨gR, 7, none⟩ (.bool false)) = W13 at hg13 hz13 ⊢
          obtain ⟨q0, q1, q2, q3, q4, q5, q6, q7⟩ := hz13.1.eight
          refine bodyPost_ret (v := .tuple #[.agg #[.int .i64 0, .int .i64 0, .int .i64 0, .int .i64 0, .int .i64 0, .int .i64 0, .string ⟨#[]⟩, .bool false], .int .i64 4]) (by simp [results, Tryd.results37, go_sem, q0, q1, q2, q3, q4, q5, q6, q7]) rfl ⟨?_, hg13.env.low⟩
          exact HOG.out Fr.zero 4 E1.out E2.out
      · have p1 : F.putS = ⟨#[]⟩ := if_neg hok
        rw [p1]
        have hgd : ¬ goodF s b := fun h => hok (by have := h.1; rwa [HGF.out] at this)
        have e1 : gotF b = Fr.zero := by rw [HGG.out.1]; unfold frF; rw [if_neg (fun h => hgd h.2)]
        have e2 : gotFE b = 4 := by rw [HGG.out.2]; unfold frE; rw [if_neg (by rw [HE8.out]; simp), if_neg hgd]
        have E1 := Lib.hid e1
        have E2 := Lib.hid e2
        obtain ⟨E, hE⟩ : ∃ E, E = F.wrongE := ⟨_, rfl⟩
        rw [← hE] at hok ⊢
        have t2 : (E != 0) = true := bne_iff_ne.2 hok
        clear p1 e1 e2 hok hE hgd
        go_wp2_with fail
        have hg13 := HG12.out.set8 HZ12.out.2 (by have := HGQ.out; omega) (.int .i64 0) (.int .i64 0) (.int .i64 0) (.int .i64 0) (.int .i64 0) (.int .i64 0) (.string ⟨#[]⟩) (.bool false)
        have hz13 := HZ12.out.set8 (.int .i64 0) (.int .i64 0) (.int .i64 0) (.int .i64 0) (.int .i64 0) (.int .i64 0) (.string ⟨#[]⟩) (.bool false)
        generalize ((((((((w12.setCell ⟨gR, 0, none⟩ (.int .i64 0)).setCell ⟨gR, 1, none⟩ (.int .i64 0)).setCell ⟨gR, 2, none⟩ (.int .i64 0)).setCell ⟨gR, 3, none⟩ (.int .i64 0)).setCell ⟨gR, 4, none⟩ (.int .i64 0)).setCell ⟨gR, 5, none⟩ (.int .i64 0)).setCell ⟨gR, 6, none⟩ (.string ⟨#[]⟩)).setCell ⟨gR, 7, none⟩ (.bool false)) = W13 at hg13 hz13 ⊢
        obtain ⟨q0, q1, q2, q3, q4, q5, q6, q7⟩ := hz13.1.eight
        refine bodyPost_ret (v := .tuple #[.agg #[.int .i64 0, .int .i64 0, .int .i64 0, .int .i64 0, .int .i64 0, .int .i64 0, .string ⟨#[]⟩, .bool false], .int .i64 4]) (by simp [results, Tryd.results37, go_sem, q0, q1, q2, q3, q4, q5, q6, q7]) rfl ⟨?_, hg13.env.low⟩
        exact HOG.out Fr.zero 4 E1.out E2.out
    · have t1 : (ev != 0) = true := bne_iff_ne.2 he
      have e1 : gotF b = Fr.zero := by rw [HGG.out.1]; unfold frF; rw [if_neg (fun h => he (by rw [HEV.out]; exact h.1))]
      have e2 : gotFE b = ev := by rw [HGG.out.2]; unfold frE; rw [if_pos (by rw [← HEV.out]; exact he), HEV.out]
      have E1 := Lib.hid e1
      have E2 := Lib.hid e2
      clear he e1 e2
      go_wp2_with fail
      have hg13 := HG11.out.set8 HZ11.out.2 (by have := HGQ.out; omega) (.int .i64 0) (.int .i64 0) (.int .i64 0) (.int .i64 0) (.int .i64 0) (.int .i64 0) (.string ⟨#[]⟩) (.bool false)
      have hz13 := HZ11.out.set8 (.int .i64 0) (.int .i64 0) (.int .i64 0) (.int .i64 0) (.int .i64 0) (.int .i64 0) (.string ⟨#[]⟩) (.bool false)
      generalize ((((((((w11.setCell ⟨gR, 0, none⟩ (.int .i64 0)).setCell ⟨gR, 1, none⟩ (.int .i64 0)).setCell ⟨gR, 2, none⟩ (.int .i64 0)).setCell ⟨gR, 3, none⟩ (.int .i64 0)).setCell ⟨gR, 4, none⟩ (.int .i64 0)).setCell ⟨gR, 5, none⟩ (.int .i64 0)).setCell ⟨gR, 6, none⟩ (.string ⟨#[]⟩)).setCell ⟨gR, 7, none⟩ (.bool false)) = W13 at hg13 hz13 ⊢
      obtain ⟨q0, q1, q2, q3, q4, q5, q6, q7⟩ := hz13.1.eight
      refine bodyPost_ret (v := .tuple #[.agg #[.int .i64 0, .int .i64 0, .int .i64 0, .int .i64 0, .int .i64 0, .int .i64 0, .string ⟨#[]⟩, .bool false], .int .i64 ev]) (by simp [results, Tryd.results37, go_sem, q0, q1, q2, q3, q4, q5, q6, q7]) rfl ⟨?_, hg13.env.low⟩
      exact HOG.out Fr.zero ev E1.out E2.out
  · have t1 : (openE b.data.toList != 0) = true := bne_iff_ne.2 ho
    have hos : openS b = ⟨#[]⟩ := if_neg ho
    rw [hos]
    have e1 : gotF b = Fr.zero := if_pos ho
    have e2 : gotFE b = openE b.data.toList := if_pos ho
    rw [← e2] at t1 ⊢
    have E1 := Lib.hid e1
    clear hos ho e1 e2
    obtain ⟨z0, z1, z2, z3, z4, z5, z6, z7⟩ := HZ1.out.1.eight
    have y0 := HZ1.out.1.frozen 0
    have y1 := HZ1.out.1.frozen 1
    have y2 := HZ1.out.1.frozen 2
    have y3 := HZ1.out.1.frozen 3
    have y4 := HZ1.out.1.frozen 4
    have y5 := HZ1.out.1.frozen 5
    have y6 := HZ1.out.1.frozen 6
    have y7 := HZ1.out.1.frozen 7
    go_wp2_with fail
    have hz13 := HZ1.out.set8 (.int .i64 0) (.int .i64 0) (.int .i64 0) (.int .i64 0) (.int .i64 0) (.int .i64 0) (.string ⟨#[]⟩) (.bool false)
    have hb13 : Below w.heap.size w ((((((((w1.setCell ⟨gR, 0, none⟩ (.int .i64 0)).setCell ⟨gR, 1, none⟩ (.int .i64 0)).setCell ⟨gR, 2, none⟩ (.int .i64 0)).setCell ⟨gR, 3, none⟩ (.int .i64 0)).setCell ⟨gR, 4, none⟩ (.int .i64 0)).setCell ⟨gR, 5, none⟩ (.int .i64 0)).setCell ⟨gR, 6, none⟩ (.string ⟨#[]⟩)).setCell ⟨gR, 7, none⟩ (.bool false)) := (((((((HE1.out.setCell (p := ⟨gR, 0, none⟩) (by have := HGQ.out; show w.heap.size ≤ gR; omega) _).setCell (p := ⟨gR, 1, none⟩) (by have := HGQ.out; show w.heap.size ≤ gR; omega) _).setCell (p := ⟨gR, 2, none⟩) (by have := HGQ.out; show w.heap.size ≤ gR; omega) _).setCell (p := ⟨gR, 3, none⟩) (by have := HGQ.out; show w.heap.size ≤ gR; omega) _).setCell (p := ⟨gR, 4, none⟩) (by have := HGQ.out; show w.heap.size ≤ gR; omega) _).setCell (p := ⟨gR, 5, none⟩) (by have := HGQ.out; show w.heap.size ≤ gR; omega) _).setCell (p := ⟨gR, 6, none⟩) (by have := HGQ.out; show w.heap.size ≤ gR; omega) _).setCell (p := ⟨gR, 7, none⟩) (by have := HGQ.out; show w.heap.size ≤ gR; omega) _
    generalize ((((((((w1.setCell ⟨gR, 0, none⟩ (.int .i64 0)).setCell ⟨gR, 1, none⟩ (.int .i64 0)).setCell ⟨gR, 2, none⟩ (.int .i64 0)).setCell ⟨gR, 3, none⟩ (.int .i64 0)).setCell ⟨gR, 4, none⟩ (.int .i64 0)).setCell ⟨gR, 5, none⟩ (.int .i64 0)).setCell ⟨gR, 6, none⟩ (.string ⟨#[]⟩)).setCell ⟨gR, 7, none⟩ (.bool false)) = W13 at hz13 hb13 ⊢
    obtain ⟨q0, q1, q2, q3, q4, q5, q6, q7⟩ := hz13.1.eight
    refine bodyPost_ret (v := .tuple #[.agg #[.int .i64 0, .int .i64 0, .int .i64 0, .int .i64 0, .int .i64 0, .int .i64 0, .string ⟨#[]⟩, .bool false], .int .i64 (gotFE b)]) (by simp [results, Tryd.results37, go_sem, q0, q1, q2, q3, q4, q5, q6, q7]) rfl ⟨?_, hb13⟩
    rw [E1.out]
    rfl
end Go.Proofs.YtoploimpfhnanaaDoor
