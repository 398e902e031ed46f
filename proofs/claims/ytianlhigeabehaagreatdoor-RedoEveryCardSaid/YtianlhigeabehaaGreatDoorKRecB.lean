/- Records: label, body. -/
import Derived.Test.YtianlhigeabehaaGreatDoorKRecA
namespace Go.Proofs.YtianlhigeabehaaGreatDoor
open Go.RowKit

set_option maxRecDepth 100000 in
set_option maxHeartbeats 2000000 in
theorem clabel_any (ep ls place n : Nat) (A : Option Addr) (m cap : Nat) (w : World) (he : ep < 18446744073709551616) (hl : ls < 18446744073709551616) (hp : place < 256) (hn : n < 256) :
    Calls Tryz.prog 79 #[.agg #[.int .u64 (ep : Int), .int .u64 (ls : Int), .slice A m cap], .int .i64 (place : Int), .int .i64 (n : Int)] w fun e w' => e = .returned (.string (str (le ep 8 ++ (le ls 8 ++ (le place 1 ++ le n 1))))) ∧ Below w.heap.size w w' := by
  have HNA := Lib.hid (show numOk ep 8 from ⟨by omega, by omega, by simpa using he⟩)
  have HNB := Lib.hid (show numOk ls 8 from ⟨by omega, by omega, by simpa using hl⟩)
  have HNC := Lib.hid (show numOk place 1 from ⟨by omega, by omega, by simpa using hp⟩)
  have HND := Lib.hid (show numOk n 1 from ⟨by omega, by omega, by simpa using hn⟩)
  have HA6 := Lib.hid he
  have HB6 := Lib.hid hl
  have HC6 := Lib.hid (show place < 18446744073709551616 by omega)
  have HD6 := Lib.hid (show n < 18446744073709551616 by omega)
  have wp := wrapu_n (v := place) (by omega)
  have wn := wrapu_n (v := n) (by omega)
  have HL0 := Lib.hid (show ([] : List UInt8).length ≤ 1000000000 by simp)
  have HL1 := Lib.hid (show ([] ++ le ep (8 : Int).toNat).length ≤ 1000000000 by simp [le_len])
  have HL2 := Lib.hid (show ([] ++ le ep (8 : Int).toNat ++ le ls (8 : Int).toNat).length ≤ 1000000000 by simp [le_len])
  have HL3 := Lib.hid (show ([] ++ le ep (8 : Int).toNat ++ le ls (8 : Int).toNat ++ le place (1 : Int).toNat).length ≤ 1000000000 by simp [le_len])
  have HN0 := Lib.hid (show ¬ only 1 0 by unfold only; omega)
  clear he hl hp hn
  obtain ⟨o2, hw2, hs2⟩ := Wg.start (w0 := w) ((Below.refl w.heap.size w).alloc (Nat.le_refl _) (.cells #[.int .u64 (ep : Int), .int .u64 (ls : Int), .slice A m cap] 81))
  have hk2 : Keep o2 _ w.heap.size 81 _ := Keep.step (o := fun _ => 0) ⟨Blk.new w 81 #[.int .u64 (ep : Int), .int .u64 (ls : Int), .slice A m cap], rfl⟩ (hs2 (fun _ => False)) (by simp)
  rw [show (w.alloc (.cells #[.int .u64 (ep : Int), .int .u64 (ls : Int), .slice A m cap] 81)).heap.size = w.heap.size + 1 by simp] at hw2
  have HW2 := Lib.hid hw2
  have HK2 := Lib.hid hk2
  clear hw2 hs2 hk2
  go_enter Tryz.func79, Tryz.ntmps79
  go_upto_region 2 with (fail)
  generalize (w.alloc (.cells #[.int .u64 (ep : Int), .int .u64 (ls : Int), .slice A m cap] 81)).alloc (.cells #[.slice none 0 0, .int .i64 0] 174) = W at HW2 HK2 ⊢
  generalize hpe : w.heap.size + 1 = p at HW2 ⊢
  generalize hq : w.heap.size = q at HK2 ⊢
  have HPE := Lib.hid hpe
  have HQ := Lib.hid hq
  clear hpe hq
  obtain ⟨x0, x1⟩ := HK2.out.1.two
  go_region_held3 (fun w' => w'.cell? ⟨q, 0, none⟩ = some (.int .u64 (ep : Int)) ∧ w'.cell? ⟨q, 1, none⟩ = some (.int .u64 (ls : Int)))
    (first | exact ⟨x0, x1⟩ | exact hk7.1.two | exact hk6.1.two | exact hk5.1.two | exact hk4.1.two | exact hk3.1.two | go_keep)
    (first | (go_at_call 116; ((with_reducible refine (wnum_ok HW2.out.drew ep 8 HNA.out HA6.out HL0.out).mono ?_); rintro e3 w3 ⟨rfl, o3, hw3, hs3⟩; have hk3 := HK2.out.drew.step hs3 HN0.out)) | (go_at_call 116; ((with_reducible refine (wnum_ok hw3 ls 8 HNB.out HB6.out HL1.out).mono ?_); rintro e4 w4 ⟨rfl, o4, hw4, hs4⟩; have hk4 := hk3.step hs4 HN0.out)) | (go_at_call 116; ((with_reducible refine (wnum_ok hw4 place 1 HNC.out HC6.out HL2.out).mono ?_); rintro e5 w5 ⟨rfl, o5, hw5, hs5⟩; have hk5 := hk4.step hs5 HN0.out)) | (go_at_call 116; ((with_reducible refine (wnum_ok hw5 n 1 HND.out HD6.out HL3.out).mono ?_); rintro e6 w6 ⟨rfl, o6, hw6, hs6⟩; have hk6 := hk5.step hs6 HN0.out)) | (go_at_call 117; ((with_reducible refine (wbytes_okb hw6).mono ?_); rintro e7 w7 ⟨rfl, hw7, hb7⟩; have hk7 := hk6.below_ hb7)))
  have HF := Lib.hid hw7.env.low
  clear hw3 hs3 hk3 hw4 hs4 hk4 hw5 hs5 hk5 hw6 hs6 hk6 hw7 hb7 hk7 x0 x1 wp wn
  go_wp2_with fail
  go_ret
  exact ⟨rfl, HF.out⟩
theorem bodyL_snoc (l : List Im) (k : Nat) (x : Im) (hx : l[k]? = some x) : bodyL (l.take (k + 1)) = bodyL (l.take k) ++ imL x := by
  unfold bodyL
  rw [List.take_add_one, hx, List.flatMap_append]
  simp
set_option maxRecDepth 100000 in
set_option maxHeartbeats 4000000 in
theorem cbody_any (l : List Im) (w : World) (A : Option Addr) (cap : Nat) (h : Reads w 3 A l.length (imcells l)) (hl : l.length ≤ 60) (hcap : l.length ≤ cap) (hcm : cap ≤ maxLen) (hr : ∀ i ∈ l, i.right) (hv : ∀ i ∈ l, i.ver < 18446744073709551616) :
    Calls Tryz.prog 77 #[.slice A l.length cap] w fun e w' => e = .returned (.string (str (bodyL l))) ∧ Below w.heap.size w w' := by
  unfold maxLen at hcm
  have HR := Lib.hid h
  have HI := Lib.hid hr
  have HV := Lib.hid hv
  have HN0 := Lib.hid (show ¬ only 1 0 by unfold only; omega)
  have HL0 := Lib.hid (show ([] : List UInt8).length ≤ 1000000000 by simp)
  clear h hr hv
  go_enter Tryz.func77, Tryz.ntmps77
  go_wp2_with fail
  go_loopw [3, 11] (fun t3 t11 wr => ∃ k : Nat, k ≤ l.length ∧ t11 = .int .i64 k ∧ t3 = .string (str (bodyL (l.take k))) ∧ Below w.heap.size w wr) (fun _ t11 _ => l.length - (intOf t11).toNat)
  case atStart => exact ⟨0, by omega, rfl, rfl, Below.refl _ _⟩
  case round =>
    obtain ⟨k, hk, rfl, rfl, hb⟩ := hrel
    have HB := Lib.hid hb
    clear hb
    by_cases hlt : k < l.length
    · have hltI : (k : Int) < (l.length : Int) := by omega
      have hkI : (0 : Int) ≤ (k : Int) := by omega
      obtain ⟨x, hx⟩ : ∃ x, l[k]? = some x := ⟨_, List.getElem?_eq_getElem hlt⟩
      have hxr := HI.out x (List.mem_of_getElem? hx)
      have hxv := HV.out x (List.mem_of_getElem? hx)
      have hrd := HR.out.below' (by omega) HB.out
      obtain ⟨ad, rfl, c0, c1, c2⟩ := hrd.imrow hx
      have HSN := Lib.hid (bodyL_snoc l k x hx)
      have hlen := bodyL_len (l := l.take k) (fun i hi => HI.out i (List.mem_of_mem_take hi))
      rw [List.length_take] at hlen
      obtain ⟨n, v, d⟩ := x
      obtain ⟨m, rfl⟩ : ∃ m : Nat, n = m := ⟨n.toNat, by have := hxr.1; simp only at this; omega⟩
      simp only at c0 c1 c2 hxv
      have hm : m < 4096 := by have := hxr.2.1; simp only at this; omega
      have hdz : d.size = 96 := hxr.2.2
      have wa := wrapu_n (v := m) (by omega)
      have HNA := Lib.hid (show numOk m 4 from ⟨by omega, by omega, by simp; omega⟩)
      have HNB := Lib.hid (show numOk v 8 from ⟨by omega, by omega, by simpa using hxv⟩)
      have HA6 := Lib.hid (show m < 18446744073709551616 by omega)
      have HB6 := Lib.hid hxv
      have HL1 := Lib.hid (show ([] ++ le m (4 : Int).toNat).length ≤ 1000000000 by simp [le_len])
      have hc1 : (str (le m 4 ++ le v 8)).size + d.size ≤ 9223372036854775807 := by rw [str_size, hdz]; simp [le_len]
      have HC2 := Lib.hid (show (str (bodyL (l.take k))).size + (str (le m 4 ++ le v 8) ++ d).size ≤ 9223372036854775807 by rw [str_size, hlen, ByteArray.size_append, str_size, hdz]; simp [le_len]; omega)
      have HCC := Lib.hid (show str (bodyL (l.take k)) ++ (str (le m 4 ++ le v 8) ++ d) = str (bodyL (l.take (k + 1))) by
        rw [HSN.out]
        have := str_append (le m 4 ++ le v 8) d.data.toList
        rw [str_of] at this
        rw [this, str_append]
        unfold imL
        simp)
      have HC1 := Lib.hid hc1
      obtain ⟨o2, hw2, hs2⟩ := Wg.start (w0 := w) (HB.out.alloc HB.out.size (.cells #[.int .i64 (m : Int), .int .u64 (v : Int), .string d] 40))
      have hk2 : Keep o2 _ wr.heap.size 40 _ := Keep.step (o := fun _ => 0) ⟨Blk.new wr 40 #[.int .i64 (m : Int), .int .u64 (v : Int), .string d], rfl⟩ (hs2 (fun _ => False)) (by simp)
      rw [show (wr.alloc (.cells #[.int .i64 (m : Int), .int .u64 (v : Int), .string d] 40)).heap.size = wr.heap.size + 1 by simp] at hw2
      have HW2 := Lib.hid hw2
      have HK2 := Lib.hid hk2
      clear hx hxr hxv hrd hlen hm hdz hw2 hs2 hk2 hc1
      go_upto_region 6 with (fail)
      clear c0 c1 c2
      generalize (wr.alloc (.cells #[.int .i64 (m : Int), .int .u64 (v : Int), .string d] 40)).alloc (.cells #[.slice none 0 0, .int .i64 0] 174) = W at HW2 HK2 ⊢
      generalize wr.heap.size + 1 = p at HW2 ⊢
      generalize wr.heap.size = q at HK2 ⊢
      obtain ⟨x0, x1⟩ := HK2.out.1.two
      go_region_held3 (fun w' => w'.cell? ⟨q, 0, none⟩ = some (.int .i64 (m : Int)) ∧ w'.cell? ⟨q, 1, none⟩ = some (.int .u64 (v : Int)))
        (first | exact ⟨x0, x1⟩ | exact hk5.1.two | exact hk4.1.two | exact hk3.1.two | go_keep)
        (first | (go_at_call 116; ((with_reducible refine (wnum_ok HW2.out.drew m 4 HNA.out HA6.out HL0.out).mono ?_); rintro e3 w3 ⟨rfl, o3, hw3, hs3⟩; have hk3 := HK2.out.drew.step hs3 HN0.out)) | (go_at_call 116; ((with_reducible refine (wnum_ok hw3 v 8 HNB.out HB6.out HL1.out).mono ?_); rintro e4 w4 ⟨rfl, o4, hw4, hs4⟩; have hk4 := hk3.step hs4 HN0.out)) | (go_at_call 117; ((with_reducible refine (wbytes_okb hw4).mono ?_); rintro e5 w5 ⟨rfl, hw5, hb5⟩; have hk5 := hk4.below_ hb5)))
      have HW5 := Lib.hid hw5.env.low
      have x2 : w5.cell? ⟨q, 2, none⟩ = some (.string d) := hk5.1.cell 2
      clear hw3 hs3 hk3 hw4 hs4 hk4 hw5 hb5 hk5 x0 x1 wa
      have hc1 := HC1.out
      have hc2 := HC2.out
      go_wp2_with fail
      go_roundw
      case rel => exact ⟨k + 1, by omega, by go_num, by rw [← HCC.out], HW5.out⟩
      case measure => simp [intOf]; omega
    · have hltI : ¬ (k : Int) < (l.length : Int) := by omega
      obtain rfl : k = l.length := by omega
      have HT := Lib.hid (show bodyL (l.take l.length) = bodyL l by rw [List.take_length])
      go_wp2_with fail
      go_ret
      exact ⟨by rw [← HT.out]; rfl, HB.out⟩
end Go.Proofs.YtianlhigeabehaaGreatDoor
