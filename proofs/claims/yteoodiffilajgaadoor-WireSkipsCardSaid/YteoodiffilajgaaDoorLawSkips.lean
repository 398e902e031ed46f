/- WireSkips: the law's walk. -/
import Derived.Test.YteoodiffilajgaaDoorWireU
namespace Go.Proofs.YteoodiffilajgaaDoor
open Go.RowKit

theorem bytes_frozen (w : World) (e : TypeId) (s : ByteArray) {j : Nat} (hj : j < s.size) : (Lib.bytesWorld w e s).frozen? ⟨w.heap.size, j, none⟩ = false := by
  have h : s.size ≤ (Lib.bytesCells w e s).size := by
    unfold Lib.bytesCells
    rw [Array.size_append, Array.size_map]
    exact Nat.le_add_right _ _
  simp [World.frozen?, Lib.bytesWorld_at_new]
  omega
/-- what is put, padded; with one of the bytes 0 turned -/
theorem skips_take (s : ByteArray) (hs : s.size ≤ 300) (m : List UInt8) (h : m.length ≤ 100000) :
    (⟨str (le s.size 2 ++ s.data.toList ++ m), 0⟩ : Rd).textV 300 = s ∧ (⟨str (le s.size 2 ++ s.data.toList ++ m), 0⟩ : Rd).textR 300 = ⟨str m, 0⟩ ∧ (⟨str m, 0⟩ : Rd).skipR m.length = if zeros (str m) then ⟨str [], 0⟩ else ⟨str [], 4⟩ := by
  obtain ⟨a, b⟩ := text_app s m (room := 300) (by omega) (by omega)
  rw [List.append_assoc]
  refine ⟨a, b, ?_⟩
  have h1 := takeS_app m [] (n := m.length) rfl
  have h2 := takeR_app m [] (n := m.length) rfl
  rw [List.append_nil] at h1 h2
  unfold Rd.skipR
  rw [if_neg (by omega), h1, h2]
  rfl
theorem zeros_set {k q : Nat} (hq : q < k) : ¬ zeros (str ((List.replicate k (0 : UInt8)).set q 7)) := by
  intro h
  have h1 := h 7 (by
    rw [str_list]
    exact List.mem_iff_getElem.2 ⟨q, by rw [List.length_set, List.length_replicate]; exact hq, by rw [List.getElem_set_self]⟩)
  exact absurd h1 (by decide)
theorem add_row (B i : Nat) : (⟨B, 0, none⟩ : Addr).add i = ⟨B, i, none⟩ := by unfold Addr.add; split <;> simp_all
theorem conv_set {W : World} {B : Nat} {cap : Nat} {l : List UInt8} {j : Nat} (hj : j < l.length) (hf : ∃ cs t fr, W.heap[B]? = some (.cells cs t fr) ∧ l.length ≤ cs.size) (hc : ∀ i, i < l.length → W.cell? ⟨B, i, none⟩ = some (.int .u8 (l.getD i 0).toNat)) :
    (convert 24 9 (.slice (some ⟨B, 0, none⟩) l.length cap)).run Tryd.prog (W.setCell ⟨B, j, none⟩ (.int .u8 7)) = .ok (.string (str (l.set j 7))) (W.setCell ⟨B, j, none⟩ (.int .u8 7)) := by
  have e0 : l.length = (l.set j 7).length := by simp
  rw [e0]
  refine run_convert_bytes_back _ 24 9 5 _ cap (l.set j 7) Tryd.underlying24 Tryd.underlying5 Tryd.underlying9 (fun i hi => ?_)
  have e : (⟨B, 0, none⟩ : Addr).add i = ⟨B, i, none⟩ := add_row B i
  have hi' : i < l.length := by simpa using hi
  rw [e]
  obtain ⟨cs, t, fr, hb, hsz⟩ := hf
  have h1 := hc i hi'
  by_cases hij : j = i
  · subst hij
    have hjc : j < cs.size := by omega
    simp [World.cell?, World.setCell, Array.getElem?_modify, hb, hjc]
  · have h2 : (W.setCell ⟨B, j, none⟩ (.int .u8 7)).cell? ⟨B, i, none⟩ = W.cell? ⟨B, i, none⟩ := by
      simp [World.cell?, World.setCell, Array.getElem?_modify, hb, Array.getElem?_setIfInBounds, hij]
    rw [h2, h1]
    simp [List.getD, List.getElem?_eq_getElem hi', List.getElem_set, hij]

set_option maxRecDepth 100000 in
set_option maxHeartbeats 4000000 in
theorem wireSkips_any (s : ByteArray) (n at' : Int) (w : World) (hs : s.size ≤ maxLen) (hn : i64' n) (ha : i64' at') : Calls Tryd.prog 9 #[.string s, .int .i64 n, .int .i64 at'] w fun e w' => e = .returned (.bool true) ∧ Below w.heap.size w w' := by
  unfold maxLen at hs
  have HA := Lib.hid ha
  clear hn ha
  by_cases g0 : 300 < s.size
  · have g0I : (300 : Int) < (s.size : Int) := by omega
    go_enter Tryd.func9, Tryd.ntmps9
    go_wp2_with fail
    refine (alive1_any _).mono ?_
    rintro e w1 ⟨rfl, hb⟩
    go_wp2_with fail
    go_ret
    exact ⟨rfl, hb⟩
  have g0I : ¬ (300 : Int) < (s.size : Int) := by omega
  by_cases g1 : n < s.size
  · skip
    go_enter Tryd.func9, Tryd.ntmps9
    go_wp2_with fail
    refine (alive1_any _).mono ?_
    rintro e w1 ⟨rfl, hb⟩
    go_wp2_with fail
    go_ret
    exact ⟨rfl, hb⟩
  by_cases g2 : 600 < n
  · skip
    go_enter Tryd.func9, Tryd.ntmps9
    go_wp2_with fail
    refine (alive1_any _).mono ?_
    rintro e w1 ⟨rfl, hb⟩
    go_wp2_with fail
    go_ret
    exact ⟨rfl, hb⟩
  by_cases g3 : at' < 0
  · skip
    go_enter Tryd.func9, Tryd.ntmps9
    go_wp2_with fail
    refine (alive1_any _).mono ?_
    rintro e w1 ⟨rfl, hb⟩
    go_wp2_with fail
    go_ret
    exact ⟨rfl, hb⟩
  obtain ⟨k, rfl⟩ : ∃ k : Nat, n = (s.size : Int) + (k : Int) := ⟨n.toNat - s.size, by omega⟩
  have hk : k ≤ 600 := by omega
  have hk3 : (s.size : Int) + (k : Int) ≤ 600 := by omega
  have E1 := Lib.hid (show Wr.text ⟨[], 0⟩ s 300 = ⟨le s.size 2 ++ s.data.toList, 0⟩ from Wr.text_ok rfl (by omega) (by omega))
  have hlen : (le s.size 2 ++ s.data.toList).length = 2 + s.size := by rw [List.length_append, le_len]; rfl
  have E2 := Lib.hid (show Wr.pad ⟨le s.size 2 ++ s.data.toList, 0⟩ ((s.size : Int) + (k : Int) + 2) = ⟨le s.size 2 ++ s.data.toList ++ List.replicate k 0, 0⟩ by
    rw [Wr.pad_ok rfl (by omega) (by rw [hlen]; omega), show ((s.size : Int) + (k : Int) + 2).toNat - (le s.size 2 ++ s.data.toList).length = k by rw [hlen]; omega])
  have HL := Lib.hid (show (le s.size 2 ++ s.data.toList).length ≤ 1000000000 by rw [hlen]; omega)
  have hTs : ((str (le s.size 2 ++ s.data.toList ++ List.replicate k 0)).size : Int) = (s.size : Int) + (k : Int) + 2 := by rw [str_size, List.length_append, hlen, List.length_replicate]; omega
  have Q := Lib.hid (skips_take s (by omega) (List.replicate k 0) (by rw [List.length_replicate]; exact Nat.le_trans hk (by omega)))
  clear hlen
  obtain ⟨o0, hw0, hs0⟩ := wr_new 27 (fun _ => 0) 1 w
  have HW0 := Lib.hid hw0
  have HE0 := Lib.hid ((Env.start w).step (hs0 (fun _ => False)) (by simp))
  clear hw0 hs0
  go_enter Tryd.func9, Tryd.ntmps9
  go_wp2_with fail
  refine (wtext_any HW0.out s 300 (by omega) (by simp)).mono ?_
  rintro e w1 ⟨rfl, o1, hw1, hs1⟩
  rw [E1.out] at hw1
  have HW1 := Lib.hid hw1
  have HE1 := Lib.hid (HE0.out.step hs1 (by unfold only; omega))
  clear hw1 hs1
  go_wp2_with fail
  refine (wpad_any HW1.out ((s.size : Int) + (k : Int) + 2) ⟨by omega, by omega⟩ HL.out).mono ?_
  rintro e w2 ⟨rfl, o2, hw2, hs2⟩
  rw [E2.out] at hw2
  have HW2 := Lib.hid hw2
  have HE2 := Lib.hid (HE1.out.step hs2 (by unfold only; omega))
  clear hw2 hs2
  go_wp2_with fail
  refine (wbytes_any HW2.out).mono ?_
  rintro e w3 ⟨rfl, hb3⟩
  rw [if_pos rfl]
  have HE3 := Lib.hid (HE2.out.below_ hb3)
  clear hb3
  obtain ⟨q1, q2, q3⟩ := Q.out
  rw [if_pos (zeros_rep k), List.length_replicate] at q3
  obtain ⟨T, hT⟩ : ∃ T, str (le s.size 2 ++ s.data.toList ++ List.replicate k 0) = T := ⟨_, rfl⟩
  rw [hT] at hTs q1 q2 ⊢
  have HT := Lib.hid hT
  have Q1 := Lib.hid q1
  have Q2 := Lib.hid q2
  have Q3 := Lib.hid q3
  have hT2 : T.size ≤ 1000000000 := by omega
  have HT2 := Lib.hid hT2
  have hsub : (s.size : Int) + (k : Int) - (s.size : Int) = (k : Int) := by omega
  clear q1 q2 q3 hT hT2
  go_wp2_with fail
  refine (newreader_any o2 2 T _ HT2.out).mono ?_
  rintro e w4 ⟨p4, o4, rfl, hr4, hb4, hs4⟩
  have HR4 := Lib.hid hr4
  have HE4 := Lib.hid (HE3.out.step (hs4 (fun _ => False)) (by simp))
  clear hr4 hb4 hs4
  go_wp2_with fail
  refine (rtext_any HR4.out 300).mono ?_
  rintro e w5 ⟨rfl, o5, hr5, hs5⟩
  rw [Q1.out]
  rw [Q2.out] at hr5
  have HR5 := Lib.hid hr5
  have HE5 := Lib.hid (HE4.out.step hs5 (by unfold only; omega))
  clear hr5 hs5
  go_wp2_with fail
  refine (rskip_any HR5.out k (by omega)).mono ?_
  rintro e w6 ⟨rfl, o6, hr6, hs6⟩
  rw [Q3.out] at hr6
  have HR6 := Lib.hid hr6
  have HE6 := Lib.hid (HE5.out.step hs6 (by unfold only; omega))
  clear hr6 hs6
  go_wp2_with fail
  refine (rerr_any HR6.out).mono ?_
  rintro e w7 ⟨rfl, rfl⟩
  go_wp2_with fail
  refine (rend_any HR6.out).mono ?_
  rintro e w7 ⟨rfl, hb7⟩
  rw [end_nil]
  have HE7 := Lib.hid (HE6.out.below_ hb7)
  clear hb7
  by_cases hk0 : k = 0
  · subst hk0
    have hkI : ((s.size : Int) + ((0 : Nat) : Int) == (s.size : Int)) = true := by simp
    go_wp2_with fail
    refine (alive1_any _).mono ?_
    rintro e w8 ⟨rfl, hb8⟩
    go_wp2_with fail
    go_ret
    exact ⟨rfl, (HE7.out.below_ hb8).low⟩
  · have hkI : ((s.size : Int) + (k : Int) == (s.size : Int)) = false := beq_eq_false_iff_ne.2 (by omega)
    have hcv := Lib.run_convert_string_bytes (P := Tryd.prog) w7 9 24 5 T Tryd.underlying9 Tryd.underlying24 Tryd.underlying5
    obtain ⟨q, hq, hqk⟩ : ∃ q : Nat, at' % (k : Int) = (q : Int) ∧ q < k := ⟨(at' % (k : Int)).toNat, by rw [Int.toNat_of_nonneg (Int.emod_nonneg _ (by omega))], by have := Int.emod_lt_of_pos at' (show (0 : Int) < (k : Int) by omega); have := Int.emod_nonneg at' (show (k : Int) ≠ 0 by omega); omega⟩
    have hTn : T.size = s.size + k + 2 := by omega
    have hcell : ∃ x, (Lib.bytesWorld w7 5 T).cell? ⟨w7.heap.size, s.size + 2 + q, none⟩ = some x := ⟨_, Lib.bytesWorld_cell w7 5 T _ (by omega)⟩
    obtain ⟨x0, hcell⟩ := hcell
    have hfz := bytes_frozen w7 5 T (j := s.size + 2 + q) (by omega)
    have hjI : (s.size : Int) + 2 + (q : Int) < (T.size : Int) := by omega
    have hj0 : (0 : Int) ≤ (s.size : Int) + 2 + (q : Int) := by omega
    have hjn : ((s.size : Int) + 2 + (q : Int)).toNat = s.size + 2 + q := by omega
    have hqkI : (q : Int) < (k : Int) := by omega
    have hconv : (convert 24 9 (.slice (some ⟨w7.heap.size, 0, none⟩) (s.size + k + 2) (grownCap w7 (s.size + k + 2) 0 5))).run Tryd.prog ((Lib.bytesWorld w7 5 T).setCell ⟨w7.heap.size, s.size + 2 + q, none⟩ (.int .u8 7)) = .ok (.string (str (le s.size 2 ++ s.data.toList ++ (List.replicate k 0).set q 7))) ((Lib.bytesWorld w7 5 T).setCell ⟨w7.heap.size, s.size + 2 + q, none⟩ (.int .u8 7)) := by
      have hl : (le s.size 2 ++ s.data.toList ++ List.replicate k (0 : UInt8)).length = s.size + k + 2 := by
        rw [List.length_append, List.length_append, le_len, List.length_replicate]
        show 2 + s.size + k = _
        omega
      have hTl : T.data.toList = le s.size 2 ++ s.data.toList ++ List.replicate k 0 := by rw [← HT.out, str_list]
      have hp : (le s.size 2 ++ s.data.toList).length = 2 + s.size := by rw [List.length_append, le_len]; rfl
      have h9 := conv_set (W := Lib.bytesWorld w7 5 T) (B := w7.heap.size) (cap := grownCap w7 (s.size + k + 2) 0 5) (l := le s.size 2 ++ s.data.toList ++ List.replicate k 0) (j := s.size + 2 + q) (by rw [hl]; omega)
        ⟨_, _, _, Lib.bytesWorld_at_new w7 5 T, by
          rw [hl, ← hTn]
          unfold Lib.bytesCells
          rw [Array.size_append, Array.size_map]
          exact Nat.le_add_right _ _⟩ (fun i hi => by rw [← hTl]; exact Lib.bytesWorld_cell w7 5 T i (by rw [hTn, ← hl]; exact hi))
      rw [hl] at h9
      rw [h9, List.set_append_right _ _ (by rw [hp]; omega), hp, show s.size + 2 + q - (2 + s.size) = q by omega]
    obtain ⟨u1, u2, u3⟩ := skips_take s (by omega) ((List.replicate k 0).set q 7) (by rw [List.length_set, List.length_replicate]; omega)
    rw [if_neg (zeros_set hqk), List.length_set, List.length_replicate] at u3
    obtain ⟨U, hU⟩ : ∃ U, str (le s.size 2 ++ s.data.toList ++ (List.replicate k 0).set q 7) = U := ⟨_, rfl⟩
    have hUs : U.size ≤ 1000000000 := by
      rw [← hU, str_size, List.length_append, List.length_append, le_len, List.length_set, List.length_replicate]
      show 2 + s.size + k ≤ _
      omega
    rw [hU] at hconv u1 u2
    have U1 := Lib.hid u1
    have U2 := Lib.hid u2
    have U3 := Lib.hid u3
    have HUS := Lib.hid hUs
    have HE8 := Lib.hid (HE7.out.below_ ((below_bytes w7 5 T).setCell (p := ⟨w7.heap.size, s.size + 2 + q, none⟩) (Nat.le_refl _) (.int .u8 7)))
    clear u1 u2 u3 hUs hU
    go_wp2_with fail
    refine (newreader_any o6 2 U _ HUS.out).mono ?_
    rintro e w9 ⟨p9, o9, rfl, hr9, hb9, hs9⟩
    have HR9 := Lib.hid hr9
    have HE9 := Lib.hid (HE8.out.step (hs9 (fun _ => False)) (by simp))
    clear hr9 hb9 hs9 hconv
    go_wp2_with fail
    refine (rtext_any HR9.out 300).mono ?_
    rintro e w10 ⟨rfl, o10, hr10, hs10⟩
    rw [U1.out]
    rw [U2.out] at hr10
    have HR10 := Lib.hid hr10
    have HE10 := Lib.hid (HE9.out.step hs10 (by unfold only; omega))
    clear hr10 hs10
    go_wp2_with fail
    refine (rskip_any HR10.out k (by omega)).mono ?_
    rintro e w11 ⟨rfl, o11, hr11, hs11⟩
    rw [U3.out] at hr11
    have HR11 := Lib.hid hr11
    have HE11 := Lib.hid (HE10.out.step hs11 (by unfold only; omega))
    clear hr11 hs11
    go_wp2_with fail
    refine (alive1_any _).mono ?_
    rintro e w12 ⟨rfl, hb12⟩
    have HR12 := Lib.hid (HR11.out.below_ hb12)
    have HE12 := Lib.hid (HE11.out.below_ hb12)
    clear hb12
    go_wp2_with fail
    refine (rerr_any HR12.out).mono ?_
    rintro e w13 ⟨rfl, rfl⟩
    go_wp2_with fail
    go_ret
    exact ⟨rfl, HE12.out.low⟩
end Go.Proofs.YteoodiffilajgaaDoor
