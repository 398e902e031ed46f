/- MsgTells' book: putMsgs (printed by gen/mkput.py). -/
import Derived.Test.YtjmgefpdfhfhmaaGreatDoorMsgS
namespace Go.Proofs.YtjmgefpdfhfhmaaGreatDoor
open Go.RowKit

theorem far_row' {w : World} {a : Addr} {v : Value} {g : Nat} (h : w.cell? a = some v) (hn : a.block ≠ g) (l : List Value) (o : Nat) : (w.setCells g o l.toArray.toList).cell? a = some v :=
  (World.cell?_of_block (w := w) (w' := w.setCells g o l) (setCells_far hn l o w)).trans h
theorem there_of {w : World} {a : Addr} (h : (∃ u, w.cell? a = some u) ∧ w.frozen? a = false) : (w.drew.cell? a).isSome = true ∧ w.drew.frozen? a = false := by
  obtain ⟨⟨u, h1⟩, h2⟩ := h
  exact ⟨by rw [show w.drew.cell? a = w.cell? a from rfl, h1]; rfl, h2⟩
theorem msg_size : (Tryz.prog.info? 26).map (·.size) = some 8 := by kernel_rfl
set_option maxRecDepth 100000 in
set_option maxHeartbeats 2000000 in
theorem putmsgs_any (o : Nat → Nat) (w : World) (p : Nat) (cs : Array Value) (v : Value) (S : List (Nat × List Value)) (vs : List Value) (hb : BookAt o w p cs) (h8 : cs[26]? = some v)
    (k8 : Kept 58 26 8 23 3000 o w v S vs) (hl : ∀ (i n : Nat) xs, S[i]? = some (n, xs) → n ≤ 1000) (hL : S.length ≤ 250) :
    Calls Tryz.prog 54 #[.pointer (some ⟨p, 0, none⟩)] w fun e w' => e = .returned (.tuple #[]) ∧ ∃ o', Kept 58 26 8 23 3000 o' w' v (putS mgM S.length S) vs ∧ Step o (putC 3000) w o' w' := by
  have HB := Lib.hid hb
  have HL := Lib.hid hl
  have H8 := Lib.hid k8
  have C8 := Lib.hid h8
  obtain ⟨A8, cap8, e8, _, _⟩ := k8.outer.form
  have E8 := Lib.hid e8
  clear hb hl k8 h8 e8
  go_enter Tryz.func54, Tryz.ntmps54
  go_wp2_with fail
  go_loopw [2] (fun t1 wr => ∃ (i : Nat) (o' : Nat → Nat), i ≤ S.length ∧ t1 = .int .i64 i ∧ Kept 58 26 8 23 3000 o' wr v (putS mgM i S) vs ∧ Step o (putC 3000) w o' wr) (fun t1 _ => S.length - (intOf t1).toNat)
  case atStart => exact ⟨0, o, by omega, rfl, by rw [putS_zero]; exact H8.out, Step.refl _ _ _⟩
  case round =>
    obtain ⟨i, o1, hi, rfl, k1, hs⟩ := hrel
    have h8 : wr.cell? ⟨p, 26, none⟩ = some (.slice A8 S.length cap8) := by rw [← E8.out]; exact ((HB.out.step hs (by unfold putC; omega)).1.cell 26).trans C8.out
    have HS := Lib.hid hs
    have K1 := Lib.hid k1
    clear hs k1
    by_cases hlt : i < S.length
    · have hltI : (i : Int) < (S.length : Int) := by omega
      obtain ⟨ad, cap, A, c, u, n, xs, e1, _, hu, hS, e2, _, hc, how⟩ := K1.out.at_ (i := i) (by rw [putS_len]; exact hlt)
      rw [E8.out, putS_len] at e1
      injection e1 with e1 _ e3
      subst e1 e3
      have HOW := Lib.hid how
      have HU := Lib.hid hu
      have HSS := Lib.hid hS
      clear how hu hS
      go_wp2_with fail
      have hn := HL.out i n xs (putS_row HSS.out)
      refine (markmsgs_rows o1 40 wr i 0 n (by omega) (by omega)).mono ?_
      rintro e w2 ⟨A2, c2, o2, rfl, how2, hs2⟩
      have hP : PutAt 58 26 8 23 3000 mgM o o2 w w2 p cs v S vs i n 0 xs (.slice A2 n c2) := ⟨by rw [rowsF_zero, List.nil_append, Nat.zero_mul, List.drop_zero, set_same HSS.out]; exact K1.out.step hs2 (by unfold only; omega) (fun j _ => by unfold only; omega), how2, HS.out.trans (hs2.mono (fun c h => .inl h)), (HB.out.step HS.out (by unfold putC; omega)).step hs2 (by unfold only; omega)⟩
      have HP := Lib.hid hP
      clear hP how2 hs2 hc h8
      go_wp2_with fail
      go_loopw [4] (fun t4 wk => ∃ (k : Nat) (o' : Nat → Nat), k ≤ n ∧ t4 = .int .i64 k ∧ PutAt 58 26 8 23 3000 mgM o o' w wk p cs v S vs i n k xs (.slice A2 n c2)) (fun t4 _ => n - (intOf t4).toNat)
      case atStart => exact ⟨0, o2, by omega, rfl, HP.out⟩
      case round =>
        obtain ⟨k, o3, hk, rfl, hp⟩ := hrel
        have HP3 := Lib.hid hp
        clear hp
        by_cases hlt2 : k < n
        · have hltI2 : (k : Int) < (n : Int) := by omega
          obtain ⟨g, off, g2, rfl, rfl, q8, qi, qm, n1, n2, n3, qt⟩ := HP3.out.open_ E8.out hlt (by rw [HU.out, e2]) hlt2 mgM_len C8.out (by omega) (by omega) (by omega)
          rw [E8.out] at q8
          have m0 : wr.cell? ⟨g2, k * 8, none⟩ = some (.int .i64 0) := qm 0 _ rfl
          have m1 : wr.cell? ⟨g2, k * 8 + 1, none⟩ = some (.int .i64 (-1 - (i : Int))) := qm 1 _ rfl
          have m2 : wr.cell? ⟨g2, k * 8 + 2, none⟩ = some (.int .i64 (k : Int)) := qm 2 _ rfl
          have m3 : wr.cell? ⟨g2, k * 8 + 3, none⟩ = some (.int .i64 0) := qm 3 _ rfl
          have m4 : wr.cell? ⟨g2, k * 8 + 4, none⟩ = some (.int .i64 0) := qm 4 _ rfl
          have m5 : wr.cell? ⟨g2, k * 8 + 5, none⟩ = some (.int .u64 0) := qm 5 _ rfl
          have m6 : wr.cell? ⟨g2, k * 8 + 6, none⟩ = some (.int .i64 0) := qm 6 _ rfl
          have m7 : wr.cell? ⟨g2, k * 8 + 7, none⟩ = some (.slice none 0 0) := qm 7 _ rfl
          clear qm
          go_wp2_with fail
          have THERE := Lib.hid (fun j hj => (there_of (qt j hj)) : wr.drew.there g (off + k * 8) (mgM i k).toArray.size)
          clear qt
          refine wp_region_held_drew (S := (fun w' => w'.cell? ⟨p, 26, none⟩ = some (.slice (some ad) S.length cap8) ∧ w'.cell? (ad.add i) = some (.slice (some ⟨g, off, none⟩) n c) ∧ w'.cell? ⟨g2, k * 8, none⟩ = some (.int .i64 0) ∧ w'.cell? ⟨g2, k * 8 + 1, none⟩ = some (.int .i64 (-1 - (i : Int))) ∧ w'.cell? ⟨g2, k * 8 + 2, none⟩ = some (.int .i64 (k : Int)) ∧ w'.cell? ⟨g2, k * 8 + 3, none⟩ = some (.int .i64 0) ∧ w'.cell? ⟨g2, k * 8 + 4, none⟩ = some (.int .i64 0) ∧ w'.cell? ⟨g2, k * 8 + 5, none⟩ = some (.int .u64 0) ∧ w'.cell? ⟨g2, k * 8 + 6, none⟩ = some (.int .i64 0) ∧ w'.cell? ⟨g2, k * 8 + 7, none⟩ = some (.slice none 0 0))) (by kernel_rfl) ⟨q8, qi, m0, m1, m2, m3, m4, m5, m6, m7⟩ (fun hHeld => ?_)
          refine wpAnyH_take (i := 0) (oi := { dst := some 30, op := Op.move (Operand.tmp 0), type := 28, pos := "book.go:997", after := #[], guard := none }) (v := ?_) rfl (by kernel_rfl) (by kernel_rfl) (by kernel_rfl) (fun _ _ _ h => h) (Or.inl ⟨by rfl, ?_⟩) (by assumption) ?_
          rotate_left
          · (intro w hSw; (try dsimp only at hSw); go_simp; first | done | with_reducible rfl)
          try simp only [Act.put, List.setIfInBounds_toArray, List.set_cons_zero, List.set_cons_succ]
          refine wpAnyH_take (i := 1) (oi := { dst := some 31, op := Op.nilCheck (Operand.tmp 30), type := 0, pos := "book.go:997", after := #[{ on := 0, ground := Ground.data }], guard := none }) (v := ?_) rfl (by kernel_rfl) (by kernel_rfl) (by kernel_rfl) (fun _ _ _ h => h) (Or.inl ⟨by rfl, ?_⟩) (by assumption) ?_
          rotate_left
          · (intro w hSw; (try dsimp only at hSw); go_simp; first | done | with_reducible rfl)
          try simp only [Act.put, List.setIfInBounds_toArray, List.set_cons_zero, List.set_cons_succ]
          refine wpAnyH_take (i := 2) (oi := { dst := some 32, op := Op.fieldAddr 45 (Operand.tmp 31) 26, type := 0, pos := "book.go:997", after := #[{ on := 1, ground := Ground.data }], guard := none }) (v := ?_) rfl (by kernel_rfl) (by kernel_rfl) (by kernel_rfl) (fun _ _ _ h => h) (Or.inl ⟨by rfl, ?_⟩) (by assumption) ?_
          rotate_left
          · (intro w hSw; (try dsimp only at hSw); go_simp; first | done | with_reducible rfl)
          try simp only [Act.put, List.setIfInBounds_toArray, List.set_cons_zero, List.set_cons_succ]
          refine wpAnyH_take (i := 3) (oi := { dst := some 33, op := Op.load 42 (Operand.tmp 32), type := 42, pos := "book.go:997", after := #[{ on := 2, ground := Ground.data }], guard := none }) (v := ?_) rfl (by kernel_rfl) (by kernel_rfl) (by kernel_rfl) (fun _ _ _ h => h) (Or.inl ⟨by rfl, ?_⟩) (by assumption) ?_
          rotate_left
          · (intro w hSw; (try dsimp only at hSw); go_simp; first | done | with_reducible rfl)
          try simp only [Act.put, List.setIfInBounds_toArray, List.set_cons_zero, List.set_cons_succ]
          refine wpAnyH_take (i := 4) (oi := { dst := some 34, op := Op.move (Operand.tmp 2), type := 3, pos := "book.go:997", after := #[], guard := none }) (v := ?_) rfl (by kernel_rfl) (by kernel_rfl) (by kernel_rfl) (fun _ _ _ h => h) (Or.inl ⟨by rfl, ?_⟩) (by assumption) ?_
          rotate_left
          · (intro w hSw; (try dsimp only at hSw); go_simp; first | done | with_reducible rfl)
          try simp only [Act.put, List.setIfInBounds_toArray, List.set_cons_zero, List.set_cons_succ]
          refine wpAnyH_take (i := 5) (oi := { dst := some 35, op := Op.indexAddr 42 (Operand.tmp 33) (Operand.tmp 34), type := 0, pos := "book.go:997", after := #[{ on := 3, ground := Ground.data }, { on := 4, ground := Ground.data }], guard := none }) (v := ?_) rfl (by kernel_rfl) (by kernel_rfl) (by kernel_rfl) (fun _ _ _ h => h) (Or.inl ⟨by rfl, ?_⟩) (by assumption) ?_
          rotate_left
          · (intro w hSw; (try dsimp only at hSw); go_simp; first | done | with_reducible rfl)
          try simp only [Act.put, List.setIfInBounds_toArray, List.set_cons_zero, List.set_cons_succ]
          refine wpAnyH_take (i := 6) (oi := { dst := some 36, op := Op.load 58 (Operand.tmp 35), type := 58, pos := "book.go:997", after := #[{ on := 5, ground := Ground.data }], guard := none }) (v := ?_) rfl (by kernel_rfl) (by kernel_rfl) (by kernel_rfl) (fun _ _ _ h => h) (Or.inl ⟨by rfl, ?_⟩) (by assumption) ?_
          rotate_left
          · (intro w hSw; (try dsimp only at hSw); go_simp; first | done | with_reducible rfl)
          try simp only [Act.put, List.setIfInBounds_toArray, List.set_cons_zero, List.set_cons_succ]
          refine wpAnyH_take (i := 7) (oi := { dst := some 37, op := Op.move (Operand.tmp 4), type := 3, pos := "book.go:997", after := #[], guard := none }) (v := ?_) rfl (by kernel_rfl) (by kernel_rfl) (by kernel_rfl) (fun _ _ _ h => h) (Or.inl ⟨by rfl, ?_⟩) (by assumption) ?_
          rotate_left
          · (intro w hSw; (try dsimp only at hSw); go_simp; first | done | with_reducible rfl)
          try simp only [Act.put, List.setIfInBounds_toArray, List.set_cons_zero, List.set_cons_succ]
          refine wpAnyH_take (i := 8) (oi := { dst := some 38, op := Op.move (Operand.tmp 3), type := 58, pos := "book.go:997", after := #[], guard := none }) (v := ?_) rfl (by kernel_rfl) (by kernel_rfl) (by kernel_rfl) (fun _ _ _ h => h) (Or.inl ⟨by rfl, ?_⟩) (by assumption) ?_
          rotate_left
          · (intro w hSw; (try dsimp only at hSw); go_simp; first | done | with_reducible rfl)
          try simp only [Act.put, List.setIfInBounds_toArray, List.set_cons_zero, List.set_cons_succ]
          refine wpAnyH_take (i := 9) (oi := { dst := some 39, op := Op.move (Operand.tmp 4), type := 3, pos := "book.go:997", after := #[], guard := none }) (v := ?_) rfl (by kernel_rfl) (by kernel_rfl) (by kernel_rfl) (fun _ _ _ h => h) (Or.inl ⟨by rfl, ?_⟩) (by assumption) ?_
          rotate_left
          · (intro w hSw; (try dsimp only at hSw); go_simp; first | done | with_reducible rfl)
          try simp only [Act.put, List.setIfInBounds_toArray, List.set_cons_zero, List.set_cons_succ]
          refine wpAnyH_take (i := 10) (oi := { dst := some 40, op := Op.indexAddr 58 (Operand.tmp 38) (Operand.tmp 39), type := 0, pos := "book.go:997", after := #[{ on := 8, ground := Ground.data }, { on := 9, ground := Ground.data }], guard := none }) (v := ?_) rfl (by kernel_rfl) (by kernel_rfl) (by kernel_rfl) (fun _ _ _ h => h) (Or.inl ⟨by rfl, ?_⟩) (by assumption) ?_
          rotate_left
          · (intro w hSw; (try dsimp only at hSw); go_simp; first | done | with_reducible rfl)
          try simp only [Act.put, List.setIfInBounds_toArray, List.set_cons_zero, List.set_cons_succ]
          refine wpAnyH_take (i := 11) (oi := { dst := some 41, op := Op.load 26 (Operand.tmp 40), type := 26, pos := "book.go:997", after := #[{ on := 10, ground := Ground.data }], guard := none }) (v := ?_) rfl (by kernel_rfl) (by kernel_rfl) (by kernel_rfl) (fun _ _ _ h => h) (Or.inl ⟨by rfl, ?_⟩) (by assumption) ?_
          rotate_left
          · (intro w hSw; (try dsimp only at hSw); go_simp; first | done | with_reducible rfl)
          try simp only [Act.put, List.setIfInBounds_toArray, List.set_cons_zero, List.set_cons_succ]
          refine wpAnyH_take (i := 12) (oi := { dst := some 42, op := Op.indexAddr 58 (Operand.tmp 36) (Operand.tmp 37), type := 0, pos := "book.go:997", after := #[{ on := 6, ground := Ground.data }, { on := 7, ground := Ground.data }, { on := 0, ground := Ground.phase }, { on := 1, ground := Ground.phase }, { on := 2, ground := Ground.phase }, { on := 3, ground := Ground.phase }, { on := 4, ground := Ground.phase }, { on := 5, ground := Ground.phase }, { on := 6, ground := Ground.phase }, { on := 7, ground := Ground.phase }, { on := 8, ground := Ground.phase }, { on := 9, ground := Ground.phase }, { on := 10, ground := Ground.phase }, { on := 11, ground := Ground.phase }], guard := none }) (v := ?_) rfl (by kernel_rfl) (by kernel_rfl) (by kernel_rfl) (fun _ _ _ h => h) (Or.inl ⟨by rfl, ?_⟩) (by assumption) ?_
          rotate_left
          · (intro w hSw; (try dsimp only at hSw); go_simp; first | done | with_reducible rfl)
          try simp only [Act.put, List.setIfInBounds_toArray, List.set_cons_zero, List.set_cons_succ]
          refine wpAnyH_ready (rs := [13]) (by kernel_rfl) (by simp) ?_
          refine AllReadyH.cons (o := { dst := none, op := Op.store 26 (Operand.tmp 42) (Operand.tmp 41), type := 0, pos := "book.go:997", after := #[{ on := 12, ground := Ground.data }, { on := 11, ground := Ground.data }, { on := 0, ground := Ground.phase }, { on := 1, ground := Ground.phase }, { on := 2, ground := Ground.phase }, { on := 3, ground := Ground.phase }, { on := 4, ground := Ground.phase }, { on := 5, ground := Ground.phase }, { on := 6, ground := Ground.phase }, { on := 7, ground := Ground.phase }, { on := 8, ground := Ground.phase }, { on := 9, ground := Ground.phase }, { on := 10, ground := Ground.phase }, { on := 11, ground := Ground.phase }], guard := none }) rfl (fun K hK => ?_) AllReadyH.nil
          rw [if_pos (by rfl)]
          refine wp_store_mid _ _ _ rfl g (off + k * 8) (mgM i k).toArray rfl rfl THERE.out msg_size (by kernel_rfl) ?_
          refine hK.out _ _ ⟨far_row' (w := wr.drew) q8 n1 (mgM i k) (off + k * 8), far_row' (w := wr.drew) qi n2 (mgM i k) (off + k * 8), far_row' (w := wr.drew) m0 n3 (mgM i k) (off + k * 8), far_row' (w := wr.drew) m1 n3 (mgM i k) (off + k * 8), far_row' (w := wr.drew) m2 n3 (mgM i k) (off + k * 8), far_row' (w := wr.drew) m3 n3 (mgM i k) (off + k * 8), far_row' (w := wr.drew) m4 n3 (mgM i k) (off + k * 8), far_row' (w := wr.drew) m5 n3 (mgM i k) (off + k * 8), far_row' (w := wr.drew) m6 n3 (mgM i k) (off + k * 8), far_row' (w := wr.drew) m7 n3 (mgM i k) (off + k * 8)⟩ (fun hHeld2 => ?_)
          clear hK K hHeld
          have hHeld := hHeld2
          clear hHeld2
          simp only [Act.put]
          refine wpAnyH_done (by kernel_rfl) ?_ _
          have hN := HP3.out.drew.next (i := i) hlt (by omega) (by rw [HU.out, e2]) hlt2 mgM_len (by omega) (by omega) (by omega)
          have HN := Lib.hid (show PutAt 58 26 8 23 3000 mgM o o3 w (wr.drew.setCells g (off + k * 8) (mgM i k).toArray.toList) p cs v S vs i n (k + 1) xs (.slice (some ⟨g2, 0, none⟩) n c2) from hN)
          clear hN hHeld q8 qi m0 m1 m2 m3 m4 m5 m6 m7 n1 n2 n3 THERE
          go_wp2_with fail
          go_roundw
          case rel => exact ⟨k + 1, o3, by omega, by go_num, HN.out⟩
          case measure => simp [intOf]; omega
        · have hltI2 : ¬ (k : Int) < (n : Int) := by omega
          obtain rfl : k = n := by omega
          go_wp2_with fail
          go_roundw
          case rel => exact ⟨i + 1, o3, by omega, by go_num, HP3.out.done (putS_row HSS.out) HOW.out.1, HP3.out.step⟩
          case measure => simp [intOf]; omega
    · have hltI : ¬ (i : Int) < (S.length : Int) := by omega
      obtain rfl : i = S.length := by omega
      go_wp2_with fail
      go_end0
      exact ⟨rfl, o1, K1.out, HS.out⟩
end Go.Proofs.YtjmgefpdfhfhmaaGreatDoor
