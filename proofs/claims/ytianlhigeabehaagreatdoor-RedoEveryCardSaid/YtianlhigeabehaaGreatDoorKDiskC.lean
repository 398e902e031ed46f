/- The disk: Barrier, Admit, Fence, Put. -/
import Derived.Test.YtianlhigeabehaaGreatDoorKCutB
namespace Go.Proofs.YtianlhigeabehaaGreatDoor
open Go.RowKit

theorem goes_same {D : Dk} (h : D.goes.1 = false) : ∃ n, D.goes.2 = { D with left := n } := by
  unfold Dk.goes at h ⊢
  by_cases ha : D.armed = false
  · rw [if_pos ha]
    exact ⟨D.left, rfl⟩
  · rw [if_neg ha] at h ⊢
    by_cases hl : 0 < D.left
    · rw [if_pos hl]
      exact ⟨_, rfl⟩
    · rw [if_neg hl] at h
      cases h
theorem may_ok {D : Dk} {node : Int} (h : D.may node = 0) : D.on = true ∧ 0 ≤ node ∧ node ≤ 16 := by
  unfold Dk.may at h
  split at h
  · omega
  · split at h
    · omega
    · rename_i h1 h2
      exact ⟨by simpa using h1, by omega, by omega⟩
def Dk.barrier (D : Dk) (node : Int) (epoch : Nat) : Int × Dk :=
  if D.may node ≠ 0 then (D.may node, D) else if D.admits node.toNat epoch ≠ 0 then (D.admits node.toNat epoch, D) else if D.goes.1 = true then (14, D.goes.2) else (0, D.goes.2.settle node)
set_option maxRecDepth 100000 in
set_option maxHeartbeats 1000000 in
theorem dbarrier_calm {o : Nat → Nat} {c p : Nat} {w : World} {D : Dk} (h : DiskAt o c w p D) (node : Int) (epoch : Nat) (hl : D.waits.length ≤ 1000000) :
    Calls Tryz.prog 41 #[.pointer (some ⟨p, 0, none⟩), .int .i64 node, .int .u64 epoch] w fun e w' => e = .returned (.int .i64 (D.barrier node epoch).1) ∧ ∃ o', DiskAt o' c w' p (D.barrier node epoch).2 ∧ Step o (six c) w o' w' := by
  have H := Lib.hid h
  clear h
  go_enter Tryz.func41, Tryz.ntmps41
  go_wp2_with fail
  refine (dmay_any H.out node).mono ?_
  rintro e w1 ⟨rfl, rfl⟩
  obtain ⟨E, hE⟩ : ∃ E, D.may node = E := ⟨_, rfl⟩
  rw [hE]
  by_cases h0 : E = 0
  · subst h0
    obtain ⟨hon, hn0, hn1⟩ := may_ok hE
    obtain ⟨k, rfl⟩ : ∃ k : Nat, node = k := ⟨node.toNat, by omega⟩
    have HE := Lib.hid hE
    clear hE hon
    go_wp2_with fail
    refine (dadmits_any H.out k epoch (by omega)).mono ?_
    rintro e w2 ⟨rfl, rfl⟩
    obtain ⟨F, hF⟩ : ∃ F, D.admits k epoch = F := ⟨_, rfl⟩
    rw [hF]
    by_cases h1 : F = 0
    · subst h1
      have HB := Lib.hid (show D.barrier (k : Int) epoch = if D.goes.1 = true then (14, D.goes.2) else (0, D.goes.2.settle k) from by unfold Dk.barrier; rw [if_neg (by simp [HE.out]), if_neg (by simp [hF])])
      clear hF
      go_wp2_with fail
      refine (dgoes_any H.out).mono ?_
      rintro e w3 ⟨rfl, o3, hd3, hs3⟩
      have HGS := Lib.hid (goes_same (D := D))
      obtain ⟨⟨G, D3⟩, hG⟩ : ∃ G, D.goes = G := ⟨_, rfl⟩
      rw [hG] at hd3 HB HGS ⊢
      simp only at hd3 HB HGS ⊢
      have HD3 := Lib.hid hd3
      have HS3 := Lib.hid hs3
      clear hd3 hs3 hG
      cases G with
      | true =>
        go_wp2_with fail
        go_ret
        rw [HB.out]
        exact ⟨rfl, o3, HD3.out, HS3.out⟩
      | false =>
        obtain ⟨nl, hnl⟩ := HGS.out rfl
        have HB2 := Lib.hid (HB.out.trans (if_neg (by decide)))
        clear HB HGS
        go_wp2_with fail
        refine (dsettle_any HD3.out (k : Int) (by rw [hnl]; exact hl)).mono ?_
        rintro e w4 ⟨rfl, o4, hd, hs⟩
        have HD := Lib.hid hd
        have HS := Lib.hid hs
        clear hd hs
        go_wp2_with fail
        go_ret
        rw [HB2.out]
        exact ⟨rfl, o4, HD.out, HS3.out.trans HS.out⟩
    · have h1B : (F != 0) = true := by simp [h1]
      have HB := Lib.hid (show D.barrier (k : Int) epoch = (F, D) from by unfold Dk.barrier; rw [if_neg (by simp [HE.out]), if_pos (by simp only [Int.toNat_natCast, hF]; exact h1), Int.toNat_natCast, hF])
      clear hF h1
      go_wp2_with fail
      go_ret
      rw [HB.out]
      exact ⟨rfl, o, H.out, Step.refl _ _ _⟩
  · have h0B : (E != 0) = true := by simp [h0]
    have HB := Lib.hid (show D.barrier node epoch = (E, D) from by unfold Dk.barrier; rw [if_pos (by rw [hE]; exact h0), hE])
    clear hE h0
    go_wp2_with fail
    go_ret
    rw [HB.out]
    exact ⟨rfl, o, H.out, Step.refl _ _ _⟩
def Dk.fence (D : Dk) (node : Int) : Int × Dk :=
  if D.may node ≠ 0 then (D.may node, D) else if D.goes.1 = true then (14, D.goes.2) else (0, { D.goes.2.settle node with table := fun k => if k = node.toNat then 0 else D.goes.2.table k })
theorem settle_table (D : Dk) (node : Int) : (D.settle node).table = D.table := by
  have h : ∀ (l : List Ws) (D : Dk), (l.foldl Dk.keep D).table = D.table := by
    intro l
    induction l with
    | nil => intro D; rfl
    | cons x l ih => intro D; rw [List.foldl_cons, ih]; unfold Dk.keep; split <;> rfl
  exact h _ _
theorem settle_same (D : Dk) (node : Int) : (D.settle node).on = D.on ∧ (D.settle node).armed = D.armed ∧ (D.settle node).sectors = D.sectors ∧ (D.settle node).last = D.last ∧ (D.settle node).words = D.words ∧ (D.settle node).now = D.now ∧ (D.settle node).seq = D.seq := by
  have h : ∀ (l : List Ws) (D : Dk), (l.foldl Dk.keep D).on = D.on ∧ (l.foldl Dk.keep D).armed = D.armed ∧ (l.foldl Dk.keep D).sectors = D.sectors ∧ (l.foldl Dk.keep D).last = D.last ∧ (l.foldl Dk.keep D).words = D.words ∧ (l.foldl Dk.keep D).now = D.now ∧ (l.foldl Dk.keep D).seq = D.seq := by
    intro l
    induction l with
    | nil => intro D; exact ⟨rfl, rfl, rfl, rfl, rfl, rfl, rfl⟩
    | cons x l ih =>
      intro D
      have h1 : (D.keep x).on = D.on ∧ (D.keep x).armed = D.armed ∧ (D.keep x).sectors = D.sectors ∧ (D.keep x).last = D.last ∧ (D.keep x).words = D.words ∧ (D.keep x).now = D.now ∧ (D.keep x).seq = D.seq := by
        unfold Dk.keep
        split <;> exact ⟨rfl, rfl, rfl, rfl, rfl, rfl, rfl⟩
      obtain ⟨a1, a2, a3, a4, a5, a6, a7⟩ := ih (D.keep x)
      obtain ⟨b1, b2, b3, b4, b5, b6, b7⟩ := h1
      exact ⟨a1.trans b1, a2.trans b2, a3.trans b3, a4.trans b4, a5.trans b5, a6.trans b6, a7.trans b7⟩
  exact h _ _
/-- a cell of the table, or of the words, is written -/
theorem cells_table (D : Dk) (mn ml : Nat) (wv sv : Value) (k : Nat) (hk : k ≤ 16) (v : Nat) : (D.cells mn ml wv sv).setIfInBounds (6 + k) (.int .u64 v) = ({ D with table := fun j => if j = k then v else D.table j } : Dk).cells mn ml wv sv := by
  rcases k with _ | _ | _ | _ | _ | _ | _ | _ | _ | _ | _ | _ | _ | _ | _ | _ | _ | k <;> first | rfl | omega
theorem cells_word (D : Dk) (mn ml : Nat) (wv sv : Value) (k : Nat) (hk : k ≤ 16) (v : Nat) : (D.cells mn ml wv sv).setIfInBounds (23 + k) (.int .u64 v) = ({ D with words := fun j => if j = k then v else D.words j } : Dk).cells mn ml wv sv := by
  rcases k with _ | _ | _ | _ | _ | _ | _ | _ | _ | _ | _ | _ | _ | _ | _ | _ | _ | k <;> first | rfl | omega
set_option maxRecDepth 100000 in
set_option maxHeartbeats 1000000 in
theorem dfence_calm {o : Nat → Nat} {c p : Nat} {w : World} {D : Dk} (h : DiskAt o c w p D) (node : Int) (hl : D.waits.length ≤ 1000000) :
    Calls Tryz.prog 10 #[.pointer (some ⟨p, 0, none⟩), .int .i64 node] w fun e w' => e = .returned (.int .i64 (D.fence node).1) ∧ ∃ o', DiskAt o' c w' p (D.fence node).2 ∧ Step o (six c) w o' w' := by
  have H := Lib.hid h
  clear h
  go_enter Tryz.func10, Tryz.ntmps10
  go_wp2_with fail
  refine (dmay_any H.out node).mono ?_
  rintro e w1 ⟨rfl, rfl⟩
  obtain ⟨E, hE⟩ : ∃ E, D.may node = E := ⟨_, rfl⟩
  rw [hE]
  by_cases h0 : E = 0
  · subst h0
    obtain ⟨hon, hn0, hn1⟩ := may_ok hE
    obtain ⟨k, rfl⟩ : ∃ k : Nat, node = k := ⟨node.toNat, by omega⟩
    have HB := Lib.hid (show D.fence (k : Int) = if D.goes.1 = true then (14, D.goes.2) else (0, { D.goes.2.settle k with table := fun j => if j = k then 0 else D.goes.2.table j }) from by unfold Dk.fence; rw [if_neg (by simp [hE])]; rfl)
    clear hE hon
    go_wp2_with fail
    refine (dgoes_any H.out).mono ?_
    rintro e w3 ⟨rfl, o3, hd3, hs3⟩
    have HGS := Lib.hid (goes_same (D := D))
    obtain ⟨⟨G, D3⟩, hG⟩ : ∃ G, D.goes = G := ⟨_, rfl⟩
    rw [hG] at hd3 HB HGS ⊢
    simp only at hd3 HB HGS ⊢
    have HD3 := Lib.hid hd3
    have HS3 := Lib.hid hs3
    clear hd3 hs3 hG
    cases G with
    | true =>
      go_wp2_with fail
      go_ret
      rw [HB.out]
      exact ⟨rfl, o3, HD3.out, HS3.out⟩
    | false =>
      obtain ⟨nl, hnl⟩ := HGS.out rfl
      have HB2 := Lib.hid (HB.out.trans (if_neg (by decide)))
      clear HB HGS
      go_wp2_with fail
      refine (dsettle_any HD3.out (k : Int) (by rw [hnl]; exact hl)).mono ?_
      rintro e w4 ⟨rfl, o4, ⟨mn, ml, wv, sv, hd⟩, hs⟩
      have ct := hd.table k (by omega)
      have ft := hd.blk.frozen (6 + k)
      obtain ⟨hd2, hs2⟩ := hd.set_ (6 + k) (.int .u64 (0 : Nat)) (cells_table _ _ _ _ _ k (by omega) 0) rfl rfl rfl rfl
      have HF := Lib.hid (show ∃ o', DiskAt o' c (w4.setCell ⟨p, 6 + k, none⟩ (.int .u64 0)) p (D.fence k).2 ∧ Step o (six c) w o' (w4.setCell ⟨p, 6 + k, none⟩ (.int .u64 0)) from ⟨o4, by rw [HB2.out]; rw [settle_table] at hd2; exact ⟨mn, ml, wv, sv, hd2⟩, HS3.out.trans (hs.trans (hs2.mono (only_six c)))⟩)
      have hkI : (k : Int) < 17 := by omega
      clear hd hs hd2 hs2
      go_wp2_with fail
      go_ret
      exact ⟨by rw [HB2.out]; rfl, HF.out⟩
  · have h0B : (E != 0) = true := by simp [h0]
    have HB := Lib.hid (show D.fence node = (E, D) from by unfold Dk.fence; rw [if_pos (by rw [hE]; exact h0), hE])
    clear hE h0
    go_wp2_with fail
    go_ret
    rw [HB.out]
    exact ⟨rfl, o, H.out, Step.refl _ _ _⟩
def Dk.admit (D : Dk) (node : Int) (epoch : Nat) : Int × Dk :=
  if D.may node ≠ 0 then (D.may node, D) else if epoch ≤ D.last then (8, D) else if D.goes.1 = true then (14, D.goes.2) else (0, { D.goes.2 with table := fun k => if k = node.toNat then epoch else D.goes.2.table k, last := epoch })
def Dk.put (D : Dk) (node : Int) (word : Nat) : Int × Dk :=
  if D.may node ≠ 0 then (D.may node, D) else if D.goes.1 = true then (14, D.goes.2) else (0, { D.goes.2 with words := fun k => if k = node.toNat then word else D.goes.2.words k })
set_option maxRecDepth 100000 in
set_option maxHeartbeats 1000000 in
theorem dput_calm {o : Nat → Nat} {c p : Nat} {w : World} {D : Dk} (h : DiskAt o c w p D) (node : Int) (word : Nat) :
    Calls Tryz.prog 62 #[.pointer (some ⟨p, 0, none⟩), .int .i64 node, .int .u64 word] w fun e w' => e = .returned (.int .i64 (D.put node word).1) ∧ ∃ o', DiskAt o' c w' p (D.put node word).2 ∧ Step o (six c) w o' w' := by
  have H := Lib.hid h
  clear h
  go_enter Tryz.func62, Tryz.ntmps62
  go_wp2_with fail
  refine (dmay_any H.out node).mono ?_
  rintro e w1 ⟨rfl, rfl⟩
  obtain ⟨E, hE⟩ : ∃ E, D.may node = E := ⟨_, rfl⟩
  rw [hE]
  by_cases h0 : E = 0
  · subst h0
    obtain ⟨hon, hn0, hn1⟩ := may_ok hE
    obtain ⟨k, rfl⟩ : ∃ k : Nat, node = k := ⟨node.toNat, by omega⟩
    have HB := Lib.hid (show D.put (k : Int) word = if D.goes.1 = true then (14, D.goes.2) else (0, { D.goes.2 with words := fun j => if j = k then word else D.goes.2.words j }) from by unfold Dk.put; rw [if_neg (by simp [hE])]; rfl)
    clear hE hon
    go_wp2_with fail
    refine (dgoes_any H.out).mono ?_
    rintro e w3 ⟨rfl, o3, hd3, hs3⟩
    have HGS := Lib.hid (goes_same (D := D))
    obtain ⟨⟨G, D3⟩, hG⟩ : ∃ G, D.goes = G := ⟨_, rfl⟩
    rw [hG] at hd3 HB HGS ⊢
    simp only at hd3 HB HGS ⊢
    have HD3 := Lib.hid hd3
    have HS3 := Lib.hid hs3
    clear hd3 hs3 hG
    cases G with
    | true =>
      go_wp2_with fail
      go_ret
      rw [HB.out]
      exact ⟨rfl, o3, HD3.out, HS3.out⟩
    | false =>
      obtain ⟨nl, hnl⟩ := HGS.out rfl
      have HB2 := Lib.hid (HB.out.trans (if_neg (by decide)))
      clear HB HGS
      obtain ⟨mn, ml, wv, sv, hd⟩ := HD3.out
      have ct := hd.word k (by omega)
      have ft := hd.blk.frozen (23 + k)
      obtain ⟨hd2, hs2⟩ := hd.set_ (23 + k) (.int .u64 word) (cells_word _ _ _ _ _ k (by omega) word) rfl rfl rfl rfl
      have HF := Lib.hid (show ∃ o', DiskAt o' c (w3.setCell ⟨p, 23 + k, none⟩ (.int .u64 word)) p (D.put k word).2 ∧ Step o (six c) w o' (w3.setCell ⟨p, 23 + k, none⟩ (.int .u64 word)) from ⟨o3, by rw [HB2.out]; exact ⟨mn, ml, wv, sv, hd2⟩, HS3.out.trans (hs2.mono (only_six c))⟩)
      have hkI : (k : Int) < 17 := by omega
      clear hd hd2 hs2
      go_wp2_with fail
      go_ret
      exact ⟨by rw [HB2.out]; rfl, HF.out⟩
  · have h0B : (E != 0) = true := by simp [h0]
    have HB := Lib.hid (show D.put node word = (E, D) from by unfold Dk.put; rw [if_pos (by rw [hE]; exact h0), hE])
    clear hE h0
    go_wp2_with fail
    go_ret
    rw [HB.out]
    exact ⟨rfl, o, H.out, Step.refl _ _ _⟩
set_option maxRecDepth 100000 in
set_option maxHeartbeats 1000000 in
theorem dadmit_calm {o : Nat → Nat} {c p : Nat} {w : World} {D : Dk} (h : DiskAt o c w p D) (node : Int) (epoch : Nat) :
    Calls Tryz.prog 11 #[.pointer (some ⟨p, 0, none⟩), .int .i64 node, .int .u64 epoch] w fun e w' => e = .returned (.int .i64 (D.admit node epoch).1) ∧ ∃ o', DiskAt o' c w' p (D.admit node epoch).2 ∧ Step o (six c) w o' w' := by
  have H := Lib.hid h
  clear h
  go_enter Tryz.func11, Tryz.ntmps11
  go_wp2_with fail
  refine (dmay_any H.out node).mono ?_
  rintro e w1 ⟨rfl, rfl⟩
  obtain ⟨E, hE⟩ : ∃ E, D.may node = E := ⟨_, rfl⟩
  rw [hE]
  by_cases h0 : E = 0
  · subst h0
    obtain ⟨hon, hn0, hn1⟩ := may_ok hE
    obtain ⟨k, rfl⟩ : ∃ k : Nat, node = k := ⟨node.toNat, by omega⟩
    have HE := Lib.hid hE
    clear hE hon
    obtain ⟨mn, ml, wv, sv, hd⟩ := H.out
    have c40 : w.cell? ⟨p, 40, none⟩ = some (.int .u64 D.last) := hd.blk.cell 40
    have HD := Lib.hid hd
    clear hd
    by_cases h1 : epoch ≤ D.last
    · have h1I : (epoch : Int) ≤ (D.last : Int) := by omega
      have HB := Lib.hid (show D.admit (k : Int) epoch = (8, D) from by unfold Dk.admit; rw [if_neg (by simp [HE.out]), if_pos h1])
      go_wp2_with fail
      go_ret
      rw [HB.out]
      exact ⟨rfl, o, H.out, Step.refl _ _ _⟩
    · have h1I : ¬ (epoch : Int) ≤ (D.last : Int) := by omega
      have HB := Lib.hid (show D.admit (k : Int) epoch = if D.goes.1 = true then (14, D.goes.2) else (0, { D.goes.2 with table := fun j => if j = k then epoch else D.goes.2.table j, last := epoch }) from by unfold Dk.admit; rw [if_neg (by simp [HE.out]), if_neg h1]; rfl)
      go_wp2_with fail
      refine (dgoes_any H.out).mono ?_
      rintro e w3 ⟨rfl, o3, hd3, hs3⟩
      have HGS := Lib.hid (goes_same (D := D))
      obtain ⟨⟨G, D3⟩, hG⟩ : ∃ G, D.goes = G := ⟨_, rfl⟩
      rw [hG] at hd3 HB HGS ⊢
      simp only at hd3 HB HGS ⊢
      have HD3 := Lib.hid hd3
      have HS3 := Lib.hid hs3
      clear hd3 hs3 hG
      cases G with
      | true =>
        go_wp2_with fail
        go_ret
        rw [HB.out]
        exact ⟨rfl, o3, HD3.out, HS3.out⟩
      | false =>
        obtain ⟨nl, hnl⟩ := HGS.out rfl
        have HB2 := Lib.hid (HB.out.trans (if_neg (by decide)))
        clear HB HGS
        have hkI : (k : Int) < 17 := by omega
        obtain ⟨mn3, ml3, wv3, sv3, hd3⟩ := HD3.out
        have HD := Lib.hid hd3
        clear hd3
        obtain ⟨hd2, hs2⟩ := HD.out.set_ (6 + k) (.int .u64 epoch) (cells_table _ _ _ _ _ k (by omega) epoch) rfl rfl rfl rfl
        obtain ⟨hd3, hs3⟩ := hd2.set_ (D2 := { D3 with table := fun j => if j = k then epoch else D3.table j, last := epoch }) 40 (.int .u64 epoch) rfl rfl rfl rfl rfl
        have ct := HD.out.table k (by omega)
        have ft := HD.out.blk.frozen (6 + k)
        have ct2 : (w3.setCell ⟨p, 6 + k, none⟩ (.int .u64 epoch)).cell? ⟨p, 40, none⟩ = some (.int .u64 D3.last) := hd2.blk.cell 40
        have ft2 := hd2.blk.frozen 40
        have HF := Lib.hid (show ∃ o', DiskAt o' c ((w3.setCell ⟨p, 6 + k, none⟩ (.int .u64 epoch)).setCell ⟨p, 40, none⟩ (.int .u64 epoch)) p (D.admit k epoch).2 ∧ Step o (six c) w o' ((w3.setCell ⟨p, 6 + k, none⟩ (.int .u64 epoch)).setCell ⟨p, 40, none⟩ (.int .u64 epoch)) from ⟨o3, by rw [HB2.out]; exact ⟨mn3, ml3, wv3, sv3, hd3⟩, HS3.out.trans ((hs2.trans hs3).mono (only_six c))⟩)
        clear hd2 hs2 hd3 hs3
        go_wp2_with fail
        go_ret
        exact ⟨by rw [HB2.out]; rfl, HF.out⟩
  · have h0B : (E != 0) = true := by simp [h0]
    have HB := Lib.hid (show D.admit node epoch = (E, D) from by unfold Dk.admit; rw [if_pos (by rw [hE]; exact h0), hE])
    clear hE h0
    go_wp2_with fail
    go_ret
    rw [HB.out]
    exact ⟨rfl, o, H.out, Step.refl _ _ _⟩
end Go.Proofs.YtianlhigeabehaaGreatDoor
