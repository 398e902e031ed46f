/- The document's writer over a row that came from a string: its numbers. -/
import Derived.Test.YtkhieofknglknaaGreatDoorKApplyP
import Derived.Test.YtkhieofknglknaaGreatDoorKRefK
import Derived.Test.YtkhieofknglknaaGreatDoorKMapR
namespace Go.Proofs.YtkhieofknglknaaGreatDoor
open Go.RowKit

/-- a row of bytes of which the first are bs; a mark may stand behind its end -/
def MarkRow (w : World) (g cap : Nat) (bs : List UInt8) : Prop := ∃ cur fz, w.heap[g]? = some (.cells cur 5 fz) ∧ cur.size = cap ∧ cur.toList.take bs.length = bvs bs ∧ (fz.2 ≤ fz.1 ∨ cap ≤ fz.1) ∧ bs.length ≤ cap
section
variable {w w' : World} {g cap : Nat} {bs : List UInt8}
theorem MarkRow.lt (h : MarkRow w g cap bs) : g < w.heap.size := by
  obtain ⟨cur, fz, hg, _⟩ := h
  exact (Array.getElem?_eq_some_iff.1 hg).1
theorem MarkRow.same (h : MarkRow w g cap bs) (he : w'.heap[g]? = w.heap[g]?) : MarkRow w' g cap bs := by
  obtain ⟨cur, fz, hg, rest⟩ := h
  exact ⟨cur, fz, he.trans hg, rest⟩
theorem MarkRow.cell (h : MarkRow w g cap bs) : ∀ j u, (bvs bs)[j]? = some u → w.cell? ⟨g, j, none⟩ = some u := by
  obtain ⟨cur, fz, hg, hs, ht, _, hl⟩ := h
  intro j u hj
  have hjl : j < bs.length := by have := (List.getElem?_eq_some_iff.1 hj).1; rwa [bvs_len] at this
  simp only [World.cell?, hg]
  rw [← ht, List.getElem?_take_of_lt hjl] at hj
  simpa using hj
theorem MarkRow.spare (h : MarkRow w g cap bs) {j : Nat} (hj : j < cap) : (w.cell? ⟨g, j, none⟩).isSome = true ∧ w.frozen? ⟨g, j, none⟩ = false := by
  obtain ⟨cur, ⟨lo, hi⟩, hg, hs, ht, hz, hl⟩ := h
  subst hs
  constructor
  · simp only [World.cell?, hg]
    simp [hj]
  · simp only [World.frozen?, hg]
    simp only at hz
    simp
    omega
theorem cells_marked {g : Nat} {t : TypeId} {fz : Nat × Nat} : ∀ (vs : List Value) (o : Nat) (w : World) (cs : Array Value), w.heap[g]? = some (.cells cs t fz) → ∃ cs', (w.setCells g o vs).heap[g]? = some (.cells cs' t fz) ∧ cs'.size = cs.size ∧
    ∀ i : Nat, cs'[i]? = if o ≤ i ∧ i < o + vs.length ∧ i < cs.size then vs[i - o]? else cs[i]?
  | [], o, w, cs, h => ⟨cs, h, rfl, fun i => by rw [if_neg (by simp; omega)]⟩
  | v :: r, o, w, cs, h => by
    have hs : (w.setCell ⟨g, o, none⟩ v).heap[g]? = some (.cells (cs.setIfInBounds o v) t fz) := by simp [World.setCell, Array.getElem?_modify, h]
    obtain ⟨cs', h1, h2, h3⟩ := cells_marked r (o + 1) _ _ hs
    refine ⟨cs', h1, by simpa using h2, fun i => ?_⟩
    rw [h3 i]
    simp only [Array.size_setIfInBounds, List.length_cons]
    by_cases h4 : o + 1 ≤ i ∧ i < o + 1 + r.length ∧ i < cs.size
    · rw [if_pos h4, if_pos (by omega), show i - o = (i - (o + 1)) + 1 by omega]
      simp
    · rw [if_neg h4]
      by_cases h5 : o ≤ i ∧ i < o + (r.length + 1) ∧ i < cs.size
      · have h6 : i = o := by omega
        subst h6
        rw [if_pos h5]
        simp [h5.2.2]
      · rw [if_neg h5]
        rw [Array.getElem?_setIfInBounds]
        by_cases h6 : o = i
        · subst h6
          have h7 : ¬ o < cs.size := by omega
          simp [h7]
        · rw [if_neg h6]
theorem MarkRow.put (h : MarkRow w g cap bs) (l : List UInt8) (hr : bs.length + l.length ≤ cap) : MarkRow (w.setCells g bs.length (bvs l)) g cap (bs ++ l) := by
  obtain ⟨cur, fz, hg, hs, ht, hz, hl⟩ := h
  obtain ⟨cs', h1, h2, h3⟩ := cells_marked (bvs l) bs.length w cur hg
  refine ⟨cs', fz, h1, h2.trans hs, ?_, hz, by rw [List.length_append]; exact hr⟩
  apply List.ext_getElem?
  intro i
  rw [List.getElem?_take, bvs_app, List.length_append]
  simp only [Array.getElem?_toList, h3, bvs_len]
  by_cases hi : i < bs.length + l.length
  · rw [if_pos hi]
    by_cases hb : i < bs.length
    · rw [if_neg (by omega), List.getElem?_append_left (by rw [bvs_len]; exact hb), ← ht, List.getElem?_take_of_lt hb]
      simp
    · rw [if_pos (by omega), List.getElem?_append_right (by rw [bvs_len]; omega), bvs_len]
  · rw [if_neg hi, List.getElem?_eq_none]
    rw [List.length_append, bvs_len, bvs_len]
    omega
theorem MarkRow.of_bytes (w : World) (s : ByteArray) : MarkRow (Lib.bytesWorld w 5 s) w.heap.size (Lib.bytesCells w 5 s).size s.data.toList := by
  refine ⟨Lib.bytesCells w 5 s, _, Lib.bytesWorld_at_new w 5 s, rfl, ?_, .inr (Nat.le_refl _), ?_⟩
  · unfold Lib.bytesCells
    rw [Array.toList_append]
    have e : (s.data.map fun b => Value.int .u8 b.toNat).toList = bvs s.data.toList := by
      rw [Array.toList_map]
      rfl
    rw [e, List.take_append_of_le_length (by rw [bvs_len]; exact Nat.le_refl _), List.take_of_length_le (by rw [bvs_len]; exact Nat.le_refl _)]
  · unfold Lib.bytesCells
    simp
theorem MarkRow.of_own {b : Nat} {v : Value} {n : Nat} (h : w.ownsRow b 5 1 v n (bvs bs)) (hn : n = bs.length) (h0 : 0 < n) : ∃ g cap, v = .slice (some ⟨g, 0, none⟩) bs.length cap ∧ b ≤ g ∧ MarkRow w g cap bs ∧ cap ≤ maxLen := by
  subst hn
  rcases h.2 with ⟨_, h1⟩ | ⟨g, cap, cur, hv, hb, hg, h1, h2, h3, h4⟩
  · omega
  · exact ⟨g, cap, hv, hb, ⟨cur, (0, 0), hg, by omega, by rw [Nat.mul_one] at h4; exact h4, .inl (Nat.le_refl _), h1⟩, h2⟩
end
/-- the document's writer at p, over such a row -/
def WrM (o : Nat → Nat) (c : Nat) (w : World) (p : Nat) (bs : List UInt8) : Prop := ∃ g cap, Blk w p 181 #[.slice (some ⟨g, 0, none⟩) bs.length cap, .int .i64 0] ∧ o p = c ∧ o g = c ∧ MarkRow w g cap bs ∧ g ≠ p ∧ cap ≤ maxLen
theorem WrM.step {o o' : Nat → Nat} {c p : Nat} {w w' : World} {bs : List UInt8} {C : Nat → Prop} (h : WrM o c w p bs) (hs : Step o C w o' w') (hc : ¬ C c) : WrM o' c w' p bs := by
  obtain ⟨g, cap, hb, hp, hg, hm, hne, hl⟩ := h
  exact ⟨g, cap, hb.step hs (by rw [hp]; exact hc), (hs.old p hb.lt).trans hp, (hs.old g hm.lt).trans hg, hm.same (hs.block g hm.lt (by rw [hg]; exact hc)), hne, hl⟩
set_option maxRecDepth 100000 in
set_option maxHeartbeats 4000000 in
theorem xnum_m {o : Nat → Nat} {c p : Nat} {w : World} {bs : List UInt8} (h : WrM o c w p bs) (hbs : bs.length ≤ 100000) (v K : Nat) (hk0 : 1 ≤ K) (hk8 : K ≤ 8) (hv : v < 256 ^ K) (hv8 : v < 18446744073709551616) :
    Calls Tryz.prog 143 #[.pointer (some ⟨p, 0, none⟩), .int .u64 v, .int .i64 (K : Int)] w fun r w' => r = .returned (.tuple #[]) ∧ ∃ o', WrM o' c w' p (bs ++ le v K) ∧ Step o (only c) w o' w' := by
  obtain ⟨i0, hi0, hz0, hz1, hz2⟩ := info_parts info_u8
  obtain ⟨g, cap, hb, hc, hog, hm, hne, hcap⟩ := h
  have HB0 := Lib.hid hb
  have HC := Lib.hid hc
  have HOG := Lib.hid hog
  have HM := Lib.hid hm
  have HNE := Lib.hid hne
  have HV0 := Lib.hid hv
  have HV8 := Lib.hid hv8
  have HBS := Lib.hid hbs
  have HCAP := Lib.hid hcap
  have hbl : bs.length ≤ cap := by obtain ⟨_, _, _, _, _, _, h9⟩ := hm; exact h9
  have hcapI : (cap : Int) ≤ 9223372036854775807 := by unfold maxLen at hcap; omega
  have hblI : (bs.length : Int) ≤ (cap : Int) := by omega
  have HB1 := Lib.hid (hb.set_ 1 (.int .i64 0))
  have HM1 := Lib.hid (hm.same (w' := w.setCell ⟨p, 1, none⟩ (.int .i64 0)) (Below.heap_setCell w ⟨p, 1, none⟩ (.int .i64 0) g hne))
  have HS1 := Lib.hid ((Step.refl o (only c) w).setCell (p := ⟨p, 1, none⟩) hc (.int .i64 0))
  have HPL := Lib.hid hb.lt
  have hKI0 : ¬ (K : Int) < 1 := by omega
  have hKI8 : ¬ 8 < (K : Int) := by omega
  clear hb hc hog hm hne hv hv8 hcap hbs
  go_enter Tryz.func143, Tryz.ntmps143
  go_wp2_with fail
  refine (xfail_blk HB0.out).mono ?_
  rintro e w1 ⟨rfl, rfl⟩
  generalize w.setCell ⟨p, 1, none⟩ (.int .i64 0) = W1 at HB1 HS1 HM1 ⊢
  go_wp2_with fail
  go_loopw [1, 6, 7] (fun t1 t6 t7 wr => ∃ (k : Nat) (o' : Nat → Nat), k ≤ K ∧ t7 = .int .i64 k ∧ t1 = .int .u64 ((v / 256 ^ k : Nat) : Int) ∧ OwnS o' (c + 1) wr 5 1 t6 k (bvs (le v k)) ∧ (∀ g, t6.ownBlock = some g → w.heap.size ≤ g) ∧ Blk wr p 181 #[.slice (some ⟨g, 0, none⟩) bs.length cap, .int .i64 0] ∧ Step o (only c) w o' wr ∧ MarkRow wr g cap bs) (fun _ _ t7 _ => K - (intOf t7).toNat)
  case atStart => exact ⟨0, o, Nat.zero_le _, rfl, by simp, OwnS.nil _ _ _ _ _, by simp [Value.ownBlock], HB1.out, HS1.out, HM1.out⟩
  case round =>
    obtain ⟨k, o1, hk, rfl, rfl, hown6, hblk6, hw, hst, hmr⟩ := hrel
    obtain ⟨A6, cap6, rfl, hle6, hcap6⟩ := own_form' hown6
    unfold maxLen at hcap6
    have hu : v / 256 ^ k < 18446744073709551616 := Nat.lt_of_le_of_lt (Nat.div_le_self _ _) HV8.out
    have HNX := Lib.hid (show v / 256 ^ (k + 1) = v / 256 ^ k / 256 by rw [Nat.pow_succ, Nat.div_div_eq_div_mul])
    have HSN := Lib.hid (show le v (k + 1) = le v k ++ [UInt8.ofNat (v / 256 ^ k)] from rfl)
    have HZ4 := Lib.hid (show k = K → v / 256 ^ k = 0 from fun e => by rw [e]; exact Nat.div_eq_of_lt HV0.out)
    generalize v / 256 ^ k = u at hu HNX HSN HZ4
    have HO6 := Lib.hid hown6
    have HB6 := Lib.hid hblk6
    have HWK := Lib.hid hw
    have HST := Lib.hid hst
    have HMR := Lib.hid hmr
    clear hown6 hblk6 hw hst hmr
    by_cases hlt : k < K
    · have hltI : (k : Int) < (K : Int) := by omega
      have HU := Lib.hid hu
      clear hu
      go_wp2_with (at_builtin; refine wpList_append_S _ rfl (.tmp 23) (.tmp 27) 164 rfl 5 i0 _ 1 1 Tryz.underlying164 hi0 hz0 hz1 hz2 rfl (by omega) (.slice A6 k cap6) k (bvs (le v k)) rfl (HO6.out.alloc _) (some ⟨wr.heap.size, 0, none⟩) 1 1 [.int .u8 ((u : Int) % 256)] rfl (Reads.newAt wr 5 1 1 [.int .u8 ((u : Int) % 256)] #[.int .u8 ((u : Int) % 256)] wr.heap.size rfl rfl rfl) (by simp [Value.oneCell']) (by unfold maxLen; omega) (by omega) ?_; intro v2 w2 hown hst hg hat; have HO2 := Lib.hid hown; have HS2 := Lib.hid hst; have HG2 := Lib.hid hg; have HA2 := Lib.hid hat; clear hown hst hg hat)
      go_roundw
      case rel =>
        have hbv : bvs (le v k) ++ [.int .u8 ((u : Int) % 256)] = bvs (le v (k + 1)) := by
          rw [HSN.out, bvs_app]
          simp [bvs, bv]
        have hst0 := HST.out.size
        have hs9 := (HST.out.alloc (.cells #[.int .u8 ((u : Int) % 256)] 5)).grownNew (c + 1) HG2.out HB6.out
        refine ⟨k + 1, _, by omega, by go_num, by rw [HNX.out, IntKind.wrap_u64]; have h9 := HU.out; congr 1; omega, by rw [← hbv]; exact HO2.out, ?_, (HWK.out.alloc _).step HS2.out (by rw [HST.out.old p HPL.out, HC.out]; unfold only; omega), hs9, HMR.out.same ?_⟩
        · intro g hg
          rcases HA2.out with h2 | h2
          · exact HB6.out g (h2 ▸ hg)
          · rw [h2] at hg
            injection hg with hg
            simp at hg
            omega
        · have h1 : (wr.alloc (.cells #[.int .u8 ((u : Int) % 256)] 5)).heap[g]? = wr.heap[g]? := Below.heap_alloc _ _ _ HMR.out.lt
          refine (HS2.out.block g (by have := HMR.out.lt; simp; omega) ?_).trans h1
          rw [HST.out.old g HM.out.lt, HOG.out]
          unfold only
          omega
      case measure => simp [intOf]; omega
    · have hltI : ¬ (k : Int) < (K : Int) := by omega
      obtain rfl : k = K := by omega
      obtain rfl : u = 0 := HZ4.out rfl
      obtain ⟨ax, rfl, hrx⟩ := (Reads.of_own HO6.out.1).2 (by omega)
      have HRX := Lib.hid hrx
      have y0 : wr.cell? ⟨p, 0, none⟩ = some (.slice (some ⟨g, 0, none⟩) bs.length cap) := HWK.out.cell 0
      have y1 : wr.cell? ⟨p, 1, none⟩ = some (.int .i64 0) := HWK.out.cell 1
      have f0 := HWK.out.frozen 0
      have HNEp := Lib.hid (show bs.length + k ≤ 100008 by have := HBS.out; omega)
      clear hrx
      go_wp2_with (at_builtin; refine wpList_append_arg _ rfl (.tmp 39) (.tmp 40) 164 rfl 5 i0 _ 1 1 Tryz.underlying164 hi0 hz0 hz1 hz2 rfl (by omega) g 0 bs.length cap (bvs bs) rfl (by rw [bvs_len, Nat.mul_one]) (fun j u hj => by rw [Nat.zero_add]; exact HMR.out.cell j u hj) ax k cap6 (bvs (le v k)) rfl (by rw [bvs_len, le_len, Nat.mul_one]) HRX.out (bvs_one _) (fun hr j hj => by rw [bvs_len, le_len] at hj; rw [Nat.zero_add, Nat.mul_one]; exact HMR.out.spare (by omega)) (by have := HNEp.out; unfold maxLen; omega) (by have := HNEp.out; omega) ?_ ?_)
      · intro hr
        have hm2 := HMR.out.put (le v k) (by rw [le_len]; exact hr)
        obtain ⟨s1, s2, s3, s4⟩ := setCells_same g (bvs (le v k)) bs.length wr
        have hog : o1 g = c := (HST.out.old g HM.out.lt).trans HOG.out
        have hs2 : Step o1 (only c) wr o1 (wr.setCells g bs.length (bvs (le v k))) := ⟨s1, s2, s3, by omega, fun _ _ => rfl, fun _ _ => rfl, fun j hj hn => setCells_far (fun e => hn (by rw [e]; exact hog)) _ _ _⟩
        have hb2 : Blk (wr.setCells g bs.length (bvs (le v k))) p 181 #[.slice (some ⟨g, 0, none⟩) bs.length cap, .int .i64 0] := (setCells_far (fun e => HNE.out e.symm) _ _ _).trans HWK.out
        have HB2 := Lib.hid hb2
        have HM2 := Lib.hid hm2
        have HS2 := Lib.hid hs2
        have z0 := hb2.cell 0
        have z1 := hb2.frozen 0
        simp at z0
        clear hm2 s1 s2 s3 s4 hog hs2 hb2
        generalize wr.setCells g bs.length (bvs (le v k)) = w2 at HB2 HM2 HS2 z0 z1 ⊢
        go_wp2_with fail
        first | go_end0 | refine bodyPost_ret (v := .tuple #[]) (by simp [results, Tryz.results143, go_sem]) rfl ?_
        have hcol : o1 p = c := (HST.out.old p HPL.out).trans HC.out
        refine ⟨rfl, o1, ⟨g, cap, ?_, hcol, (HST.out.old g HM.out.lt).trans HOG.out, HM2.out.same (Below.heap_setCell _ _ _ _ HNE.out), HNE.out, HCAP.out⟩, (HST.out.trans HS2.out).setCell (p := ⟨p, 0, none⟩) hcol _⟩
        rw [List.length_append, le_len]
        exact HB2.out.set_ 0 _
      · intro hr v2 w2 hrow hg
        obtain ⟨g2, cap2, e2, hg2, hm2, hc2⟩ := MarkRow.of_own (bs := bs ++ le v k) (by rw [bvs_app]; exact hrow) (by rw [List.length_append, le_len]) (by omega)
        subst e2
        have hb2 : Blk w2 p 181 #[.slice (some ⟨g, 0, none⟩) bs.length cap, .int .i64 0] := (hg.block p HWK.out.lt (by simp)).trans HWK.out
        have HB2 := Lib.hid hb2
        have HM2 := Lib.hid hm2
        have HG2 := Lib.hid hg
        have HG3 := Lib.hid hg2
        have HC2 := Lib.hid hc2
        have z0 := hb2.cell 0
        have z1 := hb2.frozen 0
        simp at z0
        clear hb2 hm2 hg hg2 hc2 hrow
        go_wp2_with fail
        first | go_end0 | refine bodyPost_ret (v := .tuple #[]) (by simp [results, Tryz.results143, go_sem]) rfl ?_
        have hs2 : Step o (only c) w (band o1 wr.heap.size w2.heap.size c) w2 := HST.out.grown HG2.out (fun k e => by cases e)
        have hcol : band o1 wr.heap.size w2.heap.size c p = c := (hs2.old p HPL.out).trans HC.out
        have hg2p : g2 ≠ p := fun e => by
          have := HST.out.size
          have := HPL.out
          have := HG3.out
          omega
        have hlt2 := HM2.out.lt
        refine ⟨rfl, _, ⟨g2, cap2, ?_, hcol, ?_, HM2.out.same (Below.heap_setCell _ _ _ _ hg2p), hg2p, HC2.out⟩, hs2.setCell (p := ⟨p, 0, none⟩) hcol _⟩
        · rw [List.length_append]
          exact HB2.out.set_ 0 _
        · unfold band
          rw [if_pos ⟨HG3.out, hlt2⟩]
end Go.Proofs.YtkhieofknglknaaGreatDoor

/- The document's blocks, written: PutBlock. -/
namespace Go.Proofs.YtkhieofknglknaaGreatDoor
open Go.RowKit

theorem sec_two (i : Im) (k : Nat) (hk : k ≤ 1) (h : i.data.size = 96) : (i.data.extract (k * 48) ((k + 1) * 48)).size = 48 := by
  rw [ByteArray.size_extract]
  omega
theorem cells_cap (W : World) (s : ByteArray) : (Lib.bytesCells W 5 s).size = grownCap W s.size 0 5 := by
  have h1 : (s.data.map fun b => Value.int .u8 b.toNat).size = s.size := by simp
  have h2 := grownCap_ge W s.size 0 5
  unfold Lib.bytesCells
  rw [Array.size_append, h1, Array.size_replicate]
  omega
theorem num_fits {n v : Nat} (hn : n < 4096) (hv : v < 18446744073709551616) : n < 256 ^ 4 ∧ v < 256 ^ 8 ∧ n < 18446744073709551616 := by
  have h1 : (256 : Nat) ^ 4 = 4294967296 := by decide
  have h2 : (256 : Nat) ^ 8 = 18446744073709551616 := by decide
  rw [h1, h2]
  omega
/-- the writer that was made of a sector's bytes -/
theorem wrm_new {o : Nat → Nat} {W : World} (s : ByteArray) (hs : s.size ≤ 1000) : ∃ o', WrM o' 1 ((Lib.bytesWorld W 5 s).alloc (.cells #[.slice (some ⟨W.heap.size, 0, none⟩) s.size (grownCap W s.size 0 5), .int .i64 0] 181)) (Lib.bytesWorld W 5 s).heap.size s.data.toList ∧
    ∀ C, Step o C W o' ((Lib.bytesWorld W 5 s).alloc (.cells #[.slice (some ⟨W.heap.size, 0, none⟩) s.size (grownCap W s.size 0 5), .int .i64 0] 181)) := by
  have hsz : (Lib.bytesWorld W 5 s).heap.size = W.heap.size + 1 := by rw [Lib.bytesWorld_size]
  have hb := (below_bytes W 5 s).alloc (show W.heap.size ≤ (Lib.bytesWorld W 5 s).heap.size by omega) (.cells #[.slice (some ⟨W.heap.size, 0, none⟩) s.size (grownCap W s.size 0 5), .int .i64 0] 181)
  have hsz2 : ((Lib.bytesWorld W 5 s).alloc (.cells #[.slice (some ⟨W.heap.size, 0, none⟩) s.size (grownCap W s.size 0 5), .int .i64 0] 181)).heap.size = W.heap.size + 2 := by simp [hsz]
  refine ⟨band o W.heap.size ((Lib.bytesWorld W 5 s).alloc (.cells #[.slice (some ⟨W.heap.size, 0, none⟩) s.size (grownCap W s.size 0 5), .int .i64 0] 181)).heap.size 1, ⟨W.heap.size, grownCap W s.size 0 5, ?_, band_in (by omega) (by omega), band_in (Nat.le_refl _) (by omega), ?_, by omega, ?_⟩, fun C => Step.of_below_band o C 1 hb⟩
  · exact Blk.new (Lib.bytesWorld W 5 s) 181 #[.slice (some ⟨W.heap.size, 0, none⟩) s.size (grownCap W s.size 0 5), .int .i64 0]
  · have h1 := MarkRow.of_bytes W s
    rw [cells_cap] at h1
    exact h1.same (Below.heap_alloc _ _ _ (by omega))
  · exact grownCap_le_maxLen W s.size 0 5 (by unfold maxLen; omega)
/-- what is laid of a block behind k sectors -/
def putB (i : Im) : Nat → ByteArray
  | 0 => ⟨#[]⟩
  | 1 => str (secL i 0)
  | _ => str (blkL i)
theorem putB_succ (i : Im) (k : Nat) (hk : k ≤ 1) : putB i (k + 1) = putB i k ++ str (secL i k) := by
  rcases k with _ | _ | k
  · show str (secL i 0) = ⟨#[]⟩ ++ str (secL i 0)
    apply str_ext; simp [str]
  · show str (blkL i) = str (secL i 0) ++ str (secL i 1)
    rw [str_append]
    rfl
  · omega
theorem putB_size {i : Im} (h : i.right) (k : Nat) (hk : k ≤ 1) : (putB i k).size ≤ 64 := by
  rcases k with _ | _ | k
  · show (0 : Nat) ≤ 64
    omega
  · show (str (secL i 0)).size ≤ 64
    rw [str_size, secL_len h (by omega)]
    omega
  · omega
set_option maxRecDepth 100000 in
theorem refputblock_bad (i : Im) (hi : ¬ i.right) (w : World) : Calls Tryz.prog 157 #[i.agg] w fun e w' => e = .returned (.tuple #[.string ⟨#[]⟩, .int .i64 1]) ∧ Below w.heap.size w w' := by
  have HB0 := Lib.hid ((Below.refl w.heap.size w).alloc (Nat.le_refl _) (.cells #[.int .i64 i.block, .int .u64 i.ver, .string i.data] 72))
  have HX := Lib.hid (Blk.new w 72 #[.int .i64 i.block, .int .u64 i.ver, .string i.data])
  unfold Im.agg
  obtain ⟨b, v, d⟩ := i
  unfold Im.right at hi
  simp only at hi HB0 HX ⊢
  by_cases c0 : b < 0
  · go_enter Tryz.func157, Tryz.ntmps157
    go_upto_region 1 with (fail)
    generalize w.alloc (.cells #[.int .i64 b, .int .u64 v, .string d] 72) = W at HB0 HX ⊢
    generalize w.heap.size = X at HX ⊢
    obtain ⟨z0, z1, z2⟩ := HX.out.three
    go_wp2_with fail
    go_ret2
    exact ⟨rfl, HB0.out⟩
  · by_cases c1 : 4096 ≤ b
    · go_enter Tryz.func157, Tryz.ntmps157
      go_upto_region 1 with (fail)
      generalize w.alloc (.cells #[.int .i64 b, .int .u64 v, .string d] 72) = W at HB0 HX ⊢
      generalize w.heap.size = X at HX ⊢
      obtain ⟨z0, z1, z2⟩ := HX.out.three
      go_wp2_with fail
      go_ret2
      exact ⟨rfl, HB0.out⟩
    · have c2 : ((d.size : Int) != 96) = true := by simp; omega
      go_enter Tryz.func157, Tryz.ntmps157
      go_upto_region 1 with (fail)
      generalize w.alloc (.cells #[.int .i64 b, .int .u64 v, .string d] 72) = W at HB0 HX ⊢
      generalize w.heap.size = X at HX ⊢
      obtain ⟨z0, z1, z2⟩ := HX.out.three
      go_wp2_with fail
      go_ret2
      exact ⟨rfl, HB0.out⟩
set_option maxRecDepth 100000 in
set_option maxHeartbeats 8000000 in
theorem refputblock_ok (i : Im) (hi : i.right) (hv : i.ver < 18446744073709551616) (w : World) : Calls Tryz.prog 157 #[i.agg] w fun e w' => e = .returned (.tuple #[.string (str (blkL i)), .int .i64 0]) ∧ Below w.heap.size w w' := by
  have HE0 := Lib.hid (show Env (fun _ => 0) w (w.alloc (.cells #[.int .i64 i.block, .int .u64 i.ver, .string i.data] 72)) from (Env.start w).alloc _)
  have HX := Lib.hid (Keep.new (show Fut (fun _ => 0) w from fun _ _ => rfl) 72 #[.int .i64 i.block, .int .u64 i.ver, .string i.data])
  have HF0 := Lib.hid (show Fut (fun _ => 0) (w.alloc (.cells #[.int .i64 i.block, .int .u64 i.ver, .string i.data] 72)) from fun _ _ => rfl)
  unfold Im.agg
  have HI := Lib.hid hi
  have HBL := Lib.hid (show blkL i = secL i 0 ++ secL i 1 from rfl)
  have HST := Lib.hid (fun (k : Nat) (hk : k ≤ 1) => show ((i.data.extract (k * 48) ((k + 1) * 48)).size = 48) ∧ secL i k = stampL ((i.data.extract (k * 48) ((k + 1) * 48)).data.toList ++ le i.block.toNat 4 ++ le i.ver 8) 64 ∧ (secT i k).length = 60 from ⟨sec_two i k hk hi.2.2, by unfold secL secT; rw [List.append_assoc], secT_len hi hk⟩)
  obtain ⟨s0, hs0⟩ : ∃ s, secL i 0 = s := ⟨_, rfl⟩
  obtain ⟨b, v, d⟩ := i
  obtain ⟨r0, r1, r2⟩ := hi
  simp only at r0 r1 r2 hv HE0 HX HF0 HST ⊢
  obtain ⟨n, rfl⟩ : ∃ n : Nat, b = n := ⟨b.toNat, by omega⟩
  have c2 : ((d.size : Int) != 96) = false := by simp; omega
  have r2I : (d.size : Int) = 96 := by omega
  have cv : IntKind.u64.wrap (n : Int) = (n : Int) := by rw [IntKind.wrap_u64]; omega
  go_enter Tryz.func157, Tryz.ntmps157
  go_upto_region 1 with (fail)
  generalize w.alloc (.cells #[.int .i64 (n : Int), .int .u64 v, .string d] 72) = W at HE0 HX HF0 ⊢
  generalize w.heap.size = X at HX ⊢
  have HPRE := Lib.hid (show putB ⟨(n : Int), v, d⟩ 2 = str (blkL ⟨(n : Int), v, d⟩) from rfl)
  have HPR1 := Lib.hid (fun (k : Nat) (hk : k ≤ 1) => putB_succ ⟨(n : Int), v, d⟩ k hk)
  have HPRS := Lib.hid (fun (k : Nat) (hk : k ≤ 1) => putB_size (i := ⟨(n : Int), v, d⟩) HI.out k hk)
  clear hs0
  have x0 := HX.out.1.three.1
  have x2 := HX.out.1.three.2.2
  go_wp2_with fail
  clear x0 x2
  go_loopw [4, 5] (fun t4 t5 wr => ∃ (k : Nat) (o1 : Nat → Nat), k ≤ 2 ∧ t5 = .int .i64 k ∧ t4 = .string (putB ⟨(n : Int), v, d⟩ k) ∧ Env o1 w wr ∧ Keep o1 wr X 72 #[.int .i64 (n : Int), .int .u64 v, .string d] ∧ Fut o1 wr) (fun _ t5 _ => 2 - (intOf t5).toNat)
  case atStart => exact ⟨0, _, by omega, rfl, rfl, HE0.out, HX.out, HF0.out⟩
  case round =>
    obtain ⟨k, o1, hk, rfl, rfl, he, hx, hf⟩ := hrel
    by_cases hlt : k < 2
    · have hltI : (k : Int) < 2 := by omega
      have HKL := Lib.hid hlt
      obtain ⟨lo, hlo⟩ : ∃ lo, k * 48 = lo := ⟨_, rfl⟩
      obtain ⟨hi', hhi⟩ : ∃ hi', (k + 1) * 48 = hi' := ⟨_, rfl⟩
      have e2 : IntKind.i64.wrap (48 * (k : Int)) = (lo : Int) := by rw [IntWalk.i64_in _ (by omega)]; omega
      have e3 : IntKind.i64.wrap ((lo : Int) + 48) = (hi' : Int) := by rw [IntWalk.i64_in _ (by omega)]; omega
      have b0 : (0 : Int) ≤ (lo : Int) := by omega
      have b1 : (lo : Int) ≤ (hi' : Int) := by omega
      have b2 : (hi' : Int) ≤ (d.size : Int) := by omega
      obtain ⟨hs1, hs2, hs3⟩ := HST.out k (by omega)
      rw [hlo, hhi] at hs1 hs2
      have HPS := Lib.hid (HPR1.out k (by omega))
      have hps := HPRS.out k (by omega)
      obtain ⟨PB, hPB⟩ : ∃ b, putB ⟨(n : Int), v, d⟩ k = b := ⟨_, rfl⟩
      rw [hPB] at HPS hps ⊢
      obtain ⟨S, hS⟩ : ∃ S, d.extract lo hi' = S := ⟨_, rfl⟩
      have HS1 := Lib.hid (show S.size = 48 by rw [← hS]; exact hs1)
      have HS2 := Lib.hid (show secL ⟨(n : Int), v, d⟩ k = stampL (S.data.toList ++ le n 4 ++ le v 8) 64 by rw [← hS]; exact hs2)
      obtain ⟨o2, hw2, hst2⟩ := wrm_new (o := o1) (W := wr) S (by rw [HS1.out]; omega)
      have HW2 := Lib.hid hw2
      have HE2 := Lib.hid (he.step (hst2 (fun _ => False)) id)
      have HX2 := Lib.hid (hx.step (hst2 (fun _ => False)) id)
      have HF2 := Lib.hid (hf.step (hst2 (fun _ => False)))
      have hcv := fun w => Lib.run_convert_string_bytes (P := Tryz.prog) w 9 164 5 S Tryz.underlying9 Tryz.underlying164 Tryz.underlying5
      have x2 := hx.1.three.2.2
      have HPSZ := Lib.hid hps
      have HPB := Lib.hid hPB
      clear hs1 hs2 hs3 hlo hhi he hx hf hw2 hst2 hps hPB
      go_upto_region 8 with (fail)
      clear hcv x2 e2 e3 b0 b1 b2
      generalize ((Lib.bytesWorld wr 5 S).alloc (.cells #[.slice (some ⟨wr.heap.size, 0, none⟩) S.size (grownCap wr S.size 0 5), .int .i64 0] 181)) = W2 at HW2 HE2 HX2 HF2 ⊢
      generalize (Lib.bytesWorld wr 5 S).heap.size = PW at HW2 ⊢
      have HL0 := Lib.hid (show S.data.toList.length = 48 from HS1.out)
      have HN := Lib.hid (num_fits (n := n) (v := v) (by omega) hv)
      have HV := Lib.hid hv
      obtain ⟨z0, z1, z2⟩ := HX2.out.1.three
      go_wp2_with fail
      refine (xnum_m HW2.out (by rw [HL0.out]; omega) n 4 (by omega) (by omega) HN.out.1 HN.out.2.2).mono ?_
      rintro e w3 ⟨rfl, o3, hw3, hs3⟩
      have HW3 := Lib.hid hw3
      have HE3 := Lib.hid (HE2.out.step hs3 (by unfold only; omega))
      have HX3 := Lib.hid (HX2.out.step hs3 (by unfold only; omega))
      have HF3 := Lib.hid (HF2.out.step hs3)
      clear hw3 hs3 z0 z1 z2
      obtain ⟨z0, z1, z2⟩ := HX3.out.1.three
      go_wp2_with fail
      refine (xnum_m HW3.out (by rw [List.length_append, le_len, HL0.out]; omega) v 8 (by omega) (by omega) HN.out.2.1 HV.out).mono ?_
      rintro e w4 ⟨rfl, o4, hw4, hs4⟩
      have HE4 := Lib.hid (HE3.out.step hs4 (by unfold only; omega))
      have HX4 := Lib.hid (HX3.out.step hs4 (by unfold only; omega))
      have HF4 := Lib.hid (HF3.out.step hs4)
      obtain ⟨g4, cap4, hb4, _, _, hm4, _, _⟩ := hw4
      obtain ⟨BS, hBS⟩ : ∃ l, S.data.toList ++ le n 4 ++ le v 8 = l := ⟨_, rfl⟩
      rw [hBS] at hb4 hm4 HS2
      have HBL2 := Lib.hid (show (str BS).size ≤ 60 by rw [str_size, ← hBS, List.length_append, List.length_append, le_len, le_len, HL0.out]; omega)
      have hcv : (convert 164 9 (.slice (some ⟨g4, 0, none⟩) BS.length cap4)).run Tryz.prog w4 = .ok (.string (str BS)) w4 := by
        refine run_convert_bytes_back w4 164 9 5 ⟨g4, 0, none⟩ cap4 BS Tryz.underlying164 Tryz.underlying5 Tryz.underlying9 (fun j hj => ?_)
        rw [show (⟨g4, 0, none⟩ : Addr).add j = ⟨g4, j, none⟩ by unfold Addr.add; split <;> simp_all]
        refine hm4.cell j _ ?_
        simp [bvs, bv, List.getElem?_eq_getElem hj]
      have y0 : w4.cell? ⟨PW, 0, none⟩ = some (.slice (some ⟨g4, 0, none⟩) BS.length cap4) := hb4.cell 0
      clear hs4 z0 z1 z2 hb4 hm4 hBS
      go_wp2_with fail
      refine (xstamp_any (str BS) HBL2.out w4).mono ?_
      rintro e w5 ⟨rfl, hb5⟩
      have HE5 := Lib.hid (HE4.out.below_ hb5)
      have HX5 := Lib.hid (HX4.out.below_ hb5)
      have HF5 := Lib.hid (HF4.out.below hb5)
      clear hb5 hcv y0
      rw [str_list, ← HS2.out]
      have hsz9 : ¬ 9223372036854775807 < PB.size + (str (secL ⟨(n : Int), v, d⟩ k)).size := by rw [str_size, secL_len HI.out (by have := HKL.out; omega)]; have := HPSZ.out; omega
      obtain ⟨Q, hQ⟩ : ∃ Q, str (secL ⟨(n : Int), v, d⟩ k) = Q := ⟨_, rfl⟩
      rw [hQ] at HPS hsz9 ⊢
      go_wp2_with fail
      go_roundw
      case rel => exact ⟨k + 1, o4, by have := HKL.out; omega, by go_num, by rw [HPS.out], HE5.out, HX5.out, HF5.out⟩
      case measure => have := HKL.out; simp [intOf]; omega
    · have hltI : ¬ (k : Int) < 2 := by omega
      obtain rfl : k = 2 := by omega
      rw [HPRE.out]
      go_wp2_with fail
      go_ret2
      exact ⟨rfl, he.low⟩
end Go.Proofs.YtkhieofknglknaaGreatDoor

/- The document's blocks, loaded and stored. -/
namespace Go.Proofs.YtkhieofknglknaaGreatDoor
open Go.RowKit

section
variable {o : Nat → Nat} {c p : Nat} {w : World} {R : RF} {kv : Value}
theorem blockAt_i64 (b : Int) : -9223372036854775808 ≤ (blockAt b).1 ∧ (blockAt b).1 ≤ 9223372036854775807 := by
  unfold blockAt
  split <;> simp only <;> omega
/-- how a call that returns an image from a row ends -/
theorem img_ret {_w W : World} {g : Nat} {x : Im} (h : Blk W g 72 #[.int .i64 x.block, .int .u64 x.ver, .string x.data]) : W.cell? ⟨g, 0, none⟩ = some (.int .i64 x.block) ∧ W.cell? ⟨g, 1, none⟩ = some (.int .u64 x.ver) ∧ W.cell? ⟨g, 2, none⟩ = some (.string x.data) := h.three
set_option maxRecDepth 100000 in
set_option maxHeartbeats 8000000 in
theorem rfload_any (h : RefIn o c w p R kv) (b : Int) (hb : -9223372036854775808 ≤ b ∧ b ≤ 9223372036854775807) (hl : R.ws.length ≤ 1000000) (hwf : ∀ x ∈ R.ws, x.data.size = 64) (hr : R.room ≤ 100000) :
    Calls Tryz.prog 43 #[.pointer (some ⟨p, 0, none⟩), .agg #[.int .i64 2, .int .i64 10, .int .i64 8, .int .i64 4, .int .i64 32], .int .i64 b] w fun e w' => e = .returned (.tuple #[(R.load b).1.agg, .int .i64 (R.load b).2]) ∧ Below w.heap.size w w' := by
  have HI := Lib.hid h
  have HBR := Lib.hid hb
  have HL := Lib.hid hl
  have HWF := Lib.hid hwf
  have HR := Lib.hid hr
  have hbl1 := (Below.refl w.heap.size w).alloc (Nat.le_refl _) (.cells #[.int .i64 2, .int .i64 10, .int .i64 8, .int .i64 4, .int .i64 32] 34)
  have HB0 := Lib.hid (hbl1.alloc hbl1.size (.cells #[.int .i64 0, .int .u64 0, .string ⟨#[]⟩] 72))
  have HSH := Lib.hid ((Blk.new w 34 #[.int .i64 2, .int .i64 10, .int .i64 8, .int .i64 4, .int .i64 32]).alloc (.cells #[.int .i64 0, .int .u64 0, .string ⟨#[]⟩] 72))
  have HZ := Lib.hid (Blk.new (w.alloc (.cells #[.int .i64 2, .int .i64 10, .int .i64 8, .int .i64 4, .int .i64 32] 34)) 72 #[.int .i64 0, .int .u64 0, .string ⟨#[]⟩])
  have hgz : w.heap.size ≤ (w.alloc (.cells #[.int .i64 2, .int .i64 10, .int .i64 8, .int .i64 4, .int .i64 32] 34)).heap.size := by simp
  have hge : (w.alloc (.cells #[.int .i64 2, .int .i64 10, .int .i64 8, .int .i64 4, .int .i64 32] 34)).heap.size = w.heap.size + 1 := by simp
  rw [hge] at HZ hgz
  have HGZ := Lib.hid hgz
  have FIN := Lib.hid (fun (W : World) (g : Nat) (x : Im) (e : Int) (hg : w.heap.size ≤ g) (hz : Blk W g 72 #[.int .i64 x.block, .int .u64 x.ver, .string x.data]) (hb : Below w.heap.size w W) (he : R.load b = (x, e)) =>
    (show Blk W g 72 #[.int .i64 x.block, .int .u64 x.ver, .string x.data] ∧ Below w.heap.size w W ∧ Ending.returned (.tuple #[.agg #[.int .i64 x.block, .int .u64 x.ver, .string x.data], .int .i64 e]) = .returned (.tuple #[(R.load b).1.agg, .int .i64 (R.load b).2]) from ⟨hz, hb, by rw [he]; rfl⟩))
  clear h hb hl hwf hr hbl1 hgz hge
  go_enter Tryz.func43, Tryz.ntmps43
  go_upto_region 1 with (fail)
  generalize (w.alloc (.cells #[.int .i64 2, .int .i64 10, .int .i64 8, .int .i64 4, .int .i64 32] 34)).alloc (.cells #[.int .i64 0, .int .u64 0, .string ⟨#[]⟩] 72) = W0 at HB0 HSH HZ ⊢
  generalize w.heap.size + 1 = g at HZ HGZ ⊢
  obtain ⟨x0, x1, x2, x3, x4⟩ := HSH.out.five
  go_wp2_with fail
  refine (refblockat_any b W0 HBR.out).mono ?_
  rintro e w1 ⟨rfl, hb1⟩
  have HB1 := Lib.hid (HB0.out.trans (hb1.mono HB0.out.size))
  have HZ1 := Lib.hid (HZ.out.below_ hb1)
  have HI1 := Lib.hid (HI.out.below_ HB1.out)
  clear hb1 x0 x1 x2 x3 x4
  obtain ⟨a, ha⟩ : ∃ a, (blockAt b).1 = a := ⟨_, rfl⟩
  obtain ⟨F, hF⟩ : ∃ F, (blockAt b).2 = F := ⟨_, rfl⟩
  have HLD := Lib.hid (show R.load b = if (if F ≠ 0 then F else R.readE a 2) ≠ 0 then (Im.zero, if F ≠ 0 then F else R.readE a 2) else getB b (R.readS a 2) by rw [← hF, ← ha]; rfl)
  rw [ha, hF]
  clear ha hF
  by_cases c0 : F = 0
  · subst c0
    go_wp2_with fail
    refine (rfread_any HI1.out a 2 HL.out HWF.out HR.out).mono ?_
    rintro e w2 ⟨rfl, hb2⟩
    have HB2 := Lib.hid (HB1.out.trans (hb2.mono HB1.out.size))
    have HZ2 := Lib.hid (HZ1.out.below_ hb2)
    clear hb2
    have HSZ := Lib.hid (show (R.readS a 2).size ≤ 1000000000 by
      unfold RF.readS
      split
      · rw [str_size, rf_readL_len HWF.out]
        simp
      · exact Nat.zero_le _)
    obtain ⟨E, hE⟩ : ∃ E, R.readE a 2 = E := ⟨_, rfl⟩
    obtain ⟨S, hS⟩ : ∃ S, R.readS a 2 = S := ⟨_, rfl⟩
    rw [hE, hS] at HLD
    rw [hS] at HSZ
    rw [hE, hS]
    clear hE hS
    by_cases c1 : E = 0
    · subst c1
      go_wp2_with fail
      refine (refgetblock_any b S w2 HSZ.out).mono ?_
      rintro e w3 ⟨rfl, hb3⟩
      have HB3 := Lib.hid (HB2.out.trans (hb3.mono HB2.out.size))
      have HZ3 := Lib.hid (HZ2.out.below_ hb3)
      clear hb3
      obtain ⟨⟨gb, gv, gd⟩, ge, hg⟩ : ∃ x e, getB b S = (x, e) := ⟨_, _, rfl⟩
      have HE := Lib.hid (show R.load b = (⟨gb, gv, gd⟩, ge) by rw [HLD.out, if_neg (by simp), hg])
      rw [hg]
      unfold Im.agg
      simp only
      clear hg
      have y0 := HZ3.out.cell 0
      have y1 := HZ3.out.cell 1
      have y2 := HZ3.out.cell 2
      have f0 := HZ3.out.frozen 0
      have f1 := HZ3.out.frozen 1
      have f2 := HZ3.out.frozen 2
      simp at y0 y1 y2
      go_wp2_with fail
      obtain ⟨hz3, hb3, he⟩ := FIN.out _ g ⟨gb, gv, gd⟩ ge HGZ.out (HZ3.out.put3 (.int .i64 gb) (.int .u64 gv) (.string gd)) (below_put3 HB3.out HGZ.out _ _ _) HE.out
      rw [← he]
      clear y0 y1 y2 f0 f1 f2
      generalize ((w3.setCell ⟨g, 0, none⟩ (.int .i64 gb)).setCell ⟨g, 1, none⟩ (.int .u64 gv)).setCell ⟨g, 2, none⟩ (.string gd) = WE at hz3 hb3 ⊢
      obtain ⟨q0, q1, q2⟩ := hz3.three
      exact bodyPost_ret (v := .tuple #[.agg #[.int .i64 gb, .int .u64 gv, .string gd], .int .i64 ge]) (by simp [results, Tryz.results43, go_sem, q0, q1, q2]) rfl ⟨rfl, hb3⟩
    · have HE := Lib.hid (show R.load b = (Im.zero, E) by rw [HLD.out, if_neg (show ¬ ((0 : Int) ≠ 0) by simp), if_pos c1])
      have t0 : (E != 0) = true := bne_iff_ne.2 c1
      clear c1
      have y0 := HZ2.out.cell 0
      have y1 := HZ2.out.cell 1
      have y2 := HZ2.out.cell 2
      have f0 := HZ2.out.frozen 0
      have f1 := HZ2.out.frozen 1
      have f2 := HZ2.out.frozen 2
      simp at y0 y1 y2
      go_wp2_with fail
      obtain ⟨hz3, hb3, he⟩ := FIN.out _ g Im.zero E HGZ.out (HZ2.out.put3 (.int .i64 0) (.int .u64 0) (.string ⟨#[]⟩)) (below_put3 HB2.out HGZ.out _ _ _) HE.out
      rw [← he]
      clear y0 y1 y2 f0 f1 f2
      generalize ((w2.setCell ⟨g, 0, none⟩ (.int .i64 0)).setCell ⟨g, 1, none⟩ (.int .u64 0)).setCell ⟨g, 2, none⟩ (.string ⟨#[]⟩) = WE at hz3 hb3 ⊢
      obtain ⟨q0, q1, q2⟩ := hz3.three
      exact bodyPost_ret (v := .tuple #[.agg #[.int .i64 0, .int .u64 0, .string ⟨#[]⟩], .int .i64 E]) (by simp [results, Tryz.results43, go_sem, q0, q1, q2, Im.zero]) rfl ⟨rfl, hb3⟩
  · have HE := Lib.hid (show R.load b = (Im.zero, F) by rw [HLD.out, if_pos (show (if F ≠ 0 then F else R.readE a 2) ≠ 0 by rw [if_pos c0]; exact c0), if_pos c0])
    have t0 : (F != 0) = true := bne_iff_ne.2 c0
    clear c0
    have y0 := HZ1.out.cell 0
    have y1 := HZ1.out.cell 1
    have y2 := HZ1.out.cell 2
    have f0 := HZ1.out.frozen 0
    have f1 := HZ1.out.frozen 1
    have f2 := HZ1.out.frozen 2
    simp at y0 y1 y2
    go_wp2_with fail
    obtain ⟨hz3, hb3, he⟩ := FIN.out _ g Im.zero F HGZ.out (HZ1.out.put3 (.int .i64 0) (.int .u64 0) (.string ⟨#[]⟩)) (below_put3 HB1.out HGZ.out _ _ _) HE.out
    rw [← he]
    clear y0 y1 y2 f0 f1 f2
    generalize ((w1.setCell ⟨g, 0, none⟩ (.int .i64 0)).setCell ⟨g, 1, none⟩ (.int .u64 0)).setCell ⟨g, 2, none⟩ (.string ⟨#[]⟩) = WE at hz3 hb3 ⊢
    obtain ⟨q0, q1, q2⟩ := hz3.three
    exact bodyPost_ret (v := .tuple #[.agg #[.int .i64 0, .int .u64 0, .string ⟨#[]⟩], .int .i64 F]) (by simp [results, Tryz.results43, go_sem, q0, q1, q2, Im.zero]) rfl ⟨rfl, hb3⟩
end
end Go.Proofs.YtkhieofknglknaaGreatDoor

/- The document's blocks: Store (not armed). -/
namespace Go.Proofs.YtkhieofknglknaaGreatDoor
open Go.RowKit

section
variable {o : Nat → Nat} {c p : Nat} {w : World} {R : RF}
set_option maxRecDepth 100000 in
set_option maxHeartbeats 8000000 in
theorem rfstore_calm (h : RFAt o c w p R) (n : Int) (e : Nat) (i : Im) (hb : -9223372036854775808 ≤ i.block ∧ i.block ≤ 9223372036854775807) (hv : i.ver < 18446744073709551616) (ha : R.armed = false) (hr : R.room ≤ 100000) (hl : R.ws.length ≤ 90000) :
    Calls Tryz.prog 44 #[.pointer (some ⟨p, 0, none⟩), .agg #[.int .i64 2, .int .i64 10, .int .i64 8, .int .i64 4, .int .i64 32], .int .i64 n, .int .u64 (e : Int), i.agg] w fun r w' => r = .returned (.int .i64 (R.store n e i).1) ∧ ∃ o', RFAt o' c w' p (R.store n e i).2 ∧ Step o (logL c) w o' w' := by
  have HBR := Lib.hid hb
  have HV := Lib.hid hv
  have HL := Lib.hid hl
  have HR := Lib.hid hr
  have hbl1 := (Below.refl w.heap.size w).alloc (Nat.le_refl _) (.cells #[.int .i64 2, .int .i64 10, .int .i64 8, .int .i64 4, .int .i64 32] 34)
  have HB0 := Lib.hid (hbl1.alloc hbl1.size (.cells #[.int .i64 i.block, .int .u64 i.ver, .string i.data] 72))
  have HSH := Lib.hid ((Blk.new w 34 #[.int .i64 2, .int .i64 10, .int .i64 8, .int .i64 4, .int .i64 32]).alloc (.cells #[.int .i64 i.block, .int .u64 i.ver, .string i.data] 72))
  have HZ := Lib.hid (Blk.new (w.alloc (.cells #[.int .i64 2, .int .i64 10, .int .i64 8, .int .i64 4, .int .i64 32] 34)) 72 #[.int .i64 i.block, .int .u64 i.ver, .string i.data])
  have hge : (w.alloc (.cells #[.int .i64 2, .int .i64 10, .int .i64 8, .int .i64 4, .int .i64 32] 34)).heap.size = w.heap.size + 1 := by simp
  rw [hge] at HZ
  have H := Lib.hid h
  have HST := Lib.hid (fun (W : World) (hb : Below w.heap.size w W) => (⟨h.below_ hb, Step.of_below o (logL c) hb⟩ : RFAt o c W p R ∧ Step o (logL c) w o W))
  clear hb hv hl hr hbl1 hge h
  obtain ⟨F, hF⟩ : ∃ F, (blockAt i.block).2 = F := ⟨_, rfl⟩
  obtain ⟨a, hA⟩ : ∃ a, (blockAt i.block).1 = a := ⟨_, rfl⟩
  have HBA := Lib.hid (show ∀ W : World, Calls Tryz.prog 155 #[.agg #[.int .i64 2, .int .i64 10, .int .i64 8, .int .i64 4, .int .i64 32], .int .i64 i.block] W fun e w' => e = .returned (.tuple #[.int .i64 a, .int .i64 F]) ∧ Below W.heap.size W w' from fun W => by rw [← hF, ← hA]; exact refblockat_any i.block W HBR.out)
  unfold RF.store
  rw [hF, hA]
  clear hF hA
  by_cases c0 : F = 0
  · subst c0
    rw [if_neg (by simp)]
    by_cases c1 : i.right
    · rw [if_neg (by simpa using c1)]
      have HPB := Lib.hid (refputblock_ok i c1 HV.out)
      have HDS := Lib.hid (show (str (blkL i)).size ≤ maxLen by rw [str_size, blkL_len c1]; unfold maxLen; omega)
      obtain ⟨S, hS⟩ : ∃ S, str (blkL i) = S := ⟨_, rfl⟩
      rw [hS] at HDS HPB ⊢
      clear hS c1
      obtain ⟨b, v, d⟩ := i
      unfold Im.agg at HPB ⊢
      simp only at HB0 HSH HZ HBA HPB ⊢
      go_enter Tryz.func44, Tryz.ntmps44
      go_upto_region 1 with (fail)
      generalize (w.alloc (.cells #[.int .i64 2, .int .i64 10, .int .i64 8, .int .i64 4, .int .i64 32] 34)).alloc (.cells #[.int .i64 b, .int .u64 v, .string d] 72) = W0 at HB0 HSH HZ ⊢
      generalize w.heap.size + 1 = g at HZ ⊢
      obtain ⟨x0, x1, x2, x3, x4⟩ := HSH.out.five
      obtain ⟨z0, z1, z2⟩ := HZ.out.three
      go_wp2_with fail
      refine (HBA.out W0).mono ?_
      rintro e1 w1 ⟨rfl, hb1⟩
      have HB1 := Lib.hid (HB0.out.trans (hb1.mono HB0.out.size))
      have HZ1 := Lib.hid (HZ.out.below_ hb1)
      clear hb1 x0 x1 x2 x3 x4 z0 z1 z2
      obtain ⟨z0, z1, z2⟩ := HZ1.out.three
      go_wp2_with fail
      refine (HPB.out w1).mono ?_
      rintro e2 w2 ⟨rfl, hb2⟩
      have HB2 := Lib.hid (HB1.out.trans (hb2.mono HB1.out.size))
      clear hb2 z0 z1 z2
      go_wp2_with fail
      refine (rfwrite_calm (HST.out w2 HB2.out).1 n e a S ha HR.out HL.out HDS.out).mono ?_
      rintro r w3 ⟨rfl, o3, h3, s3⟩
      have H3 := Lib.hid h3
      have S3 := Lib.hid ((HST.out w2 HB2.out).2.trans s3)
      clear h3 s3
      go_wp2_with fail
      go_ret
      exact ⟨rfl, o3, H3.out, S3.out⟩
    · rw [if_pos c1]
      have HPB := Lib.hid (refputblock_bad i c1)
      clear c1
      obtain ⟨b, v, d⟩ := i
      unfold Im.agg at HPB ⊢
      simp only at HB0 HSH HZ HBA HPB ⊢
      go_enter Tryz.func44, Tryz.ntmps44
      go_upto_region 1 with (fail)
      generalize (w.alloc (.cells #[.int .i64 2, .int .i64 10, .int .i64 8, .int .i64 4, .int .i64 32] 34)).alloc (.cells #[.int .i64 b, .int .u64 v, .string d] 72) = W0 at HB0 HSH HZ ⊢
      generalize w.heap.size + 1 = g at HZ ⊢
      obtain ⟨x0, x1, x2, x3, x4⟩ := HSH.out.five
      obtain ⟨z0, z1, z2⟩ := HZ.out.three
      go_wp2_with fail
      refine (HBA.out W0).mono ?_
      rintro e1 w1 ⟨rfl, hb1⟩
      have HB1 := Lib.hid (HB0.out.trans (hb1.mono HB0.out.size))
      have HZ1 := Lib.hid (HZ.out.below_ hb1)
      clear hb1 x0 x1 x2 x3 x4 z0 z1 z2
      obtain ⟨z0, z1, z2⟩ := HZ1.out.three
      go_wp2_with fail
      refine (HPB.out w1).mono ?_
      rintro e2 w2 ⟨rfl, hb2⟩
      have HB2 := Lib.hid (HB1.out.trans (hb2.mono HB1.out.size))
      clear hb2 z0 z1 z2
      go_wp2_with fail
      go_ret
      exact ⟨rfl, o, (HST.out w2 HB2.out).1, (HST.out w2 HB2.out).2⟩
  · rw [if_pos c0]
    have t0 : (F != 0) = true := bne_iff_ne.2 c0
    clear c0
    obtain ⟨b, v, d⟩ := i
    unfold Im.agg
    simp only at HB0 HSH HZ HBA ⊢
    go_enter Tryz.func44, Tryz.ntmps44
    go_upto_region 1 with (fail)
    generalize (w.alloc (.cells #[.int .i64 2, .int .i64 10, .int .i64 8, .int .i64 4, .int .i64 32] 34)).alloc (.cells #[.int .i64 b, .int .u64 v, .string d] 72) = W0 at HB0 HSH HZ ⊢
    generalize w.heap.size + 1 = g at HZ ⊢
    obtain ⟨x0, x1, x2, x3, x4⟩ := HSH.out.five
    obtain ⟨z0, z1, z2⟩ := HZ.out.three
    go_wp2_with fail
    refine (HBA.out W0).mono ?_
    rintro e1 w1 ⟨rfl, hb1⟩
    have HB1 := Lib.hid (HB0.out.trans (hb1.mono HB0.out.size))
    clear hb1 x0 x1 x2 x3 x4 z0 z1 z2
    go_wp2_with fail
    go_ret
    exact ⟨rfl, o, (HST.out w1 HB1.out).1, (HST.out w1 HB1.out).2⟩
end
end Go.Proofs.YtkhieofknglknaaGreatDoor

/- The document's disk, not armed: what its steps keep. -/
namespace Go.Proofs.YtkhieofknglknaaGreatDoor
open Go.RowKit

/-- not armed; no more than k sectors were written, each of 64 bytes -/
structure Mild (R : RF) (k : Nat) : Prop where
  room : R.room ≤ 100000
  armed : R.armed = false
  ws : R.ws.length ≤ k
  wf : ∀ x ∈ R.ws, x.data.size = 64
section
variable {R : RF} {k : Nat}
theorem Mild.mono (h : Mild R k) {m : Nat} (hm : k ≤ m) : Mild R m := ⟨h.room, h.armed, Nat.le_trans h.ws hm, h.wf⟩
theorem Mild.spend (h : Mild R k) : R.spend = (0, R) := if_pos h.armed
theorem Mild.settle (h : Mild R k) (n : Int) : Mild (R.settle n) k := by
  refine ⟨h.room, h.armed, by show (R.ws.map (RW.keep n)).length ≤ k; rw [List.length_map]; exact h.ws, fun x hx => ?_⟩
  obtain ⟨y, hy, rfl⟩ := List.mem_map.1 hx
  rw [(rk_same n y).2.2]
  exact h.wf y hy
theorem Mild.barrier (h : Mild R k) (n : Int) (e : Nat) : Mild (R.barrier n e).2 k := by
  unfold RF.barrier
  rw [h.spend]
  split
  · exact h
  · split
    · exact h
    · exact h.settle n
theorem Mild.write (h : Mild R k) (n : Int) (e : Nat) (at_ : Int) (data : ByteArray) : Mild (R.write n e at_ data).2 (k + data.size / 64) := by
  unfold RF.write
  rw [h.spend]
  split
  · exact h.mono (by omega)
  · split
    · exact h.mono (by omega)
    · rename_i h2
      split
      · exact h.mono (by omega)
      · split
        · exact h.mono (by omega)
        · split
          · exact h.mono (by omega)
          · refine ⟨h.room, h.armed, ?_, fun x hx => ?_⟩
            · show (R.ws ++ rwsN n at_ data (data.size / 64)).length ≤ _
              rw [List.length_append]
              have := h.ws
              unfold rwsN
              rw [List.length_map, List.length_range]
              omega
            · have hx : x ∈ R.ws ++ rwsN n at_ data (data.size / 64) := hx
              rcases List.mem_append.1 hx with hx | hx
              · exact h.wf x hx
              · unfold rwsN at hx
                obtain ⟨t, ht, rfl⟩ := List.mem_map.1 hx
                have := List.mem_range.1 ht
                exact sect_size (by omega)
theorem Mild.store (h : Mild R k) (n : Int) (e : Nat) (i : Im) : Mild (R.store n e i).2 (k + 2) := by
  unfold RF.store
  split
  · exact h.mono (by omega)
  · split
    · exact h.mono (by omega)
    · rename_i hr
      have hr : i.right := by simpa using hr
      have := h.write n e (blockAt i.block).1 (str (blkL i))
      rw [str_size, blkL_len hr] at this
      exact this
end
end Go.Proofs.YtkhieofknglknaaGreatDoor

/- The document's Apply (not armed). -/
namespace Go.Proofs.YtkhieofknglknaaGreatDoor
open Go.RowKit

/-- what stands while images are applied -/
structure ApS (o : Nat → Nat) (c : Nat) (w : World) (o1 : Nat → Nat) (wr : World) (p gs : Nat) (R : RF) : Prop where
  rf : RFAt o1 c wr p R
  st : Step o (logL c) w o1 wr
  sh : Keep o1 wr gs 34 #[.int .i64 2, .int .i64 10, .int .i64 8, .int .i64 4, .int .i64 32]
  fut : Fut o1 wr
theorem undrewS {a b : World} (hb : Below a.drew.heap.size a.drew b) : Below a.heap.size a b := ⟨hb.os, hb.tape, hb.output, hb.size, hb.block⟩
theorem early_belowS {w w5 : World} (hb : Below (w.alloc (.cells #[.int .i64 0, .int .u64 0, .string ⟨#[]⟩] 72)).drew.heap.size (w.alloc (.cells #[.int .i64 0, .int .u64 0, .string ⟨#[]⟩] 72)).drew w5) : Below w.heap.size w w5 := by
  have h1 := (Below.refl w.heap.size w).alloc (Nat.le_refl _) (.cells #[.int .i64 0, .int .u64 0, .string ⟨#[]⟩] 72)
  exact h1.trans ((undrewS hb).mono h1.size)
theorem new_row3S (w w5 : World) (hb : Below (w.alloc (.cells #[.int .i64 0, .int .u64 0, .string ⟨#[]⟩] 72)).drew.heap.size (w.alloc (.cells #[.int .i64 0, .int .u64 0, .string ⟨#[]⟩] 72)).drew w5) :
    (w5.cell? ⟨w.heap.size, 0, none⟩ = some (.int .i64 0) ∧ w5.cell? ⟨w.heap.size, 1, none⟩ = some (.int .u64 0) ∧ w5.cell? ⟨w.heap.size, 2, none⟩ = some (.string ⟨#[]⟩)) ∧ w5.frozen? ⟨w.heap.size, 0, none⟩ = false ∧ w5.frozen? ⟨w.heap.size, 1, none⟩ = false ∧ w5.frozen? ⟨w.heap.size, 2, none⟩ = false := by
  have h := (Blk.new w 72 #[.int .i64 0, .int .u64 0, .string ⟨#[]⟩]).below_ (undrewS hb)
  exact ⟨⟨h.cell 0, h.cell 1, h.cell 2⟩, h.frozen 0, h.frozen 1, h.frozen 2⟩
section
variable {o o1 : Nat → Nat} {c p gs : Nat} {w wr w' : World} {R : RF}
theorem ApS.below_ (h : ApS o c w o1 wr p gs R) (hb : Below wr.heap.size wr w') : ApS o c w o1 w' p gs R :=
  ⟨h.rf.below_ hb, h.st.trans (Step.of_below o1 (logL c) hb), h.sh.below_ hb, h.fut.below hb⟩
theorem ApS.alloc (h : ApS o c w o1 wr p gs R) (x : Obj) : ApS o c w o1 (wr.alloc x) p gs R := h.below_ ((Below.refl _ _).alloc (Nat.le_refl _) x)
theorem ApS.drew (h : ApS o c w o1 wr p gs R) : ApS o c w o1 wr.drew p gs R := h.below_ ⟨rfl, rfl, rfl, Nat.le_refl _, fun _ _ => rfl⟩
theorem ApS.drewN (h : ApS o c w o1 wr p gs R) (n : Nat) : ApS o c w o1 (wr.drewN n) p gs R := h.below_ ⟨rfl, rfl, rfl, Nat.le_refl _, fun _ _ => rfl⟩
theorem ApS.next {o2 : Nat → Nat} {R2 : RF} (h : ApS o c w o1 wr p gs R) (hc : 1 ≤ c) (hr : RFAt o2 c w' p R2) (hs : Step o1 (logL c) wr o2 w') : ApS o c w o2 w' p gs R2 :=
  ⟨hr, h.st.trans hs, h.sh.step hs (by unfold logL; omega), h.fut.step hs⟩
theorem ApS.set_ {g i : Nat} (h : ApS o c w o1 wr p gs R) (hc : 1 ≤ c) (hg : o1 g = 0) (hw : w.heap.size ≤ g) (hne : g ≠ gs) (u : Value) : ApS o c w o1 (wr.setCell ⟨g, i, none⟩ u) p gs R := by
  have hs := (Step.refl o1 (only 0) wr).setCell (p := ⟨g, i, none⟩) hg u
  exact ⟨h.rf.step hs (by unfold three only; omega), h.st.setNew hw u, ⟨h.sh.1.far (p := ⟨g, i, none⟩) (fun e => hne e.symm) u, h.sh.2⟩, h.fut.step hs⟩
theorem aps_late {w5 : World} (h : ApS o c w o1 wr p gs R) (hb : Below wr.drew.heap.size wr.drew w5) (cs : Array Value) : ApS o c w o1 (w5.alloc (.cells cs 72)) p gs R ∧ Blk (w5.alloc (.cells cs 72)) w5.heap.size 72 cs :=
  ⟨(h.drew.below_ hb).alloc _, Blk.new _ _ _⟩
theorem aps_early {w5 : World} (h : ApS o c w o1 wr p gs R) (hc : 1 ≤ c) (hb : Below (wr.alloc (.cells #[.int .i64 0, .int .u64 0, .string ⟨#[]⟩] 72)).drew.heap.size (wr.alloc (.cells #[.int .i64 0, .int .u64 0, .string ⟨#[]⟩] 72)).drew w5) (a b d : Value) :
    ApS o c w o1 (((w5.setCell ⟨wr.heap.size, 0, none⟩ a).setCell ⟨wr.heap.size, 1, none⟩ b).setCell ⟨wr.heap.size, 2, none⟩ d) p gs R ∧ Blk (((w5.setCell ⟨wr.heap.size, 0, none⟩ a).setCell ⟨wr.heap.size, 1, none⟩ b).setCell ⟨wr.heap.size, 2, none⟩ d) wr.heap.size 72 #[a, b, d] := by
  have h1 := (h.alloc (.cells #[.int .i64 0, .int .u64 0, .string ⟨#[]⟩] 72)).drew.below_ hb
  have b5 := ((Blk.new wr 72 #[.int .i64 0, .int .u64 0, .string ⟨#[]⟩]).drew).below_ hb
  have hg := h.fut.at_
  have hw := h.st.size
  have hne : wr.heap.size ≠ gs := by have := h.sh.1.lt; omega
  exact ⟨((h1.set_ hc hg hw hne a).set_ hc hg hw hne b).set_ hc hg hw hne d, ((b5.set_ 0 a).set_ 1 b).set_ 2 d⟩
end
end Go.Proofs.YtkhieofknglknaaGreatDoor
