/- Records: the first sector; the images. -/
import Derived.Test.YtianlhigeabehaaGreatDoorKRecA
namespace Go.Proofs.YtianlhigeabehaaGreatDoor
open Go.RowKit

def firstRx (b : ByteArray) : Rc := if firstE b = 0 then firstX b else Rc.zero
def firstNn (b : ByteArray) : Nat := if firstE b = 0 then firstN b else 0
set_option maxRecDepth 100000 in
set_option maxHeartbeats 4000000 in
theorem cfirst_any (b : ByteArray) (w : World) (hb : b.size ≤ 1000000000) :
    Calls Tryz.prog 94 #[.string b] w fun e w' => e = .returned (.tuple #[.agg #[.int .u64 (firstRx b).epoch, .int .u64 (firstRx b).lsn, .slice none 0 0], .int .i64 (firstNn b : Nat), .int .i64 (firstE b)]) ∧ Below w.heap.size w w' := by
  have HB0 := Lib.hid ((Env.start w).alloc (.cells #[.int .u64 0, .int .u64 0, .slice none 0 0] 81))
  have HZ0 := Lib.hid (Keep.new (fut0 w) 81 #[.int .u64 0, .int .u64 0, .slice none 0 0])
  have fin : ∀ (W : World) (a v n : Nat) (e : Int), Blk W w.heap.size 81 #[.int .u64 a, .int .u64 v, .slice none 0 0] → Below w.heap.size w W → firstRx b = ⟨a, v, []⟩ → firstNn b = n → firstE b = e →
      Blk W w.heap.size 81 #[.int .u64 a, .int .u64 v, .slice none 0 0] ∧ Below w.heap.size w W ∧ Ending.returned (.tuple #[.agg #[.int .u64 a, .int .u64 v, .slice none 0 0], .int .i64 n, .int .i64 e]) = .returned (.tuple #[.agg #[.int .u64 (firstRx b).epoch, .int .u64 (firstRx b).lsn, .slice none 0 0], .int .i64 (firstNn b : Nat), .int .i64 (firstE b)]) := fun W a v n e h1 h2 h3 h4 h5 => ⟨h1, h2, by rw [h3, h4, h5]⟩
  have FIN := Lib.hid fin
  have HFE := Lib.hid (show firstE b = if b.size < 64 then 5 else if readE (b.extract 0 64).data.toList ≠ 0 then readE (b.extract 0 64).data.toList else if firstBad b then 4 else 0 from rfl)
  have bad : ∀ e, firstE b = e → e ≠ 0 → firstRx b = ⟨0, 0, []⟩ ∧ firstNn b = 0 := fun e h1 h2 => ⟨if_neg (by rw [h1]; exact h2), if_neg (by rw [h1]; exact h2)⟩
  have BAD := Lib.hid bad
  clear fin bad
  by_cases hs : b.size < 64
  · have hsI : (b.size : Int) < 64 := by omega
    have HE := Lib.hid (show firstE b = 5 by rw [HFE.out, if_pos hs])
    obtain ⟨r1, r2⟩ := BAD.out 5 HE.out (by decide)
    obtain ⟨hz, hb0, he⟩ := FIN.out _ 0 0 0 5 HZ0.out.1 HB0.out.low r1 r2 HE.out
    rw [← he]
    clear hs he r1 r2
    go_enter Tryz.func94, Tryz.ntmps94
    go_wp2_with fail
    exact bodyPost_ret (v := .tuple #[.agg #[.int .u64 0, .int .u64 0, .slice none 0 0], .int .i64 0, .int .i64 5]) (by simp [results, Tryz.results94, go_sem]) rfl ⟨rfl, hb0⟩
  · have hsI : ¬ (b.size : Int) < 64 := by omega
    have b64 : (64 : Int) ≤ (b.size : Int) := by omega
    have hxs : (b.extract 0 64).size = 64 := by rw [ByteArray.size_extract]; omega
    have HXS := Lib.hid (show (b.extract 0 64).size ≤ 1000000000 by omega)
    have HXL := Lib.hid (show (b.extract 0 64).data.toList.length = 64 from hxs)
    have HFE2 := Lib.hid (show firstE b = if readE (b.extract 0 64).data.toList ≠ 0 then readE (b.extract 0 64).data.toList else if firstBad b then 4 else 0 by rw [HFE.out, if_neg hs])
    have HFR := Lib.hid (show firstR b = ⟨str (readL (b.extract 0 64).data.toList), 0⟩ from rfl)
    clear hs hxs hb
    go_enter Tryz.func94, Tryz.ntmps94
    go_wp2_with fail
    generalize w.alloc (.cells #[.int .u64 0, .int .u64 0, .slice none 0 0] 81) = W at HB0 HZ0 ⊢
    refine (sread_any (b.extract 0 64) HXS.out W).mono ?_
    rintro e w1 ⟨rfl, hb1⟩
    have HB1 := Lib.hid (HB0.out.below_ hb1)
    have HZ1 := Lib.hid (HZ0.out.below_ hb1)
    clear hb1
    obtain ⟨E, hE⟩ : ∃ E, readE (b.extract 0 64).data.toList = E := ⟨_, rfl⟩
    have HRL := Lib.hid (fun (h : readE (b.extract 0 64).data.toList = 0) => readL_len h)
    rw [hE] at HFE2 HRL ⊢
    clear hE
    by_cases h0 : E = 0
    · subst h0
      have ht := HRL.out rfl
      rw [HXL.out] at ht
      generalize readL (b.extract 0 64).data.toList = t at ht HFR ⊢
      have HN := Lib.hid (show (str t).size ≤ 1000000000 by rw [str_size, ht]; omega)
      have HN0 := Lib.hid (show ¬ only 1 0 by unfold only; omega)
      clear ht
      go_wp2_with fail
      refine (newreader_any (fun _ => 0) 1 (str t) w1 HN.out).mono ?_
      rintro e w2 ⟨p, o2, rfl, hrd, hb2, hst2⟩
      have HS2 := Lib.hid (show Gs 197 o2 w w2 p ⟨str t, 0⟩ from ⟨hrd, HB1.out.step (hst2 (fun _ => False)) (by simp), (show Fut (fun _ => 0) w1 from fun _ _ => rfl).step (hst2 (fun _ => False))⟩)
      have HK2 := Lib.hid (HZ1.out.step (hst2 (fun _ => False)) (by simp))
      clear hrd hb2 hst2
      go_wp2_with fail
      refine (rnum_g HS2.out 8).mono ?_
      rintro e w3 ⟨rfl, o3, hg3, hs3⟩
      have HS3 := Lib.hid hg3
      have HK3 := Lib.hid (HK2.out.step hs3 HN0.out)
      clear hg3 hs3
      go_wp2_with fail
      refine (rnum_g HS3.out 8).mono ?_
      rintro e w4 ⟨rfl, o4, hg4, hs4⟩
      obtain ⟨a, ha⟩ : ∃ a, (⟨str t, 0⟩ : Rd).numV 8 = a := ⟨_, rfl⟩
      obtain ⟨v, hv⟩ : ∃ v, ((⟨str t, 0⟩ : Rd).numR 8).numV 8 = v := ⟨_, rfl⟩
      have HFX := Lib.hid (show firstX b = ⟨a, v, []⟩ by unfold firstX; rw [HFR.out, ha, hv])
      rw [ha, hv]
      have HS4 := Lib.hid (hg4.alloc (.cells #[.int .u64 (a : Int), .int .u64 (v : Int), .slice none 0 0] 81))
      have HX4 := Lib.hid (Keep.new hg4.fut 81 #[.int .u64 (a : Int), .int .u64 (v : Int), .slice none 0 0])
      have HK4 := Lib.hid ((HK3.out.step hs4 HN0.out).alloc (.cells #[.int .u64 (a : Int), .int .u64 (v : Int), .slice none 0 0] 81))
      clear hg4 hs4 ha hv
      go_wp2_with fail
      generalize w4.alloc (.cells #[.int .u64 (a : Int), .int .u64 (v : Int), .slice none 0 0] 81) = W4 at HS4 HX4 HK4 ⊢
      generalize w4.heap.size = gX at HX4 ⊢
      refine (rnum_g HS4.out 1).mono ?_
      rintro e w5 ⟨rfl, o5, hg5, hs5⟩
      have HS5 := Lib.hid hg5
      have HX5 := Lib.hid (HX4.out.step hs5 HN0.out)
      have HK5 := Lib.hid (HK4.out.step hs5 HN0.out)
      clear hg5 hs5
      go_wp2_with fail
      refine (rnum_g HS5.out 1).mono ?_
      rintro e w6 ⟨rfl, o6, hg6, hs6⟩
      obtain ⟨pl, hpl⟩ : ∃ a, (((⟨str t, 0⟩ : Rd).numR 8).numR 8).numV 1 = a := ⟨_, rfl⟩
      obtain ⟨n, hn⟩ : ∃ v, ((((⟨str t, 0⟩ : Rd).numR 8).numR 8).numR 1).numV 1 = v := ⟨_, rfl⟩
      have HFP := Lib.hid (show firstP b = pl by unfold firstP; rw [HFR.out, hpl])
      have HFN := Lib.hid (show firstN b = n by unfold firstN; rw [HFR.out, hn])
      have hnl : n < 256 := by rw [← hn]; exact numV_lt _ 1 (by omega)
      have hwn := wrap_small (v := n) (by omega)
      rw [hpl, hn]
      have hX6 := (HX5.out.step hs6 HN0.out)
      have hK6 := (HK5.out.step hs6 HN0.out)
      have HK6 := Lib.hid hK6
      have HL6 := Lib.hid hg6.env.low
      have x0 := hX6.1.cell 0
      have x1 := hX6.1.cell 1
      have x2 := hX6.1.cell 2
      obtain ⟨y0, y1, y2⟩ := hK6.1.three
      have f0 := hK6.1.frozen 0
      have f1 := hK6.1.frozen 1
      have f2 := hK6.1.frozen 2
      simp at x0 x1 x2
      have HBD := Lib.hid (show firstBad b ↔ a = 0 ∨ v = 0 ∨ pl ≠ 0 ∨ secsOf n = 0 by unfold firstBad; rw [HFX.out, HFP.out, HFN.out])
      clear hg6 hs6 hX6 hK6 hpl hn
      by_cases hbad : a = 0 ∨ v = 0 ∨ pl ≠ 0 ∨ secsOf n = 0
      · have HE := Lib.hid (show firstE b = 4 by rw [HFE2.out, if_neg (by decide), if_pos (HBD.out.2 hbad)])
        obtain ⟨r1, r2⟩ := BAD.out 4 HE.out (by decide)
        obtain ⟨hz3, hb3, he⟩ := FIN.out _ 0 0 0 4 (HK6.out.1.put3 (.int .u64 0) (.int .u64 0) (.slice none 0 0)) (below_put3 HL6.out (Nat.le_refl _) _ _ _) r1 r2 HE.out
        have HZ3 := Lib.hid hz3
        have HB3 := Lib.hid hb3
        have HEE := Lib.hid he
        clear hz3 hb3 he r1 r2
        by_cases c0 : a = 0
        · have t0 : ((a : Int) == 0) = true := by simp [c0]
          clear hbad c0
          go_wp2_with fail
          clear x0 x1 x2 y0 y1 y2 f0 f1 f2
          rw [← HEE.out]
          generalize ((w6.setCell ⟨w.heap.size, 0, none⟩ (.int .u64 0)).setCell ⟨w.heap.size, 1, none⟩ (.int .u64 0)).setCell ⟨w.heap.size, 2, none⟩ (.slice none 0 0) = WE at HZ3 HB3 ⊢
          obtain ⟨q0, q1, q2⟩ := HZ3.out.three
          exact bodyPost_ret (v := .tuple #[.agg #[.int .u64 0, .int .u64 0, .slice none 0 0], .int .i64 0, .int .i64 4]) (by simp [results, Tryz.results94, go_sem, q0, q1, q2]) rfl ⟨rfl, HB3.out⟩
        · have t0 : ((a : Int) == 0) = false := by simp [c0]
          by_cases c1 : v = 0
          · have t1 : ((v : Int) == 0) = true := by simp [c1]
            clear hbad c0 c1
            go_wp2_with fail
            clear x0 x1 x2 y0 y1 y2 f0 f1 f2
            rw [← HEE.out]
            generalize ((w6.setCell ⟨w.heap.size, 0, none⟩ (.int .u64 0)).setCell ⟨w.heap.size, 1, none⟩ (.int .u64 0)).setCell ⟨w.heap.size, 2, none⟩ (.slice none 0 0) = WE at HZ3 HB3 ⊢
            obtain ⟨q0, q1, q2⟩ := HZ3.out.three
            exact bodyPost_ret (v := .tuple #[.agg #[.int .u64 0, .int .u64 0, .slice none 0 0], .int .i64 0, .int .i64 4]) (by simp [results, Tryz.results94, go_sem, q0, q1, q2]) rfl ⟨rfl, HB3.out⟩
          · have t1 : ((v : Int) == 0) = false := by simp [c1]
            by_cases c2 : pl = 0
            · have t2 : ((pl : Int) != 0) = false := by simp [c2]
              have HSE := Lib.hid (show secsOf n = 0 by rcases hbad with h | h | h | h <;> first | exact absurd h ‹_› | exact absurd c2 h | exact h)
              clear hbad c0 c1 c2
              go_wp2_with fail
              refine (secs_any (n : Int) w6).mono ?_
              rintro e w7 ⟨rfl, rfl⟩
              rw [HSE.out]
              go_wp2_with fail
              clear x0 x1 x2 y0 y1 y2 f0 f1 f2
              rw [← HEE.out]
              generalize ((w6.setCell ⟨w.heap.size, 0, none⟩ (.int .u64 0)).setCell ⟨w.heap.size, 1, none⟩ (.int .u64 0)).setCell ⟨w.heap.size, 2, none⟩ (.slice none 0 0) = WE at HZ3 HB3 ⊢
              obtain ⟨q0, q1, q2⟩ := HZ3.out.three
              exact bodyPost_ret (v := .tuple #[.agg #[.int .u64 0, .int .u64 0, .slice none 0 0], .int .i64 0, .int .i64 4]) (by simp [results, Tryz.results94, go_sem, q0, q1, q2]) rfl ⟨rfl, HB3.out⟩
            · have t2 : ((pl : Int) != 0) = true := by simp [c2]
              clear hbad c0 c1 c2
              go_wp2_with fail
              clear x0 x1 x2 y0 y1 y2 f0 f1 f2
              rw [← HEE.out]
              generalize ((w6.setCell ⟨w.heap.size, 0, none⟩ (.int .u64 0)).setCell ⟨w.heap.size, 1, none⟩ (.int .u64 0)).setCell ⟨w.heap.size, 2, none⟩ (.slice none 0 0) = WE at HZ3 HB3 ⊢
              obtain ⟨q0, q1, q2⟩ := HZ3.out.three
              exact bodyPost_ret (v := .tuple #[.agg #[.int .u64 0, .int .u64 0, .slice none 0 0], .int .i64 0, .int .i64 4]) (by simp [results, Tryz.results94, go_sem, q0, q1, q2]) rfl ⟨rfl, HB3.out⟩
      · have HE := Lib.hid (show firstE b = 0 by rw [HFE2.out, if_neg (by decide), if_neg (fun h => hbad (HBD.out.1 h))])
        have r1 : firstRx b = ⟨a, v, []⟩ := by unfold firstRx; rw [if_pos HE.out, HFX.out]
        have r2 : firstNn b = n := by unfold firstNn; rw [if_pos HE.out, HFN.out]
        obtain ⟨hz3, hb3, he⟩ := FIN.out _ a v n 0 (HK6.out.1.put3 (.int .u64 a) (.int .u64 v) (.slice none 0 0)) (below_put3 HL6.out (Nat.le_refl _) _ _ _) r1 r2 HE.out
        have HZ3 := Lib.hid hz3
        have HB3 := Lib.hid hb3
        have HEE := Lib.hid he
        have t0 : ((a : Int) == 0) = false := by simp; omega
        have t1 : ((v : Int) == 0) = false := by simp; omega
        have t2 : ((pl : Int) != 0) = false := by simp; omega
        have t3 : (((secsOf (n : Int) : Nat) : Int) == 0) = false := by simp; omega
        clear hz3 hb3 he r1 r2 hbad
        go_wp2_with fail
        refine (secs_any (n : Int) w6).mono ?_
        rintro e w7 ⟨rfl, rfl⟩
        generalize secsOf (n : Int) = q at t3 ⊢
        go_wp2_with fail
        clear x0 x1 x2 y0 y1 y2 f0 f1 f2
        rw [← HEE.out]
        generalize ((w6.setCell ⟨w.heap.size, 0, none⟩ (.int .u64 (a : Int))).setCell ⟨w.heap.size, 1, none⟩ (.int .u64 (v : Int))).setCell ⟨w.heap.size, 2, none⟩ (.slice none 0 0) = WE at HZ3 HB3 ⊢
        obtain ⟨q0, q1, q2⟩ := HZ3.out.three
        exact bodyPost_ret (v := .tuple #[.agg #[.int .u64 (a : Int), .int .u64 (v : Int), .slice none 0 0], .int .i64 (n : Int), .int .i64 0]) (by simp [results, Tryz.results94, go_sem, q0, q1, q2]) rfl ⟨rfl, HB3.out⟩
    · have t1 : (E != 0) = true := bne_iff_ne.2 h0
      have h2 : str (readL (b.extract 0 64).data.toList) = str (readL (b.extract 0 64).data.toList) := rfl
      generalize str (readL (b.extract 0 64).data.toList) = S at HFR h2 ⊢
      have HE := Lib.hid (show firstE b = E by rw [HFE2.out, if_pos h0])
      obtain ⟨r1, r2⟩ := BAD.out E HE.out h0
      obtain ⟨hz3, hb3, he⟩ := FIN.out _ 0 0 0 E (HZ1.out.1.put3 (.int .u64 0) (.int .u64 0) (.slice none 0 0)) (below_put3 HB1.out.low (Nat.le_refl _) _ _ _) r1 r2 HE.out
      have HZ3 := Lib.hid hz3
      have HB3 := Lib.hid hb3
      have HEE := Lib.hid he
      obtain ⟨y0, y1, y2⟩ := HZ1.out.1.three
      have f0 := HZ1.out.1.frozen 0
      have f1 := HZ1.out.1.frozen 1
      have f2 := HZ1.out.1.frozen 2
      clear h0 hz3 hb3 he r1 r2 h2
      go_wp2_with fail
      clear y0 y1 y2 f0 f1 f2
      rw [← HEE.out]
      generalize ((w1.setCell ⟨w.heap.size, 0, none⟩ (.int .u64 0)).setCell ⟨w.heap.size, 1, none⟩ (.int .u64 0)).setCell ⟨w.heap.size, 2, none⟩ (.slice none 0 0) = WE at HZ3 HB3 ⊢
      obtain ⟨q0, q1, q2⟩ := HZ3.out.three
      exact bodyPost_ret (v := .tuple #[.agg #[.int .u64 0, .int .u64 0, .slice none 0 0], .int .i64 0, .int .i64 E]) (by simp [results, Tryz.results94, go_sem, q0, q1, q2]) rfl ⟨rfl, HB3.out⟩
end Go.Proofs.YtianlhigeabehaaGreatDoor

/- Records: the images. -/
namespace Go.Proofs.YtianlhigeabehaaGreatDoor
open Go.RowKit

/-- images that are gathered: what lay before stays -/
structure ImsAt (o : Nat → Nat) (w wr : World) (V : Value) (n : Nat) (l : List Im) : Prop where
  own : OwnS o 2 wr 40 3 V n (imcells l)
  env : Env o w wr
  fut : Fut o wr
theorem own_new {o : Nat → Nat} {w wr : World} {V : Value} {n : Nat} {l : List Im} (h : ImsAt o w wr V n l) : ∀ g, V.ownBlock = some g → w.heap.size ≤ g := by
  intro g hg
  rcases Nat.lt_or_ge g w.heap.size with h1 | h1
  · have h2 := h.env.old g h1
    have h3 := h.own.2 g hg
    omega
  · exact h1
theorem ImsAt.done {o : Nat → Nat} {w wr : World} {V : Value} {n : Nat} {l : List Im} (h : ImsAt o w wr V n l) (oo : Nat → Nat) (d : Nat) : OwnS (band oo w.heap.size wr.heap.size d) d wr 40 3 V n (imcells l) :=
  ⟨h.own.1, fun g hg => band_in (own_new h g hg) (h.own.lt g hg)⟩
theorem imsG_succ (t : List UInt8) (k : Nat) : imsG t (k + 1) = imsG t k ++ [imG ((t.take ((k + 1) * 108)).drop (k * 108))] := by simp [imsG, List.range_succ]
set_option maxRecDepth 100000 in
set_option maxHeartbeats 4000000 in
theorem cimages_any (oo : Nat → Nat) (d : Nat) (t : List UInt8) (n : Nat) (w : World) (hn : n ≤ 60) (ht : n * 108 ≤ t.length) (ht2 : t.length ≤ 1000000) :
    Calls Tryz.prog 96 #[.string (str t), .int .i64 (n : Int)] w fun e w' => ∃ A cap, e = .returned (.slice A n cap) ∧ OwnS (band oo w.heap.size w'.heap.size d) d w' 40 3 (.slice A n cap) n (imcells (imsG t n)) ∧ Below w.heap.size w w' := by
  obtain ⟨i0, hi0, hz0, hz1, hz2⟩ := info_parts info_im
  have HSX := Lib.hid (fun lo hi => extract_str t lo hi)
  have HSZ := Lib.hid (show (str t).size = t.length from str_size t)
  obtain ⟨b, hb⟩ : ∃ b, b = str t := ⟨_, rfl⟩
  rw [← hb] at HSX HSZ ⊢
  have HSU := Lib.hid (imsG_succ t)
  have HN0 := Lib.hid (show ¬ only 1 0 by unfold only; omega)
  have HN2 := Lib.hid (show ¬ only 1 2 by unfold only; omega)
  have hbz : (b.size : Int) = (t.length : Int) := by rw [HSZ.out]
  clear hb
  go_enter Tryz.func96, Tryz.ntmps96
  go_wp2_with fail
  go_loopw [5, 10] (fun t5 t10 wr => ∃ (k : Nat) (A : Option Addr) (cap : Nat) (o : Nat → Nat), k ≤ n ∧ t10 = .int .i64 k ∧ t5 = .slice A k cap ∧ ImsAt o w wr (.slice A k cap) k (imsG t k)) (fun _ t10 _ => n - (intOf t10).toNat)
  case atStart => exact ⟨0, none, 0, fun _ => 0, by omega, rfl, rfl, ⟨OwnS.nil _ _ _ _ _, Env.start w, fun _ _ => rfl⟩⟩
  case round =>
    obtain ⟨k, A, cap, o, hk, rfl, rfl, him⟩ := hrel
    have HIM := Lib.hid him
    clear him
    by_cases hlt : k < n
    · have hltI : (k : Int) < (n : Int) := by omega
      obtain ⟨lo, hlo⟩ : ∃ lo, k * 108 = lo := ⟨_, rfl⟩
      obtain ⟨hi, hhi⟩ : ∃ hi, (k + 1) * 108 = hi := ⟨_, rfl⟩
      have hle : hi ≤ t.length := by have := Nat.mul_le_mul_right 108 (show k + 1 ≤ n from hlt); omega
      have e1 : (k : Int) * 108 = (lo : Int) := by omega
      have e2 : ((k : Int) + 1) * 108 = (hi : Int) := by omega
      have b0 : (0 : Int) ≤ (lo : Int) := by omega
      have b1 : (lo : Int) ≤ (hi : Int) := by omega
      have b2 : (hi : Int) ≤ (b.size : Int) := by rw [hbz]; omega
      obtain ⟨u, hu⟩ : ∃ u, (t.take hi).drop lo = u := ⟨_, rfl⟩
      have hul : u.length = 108 := by rw [← hu, List.length_drop, List.length_take]; omega
      have hsx : b.extract lo hi = str u := by rw [HSX.out, hu]
      have HU := Lib.hid (show imsG t (k + 1) = imsG t k ++ [imG u] by rw [HSU.out, hlo, hhi, hu])
      obtain ⟨s, hs⟩ : ∃ s, s = str u := ⟨_, rfl⟩
      have hss : s.size = 108 := by rw [hs, str_size, hul]
      rw [← hs] at hsx
      have s12 : (12 : Int) ≤ (s.size : Int) := by omega
      have HS9 := Lib.hid (show s.size ≤ 1000000000 by omega)
      have hs12 : s.extract 12 s.size = str (u.drop 12) := by rw [hs, rest_str]
      have HCZ := Lib.hid (show (str (u.drop 12)).size ≤ 281474976710656 by rw [str_size, List.length_drop]; omega)
      have HIG := Lib.hid (show imG u = ⟨((⟨s, 0⟩ : Rd).numV 4 : Nat), ((⟨s, 0⟩ : Rd).numR 4).numV 8, str (u.drop 12)⟩ by rw [hs]; rfl)
      clear hlo hhi hle hu hul hs hss
      go_upto_region 7 with (go_at_call 110; refine (newreader_any o 1 s _ HS9.out).mono ?_; rintro e w2 ⟨p, o2, rfl, hrd, hb2, hst2⟩)
      have HS2 := Lib.hid (show Gs 197 o2 w w2 p ⟨s, 0⟩ from ⟨hrd, HIM.out.env.step (hst2 (fun _ => False)) (by simp), HIM.out.fut.step (hst2 (fun _ => False))⟩)
      have HO2 := Lib.hid (HIM.out.own.step (hst2 (fun _ => False)) (by simp))
      obtain ⟨a, ha⟩ : ∃ a, a = (⟨s, 0⟩ : Rd).numV 4 := ⟨_, rfl⟩
      obtain ⟨v, hv⟩ : ∃ v, v = ((⟨s, 0⟩ : Rd).numR 4).numV 8 := ⟨_, rfl⟩
      have hal : a < 4294967296 := by rw [ha]; exact numV_lt _ 4 (by omega)
      have hwa := wrap_small hal
      have HA := Lib.hid ha
      have HV := Lib.hid hv
      obtain ⟨D, hD⟩ : ∃ D, D = str (u.drop 12) := ⟨_, rfl⟩
      rw [← hD] at hs12 HCZ HIG
      rw [← ha, ← hv] at HIG
      clear ha hv hal hD hrd hb2 hst2 hsx
      go_region_held3 (fun _ => True) (first | exact trivial)
        (first
          | (go_at_call 111; ((with_reducible refine (rnum_g HS2.out.drew 4).mono ?_); rintro e3 w3 ⟨rfl, o3, hg3, hs3⟩; have ho3 := HO2.out.drew.step hs3 HN2.out; rw [← HA.out]))
          | (go_at_call 111; ((with_reducible refine (rnum_g hg3 8).mono ?_); rintro e4 w4 ⟨rfl, o4, hg4, hs4⟩; have ho4 := ho3.step hs4 HN2.out; rw [← HV.out]))
          | (go_at_call 49; ((with_reducible refine (clone_any D _ HCZ.out).mono ?_); rintro e5 w5 ⟨rfl, hb5⟩; have hg5 := hg4.below_ hb5; have ho5 := ho4.below_ hb5; have hg6 := hg5.alloc (.cells #[.int .i64 (a : Int), .int .u64 (v : Int), .string D] 40); have ho6 := ho5.alloc (.cells #[.int .i64 (a : Int), .int .u64 (v : Int), .string D] 40)))
          | (refine step_append_S _ rfl (.tmp 22) (.tmp 32) 22 rfl 40 i0 _ 3 32 Tryz.underlying22 hi0 hz0 hz1 hz2 rfl (by omega) (.slice A k cap) k (imcells (imsG t k)) rfl ho6 _ 1 1 [.int .i64 (a : Int), .int .u64 (v : Int), .string D] rfl (Reads.newAt w5 40 3 1 _ #[.int .i64 (a : Int), .int .u64 (v : Int), .string D] _ rfl rfl rfl) (by simp [Value.oneCell']) (by unfold maxLen; omega) (by omega) ?_; intro v7 w7 hown7 hst7 hgr7 hat7; obtain ⟨A7, cap7, rfl, _, _⟩ := own_form' hown7; have HW7 := Lib.hid hown7; have HT7 := Lib.hid hst7; clear hown7 hst7 hgr7 hat7))
      have hF : ImsAt _ w w7 (.slice A7 (k + 1) cap7) (k + 1) (imsG t (k + 1)) := ⟨by
        have h := HW7.out
        rw [HU.out, imcells_app, HIG.out]
        exact h, hg6.env.step HT7.out (by unfold only; omega), hg6.fut.step HT7.out⟩
      have HF := Lib.hid hF
      clear hF HW7 HT7 hg3 hs3 ho3 hg4 hs4 ho4 hb5 hg5 ho5 hg6 ho6 hwa hs12
      go_wp2_with fail
      go_roundw
      case rel => exact ⟨k + 1, A7, cap7, _, by omega, by go_num, by go_num, HF.out⟩
      case measure => simp [intOf]; omega
    · have hltI : ¬ (k : Int) < (n : Int) := by omega
      obtain rfl : k = n := by omega
      go_wp2_with fail
      go_ret
      exact ⟨A, cap, rfl, HIM.out.done oo d, HIM.out.env.low⟩
end Go.Proofs.YtianlhigeabehaaGreatDoor
