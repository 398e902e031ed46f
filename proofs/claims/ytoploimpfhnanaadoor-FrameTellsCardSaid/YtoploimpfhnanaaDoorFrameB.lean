/- Frames: Get reads one. -/
import Derived.Test.YtoploimpfhnanaaDoorFrameA
import Derived.Test.YtoploimpfhnanaaDoorMsgC
namespace Go.Proofs.YtoploimpfhnanaaDoor
open Go.RowKit

section
variable {o : Nat → Nat} {w0 w : World} {p : Nat} {R : Rd}
theorem rflag_g (h : Gs 47 o w0 w p R) :
    Calls Tryd.prog 23 #[.pointer (some ⟨p, 0, none⟩)] w fun r w' => r = .returned (.bool R.flagV) ∧ ∃ o', Gs 47 o' w0 w' p R.flagR ∧ Step o (only 1) w o' w' := by
  refine (rflag_any h.rd).mono ?_
  rintro e w1 ⟨rfl, o1, h1, hs⟩
  exact ⟨rfl, o1, h.next h1 hs, hs⟩
theorem rtext_g (h : Gs 47 o w0 w p R) (n : Int) :
    Calls Tryd.prog 21 #[.pointer (some ⟨p, 0, none⟩), .int .i64 n] w fun r w' => r = .returned (.string (R.textV n)) ∧ ∃ o', Gs 47 o' w0 w' p (R.textR n) ∧ Step o (only 1) w o' w' := by
  refine (rtext_any h.rd n).mono ?_
  rintro e w1 ⟨rfl, o1, h1, hs⟩
  exact ⟨rfl, o1, h.next h1 hs, hs⟩
end
theorem only10 : ¬ only 1 0 := by unfold only; omega
def rF (s : ByteArray) : Nat → Rd
  | 0 => fR2 s
  | k + 1 => (rF s k).numR 8
theorem rF0 (s : ByteArray) : rF s 0 = fR2 s := rfl
theorem rF1 (s : ByteArray) : rF s 1 = fR3 s := by rw [rF, rF0]; rfl
theorem rF2 (s : ByteArray) : rF s 2 = fR4 s := by rw [rF, rF1]; rfl
theorem rF3 (s : ByteArray) : rF s 3 = fR5 s := by rw [rF, rF2]; rfl
theorem rF4 (s : ByteArray) : rF s 4 = fR6 s := by rw [rF, rF3]; rfl
theorem getF_eq (s : ByteArray) : getF s = ⟨((⟨s, 0⟩ : Rd).numV 2 : Int), ((fR1 s).numV 2 : Int), wrap64 ((rF s 0).numV 8 : Int), wrap64 ((rF s 1).numV 8 : Int), wrap64 ((rF s 2).numV 8 : Int), wrap64 ((rF s 3).numV 8 : Int), (fR7 s).textV 3000, (fR6 s).flagV⟩ := by
  rw [rF0, rF1, rF2, rF3]
  rfl
def fq (s : ByteArray) (j k : Nat) : Int := if j < k then wrap64 ((rF s j).numV 8 : Int) else 0
theorem fq_lt (s : ByteArray) {j k : Nat} (h : j < k) : fq s j k = wrap64 ((rF s j).numV 8 : Int) := if_pos h
theorem frow_set (s : ByteArray) {k : Nat} (hk : k < 4) (a b : Int) (c6 c7 : Value) :
    (#[.int .i64 a, .int .i64 b, .int .i64 (fq s 0 k), .int .i64 (fq s 1 k), .int .i64 (fq s 2 k), .int .i64 (fq s 3 k), c6, c7] : Array Value).setIfInBounds (k + 2) (.int .i64 (wrap64 ((rF s k).numV 8 : Int))) =
      #[.int .i64 a, .int .i64 b, .int .i64 (fq s 0 (k + 1)), .int .i64 (fq s 1 (k + 1)), .int .i64 (fq s 2 (k + 1)), .int .i64 (fq s 3 (k + 1)), c6, c7] := by
  have : k = 0 ∨ k = 1 ∨ k = 2 ∨ k = 3 := by omega
  rcases this with rfl | rfl | rfl | rfl <;> simp [fq]
theorem frow_get (s : ByteArray) {k : Nat} (hk : k < 4) (a b : Int) (c6 c7 : Value) :
    ∃ x, (#[.int .i64 a, .int .i64 b, .int .i64 (fq s 0 k), .int .i64 (fq s 1 k), .int .i64 (fq s 2 k), .int .i64 (fq s 3 k), c6, c7] : Array Value)[k + 2]? = some (.int .i64 x) := by
  have : k = 0 ∨ k = 1 ∨ k = 2 ∨ k = 3 := by omega
  rcases this with rfl | rfl | rfl | rfl <;> exact ⟨_, rfl⟩
theorem fptrs_get (g : Nat) {k : Nat} (hk : k < 4) : (#[.pointer (some ⟨g, 2, none⟩), .pointer (some ⟨g, 3, none⟩), .pointer (some ⟨g, 4, none⟩), .pointer (some ⟨g, 5, none⟩)] : Array Value)[k]? = some (.pointer (some ⟨g, k + 2, none⟩)) := by
  have : k = 0 ∨ k = 1 ∨ k = 2 ∨ k = 3 := by omega
  rcases this with rfl | rfl | rfl | rfl <;> rfl
theorem wrap64_i64 (n : Int) : i64' (wrap64 n) := by unfold i64' wrap64; omega
theorem wrap_is64 (n : Int) : IntKind.i64.wrap n = wrap64 n := by rw [IntKind.wrap_i64]; unfold wrap64; omega
theorem rd_size (R : Rd) (n : Int) (m : Nat) (h : R.b.size ≤ m) : (R.numR n).b.size ≤ m := by
  unfold Rd.numR
  split
  · unfold Rd.takeR
    split
    · exact h
    · split
      · simp only [ByteArray.size_extract]; omega
      · exact h
  · unfold Rd.fail
    split
    · exact h
    · exact h
theorem textV_le (R : Rd) (n : Int) : (R.textV n).size ≤ 65536 := by
  unfold Rd.textV
  split
  · show 0 ≤ _; omega
  · have h1 := takeS_size (R.countR n) (R.countV n) (countV_bd R n).1
    have h2 := (countV_bd R n).2
    omega
set_option maxRecDepth 100000 in
theorem getF_i64s (s : ByteArray) : (getF s).i64s := by
  refine ⟨?_, ?_, wrap64_i64 _, wrap64_i64 _, wrap64_i64 _, wrap64_i64 _, ?_⟩
  · have h := numV_lt (⟨s, 0⟩ : Rd) 2 (by omega)
    have h2 : (⟨s, 0⟩ : Rd).numV 2 < 65536 := by simpa using h
    show i64' ((⟨s, 0⟩ : Rd).numV 2 : Int)
    unfold i64'
    omega
  · have h := numV_lt (fR1 s) 2 (by omega)
    have h2 : (fR1 s).numV 2 < 65536 := by simpa using h
    show i64' ((fR1 s).numV 2 : Int)
    unfold i64'
    omega
  · have := textV_le (fR7 s) 3000
    show ((fR7 s).textV 3000).size ≤ maxLen
    unfold maxLen
    omega
theorem openS_le (b : ByteArray) : (openS b).size ≤ b.size := by
  unfold openS
  split
  · rw [ByteArray.size_extract]; omega
  · show 0 ≤ _; omega
set_option maxRecDepth 100000 in
set_option maxHeartbeats 4000000 in
theorem fget_any (b : ByteArray) (w : World) (hb : b.size ≤ 1000000000) :
    Calls Tryd.prog 36 #[.string b] w fun e w' => e = .returned (.tuple #[(gotF b).agg, .int .i64 (gotFE b)]) ∧ Below w.heap.size w w' := by
  have HB := Lib.hid hb
  have HB2 := Lib.hid (show (openS b).size ≤ 1000000000 by have := openS_le b; omega)
  clear hb
  go_enter Tryd.func36, Tryd.ntmps36
  go_wp2_with fail
  refine (open_any b HB.out _).mono ?_
  rintro e w1 ⟨rfl, hb1⟩
  have hb0 := (Below.refl w.heap.size w).alloc (Nat.le_refl _) (.cells #[.int .i64 0, .int .i64 0, .int .i64 0, .int .i64 0, .int .i64 0, .int .i64 0, .string ⟨#[]⟩, .bool false] 58)
  have hz1 := (Keep.new (o := fun _ => 0) (w := w) (fun _ _ => rfl) 58 #[.int .i64 0, .int .i64 0, .int .i64 0, .int .i64 0, .int .i64 0, .int .i64 0, .string ⟨#[]⟩, .bool false]).below_ hb1
  have HZ1 := Lib.hid hz1
  have HE1 := Lib.hid (hb0.trans (hb1.mono hb0.size))
  clear hb0 hb1 hz1
  generalize hgr : w.heap.size = gR at HZ1 ⊢
  have HGQ := Lib.hid hgr
  clear hgr
  by_cases ho : openE b.data.toList = 0
  · have HO := Lib.hid ho
    have hos : openS b = rest4 b := if_pos ho
    rw [ho, hos]
    obtain ⟨s, hs⟩ : ∃ s, s = rest4 b := ⟨_, rfl⟩
    rw [hos, ← hs] at HB2
    rw [← hs]
    have HS := Lib.hid hs
    clear ho hos hs
    go_wp2_with fail
    refine (newreader_any (fun _ => 0) 1 s _ HB2.out).mono ?_
    rintro e w2 ⟨p, o1, rfl, hr1, hb2, hs1⟩
    have HG2 := Lib.hid (show Gs 47 o1 w w2 p ⟨s, 0⟩ from ⟨hr1, ((Env.start w).below_ HE1.out).step (hs1 (fun _ => False)) (by simp), (show Fut (fun _ => 0) w1 from fun _ _ => rfl).step (hs1 (fun _ => False))⟩)
    have HZ2 := Lib.hid (HZ1.out.step (hs1 (fun _ => False)) (by simp))
    clear hr1 hb2 hs1 HZ1 HE1
    obtain ⟨fa, hfa⟩ : ∃ v, v = (⟨s, 0⟩ : Rd).numV 2 := ⟨_, rfl⟩
    have hva := numV_lt (⟨s, 0⟩ : Rd) 2 (by omega)
    rw [← hfa] at hva
    have hfa6 : fa < 65536 := by simpa using hva
    have HFA := Lib.hid hfa
    clear hfa hva
    go_wp2_with fail
    refine (rnum_g HG2.out 2).mono ?_
    rintro e w3 ⟨rfl, o3, hg3, hs3⟩
    rw [← HFA.out]
    have HG3 := Lib.hid (show Gs 47 o3 w w3 p (fR1 s) from hg3)
    have HZ3 := Lib.hid (HZ2.out.step hs3 only10)
    clear hg3 hs3 HG2 HZ2
    obtain ⟨fb, hfb⟩ : ∃ v, v = (fR1 s).numV 2 := ⟨_, rfl⟩
    have hvb := numV_lt (fR1 s) 2 (by omega)
    rw [← hfb] at hvb
    have hfb6 : fb < 65536 := by simpa using hvb
    have HFB := Lib.hid hfb
    clear hfb hvb
    go_wp2_with fail
    refine (rnum_g HG3.out 2).mono ?_
    rintro e w4 ⟨rfl, o4, hg4, hs4⟩
    rw [← HFB.out]
    have HG4 := Lib.hid (show Gs 47 o4 w w4 p (rF s 0) by rw [rF0]; exact hg4)
    have HZ4 := Lib.hid (HZ3.out.step hs4 only10)
    clear hg4 hs4 HG3 HZ3
    go_upto_region 6 with (fail)
    have hg5 := HG4.out.alloc (.cells #[.int .i64 (fa : Int), .int .i64 (fb : Int), .int .i64 0, .int .i64 0, .int .i64 0, .int .i64 0, .string ⟨#[]⟩, .bool false] 58)
    have hz5 := HZ4.out.alloc (.cells #[.int .i64 (fa : Int), .int .i64 (fb : Int), .int .i64 0, .int .i64 0, .int .i64 0, .int .i64 0, .string ⟨#[]⟩, .bool false] 58)
    have hm5 := Keep.new HG4.out.fut 58 #[.int .i64 (fa : Int), .int .i64 (fb : Int), .int .i64 0, .int .i64 0, .int .i64 0, .int .i64 0, .string ⟨#[]⟩, .bool false]
    have HLE := Lib.hid (HG4.out.env.low.size)
    have HRM := Lib.hid (HZ4.out.1.lt)
    generalize w4.alloc (.cells #[.int .i64 (fa : Int), .int .i64 (fb : Int), .int .i64 0, .int .i64 0, .int .i64 0, .int .i64 0, .string ⟨#[]⟩, .bool false] 58) = W5 at hg5 hz5 hm5 ⊢
    generalize w4.heap.size = gM at hm5 HLE HRM ⊢
    have HG5 := Lib.hid hg5
    have HZ5 := Lib.hid hz5
    have HM5 := Lib.hid hm5
    clear hg5 hz5 hm5 HG4 HZ4
    go_wp2_with fail
    have hg6 := HG5.out.alloc (.cells #[.pointer (some ⟨gM, 2, none⟩), .pointer (some ⟨gM, 3, none⟩), .pointer (some ⟨gM, 4, none⟩), .pointer (some ⟨gM, 5, none⟩)] 81)
    have hz6 := HZ5.out.alloc (.cells #[.pointer (some ⟨gM, 2, none⟩), .pointer (some ⟨gM, 3, none⟩), .pointer (some ⟨gM, 4, none⟩), .pointer (some ⟨gM, 5, none⟩)] 81)
    have hm6 := HM5.out.alloc (.cells #[.pointer (some ⟨gM, 2, none⟩), .pointer (some ⟨gM, 3, none⟩), .pointer (some ⟨gM, 4, none⟩), .pointer (some ⟨gM, 5, none⟩)] 81)
    have hp6 := Keep.new HG5.out.fut 81 #[.pointer (some ⟨gM, 2, none⟩), .pointer (some ⟨gM, 3, none⟩), .pointer (some ⟨gM, 4, none⟩), .pointer (some ⟨gM, 5, none⟩)]
    have HMP := Lib.hid (HM5.out.1.lt)
    generalize W5.alloc (.cells #[.pointer (some ⟨gM, 2, none⟩), .pointer (some ⟨gM, 3, none⟩), .pointer (some ⟨gM, 4, none⟩), .pointer (some ⟨gM, 5, none⟩)] 81) = W6 at hg6 hz6 hm6 hp6 ⊢
    generalize W5.heap.size = gP at hp6 HMP ⊢
    have HS6 := Lib.hid (show ∃ o, Gs 47 o w W6 p (rF s 0) ∧ Keep o W6 gR 58 #[.int .i64 0, .int .i64 0, .int .i64 0, .int .i64 0, .int .i64 0, .int .i64 0, .string ⟨#[]⟩, .bool false] ∧ Keep o W6 gM 58 #[.int .i64 (fa : Int), .int .i64 (fb : Int), .int .i64 0, .int .i64 0, .int .i64 0, .int .i64 0, .string ⟨#[]⟩, .bool false] ∧ Keep o W6 gP 81 #[.pointer (some ⟨gM, 2, none⟩), .pointer (some ⟨gM, 3, none⟩), .pointer (some ⟨gM, 4, none⟩), .pointer (some ⟨gM, 5, none⟩)] from ⟨_, hg6, hz6, hm6, hp6⟩)
    clear hg6 hz6 hm6 hp6 HG5 HZ5 HM5
    go_loopw [37] (fun t37 wr => ∃ (k : Nat) (o : Nat → Nat), k ≤ 4 ∧ t37 = .int .i64 k ∧ Gs 47 o w wr p (rF s k) ∧ Keep o wr gR 58 #[.int .i64 0, .int .i64 0, .int .i64 0, .int .i64 0, .int .i64 0, .int .i64 0, .string ⟨#[]⟩, .bool false] ∧ Keep o wr gM 58 #[.int .i64 (fa : Int), .int .i64 (fb : Int), .int .i64 (fq s 0 k), .int .i64 (fq s 1 k), .int .i64 (fq s 2 k), .int .i64 (fq s 3 k), .string ⟨#[]⟩, .bool false] ∧ Keep o wr gP 81 #[.pointer (some ⟨gM, 2, none⟩), .pointer (some ⟨gM, 3, none⟩), .pointer (some ⟨gM, 4, none⟩), .pointer (some ⟨gM, 5, none⟩)]) (fun t37 _ => 4 - (intOf t37).toNat)
    case atStart =>
      obtain ⟨o4, h1, h2, h3, h4⟩ := HS6.out
      exact ⟨0, o4, by omega, rfl, h1, h2, h3, h4⟩
    case round =>
      clear HS6
      obtain ⟨k, o5, hk, rfl, hg, hz, hm, hp⟩ := hrel
      have HG := Lib.hid hg
      have HZ := Lib.hid hz
      have HM := Lib.hid hm
      have HP := Lib.hid hp
      clear hg hz hm hp
      by_cases hlt : k < 4
      · have hltI : (k : Int) < 4 := by omega
        have hpc : wr.cell? ⟨gP, k, none⟩ = some (.pointer (some ⟨gM, k + 2, none⟩)) := (HP.out.1.cell k).trans (fptrs_get gM hlt)
        obtain ⟨v, hv⟩ : ∃ v, v = (rF s k).numV 8 := ⟨_, rfl⟩
        obtain ⟨u, hu⟩ : ∃ u, u = wrap64 (v : Int) := ⟨_, rfl⟩
        have hwu : IntKind.i64.wrap (v : Int) = u := by rw [wrap_is64, hu]
        have hwu2 : wrap64 (v : Int) = u := hu.symm
        have HV := Lib.hid hv
        have HU := Lib.hid hu
        clear hv hu
        go_wp2_with fail
        refine (rnum_g HG.out 8).mono ?_
        rintro e w7 ⟨rfl, o6, hg6, hs6⟩
        rw [← HV.out]
        have HG6 := Lib.hid hg6
        have HZ6 := Lib.hid (HZ.out.step hs6 only10)
        have HM6 := Lib.hid (HM.out.step hs6 only10)
        have HP6 := Lib.hid (HP.out.step hs6 only10)
        clear hg6 hs6 hpc
        obtain ⟨x, hx⟩ := frow_get s hlt fa fb (.string ⟨#[]⟩) (.bool false)
        have hxc : w7.cell? ⟨gM, k + 2, none⟩ = some (.int .i64 x) := (HM6.out.1.cell (k + 2)).trans hx
        have hxf := HM6.out.1.frozen (k + 2)
        clear hx
        go_wp2_with fail
        clear hwu hwu2
        have hset := frow_set s hlt fa fb (.string ⟨#[]⟩) (.bool false)
        rw [← HV.out, ← HU.out] at hset
        have hm7 := HM6.out.set_ (k + 2) (.int .i64 u)
        rw [hset] at hm7
        go_roundw
        case rel =>
          exact ⟨k + 1, o6, by omega, by go_num, HG6.out.setCell HM6.out.2 HLE.out (k + 2) _, HZ6.out.far (Nat.ne_of_lt HRM.out) _ _, hm7, HP6.out.far (Nat.ne_of_lt HMP.out).symm _ _⟩
        case measure => simp [intOf]; omega
      · have hltI : ¬ (k : Int) < 4 := by omega
        obtain rfl : k = 4 := by omega
        have hm4 := HM.out
        rw [fq_lt s (show 0 < 4 by omega), fq_lt s (show 1 < 4 by omega), fq_lt s (show 2 < 4 by omega), fq_lt s (show 3 < 4 by omega)] at hm4
        obtain ⟨n1, h1⟩ : ∃ n : Int, n = wrap64 ((rF s 0).numV 8 : Int) := ⟨_, rfl⟩
        obtain ⟨n2, h2⟩ : ∃ n : Int, n = wrap64 ((rF s 1).numV 8 : Int) := ⟨_, rfl⟩
        obtain ⟨n3, h3⟩ : ∃ n : Int, n = wrap64 ((rF s 2).numV 8 : Int) := ⟨_, rfl⟩
        obtain ⟨n4, h4⟩ : ∃ n : Int, n = wrap64 ((rF s 3).numV 8 : Int) := ⟨_, rfl⟩
        rw [← h1, ← h2, ← h3, ← h4] at hm4
        have HN := Lib.hid (show n1 = wrap64 ((rF s 0).numV 8 : Int) ∧ n2 = wrap64 ((rF s 1).numV 8 : Int) ∧ n3 = wrap64 ((rF s 2).numV 8 : Int) ∧ n4 = wrap64 ((rF s 3).numV 8 : Int) from ⟨h1, h2, h3, h4⟩)
        clear HM HP HMP h1 h2 h3 h4
        have HM := Lib.hid hm4
        clear hm4
        obtain ⟨fh, hfh⟩ : ∃ v, v = (fR6 s).flagV := ⟨_, rfl⟩
        have HFH := Lib.hid hfh
        clear hfh
        go_wp2_with fail
        rw [rF4] at HG
        refine (rflag_g HG.out).mono ?_
        rintro e w6 ⟨rfl, o6, hg6, hs6⟩
        rw [← HFH.out]
        have HG6 := Lib.hid (show Gs 47 o6 w w6 p (fR7 s) from hg6)
        have HZ6 := Lib.hid (HZ.out.step hs6 only10)
        have HM6 := Lib.hid (HM.out.step hs6 only10)
        clear hg6 hs6
        have hxc := HM6.out.1.cell 7
        have hxf := HM6.out.1.frozen 7
        simp at hxc
        go_upto_region 12 with (fail)
        have hg7 := HG6.out.setCell HM6.out.2 HLE.out 7 (.bool fh)
        have hz7 := HZ6.out.far (Nat.ne_of_lt HRM.out) 7 (.bool fh)
        have hm7 : Keep o6 (w6.setCell ⟨gM, 7, none⟩ (.bool fh)) gM 58 #[.int .i64 (fa : Int), .int .i64 (fb : Int), .int .i64 n1, .int .i64 n2, .int .i64 n3, .int .i64 n4, .string ⟨#[]⟩, .bool fh] := HM6.out.set_ 7 (.bool fh)
        generalize w6.setCell ⟨gM, 7, none⟩ (.bool fh) = W7 at hg7 hz7 hm7 ⊢
        have HG7 := Lib.hid hg7
        have HZ7 := Lib.hid hz7
        have HM7 := Lib.hid hm7
        clear hg7 hz7 hm7 HG6 HZ6 HM6 hxc hxf HG HZ HM
        obtain ⟨D, hD⟩ : ∃ v, v = (fR7 s).textV 3000 := ⟨_, rfl⟩
        have HD := Lib.hid hD
        clear hD
        go_wp2_with fail
        refine (rtext_g HG7.out 3000).mono ?_
        rintro e w8 ⟨rfl, o8, hg8, hs8⟩
        rw [← HD.out]
        have HG8 := Lib.hid (show Gs 47 o8 w w8 p (fR8 s) from hg8)
        have HZ8 := Lib.hid (HZ7.out.step hs8 only10)
        have HM8 := Lib.hid (HM7.out.step hs8 only10)
        clear hg8 hs8
        have hxc := HM8.out.1.cell 6
        have hxf := HM8.out.1.frozen 6
        simp at hxc
        go_upto_region 13 with (fail)
        have hg9 := HG8.out.setCell HM8.out.2 HLE.out 6 (.string D)
        have hz9 := HZ8.out.far (Nat.ne_of_lt HRM.out) 6 (.string D)
        have hm9 : Keep o8 (w8.setCell ⟨gM, 6, none⟩ (.string D)) gM 58 #[.int .i64 (fa : Int), .int .i64 (fb : Int), .int .i64 n1, .int .i64 n2, .int .i64 n3, .int .i64 n4, .string D, .bool fh] := HM8.out.set_ 6 (.string D)
        generalize w8.setCell ⟨gM, 6, none⟩ (.string D) = W9 at hg9 hz9 hm9 ⊢
        have HG9 := Lib.hid hg9
        have HZ9 := Lib.hid hz9
        have HM9 := Lib.hid hm9
        clear hg9 hz9 hm9 HG8 HZ8 HM8 hxc hxf HG7 HZ7 HM7
        have hgf : getF s = ⟨fa, fb, n1, n2, n3, n4, D, fh⟩ := by
          obtain ⟨q1, q2, q3, q4⟩ := HN.out
          rw [q1, q2, q3, q4, HFA.out, HFB.out, HD.out, HFH.out, getF_eq]
        have HGF := Lib.hid hgf
        clear hgf
        obtain ⟨ev, hev⟩ : ∃ v, v = (fR8 s).endV := ⟨_, rfl⟩
        have HEV := Lib.hid hev
        clear hev
        go_wp2_with fail
        refine (rend_any HG9.out.rd).mono ?_
        rintro e w11 ⟨rfl, hb11⟩
        rw [← HEV.out]
        have HG11 := Lib.hid (HG9.out.below_ hb11)
        have HZ11 := Lib.hid (HZ9.out.below_ hb11)
        have HM11 := Lib.hid (HM9.out.below_ hb11)
        clear hb11 HG9 HZ9 HM9
        have zb := HZ11.out.1
        obtain ⟨z0, z1, z2, z3, z4, z5, z6, z7⟩ := zb.eight
        have y0 := zb.frozen 0
        have y1 := zb.frozen 1
        have y2 := zb.frozen 2
        have y3 := zb.frozen 3
        have y4 := zb.frozen 4
        have y5 := zb.frozen 5
        have y6 := zb.frozen 6
        have y7 := zb.frozen 7
        clear zb
        have hog : ∀ x y, gotF b = x → gotFE b = y → Ending.returned (.tuple #[x.agg, .int .i64 y]) = .returned (.tuple #[(gotF b).agg, .int .i64 (gotFE b)]) := fun x y h1 h2 => by rw [h1, h2]
        have HOG := Lib.hid hog
        have hgg : gotF b = frF s b ∧ gotFE b = frE s b := by
          unfold gotF gotFE
          rw [HO.out, if_neg (by simp), if_neg (by simp), HS.out]
          exact ⟨rfl, rfl⟩
        have HGG := Lib.hid hgg
        clear hog hgg
        by_cases he : ev = 0
        · have HE := Lib.hid he
          have t1 : (ev != 0) = false := by rw [he]; rfl
          have HE8 := Lib.hid (show (fR8 s).endV = 0 by rw [← HEV.out]; exact he)
          obtain ⟨x0, x1, x2, x3, x4, x5, x6, x7⟩ := HM11.out.1.eight
          have hag : Fr.agg ⟨fa, fb, n1, n2, n3, n4, D, fh⟩ = .agg #[.int .i64 (fa : Int), .int .i64 (fb : Int), .int .i64 n1, .int .i64 n2, .int .i64 n3, .int .i64 n4, .string D, .bool fh] := rfl
          have HAG := Lib.hid hag
          have HI := Lib.hid (show (Fr.mk fa fb n1 n2 n3 n4 D fh).i64s by rw [← HGF.out]; exact getF_i64s s)
          clear he hag
          go_wp2_with fail
          rw [← HAG.out]
          refine (fput_any ⟨fa, fb, n1, n2, n3, n4, D, fh⟩ w11 HI.out).mono ?_
          rintro e w12 ⟨rfl, hb12⟩
          try rw [HAG.out]
          have HG12 := Lib.hid (HG11.out.below_ hb12)
          have HZ12 := Lib.hid (HZ11.out.below_ hb12)
          have HM12 := Lib.hid (HM11.out.below_ hb12)
          clear hb12 x0 x1 x2 x3 x4 x5 x6 x7 z0 z1 z2 z3 z4 z5 z6 z7 y0 y1 y2 y3 y4 y5 y6 y7
          have zb := HZ12.out.1
          obtain ⟨z0, z1, z2, z3, z4, z5, z6, z7⟩ := zb.eight
          have y0 := zb.frozen 0
          have y1 := zb.frozen 1
          have y2 := zb.frozen 2
          have y3 := zb.frozen 3
          have y4 := zb.frozen 4
          have y5 := zb.frozen 5
          have y6 := zb.frozen 6
          have y7 := zb.frozen 7
          clear zb
          obtain ⟨x0, x1, x2, x3, x4, x5, x6, x7⟩ := HM12.out.1.eight
          have hne : gM ≠ gR := (Nat.ne_of_lt HRM.out).symm
          obtain ⟨F, hF⟩ : ∃ F, F = Fr.mk fa fb n1 n2 n3 n4 D fh := ⟨_, rfl⟩
          rw [← hF] at HGF ⊢
          have HF := Lib.hid hF
          clear hF
          by_cases hok : F.wrongE = 0
          · have p1 : F.putS = str (sealL F.body) := if_pos hok
            rw [p1, hok]
            clear p1
            by_cases hbe : str (sealL F.body) = b
            · rw [hbe]
              have hgd : goodF s b := by unfold goodF; rw [HGF.out]; exact ⟨hok, hbe⟩
              have e1 : gotF b = F := by rw [HGG.out.1]; unfold frF; rw [if_pos ⟨HE8.out, hgd⟩, HGF.out]
              have e2 : gotFE b = 0 := by rw [HGG.out.2]; unfold frE; rw [if_neg (by rw [HE8.out]; simp), if_pos hgd]
              have E1 := Lib.hid e1
              have E2 := Lib.hid e2
              have t2 : (b.toList == b.toList) = true := beq_self_eq_true _
              clear hbe e1 e2 hok hgd
              go_wp2_with fail
              have hg13 := HG12.out.set8 HZ12.out.2 (by have := HGQ.out; omega) (.int .i64 (fa : Int)) (.int .i64 (fb : Int)) (.int .i64 n1) (.int .i64 n2) (.int .i64 n3) (.int .i64 n4) (.string D) (.bool fh)
              have hz13 := HZ12.out.set8 (.int .i64 (fa : Int)) (.int .i64 (fb : Int)) (.int .i64 n1) (.int .i64 n2) (.int .i64 n3) (.int .i64 n4) (.string D) (.bool fh)
              generalize ((((((((w12.setCell ⟨gR, 0, none⟩ (.int .i64 (fa : Int))).setCell ⟨gR, 1, none⟩ (.int .i64 (fb : Int))).setCell ⟨gR, 2, none⟩ (.int .i64 n1)).setCell ⟨gR, 3, none⟩ (.int .i64 n2)).setCell ⟨gR, 4, none⟩ (.int .i64 n3)).setCell ⟨gR, 5, none⟩ (.int .i64 n4)).setCell ⟨gR, 6, none⟩ (.string D)).setCell ⟨gR, 7, none⟩ (.bool fh)) = W13 at hg13 hz13 ⊢
              obtain ⟨q0, q1, q2, q3, q4, q5, q6, q7⟩ := hz13.1.eight
              refine bodyPost_ret (v := .tuple #[.agg #[.int .i64 (fa : Int), .int .i64 (fb : Int), .int .i64 n1, .int .i64 n2, .int .i64 n3, .int .i64 n4, .string D, .bool fh], .int .i64 0]) (by simp [results, Tryd.results36, go_sem, q0, q1, q2, q3, q4, q5, q6, q7]) rfl ⟨?_, hg13.env.low⟩
              rw [← HOG.out F 0 E1.out E2.out, HF.out]
              rfl
            · have hgd : ¬ goodF s b := fun h => hbe (by have := h.2; rwa [HGF.out] at this)
              have e1 : gotF b = Fr.zero := by rw [HGG.out.1]; unfold frF; rw [if_neg (fun h => hgd h.2)]
              have e2 : gotFE b = 4 := by rw [HGG.out.2]; unfold frE; rw [if_neg (by rw [HE8.out]; simp), if_neg hgd]
              have E1 := Lib.hid e1
              have E2 := Lib.hid e2
              obtain ⟨S, hS⟩ : ∃ S, S = str (sealL F.body) := ⟨_, rfl⟩
              rw [← hS] at hbe ⊢
              have t2 := str_neq hbe
              clear hbe e1 e2 hok hS hgd
              go_wp2_with fail
              have hg13 := HG12.out.set8 HZ12.out.2 (by have := HGQ.out; omega) (.int .i64 0) (.int .i64 0) (.int .i64 0) (.int .i64 0) (.int .i64 0) (.int .i64 0) (.string ⟨#[]⟩) (.bool false)
              have hz13 := HZ12.out.set8 (.int .i64 0) (.int .i64 0) (.int .i64 0) (.int .i64 0) (.int .i64 0) (.int .i64 0) (.string ⟨#[]⟩) (.bool false)
              generalize ((((((((w12.setCell ⟨gR, 0, none⟩ (.int .i64 0)).setCell ⟨gR, 1, none⟩ (.int .i64 0)).setCell ⟨gR, 2, none⟩ (.int .i64 0)).setCell ⟨gR, 3, none⟩ (.int .i64 0)).setCell ⟨gR, 4, none⟩ (.int .i64 0)).setCell ⟨gR, 5, none⟩ (.int .i64 0)).setCell ⟨gR, 6, none⟩ (.string ⟨#[]⟩)).setCell ⟨gR, 7, none⟩ (.bool false)) = W13 at hg13 hz13 ⊢
              obtain ⟨q0, q1, q2, q3, q4, q5, q6, q7⟩ := hz13.1.eight
              refine bodyPost_ret (v := .tuple #[.agg #[.int .i64 0, .int .i64 0, .int .i64 0, .int .i64 0, .int .i64 0, .int .i64 0, .string ⟨#[]⟩, .bool false], .int .i64 4]) (by simp [results, Tryd.results36, go_sem, q0, q1, q2, q3, q4, q5, q6, q7]) rfl ⟨?_, hg13.env.low⟩
              exact HOG.out Fr.zero 4 E1.out E2.out
          · have p1 : F.putS = ⟨#[]⟩ := if_neg hok
            rw [p1]
            have hgd : ¬ goodF s b := fun h => hok (by have := h.1; rwa [HGF.out] at this)
            have e1 : gotF b = Fr.zero := by rw [HGG.out.1]; unfold frF; rw [if_neg (fun h => hgd h.2)]
            have e2 : gotFE b = 4 := by rw [HGG.out.2]; unfold frE; rw [if_neg (by rw [HE8.out]; simp), if_neg hgd]
            have E1 := Lib.hid e1
            have E2 := Lib.hid e2
            obtain ⟨E, hE⟩ : ∃ E, E = F.wrongE := ⟨_, rfl⟩
            rw [← hE] at hok ⊢
            have t2 : (E != 0) = true := bne_iff_ne.2 hok
            clear p1 e1 e2 hok hE hgd
            go_wp2_with fail
            have hg13 := HG12.out.set8 HZ12.out.2 (by have := HGQ.out; omega) (.int .i64 0) (.int .i64 0) (.int .i64 0) (.int .i64 0) (.int .i64 0) (.int .i64 0) (.string ⟨#[]⟩) (.bool false)
            have hz13 := HZ12.out.set8 (.int .i64 0) (.int .i64 0) (.int .i64 0) (.int .i64 0) (.int .i64 0) (.int .i64 0) (.string ⟨#[]⟩) (.bool false)
            generalize ((((((((w12.setCell ⟨gR, 0, none⟩ (.int .i64 0)).setCell ⟨gR, 1, none⟩ (.int .i64 0)).setCell ⟨gR, 2, none⟩ (.int .i64 0)).setCell ⟨gR, 3, none⟩ (.int .i64 0)).setCell ⟨gR, 4, none⟩ (.int .i64 0)).setCell ⟨gR, 5, none⟩ (.int .i64 0)).setCell ⟨gR, 6, none⟩ (.string ⟨#[]⟩)).setCell ⟨gR, 7, none⟩ (.bool false)) = W13 at hg13 hz13 ⊢
            obtain ⟨q0, q1, q2, q3, q4, q5, q6, q7⟩ := hz13.1.eight
            refine bodyPost_ret (v := .tuple #[.agg #[.int .i64 0, .int .i64 0, .int .i64 0, .int .i64 0, .int .i64 0, .int .i64 0, .string ⟨#[]⟩, .bool false], .int .i64 4]) (by simp [results, Tryd.results36, go_sem, q0, q1, q2, q3, q4, q5, q6, q7]) rfl ⟨?_, hg13.env.low⟩
            exact HOG.out Fr.zero 4 E1.out E2.out
        · have t1 : (ev != 0) = true := bne_iff_ne.2 he
          have e1 : gotF b = Fr.zero := by rw [HGG.out.1]; unfold frF; rw [if_neg (fun h => he (by rw [HEV.out]; exact h.1))]
          have e2 : gotFE b = ev := by rw [HGG.out.2]; unfold frE; rw [if_pos (by rw [← HEV.out]; exact he), HEV.out]
          have E1 := Lib.hid e1
          have E2 := Lib.hid e2
          clear he e1 e2
          go_wp2_with fail
          have hg13 := HG11.out.set8 HZ11.out.2 (by have := HGQ.out; omega) (.int .i64 0) (.int .i64 0) (.int .i64 0) (.int .i64 0) (.int .i64 0) (.int .i64 0) (.string ⟨#[]⟩) (.bool false)
          have hz13 := HZ11.out.set8 (.int .i64 0) (.int .i64 0) (.int .i64 0) (.int .i64 0) (.int .i64 0) (.int .i64 0) (.string ⟨#[]⟩) (.bool false)
          generalize ((((((((w11.setCell ⟨gR, 0, none⟩ (.int .i64 0)).setCell ⟨gR, 1, none⟩ (.int .i64 0)).setCell ⟨gR, 2, none⟩ (.int .i64 0)).setCell ⟨gR, 3, none⟩ (.int .i64 0)).setCell ⟨gR, 4, none⟩ (.int .i64 0)).setCell ⟨gR, 5, none⟩ (.int .i64 0)).setCell ⟨gR, 6, none⟩ (.string ⟨#[]⟩)).setCell ⟨gR, 7, none⟩ (.bool false)) = W13 at hg13 hz13 ⊢
          obtain ⟨q0, q1, q2, q3, q4, q5, q6, q7⟩ := hz13.1.eight
          refine bodyPost_ret (v := .tuple #[.agg #[.int .i64 0, .int .i64 0, .int .i64 0, .int .i64 0, .int .i64 0, .int .i64 0, .string ⟨#[]⟩, .bool false], .int .i64 ev]) (by simp [results, Tryd.results36, go_sem, q0, q1, q2, q3, q4, q5, q6, q7]) rfl ⟨?_, hg13.env.low⟩
          exact HOG.out Fr.zero ev E1.out E2.out
  · have t1 : (openE b.data.toList != 0) = true := bne_iff_ne.2 ho
    have hos : openS b = ⟨#[]⟩ := if_neg ho
    rw [hos]
    have e1 : gotF b = Fr.zero := if_pos ho
    have e2 : gotFE b = openE b.data.toList := if_pos ho
    rw [← e2] at t1 ⊢
    have E1 := Lib.hid e1
    clear hos ho e1 e2
    obtain ⟨z0, z1, z2, z3, z4, z5, z6, z7⟩ := HZ1.out.1.eight
    have y0 := HZ1.out.1.frozen 0
    have y1 := HZ1.out.1.frozen 1
    have y2 := HZ1.out.1.frozen 2
    have y3 := HZ1.out.1.frozen 3
    have y4 := HZ1.out.1.frozen 4
    have y5 := HZ1.out.1.frozen 5
    have y6 := HZ1.out.1.frozen 6
    have y7 := HZ1.out.1.frozen 7
    go_wp2_with fail
    have hz13 := HZ1.out.set8 (.int .i64 0) (.int .i64 0) (.int .i64 0) (.int .i64 0) (.int .i64 0) (.int .i64 0) (.string ⟨#[]⟩) (.bool false)
    have hb13 : Below w.heap.size w ((((((((w1.setCell ⟨gR, 0, none⟩ (.int .i64 0)).setCell ⟨gR, 1, none⟩ (.int .i64 0)).setCell ⟨gR, 2, none⟩ (.int .i64 0)).setCell ⟨gR, 3, none⟩ (.int .i64 0)).setCell ⟨gR, 4, none⟩ (.int .i64 0)).setCell ⟨gR, 5, none⟩ (.int .i64 0)).setCell ⟨gR, 6, none⟩ (.string ⟨#[]⟩)).setCell ⟨gR, 7, none⟩ (.bool false)) := (((((((HE1.out.setCell (p := ⟨gR, 0, none⟩) (by have := HGQ.out; show w.heap.size ≤ gR; omega) _).setCell (p := ⟨gR, 1, none⟩) (by have := HGQ.out; show w.heap.size ≤ gR; omega) _).setCell (p := ⟨gR, 2, none⟩) (by have := HGQ.out; show w.heap.size ≤ gR; omega) _).setCell (p := ⟨gR, 3, none⟩) (by have := HGQ.out; show w.heap.size ≤ gR; omega) _).setCell (p := ⟨gR, 4, none⟩) (by have := HGQ.out; show w.heap.size ≤ gR; omega) _).setCell (p := ⟨gR, 5, none⟩) (by have := HGQ.out; show w.heap.size ≤ gR; omega) _).setCell (p := ⟨gR, 6, none⟩) (by have := HGQ.out; show w.heap.size ≤ gR; omega) _).setCell (p := ⟨gR, 7, none⟩) (by have := HGQ.out; show w.heap.size ≤ gR; omega) _
    generalize ((((((((w1.setCell ⟨gR, 0, none⟩ (.int .i64 0)).setCell ⟨gR, 1, none⟩ (.int .i64 0)).setCell ⟨gR, 2, none⟩ (.int .i64 0)).setCell ⟨gR, 3, none⟩ (.int .i64 0)).setCell ⟨gR, 4, none⟩ (.int .i64 0)).setCell ⟨gR, 5, none⟩ (.int .i64 0)).setCell ⟨gR, 6, none⟩ (.string ⟨#[]⟩)).setCell ⟨gR, 7, none⟩ (.bool false)) = W13 at hz13 hb13 ⊢
    obtain ⟨q0, q1, q2, q3, q4, q5, q6, q7⟩ := hz13.1.eight
    refine bodyPost_ret (v := .tuple #[.agg #[.int .i64 0, .int .i64 0, .int .i64 0, .int .i64 0, .int .i64 0, .int .i64 0, .string ⟨#[]⟩, .bool false], .int .i64 (gotFE b)]) (by simp [results, Tryd.results36, go_sem, q0, q1, q2, q3, q4, q5, q6, q7]) rfl ⟨?_, hb13⟩
    rw [E1.out]
    rfl
end Go.Proofs.YtoploimpfhnanaaDoor
