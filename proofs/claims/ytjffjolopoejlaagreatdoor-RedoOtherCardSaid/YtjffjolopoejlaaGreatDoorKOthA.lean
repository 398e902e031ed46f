/- RedoOther: a log of another epoch is not done again. -/
import Derived.Test.YtjffjolopoejlaaGreatDoorKDiskG
namespace Go.Proofs.YtjffjolopoejlaaGreatDoor
open Go.RowKit

set_option maxRecDepth 100000 in
set_option maxHeartbeats 8000000 in
theorem redoOther_any (l : List LOp) (vs : List (Value × Value)) (a1 : Int) (W : World) (A0 : Option Addr) (cap0 : Nat) (hrd0 : OpsRd W A0 l vs) (hln0 : l.length ≤ maxLen) (hin : ∀ o ∈ l, o.InB) (ha1 : 0 ≤ a1 ∧ a1 ≤ 18446744073709551615) :
    Calls Tryz.prog 3 #[.slice A0 l.length cap0, .int .u64 a1] W fun e w' => e = .returned (.bool true) ∧ Below W.heap.size W w' := by
  obtain ⟨of_, rfl⟩ : ∃ of_ : Nat, a1 = of_ := ⟨a1.toNat, by omega⟩
  have HOF := Lib.hid (show of_ < 18446744073709551616 by omega)
  have HR0 := Lib.hid hrd0
  have HIN := Lib.hid hin
  have HL0 := Lib.hid hln0
  clear hrd0 hin hln0 ha1
  go_enter Tryz.func3, Tryz.ntmps3
  go_upto_region 1 with (fail)
  go_wp2_with fail
  refine (light12_any W A0 cap0 l vs HR0.out HL0.out HIN.out).mono ?_
  rintro e w0 ⟨b, rfl, hb4, hb0⟩
  have HB0 := Lib.hid hb0
  have HS0 := Lib.hid (Step.of_below (fun _ => 0) nz hb0)
  have HF0 := Lib.hid (show Fut (fun _ => 0) w0 from fun _ _ => rfl)
  clear hb0
  cases b with
  | false =>
    go_wp2_with fail
    refine (alive13_any HF0.out).mono ?_
    rintro e w1 ⟨rfl, o1, hs⟩
    go_wp2_with fail
    go_ret
    exact ⟨rfl, (HS0.out.trans hs).below (fun _ _ h => h rfl) (Nat.le_refl _)⟩
  | true =>
  have HLL := Lib.hid (hb4 rfl)
  have hN0 : (l.length : Int) ≤ 60 := by have := HLL.out.1; omega
  clear hb4
  by_cases h9 : of_ = 9
  · subst h9
    go_wp2_with fail
    refine (alive13_any HF0.out).mono ?_
    rintro e w1 ⟨rfl, o1, hs⟩
    go_wp2_with fail
    go_ret
    exact ⟨rfl, (HS0.out.trans hs).below (fun _ _ h => h rfl) (Nat.le_refl _)⟩
  have H9 := Lib.hid h9
  have b9 : ((of_ : Int) == 9) = false := by simp; omega
  clear h9
  go_wp2_with fail
  clear b9
  go_loopg [5] l.length (fun n t5 wr => ∃ i : Nat, n + i = l.length ∧ t5 = .int .i64 (i : Nat) ∧ wr = w0 ∧ ∀ x ∈ l.take i, x.kind = 5 → x.d.kind ≠ 1)
  case atStart => exact ⟨0, by omega, rfl, rfl, fun x hx => by simp at hx⟩
  case round =>
    obtain ⟨i, hni, rfl, rfl, hq⟩ := hrel
    have HNI := Lib.hid hni
    have HQ := Lib.hid hq
    clear hni hq
    by_cases hlt : i < l.length
    · have hltI : (i : Int) < (l.length : Int) := by omega
      obtain ⟨x, hx⟩ : ∃ x, l[i]? = some x := ⟨_, List.getElem?_eq_getElem hlt⟩
      have HX := Lib.hid hx
      obtain ⟨B, cp, C, cq, hvs, _, _⟩ := HR0.out.at_ hx
      obtain ⟨ad, rfl, hc⟩ := (HR0.out.below_ HB0.out).row hx hvs
      have y0 : wr.cell? (ad.add (i * 12)) = some (.int .i64 x.kind) := hc 0 _ rfl
      have y4 : wr.cell? ⟨(ad.add (i * 12)).block, (ad.add (i * 12)).off + 4, none⟩ = some (.int .i64 x.d.kind) := hc 4 _ rfl
      clear hx hvs hc
      have hnext : (x.kind = 5 → x.d.kind ≠ 1) → ∀ y ∈ l.take (i + 1), y.kind = 5 → y.d.kind ≠ 1 := by
        intro h y hy
        rw [List.take_add_one, HX.out] at hy
        rcases List.mem_append.1 hy with hy | hy
        · exact HQ.out y hy
        · rw [List.mem_singleton.1 (show y ∈ [x] from hy)]
          exact h
      have HNX := Lib.hid hnext
      clear hnext
      by_cases k5 : x.kind = 5
      · rw [k5] at y0
        by_cases k1 : x.d.kind = 1
        · rw [k1] at y4
          go_wp2_with fail
          refine (alive13_any HF0.out).mono ?_
          rintro e w1 ⟨rfl, o1, hs⟩
          go_wp2_with fail
          go_ret
          exact ⟨rfl, (HS0.out.trans hs).below (fun _ _ h => h rfl) (Nat.le_refl _)⟩
        · have HK := Lib.hid k1
          have b1 : (x.d.kind == 1) = false := by simp [k1]
          clear k1
          go_wp2_with fail
          go_roundg (l.length - (i + 1))
          case measure => have := HNI.out; omega
          case rel => exact ⟨i + 1, by omega, by go_num, rfl, HNX.out (fun _ => HK.out)⟩
      · have HK := Lib.hid k5
        have b5 : (x.kind == 5) = false := by simp [k5]
        clear k5
        go_wp2_with fail
        go_roundg (l.length - (i + 1))
        case measure => have := HNI.out; omega
        case rel => exact ⟨i + 1, by omega, by go_num, rfl, HNX.out (fun h => absurd h HK.out)⟩
    · have hltI : ¬ (i : Int) < (l.length : Int) := by omega
      have HQ5 := Lib.hid (show Quiet5 l by have h := HQ.out; rw [List.take_of_length_le (by omega)] at h; exact h)
      clear HQ
      go_wp2_with fail
      refine (made_any (W := W) l vs A0 cap0 HS0.out HR0.out HLL.out HIN.out).mono ?_
      rintro e w1 ⟨p, r, rfl, o1, q, s, hat, hm, hn, hf, hs⟩
      have hn := hn HQ5.out
      have hd := hat.disk
      have ht := hm.two.tame
      clear hat hm
      generalize (madeS l).D = D at hd ht hn
      have HD := Lib.hid (hd.alloc (.cells #[.int .i64 2, .int .i64 10, .int .i64 8, .int .i64 4, .int .i64 32] 37))
      have HX := Lib.hid (Keep.new hf 37 #[.int .i64 2, .int .i64 10, .int .i64 8, .int .i64 4, .int .i64 32])
      have HF := Lib.hid (hf.alloc (.cells #[.int .i64 2, .int .i64 10, .int .i64 8, .int .i64 4, .int .i64 32] 37))
      have HS := Lib.hid (hs.alloc (.cells #[.int .i64 2, .int .i64 10, .int .i64 8, .int .i64 4, .int .i64 32] 37))
      have HT := Lib.hid ht
      have HN := Lib.hid hn
      clear hd ht hn hf hs HF0 HS0
      go_upto_region 9 with (fail)
      generalize w1.alloc (.cells #[.int .i64 2, .int .i64 10, .int .i64 8, .int .i64 4, .int .i64 32] 37) = W1 at HX HD HF HS ⊢
      generalize w1.heap.size = X at HX ⊢
      have hw : IntKind.u64.wrap ((D.last : Int) + 1) = (((D.last + 1) % 18446744073709551616 : Nat) : Int) := by rw [IntKind.wrap_u64]; omega
      go_wp2_with fail
      refine (dlast_any HD.out).mono ?_
      rintro e w2 ⟨rfl, rfl⟩
      go_wp2_with fail
      first | rw [hw] | skip
      clear hw
      refine (dadmit_calm HD.out 2 ((D.last + 1) % 18446744073709551616)).mono ?_
      rintro e w3 ⟨rfl, o3, hd3, hs3⟩
      have HD3 := Lib.hid hd3
      have HT3 := Lib.hid (HT.out.admitM 2 ((D.last + 1) % 18446744073709551616))
      have HN3 := Lib.hid (HN.out.admit 2 ((D.last + 1) % 18446744073709551616))
      have HX3 := Lib.hid (HX.out.step hs3 (no_six (by omega)))
      have HF3 := Lib.hid (HF.out.step hs3)
      have HS3 := Lib.hid (HS.out.trans (hs3.mono (nz_six 1 (by omega))))
      clear hd3 hs3 HD HX HF HS HT HN
      generalize (D.admit 2 ((D.last + 1) % 18446744073709551616)).2 = D3 at HD3 HT3 HN3
      generalize (D.admit 2 ((D.last + 1) % 18446744073709551616)).1 = E
      by_cases hE : E = 0
      · subst hE
        obtain ⟨hrun, hee⟩ := HN3.out.run HT3.out.sectors H9.out 2 (D3.table 2)
        have HRUN := Lib.hid hrun
        obtain ⟨H, hH⟩ : ∃ H, D3.headE 1 = H := ⟨_, rfl⟩
        rw [hH] at hrun hee
        have HRUN := Lib.hid hrun
        clear hrun hH
        have h37 : (D3.sectors : Int) = 37 := by rw [HT3.out.sectors]; rfl
        go_wp2_with fail
        refine (dsectors_any HD3.out).mono ?_
        rintro e w4 ⟨rfl, rfl⟩
        rw [h37]
        go_wp2_with fail
        refine (dread_any HD3.out 0 37 (by rw [HT3.out.sectors]; decide) HT3.out.wf).mono ?_
        rintro e w4 ⟨rfl, hb4⟩
        have HD4 := Lib.hid (HD3.out.below_ hb4)
        have HX4 := Lib.hid (HX3.out.below_ hb4)
        have HF4 := Lib.hid (HF3.out.below hb4)
        have HS4 := Lib.hid (HS3.out.trans (Step.of_below o3 nz hb4))
        clear hb4 HD3 HX3 HF3 HS3
        go_upto_region 12 with (fail)
        obtain ⟨z0, z1, z2, z3, z4⟩ := HX4.out.drew.1.five
        have HFD := Lib.hid (HF4.out.step ((Step.refl o3 (fun _ => False) w4).drew))
        have HDE := Lib.hid (show Calls Tryz.prog 12 #[.pointer (some ⟨p, 0, none⟩), .int .i64 2] w4.drew fun e w' => e = .returned (.int .u64 (D3.table 2)) ∧ w4.drew = w' from depoch_any HD4.out.drew 2 (by omega))
        go_region_held3 (fun w' => w'.cell? ⟨X, 0, none⟩ = some (.int .i64 2) ∧ w'.cell? ⟨X, 1, none⟩ = some (.int .i64 10) ∧ w'.cell? ⟨X, 2, none⟩ = some (.int .i64 8) ∧ w'.cell? ⟨X, 3, none⟩ = some (.int .i64 4) ∧ w'.cell? ⟨X, 4, none⟩ = some (.int .i64 32))
          (first | exact ⟨z0, z1, z2, z3, z4⟩ | exact hk6.1.five | go_keep)
          (first
            | (go_at_call 12; ((with_reducible refine (HDE.out).mono ?_); rintro e5 w5 ⟨rfl, rfl⟩))
            | (go_at_call 11; ((with_reducible refine (erun_any HD4.out.drew HT3.out (by omega) (by omega) HFD.out 1 of_ 2 (D3.table 2)).mono ?_); rintro e6 w6 ⟨rfl, o6, hd6, ht6, hs6⟩; have hk6 := HX4.out.drew.step hs6 (no_six (by omega)))))
        rw [HRUN.out] at hd6 ⊢
        have HD6 := Lib.hid (show DiskAt o6 1 w6 p D3 from hd6)
        have HF6 := Lib.hid (HFD.out.step hs6)
        have HS6 := Lib.hid (HS4.out.trans ((Step.of_drew hs6).mono (nz_six 1 (by omega))))
        clear hd6 ht6 hs6 hk6 z0 z1 z2 z3 z4 HD4 HX4 HF4 HS4
        go_wp2_with fail
        refine (dsectors_any HD6.out).mono ?_
        rintro e w7 ⟨rfl, rfl⟩
        rw [h37]
        go_wp2_with fail
        refine (dread_any HD6.out 0 37 (by rw [HT3.out.sectors]; decide) HT3.out.wf).mono ?_
        rintro e w7 ⟨rfl, hb7⟩
        have HF7 := Lib.hid (HF6.out.below hb7)
        have HS7 := Lib.hid (HS6.out.trans (Step.of_below o6 nz hb7))
        clear hb7 HD6 HF6 HS6
        generalize D3.readS 0 37 = T
        generalize D3.readE 0 37 = E2
        go_wp2_with fail
        refine (alive13_any HF7.out).mono ?_
        rintro e w8 ⟨rfl, o8, hs⟩
        have HB8 := Lib.hid ((HS7.out.trans hs).below (fun _ _ h => h rfl) (Nat.le_refl _))
        clear hs
        rcases hee with rfl | rfl | rfl
        · go_wp2_with fail
          go_ret
          exact ⟨by simp, HB8.out⟩
        · go_wp2_with fail
          go_ret
          exact ⟨by simp, HB8.out⟩
        · go_wp2_with fail
          go_ret
          exact ⟨by simp, HB8.out⟩
      · have bE : (E != 0) = true := by simp [hE]
        clear hE
        go_wp2_with fail
        refine (alive13_any HF3.out).mono ?_
        rintro e w4 ⟨rfl, o4, hs⟩
        go_wp2_with fail
        go_ret
        exact ⟨rfl, (HS3.out.trans hs).below (fun _ _ h => h rfl) (Nat.le_refl _)⟩
end Go.Proofs.YtjffjolopoejlaaGreatDoor
