/- MsgTells' book: growLocks. -/
import Derived.Test.YtjmgefpdfhfhmaaGreatDoorMsgS
namespace Go.Proofs.YtjmgefpdfhfhmaaGreatDoor
open Go.RowKit

theorem marklocks_1 (o : Nat → Nat) (c0 : Nat) (w : World) (i f : Nat) (hi1 : i ≤ 1000) (hf : f ≤ 2000) :
    Calls Tryz.prog 129 #[.int .i64 i, .int .i64 f, .int .i64 1] w fun e w' => ∃ A cap o', e = .returned (.slice A 1 cap) ∧ OwnS o' c0 w' 68 3 (.slice A 1 cap) 1 (rowsF (lkM i) f 1) ∧ Step o (only c0) w o' w' := marklocks_rows o c0 w i f 1 hi1 (by omega)
theorem marklocks_60 (o : Nat → Nat) (c0 : Nat) (w : World) (i f : Nat) (hi1 : i ≤ 1000) (hf : f ≤ 2000) :
    Calls Tryz.prog 129 #[.int .i64 i, .int .i64 f, .int .i64 60] w fun e w' => ∃ A cap o', e = .returned (.slice A 60 cap) ∧ OwnS o' c0 w' 68 3 (.slice A 60 cap) 60 (rowsF (lkM i) f 60) ∧ Step o (only c0) w o' w' := marklocks_rows o c0 w i f 60 hi1 (by omega)
theorem markmsgs_1 (o : Nat → Nat) (c0 : Nat) (w : World) (i f : Nat) (hi1 : i ≤ 1000) (hf : f ≤ 2000) :
    Calls Tryz.prog 123 #[.int .i64 i, .int .i64 f, .int .i64 1] w fun e w' => ∃ A cap o', e = .returned (.slice A 1 cap) ∧ OwnS o' c0 w' 26 8 (.slice A 1 cap) 1 (rowsF (mgM i) f 1) ∧ Step o (only c0) w o' w' := markmsgs_rows o c0 w i f 1 hi1 (by omega)
theorem markmsgs_60 (o : Nat → Nat) (c0 : Nat) (w : World) (i f : Nat) (hi1 : i ≤ 1000) (hf : f ≤ 2000) :
    Calls Tryz.prog 123 #[.int .i64 i, .int .i64 f, .int .i64 60] w fun e w' => ∃ A cap o', e = .returned (.slice A 60 cap) ∧ OwnS o' c0 w' 26 8 (.slice A 60 cap) 60 (rowsF (mgM i) f 60) ∧ Step o (only c0) w o' w' := markmsgs_rows o c0 w i f 60 hi1 (by omega)
theorem lkM_one (i f n : Nat) : ∀ u ∈ rowsF (lkM i) f n, u.oneCell' = true := by
  intro u hu
  simp only [rowsF, List.mem_flatMap, lkM, List.mem_cons, List.not_mem_nil, or_false] at hu
  obtain ⟨x, _, rfl | rfl | rfl⟩ := hu <;> rfl
theorem mgM_one (i f n : Nat) : ∀ u ∈ rowsF (mgM i) f n, u.oneCell' = true := by
  intro u hu
  simp only [rowsF, List.mem_flatMap, mgM, List.mem_cons, List.not_mem_nil, or_false] at hu
  obtain ⟨x, _, rfl | rfl | rfl | rfl | rfl | rfl | rfl | rfl⟩ := hu <;> rfl
def growC (cO cI : Nat) : Nat → Prop := fun c => c = 40 ∨ c = cO ∨ (cI ≤ c ∧ c < cI + 1000)
/-- a list, and what was grown from it: the same place, or another block -/
def KeepRel (v0 : Value) (n0 : Nat) (v : Value) (n : Nat) : Prop := (∃ A0 cap0 cap, v0 = .slice A0 n0 cap0 ∧ v = .slice A0 n cap) ∨ v0.ownBlock ≠ v.ownBlock
theorem KeepRel.more {o : Nat → Nat} {c : Nat} {w : World} {e : TypeId} {sz n0 n n' : Nat} {v0 v v' : Value} {xs : List Value} (h : KeepRel v0 n0 v n) (hn : NewOrSame w v n v' n') (h0 : OwnW o c w e sz v0 n0 xs) (hs : ∃ g, v'.ownBlock = some g) : KeepRel v0 n0 v' n' := by
  obtain ⟨g, hg⟩ := hs
  rcases hn with ⟨A, cap, rfl, rfl⟩ | hn
  · rcases h with ⟨A0, cap0, cap', rfl, e2⟩ | hne
    · injection e2 with e3
      subst e3
      exact .inl ⟨A, cap0, cap, rfl, rfl⟩
    · refine .inr (fun e => hne (e.trans ?_))
      cases A <;> rfl
  · refine .inr (fun e => ?_)
    have := (h0.lt g (e.trans hg)).1
    have := hn g hg
    omega
theorem OwnW.some_ {o : Nat → Nat} {c : Nat} {w : World} {e : TypeId} {sz n : Nat} {v : Value} {xs : List Value} (h : OwnW o c w e sz v n xs) (hn : 0 < n) : ∃ g, v.ownBlock = some g := by
  rcases h.2 with ⟨_, h0⟩ | ⟨g, off, cap, cur, rfl, _⟩
  · omega
  · exact ⟨g, rfl⟩
def growS (r : Nat → Nat → List Value) (S : List (Nat × List Value)) : List (Nat × List Value) := S.mapIdx (fun i p => (p.1 + 72, rowsF (r i) 0 (p.1 + 72)))
theorem growS_len (r : Nat → Nat → List Value) (S : List (Nat × List Value)) : (growS r S).length = S.length := by simp [growS]
theorem growS_take {r : Nat → Nat → List Value} {S : List (Nat × List Value)} {i n : Nat} {xs : List Value} (h : S[i]? = some (n, xs)) : (growS r S).take (i + 1) = (growS r S).take i ++ [(n + 72, rowsF (r i) 0 (n + 72))] := by
  have h1 : (growS r S)[i]? = some (n + 72, rowsF (r i) 0 (n + 72)) := by simp [growS, h]
  rw [List.take_add_one, h1]
  rfl
/-- list i, grown by k elements; the lists grown so far -/
structure GrowAt (tO tE : TypeId) (sz cO cG cI : Nat) (r : Nat → Nat → List Value) (o o' : Nat → Nat) (w w' : World) (p : Nat) (cs : Array Value) (v : Value) (S : List (Nat × List Value)) (vs : List Value) (V : Value) (us : List Value) (i n k : Nat) (u l : Value) : Prop where
  kept : Kept tO tE sz cO cI o' w' v S vs
  out : Kept tO tE sz cG cI o' w' V ((growS r S).take i) us
  row : OwnW o' (cI + i) w' tE sz l (n + k) (rowsF (r i) 0 (n + k))
  rel : KeepRel u n l (n + k)
  step : Step o (growC cG cI) w o' w'
  book : BookAt o' w' p cs
section
variable {tO tE : TypeId} {sz cO cG cI : Nat} {r : Nat → Nat → List Value} {o o' o2 : Nat → Nat} {w w' w2 : World} {p : Nat} {cs : Array Value} {v V u l : Value} {S : List (Nat × List Value)} {vs us : List Value} {i n k : Nat}
theorem GrowAt.marks (h : GrowAt tO tE sz cO cG cI r o o' w w' p cs v S vs V us i n k u l) (hs : Step o' (only 40) w' o2 w2) (h0 : 40 < cI) (h1 : cO ≠ 40) (h2 : cG ≠ 40) : GrowAt tO tE sz cO cG cI r o o2 w w2 p cs v S vs V us i n k u l :=
  ⟨h.kept.step hs h1 (fun j _ => by unfold only; omega), h.out.step hs h2 (fun j _ => by unfold only; omega), h.row.step hs (by unfold only; omega), h.rel, h.step.trans (hs.mono (fun c hc => .inl hc)), h.book.step hs (by unfold only; omega)⟩
theorem GrowAt.more {m q : Nat} {v' : Value} (h : GrowAt tO tE sz cO cG cI r o o' w w' p cs v S vs V us i n k u l) (hs : Step o' (only (cI + i)) w' o2 w2) (hq : q = n + k) (ho : OwnW o2 (cI + i) w2 tE sz v' (q + m) (rowsF (r i) 0 q ++ rowsF (r i) q m))
    (hK : ∀ c1 v0 n0 xs0, OwnW o' c1 w' tE sz v0 n0 xs0 → n0 ≤ q → ((∃ A0 cap0 cap, v0 = .slice A0 n0 cap0 ∧ l = .slice A0 q cap) ∨ v0.ownBlock ≠ l.ownBlock) → OwnW o2 c1 w2 tE sz v0 n0 xs0) (hn : NewOrSame w' l q v' (q + m)) (hm : 0 < m)
    (hi : i < S.length) (hi2 : i < 1000) (hu : vs[i]? = some u) (hS : S[i]? = some (n, rowsF (r i) 0 n)) (h0 : 40 < cI) (h1 : cO < cI) (h2 : cG < cI) : GrowAt tO tE sz cO cG cI r o o2 w w2 p cs v S vs V us i n (k + m) u v' := by
  subst hq
  have hrow := h.kept.inner i _ _ _ hu hS
  refine ⟨⟨h.kept.len, h.kept.outer.step hs (by unfold only; omega), fun j u1 n1 xs1 hu1 hS1 => ?_⟩, ?_, ?_, ?_, h.step.trans (hs.mono (fun c hc => .inr (.inr (by unfold only at hc; omega)))), ?_⟩
  · by_cases hij : j = i
    · subst hij
      rw [hu] at hu1
      rw [hS] at hS1
      injection hu1 with hu1
      injection hS1 with hS1
      injection hS1 with e1 e2
      subst hu1 e1 e2
      exact hK _ _ _ _ hrow (by omega) h.rel
    · exact (h.kept.inner j u1 n1 xs1 hu1 hS1).step hs (by unfold only; omega)
  · refine h.out.step hs (by unfold only; omega) (fun j hj => ?_)
    rw [List.length_take] at hj
    unfold only
    omega
  · rw [← Nat.add_assoc, rowsF_app, Nat.zero_add]
    exact ho
  · rw [← Nat.add_assoc]
    exact h.rel.more hn hrow (ho.some_ (by omega))
  · exact h.book.step hs (by unfold only; omega)
/-- the lists grown so far -/
structure GrowO (tO tE : TypeId) (sz cO cG cI : Nat) (r : Nat → Nat → List Value) (o o' : Nat → Nat) (w w' : World) (p : Nat) (cs : Array Value) (v : Value) (S : List (Nat × List Value)) (vs : List Value) (V : Value) (us : List Value) (i : Nat) : Prop where
  kept : Kept tO tE sz cO cI o' w' v S vs
  out : Kept tO tE sz cG cI o' w' V ((growS r S).take i) us
  step : Step o (growC cG cI) w o' w'
  book : BookAt o' w' p cs
theorem GrowO.start (h : GrowO tO tE sz cO cG cI r o o' w w' p cs v S vs V us i) (hu : vs[i]? = some u) (hS : S[i]? = some (n, rowsF (r i) 0 n)) : GrowAt tO tE sz cO cG cI r o o' w w' p cs v S vs V us i n 0 u u := by
  have hrow := h.kept.inner i _ _ _ hu hS
  obtain ⟨A, cap, e, _⟩ := hrow.form
  exact ⟨h.kept, h.out, hrow, .inl ⟨A, cap, cap, e, e⟩, h.step, h.book⟩
theorem GrowAt.finish {V2 : Value} (h : GrowAt tO tE sz cO cG cI r o o' w w' p cs v S vs V us i n 72 u l) (hs : Step o' (only cG) w' o2 w2) (ho : OwnW o2 cG w2 tO 1 V2 (i + 1) (us ++ [l])) (hi : i < S.length) (hS : S[i]? = some (n, rowsF (r i) 0 n)) (h1 : cO ≠ cG) (h2 : cG < cI) (h3 : cG ≠ 20) : GrowO tO tE sz cO cG cI r o o2 w w2 p cs v S vs V2 (us ++ [l]) (i + 1) := by
  have hlen : ((growS r S).take i).length = i := by rw [List.length_take, growS_len]; omega
  refine ⟨h.kept.step hs (by unfold only; omega) (fun j _ => by unfold only; omega), ?_, h.step.trans (hs.mono (fun c hc => .inr (.inl hc))), h.book.step hs (by unfold only; omega)⟩
  rw [growS_take hS]
  exact h.out.more (by rw [hlen]; exact ho) hs (by rw [hlen]; exact h.row) (fun j _ => by omega)
theorem GrowO.outer (h : GrowO tO tE sz cO cG cI r o o' w w' p cs v S vs V us i) (hi : i ≤ S.length) : OwnW o' cG w' tO 1 V i us := by
  have hlen : ((growS r S).take i).length = i := by rw [List.length_take, growS_len]; omega
  have := h.out.outer
  rwa [hlen] at this
theorem GrowAt.outer (h : GrowAt tO tE sz cO cG cI r o o' w w' p cs v S vs V us i n k u l) (hi : i ≤ S.length) : OwnW o' cG w' tO 1 V i us := by
  have hlen : ((growS r S).take i).length = i := by rw [List.length_take, growS_len]; omega
  have := h.out.outer
  rwa [hlen] at this
end
theorem GrowAt.alloc {tO tE : TypeId} {sz cO cG cI : Nat} {r : Nat → Nat → List Value} {o o' : Nat → Nat} {w w' : World} {p : Nat} {cs : Array Value} {v V u l : Value} {S : List (Nat × List Value)} {vs us : List Value} {i n k : Nat} (h : GrowAt tO tE sz cO cG cI r o o' w w' p cs v S vs V us i n k u l) (x : Obj) : GrowAt tO tE sz cO cG cI r o o' w (w'.alloc x) p cs v S vs V us i n k u l :=
  ⟨h.kept.alloc x, h.out.alloc x, h.row.alloc x, h.rel, h.step.alloc x, h.book.alloc x⟩
set_option maxRecDepth 100000 in
set_option maxHeartbeats 4000000 in
theorem growlocks_any (o : Nat → Nat) (w : World) (p : Nat) (cs : Array Value) (v : Value) (S : List (Nat × List Value)) (vs : List Value) (hb : BookAt o w p cs) (h8 : cs[8]? = some v)
    (k8 : Kept 24 68 3 21 1000 o w v S vs) (hl : ∀ (i n : Nat) xs, S[i]? = some (n, xs) → n ≤ 1000 ∧ xs = rowsF (lkM i) 0 n) (hL : S.length ≤ 250) :
    Calls Tryz.prog 72 #[.pointer (some ⟨p, 0, none⟩)] w fun e w' => ∃ V us o', e = .returned V ∧ GrowO 24 68 3 21 25 1000 lkM o o' w w' p cs v S vs V us S.length := by
  obtain ⟨i0, hi0, hz0, hz1, hz2⟩ := info_parts info_lock
  obtain ⟨i1, hi1, hy0, hy1, hy2⟩ := info_parts info_locks
  have HB := Lib.hid hb
  have HL := Lib.hid hl
  have H8 := Lib.hid k8
  have C8 := Lib.hid h8
  obtain ⟨A8, cap8, e8, _, _⟩ := k8.outer.form
  have E8 := Lib.hid e8
  clear hb hl k8 h8 e8
  go_enter Tryz.func72, Tryz.ntmps72
  go_wp2_with fail
  go_loopw [3, 4] (fun t3 t4 wr => ∃ (i : Nat) (V : Value) (us : List Value) (o' : Nat → Nat), i ≤ S.length ∧ t3 = V ∧ t4 = .int .i64 i ∧ GrowO 24 68 3 21 25 1000 lkM o o' w wr p cs v S vs V us i) (fun _ t4 _ => S.length - (intOf t4).toNat)
  case atStart => exact ⟨0, _, [], o, by omega, rfl, rfl, H8.out, Kept.nil _ _ _ _ _ _ _, Step.refl _ _ _, HB.out⟩
  case round =>
    obtain ⟨i, V, us, o1, hi, rfl, rfl, hG⟩ := hrel
    have h8 : wr.cell? ⟨p, 8, none⟩ = some (.slice A8 S.length cap8) := by rw [← E8.out]; exact (hG.book.1.cell 8).trans C8.out
    have HG := Lib.hid hG
    clear hG
    by_cases hlt : i < S.length
    · have hltI : (i : Int) < (S.length : Int) := by omega
      obtain ⟨ad, cap, A, c, u, n, xs, e1, _, hu, hS, e2, _, hc, how⟩ := HG.out.kept.at_ (i := i) hlt
      obtain ⟨hn, rfl⟩ := HL.out i n xs hS
      rw [E8.out] at e1
      injection e1 with e1 _ e3
      subst e1 e3
      have HU := Lib.hid hu
      have HSS := Lib.hid hS
      have HS0 := Lib.hid (HG.out.start hu hS)
      clear how hu hS
      go_wp2_with fail
      go_loopw [5, 6] (fun t5 t6 wr => ∃ (k q : Nat) (A : Option Addr) (cap : Nat) (o' : Nat → Nat), k ≤ 12 ∧ q = n + k ∧ t5 = .slice A q cap ∧ t6 = .int .i64 k ∧ GrowAt 24 68 3 21 25 1000 lkM o o' w wr p cs v S vs u3 us i n k u (.slice A q cap)) (fun _ t6 _ => 12 - (intOf t6).toNat)
      case atStart => exact ⟨0, n, A, c, o1, by omega, rfl, rfl, rfl, by have := HS0.out; rw [e2] at this ⊢; exact this⟩
      case round =>
        obtain ⟨k, q, A1, c1, o2, hk, hq, rfl, rfl, hga⟩ := hrel
        have hqn : q ≤ 1012 := by omega
        have hrow := hga.row
        rw [← hq] at hrow
        have HGA := Lib.hid hga
        have HROW := Lib.hid hrow
        have HQ := Lib.hid hq
        clear hga hrow hq
        by_cases hlt2 : k < 12
        · have hltI2 : (k : Int) < 12 := by omega
          go_wp2_with fail
          refine (marklocks_1 o2 40 wr i q (by omega) (by omega)).mono ?_
          rintro e w3 ⟨A2, c2, o3, rfl, hm3, hs3⟩
          have HG3 := Lib.hid (HGA.out.marks hs3 (by omega) (by omega) (by omega))
          have HR3 := Lib.hid (HROW.out.step hs3 (by unfold only; omega))
          have HM3 := Lib.hid hm3
          clear hm3 hs3
          go_wp2_with (at_builtin; refine wpList_append_K _ rfl (.tmp 27) (.tmp 31) 24 rfl 68 i0 _ 3 24 Tryz.underlying24 hi0 hz0 hz1 hz2 rfl (by omega) (.slice A1 q c1) q (rowsF (lkM i) 0 q) rfl HR3.out A2 1 c2 (rowsF (lkM i) q 1) rfl (Reads.of_own HM3.out.1) (lkM_one i q 1) (by unfold maxLen; omega) (by omega) ?_; intro v' w4 hown hst hK hnw; obtain ⟨A4, c4, rfl, _, _⟩ := hown.form; have HG4 := Lib.hid (HG3.out.more hst HQ.out hown hK hnw (by omega) hlt (by omega) HU.out HSS.out (by omega) (by omega) (by omega)); clear hown hst hK hnw)
          go_roundw
          case rel => exact ⟨k + 1, q + 1, A4, c4, _, by omega, by have := HQ.out; omega, by go_num, by go_num, HG4.out⟩
          case measure => simp [intOf]; omega
        · have hltI2 : ¬ (k : Int) < 12 := by omega
          obtain rfl : k = 12 := by omega
          go_wp2_with fail
          refine (marklocks_60 o2 40 wr i q (by omega) (by omega)).mono ?_
          rintro e w3 ⟨A2, c2, o3, rfl, hm3, hs3⟩
          have HG3 := Lib.hid (HGA.out.marks hs3 (by omega) (by omega) (by omega))
          have HR3 := Lib.hid (HROW.out.step hs3 (by unfold only; omega))
          have HM3 := Lib.hid hm3
          clear hm3 hs3
          go_wp2_with (first | (at_builtin; refine wpList_append_K _ rfl (.tmp 34) (.tmp 38) 24 rfl 68 i0 _ 3 24 Tryz.underlying24 hi0 hz0 hz1 hz2 rfl (by omega) (.slice A1 q c1) q (rowsF (lkM i) 0 q) rfl HR3.out A2 60 c2 (rowsF (lkM i) q 60) rfl (Reads.of_own HM3.out.1) (lkM_one i q 60) (by unfold maxLen; omega) (by omega) ?_; intro v' w4 hown hst hK hnw; obtain ⟨A4, c4, rfl, _, _⟩ := hown.form; have HG4 := Lib.hid (HG3.out.more hst HQ.out hown hK hnw (by omega) hlt (by omega) HU.out HSS.out (by omega) (by omega) (by omega)); clear hown hst hK hnw; have HO4 := Lib.hid (HG4.out.outer hi)) | (at_builtin; refine wpList_append_W _ rfl (.tmp 33) (.tmp 40) 33 rfl 24 i1 _ 1 24 Tryz.underlying33 hi1 hy0 hy1 hy2 rfl (by omega) u3 i us rfl (HO4.out.alloc (.cells #[.slice A4 (q + 60) c4] 24)) _ 1 1 [.slice A4 (q + 60) c4] rfl (Reads.newAt _ 24 1 1 _ _ _ rfl rfl rfl) (by simp [Value.oneCell']) (by unfold maxLen; omega) (by omega) ?_; intro v5 w5 hown5 hst5; obtain ⟨A5, cap5, rfl, _, _⟩ := hown5.form; have HF5 := Lib.hid ((HG4.out.alloc (.cells #[.slice A4 (q + 60) c4] 24)).finish hst5 hown5 hlt HSS.out (by omega) (by omega) (by omega)); clear hown5 hst5))
          go_roundw
          case rel => exact ⟨i + 1, _, _, _, by omega, by go_num, by go_num, HF5.out⟩
          case measure => simp [intOf]; omega
    · have hltI : ¬ (i : Int) < (S.length : Int) := by omega
      obtain rfl : i = S.length := by omega
      go_wp2_with fail
      go_ret
      exact ⟨u3, rfl, us, o1, HG.out⟩
end Go.Proofs.YtjmgefpdfhfhmaaGreatDoor
