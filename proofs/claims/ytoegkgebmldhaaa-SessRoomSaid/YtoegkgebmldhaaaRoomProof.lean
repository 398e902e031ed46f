/- SessRoom, the row: whatever texts come in, the law returns true, and they read as they did. -/
import Derived.Test.YtoegkgebmldhaaaFrame
import Derived.Test.YtoegkgebmldhaaaRoomWalk
namespace Go.Proofs.Ytoegkgebmldhaaa
open Go.ChangeShapes Go.WideShapes Go.ChangeAt Go.RowKit Go.Joins Go.Deep

set_option maxRecDepth 100000 in
theorem sessRoom_lifted (os : Os) (started : os.Started) (H : Type) (enc : TypeId × Value → H) :
    ReturnsInHanded {} Try.checked os 4 .any (Rows.sessRoomSpec.pre6 enc Try.prog Try.f4 Rows.sessRoomRow.domain false) (Rows.sessRoomSpec.post enc Try.prog Try.f4 false true false false) := by
  refine returnsInHanded_of_change (C := Try.checked) own_ started (by kernel_rfl) Try.func4
    (ChangeSpec.witness6 (enc := enc) (C := Try.checked) false ⟨#[], #[.slice none 0 0], []⟩ 8 (by kernel_rfl) (by kernel_rfl) (by kernel_rfl) (by kernel_rfl)) ?_
  intro W base args ds gs before hval0 hW hcnd _
  have hval : ∀ (j : Nat) t v, Try.f4.params[j]? = some t → args[j]? = some v → Value.okWide Try.prog W .any base t v := hval0
  have hW' := hW
  have hbl : ∀ p ∈ before, p.block < W.heap.size := fun p hp => hW.lt p hp
  obtain ⟨p, q, hA0, hV, rfl, hfz, hnd⟩ := hW
  have hA : DataW.TrodAll enc Try.prog W 0 (fun _ => true) true Try.f4.params.toList args.toList ds p := hA0
  have hall := hA
  rw [Try.params4] at hA hval
  obtain ⟨v0, d0, rfl, rfl, h0⟩ := trodAll_one hA
  obtain ⟨rfl, rfl⟩ := trodVars_none hV
  obtain ⟨fuel, hf⟩ := h0
  obtain ⟨a, len, cap, rfl⟩ := okWide_slice Try.underlying27 (hval 0 27 v0 rfl rfl)
  have hx : ∃ xs : List ByteArray, xs.length = len ∧ (Reads W 1 a xs.length (xs.map Value.string)) ∧ ∀ x ∈ xs, x.size ≤ maxLen := by
    rcases open_strings Try.underlying27 Try.underlying9 (by kernel_rfl) hf with ⟨hc, _⟩ | ⟨ad, len', cap', ss, hc, _, hlc, hcap, hlen, _, hcells, hsz⟩
    · simp [Value.cells] at hc
      obtain ⟨rfl, rfl, rfl⟩ := hc
      exact ⟨[], rfl, Reads.none_ _ _ _, by simp⟩
    · simp [Value.cells] at hc
      obtain ⟨rfl, rfl, rfl⟩ := hc
      have hss : len ≤ ss.length := by rw [hlen]; split <;> omega
      refine ⟨ss.take len, by simp; omega, ⟨by simp, fun _ => ⟨ad, rfl, fun j u hu => ?_⟩⟩, fun x hx => hsz x (List.mem_of_mem_take hx)⟩
      have hj : j < len := by
        have := (List.getElem?_eq_some_iff.1 hu).1
        simp at this
        omega
      rw [hcells j (by omega)]
      simp [hj, List.getElem?_eq_getElem (show j < ss.length by omega)] at hu
      subst hu
      simp [List.getD, List.getElem?_eq_getElem (show j < ss.length by omega)]
  obtain ⟨xs, rfl, hrd, hsz⟩ := hx
  clear hA0 hval0
  refine (sessRoom_any W a cap xs hrd hsz).mono fun e W' ⟨he, hb⟩ => ?_
  subst he
  refine ⟨_, rfl, post_of_below (pv := []) hW' (fun _ _ _ => trodAll_mk1 (shut_bool Try.underlying4 _)) (fun sp hsp => ?_) (fun _ _ => rfl) rfl hb (ok_one (by kernel_rfl) rfl (okWide_bool_mk Try.underlying4 _))⟩
  exact trodAll_stays laidOut_ _ _ _ _ (fun t ht => by
    rw [Try.params4] at ht
    simp at ht
    subst ht
    exact ⟨by kernel_rfl, of_decide_eq_true (by kernel_rfl)⟩) hall (fun x hx => hb.same (hbl x (by simpa using hx))) (fun x hx => hsp x (by simpa using hx))

theorem sessRoom_holds : Rows.SessRoomSaid :=
  OpenClaim.holds_of_wide 4 Try.f4 rfl rfl rfl rfl rfl rfl rfl ⟨rfl, rfl, rfl, rfl, rfl⟩ rfl rfl rfl rfl rfl (by kernel_rfl) Try.func4 (by kernel_rfl)
    (of_decide_eq_true (by kernel_rfl)) (by unfold Func.isWrapper; first | (rw [if_pos (by decide +kernel)]; kernel_rfl) | (rw [if_neg (by decide +kernel)]; exact ⟨rfl, rfl⟩))
    (fun os started H enc _ => sessRoom_lifted os started H enc)
end Go.Proofs.Ytoegkgebmldhaaa
