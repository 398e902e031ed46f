/- SessNone, the row: whatever frame comes in, the law returns true, and the frame reads as it did. No condition. -/
import Derived.Test.YtoegkgebmldhaaaFrame
import Derived.Test.YtoegkgebmldhaaaSessJ
namespace Go.Proofs.Ytoegkgebmldhaaa
open Go.ChangeShapes Go.WideShapes Go.ChangeAt Go.RowKit Go.Joins Go.Deep

theorem cells_frame : Try.prog.cellsOf 34 = 8 := by kernel_rfl

set_option maxRecDepth 100000 in
theorem sessNone_lifted (os : Os) (started : os.Started) (H : Type) (enc : TypeId × Value → H) :
    ReturnsInHanded {} Try.checked os 6 .any (Rows.sessNoneSpec.pre6 enc Try.prog Try.f6 Rows.sessNoneRow.domain false) (Rows.sessNoneSpec.post enc Try.prog Try.f6 false true false false) := by
  refine returnsInHanded_of_change (C := Try.checked) own_ started (by kernel_rfl) Try.func6
    (ChangeSpec.witness6 (enc := enc) (C := Try.checked) false ⟨#[], #[.agg #[.int .i64 0, .int .i64 0, .int .i64 0, .int .i64 0, .int .i64 0, .int .i64 0, .string ⟨#[]⟩, .bool false]], []⟩ 8 (by kernel_rfl) (by kernel_rfl) (by kernel_rfl) (by kernel_rfl)) ?_
  intro W base args ds gs before hval0 hW hcnd _
  have hval : ∀ (j : Nat) t v, Try.f6.params[j]? = some t → args[j]? = some v → Value.okWide Try.prog W .any base t v := hval0
  have hW' := hW
  have hbl : ∀ p ∈ before, p.block < W.heap.size := fun p hp => hW.lt p hp
  obtain ⟨p, q, hA0, hV, rfl, hfz, hnd⟩ := hW
  have hA : DataW.TrodAll enc Try.prog W 0 (fun _ => true) true Try.f6.params.toList args.toList ds p := hA0
  have hall := hA
  rw [Try.params6] at hA hval
  obtain ⟨v0, d0, rfl, rfl, h0⟩ := trodAll_one hA
  obtain ⟨rfl, rfl⟩ := trodVars_none hV
  obtain ⟨c0, c1, c2, c3, c4, c5, c6, c7, y0, y1, y2, y3, y4, y5, y6, y7, n, rfl, rfl, e0, e1, e2, e3, e4, e5, e6, e7⟩ := open_agg8 Try.underlying34 (by kernel_rfl) cells_frame (hval 0 34 v0 rfl rfl) h0
  obtain ⟨a0, z0, _, _⟩ := DataW.trod_int Try.underlying3 e0
  obtain rfl : c0 = .int .i64 a0 := by simpa using z0
  obtain ⟨a1, z1, _, _⟩ := DataW.trod_int Try.underlying3 e1
  obtain rfl : c1 = .int .i64 a1 := by simpa using z1
  obtain ⟨a2, z2, _, _⟩ := DataW.trod_int Try.underlying3 e2
  obtain rfl : c2 = .int .i64 a2 := by simpa using z2
  obtain ⟨a3, z3, _, _⟩ := DataW.trod_int Try.underlying3 e3
  obtain rfl : c3 = .int .i64 a3 := by simpa using z3
  obtain ⟨a4, z4, _, _⟩ := DataW.trod_int Try.underlying3 e4
  obtain rfl : c4 = .int .i64 a4 := by simpa using z4
  obtain ⟨a5, z5, _, _⟩ := DataW.trod_int Try.underlying3 e5
  obtain rfl : c5 = .int .i64 a5 := by simpa using z5
  obtain ⟨s6, z6, _, hs6⟩ := DataW.trod_string Try.underlying9 e6
  obtain rfl : c6 = .string s6 := by simpa using z6
  obtain ⟨b7, z7, _⟩ := DataW.trod_bool Try.underlying4 e7
  obtain rfl : c7 = .bool b7 := by simpa using z7
  clear hA0 hval0
  refine (sessNone_any W a0 a1 a2 a3 a4 a5 s6 b7 hs6).mono fun e W' ⟨he, hb⟩ => ?_
  subst he
  refine ⟨_, rfl, post_of_below (pv := []) hW' (fun _ _ _ => trodAll_mk1 (shut_bool Try.underlying4 _)) (fun sp hsp => ?_) (fun _ _ => rfl) rfl hb (ok_one (by kernel_rfl) rfl (okWide_bool_mk Try.underlying4 _))⟩
  exact trodAll_stays laidOut_ _ _ _ _ (fun t ht => by
    rw [Try.params6] at ht
    simp at ht
    subst ht
    exact ⟨by kernel_rfl, of_decide_eq_true (by kernel_rfl)⟩) hall (fun x hx => hb.same (hbl x (by simpa using hx))) (fun x hx => hsp x (by simpa using hx))

theorem sessNone_holds : Rows.SessNoneSaid :=
  OpenClaim.holds_of_wide 6 Try.f6 rfl rfl rfl rfl rfl rfl rfl ⟨rfl, rfl, rfl, rfl, rfl⟩ rfl rfl rfl rfl rfl (by kernel_rfl) Try.func6 (by kernel_rfl)
    (of_decide_eq_true (by kernel_rfl)) (by unfold Func.isWrapper; first | (rw [if_pos (by decide +kernel)]; kernel_rfl) | (rw [if_neg (by decide +kernel)]; exact ⟨rfl, rfl⟩))
    (fun os started H enc _ => sessNone_lifted os started H enc)
end Go.Proofs.Ytoegkgebmldhaaa
