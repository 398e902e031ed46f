import Derived.Test.YtohgabdmmbngbaaGreatDoorKWin
import Derived.Test.YtohgabdmmbngbaaGreatDoorKSrvKp
import Derived.Test.YtohgabdmmbngbaaGreatDoorKSrvCx
set_option linter.unusedVariables false
set_option linter.unusedSimpArgs false
namespace Go.Proofs.YtohgabdmmbngbaaGreatDoor
open Go.ChangeShapes Go.WideShapes Go.ChangeAt Go.RowKit Go.Joins Go.Deep
theorem serverCounts_reads (os:Os) {H:Type} (enc:TypeId×Value→H):∃places,DataW.whole enc Tryz.prog ((laidWorld os).forCall (fun _ _=>0) ⟨#[],#[.agg #[.int .i64 0, .int .i64 0, .int .i64 0], .int .i64 0],[]⟩).memory Tryz.f8.params.toList Rows.serverCountsSpec.vars false (#[Value.agg #[.int .i64 0, .int .i64 0, .int .i64 0],Value.int .i64 0]:Array Value).toList 8=some ([.agg [.agg [.lit (.int .i64 0), .lit (.int .i64 0)], .lit (.int .i64 0)], .lit (.int .i64 0)],[],places) :=
 ⟨[],by kernel_rfl⟩
set_option maxRecDepth 100000 in
theorem serverCounts_lifted (os:Os) (started:os.Started) (H:Type) (enc:TypeId×Value→H) (F:Stop.Interp) :
 ReturnsInHanded {} Tryz.checked os 8 .any ((OpenSpec.ofChange Rows.serverCountsSpec).preRow enc Tryz.prog Tryz.f8 Rows.serverCountsRow.domain false Rows.serverCountsRow.laid) (((OpenSpec.ofChange Rows.serverCountsSpec).at F).post enc Tryz.prog Tryz.f8 false true false false):=by
 obtain ⟨places,hx⟩:=serverCounts_reads os enc
 refine returnsInHanded_of_row (C:=Tryz.checked) (s:=OpenSpec.ofChange Rows.serverCountsSpec) own_ started (by kernel_rfl) Tryz.func8
  (witness_row_at (enc:=enc) (C:=Tryz.checked) false (laidWorld os) #[.agg #[.int .i64 0, .int .i64 0, .int .i64 0], .int .i64 0] rfl (by kernel_rfl) (by kernel_rfl) (by kernel_rfl)
    (OpenSpec.preRow_of_cond 8 hx (by kernel_rfl) (fun k hk=>by cases hk) (by kernel_rfl) (laid_met os _))) ?_
 intro W base args ds gs before hval hW0 _ _ _ _ _ _
 have hW:DataW.Whole enc Tryz.prog Tryz.f8.params.toList Rows.serverCountsSpec.vars false W args.toList ds gs before:=hW0
 have hW':=hW
 have hbl:∀p∈before,p.block<W.heap.size:=fun p hp=>hW.lt p hp
 obtain ⟨p,q,hA0,hV,rfl,hfz,hnd⟩:=hW
 have hA:DataW.TrodAll enc Tryz.prog W 0 (fun _=>true) true Tryz.f8.params.toList args.toList ds p:=hA0
 have hall:=hA
 have hval':∀(j:Nat) t v,Tryz.f8.params[j]? = some t→args[j]? = some v→Value.okWide Tryz.prog W .any base t v:=hval
 rw [Tryz.params8] at hA hval'
 obtain ⟨v0,r0,d0,e0,p0,q0,hargs0,rfl,rfl,h0,hA⟩:=trodAll_cons hA
 obtain ⟨v1,r1,d1,e1,p1,q1,hargs1,rfl,rfl,h1,hA⟩:=trodAll_cons hA
 obtain ⟨rfl,rfl,rfl⟩:=trodAll_nil hA
 subst hargs1
 obtain rfl:args=#[v0,v1]:=by cases args;simp_all
 obtain ⟨rfl,rfl⟩:=trodVars_none hV
 obtain ⟨a1,rfl,rfl,rfl,w1⟩:=open_int Tryz.underlying3 (hval' 1 3 v1 rfl rfl) h1
 obtain ⟨l0,rfl⟩:=open_lock (hval' 0 47 v0 rfl rfl) h0
 clear hA0 hval'
 refine (serverCounts_any l0 a1 W).mono fun e W' ⟨he,hb⟩ => ?_
 subst he
 refine ⟨_,rfl,post_of_below (pv := []) hW' (fun _ _ _=>trodAll_mk1 (shut_bool Tryz.underlying4 _)) (fun sp hsp => ?_) (fun _ _=>rfl) rfl hb (ok_one (by kernel_rfl) rfl (okWide_bool_mk Tryz.underlying4 _))⟩
 exact trodAll_stays laidOut_ _ _ _ _ (fun t ht=>by
  rw [Tryz.params8] at ht
  simp at ht
  rcases ht with rfl | rfl <;> exact ⟨by kernel_rfl,of_decide_eq_true (by kernel_rfl)⟩) hall (fun x hx=>hb.same (hbl x (by simpa using hx))) (fun x hx=>hsp x (by simpa using hx))
theorem and_of {a b:Bool} (ha:a=true) (hb:b=true):(a && b)=true:=by rw [ha,hb];rfl
set_option maxHeartbeats 4000000 in
theorem serverCounts_closed : joinedFacts Tryz.pinned.checked.prog 8 Tryz.f8 (OpenSpec.ofChange Rows.serverCountsSpec).bare Rows.serverCountsRow=true:=by
 unfold joinedFacts
 repeat' with_reducible (refine and_of ?_ ?_)
 all_goals (as_aux_lemma=>kernel_rfl)
theorem serverCounts_said : Rows.ServerCountsSaid :=
 OpenClaim.holds_of_cond 8 Tryz.f8 rfl rfl rfl rfl rfl rfl rfl ⟨rfl,rfl,rfl,rfl,rfl⟩ rfl rfl rfl rfl rfl (by as_aux_lemma=>kernel_rfl) Tryz.func8 serverCounts_closed
  (of_decide_eq_true (by kernel_rfl)) (by unfold Func.isWrapper;first | (rw [if_pos (by decide +kernel)];kernel_rfl) | (rw [if_neg (by decide +kernel)];exact ⟨rfl,rfl⟩))
  (fun os started H enc _ F=>by rw [OpenClaim.pre_eq_preRow];exact serverCounts_lifted os started H enc F)
theorem serverCounts_plain (f:FuncId) (fn:Func) (hf:Tryz.pinned.checked.prog.funcNamed "commons/commonslaw21.ServerCounts" = some f) (hfn:Tryz.pinned.checked.prog.funcs[f]? = some fn) :
 false=Tryz.pinned.checked.prog.looks []∧∀(j:Nat) t,fn.params[j]? = some t→Tryz.pinned.checked.prog.wantsStandIn t=false:=by
 obtain rfl:f=8:=Option.some.inj ((show Tryz.prog.funcNamed "commons/commonslaw21.ServerCounts" = some 8 by kernel_rfl).symm.trans hf) |>.symm
 obtain rfl:fn=Tryz.f8:=(Option.some.inj (Tryz.func8.symm.trans hfn)).symm
 refine ⟨by kernel_rfl,fun j t ht => ?_⟩
 have hm:=Array.mem_of_getElem? ht
 rw [Tryz.params8] at hm
 simp at hm
 rcases hm with rfl | rfl <;> exact (show Tryz.prog.wantsStandIn _=false by kernel_rfl)
set_option maxHeartbeats 40000000 in
theorem serverCounts_card : Rows.ServerCountsCardSaid:=by
 refine Claim7.holds_tied_plain_at .later [] _ _ _ _ serverCounts_said (fun _ h=>by cases h) ?g1 (fun _ h=>by cases h) serverCounts_row_tie ?g4 ?g5 ?g2 ?g6 serverCounts_plain ?g3
 case g1=>as_aux_lemma=>kernel_rfl
 case g2=>as_aux_lemma=>kernel_rfl
 case g3=>as_aux_lemma=>kernel_rfl
 case g4=>as_aux_lemma=>rfl
 case g5 =>
  refine ⟨?_,?_⟩
  ·as_aux_lemma=>kernel_rfl
  ·as_aux_lemma=>kernel_rfl
 case g6=>as_aux_lemma=>rfl
end Go.Proofs.YtohgabdmmbngbaaGreatDoor
