import Derived.Test.YtfkfficabeclcaaGreatDoorGLTRanksAP
import Derived.Test.YtfkfficabeclcaaGreatDoorGLTRanksAO
import Derived.Test.YtfkfficabeclcaaGreatDoorGLTRanksAY
set_option linter.all false
namespace Go.Proofs.YtfkfficabeclcaaGreatDoor
open Go Go.RowKit Go.ChangeShapes Go.WideShapes Go.ChangeAt Sx
theorem reportRanks_own:ownKnob Tryz.prog.godebug=none:=by kernel_rfl
set_option maxRecDepth 100000 in
theorem reportRanks_wit (os:Os) {H:Type} (enc:TypeId × Value→H) :
  (OpenSpec.ofChange Rows.reportRanksSpec).preRow enc Tryz.prog Tryz.f7 Rows.reportRanksRow.domain false Rows.reportRanksRow.laid ((laidWorld os).forCall (fun _ _=>0) ⟨#[],#[.agg #[.int .i64 0,.int .i64 0,.slice none 0 0]],[]⟩).memory #[.agg #[.int .i64 0,.int .i64 0,.slice none 0 0]]:=by
 have hw:(DataW.whole enc Tryz.prog ((laidWorld os).forCall (fun _ _=>0) ⟨#[],#[.agg #[.int .i64 0,.int .i64 0,.slice none 0 0]],[]⟩).memory Tryz.f7.params.toList (OpenSpec.ofChange Rows.reportRanksSpec).vars false (#[.agg #[.int .i64 0,.int .i64 0,.slice none 0 0]]:Array Value).toList 8).map (fun x=>(x.1,x.2.1)) =
   some ([.agg [.agg [.lit (.int .i64 0),.lit (.int .i64 0)],.agg [.nil]]],[]):=by kernel_rfl
 obtain ⟨⟨x1,x2,x3⟩,hx,hx1⟩:=Option.map_eq_some_iff.1 hw
 simp only [Prod.mk.injEq] at hx1
 obtain ⟨rfl,rfl⟩:=hx1
 exact OpenSpec.preRow_of_cond 8 hx (by kernel_rfl) (fun k hk=>by cases hk) (by kernel_rfl) (laid_met os _)
set_option maxRecDepth 100000 in
theorem reportRanks_lifted (os:Os) (started:os.Started) (H:Type) (enc:TypeId × Value→H) (F:Stop.Interp) :
  ReturnsInHanded {} Tryz.checked os 7 .any ((OpenSpec.ofChange Rows.reportRanksSpec).preRow enc Tryz.prog Tryz.f7 Rows.reportRanksRow.domain false Rows.reportRanksRow.laid) (((OpenSpec.ofChange Rows.reportRanksSpec).at F).post enc Tryz.prog Tryz.f7 false true false false):=by
 refine returnsInHanded_of_row (C:=Tryz.checked) (s:=OpenSpec.ofChange Rows.reportRanksSpec) reportRanks_own started (by kernel_rfl) Tryz.func7
  (witness_row_at (enc:=enc) (C:=Tryz.checked) false (laidWorld os) #[.agg #[.int .i64 0,.int .i64 0,.slice none 0 0]] rfl (by kernel_rfl) (by kernel_rfl) (by kernel_rfl) (reportRanks_wit os enc)) ?_
 intro W base args ds gs before hval0 hW _ _ _ hL hsh _
 have hgd:=gd_of hL hsh
 have hval:∀ (j:Nat) t v,Tryz.f7.params[j]? = some t→args[j]? = some v→Value.okWide Tryz.prog W .any base t v:=hval0
 have hW':=hW
 obtain ⟨p,q,hA0,hV,rfl,hfz,hnd⟩:=hW
 have hA:DataW.TrodAll enc Tryz.prog W 0 (fun _=>true) true Tryz.f7.params.toList args.toList ds p:=hA0
 rw [Tryz.params7] at hA hval
 obtain ⟨v0,vs0,d0,ds0,p0,q0,hargs,rfl,rfl,h0,r0⟩:=trodAll_cons hA
 obtain ⟨rfl,rfl,rfl⟩:=trodAll_nil r0
 obtain rfl:args=#[v0]:=by cases args;simp_all
 obtain ⟨e0,hd0,hf0⟩:=arg_data (tyB_ok (s:=shModel) (by kernel_rfl)) (hval 0 41 v0 rfl rfl) h0
 obtain ⟨m,rfl⟩:=fit_model hf0
 refine (law_of_fn (vs:=[v0]) (fun _ _=>Tryz.call7 _ _) (LTRanks_fn m) hgd ⟨hd0,trivial⟩).mono fun e W' ⟨he,hb⟩ => ?_
 subst he
 exact ⟨_,rfl,law_post (s:=Rows.reportRanksSpec) (by kernel_rfl) (by kernel_rfl) rfl Tryz.underlying4 rfl hW' ⟨rfl,rfl,rfl⟩ hb⟩
theorem reportRanks_and {a b:Bool} (h:a=true) (k:b=true):(a && b)=true:=by rw [h,k];rfl
theorem reportRanks_c0:(Rows.reportRanksRow.inPlace == Tryz.prog.inPlace 7)=true:=by kernel_rfl
theorem reportRanks_c1:(Rows.reportRanksRow.unfollowed == Tryz.prog.unfollowed 7)=true:=by kernel_rfl
theorem reportRanks_c2:(Rows.reportRanksRow.recurses == Tryz.prog.recurses 7)=true:=by kernel_rfl
theorem reportRanks_c3:(Rows.reportRanksRow.named == Tryz.prog.varsNamed 7)=true:=by kernel_rfl
theorem reportRanks_c4:(Rows.reportRanksRow.loops == (Tryz.f7.params.toList++(OpenSpec.ofChange Rows.reportRanksSpec).bare.plain.varTypes Tryz.prog).any (Tryz.prog.loopsFrom ·))=true:=by kernel_rfl
theorem reportRanks_c5:laidOutB Tryz.prog=true:=by kernel_rfl
theorem reportRanks_c6:mapsRowed Tryz.prog=true:=by kernel_rfl
theorem reportRanks_c7:Tryz.prog.stopsHeard=true:=by kernel_rfl
theorem reportRanks_c8:Tryz.prog.mayEnter=true:=by kernel_rfl
theorem reportRanks_facts:joinedFacts Tryz.prog 7 Tryz.f7 (OpenSpec.ofChange Rows.reportRanksSpec).bare Rows.reportRanksRow=true:=by
 unfold joinedFacts
 repeat' (with_reducible refine reportRanks_and ?_ ?_)
 all_goals first|with_reducible exact reportRanks_c0|with_reducible exact reportRanks_c1|with_reducible exact reportRanks_c2|with_reducible exact reportRanks_c3|with_reducible exact reportRanks_c4|with_reducible exact reportRanks_c5|with_reducible exact reportRanks_c6|with_reducible exact reportRanks_c7|with_reducible exact reportRanks_c8|kernel_rfl
theorem reportRanks_over:Rows.reportRanksRow.holds Tryz.pinned (OpenSpec.ofChange Rows.reportRanksSpec) :=
 OpenClaim.holds_of_cond 7 Tryz.f7 rfl rfl rfl rfl rfl rfl rfl ⟨rfl,rfl,rfl,rfl,rfl⟩ rfl rfl rfl rfl rfl (by kernel_rfl) Tryz.func7 reportRanks_facts
  (of_decide_eq_true (by kernel_rfl)) (by unfold Func.isWrapper;rw [if_neg (of_decide_eq_false (by kernel_rfl))];exact ⟨rfl,rfl⟩)
  (fun os started H enc _ F0=>by rw [OpenClaim.pre_eq_preRow];exact reportRanks_lifted os started H enc F0)
theorem reportRanks_params:(Tryz.f7.params.toList.all fun t => !Tryz.prog.wantsStandIn t)=true:=by kernel_rfl
theorem reportRanks_proved:Rows.ReportRanksCardSaid :=
 Claim7.holds_tied_plain_at .later [] Rows.reportRanksCard.laidKinds true Rows.reportRanksCard.stood.harness Rows.reportRanksCard.stood.looks
  reportRanks_over (fun _ h=>by cases h) (by kernel_rfl) (fun _ h=>by cases h) reportRanks_row_tie rfl ⟨rfl,rfl⟩ (by kernel_rfl) rfl
  (fun f fn hf hfn=>by
   obtain rfl:f=7:=Option.some.inj (hf.symm.trans (show Tryz.prog.funcNamed "peloton/pelotonlaw45.ReportRanks" = some 7 by kernel_rfl))
   obtain rfl:fn=Tryz.f7:=(Option.some.inj (Tryz.func7.symm.trans hfn)).symm
   exact ⟨by kernel_rfl,fun j t ht=>by
    have hm:t∈Tryz.f7.params.toList:=by rw [Array.mem_toList_iff];exact Array.mem_of_getElem? ht
    exact (by simpa using List.all_eq_true.1 reportRanks_params t hm:Tryz.prog.wantsStandIn t=false)⟩)
  (by kernel_rfl)
#print axioms reportRanks_proved
end Go.Proofs.YtfkfficabeclcaaGreatDoor
