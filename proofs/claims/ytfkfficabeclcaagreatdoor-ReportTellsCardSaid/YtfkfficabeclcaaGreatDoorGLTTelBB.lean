import Derived.Test.YtfkfficabeclcaaGreatDoorGLTTelBA
import Derived.Test.YtfkfficabeclcaaGreatDoorGLTTelAQ
import Derived.Test.YtfkfficabeclcaaGreatDoorGLTTelAP
import Derived.Test.YtfkfficabeclcaaGreatDoorGLTTelAU
set_option linter.all false
namespace Go.Proofs.YtfkfficabeclcaaGreatDoor
open Go Go.RowKit Go.Sort Sx
open Go.Lib hiding intOf
set_option maxRecDepth 2000
theorem rqGreat_fn (m:Md) (l:List Ak):FnOK Tryz.prog 22 [m.dc,.one (aks l)] (.c (.one (bol (great m.l || decide (20<l.length∧l.length≤120∨130<l.length))))):=by
 have H:=rfGreat_fn m.l
 have hal:(l.map Ak.c).length=l.length:=List.length_map ..
 cases hg:great m.l
 ·rw [hg] at H
  refine fn_ok (by kernel_rfl) ty_ok Tryz.func22 rfl (fun _ _=>Tryz.call22 _ _) rfl ?_
  intro hw
  simp only [WDCs,WDC,WDs] at hw
  have w1:=wd_aks hw.2.1
  clear hw
  repeat' ((conv=>whnf);first|(with_reducible first|refine br_t ?_|refine br_f ?_|refine za ?_|refine zg ?_)|rw [hal]|refine zp ?_|refine zq ?_|(with_reducible first|refine bc (fun h => ?_) (fun h => ?_)|refine zt ?_|refine zf ?_|refine br_i (fun h => ?_) (fun h => ?_))|refine zg ?_|refine zi ?_|refine zb ?_)
  all_goals conv=>whnf
  all_goals
   refine r_bool ?_
   rw [Bool.eq_iff_iff]
   simp only [Bool.false_or,decide_eq_true_eq,Bool.false_eq_true,false_iff,iff_false,true_iff,iff_true]
   first|omega|(rw [iff_comm];omega)|trivial
 ·rw [hg] at H
  refine fn_ok (by kernel_rfl) ty_ok Tryz.func22 rfl (fun _ _=>Tryz.call22 _ _) rfl ?_
  intro hw
  clear hw
  exact zw
theorem strs_get {l:List Str} {i:Nat} (h:i<l.length):(l.map fun s=>[str s])[((i:Nat):Int).toNat]? = some [str l[i]]:=by
 rw [Int.toNat_natCast,List.getElem?_map,List.getElem?_eq_getElem h];rfl
set_option maxRecDepth 100000 in
set_option maxHeartbeats 8000000 in
theorem LTTells_fn (m:Md) (l:List Ak):FnOK Tryz.prog 4 [m.dc,.one (aks l)] (.c (.one (bol true))):=by
 have A:=TLalive_fn
 have G:=rqGreat_fn m l
 have C:=roCheck_fn m
 have R:=oRun_fn m l
 have hal:(l.map Ak.c).length=l.length:=List.length_map ..
 cases hg:(great m.l || decide (20<l.length∧l.length≤120∨130<l.length))
 case true =>
  rw [hg] at G
  clear R hg
  obtain ⟨n,d,ps⟩:=m
  simp only [Md.dc] at *
  refine fn_ok (by kernel_rfl) (ty_okK [9,97] [] [] []) Tryz.func4 rfl (fun _ _=>Tryz.call4 _ _) rfl ?_
  intro hw
  clear hw
  exact zw
 rw [hg] at G
 by_cases hl:20<l.length
 ·clear R hg
  obtain ⟨n,d,ps⟩:=m
  simp only [Md.dc] at *
  refine fn_ok (by kernel_rfl) (ty_okK [9,97] [] [] []) Tryz.func4 rfl (fun _ _=>Tryz.call4 _ _) rfl ?_
  intro hw
  clear hw
  exact zw
 by_cases hm:mchk m=0
 case neg =>
  generalize mchk m=z at *
  clear R hg
  obtain ⟨n,d,ps⟩:=m
  simp only [Md.dc] at *
  refine fn_ok (by kernel_rfl) (ty_okK [9,97] [] [] []) Tryz.func4 rfl (fun _ _=>Tryz.call4 _ _) rfl ?_
  intro hw
  clear hw
  exact zw
 rw [hm] at C
 have hgood:=runs_good l hm
 have hrl:=runs_len m l
 unfold runV at R
 rw [if_pos hm,if_neg (by omega)] at R
 generalize (runs m l).2=Rs at *
 generalize (runs m l).1=M at *
 have hms:∀ r∈Rs,r.ms.length≤1000000:=fun r hr=>by
  rcases rchk_cases (hgood r hr).1 with ⟨_,_,h3⟩|⟨_,h4,_⟩|⟨_,_,_,_,h3⟩|⟨_,_,_,_,_,_,h3⟩|h3
  ·rw [h3];exact Nat.zero_le _
  ·unfold mtR at h4
   simp only [Bool.and_eq_true,decide_eq_true_eq] at h4
   have:=h4.2
   omega
  ·rw [h3];exact Nat.zero_le _
  ·rw [h3];exact Nat.zero_le _
  ·rw [h3];exact Nat.zero_le _
 have hRl:(Rs.map Rp.c).length=Rs.length:=List.length_map ..
 clear hg
 obtain ⟨n,d,ps⟩:=m
 obtain ⟨Mn,Md',Ml⟩:=M
 simp only [Md.dc,retR] at *
 refine fn_ok (by kernel_rfl) (ty_okK [9,97] [] [] []) Tryz.func4 rfl (fun _ _=>Tryz.call4 _ _) rfl ?_
 intro hw
 clear hw
 repeat' ((conv=>whnf);first|(with_reducible first|refine br_t ?_|refine br_f ?_|refine za ?_|refine zg ?_|refine zo ?_)|refine zp ?_|refine zq ?_|(with_reducible first|refine bc (fun h => ?_) (fun h => ?_)|refine zt ?_|refine zf ?_|refine br_i (fun h => ?_) (fun h => ?_))|refine zg ?_|refine zi ?_|refine zb ?_|refine zl ?_)
 all_goals conv=>whnf
 refine loop_keep [1,5,7,9,10] ?_
 conv=>whnf
 refine loop_J (by kernel_rfl) (ty_okK [9,97] [] [] []) (σ:=Nat) (fun i=>[(10,sV (.int .i64 (i:Nat))),(9,.c (.at (.osl 9 0)))]) (fun i=>[(9,.row 1 (((Rs.take i).map rText).map fun s=>[str s]) 0)]) (fun i=>i≤Rs.length) (fun i=>Rs.length-i) 0 (Nat.zero_le _) ?_ ?_
 ·(conv=>whnf);exact zent
 intro i hi
 have hTl:((Rs.take i).map rText).length=i:=by rw [List.length_map,List.length_take];omega
 have hTl2:(((Rs.take i).map rText).map fun s=>[str s]).length=i:=by rw [List.length_map,hTl]
 rcases Nat.lt_or_ge i Rs.length with hlt|hge
 ·have hel:=rps_get hlt
  have hmem:=List.getElem_mem hlt
  have R1:=tReply_fn Rs[i] (hms _ hmem)
  have C1:=tCheck_fn Rs[i] (hms _ hmem)
  have g1:=hgood _ hmem
  unfold replyV at R1
  rw [if_pos g1.1] at R1
  rw [g1.1] at C1
  have hS:=fun (q:Rp)=>roSame_fn Rs[i] q
  have hnx:((Rs.take i).map rText).map (fun s=>[str s])++[[str (rText Rs[i])]]=((Rs.take (i+1)).map rText).map fun s=>[str s]:=by
   rw [List.take_succ_eq_append_getElem hlt,List.map_append,List.map_append];rfl
  have hinj:=fun (q:Rp) (h:rchk q=0) (k:rin q)=>rText_inj g1.1 g1.2 h k
  have ew:IntKind.i64.wrap ((i:Int)+1)=((i+1:Nat):Int):=by rw [IntWalk.i64_in _ (by omega)];omega
  generalize rText Rs[i]=T at *
  generalize hr:Rs[i]=r at *
  obtain ⟨r1,r2,r3,r4,r5,r6⟩:=r
  simp only [Rp.dc,retS,ret1] at R1 C1 hS
  clear g1 A G C R
  repeat' ((conv=>whnf);first|(with_reducible first|refine br_t ?_|refine br_f ?_|refine za ?_|refine zg ?_|refine zo ?_)|refine zsl ?_|refine zsg ?_|refine zss ?_|refine zs1 ?_|refine zse ?_|refine zsn ?_|refine zsc ?_|(with_reducible first|refine zpa ?_|refine zqa ?_)|refine zp ?_|refine zq ?_|(with_reducible first|refine bc (fun h => ?_) (fun h => ?_)|refine zt ?_|refine zf ?_|refine br_i (fun h => ?_) (fun h => ?_))|refine zg ?_|refine zi ?_|refine zb ?_|refine zl ?_)
  all_goals conv=>whnf
  refine loop_J (by kernel_rfl) (ty_okK [9,97] [] [] []) (σ:=Nat) (fun k=>[(13,sV (.int .i64 (k:Nat)))]) (fun _=>[]) (fun k=>k≤i) (fun k=>i-k) 0 (Nat.zero_le _) ?_ ?_
  ·(conv=>whnf);exact zent
  intro k hk
  rcases Nat.lt_or_ge k i with hkl|hkg
  ·have hkR:k<Rs.length:=by omega
   have hel2:=rps_get hkR
   have hmk:=List.getElem_mem hkR
   have gk:=hgood _ hmk
   have S:=hS Rs[k]
   have hJ:=hinj Rs[k] gk.1 gk.2
   have hst:=strs_get (l:=(Rs.take i).map rText) (i:=k) (by omega)
   have hst2:((Rs.take i).map rText)[k]'(by omega)=rText Rs[k]:=by rw [List.getElem_map,List.getElem_take]
   rw [hst2] at hst
   have ewk:IntKind.i64.wrap ((k:Int)+1)=((k+1:Nat):Int):=by rw [IntWalk.i64_in _ (by omega)];omega
   generalize rText Rs[k]=U at *
   by_cases hq:(⟨r1,r2,r3,r4,r5,r6⟩:Rp)=Rs[k]
   ·have hTU:=hJ.2 hq
    rw [decide_eq_true hq] at S
    have f1:(!(decide (T=U) == true))=false:=by rw [decide_eq_true hTU];rfl
    clear hJ hq
    generalize Rs[k]=q at *
    obtain ⟨q1,q2,q3,q4,q5,q6⟩:=q
    simp only [Rp.dc] at S
    clear hgood hms hS hinj R1 C1 hnx hTU
    repeat' ((conv=>whnf);first|(with_reducible first|refine br_t ?_|refine br_f ?_|refine za ?_|refine zg ?_|refine zo ?_)|refine zsl ?_|refine zsg ?_|refine zss ?_|refine zs1 ?_|refine zse ?_|refine zsn ?_|refine zsc ?_|(with_reducible first|refine zpa ?_|refine zqa ?_)|refine zp ?_|refine zq ?_|(with_reducible first|refine bc (fun h => ?_) (fun h => ?_)|refine zt ?_|refine zf ?_|refine br_i (fun h => ?_) (fun h => ?_))|refine zg ?_|refine zi ?_|refine zb ?_|refine zl ?_)
    all_goals conv=>whnf
    refine ⟨k+1,hkl,?_,by omega⟩
    (conv=>whnf);exact zent
   ·have hTU:¬ T=U:=fun h=>hq (hJ.1 h)
    rw [decide_eq_false hq] at S
    have f1:(!(decide (T=U) == false))=false:=by rw [decide_eq_false hTU];rfl
    clear hJ hq
    generalize Rs[k]=q at *
    obtain ⟨q1,q2,q3,q4,q5,q6⟩:=q
    simp only [Rp.dc] at S
    clear hgood hms hS hinj R1 C1 hnx hTU
    repeat' ((conv=>whnf);first|(with_reducible first|refine br_t ?_|refine br_f ?_|refine za ?_|refine zg ?_|refine zo ?_)|refine zsl ?_|refine zsg ?_|refine zss ?_|refine zs1 ?_|refine zse ?_|refine zsn ?_|refine zsc ?_|(with_reducible first|refine zpa ?_|refine zqa ?_)|refine zp ?_|refine zq ?_|(with_reducible first|refine bc (fun h => ?_) (fun h => ?_)|refine zt ?_|refine zf ?_|refine br_i (fun h => ?_) (fun h => ?_))|refine zg ?_|refine zi ?_|refine zb ?_|refine zl ?_)
    all_goals conv=>whnf
    refine ⟨k+1,hkl,?_,by omega⟩
    (conv=>whnf);exact zent
  ·obtain rfl:k=i:=by omega
   clear hgood hms hS hinj R1 C1
   repeat' ((conv=>whnf);first|(with_reducible first|refine br_t ?_|refine br_f ?_|refine za ?_|refine zg ?_|refine zo ?_)|refine zsl ?_|refine zsg ?_|refine zss ?_|refine zs1 ?_|refine zse ?_|refine zsn ?_|refine zsc ?_|(with_reducible first|refine zpa ?_|refine zqa ?_)|refine zp ?_|refine zq ?_|(with_reducible first|refine bc (fun h => ?_) (fun h => ?_)|refine zt ?_|refine zf ?_|refine br_i (fun h => ?_) (fun h => ?_))|refine zg ?_|refine zi ?_|refine zb ?_|refine zl ?_)
   all_goals conv=>whnf
   refine ⟨k+1,by omega,?_,by omega⟩
   (conv=>whnf);refine ⟨by repeat' (first|with_reducible exact zE0|with_reducible refine zE1 ?_ ?_|rfl|assumption|((exact congrArg (fun x=>some (Blk.row 1 x 0)) hnx))|exact zi1|exact zb1),by repeat' (first|with_reducible exact zH0|with_reducible refine zH1 ?_ ?_|rfl|assumption|((exact congrArg (fun x=>some (Blk.row 1 x 0)) hnx))),rfl⟩
 ·obtain rfl:i=Rs.length:=by omega
  clear hgood hms
  repeat' ((conv=>whnf);first|(with_reducible first|refine br_t ?_|refine br_f ?_|refine za ?_|refine zg ?_|refine zo ?_)|refine zsl ?_|refine zsg ?_|refine zss ?_|refine zs1 ?_|refine zse ?_|refine zsn ?_|refine zsc ?_|(with_reducible first|refine zpa ?_|refine zqa ?_)|refine zp ?_|refine zq ?_|(with_reducible first|refine bc (fun h => ?_) (fun h => ?_)|refine zt ?_|refine zf ?_|refine br_i (fun h => ?_) (fun h => ?_))|refine zg ?_|refine zi ?_|refine zb ?_|refine zl ?_)
  all_goals conv=>whnf
  all_goals rfl
end Go.Proofs.YtfkfficabeclcaaGreatDoor

namespace Go.Proofs.YtfkfficabeclcaaGreatDoor
open Go Go.RowKit Go.ChangeShapes Go.WideShapes Go.ChangeAt Sx
theorem reportTells_own:ownKnob Tryz.prog.godebug=none:=by kernel_rfl
set_option maxRecDepth 100000 in
theorem reportTells_wit (os:Os) {H:Type} (enc:TypeId × Value→H) :
  (OpenSpec.ofChange Rows.reportTellsSpec).preRow enc Tryz.prog Tryz.f4 Rows.reportTellsRow.domain false Rows.reportTellsRow.laid ((laidWorld os).forCall (fun _ _=>0) ⟨#[],#[.agg #[.int .i64 0,.int .i64 0,.slice none 0 0],.slice none 0 0],[]⟩).memory #[.agg #[.int .i64 0,.int .i64 0,.slice none 0 0],.slice none 0 0]:=by
 have hw:(DataW.whole enc Tryz.prog ((laidWorld os).forCall (fun _ _=>0) ⟨#[],#[.agg #[.int .i64 0,.int .i64 0,.slice none 0 0],.slice none 0 0],[]⟩).memory Tryz.f4.params.toList (OpenSpec.ofChange Rows.reportTellsSpec).vars false (#[.agg #[.int .i64 0,.int .i64 0,.slice none 0 0],.slice none 0 0]:Array Value).toList 8).map (fun x=>(x.1,x.2.1)) =
   some ([.agg [.agg [.lit (.int .i64 0),.lit (.int .i64 0)],.agg [.nil]],.nil],[]):=by kernel_rfl
 obtain ⟨⟨x1,x2,x3⟩,hx,hx1⟩:=Option.map_eq_some_iff.1 hw
 simp only [Prod.mk.injEq] at hx1
 obtain ⟨rfl,rfl⟩:=hx1
 exact OpenSpec.preRow_of_cond 8 hx (by kernel_rfl) (fun k hk=>by cases hk) (by kernel_rfl) (laid_met os _)
set_option maxRecDepth 100000 in
theorem reportTells_lifted (os:Os) (started:os.Started) (H:Type) (enc:TypeId × Value→H) (F:Stop.Interp) :
  ReturnsInHanded {} Tryz.checked os 4 .any ((OpenSpec.ofChange Rows.reportTellsSpec).preRow enc Tryz.prog Tryz.f4 Rows.reportTellsRow.domain false Rows.reportTellsRow.laid) (((OpenSpec.ofChange Rows.reportTellsSpec).at F).post enc Tryz.prog Tryz.f4 false true false false):=by
 refine returnsInHanded_of_row (C:=Tryz.checked) (s:=OpenSpec.ofChange Rows.reportTellsSpec) reportTells_own started (by kernel_rfl) Tryz.func4
  (witness_row_at (enc:=enc) (C:=Tryz.checked) false (laidWorld os) #[.agg #[.int .i64 0,.int .i64 0,.slice none 0 0],.slice none 0 0] rfl (by kernel_rfl) (by kernel_rfl) (by kernel_rfl) (reportTells_wit os enc)) ?_
 intro W base args ds gs before hval0 hW _ _ _ hL hsh _
 have hgd:=gd_of hL hsh
 have hval:∀ (j:Nat) t v,Tryz.f4.params[j]? = some t→args[j]? = some v→Value.okWide Tryz.prog W .any base t v:=hval0
 have hW':=hW
 obtain ⟨p,q,hA0,hV,rfl,hfz,hnd⟩:=hW
 have hA:DataW.TrodAll enc Tryz.prog W 0 (fun _=>true) true Tryz.f4.params.toList args.toList ds p:=hA0
 rw [Tryz.params4] at hA hval
 obtain ⟨v0,vs0,d0,ds0,p0,q0,hargs,rfl,rfl,h0,r0⟩:=trodAll_cons hA
 obtain ⟨v1,vs1,d1,ds1,p1,q1,rfl,rfl,rfl,h1,r1⟩:=trodAll_cons r0
 obtain ⟨rfl,rfl,rfl⟩:=trodAll_nil r1
 obtain rfl:args=#[v0,v1]:=by cases args;simp_all
 obtain ⟨e0,hd0,hf0⟩:=arg_data (tyB_ok (s:=shModel) (by kernel_rfl)) (hval 0 41 v0 rfl rfl) h0
 obtain ⟨m,rfl⟩:=fit_model hf0
 obtain ⟨e1,hd1,hf1⟩:=arg_data (tyB_ok (s:=shAsks) (by kernel_rfl)) (hval 1 58 v1 rfl rfl) h1
 obtain ⟨l,rfl⟩:=fit_asks hf1
 refine (law_of_fn (vs:=[v0,v1]) (fun _ _=>Tryz.call4 _ _) (LTTells_fn m l) hgd ⟨hd0,hd1,trivial⟩).mono fun e W' ⟨he,hb⟩ => ?_
 subst he
 exact ⟨_,rfl,law_post (s:=Rows.reportTellsSpec) (by kernel_rfl) (by kernel_rfl) rfl Tryz.underlying4 rfl hW' ⟨rfl,rfl,rfl⟩ hb⟩
theorem reportTells_and {a b:Bool} (h:a=true) (k:b=true):(a && b)=true:=by rw [h,k];rfl
theorem reportTells_c0:(Rows.reportTellsRow.inPlace == Tryz.prog.inPlace 4)=true:=by kernel_rfl
theorem reportTells_c1:(Rows.reportTellsRow.unfollowed == Tryz.prog.unfollowed 4)=true:=by kernel_rfl
theorem reportTells_c2:(Rows.reportTellsRow.recurses == Tryz.prog.recurses 4)=true:=by kernel_rfl
theorem reportTells_c3:(Rows.reportTellsRow.named == Tryz.prog.varsNamed 4)=true:=by kernel_rfl
theorem reportTells_c4:(Rows.reportTellsRow.loops == (Tryz.f4.params.toList++(OpenSpec.ofChange Rows.reportTellsSpec).bare.plain.varTypes Tryz.prog).any (Tryz.prog.loopsFrom ·))=true:=by kernel_rfl
theorem reportTells_c5:laidOutB Tryz.prog=true:=by kernel_rfl
theorem reportTells_c6:mapsRowed Tryz.prog=true:=by kernel_rfl
theorem reportTells_c7:Tryz.prog.stopsHeard=true:=by kernel_rfl
theorem reportTells_c8:Tryz.prog.mayEnter=true:=by kernel_rfl
theorem reportTells_facts:joinedFacts Tryz.prog 4 Tryz.f4 (OpenSpec.ofChange Rows.reportTellsSpec).bare Rows.reportTellsRow=true:=by
 unfold joinedFacts
 repeat' (with_reducible refine reportTells_and ?_ ?_)
 all_goals first|with_reducible exact reportTells_c0|with_reducible exact reportTells_c1|with_reducible exact reportTells_c2|with_reducible exact reportTells_c3|with_reducible exact reportTells_c4|with_reducible exact reportTells_c5|with_reducible exact reportTells_c6|with_reducible exact reportTells_c7|with_reducible exact reportTells_c8|kernel_rfl
theorem reportTells_over:Rows.reportTellsRow.holds Tryz.pinned (OpenSpec.ofChange Rows.reportTellsSpec) :=
 OpenClaim.holds_of_cond 4 Tryz.f4 rfl rfl rfl rfl rfl rfl rfl ⟨rfl,rfl,rfl,rfl,rfl⟩ rfl rfl rfl rfl rfl (by kernel_rfl) Tryz.func4 reportTells_facts
  (of_decide_eq_true (by kernel_rfl)) (by unfold Func.isWrapper;rw [if_neg (of_decide_eq_false (by kernel_rfl))];exact ⟨rfl,rfl⟩)
  (fun os started H enc _ F0=>by rw [OpenClaim.pre_eq_preRow];exact reportTells_lifted os started H enc F0)
theorem reportTells_params:(Tryz.f4.params.toList.all fun t => !Tryz.prog.wantsStandIn t)=true:=by kernel_rfl
theorem reportTells_proved:Rows.ReportTellsCardSaid :=
 Claim7.holds_tied_plain_at .later [] Rows.reportTellsCard.laidKinds true Rows.reportTellsCard.stood.harness Rows.reportTellsCard.stood.looks
  reportTells_over (fun _ h=>by cases h) (by kernel_rfl) (fun _ h=>by cases h) reportTells_row_tie rfl ⟨rfl,rfl⟩ (by kernel_rfl) rfl
  (fun f fn hf hfn=>by
   obtain rfl:f=4:=Option.some.inj (hf.symm.trans (show Tryz.prog.funcNamed "peloton/pelotonlaw45.ReportTells" = some 4 by kernel_rfl))
   obtain rfl:fn=Tryz.f4:=(Option.some.inj (Tryz.func4.symm.trans hfn)).symm
   exact ⟨by kernel_rfl,fun j t ht=>by
    have hm:t∈Tryz.f4.params.toList:=by rw [Array.mem_toList_iff];exact Array.mem_of_getElem? ht
    exact (by simpa using List.all_eq_true.1 reportTells_params t hm:Tryz.prog.wantsStandIn t=false)⟩)
  (by kernel_rfl)
#print axioms reportTells_proved
end Go.Proofs.YtfkfficabeclcaaGreatDoor
