import Derived.Test.YtfkfficabeclcaaGreatDoorGLTBackAY
import Derived.Test.YtfkfficabeclcaaGreatDoorGLTBackAP
import Derived.Test.YtfkfficabeclcaaGreatDoorGLTBackAO
import Derived.Test.YtfkfficabeclcaaGreatDoorGLTBackAS
set_option linter.all false
namespace Go.Proofs.YtfkfficabeclcaaGreatDoor
open Go Go.RowKit Go.Sort Sx
open Go.Lib hiding intOf
set_option maxRecDepth 2000
theorem fn_wd {f:Nat} {args:List DC} {r:DV} (h:WDCs args→FnOK Tryz.prog f args r):FnOK Tryz.prog f args r:=fun w M vs hM hvs=>h hvs.wd w M vs hM hvs
theorem rText_len {r:Rp} (h:rchk r=0) (hf:rin r) (hl:r.ms.length≤1000):(rText r).length≤100000:=by
 have hin:∀ n d:Int,fit2 n d→in64 n∧in64 d:=fun n d h=>⟨fit_in h.1,fit_in h.2⟩
 rcases rchk_cases h with ⟨h1,h2,h3⟩|⟨h1,h2,h3⟩|⟨h0,h1,h2,h3,h4⟩|⟨h0,h1,h2,h3,h4,h5,h6⟩|h1
 ·rw [h3]
  unfold rText
  rw [words_e (by omega)]
  have:=itoa_21 (n:=r.e) (by omega) (by omega)
  simp only [joinS,List.length_append,List.length_cons,wErr,List.length_nil]
  omega
 ·have hml:∀ m∈r.ms,(mText m).length≤87:=fun m hm=>by
   obtain ⟨c1,c2,c3,c4⟩:=mOk_i.1 (mRun_ok (by unfold mtR at h2;simp only [Bool.and_eq_true] at h2;exact h2.1) m hm)
   obtain ⟨i1,i2⟩:=hin _ _ (hf.2 m hm)
   exact mText_len i1 i2 c2 c3 c4
  have:=mtK_len hml r.ms.length (Nat.le_refl _)
  rw [mtK_all h1] at this
  rw [h3]
  omega
 ·obtain ⟨i1,i2⟩:=hin _ _ hf.1
  have a:=numV_len i1 i2
  have b:=itoa_21 (n:=r.i) (by omega) (by omega)
  rw [h4]
  unfold rText
  rw [words_l h0]
  simp only [joinS,List.length_append,List.length_cons,wLeader,List.length_nil]
  omega
 ·obtain ⟨i1,i2⟩:=hin _ _ hf.1
  have a:=numV_len i1 i2
  have b:=itoa_21 (n:=r.i) (by omega) (by omega)
  have c:=itoa_21 (n:=r.j) (by omega) (by omega)
  rw [h6]
  unfold rText
  rw [words_p h0 (by omega)]
  simp only [joinS,List.length_append,List.length_cons,wPair,List.length_nil]
  omega
 ·rw [h1];decide
theorem rp_wd {r:Rp} (hw:WDC r.dc) (h:rchk r=0):rin r:=by
 obtain ⟨h1,h2,h3,h4,h5,h6,_⟩:=hw
 have n1:=wd_i64.1 h4
 have n2:=wd_i64.1 h5
 obtain ⟨_,_,h7⟩:=WD_list.1 h6
 refine rin_of h ⟨by omega,by omega,by omega⟩ fun m hm => ?_
 have h8:=h7 m.c (List.mem_map_of_mem hm)
 have a:=wd_i64.1 (h8 (i64 m.n) (by simp [Mt.c]))
 have b:=wd_i64.1 (h8 (i64 m.d) (by simp [Mt.c]))
 exact ⟨by omega,by omega,by omega⟩
theorem rread_cases {s:Str} (hs:s.length≤2000):∃ X g,rreadP s=(X,g)∧(g=0∨g=12)∧(g=0→replyV X=(s,0)):=by
 have e:rreadP s=rrdP s:=by unfold rreadP;rw [if_neg (by omega)]
 rw [e]
 refine ⟨(rrdP s).1,(rrdP s).2,rfl,?_,fun h => ?_⟩
 ·by_cases h:(rrdP s).2=0
  ·exact .inl h
  ·rw [rrdP_is.no s h];exact .inr rfl
 ·obtain ⟨⟨h1,_⟩,h2⟩:=rrdP_is.ok s h
  unfold replyV
  rw [if_pos h1,h2]
theorem sread_cases {s:Str} (hs:s.length≤2000):∃ X g,sreadP s=(X,g)∧(g=0∨g=12)∧(g=0→standV X=(s,0)):=by
 have e:sreadP s=srdP s:=by unfold sreadP;rw [if_neg (by omega)]
 rw [e]
 refine ⟨(srdP s).1,(srdP s).2,rfl,?_,fun h => ?_⟩
 ·by_cases h:(srdP s).2=0
  ·exact .inl h
  ·rw [srdP_is.no s h];exact .inr rfl
 ·obtain ⟨h1,h2⟩:=srdP_is.ok s h
  unfold standV
  rw [if_pos h1,h2]
theorem rreadP_ms {s:Str} {X:Rp} {g:Int} (h:rreadP s=(X,g)):X.ms.length≤1000000:=by
 by_cases h0:g=0
 ·unfold rreadP at h
  split at h
  ·injection h with h1 h2;rw [← h1];decide
  ·have:=rrdP_is.ok s (by rw [h];exact h0)
   rw [h] at this
   rcases rchk_cases this.1.1 with ⟨_,_,h3⟩|⟨_,h4,h3⟩|⟨_,h4,_,_,h3⟩|⟨_,h4,_,_,_,_,h3⟩|h3
   ·show X.ms.length≤_;rw [show X=rpE X.e from h3];exact Nat.zero_le _
   ·unfold mtR at h4
    simp only [Bool.and_eq_true,decide_eq_true_eq] at h4
    show X.ms.length≤_
    have:X.ms.length≤2016:=h4.2
    omega
   ·show X.ms.length≤_;rw [show X=⟨0,X.i,0,X.n,X.d,[]⟩ from h3];exact Nat.zero_le _
   ·show X.ms.length≤_;rw [show X=⟨0,X.i,X.j,X.n,X.d,[]⟩ from h3];exact Nat.zero_le _
   ·show X.ms.length≤_;rw [show X=rp0 from h3];decide
 ·unfold rreadP at h
  split at h
  ·injection h with h1 h2;rw [← h1];decide
  ·have h5:=rrdP_is.no s (by rw [h];exact h0)
   rw [h] at h5
   injection h5 with h6 h7
   rw [h6];decide
theorem LTBack_early (r:Rp) (m:Md) (s t:Str) (hs0:s.length≤9223372036854775807) (ht0:t.length≤9223372036854775807) (h:40<r.ms.length∨great m.l=true∨2000<s.length∨2000<t.length):FnOK Tryz.prog 6 [r.dc,m.dc,.one (str s),.one (str t)] (.c (.one (bol true))):=by
 have A:=TLalive_fn
 have G:=rfGreat_fn m.l
 have hml:(r.ms.map Mt.c).length=r.ms.length:=List.length_map ..
 obtain ⟨e,i,j,n,d,ms⟩:=r
 obtain ⟨mn,md,l⟩:=m
 simp only [Rp.dc,Md.dc] at *
 by_cases h1:40<ms.length
 ·clear G
  refine fn_ok (by kernel_rfl) ty_ok Tryz.func6 rfl (fun _ _=>Tryz.call6 _ _) rfl ?_
  intro hw
  clear hw
  repeat' ((conv=>whnf);first|(with_reducible first|refine br_t ?_|refine br_f ?_|refine za ?_|refine zg ?_)|refine zsl ?_|refine zsg ?_|refine zss ?_|refine zs1 ?_|refine zse ?_|refine zsn ?_|refine zsc ?_|(with_reducible first|refine zpa ?_|refine zqa ?_)|refine zp ?_|refine zq ?_|(with_reducible first|refine bc (fun h => ?_) (fun h => ?_)|refine zt ?_|refine zf ?_|refine br_i (fun h => ?_) (fun h => ?_))|refine zg ?_|refine zi ?_|refine zb ?_)
  all_goals conv=>whnf
  all_goals rfl
 ·cases hg:great l
  ·rw [hg] at G h
   by_cases h2:2000<s.length
   ·refine fn_ok (by kernel_rfl) ty_ok Tryz.func6 rfl (fun _ _=>Tryz.call6 _ _) rfl ?_
    intro hw
    clear hw
    repeat' ((conv=>whnf);first|(with_reducible first|refine br_t ?_|refine br_f ?_|refine za ?_|refine zg ?_)|refine zsl ?_|refine zsg ?_|refine zss ?_|refine zs1 ?_|refine zse ?_|refine zsn ?_|refine zsc ?_|(with_reducible first|refine zpa ?_|refine zqa ?_)|refine zp ?_|refine zq ?_|(with_reducible first|refine bc (fun h => ?_) (fun h => ?_)|refine zt ?_|refine zf ?_|refine br_i (fun h => ?_) (fun h => ?_))|refine zg ?_|refine zi ?_|refine zb ?_)
    all_goals conv=>whnf
    all_goals rfl
   ·have h3:2000<t.length:=by
     rcases h with h|h|h|h
     ·exact absurd h h1
     ·cases h
     ·exact absurd h h2
     ·exact h
    refine fn_ok (by kernel_rfl) ty_ok Tryz.func6 rfl (fun _ _=>Tryz.call6 _ _) rfl ?_
    intro hw
    clear hw
    repeat' ((conv=>whnf);first|(with_reducible first|refine br_t ?_|refine br_f ?_|refine za ?_|refine zg ?_)|refine zsl ?_|refine zsg ?_|refine zss ?_|refine zs1 ?_|refine zse ?_|refine zsn ?_|refine zsc ?_|(with_reducible first|refine zpa ?_|refine zqa ?_)|refine zp ?_|refine zq ?_|(with_reducible first|refine bc (fun h => ?_) (fun h => ?_)|refine zt ?_|refine zf ?_|refine br_i (fun h => ?_) (fun h => ?_))|refine zg ?_|refine zi ?_|refine zb ?_)
    all_goals conv=>whnf
    all_goals rfl
  ·rw [hg] at G
   refine fn_ok (by kernel_rfl) ty_ok Tryz.func6 rfl (fun _ _=>Tryz.call6 _ _) rfl ?_
   intro hw
   clear hw
   repeat' ((conv=>whnf);first|(with_reducible first|refine br_t ?_|refine br_f ?_|refine za ?_|refine zg ?_)|refine zsl ?_|refine zsg ?_|refine zss ?_|refine zs1 ?_|refine zse ?_|refine zsn ?_|refine zsc ?_|(with_reducible first|refine zpa ?_|refine zqa ?_)|refine zp ?_|refine zq ?_|(with_reducible first|refine bc (fun h => ?_) (fun h => ?_)|refine zt ?_|refine zf ?_|refine br_i (fun h => ?_) (fun h => ?_))|refine zg ?_|refine zi ?_|refine zb ?_)
   all_goals conv=>whnf
   all_goals rfl
set_option maxRecDepth 100000 in
set_option maxHeartbeats 8000000 in
theorem LTBack_main (r:Rp) (m:Md) (s t:Str) (h1:¬ 40<r.ms.length) (hg:great m.l=false) (h2:¬ 2000<s.length) (h3:¬ 2000<t.length):FnOK Tryz.prog 6 [r.dc,m.dc,.one (str s),.one (str t)] (.c (.one (bol true))):=by
 have A:=TLalive_fn
 have G:=rfGreat_fn m.l
 rw [hg] at G
 have hml:(r.ms.map Mt.c).length=r.ms.length:=List.length_map ..
 have R1:=tReply_fn r (by omega)
 have C1:=tCheck_fn r (by omega)
 have C2:=rtCheck_fn r (by omega)
 have O1:=oCheck_fn m
 have O2:=roCheck_fn m
 have S1:=tStanding_fn m
 obtain ⟨X,g,hX,hg1,hX2⟩:=rread_cases (s:=s) (by omega)
 have D1:=tReadReply_fn s (by omega)
 have D2:=tReply_fn X (rreadP_ms hX)
 rw [hX] at D1
 obtain ⟨Y,k,hY,hk1,hY2⟩:=sread_cases (s:=t) (by omega)
 have E1:=tReadStanding_fn t (by omega)
 have E2:=tStanding_fn Y
 rw [hY] at E1
 refine fn_wd fun hwd => ?_
 obtain ⟨ck,hck,hck1,I1⟩:∃ ck,rchk r=ck∧(ck=0∨ck=8)∧(ck=0→replyV r=(rText r,0)∧FnOK Tryz.prog 8 [r.dc,.one (str (rText r))] (.c (.one (bol true)))):=⟨_,rfl,rchk_08 r,fun h=>by
  have hin:=rp_wd hwd.1 h
  have hl:=rText_len h hin (by omega)
  obtain ⟨b1,b2⟩:=reply_back h hin (by omega)
  exact ⟨b1,TLis_fn r _ b1 b2 (by omega) (by omega)⟩⟩
 obtain ⟨zk,hzk,hzk1,I2⟩:∃ zk,mchk m=zk∧(zk=0∨zk=8)∧(zk=0→standV m=(stT m,0)∧FnOK Tryz.prog 13 [m.dc,.one (str (stT m))] (.c (.one (bol true)))):=⟨_,rfl,mchk_08 m,fun h=>⟨(stand_back h).1,stands_fn m _ h rfl⟩⟩
 have J1:ck=8→replyV r=([],8):=fun h=>by unfold replyV;rw [if_neg (by omega)]
 have J2:zk=8→standV m=([],8):=fun h=>by unfold standV;rw [if_neg (by omega),hzk,h]
 rw [hck] at C1 C2
 rw [hzk] at O1 O2
 clear hX hY hck hzk hwd
 generalize replyV r=V1 at *
 generalize standV m=V2 at *
 generalize replyV X=V3 at *
 generalize standV Y=V4 at *
 generalize rText r=T1 at *
 generalize stT m=T2 at *
 obtain ⟨e,i,j,n,d,ms⟩:=r
 obtain ⟨mn,md,l⟩:=m
 obtain ⟨X1,X2,X3,X4,X5,X6⟩:=X
 obtain ⟨Y1,Y2,Y3⟩:=Y
 simp only [Rp.dc,Md.dc,retS,retRp,retMe,ret1] at *
 have hss:¬ ¬ s=s:=fun h=>h rfl
 have htt:¬ ¬ t=t:=fun h=>h rfl
 have hb0:(!(((0:Int) == 0) == ((0:Int) == 0)))=false:=by decide
 have hb8:(!(((8:Int) == 0) == ((8:Int) == 0)))=false:=by decide
 rcases hck1 with rfl|rfl
 all_goals rcases hzk1 with rfl|rfl
 all_goals rcases hg1 with rfl|rfl
 all_goals rcases hk1 with rfl|rfl
 all_goals try obtain ⟨rfl,I1⟩:=I1 rfl
 all_goals try obtain ⟨rfl,I2⟩:=I2 rfl
 all_goals try obtain rfl:=J1 rfl
 all_goals try obtain rfl:=J2 rfl
 all_goals try obtain rfl:=hX2 rfl
 all_goals try obtain rfl:=hY2 rfl
 all_goals clear J1 J2 hX2 hY2
 all_goals simp only at R1 S1 D2 E2
 all_goals
  refine fn_ok (by kernel_rfl) ty_ok Tryz.func6 rfl (fun _ _=>Tryz.call6 _ _) rfl ?_
  intro hw
  clear hw
  repeat' ((conv=>whnf);first|(with_reducible first|refine br_t ?_|refine br_f ?_|refine za ?_|refine zg ?_)|refine zsl ?_|refine zsg ?_|refine zss ?_|refine zs1 ?_|refine zse ?_|refine zsn ?_|refine zsc ?_|(with_reducible first|refine zpa ?_|refine zqa ?_)|refine zp ?_|refine zq ?_|(with_reducible first|refine bc (fun h => ?_) (fun h => ?_)|refine zt ?_|refine zf ?_|refine br_i (fun h => ?_) (fun h => ?_))|refine zg ?_|refine zi ?_|refine zb ?_)
  all_goals conv=>whnf
  all_goals rfl
theorem LTBack_fn (r:Rp) (m:Md) (s:Str) (hs0:s.length≤9223372036854775807) (t:Str) (ht0:t.length≤9223372036854775807):FnOK Tryz.prog 6 [r.dc,m.dc,.one (str s),.one (str t)] (.c (.one (bol true))):=by
 by_cases h1:40<r.ms.length
 ·exact LTBack_early r m s t hs0 ht0 (.inl h1)
 ·by_cases h2:2000<s.length
  ·exact LTBack_early r m s t hs0 ht0 (.inr (.inr (.inl h2)))
  ·by_cases h3:2000<t.length
   ·exact LTBack_early r m s t hs0 ht0 (.inr (.inr (.inr h3)))
   ·cases hg:great m.l
    ·exact LTBack_main r m s t h1 hg h2 h3
    ·exact LTBack_early r m s t hs0 ht0 (.inr (.inl hg))
end Go.Proofs.YtfkfficabeclcaaGreatDoor

namespace Go.Proofs.YtfkfficabeclcaaGreatDoor
open Go Go.RowKit Go.ChangeShapes Go.WideShapes Go.ChangeAt Sx
theorem reportBack_own:ownKnob Tryz.prog.godebug=none:=by kernel_rfl
set_option maxRecDepth 100000 in
theorem reportBack_wit (os:Os) {H:Type} (enc:TypeId × Value→H) :
  (OpenSpec.ofChange Rows.reportBackSpec).preRow enc Tryz.prog Tryz.f6 Rows.reportBackRow.domain false Rows.reportBackRow.laid ((laidWorld os).forCall (fun _ _=>0) ⟨#[],#[.agg #[.int .i64 0,.int .i64 0,.int .i64 0,.int .i64 0,.int .i64 0,.slice none 0 0],.agg #[.int .i64 0,.int .i64 0,.slice none 0 0],.string ⟨#[]⟩,.string ⟨#[]⟩],[]⟩).memory #[.agg #[.int .i64 0,.int .i64 0,.int .i64 0,.int .i64 0,.int .i64 0,.slice none 0 0],.agg #[.int .i64 0,.int .i64 0,.slice none 0 0],.string ⟨#[]⟩,.string ⟨#[]⟩]:=by
 have hw:(DataW.whole enc Tryz.prog ((laidWorld os).forCall (fun _ _=>0) ⟨#[],#[.agg #[.int .i64 0,.int .i64 0,.int .i64 0,.int .i64 0,.int .i64 0,.slice none 0 0],.agg #[.int .i64 0,.int .i64 0,.slice none 0 0],.string ⟨#[]⟩,.string ⟨#[]⟩],[]⟩).memory Tryz.f6.params.toList (OpenSpec.ofChange Rows.reportBackSpec).vars false (#[.agg #[.int .i64 0,.int .i64 0,.int .i64 0,.int .i64 0,.int .i64 0,.slice none 0 0],.agg #[.int .i64 0,.int .i64 0,.slice none 0 0],.string ⟨#[]⟩,.string ⟨#[]⟩]:Array Value).toList 8).map (fun x=>(x.1,x.2.1)) =
   some ([.agg [.lit (.int .i64 0),.lit (.int .i64 0),.lit (.int .i64 0),.agg [.lit (.int .i64 0),.lit (.int .i64 0)],.nil],.agg [.agg [.lit (.int .i64 0),.lit (.int .i64 0)],.agg [.nil]],.lit (.string []),.lit (.string [])],[]):=by kernel_rfl
 obtain ⟨⟨x1,x2,x3⟩,hx,hx1⟩:=Option.map_eq_some_iff.1 hw
 simp only [Prod.mk.injEq] at hx1
 obtain ⟨rfl,rfl⟩:=hx1
 exact OpenSpec.preRow_of_cond 8 hx (by kernel_rfl) (fun k hk=>by cases hk) (by kernel_rfl) (laid_met os _)
set_option maxRecDepth 100000 in
theorem reportBack_lifted (os:Os) (started:os.Started) (H:Type) (enc:TypeId × Value→H) (F:Stop.Interp) :
  ReturnsInHanded {} Tryz.checked os 6 .any ((OpenSpec.ofChange Rows.reportBackSpec).preRow enc Tryz.prog Tryz.f6 Rows.reportBackRow.domain false Rows.reportBackRow.laid) (((OpenSpec.ofChange Rows.reportBackSpec).at F).post enc Tryz.prog Tryz.f6 false true false false):=by
 refine returnsInHanded_of_row (C:=Tryz.checked) (s:=OpenSpec.ofChange Rows.reportBackSpec) reportBack_own started (by kernel_rfl) Tryz.func6
  (witness_row_at (enc:=enc) (C:=Tryz.checked) false (laidWorld os) #[.agg #[.int .i64 0,.int .i64 0,.int .i64 0,.int .i64 0,.int .i64 0,.slice none 0 0],.agg #[.int .i64 0,.int .i64 0,.slice none 0 0],.string ⟨#[]⟩,.string ⟨#[]⟩] rfl (by kernel_rfl) (by kernel_rfl) (by kernel_rfl) (reportBack_wit os enc)) ?_
 intro W base args ds gs before hval0 hW _ _ _ hL hsh _
 have hgd:=gd_of hL hsh
 have hval:∀ (j:Nat) t v,Tryz.f6.params[j]? = some t→args[j]? = some v→Value.okWide Tryz.prog W .any base t v:=hval0
 have hW':=hW
 obtain ⟨p,q,hA0,hV,rfl,hfz,hnd⟩:=hW
 have hA:DataW.TrodAll enc Tryz.prog W 0 (fun _=>true) true Tryz.f6.params.toList args.toList ds p:=hA0
 rw [Tryz.params6] at hA hval
 obtain ⟨v0,vs0,d0,ds0,p0,q0,hargs,rfl,rfl,h0,r0⟩:=trodAll_cons hA
 obtain ⟨v1,vs1,d1,ds1,p1,q1,rfl,rfl,rfl,h1,r1⟩:=trodAll_cons r0
 obtain ⟨v2,vs2,d2,ds2,p2,q2,rfl,rfl,rfl,h2,r2⟩:=trodAll_cons r1
 obtain ⟨v3,vs3,d3,ds3,p3,q3,rfl,rfl,rfl,h3,r3⟩:=trodAll_cons r2
 obtain ⟨rfl,rfl,rfl⟩:=trodAll_nil r3
 obtain rfl:args=#[v0,v1,v2,v3]:=by cases args;simp_all
 obtain ⟨e0,hd0,hf0⟩:=arg_data (tyB_ok (s:=shReply) (by kernel_rfl)) (hval 0 28 v0 rfl rfl) h0
 obtain ⟨r,rfl⟩:=fit_reply hf0
 obtain ⟨e1,hd1,hf1⟩:=arg_data (tyB_ok (s:=shModel) (by kernel_rfl)) (hval 1 41 v1 rfl rfl) h1
 obtain ⟨m,rfl⟩:=fit_model hf1
 obtain ⟨e2,hd2,hf2⟩:=arg_data (tyB_ok (s:=.str) (by kernel_rfl)) (hval 2 9 v2 rfl rfl) h2
 obtain ⟨s,hs,rfl⟩:=fit_str hf2
 obtain ⟨e3,hd3,hf3⟩:=arg_data (tyB_ok (s:=.str) (by kernel_rfl)) (hval 3 9 v3 rfl rfl) h3
 obtain ⟨t,ht,rfl⟩:=fit_str hf3
 refine (law_of_fn (vs:=[v0,v1,v2,v3]) (fun _ _=>Tryz.call6 _ _) (LTBack_fn r m s hs t ht) hgd ⟨hd0,hd1,hd2,hd3,trivial⟩).mono fun e W' ⟨he,hb⟩ => ?_
 subst he
 exact ⟨_,rfl,law_post (s:=Rows.reportBackSpec) (by kernel_rfl) (by kernel_rfl) rfl Tryz.underlying4 rfl hW' ⟨rfl,rfl,rfl⟩ hb⟩
theorem reportBack_and {a b:Bool} (h:a=true) (k:b=true):(a && b)=true:=by rw [h,k];rfl
theorem reportBack_c0:(Rows.reportBackRow.inPlace == Tryz.prog.inPlace 6)=true:=by kernel_rfl
theorem reportBack_c1:(Rows.reportBackRow.unfollowed == Tryz.prog.unfollowed 6)=true:=by kernel_rfl
theorem reportBack_c2:(Rows.reportBackRow.recurses == Tryz.prog.recurses 6)=true:=by kernel_rfl
theorem reportBack_c3:(Rows.reportBackRow.named == Tryz.prog.varsNamed 6)=true:=by kernel_rfl
theorem reportBack_c4:(Rows.reportBackRow.loops == (Tryz.f6.params.toList++(OpenSpec.ofChange Rows.reportBackSpec).bare.plain.varTypes Tryz.prog).any (Tryz.prog.loopsFrom ·))=true:=by kernel_rfl
theorem reportBack_c5:laidOutB Tryz.prog=true:=by kernel_rfl
theorem reportBack_c6:mapsRowed Tryz.prog=true:=by kernel_rfl
theorem reportBack_c7:Tryz.prog.stopsHeard=true:=by kernel_rfl
theorem reportBack_c8:Tryz.prog.mayEnter=true:=by kernel_rfl
theorem reportBack_facts:joinedFacts Tryz.prog 6 Tryz.f6 (OpenSpec.ofChange Rows.reportBackSpec).bare Rows.reportBackRow=true:=by
 unfold joinedFacts
 repeat' (with_reducible refine reportBack_and ?_ ?_)
 all_goals first|with_reducible exact reportBack_c0|with_reducible exact reportBack_c1|with_reducible exact reportBack_c2|with_reducible exact reportBack_c3|with_reducible exact reportBack_c4|with_reducible exact reportBack_c5|with_reducible exact reportBack_c6|with_reducible exact reportBack_c7|with_reducible exact reportBack_c8|kernel_rfl
theorem reportBack_over:Rows.reportBackRow.holds Tryz.pinned (OpenSpec.ofChange Rows.reportBackSpec) :=
 OpenClaim.holds_of_cond 6 Tryz.f6 rfl rfl rfl rfl rfl rfl rfl ⟨rfl,rfl,rfl,rfl,rfl⟩ rfl rfl rfl rfl rfl (by kernel_rfl) Tryz.func6 reportBack_facts
  (of_decide_eq_true (by kernel_rfl)) (by unfold Func.isWrapper;rw [if_neg (of_decide_eq_false (by kernel_rfl))];exact ⟨rfl,rfl⟩)
  (fun os started H enc _ F0=>by rw [OpenClaim.pre_eq_preRow];exact reportBack_lifted os started H enc F0)
theorem reportBack_params:(Tryz.f6.params.toList.all fun t => !Tryz.prog.wantsStandIn t)=true:=by kernel_rfl
theorem reportBack_proved:Rows.ReportBackCardSaid :=
 Claim7.holds_tied_plain_at .later [] Rows.reportBackCard.laidKinds true Rows.reportBackCard.stood.harness Rows.reportBackCard.stood.looks
  reportBack_over (fun _ h=>by cases h) (by kernel_rfl) (fun _ h=>by cases h) reportBack_row_tie rfl ⟨rfl,rfl⟩ (by kernel_rfl) rfl
  (fun f fn hf hfn=>by
   obtain rfl:f=6:=Option.some.inj (hf.symm.trans (show Tryz.prog.funcNamed "peloton/pelotonlaw45.ReportBack" = some 6 by kernel_rfl))
   obtain rfl:fn=Tryz.f6:=(Option.some.inj (Tryz.func6.symm.trans hfn)).symm
   exact ⟨by kernel_rfl,fun j t ht=>by
    have hm:t∈Tryz.f6.params.toList:=by rw [Array.mem_toList_iff];exact Array.mem_of_getElem? ht
    exact (by simpa using List.all_eq_true.1 reportBack_params t hm:Tryz.prog.wantsStandIn t=false)⟩)
  (by kernel_rfl)
#print axioms reportBack_proved
end Go.Proofs.YtfkfficabeclcaaGreatDoor
