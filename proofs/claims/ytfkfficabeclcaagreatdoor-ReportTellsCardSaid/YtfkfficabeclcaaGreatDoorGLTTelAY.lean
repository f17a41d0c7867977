import Derived.Test.YtfkfficabeclcaaGreatDoorGLTTelAV
import Derived.Test.YtfkfficabeclcaaGreatDoorGLTTelAW
import Derived.Test.YtfkfficabeclcaaGreatDoorGLTTelAX
import Derived.Test.YtfkfficabeclcaaGreatDoorGLTTelAP
import Derived.Test.YtfkfficabeclcaaGreatDoorGLTTelAQ
set_option linter.all false
namespace Go.Proofs.YtfkfficabeclcaaGreatDoor
open Go Go.RowKit Go.Sort Sx
open Go.Lib hiding intOf
set_option maxRecDepth 2000
theorem joined_fn (word:Str) (ps:List Pp) (hw:word.length≤100) (hl:ps.length≤9000) (hok:∀ p∈ps,p.ok):FnOK Tryz.prog 38 [.one (str word),.one (.list 1 (ps.map fun p=>[.v p.v]))] (.c (.one (str (joinS (word::ps.map Pp.s))))):=by
 refine fun w M vs hM hvs=>.inl ⟨38,Tryz.call38 _ _,?_⟩
 match vs,hvs with
 | [u,v],hvs =>
  obtain ⟨h1,h2,_⟩:=hvs
  have h1:=rep_str h1
  subst h1
  exact (joined_any word ps hw hl hok w hM.gd v (h2.mono (Holds.refl _ _) (fun _ _ h=>h.elim))).mono fun e w' ⟨he,hb⟩=>⟨_,he,.v _ rfl trivial,hb⟩
 | [],hvs=>exact hvs.elim
 | [_],hvs=>exact hvs.2.elim
 | _::_::_::_,hvs=>exact hvs.2.2.elim
theorem po_mi {o:Oper} {t:TypeId} {x:Operand} {u:Value} {td:TypeDesc} (ho:o.op=.makeInterface t x) (ht:Tryz.prog.underlying t=some td) (hn:∀ y,td≠.interface y):PureOp Tryz.prog o [u] (.iface t u):=by
 refine ⟨rfl,trivial,fun f hf w => ?_⟩
 rw [ho] at hf
 simp only [Op.operands,List.map_cons,List.map_nil,List.cons.injEq,and_true] at hf
 have e:(Instr.makeInterface t u).run Tryz.prog w=.ok (.iface t u) w:=by
  unfold Instr.makeInterface
  rw [Sem.run_bind,run_underlying ht]
  cases td<;>first|exact absurd rfl (hn _)|(simp [go_sem])
 simp [execOp,ho,hf,e,Result.andThen]
theorem zmi {o:Oper} {x:Operand} {u:Value} {K:Value→Prop} (k:K (.iface 3 u)) (ho:o.op=.makeInterface 3 x:=by rfl):∃ v,PureOp Tryz.prog o [u] v∧K v:=⟨_,po_mi ho Tryz.underlying3 (fun _ h=>by cases h),k⟩
theorem zml {o:Oper} {x:Operand} {u:Value} {K:Value→Prop} (k:K (.iface 2 u)) (ho:o.op=.makeInterface 2 x:=by rfl):∃ v,PureOp Tryz.prog o [u] v∧K v:=⟨_,po_mi ho Tryz.underlying2 (fun _ h=>by cases h),k⟩
theorem zmr {o:Oper} {x:Operand} {u:Value} {K:Value→Prop} (k:K (.iface 25 u)) (ho:o.op=.makeInterface 25 x:=by rfl):∃ v,PureOp Tryz.prog o [u] v∧K v:=⟨_,po_mi ho Tryz.underlying25 (fun _ h=>by cases h),k⟩
def mParts (m:Mt):List Pp:=[.r m.n m.d,.i m.i,.i m.j]
theorem parts_words:∀ l:List Mt,(l.flatMap mParts).map Pp.s=l.flatMap mWords
 | []=>rfl
 | m::l=>by rw [List.flatMap_cons,List.map_append,parts_words l];rfl
theorem parts_len:∀ l:List Mt,(l.flatMap mParts).length=3*l.length
 | []=>rfl
 | m::l=>by rw [List.flatMap_cons,List.length_append,parts_len l,List.length_cons];show 3+_=_;omega
abbrev pds (l:List Pp):List (List Sx.D):=l.map fun p=>[.v p.v]
theorem pds_app (a b:List Pp):pds (a++b)=pds a++pds b:=List.map_append ..
theorem joinS_text {r:Rp} {w:Str} {ps:List Pp} (h:rWords r=w::ps.map Pp.s):joinS (w::ps.map Pp.s)=rText r:=by unfold rText;rw [h]
set_option maxRecDepth 100000 in
set_option maxHeartbeats 4000000 in
theorem tReply_fn (r:Rp) (hl0:r.ms.length≤1000000):FnOK Tryz.prog 10 [r.dc] (retS (replyV r)):=by
 have HC:=tCheck_fn r hl0
 unfold replyV
 rcases rchk_08 r with h0|h8
 ·rw [if_pos h0]
  rw [h0] at HC
  rcases rchk_cases h0 with ⟨h1,h2,h3⟩|⟨h1,h2,h3⟩|⟨h0,h1,h2,h3,h4⟩|⟨h0,h1,h2,h3,h4,h5,h6⟩|h1
  ·have hE:=words_e (show r.e≠0 by omega)
   have J:=joined_fn wErr [.i r.e] (by decide) (by simp) (fun p hp=>by obtain rfl:=List.mem_singleton.1 hp;exact ⟨by omega,by omega⟩)
   rw [joinS_text (r:=rpE r.e) (by rw [hE];rfl),← h3] at J
   obtain ⟨T,hT⟩:∃ T,T=rText r:=⟨_,rfl⟩
   rw [← hT] at J ⊢
   replace J:FnOK Tryz.prog 38 [.one (str [101,114,114,111,114]),.one (.list 1 [[.v (.iface 3 (.int .i64 r.e))]])] (.c (.one (str T))):=J
   clear hT h3 hE
   obtain ⟨e,i,j,n,d,l⟩:=r
   simp only [Rp.dc] at *
   refine fn_ok (by kernel_rfl) (ty_okKB [] [] [] []) Tryz.func10 rfl (fun _ _=>Tryz.call10 _ _) rfl ?_
   intro hw
   clear hw
   repeat' ((conv=>whnf);first|(with_reducible first|refine br_t ?_|refine br_f ?_|refine za ?_|refine zg ?_)|refine zmi ?_|refine zml ?_|refine zmr ?_|refine zsl ?_|refine zsg ?_|refine zss ?_|refine zs1 ?_|refine zse ?_|refine zsn ?_|refine zsc ?_|(with_reducible first|refine zpa ?_|refine zqa ?_)|refine zp ?_|refine zq ?_|(with_reducible first|refine bc (fun h => ?_) (fun h => ?_)|refine zt ?_|refine zf ?_|refine br_i (fun h => ?_) (fun h => ?_))|refine zg ?_|refine zi ?_|refine zb ?_)
   all_goals conv=>whnf
   all_goals rfl
  ·have hM:=words_m h1
   have hp:0<r.ms.length:=List.length_pos_iff.2 h1
   have hll:(r.ms.map Mt.c).length=r.ms.length:=List.length_map ..
   have hle:r.ms.length≤2016:=by unfold mtR at h2;simp only [Bool.and_eq_true,decide_eq_true_eq] at h2;exact h2.2
   have hmo:=mRun_ok (p:=none) (l:=r.ms) (by unfold mtR at h2;simp only [Bool.and_eq_true] at h2;exact h2.1)
   have hT0:joinS (wMeet::(r.ms.flatMap mParts).map Pp.s)=rText r:=joinS_text (by rw [h3,hM,parts_words])
   obtain ⟨T,hT⟩:∃ T,T=rText r:=⟨_,rfl⟩
   rw [← hT] at hT0 ⊢
   clear hT hM h2 h0
   rw [h3] at HC ⊢
   generalize r.ms=l at *
   clear h3 r
   simp only [Rp.dc] at *
   refine fn_ok (by kernel_rfl) (ty_okKB [5,45] [] [] []) Tryz.func10 rfl (fun _ _=>Tryz.call10 _ _) rfl ?_
   intro hw
   have hwl:∀ m∈l,in64 m.n∧in64 m.d:=fun m hm=>by
    have h:=hw.1.2.2.2.2.2.1
    obtain ⟨_,_,h3⟩:=WD_list.1 h
    have h4:=h3 m.c (List.mem_map_of_mem hm)
    exact ⟨wd_i64.1 (h4 _ (by simp [Mt.c])),wd_i64.1 (h4 _ (by simp [Mt.c]))⟩
   clear hw
   have hpl:=parts_len l
   have J:=joined_fn wMeet (l.flatMap mParts) (by decide) (by omega) (fun p hp=>by
    obtain ⟨m,hm,hp⟩:=List.mem_flatMap.1 hp
    obtain ⟨c1,c2,c3,c4⟩:=mOk_i.1 (hmo m hm)
    unfold mParts at hp
    simp only [List.mem_cons,List.not_mem_nil,or_false] at hp
    rcases hp with rfl|rfl|rfl
    ·exact hwl m hm
    ·exact ⟨by omega,by omega⟩
    ·exact ⟨by omega,by omega⟩)
   rw [hT0] at J
   have J2:FnOK Tryz.prog 38 [.one (str [109,101,101,116,105,110,103,115]),.one (.list 1 (pds ((l.take l.length).flatMap mParts)))] (.c (.one (str T))):=by rw [List.take_length];exact J
   clear J hT0
   repeat' ((conv=>whnf);first|(with_reducible first|refine br_t ?_|refine br_f ?_|refine za ?_|refine zg ?_|refine zo ?_)|refine zsl ?_|refine zsg ?_|refine zss ?_|refine zs1 ?_|refine zse ?_|refine zsn ?_|refine zsc ?_|(with_reducible first|refine zpa ?_|refine zqa ?_)|refine zp ?_|refine zq ?_|(with_reducible first|refine bc (fun h => ?_) (fun h => ?_)|refine zt ?_|refine zf ?_|refine br_i (fun h => ?_) (fun h => ?_))|refine zg ?_|refine zi ?_|refine zb ?_|refine zl ?_)
   all_goals conv=>whnf
   refine loop_J (by kernel_rfl) (ty_okKB [5,45] [] [] []) (σ:=Nat) (fun i=>[(30,sV (.int .i64 (i:Nat))),(5,.c (.at (.osl 5 0)))]) (fun i=>[(5,.row 1 (pds ((l.take i).flatMap mParts)) 0)]) (fun i=>i≤l.length) (fun i=>l.length-i) 0 (Nat.zero_le _) ?_ ?_
   ·(conv=>whnf);refine ⟨by repeat' (first|with_reducible exact zE0|with_reducible refine zE1 ?_ ?_|rfl|assumption|(rfl)|exact zi1|exact zb1),by repeat' (first|with_reducible exact zH0|with_reducible refine zH1 ?_ ?_|rfl|assumption|(rfl)),rfl⟩
   intro i hi
   have hpi:=parts_len (l.take i)
   have hti:(l.take i).length=i:=by rw [List.length_take];omega
   have hol:(pds ((l.take i).flatMap mParts)).length=3*i:=by rw [List.length_map,hpi,hti]
   rcases Nat.lt_or_ge i l.length with hlt|hge
   ·have hel:=mts_get hlt
    have ew:IntKind.i64.wrap ((i:Int)+1)=((i+1:Nat):Int):=by rw [IntWalk.i64_in _ (by omega)];omega
    have hss:pds ((l.take i).flatMap mParts)++([[D.v (.iface 25 (.agg #[.int .i64 l[i].n,.int .i64 l[i].d]))],[D.v (.iface 3 (.int .i64 l[i].i))],[D.v (.iface 3 (.int .i64 l[i].j))]]:List (List Sx.D))=pds ((l.take (i+1)).flatMap mParts):=by
     rw [List.take_succ_eq_append_getElem hlt,List.flatMap_append,pds_app];rfl
    have hol2:(pds ((l.take i).flatMap mParts)++([[D.v (.iface 25 (.agg #[.int .i64 l[i].n,.int .i64 l[i].d]))],[D.v (.iface 3 (.int .i64 l[i].i))],[D.v (.iface 3 (.int .i64 l[i].j))]]:List (List Sx.D))).length≤1000000:=by rw [List.length_append,hol];simp;omega
    clear J2 hmo hwl
    generalize l[i]=m at *
    obtain ⟨m1,m2,m3,m4⟩:=m
    simp only at hel hss hol2
    repeat' ((conv=>whnf);first|(with_reducible first|refine br_t ?_|refine br_f ?_|refine za ?_|refine zg ?_|refine zo ?_)|refine zmi ?_|refine zml ?_|refine zmr ?_|exact hol2|refine zsl ?_|refine zsg ?_|refine zss ?_|refine zs1 ?_|refine zse ?_|refine zsn ?_|refine zsc ?_|(with_reducible first|refine zpa ?_|refine zqa ?_)|refine zp ?_|refine zq ?_|(with_reducible first|refine bc (fun h => ?_) (fun h => ?_)|refine zt ?_|refine zf ?_|refine br_i (fun h => ?_) (fun h => ?_))|refine zg ?_|refine zi ?_|refine zb ?_|refine zl ?_)
    all_goals conv=>whnf
    refine ⟨i+1,by omega,?_,by omega⟩
    rw [← ew]
    (conv=>whnf);refine ⟨by repeat' (first|with_reducible exact zE0|with_reducible refine zE1 ?_ ?_|rfl|assumption|((exact congrArg (fun x=>some (Blk.row 1 x 0)) hss))|exact zi1|exact zb1),by repeat' (first|with_reducible exact zH0|with_reducible refine zH1 ?_ ?_|rfl|assumption|((exact congrArg (fun x=>some (Blk.row 1 x 0)) hss))),rfl⟩
   ·obtain rfl:i=l.length:=by omega
    obtain ⟨a,b,hab⟩:∃ a b,pds ((l.take l.length).flatMap mParts)=a::b:=by
     cases hc:pds ((l.take l.length).flatMap mParts) with
     | nil=>rw [hc] at hol;simp at hol;omega
     | cons a b=>exact ⟨a,b,rfl⟩
    rw [hab] at J2 ⊢
    repeat' ((conv=>whnf);first|(with_reducible first|refine br_t ?_|refine br_f ?_|refine za ?_|refine zg ?_|refine zo ?_)|refine zl ?_ J2|refine zsl ?_|refine zsg ?_|refine zss ?_|refine zs1 ?_|refine zse ?_|refine zsn ?_|refine zsc ?_|(with_reducible first|refine zpa ?_|refine zqa ?_)|refine zp ?_|refine zq ?_|(with_reducible first|refine bc (fun h => ?_) (fun h => ?_)|refine zt ?_|refine zf ?_|refine br_i (fun h => ?_) (fun h => ?_))|refine zg ?_|refine zi ?_|refine zb ?_|refine zl ?_)
    all_goals conv=>whnf
    all_goals rfl
  ·have hE:=words_l (i:=r.i) (n:=r.n) h0
   have J:(in64 r.n∧in64 r.d)→FnOK Tryz.prog 38 [.one (str wLeader),.one (.list 1 (([.i r.i,.r r.n r.d]:List Pp).map fun p=>[.v p.v]))] (.c (.one (str (joinS (wLeader::([.i r.i,.r r.n r.d]:List Pp).map Pp.s))))):=fun hin=>joined_fn wLeader [.i r.i,.r r.n r.d] (by decide) (by simp) (fun p hp=>by
    simp only [List.mem_cons,List.not_mem_nil,or_false] at hp
    rcases hp with rfl|rfl
    ·exact ⟨by omega,by omega⟩
    ·exact hin)
   rw [joinS_text (r:=⟨0,r.i,0,r.n,r.d,[]⟩) (by rw [hE];rfl),← h4] at J
   obtain ⟨T,hT⟩:∃ T,T=rText r:=⟨_,rfl⟩
   rw [← hT] at J ⊢
   clear hT hE
   obtain ⟨e,i,j,n,d,l⟩:=r
   simp only [Rp.mk.injEq,true_and] at h4
   obtain ⟨rfl,rfl,rfl⟩:=h4
   simp only [Rp.dc] at *
   replace HC:FnOK Tryz.prog 11 [.agg [i64 0,i64 i,i64 0,i64 n,i64 d,.list 4 []]] (ret1 0):=HC
   show FnOK Tryz.prog 10 [.agg [i64 0,i64 i,i64 0,i64 n,i64 d,.list 4 []]] _
   refine fn_ok (by kernel_rfl) (ty_okKB [] [] [] []) Tryz.func10 rfl (fun _ _=>Tryz.call10 _ _) rfl ?_
   intro hw
   have hw1:in64 n∧in64 d:=by
    simp only [WDCs,WDC,WDs,wd_i64] at hw
    unfold in64;omega
   clear hw
   replace J:FnOK Tryz.prog 38 [.one (str [108,101,97,100,101,114]),.one (.list 1 [[.v (.iface 3 (.int .i64 i))],[.v (.iface 25 (.agg #[.int .i64 n,.int .i64 d]))]])] (.c (.one (str T))):=J hw1
   repeat' ((conv=>whnf);first|(with_reducible first|refine br_t ?_|refine br_f ?_|refine za ?_|refine zg ?_)|refine zmi ?_|refine zml ?_|refine zmr ?_|refine zsl ?_|refine zsg ?_|refine zss ?_|refine zs1 ?_|refine zse ?_|refine zsn ?_|refine zsc ?_|(with_reducible first|refine zpa ?_|refine zqa ?_)|refine zp ?_|refine zq ?_|(with_reducible first|refine bc (fun h => ?_) (fun h => ?_)|refine zt ?_|refine zf ?_|refine br_i (fun h => ?_) (fun h => ?_))|refine zg ?_|refine zi ?_|refine zb ?_)
   all_goals conv=>whnf
   all_goals rfl
  ·have hE:=words_p (i:=r.i) (j:=r.j) (n:=r.n) h0 (by omega)
   have J:(in64 r.n∧in64 r.d)→FnOK Tryz.prog 38 [.one (str wPair),.one (.list 1 (([.i r.i,.i r.j,.r r.n r.d]:List Pp).map fun p=>[.v p.v]))] (.c (.one (str (joinS (wPair::([.i r.i,.i r.j,.r r.n r.d]:List Pp).map Pp.s))))):=fun hin=>joined_fn wPair [.i r.i,.i r.j,.r r.n r.d] (by decide) (by simp) (fun p hp=>by
    simp only [List.mem_cons,List.not_mem_nil,or_false] at hp
    rcases hp with rfl|rfl|rfl
    ·exact ⟨by omega,by omega⟩
    ·exact ⟨by omega,by omega⟩
    ·exact hin)
   rw [joinS_text (r:=⟨0,r.i,r.j,r.n,r.d,[]⟩) (by rw [hE];rfl),← h6] at J
   obtain ⟨T,hT⟩:∃ T,T=rText r:=⟨_,rfl⟩
   rw [← hT] at J ⊢
   clear hT hE
   obtain ⟨e,i,j,n,d,l⟩:=r
   simp only [Rp.mk.injEq,true_and] at h6
   obtain ⟨rfl,rfl⟩:=h6
   simp only at h0 h1 h2 h3 h4 h5
   simp only [Rp.dc] at *
   replace HC:FnOK Tryz.prog 11 [.agg [i64 0,i64 i,i64 j,i64 n,i64 d,.list 4 []]] (ret1 0):=HC
   show FnOK Tryz.prog 10 [.agg [i64 0,i64 i,i64 j,i64 n,i64 d,.list 4 []]] _
   refine fn_ok (by kernel_rfl) (ty_okKB [] [] [] []) Tryz.func10 rfl (fun _ _=>Tryz.call10 _ _) rfl ?_
   intro hw
   have hw1:in64 n∧in64 d:=by
    simp only [WDCs,WDC,WDs,wd_i64] at hw
    unfold in64;omega
   clear hw
   replace J:FnOK Tryz.prog 38 [.one (str [112,97,105,114]),.one (.list 1 [[.v (.iface 3 (.int .i64 i))],[.v (.iface 3 (.int .i64 j))],[.v (.iface 25 (.agg #[.int .i64 n,.int .i64 d]))]])] (.c (.one (str T))):=J hw1
   repeat' ((conv=>whnf);first|(with_reducible first|refine br_t ?_|refine br_f ?_|refine za ?_|refine zg ?_)|refine zmi ?_|refine zml ?_|refine zmr ?_|refine zsl ?_|refine zsg ?_|refine zss ?_|refine zs1 ?_|refine zse ?_|refine zsn ?_|refine zsc ?_|(with_reducible first|refine zpa ?_|refine zqa ?_)|refine zp ?_|refine zq ?_|(with_reducible first|refine bc (fun h => ?_) (fun h => ?_)|refine zt ?_|refine zf ?_|refine br_i (fun h => ?_) (fun h => ?_))|refine zg ?_|refine zi ?_|refine zb ?_)
   all_goals conv=>whnf
   all_goals rfl
  ·subst h1
   replace HC:FnOK Tryz.prog 11 [.agg [i64 0,i64 0,i64 0,i64 0,i64 0,.list 4 []]] (ret1 0):=HC
   show FnOK Tryz.prog 10 [.agg [i64 0,i64 0,i64 0,i64 0,i64 0,.list 4 []]] (retS ([100,111,110,101],0))
   refine fn_ok (by kernel_rfl) (ty_okKB [] [] [] []) Tryz.func10 rfl (fun _ _=>Tryz.call10 _ _) rfl ?_
   intro hw
   clear hw
   repeat' ((conv=>whnf);first|(with_reducible first|refine br_t ?_|refine br_f ?_|refine za ?_|refine zg ?_)|refine zmi ?_|refine zml ?_|refine zmr ?_|refine zsl ?_|refine zsg ?_|refine zss ?_|refine zs1 ?_|refine zse ?_|refine zsn ?_|refine zsc ?_|(with_reducible first|refine zpa ?_|refine zqa ?_)|refine zp ?_|refine zq ?_|(with_reducible first|refine bc (fun h => ?_) (fun h => ?_)|refine zt ?_|refine zf ?_|refine br_i (fun h => ?_) (fun h => ?_))|refine zg ?_|refine zi ?_|refine zb ?_)
   all_goals conv=>whnf
   all_goals rfl
 ·rw [if_neg (by omega)]
  rw [h8] at HC
  obtain ⟨e,i,j,n,d,l⟩:=r
  simp only [Rp.dc] at *
  refine fn_ok (by kernel_rfl) (ty_okKB [] [] [] []) Tryz.func10 rfl (fun _ _=>Tryz.call10 _ _) rfl ?_
  intro hw
  clear hw
  repeat' ((conv=>whnf);first|(with_reducible first|refine br_t ?_|refine br_f ?_|refine za ?_|refine zg ?_)|refine zsl ?_|refine zsg ?_|refine zss ?_|refine zs1 ?_|refine zse ?_|refine zsn ?_|refine zsc ?_|(with_reducible first|refine zpa ?_|refine zqa ?_)|refine zp ?_|refine zq ?_|(with_reducible first|refine bc (fun h => ?_) (fun h => ?_)|refine zt ?_|refine zf ?_|refine br_i (fun h => ?_) (fun h => ?_))|refine zg ?_|refine zi ?_|refine zb ?_)
  all_goals conv=>whnf
  all_goals rfl
end Go.Proofs.YtfkfficabeclcaaGreatDoor

namespace Go.Proofs.YtfkfficabeclcaaGreatDoor
open Go Go.RowKit Go.Sort Sx
open Go.Lib hiding intOf
set_option maxRecDepth 2000
theorem zbi {B:Prop} (k:B):Boxes Tryz.prog 136∧B:=⟨⟨_,Tryz.underlying136,fun _ h=>by cases h⟩,k⟩
theorem zbl {B:Prop} (k:B):Boxes Tryz.prog 145∧B:=⟨⟨_,Tryz.underlying145,fun _ h=>by cases h⟩,k⟩
theorem zbr {B:Prop} (k:B):Boxes Tryz.prog 93∧B:=⟨⟨_,Tryz.underlying93,fun _ h=>by cases h⟩,k⟩
def pcZ (x:Pw) (ok:Bool) (n d:Int):Pt × Bool :=
 if ok=true then
  (if (mulV x.b 1 n d).2.2=0 then (⟨x.id,(subV x.n x.d (mulV x.b 1 n d).1 (mulV x.b 1 n d).2.1).1,x.b⟩,decide ((subV x.n x.d (mulV x.b 1 n d).1 (mulV x.b 1 n d).2.1).2.2=0∧(subV x.n x.d (mulV x.b 1 n d).1 (mulV x.b 1 n d).2.1).2.1=1∧cpt x.id (subV x.n x.d (mulV x.b 1 n d).1 (mulV x.b 1 n d).2.1).1 x.b=0))
  else (⟨x.id,0,x.b⟩,false))
 else (⟨x.id,0,x.b⟩,false)
theorem pcZ_is (n d:Int) (w:List Str):pcdP n d w=if (pcZ (pcX w).1 (pcX w).2 n d).2=true then some (pcZ (pcX w).1 (pcX w).2 n d).1 else none:=by
 rw [pcX_is]
 unfold pcZ plcV
 by_cases h1:(pcX w).2=true
 ·rw [if_pos h1,if_pos h1]
  by_cases h2:(mulV (pcX w).1.b 1 n d).2.2=0
  ·rw [if_pos h2,if_pos h2]
   split
   ·rename_i h;rw [if_pos (decide_eq_true h)]
   ·rename_i h;rw [if_neg (by simpa using h)]
  ·rw [if_neg h2,if_neg h2];rfl
 ·rw [if_neg h1,if_neg h1];rfl
abbrev retPb (x:Pt × Bool):DV:=.tup [x.1.dc,.one (bol x.2)]
set_option maxRecDepth 100000 in
set_option maxHeartbeats 4000000 in
theorem tplaced_fn (t:List Str) (n d:Int) (hl:t.length≤1000000) (hs:∀ x∈t,x.length≤1000000):FnOK Tryz.prog 46 [.one (strs t),rat n d] (retPb (pcZ (pcX t).1 (pcX t).2 n d)):=by
 have HP:=pc_ptr t hl hs
 generalize pcX t=p at *
 obtain ⟨⟨xr,xi,xn,xd,xb⟩,ok⟩:=p
 simp only at HP
 have Hm:=mul_fn xb 1 n d
 unfold pcZ
 simp only
 cases ok
 ·rw [if_neg (by decide)]
  clear Hm
  simp only [retPb,Pt.dc]
  refine fn_ok (by kernel_rfl) (ty_okKB [] [] [] []) Tryz.func46 rfl (fun _ _=>Tryz.call46 _ _) rfl ?_
  intro hw
  clear hw
  repeat' ((conv=>whnf);first|(with_reducible first|refine br_t ?_|refine br_f ?_|refine za ?_|refine zg ?_)|refine zbi ?_|refine zbl ?_|refine zbr ?_|refine ⟨_,_,HP,?_⟩|refine zsl ?_|refine zsg ?_|refine zss ?_|refine zs1 ?_|refine zse ?_|refine zsn ?_|refine zsc ?_|(with_reducible first|refine zpa ?_|refine zqa ?_)|refine zp ?_|refine zq ?_|(with_reducible first|refine bc (fun h => ?_) (fun h => ?_)|refine zt ?_|refine zf ?_|refine br_i (fun h => ?_) (fun h => ?_))|refine zg ?_|refine zi ?_|refine zb ?_)
  all_goals conv=>whnf
  all_goals rfl
 ·rw [if_pos rfl]
  generalize mulV xb 1 n d=mv at *
  obtain ⟨mn,md,me⟩:=mv
  simp only [ret3,rat2] at Hm ⊢
  by_cases hme:me=0
  ·subst hme
   rw [if_pos rfl]
   have Hs:=sub_fn xn xd mn md
   generalize subV xn xd mn md=sv at *
   obtain ⟨sn,sd,se⟩:=sv
   simp only [ret3,rat2] at Hs ⊢
   have Hc:=kCheck_fn xi sn xb
   generalize cpt xi sn xb=ck at *
   simp only [retPb,Pt.dc,ret1] at *
   by_cases h1:se=0
   ·subst h1
    by_cases h2:sd=1
    ·subst h2
     refine fn_ok (by kernel_rfl) (ty_okKB [] [] [] []) Tryz.func46 rfl (fun _ _=>Tryz.call46 _ _) rfl ?_
     intro hw
     clear hw
     repeat' ((conv=>whnf);first|(with_reducible first|refine br_t ?_|refine br_f ?_|refine za ?_|refine zg ?_)|refine zbi ?_|refine zbl ?_|refine zbr ?_|refine ⟨_,_,HP,?_⟩|refine zsl ?_|refine zsg ?_|refine zss ?_|refine zs1 ?_|refine zse ?_|refine zsn ?_|refine zsc ?_|(with_reducible first|refine zpa ?_|refine zqa ?_)|refine zp ?_|refine zq ?_|(with_reducible first|refine bc (fun h => ?_) (fun h => ?_)|refine zt ?_|refine zf ?_|refine br_i (fun h => ?_) (fun h => ?_))|refine zg ?_|refine zi ?_|refine zb ?_)
     all_goals conv=>whnf
     all_goals
      have eck:(ck == 0)=decide ((0:Int)=0∧(1:Int)=1∧ck=0):=by by_cases h:ck=0<;>simp [h]
      rw [eck]
    ·rw [decide_eq_false (fun h=>h2 h.2.1)]
     refine fn_ok (by kernel_rfl) (ty_okKB [] [] [] []) Tryz.func46 rfl (fun _ _=>Tryz.call46 _ _) rfl ?_
     intro hw
     clear hw
     repeat' ((conv=>whnf);first|(with_reducible first|refine br_t ?_|refine br_f ?_|refine za ?_|refine zg ?_)|refine zbi ?_|refine zbl ?_|refine zbr ?_|refine ⟨_,_,HP,?_⟩|refine zsl ?_|refine zsg ?_|refine zss ?_|refine zs1 ?_|refine zse ?_|refine zsn ?_|refine zsc ?_|(with_reducible first|refine zpa ?_|refine zqa ?_)|refine zp ?_|refine zq ?_|(with_reducible first|refine bc (fun h => ?_) (fun h => ?_)|refine zt ?_|refine zf ?_|refine br_i (fun h => ?_) (fun h => ?_))|refine zg ?_|refine zi ?_|refine zb ?_)
     all_goals conv=>whnf
     all_goals rfl
   ·rw [decide_eq_false (fun h=>h1 h.1)]
    refine fn_ok (by kernel_rfl) (ty_okKB [] [] [] []) Tryz.func46 rfl (fun _ _=>Tryz.call46 _ _) rfl ?_
    intro hw
    clear hw
    repeat' ((conv=>whnf);first|(with_reducible first|refine br_t ?_|refine br_f ?_|refine za ?_|refine zg ?_)|refine zbi ?_|refine zbl ?_|refine zbr ?_|refine ⟨_,_,HP,?_⟩|refine zsl ?_|refine zsg ?_|refine zss ?_|refine zs1 ?_|refine zse ?_|refine zsn ?_|refine zsc ?_|(with_reducible first|refine zpa ?_|refine zqa ?_)|refine zp ?_|refine zq ?_|(with_reducible first|refine bc (fun h => ?_) (fun h => ?_)|refine zt ?_|refine zf ?_|refine br_i (fun h => ?_) (fun h => ?_))|refine zg ?_|refine zi ?_|refine zb ?_)
    all_goals conv=>whnf
    all_goals rfl
  ·rw [if_neg hme]
   simp only [retPb,Pt.dc]
   refine fn_ok (by kernel_rfl) (ty_okKB [] [] [] []) Tryz.func46 rfl (fun _ _=>Tryz.call46 _ _) rfl ?_
   intro hw
   clear hw
   repeat' ((conv=>whnf);first|(with_reducible first|refine br_t ?_|refine br_f ?_|refine za ?_|refine zg ?_)|refine zbi ?_|refine zbl ?_|refine zbr ?_|refine ⟨_,_,HP,?_⟩|refine zsl ?_|refine zsg ?_|refine zss ?_|refine zs1 ?_|refine zse ?_|refine zsn ?_|refine zsc ?_|(with_reducible first|refine zpa ?_|refine zqa ?_)|refine zp ?_|refine zq ?_|(with_reducible first|refine bc (fun h => ?_) (fun h => ?_)|refine zt ?_|refine zf ?_|refine br_i (fun h => ?_) (fun h => ?_))|refine zg ?_|refine zi ?_|refine zb ?_)
   all_goals conv=>whnf
   all_goals rfl
end Go.Proofs.YtfkfficabeclcaaGreatDoor

namespace Go.Proofs.YtfkfficabeclcaaGreatDoor
open Go Go.Shelf Go.RowKit Go.Lib Go.Sort Sx
set_option maxRecDepth 2000
namespace Sx
def pqS {α:Type} [Inhabited α] (cf:α→α→Int) (d:List α):List α:=(pdq (ltOf cf) d.toArray 0 d.toArray.size (Lib.bitLen d.toArray.size) true true).toList
theorem pqS_ok {α:Type} [Inhabited α] {cf:α→α→Int} (hO:SWO (ltOf cf)) (d:List α):(pqS cf d).Perm d∧(pqS cf d).Pairwise fun x y=>ltOf cf y x=false:=by
 obtain ⟨⟨hsz,_,hperm⟩,hs⟩:=pdq_sorts (ltOf cf) hO d.toArray 0 d.toArray.size (Lib.bitLen d.toArray.size) true true (Nat.zero_le _) (Nat.le_refl _) (Or.inl rfl)
 unfold pqS
 generalize pdq (ltOf cf) d.toArray 0 d.toArray.size (Lib.bitLen d.toArray.size) true true=d' at *
 have e1:d'.extract 0 d.toArray.size=d':=by rw [← hsz];exact Array.extract_size
 rw [e1,Array.extract_size] at hperm
 refine ⟨by simpa using hperm,List.pairwise_iff_getElem.2 fun i j hi hj hij => ?_⟩
 have hi':i<d'.size:=by simpa using hi
 have hj':j<d'.size:=by simpa using hj
 have:=hs i j (Nat.zero_le _) hij (by omega)
 rw [getElem!_pos d' j hj',getElem!_pos d' i hi'] at this
 simpa using this
theorem sort_muE {P:Program} {ρ:Ren} {α:Type} [Inhabited α] (L:SlLaysF0.n6 P ρ) {k:Nat} (hk0:0<k) (aE:∀ w,(isAgg (ρ.t 24)).run P w=.ok true w) (zE:∀ w,(Go.sizeOf (ρ.t 24)).run P w=.ok k w)
  (enc:α→List Value) (hk:∀ x,(enc x).length=k) (h1:∀ x,∀ v∈enc x,v.oneCell'=true∧wfV v) (cf:α→α→Int) (hO:SWO (ltOf cf)) {g:Nat} {caps:List (List D)}
  (eg:∀ args w,(callFunc g args).run P w=.ok (.enter g args) w) (es:∀ args w,(callFunc (ρ.f 6) args).run P w=.ok (.enter (ρ.f 6) args) w)
  (hcmp:∀ x y,FnD P g ([.agg ((enc x).map .v),.agg ((enc y).map .v)]++refsC caps) (.c (.one (.v (.int .i64 (cf x y)))))) (d:List α) (hsz:d.length<4611686018427387904) :
  FnMu P (ρ.f 6) k (d.map fun x=>(enc x).map .v) [.one (.clo g caps)] ((pqS cf d).map fun x=>(enc x).map .v):=by
 refine ⟨fun e he => ?_,fun w M v vs m hM hm hvs hB hv => ?_⟩
 ·obtain ⟨x,_,rfl⟩:=List.mem_map.1 he
  exact flatL_v _
 match vs,hvs with
 | [u],⟨hu,_⟩ =>
  obtain ⟨ps,rfl,hps⟩:=crefs_rel (show Rep w M (.clo g caps) u from hu)
  obtain ⟨x,rfl,hx⟩:=hv
  obtain ⟨⟨k1,k2,k3,k4,k5⟩,hreal⟩:=hB
  refine ⟨ρ.f 6,es _ _,?_⟩
  rw [List.length_map] at k2
  cases d with
  | nil =>
   have k2:0=m.len:=k2
   have e9:pqS cf []=[]:=List.length_eq_zero_iff.1 (pqS_ok hO []).1.length_eq
   rw [← k2,e9]
   refine (AnyF.slices_SortFunc_none L x m.cap _ w).mono ?_
   rintro e w' ⟨rfl,rfl⟩
   exact ⟨rfl,.refl _ _ _,⟨by simp,by simpa using k2,fun _=>by simp,rfl,k5⟩,by simpa using hreal⟩
  | cons y ys =>
   have hc0:0<m.cap:=by
    rcases Nat.eq_zero_or_pos m.cap with h|h
    ·have:=k3 h;simp at this
    ·exact h
   rw [hx hc0,← k2]
   obtain ⟨cs,⟨T,hcs⟩,c1,c2,c3,vals,rest,c4,c5⟩:=hreal (by simpa [Blk.real] using hc0)
   rw [flatten_v] at c5
   have hvals:=dsR_flat c5
   generalize hd:y::ys=d at *
   have hm':∀ x∈d.map enc,x.length=k:=fun x hx=>by obtain ⟨y,_,rfl⟩:=List.mem_map.1 hx;exact hk y
   have hfl:(d.map enc).flatten.length=d.length*k:=by rw [flat_len2 hm',List.length_map]
   have hbl:m.b<w.heap.size:=hM _ (hm hc0)
   have hH:HoldsK enc k w m.b 0 d.toArray:=by
    intro j hj
    have hj':j<d.length*k:=by simpa using hj
    rw [Nat.zero_add]
    refine ⟨?_,frozen_of_row w m.b j cs.toArray T hcs⟩
    rw [cell_of ⟨T,hcs⟩,c4,List.getElem?_append_left (by rw [hvals,hfl];exact hj'),hvals,← flatK_toList hk0 hk,Array.getElem?_toList,getElem!_pos (flatK enc k d.toArray) j hj,Array.getElem?_eq_getElem hj]
    rfl
   have hHold:∀ n (dk:Array α) os,Sx.Holds M w (sortWorldK enc k w m.b 0 n dk os):=fun n dk os =>
    ⟨size_sort,fun b hb hMb _=>heap_sort_other hb fun e=>hMb (by rw [e];exact hm hc0)⟩
   have hC:CmpLays P g ps.toArray enc k cf m.b 0 d.toArray.size w:=by
    intro n os dk hdk a b
    have hargs:DCsR (sortWorldK enc k w m.b 0 n dk os) M ([.agg ((enc a).map .v),.agg ((enc b).map .v)]++refsC caps) ([.agg (enc a).toArray,.agg (enc b).toArray]++ps) :=
     ⟨⟨_,rfl,dsR_of_flat (h1 a)⟩,⟨_,rfl,dsR_of_flat (h1 b)⟩,hps.mono (hHold n dk os) (fun _ _ h=>h)⟩
    rcases hcmp a b _ M _ ⟨fun b hb=>Nat.lt_of_lt_of_le (hM b hb) size_sort,gd_keep size_sort (fun b hb=>heap_sort_other (Nat.lt_of_lt_of_le hb (gd_size hM.gd)) fun e=>by have:=hM.ge _ (hm hc0);omega) hM.gd,hM.ge⟩ hargs with ⟨g',hg,hc⟩|⟨_,hg,_⟩
    ·rw [eg] at hg
     injection hg with h2
     injection h2 with h2
     subst h2
     have e:(#[Value.agg (enc a).toArray,.agg (enc b).toArray]++ps.toArray:Array Value)=([Value.agg (enc a).toArray,Value.agg (enc b).toArray]++ps).toArray:=by simp
     rw [e]
     refine hc.mono ?_
     rintro e w' ⟨u,rfl,hu,hb,hdr⟩
     have hu:Rep w' M (.v (.int .i64 (cf a b))) u:=hu
     cases hu
     obtain ⟨q,hq⟩:=regrown_of_below hb
     have hqd:w'.drawn=q.d:=by rw [hq];rfl
     refine ⟨rfl,q.d-(sortWorldK enc k w m.b 0 n dk os).drawn,q.os,?_⟩
     rw [hq]
     unfold redrawn World.drewN
     rw [show (sortWorldK enc k w m.b 0 n dk os).drawn+(q.d-(sortWorldK enc k w m.b 0 n dk os).drawn)=q.d by omega]
    ·rw [eg] at hg
     injection hg with h2
     cases h2
   have hlaw:=AnyQ.slices_SortFunc_eq L k aE zE enc hk (fun x v hv=>(h1 x v hv).1) cf hO g ps.toArray m.b 0 m.cap d.toArray w eg hC hH hbl (by simpa using hsz)
   have e0:d.toArray.size=d.length:=by simp
   have e9:pdq (ltOf cf) d.toArray 0 d.toArray.size (Lib.bitLen d.toArray.size) true true=(pqS cf d).toArray:=by unfold pqS;simp
   rw [e9] at hlaw
   rw [e0] at hlaw
   refine hlaw.mono ?_
   rintro e w' ⟨rfl,n,os,rfl⟩
   have hsl0:=(pqS_ok hO d).1.length_eq
   generalize hs:pqS cf d=s at *
   have hsl:s.length=d.length:=hsl0
   have hms:∀ x∈s.map enc,x.length=k:=fun x hx=>by obtain ⟨y,_,rfl⟩:=List.mem_map.1 hx;exact hk y
   have hsfl:(s.map enc).flatten.length=d.length*k:=by rw [flat_len2 hms,List.length_map,hsl]
   refine ⟨rfl,⟨rfl,rfl,rfl,size_sort,fun b hb hne=>heap_sort_other hb fun e=>hne ⟨hc0,e⟩,.inr ?_⟩,⟨fun x hx => ?_,by rw [List.length_map,hsl,k2],fun h=>by omega,rfl,k5⟩,fun _ => ?_⟩
   ·show w.drawn≤w.drawn+n
    omega
   ·obtain ⟨y,_,rfl⟩:=List.mem_map.1 hx
    rw [List.length_map];exact hk y
   ·have hsize:(flatK enc k s.toArray).size=d.length*k:=by simp [hsl]
    have hle:(flatK enc k s.toArray).size≤cs.length:=by rw [hsize,c3];exact Nat.mul_le_mul_right _ (by simpa using c1)
    refine ⟨(flatK enc k s.toArray).toList++cs.drop (flatK enc k s.toArray).size,⟨T,?_⟩,by rw [List.length_map,hsl];simpa using c1,c2,?_,(flatK enc k s.toArray).toList,cs.drop (flatK enc k s.toArray).size,rfl,?_⟩
    ·rw [heap_sort hcs,← put_flat hle]
    ·rw [List.length_append,Array.length_toList,List.length_drop]
     omega
    ·rw [flatten_v,flatK_toList hk0 hk]
     exact dsR_of_flat fun v hv=>by
      obtain ⟨x,hx,hvx⟩:=List.mem_flatten.1 hv
      obtain ⟨z,_,rfl⟩:=List.mem_map.1 hx
      exact h1 z v hvx
end Sx
theorem tsort1_fnd (p q:Pt):FnD Tryz.prog 48 [p.dc,q.dc] (ret1 (cmpN p.id q.id)):=by
 have H:=cmpint_fnd p.id q.id
 refine fn_okD (by kernel_rfl) ty_okD rfl Tryz.func48 rfl (fun _ _=>Tryz.call48 _ _) rfl ?_
 intro hw
 clear hw
 repeat' ((conv=>whnf);first|(with_reducible first|refine br_t ?_|refine br_f ?_|refine zd ?_|refine za ?_|refine zg ?_)|refine zp ?_|refine zq ?_|(with_reducible first|refine bc (fun h => ?_) (fun h => ?_)|refine zt ?_|refine zf ?_|refine br_i (fun h => ?_) (fun h => ?_))|refine zg ?_|refine zi ?_|refine zb ?_)
 all_goals conv=>whnf
 all_goals rfl
theorem sortId_mu (l:List Pt) (hl:∀ p∈l,p.chk=0) (hsz:l.length≤1000000):∃ L:List Pt,L.Perm l∧(L.Pairwise fun a b=>a.id≤b.id)∧FnMu Tryz.prog 47 3 (l.map Pt.c) [.one (.clo 48 [])] (L.map Pt.c):=by
 have swo:∀ {α:Type} (f:α→Int),SWO (ltOf fun x y:α=>cmpN (f x) (f y)):=fun f=>by
  refine ⟨fun p => ?_,fun p q r h1 h2 => ?_,fun p q r h1 h2 => ?_⟩
  ·unfold ltOf cmpN;simp
  ·unfold ltOf cmpN at *;simp only [decide_eq_true_eq] at *;(repeat' split at h1)<;>(repeat' split at h2)<;>(repeat' split)<;>omega
  ·unfold ltOf cmpN at *;simp only [decide_eq_false_iff_not] at *;(repeat' split at h1)<;>(repeat' split at h2)<;>(repeat' split)<;>omega
 cases l with
 | nil =>
  have:=sort_muE (P:=Tryz.prog) (ρ:=Tryz.sortPt_ren) (α:=Unit) (k:=3) Tryz.sortPt (by decide) Tryz.isAgg43 Tryz.sizeOf43 (fun _=>[.int .i64 0,.int .i64 0,.int .i64 0]) (fun _=>rfl) (fun _ v hv=>by simp at hv;subst hv;exact ⟨rfl,WD_v.1 (wd_i64.2 (by omega))⟩) (fun _ _=>cmpN 0 0) (swo fun _=>0) (g:=48) (caps:=[]) (fun _ _=>Tryz.call48 _ _) (fun _ _=>Tryz.call47 _ _)
   (fun _ _=>tsort1_fnd ⟨0,0,0⟩ ⟨0,0,0⟩) [] (by decide)
  have e:pqS (fun (_ _:Unit)=>cmpN 0 0) []=[]:=List.length_eq_zero_iff.1 (pqS_ok (swo fun _:Unit=>0) []).1.length_eq
  rw [e] at this
  exact ⟨[],.refl _,List.Pairwise.nil,this⟩
 | cons y ys =>
  generalize hd:y::ys=l at *
  have:Inhabited {p:Pt // p∈l}:=⟨⟨y,by rw [← hd];exact List.mem_cons_self ..⟩⟩
  have ok:=pqS_ok (swo fun p:{p:Pt // p∈l}=>p.1.id) l.attach
  have key:=sort_muE (P:=Tryz.prog) (ρ:=Tryz.sortPt_ren) (α:={p:Pt // p∈l}) (k:=3) Tryz.sortPt (by decide) Tryz.isAgg43 Tryz.sizeOf43 (fun p=>[.int .i64 p.1.id,.int .i64 p.1.a,.int .i64 p.1.b]) (fun _=>rfl) (fun p v hv=>by
    have hc:=cpt_ok (hl p.1 p.2)
    simp at hv
    rcases hv with rfl|rfl|rfl
    all_goals exact ⟨rfl,WD_v.1 (wd_i64.2 (by omega))⟩) (fun p q=>cmpN p.1.id q.1.id) (swo fun p:{p:Pt // p∈l}=>p.1.id) (g:=48) (caps:=[]) (fun _ _=>Tryz.call48 _ _) (fun _ _=>Tryz.call47 _ _)
   (fun p q=>tsort1_fnd p.1 q.1) l.attach (by simp;omega)
  have e1:(l.attach.map fun p=>([.int .i64 p.1.id,.int .i64 p.1.a,.int .i64 p.1.b]:List Value).map D.v)=l.map Pt.c:=by
   rw [show (fun p:{p:Pt // p∈l}=>([.int .i64 p.1.id,.int .i64 p.1.a,.int .i64 p.1.b]:List Value).map D.v)=Pt.c ∘ Subtype.val from rfl,← List.map_map,List.attach_map_subtype_val]
  rw [e1] at key
  refine ⟨(pqS (fun p q:{p:Pt // p∈l}=>cmpN p.1.id q.1.id) l.attach).map Subtype.val,?_,?_,?_⟩
  ·have:=ok.1.map Subtype.val
   rwa [List.attach_map_subtype_val] at this
  ·rw [List.pairwise_map]
   refine ok.2.imp fun {a b} h => ?_
   unfold ltOf cmpN at h
   simp only [decide_eq_false_iff_not] at h
   (repeat' split at h)<;>omega
  ·rw [List.map_map]
   exact key
end Go.Proofs.YtfkfficabeclcaaGreatDoor

namespace Go.Proofs.YtfkfficabeclcaaGreatDoor
open Go Go.RowKit Go.Sort Sx
open Go.Lib hiding intOf
set_option maxRecDepth 2000
theorem tchk_of {m:Md} (h:mchk m=0):tchk m.l m.n m.d=0:=by
 obtain ⟨h1,h2⟩:=mchk_ok h
 unfold tchk
 rw [if_pos h2]
 exact (askd_ok h1).1
theorem closV_few {m:Md} (h:mchk m=0) (h2:m.l.length<2):closV m.l m.n m.d=(0,0,0,0,42):=by
 obtain ⟨h1,h3⟩:=mchk_ok h
 unfold closV
 rw [if_pos h3,if_pos h1,if_pos h2]
theorem closV_many {m:Md} (h:mchk m=0) (h2:¬ m.l.length<2):(closV m.l m.n m.d).2.2.2.2=0:=by
 obtain ⟨h1,h3⟩:=mchk_ok h
 unfold closV
 rw [if_pos h3,if_pos h1,if_neg h2]
theorem joined1 {w:Str} {a:Pp} (hw:w.length≤100) (h1:a.ok):FnOK Tryz.prog 38 [.one (str w),.one (.list 1 [[.v a.v]])] (.c (.one (str (joinS [w,a.s])))):=joined_fn w [a] hw (by simp) (fun p hp=>by obtain rfl:=List.mem_singleton.1 hp;exact h1)
theorem joined3 {w:Str} {a b c:Pp} (hw:w.length≤100) (h1:a.ok) (h2:b.ok) (h3:c.ok):FnOK Tryz.prog 38 [.one (str w),.one (.list 1 [[.v a.v],[.v b.v],[.v c.v]])] (.c (.one (str (joinS [w,a.s,b.s,c.s])))):=joined_fn w [a,b,c] hw (by simp) (fun p hp=>by
 simp only [List.mem_cons,List.not_mem_nil,or_false] at hp
 rcases hp with rfl|rfl|rfl<;>assumption)
set_option maxRecDepth 100000 in
set_option maxHeartbeats 4000000 in
theorem tlines_fn (m:Md) (hm:mchk m=0):FnOK Tryz.prog 50 [m.dc] (.tup [.one (strs (linesV m)),.one (i64 0)]):=by
 obtain ⟨g1,g2⟩:=mchk_ok hm
 obtain ⟨k1,k2,k3⟩:=fchk_ok g2
 have HO:=fOrder_fn m.l m.n m.d
 unfold orderV at HO
 rw [if_pos (tchk_of hm)] at HO
 simp only [retO] at HO
 have HC:=oClosest_fn m.l m.n m.d
 have HN:=mNext_fn (n:=m.n) (e:=m.d) g2 (askd_ok g1).1
 have a5:=askd_ok g1
 have hol:(ordV m.l m.n m.d).length=m.l.length:=by unfold ordV;rw [List.length_map,srt_len]
 have hil:((ordV m.l m.n m.d).map fun i=>[i64 i]).length=m.l.length:=by rw [List.length_map,hol]
 have J1:FnOK Tryz.prog 38 [.one (str [116,105,109,101]),.one (.list 1 [[.v (.iface 25 (.agg #[.int .i64 m.n,.int .i64 m.d]))]])] (.c (.one (str (joinS [wTime,(numV m.n m.d).1])))):=joined1 (w:=wTime) (a:=.r m.n m.d) (by decide) ⟨⟨by omega,by omega⟩,⟨by omega,by omega⟩⟩
 have J2:FnOK Tryz.prog 38 [.one (str [32,112,111,105,110,116,115]),.one (.list 1 [[.v (.iface 3 (.int .i64 ((((ordV m.l m.n m.d).map fun i=>[i64 i]).length:Nat):Int)))]])] (.c (.one (str (joinS [wPts,itoa (m.l.length:Int)])))):=by
  rw [hil]
  exact joined1 (w:=wPts) (a:=.i (m.l.length:Int)) (by decide) ⟨by omega,by omega⟩
 have l1:(joinS [wTime,(numV m.n m.d).1]).length≤100:=by
  have:=numV_len (n:=m.n) (d:=m.d) ⟨by omega,by omega⟩ ⟨by omega,by omega⟩
  show (wTime++32::(numV m.n m.d).1).length≤100
  simp [wTime];omega
 have l2:(joinS [wPts,itoa (m.l.length:Int)]).length≤100:=by
  have:=itoa_le (n:=(m.l.length:Int)) ⟨by omega,by omega⟩
  show (wPts++32::itoa _).length≤100
  simp [wPts];omega
 have hhead:headB m=joinS [wTime,(numV m.n m.d).1]++joinS [wPts,itoa (m.l.length:Int)]:=rfl
 generalize joinS [wTime,(numV m.n m.d).1]=A at *
 generalize joinS [wPts,itoa (m.l.length:Int)]=B at *
 have hkl:=rowsK_len m.n m.d (srt m.n m.d m.l)
 have hsl:(srt m.n m.d m.l).length=m.l.length:=srt_len ..
 have hlin:(linesV m).map (fun s=>[str s])=((headB m::rowsK m.n m.d (srt m.n m.d m.l) m.l.length).map fun s=>[str s])++[[str (clsB m)],[str (nxtB m)]]:=by
  unfold linesV
  rw [List.map_append]
  rfl
 show FnOK _ _ _ (.tup [.one (.list 1 ((linesV m).map fun s=>[str s])),.one (i64 0)])
 rw [hlin]
 clear hlin
 have JC:¬ m.l.length<2→FnOK Tryz.prog 38 [.one (str [99,108,111,115,101,115,116]),.one (.list 1 [[.v (.iface 3 (.int .i64 (closV m.l m.n m.d).1))],[.v (.iface 3 (.int .i64 (closV m.l m.n m.d).2.1))],[.v (.iface 25 (.agg #[.int .i64 (closV m.l m.n m.d).2.2.1,.int .i64 (closV m.l m.n m.d).2.2.2.1]))]])] (.c (.one (str (clsB m)))):=fun h=>by
  obtain ⟨p1,p2,p3,p4,p5,p6,p7⟩:=pairC_ok k2 g1 (show 2≤m.l.length by omega)
  have i1:=Pt.chk_ok (k2 _ (List.getElem_mem p6))
  have i2:=Pt.chk_ok (k2 _ (List.getElem_mem p7))
  have e:closV m.l m.n m.d=((m.l[(pairC m.l m.n m.d).1]?.getD default).id,(m.l[(pairC m.l m.n m.d).2.1]?.getD default).id,(pairC m.l m.n m.d).2.2.1,(pairC m.l m.n m.d).2.2.2,0):=by
   unfold closV
   rw [if_pos g2,if_pos g1,if_neg h]
  unfold clsB
  rw [if_neg h,e,List.getElem?_eq_getElem p6,List.getElem?_eq_getElem p7]
  simp only [Option.getD_some]
  exact joined3 (w:=wClst) (a:=.i _) (b:=.i _) (c:=.r _ _) (by decide) ⟨by omega,by omega⟩ ⟨by omega,by omega⟩ ⟨⟨by omega,by omega⟩,⟨by omega,by omega⟩⟩
 have JN:(nxtV m.l m.n m.d).2=0→FnOK Tryz.prog 38 [.one (str [110,101,120,116]),.one (.list 1 [[.v (.iface 25 (.agg #[.int .i64 (nxtV m.l m.n m.d).1.n,.int .i64 (nxtV m.l m.n m.d).1.d]))],[.v (.iface 3 (.int .i64 (nxtV m.l m.n m.d).1.i))],[.v (.iface 3 (.int .i64 (nxtV m.l m.n m.d).1.j))]])] (.c (.one (str (nxtB m)))):=fun h=>by
  have ho:(nxtV m.l m.n m.d).1.ok:=by
   unfold nxtV at h ⊢
   split at h
   ·rename_i hlt
    rw [dif_pos hlt]
    exact (outs_ok g2 _ (msrt_mem.1 (List.getElem_mem hlt))).1
   ·cases h
  obtain ⟨o1,o2,o3,o4,o5⟩:=ho
  have:=(chk_iff _ _).1 o1
  unfold nxtB
  rw [if_pos h]
  exact joined3 (w:=wNext) (a:=.r _ _) (b:=.i _) (c:=.i _) (by decide) ⟨o2,⟨by omega,by omega⟩⟩ o4 ⟨by omega,by omega⟩
 have C0:clsB m=if m.l.length<2 then wClst0 else clsB m:=by
  split
  ·rename_i h;unfold clsB;rw [if_pos h]
  ·rfl
 have N0:(nxtV m.l m.n m.d).2≠0→nxtB m=wNext0:=fun h=>by unfold nxtB;rw [if_neg h]
 have hfew:=closV_few hm
 have hmany:=closV_many hm
 generalize clsB m=cB at *
 generalize nxtB m=nB at *
 generalize closV m.l m.n m.d=cV at *
 generalize nxtV m.l m.n m.d=nV at *
 obtain ⟨c1,c2,c3,c4,c5⟩:=cV
 obtain ⟨⟨n1,n2,n3,n4⟩,n5⟩:=nV
 simp only [retC,retNx,Mt.dc] at HC HN JC JN N0 hfew hmany
 refine fn_ok (by kernel_rfl) (ty_okKB [42,84,131] [] [] []) Tryz.func50 rfl (fun _ _=>Tryz.call50 _ _) rfl ?_
 intro hw
 clear hw
 repeat' ((conv=>whnf);first|(with_reducible first|refine br_t ?_|refine br_f ?_|refine za ?_|refine zg ?_|refine zo ?_)|refine zmi ?_|refine zml ?_|refine zmr ?_|refine zsl ?_|refine zsg ?_|refine zss ?_|refine zs1 ?_|refine zse ?_|refine zsn ?_|refine zsc ?_|(with_reducible first|refine zpa ?_|refine zqa ?_)|refine zp ?_|refine zq ?_|(with_reducible first|refine bc (fun h => ?_) (fun h => ?_)|refine zt ?_|refine zf ?_|refine br_i (fun h => ?_) (fun h => ?_))|refine zg ?_|refine zi ?_|refine zb ?_|refine zl ?_)
 all_goals conv=>whnf
 refine loop_keep [1,43,44,45,6] ?_
 conv=>whnf
 refine loop_J (by kernel_rfl) (ty_okKB [42,84,131] [] [] []) (σ:=Nat) (fun i=>[(45,sV (.int .i64 (i:Nat))),(6,.c (.at (.osl 42 0)))]) (fun i=>[(42,.row 1 ((headB m::rowsK m.n m.d (srt m.n m.d m.l) i).map fun s=>[str s]) 0)]) (fun i=>i≤m.l.length) (fun i=>m.l.length-i) 0 (Nat.zero_le _) ?_ ?_
 ·rw [hhead]
  (conv=>whnf);exact zent
 intro i hi
 have hki:=hkl i (by omega)
 have hrl:((headB m::rowsK m.n m.d (srt m.n m.d m.l) i).map fun s=>[str s]).length=i+1:=by rw [List.length_map,List.length_cons,hki]
 rcases Nat.lt_or_ge i m.l.length with hlt|hge
 ·have his:i<(srt m.n m.d m.l).length:=by omega
  have hel:((ordV m.l m.n m.d).map fun i=>[i64 i])[((i:Nat):Int).toNat]? = some [i64 (srt m.n m.d m.l)[i].id]:=by
   unfold ordV
   rw [Int.toNat_natCast,List.getElem?_map,List.getElem?_map,List.getElem?_eq_getElem his];rfl
  have hpm:(srt m.n m.d m.l)[i]∈m.l:=(srt_perm m.n m.d m.l).mem_iff.1 (List.getElem_mem his)
  have hpc:=k2 _ hpm
  have hs:=rowsK_succ (n:=m.n) (d:=m.d) his
  have HF:=fFind_fn m.l (srt m.n m.d m.l)[i].id
  rw [findV_mem g2 hpm] at HF
  have hplc:=plc_ok hpc g1
  have hpk:=Pt.chk_ok hpc
  generalize (srt m.n m.d m.l)[i]=p at *
  have HA:=kAt_fn p.id p.a p.b m.n m.d
  rw [hplc.1] at HA
  have HI:=ito_fn (n:=((i+1:Nat):Int))
  have ew:IntKind.i64.wrap ((i:Int)+1)=((i+1:Nat):Int):=by rw [IntWalk.i64_in _ (by omega)];omega
  have J3:FnOK Tryz.prog 38 [.one (str (itoa ((i+1:Nat):Int))),.one (.list 1 [[.v (.iface 3 (.int .i64 p.id))],[.v (.iface 25 (.agg #[.int .i64 (plc p m.n m.d).1,.int .i64 (plc p m.n m.d).2]))],[.v (.iface 2 (.int .i64 p.b))]])] (.c (.one (str (rowB m.n m.d i p)))) :=
   joined3 (a:=.i p.id) (b:=.r (plc p m.n m.d).1 (plc p m.n m.d).2) (c:=.l p.b) (Nat.le_trans (itoa_le ⟨by omega,by omega⟩) (by decide)) ⟨by omega,by omega⟩ ⟨⟨by omega,by omega⟩,⟨by omega,by omega⟩⟩ ⟨by omega,by omega⟩
  have hss:((headB m::rowsK m.n m.d (srt m.n m.d m.l) i).map fun s=>[str s])++[[str (rowB m.n m.d i p)]]=(headB m::rowsK m.n m.d (srt m.n m.d m.l) (i+1)).map fun s=>[str s]:=by rw [hs];simp
  rw [← ew] at HI J3
  clear hs hplc HC HN JC JN C0 N0 hfew hmany J1 J2
  generalize rowB m.n m.d i p=R at *
  generalize plc p m.n m.d=q at *
  obtain ⟨q1,q2⟩:=q
  obtain ⟨p1,p2,p3⟩:=p
  simp only [retPt,Pt.dc,ret3] at *
  repeat' ((conv=>whnf);first|(with_reducible first|refine br_t ?_|refine br_f ?_|refine za ?_|refine zg ?_|refine zo ?_)|refine zmi ?_|refine zml ?_|refine zmr ?_|refine zsl ?_|refine zsg ?_|refine zss ?_|refine zs1 ?_|refine zse ?_|refine zsn ?_|refine zsc ?_|(with_reducible first|refine zpa ?_|refine zqa ?_)|refine zp ?_|refine zq ?_|(with_reducible first|refine bc (fun h => ?_) (fun h => ?_)|refine zt ?_|refine zf ?_|refine br_i (fun h => ?_) (fun h => ?_))|refine zg ?_|refine zi ?_|refine zb ?_|refine zl ?_)
  all_goals conv=>whnf
  refine ⟨i+1,hlt,?_,by omega⟩
  (conv=>whnf);refine ⟨by repeat' (first|with_reducible exact zE0|with_reducible refine zE1 ?_ ?_|rfl|assumption|((exact congrArg (fun x=>some (Blk.row 1 x 0)) hss))|exact zi1|exact zb1),by repeat' (first|with_reducible exact zH0|with_reducible refine zH1 ?_ ?_|rfl|assumption|((exact congrArg (fun x=>some (Blk.row 1 x 0)) hss))),rfl⟩
 ·obtain rfl:i=m.l.length:=by omega
  generalize ((headB m::rowsK m.n m.d (srt m.n m.d m.l) m.l.length).map fun s=>[str s])=OUT at *
  by_cases hn:n5=0
  ·subst hn
   have JN:=JN rfl
   by_cases h2:m.l.length<2
   ·rw [if_pos h2] at C0
    subst C0
    have hfew:=hfew h2
    simp only [Prod.mk.injEq] at hfew
    obtain ⟨rfl,rfl,rfl,rfl,rfl⟩:=hfew
    clear JC hmany N0
    repeat' ((conv=>whnf);first|(with_reducible first|refine br_t ?_|refine br_f ?_|refine za ?_|refine zg ?_|refine zo ?_)|refine zmi ?_|refine zml ?_|refine zmr ?_|refine zsl ?_|refine zsg ?_|refine zss ?_|refine zs1 ?_|refine zse ?_|refine zsn ?_|refine zsc ?_|(with_reducible first|refine zpa ?_|refine zqa ?_)|refine zp ?_|refine zq ?_|(with_reducible first|refine bc (fun h => ?_) (fun h => ?_)|refine zt ?_|refine zf ?_|refine br_i (fun h => ?_) (fun h => ?_))|refine zg ?_|refine zi ?_|refine zb ?_|refine zl ?_)
    all_goals conv=>whnf
    all_goals rfl
   ·have JC:=JC h2
    obtain rfl:c5=0:=hmany h2
    clear C0 hfew hmany N0
    repeat' ((conv=>whnf);first|(with_reducible first|refine br_t ?_|refine br_f ?_|refine za ?_|refine zg ?_|refine zo ?_)|refine zmi ?_|refine zml ?_|refine zmr ?_|refine zsl ?_|refine zsg ?_|refine zss ?_|refine zs1 ?_|refine zse ?_|refine zsn ?_|refine zsc ?_|(with_reducible first|refine zpa ?_|refine zqa ?_)|refine zp ?_|refine zq ?_|(with_reducible first|refine bc (fun h => ?_) (fun h => ?_)|refine zt ?_|refine zf ?_|refine br_i (fun h => ?_) (fun h => ?_))|refine zg ?_|refine zi ?_|refine zb ?_|refine zl ?_)
    all_goals conv=>whnf
    all_goals rfl
  ·obtain rfl:=N0 hn
   by_cases h2:m.l.length<2
   ·rw [if_pos h2] at C0
    subst C0
    have hfew:=hfew h2
    simp only [Prod.mk.injEq] at hfew
    obtain ⟨rfl,rfl,rfl,rfl,rfl⟩:=hfew
    clear JC JN hmany
    repeat' ((conv=>whnf);first|(with_reducible first|refine br_t ?_|refine br_f ?_|refine za ?_|refine zg ?_|refine zo ?_)|refine zmi ?_|refine zml ?_|refine zmr ?_|refine zsl ?_|refine zsg ?_|refine zss ?_|refine zs1 ?_|refine zse ?_|refine zsn ?_|refine zsc ?_|(with_reducible first|refine zpa ?_|refine zqa ?_)|refine zp ?_|refine zq ?_|(with_reducible first|refine bc (fun h => ?_) (fun h => ?_)|refine zt ?_|refine zf ?_|refine br_i (fun h => ?_) (fun h => ?_))|refine zg ?_|refine zi ?_|refine zb ?_|refine zl ?_)
    all_goals conv=>whnf
    all_goals rfl
   ·have JC:=JC h2
    obtain rfl:c5=0:=hmany h2
    clear C0 hfew hmany JN
    repeat' ((conv=>whnf);first|(with_reducible first|refine br_t ?_|refine br_f ?_|refine za ?_|refine zg ?_|refine zo ?_)|refine zmi ?_|refine zml ?_|refine zmr ?_|refine zsl ?_|refine zsg ?_|refine zss ?_|refine zs1 ?_|refine zse ?_|refine zsn ?_|refine zsc ?_|(with_reducible first|refine zpa ?_|refine zqa ?_)|refine zp ?_|refine zq ?_|(with_reducible first|refine bc (fun h => ?_) (fun h => ?_)|refine zt ?_|refine zf ?_|refine br_i (fun h => ?_) (fun h => ?_))|refine zg ?_|refine zi ?_|refine zb ?_|refine zl ?_)
    all_goals conv=>whnf
    all_goals rfl
end Go.Proofs.YtfkfficabeclcaaGreatDoor

namespace Go.Proofs.YtfkfficabeclcaaGreatDoor
open Go Go.RowKit Go.Sort Sx
open Go.Lib hiding intOf
set_option maxRecDepth 2000
theorem tStanding_fn (m:Md):FnOK Tryz.prog 17 [m.dc] (retS (standV m)):=by
 have HC:=oCheck_fn m
 unfold standV
 by_cases h:mchk m=0
 ·rw [if_pos h]
  have HL:=tlines_fn m h
  have hne:linesV m≠[]:=by unfold linesV;simp
  have hlen:=linesV_len m
  have hk:=(fchk_ok (mchk_ok h).2).1
  have hst:=nlS_join hne
  have hb:=stT_len h
  unfold stT at hb ⊢
  rw [hst,List.length_append,List.length_singleton] at hb
  rw [hst]
  have HJ:FnOK Tryz.prog 51 [.one (strs (linesV m)),.one (str [10])] (.c (.one (str (joinC 10 (linesV m))))):=join_fn (by omega) (by omega)
  rw [h] at HC
  clear h hst hne
  generalize linesV m=L at *
  generalize joinC 10 L=J at *
  obtain ⟨n,d,l⟩:=m
  simp only [retS,Md.dc] at *
  refine fn_ok (by kernel_rfl) ty_ok Tryz.func17 rfl (fun _ _=>Tryz.call17 _ _) rfl ?_
  intro hw
  clear hw
  repeat' ((conv=>whnf);first|(with_reducible first|refine br_t ?_|refine br_f ?_|refine za ?_|refine zg ?_)|refine zsl ?_|refine zsg ?_|refine zss ?_|refine zs1 ?_|refine zse ?_|refine zsn ?_|refine zsc ?_|(with_reducible first|refine zpa ?_|refine zqa ?_)|refine zp ?_|refine zq ?_|(with_reducible first|refine bc (fun h => ?_) (fun h => ?_)|refine zt ?_|refine zf ?_|refine br_i (fun h => ?_) (fun h => ?_))|refine zg ?_|refine zi ?_|refine zb ?_)
  all_goals conv=>whnf
  all_goals rfl
 ·rw [if_neg h]
  generalize mchk m=z at *
  obtain ⟨n,d,l⟩:=m
  simp only [retS,Md.dc] at *
  refine fn_ok (by kernel_rfl) ty_ok Tryz.func17 rfl (fun _ _=>Tryz.call17 _ _) rfl ?_
  intro hw
  clear hw
  repeat' ((conv=>whnf);first|(with_reducible first|refine br_t ?_|refine br_f ?_|refine za ?_|refine zg ?_)|refine zsl ?_|refine zsg ?_|refine zss ?_|refine zs1 ?_|refine zse ?_|refine zsn ?_|refine zsc ?_|(with_reducible first|refine zpa ?_|refine zqa ?_)|refine zp ?_|refine zq ?_|(with_reducible first|refine bc (fun h => ?_) (fun h => ?_)|refine zt ?_|refine zf ?_|refine br_i (fun h => ?_) (fun h => ?_))|refine zg ?_|refine zi ?_|refine zb ?_)
  all_goals conv=>whnf
  all_goals rfl
end Go.Proofs.YtfkfficabeclcaaGreatDoor
