import Derived.Test.YtfkfficabeclcaaGreatDoorGLTStandingsAY
import Derived.Test.YtfkfficabeclcaaGreatDoorGLTStandingsAZ
import Derived.Test.YtfkfficabeclcaaGreatDoorGLTStandingsAX
import Derived.Test.YtfkfficabeclcaaGreatDoorGLTStandingsAS
import Derived.Test.YtfkfficabeclcaaGreatDoorGLTStandingsAR
set_option linter.all false
namespace Go.Proofs.YtfkfficabeclcaaGreatDoor
open Go Go.RowKit Go.Sort Sx
open Go.Lib hiding intOf
set_option maxRecDepth 2000
theorem rdRws_step0 {f:List Str→Option Pt} {R:List Str} {i:Nat} {A:List Pt} (hi:i<R.length) (h:rdRws f (R.take i)=some A):rdRws f (R.take (i+1))=(f (spl 32 R[i])).map fun p=>A++[p]:=by
 rw [List.take_succ_eq_append_getElem hi,rdRws_app,h]
 dsimp only
 rw [rdRws_one]
 cases f (spl 32 R[i])<;>rfl
theorem rdRws_stop0 {f:List Str→Option Pt} {R:List Str} {i:Nat} (h:rdRws f (R.take (i+1))=none):rdRws f R=none:=by
 have e:R=R.take (i+1)++R.drop (i+1):=(List.take_append_drop _ _).symm
 rw [e,rdRws_app,h]
theorem rdRws_ok {n d:Int}:∀ {l:List Str} {A:List Pt},rdRws (pcdP n d) l=some A→∀ p∈A,p.chk=0
 | [],A,h,p,hp=>by rw [rdRws] at h;injection h with h;subst h;cases hp
 | x::l,A,h,p,hp=>by
  rw [rdRws] at h
  cases h1:pcdP n d (spl 32 x) with
  | none=>rw [h1] at h;cases h
  | some q =>
   rw [h1] at h
   dsimp only at h
   cases h2:rdRws (pcdP n d) l with
   | none=>rw [h2] at h;cases h
   | some r =>
    rw [h2] at h
    injection h with h
    subst h
    rcases List.mem_cons.1 hp with rfl|hp
    ·rw [pcX_is] at h1
     split at h1
     ·unfold plcV at h1
      split at h1
      ·split at h1
       ·rename_i hc
        injection h1 with h1
        rw [← h1]
        exact hc.2.2
       ·cases h1
      ·cases h1
     ·cases h1
    ·exact rdRws_ok h2 p hp
set_option maxRecDepth 100000 in
set_option maxHeartbeats 8000000 in
theorem tReadStanding_fn (s:Str) (hs1:s.length≤999999):FnOK Tryz.prog 16 [.one (str s)] (retMe (sreadP s)):=by
 unfold sreadP
 by_cases hb:110000<s.length
 ·rw [if_pos hb]
  simp only [retMe,Md.dc,pts,List.map_nil]
  refine fn_ok (by kernel_rfl) (ty_okKB [71] [47] [] []) Tryz.func16 rfl (fun _ _=>Tryz.call16 _ _) rfl ?_
  intro hw
  clear hw
  repeat' ((conv=>whnf);first|(with_reducible first|refine br_t ?_|refine br_f ?_|refine za ?_|refine zg ?_|refine zo ?_|refine zm ?_)|refine zsl ?_|refine zsg ?_|refine zss ?_|refine zs1 ?_|refine zse ?_|refine zsn ?_|refine zsc ?_|(with_reducible first|refine zpa ?_|refine zqa ?_)|refine zp ?_|refine zq ?_|(with_reducible first|refine bc (fun h => ?_) (fun h => ?_)|refine zt ?_|refine zf ?_|refine br_i (fun h => ?_) (fun h => ?_))|refine zg ?_|refine zi ?_|refine zb ?_|refine zl ?_)
  all_goals conv=>whnf
  all_goals rfl
 rw [if_neg hb]
 have Hs:FnOK Tryz.prog 44 [.one (str s),.one (str [10])] (.c (.one (strs (spl 10 s)))):=split_fn (s:=s) (c:=10) (by omega)
 have hl1:=spl_len 10 s
 have hl2:=spl_each 10 s
 unfold srdP srdG
 obtain ⟨w0,t,hL⟩:∃ w0 t,spl 10 s=w0::t:=by
  cases h:spl 10 s with
  | nil=>exact absurd h (spl_ne 10 s)
  | cons a b=>exact ⟨a,b,rfl⟩
 have hhd:(spl 10 s).headD []=w0:=by rw [hL];rfl
 have g0:((spl 10 s).map fun s=>[str s])[(0:Int).toNat]? = some [str w0]:=by rw [hL];rfl
 have h0:=hl2 w0 (by rw [hL];exact List.mem_cons_self ..)
 have hL0:0<(spl 10 s).length:=by rw [hL];simp
 rw [hhd]
 clear hL hhd
 generalize spl 10 s=L at *
 have Hs2:FnOK Tryz.prog 44 [.one (str w0),.one (str [32])] (.c (.one (strs (spl 32 w0)))):=split_fn (s:=w0) (c:=32) (by omega)
 have hf2:=spl_each 32 w0
 generalize spl 32 w0=F at *
 have hLl:(L.map fun s=>[str s]).length=L.length:=List.length_map ..
 have hFl:(F.map fun s=>[str s]).length=F.length:=List.length_map ..
 by_cases hA:L.length<4∨68<L.length∨F.length≠4
 ·rw [if_pos hA]
  show FnOK _ _ _ (retMe (⟨0,0,[]⟩,12))
  simp only [retMe,Md.dc,pts,List.map_nil]
  rcases Nat.lt_or_ge L.length 4 with h4|h4
  ·refine fn_ok (by kernel_rfl) (ty_okKB [71] [47] [] []) Tryz.func16 rfl (fun _ _=>Tryz.call16 _ _) rfl ?_
   intro hw
   clear hw
   repeat' ((conv=>whnf);first|(with_reducible first|refine br_t ?_|refine br_f ?_|refine za ?_|refine zg ?_|refine zo ?_|refine zm ?_)|refine zsl ?_|refine zsg ?_|refine zss ?_|refine zs1 ?_|refine zse ?_|refine zsn ?_|refine zsc ?_|(with_reducible first|refine zpa ?_|refine zqa ?_)|refine zp ?_|refine zq ?_|(with_reducible first|refine bc (fun h => ?_) (fun h => ?_)|refine zt ?_|refine zf ?_|refine br_i (fun h => ?_) (fun h => ?_))|refine zg ?_|refine zi ?_|refine zb ?_|refine zl ?_)
   all_goals conv=>whnf
   all_goals rfl
  ·rcases Nat.lt_or_ge 68 L.length with h5|h5
   ·refine fn_ok (by kernel_rfl) (ty_okKB [71] [47] [] []) Tryz.func16 rfl (fun _ _=>Tryz.call16 _ _) rfl ?_
    intro hw
    clear hw
    repeat' ((conv=>whnf);first|(with_reducible first|refine br_t ?_|refine br_f ?_|refine za ?_|refine zg ?_|refine zo ?_|refine zm ?_)|refine zsl ?_|refine zsg ?_|refine zss ?_|refine zs1 ?_|refine zse ?_|refine zsn ?_|refine zsc ?_|(with_reducible first|refine zpa ?_|refine zqa ?_)|refine zp ?_|refine zq ?_|(with_reducible first|refine bc (fun h => ?_) (fun h => ?_)|refine zt ?_|refine zf ?_|refine br_i (fun h => ?_) (fun h => ?_))|refine zg ?_|refine zi ?_|refine zb ?_|refine zl ?_)
    all_goals conv=>whnf
    all_goals rfl
   ·have h6:F.length≠4:=by omega
    refine fn_ok (by kernel_rfl) (ty_okKB [71] [47] [] []) Tryz.func16 rfl (fun _ _=>Tryz.call16 _ _) rfl ?_
    intro hw
    clear hw
    repeat' ((conv=>whnf);first|(with_reducible first|refine br_t ?_|refine br_f ?_|refine za ?_|refine zg ?_|refine zo ?_|refine zm ?_)|refine zsl ?_|refine zsg ?_|refine zss ?_|refine zs1 ?_|refine zse ?_|refine zsn ?_|refine zsc ?_|(with_reducible first|refine zpa ?_|refine zqa ?_)|refine zp ?_|refine zq ?_|(with_reducible first|refine bc (fun h => ?_) (fun h => ?_)|refine zt ?_|refine zf ?_|refine br_i (fun h => ?_) (fun h => ?_))|refine zg ?_|refine zi ?_|refine zb ?_|refine zl ?_)
    all_goals conv=>whnf
    all_goals rfl
 rw [if_neg hA]
 simp only [not_or,Nat.not_lt] at hA
 obtain ⟨hA1,hA2,hA3⟩:=hA
 have hA3:F.length=4:=Decidable.not_not.1 hA3
 match F,hA3 with
 | [f0,f1,f2,f3],_ =>
  have l1:=hf2 f1 (by simp)
  have HP:=now_ptr f1 (by omega)
  simp only [List.getD_cons_succ,List.getD_cons_zero]
  cases hq:frV f1 with
  | none =>
   rw [hq] at HP
   show FnOK _ _ _ (retMe (⟨0,0,[]⟩,12))
   simp only [Option.isSome,Option.getD] at HP
   simp only [retMe,Md.dc,pts,List.map_nil]
   refine fn_ok (by kernel_rfl) (ty_okKB [71] [47] [] []) Tryz.func16 rfl (fun _ _=>Tryz.call16 _ _) rfl ?_
   intro hw
   clear hw
   repeat' ((conv=>whnf);first|(with_reducible first|refine br_t ?_|refine br_f ?_|refine za ?_|refine zg ?_|refine zo ?_|refine zm ?_)|refine zbr ?_|refine ⟨_,_,HP,?_⟩|refine zsl ?_|refine zsg ?_|refine zss ?_|refine zs1 ?_|refine zse ?_|refine zsn ?_|refine zsc ?_|(with_reducible first|refine zpa ?_|refine zqa ?_)|refine zp ?_|refine zq ?_|(with_reducible first|refine bc (fun h => ?_) (fun h => ?_)|refine zt ?_|refine zf ?_|refine br_i (fun h => ?_) (fun h => ?_))|refine zg ?_|refine zi ?_|refine zb ?_|refine zl ?_)
   all_goals conv=>whnf
   all_goals rfl
  | some q =>
   rw [hq] at HP
   obtain ⟨n,d⟩:=q
   simp only [Option.isSome,Option.getD] at HP
   dsimp only
   have ew3:IntKind.i64.wrap (((L.map fun s=>[str s]).length:Int)-3)=((L.length-3:Nat):Int):=by rw [hLl,IntWalk.i64_in _ (by omega)];omega
   obtain ⟨R,hR⟩:∃ R,R=(L.take (L.length-3)).drop 1:=⟨_,rfl⟩
   rw [← hR]
   have hRm:∀ x∈R,x.length≤s.length:=fun x hx=>hl2 x (List.mem_of_mem_take (List.mem_of_mem_drop (by rw [hR] at hx;exact hx)))
   have hRn:R.length=L.length-4:=by rw [hR];simp;omega
   obtain ⟨X,hX⟩:∃ X,X=backS s ((rdRws (pcdP n d) R).map fun l=>(n,d,l)):=⟨_,rfl⟩
   rw [← hX]
   obtain ⟨⟨X1,X2,X3⟩,X4⟩:=X
   simp only [retMe,Md.dc]
   refine fn_ok (by kernel_rfl) (ty_okKB [71] [47] [] []) Tryz.func16 rfl (fun _ _=>Tryz.call16 _ _) rfl ?_
   intro hw
   clear hw
   repeat' ((conv=>whnf);first|(with_reducible first|refine br_t ?_|refine br_f ?_|refine za ?_|refine zg ?_|refine zo ?_|refine zm ?_)|refine zbr ?_|refine ⟨_,_,HP,?_⟩|refine zsl ?_|refine zsg ?_|refine zss ?_|refine zs1 ?_|refine zse ?_|refine zsn ?_|refine zsc ?_|(with_reducible first|refine zpa ?_|refine zqa ?_)|refine zp ?_|refine zq ?_|(with_reducible first|refine bc (fun h => ?_) (fun h => ?_)|refine zt ?_|refine zf ?_|refine br_i (fun h => ?_) (fun h => ?_))|refine zg ?_|refine zi ?_|refine zb ?_|refine zl ?_)
   all_goals conv=>whnf
   have hRR:List.drop (1:Int).toNat (List.take (IntKind.i64.wrap (((L.map fun s=>[str s]).length:Int)-3)).toNat (L.map fun s=>[str s]))=R.map fun s=>[str s]:=by
    rw [ew3,Int.toNat_natCast,hR,List.map_drop,List.map_take]
    rfl
   rw [hRR]
   have hRl:(R.map fun s=>[str s]).length=R.length:=List.length_map ..
   clear hRR
   refine loop_nameH 6 2 100 rfl rfl rfl ?_
   refine loop_J (by kernel_rfl) (ty_okKB [71] [47] [] []) (σ:=Nat × List Pt) (fun x=>[(51,sV (.int .i64 (x.1:Nat)))]) (fun x=>[(6,.own [.d (i64 n),.d (i64 d),.osl 100 0]),(100,.row 3 (x.2.map Pt.c) 0)]) (fun x=>x.1≤R.length∧rdRws (pcdP n d) (R.take x.1)=some x.2) (fun x=>R.length-x.1) (0,[]) ⟨Nat.zero_le _,by rw [List.take_zero];rfl⟩ ?_ ?_
   ·(conv=>whnf);exact zent
   rintro ⟨i,A⟩ ⟨hi2,hI⟩
   dsimp only at hi2 hI
   have hAl:=rdRws_len _ hI
   have hAl2:A.length≤68:=by rw [hAl];simp;omega
   have hAl3:(A.map Pt.c).length=A.length:=List.length_map ..
   rcases Nat.lt_or_ge i R.length with hlt|hge
   ·have hel:(R.map fun s=>[str s])[((i:Nat):Int).toNat]? = some [str R[i]]:=by
     rw [Int.toNat_natCast,List.getElem?_map,List.getElem?_eq_getElem hlt];rfl
    have hli:=hRm R[i] (List.getElem_mem hlt)
    have hst:=rdRws_step0 hlt hI
    have hsp:=fun h=>rdRws_stop0 (f:=pcdP n d) (R:=R) (i:=i) h
    have Hc:FnOK Tryz.prog 44 [.one (str R[i]),.one (str [32])] (.c (.one (strs (spl 32 R[i])))):=split_fn (s:=R[i]) (c:=32) (by omega)
    have hwe:=spl_each 32 R[i]
    have hwl:=spl_len 32 R[i]
    generalize R[i]=line at *
    have Hp:=tplaced_fn (spl 32 line) n d (by omega) (fun x hx=>by have:=hwe x hx;omega)
    have hz:=pcZ_is n d (spl 32 line)
    rw [hz] at hst
    clear hz hwe hwl
    generalize pcZ (pcX (spl 32 line)).1 (pcX (spl 32 line)).2 n d=z at *
    generalize spl 32 line=W at *
    obtain ⟨⟨z1,z2,z3⟩,zb⟩:=z
    have ew:IntKind.i64.wrap ((i:Int)+1)=((i+1:Nat):Int):=by rw [IntWalk.i64_in _ (by omega)];omega
    simp only [retPb,Pt.dc] at Hp
    clear HP
    cases zb
    ·rw [if_neg (by simp)] at hst
     rw [hsp hst] at hX
     have hX:(⟨X1,X2,X3⟩,X4)=((⟨0,0,[]⟩,12):Md × Int):=hX
     injection hX with hX1 hX2
     injection hX1 with hX1 hX3 hX4
     subst hX1 hX2 hX3 hX4
     clear hsp hst hI
     simp only [pts,List.map_nil]
     repeat' ((conv=>whnf);first|(with_reducible first|refine br_t ?_|refine br_f ?_|refine za ?_|refine zg ?_|refine zo ?_|refine zm ?_)|refine zsl ?_|refine zsg ?_|refine zss ?_|refine zs1 ?_|refine zse ?_|refine zsn ?_|refine zsc ?_|(with_reducible first|refine zpa ?_|refine zqa ?_)|refine zp ?_|refine zq ?_|(with_reducible first|refine bc (fun h => ?_) (fun h => ?_)|refine zt ?_|refine zf ?_|refine br_i (fun h => ?_) (fun h => ?_))|refine zg ?_|refine zi ?_|refine zb ?_|refine zl ?_)
     all_goals conv=>whnf
     all_goals rfl
    ·rw [if_pos rfl] at hst
     replace hst:rdRws (pcdP n d) (R.take (i+1))=some (A++[(⟨z1,z2,z3⟩:Pt)]):=hst
     have hap:A.map Pt.c++[[i64 z1,i64 z2,i64 z3]]=(A++[(⟨z1,z2,z3⟩:Pt)]).map Pt.c:=by rw [List.map_append];rfl
     clear hsp hX
     repeat' ((conv=>whnf);first|(with_reducible first|refine br_t ?_|refine br_f ?_|refine za ?_|refine zg ?_|refine zo ?_|refine zm ?_)|refine zsl ?_|refine zsg ?_|refine zss ?_|refine zs1 ?_|refine zse ?_|refine zsn ?_|refine zsc ?_|(with_reducible first|refine zpa ?_|refine zqa ?_)|refine zp ?_|refine zq ?_|(with_reducible first|refine bc (fun h => ?_) (fun h => ?_)|refine zt ?_|refine zf ?_|refine br_i (fun h => ?_) (fun h => ?_))|refine zg ?_|refine zi ?_|refine zb ?_|refine zl ?_)
     all_goals conv=>whnf
     refine ⟨(i+1,A++[⟨z1,z2,z3⟩]),⟨hlt,hst⟩,?_,by simp only;omega⟩
     (conv=>whnf);refine ⟨by repeat' (first|with_reducible exact zE0|with_reducible refine zE1 ?_ ?_|rfl|assumption|((exact congrArg (fun x=>some (Blk.row 3 x 0)) hap))|exact zi1|exact zb1),by repeat' (first|with_reducible exact zH0|with_reducible refine zH1 ?_ ?_|rfl|assumption|((exact congrArg (fun x=>some (Blk.row 3 x 0)) hap))),rfl⟩
   ·obtain rfl:i=R.length:=by omega
    rw [List.take_length] at hI
    rw [hI] at hX
    obtain ⟨B,hp,hsrt,HM⟩:=sortId_mu A (rdRws_ok hI) (by omega)
    have hX:(⟨X1,X2,X3⟩,X4)=backS s (some (n,d,A)):=hX
    have Ht:=tStanding_fn ⟨n,d,B⟩
    unfold standV at Ht
    clear HP
    rcases smd_cases (s:=s) (n:=n) (d:=d) hp hsrt with ⟨h1,h2,h⟩|⟨h1,h2,h⟩|⟨h1,h⟩
    ·rw [if_pos h1,h2] at Ht
     rw [h] at hX
     clear h h1 h2 hI hp hsrt
     simp only [Md.dc,retS] at Ht
     injection hX with hX1 hX2
     injection hX1 with hX1 hX3 hX4
     subst hX1 hX2 hX3 hX4
     repeat' ((conv=>whnf);first|(with_reducible first|refine br_t ?_|refine br_f ?_|refine za ?_|refine zg ?_|refine zo ?_|refine zm ?_)|refine zsl ?_|refine zsg ?_|refine zss ?_|refine zs1 ?_|refine zse ?_|refine zsn ?_|refine zsc ?_|(with_reducible first|refine zpa ?_|refine zqa ?_)|refine zp ?_|refine zq ?_|(with_reducible first|refine bc (fun h => ?_) (fun h => ?_)|refine zt ?_|refine zf ?_|refine br_i (fun h => ?_) (fun h => ?_))|refine zg ?_|refine zi ?_|refine zb ?_|refine zl ?_)
     all_goals conv=>whnf
     all_goals first|rfl|contradiction
    ·rw [if_pos h1] at Ht
     rw [h] at hX
     obtain ⟨T,hT⟩:∃ T,T=stT ⟨n,d,B⟩:=⟨_,rfl⟩
     rw [← hT] at h2 Ht
     clear h h1 hI hp hsrt hT
     simp only [Md.dc,retS] at Ht
     injection hX with hX1 hX2
     injection hX1 with hX1 hX3 hX4
     subst hX1 hX2 hX3 hX4
     simp only [pts,List.map_nil] at *
     repeat' ((conv=>whnf);first|(with_reducible first|refine br_t ?_|refine br_f ?_|refine za ?_|refine zg ?_|refine zo ?_|refine zm ?_)|refine zsl ?_|refine zsg ?_|refine zss ?_|refine zs1 ?_|refine zse ?_|refine zsn ?_|refine zsc ?_|(with_reducible first|refine zpa ?_|refine zqa ?_)|refine zp ?_|refine zq ?_|(with_reducible first|refine bc (fun h => ?_) (fun h => ?_)|refine zt ?_|refine zf ?_|refine br_i (fun h => ?_) (fun h => ?_))|refine zg ?_|refine zi ?_|refine zb ?_|refine zl ?_)
     all_goals conv=>whnf
     all_goals first|rfl|contradiction
    ·rw [if_neg (by omega),h1] at Ht
     rw [h] at hX
     clear h h1 hI hp hsrt
     simp only [Md.dc,retS] at Ht
     injection hX with hX1 hX2
     injection hX1 with hX1 hX3 hX4
     subst hX1 hX2 hX3 hX4
     simp only [pts,List.map_nil] at *
     repeat' ((conv=>whnf);first|(with_reducible first|refine br_t ?_|refine br_f ?_|refine za ?_|refine zg ?_|refine zo ?_|refine zm ?_)|refine zsl ?_|refine zsg ?_|refine zss ?_|refine zs1 ?_|refine zse ?_|refine zsn ?_|refine zsc ?_|(with_reducible first|refine zpa ?_|refine zqa ?_)|refine zp ?_|refine zq ?_|(with_reducible first|refine bc (fun h => ?_) (fun h => ?_)|refine zt ?_|refine zf ?_|refine br_i (fun h => ?_) (fun h => ?_))|refine zg ?_|refine zi ?_|refine zb ?_|refine zl ?_)
     all_goals conv=>whnf
     all_goals first|rfl|contradiction
end Go.Proofs.YtfkfficabeclcaaGreatDoor

namespace Go.Proofs.YtfkfficabeclcaaGreatDoor
open Go Go.RowKit Go.Sort Sx
open Go.Lib hiding intOf
attribute [local go_sem] str_eql str_neq
end Go.Proofs.YtfkfficabeclcaaGreatDoor

namespace Go.Proofs.YtfkfficabeclcaaGreatDoor
open Go Go.RowKit Go.Sort Sx
open Go.Lib hiding intOf
end Go.Proofs.YtfkfficabeclcaaGreatDoor

namespace Go.Proofs.YtfkfficabeclcaaGreatDoor
open Go Go.RowKit Go.Sort Sx
open Go.Lib hiding intOf
attribute [local go_sem] str_eql str_neq
end Go.Proofs.YtfkfficabeclcaaGreatDoor

namespace Go.Proofs.YtfkfficabeclcaaGreatDoor
open Go Go.RowKit Go.Sort Sx
open Go.Lib hiding intOf
set_option maxRecDepth 2000
end Go.Proofs.YtfkfficabeclcaaGreatDoor

namespace Go.Proofs.YtfkfficabeclcaaGreatDoor
open Go Go.RowKit Go.Sort Sx
open Go.Lib hiding intOf
set_option maxRecDepth 2000
def slong (s:Str):Bool:=(decide (2000<s.length) && decide (s.length≤110000)) || decide (110100<s.length)
theorem rtLong_fn (s:Str) (hs:s.length≤9223372036854775807):FnOK Tryz.prog 26 [.one (str s)] (.c (.one (bol (slong s)))):=by
 unfold slong
 by_cases h1:2000<s.length
 ·by_cases h2:s.length≤110000
  ·rw [decide_eq_true h1,decide_eq_true h2]
   refine fn_ok (by kernel_rfl) ty_ok Tryz.func26 rfl (fun _ _=>Tryz.call26 _ _) rfl ?_
   intro hw
   clear hw
   repeat' ((conv=>whnf);first|(with_reducible first|refine br_t ?_|refine br_f ?_|refine za ?_|refine zg ?_)|refine zsl ?_|refine zsg ?_|refine zss ?_|refine zs1 ?_|refine zse ?_|refine zsn ?_|refine zsc ?_|(with_reducible first|refine zpa ?_|refine zqa ?_)|refine zp ?_|refine zq ?_|(with_reducible first|refine bc (fun h => ?_) (fun h => ?_)|refine zt ?_|refine zf ?_|refine br_i (fun h => ?_) (fun h => ?_))|refine zg ?_|refine zi ?_|refine zb ?_)
   all_goals conv=>whnf
   all_goals rfl
  ·rw [decide_eq_true h1,decide_eq_false h2]
   refine fn_ok (by kernel_rfl) ty_ok Tryz.func26 rfl (fun _ _=>Tryz.call26 _ _) rfl ?_
   intro hw
   clear hw
   repeat' ((conv=>whnf);first|(with_reducible first|refine br_t ?_|refine br_f ?_|refine za ?_|refine zg ?_)|refine zsl ?_|refine zsg ?_|refine zss ?_|refine zs1 ?_|refine zse ?_|refine zsn ?_|refine zsc ?_|(with_reducible first|refine zpa ?_|refine zqa ?_)|refine zp ?_|refine zq ?_|(with_reducible first|refine bc (fun h => ?_) (fun h => ?_)|refine zt ?_|refine zf ?_|refine br_i (fun h => ?_) (fun h => ?_))|refine zg ?_|refine zi ?_|refine zb ?_)
   all_goals conv=>whnf
   all_goals exact r_bool (by simp;omega)
 ·rw [decide_eq_false h1]
  refine fn_ok (by kernel_rfl) ty_ok Tryz.func26 rfl (fun _ _=>Tryz.call26 _ _) rfl ?_
  intro hw
  clear hw
  repeat' ((conv=>whnf);first|(with_reducible first|refine br_t ?_|refine br_f ?_|refine za ?_|refine zg ?_)|refine zsl ?_|refine zsg ?_|refine zss ?_|refine zs1 ?_|refine zse ?_|refine zsn ?_|refine zsc ?_|(with_reducible first|refine zpa ?_|refine zqa ?_)|refine zp ?_|refine zq ?_|(with_reducible first|refine bc (fun h => ?_) (fun h => ?_)|refine zt ?_|refine zf ?_|refine br_i (fun h => ?_) (fun h => ?_))|refine zg ?_|refine zi ?_|refine zb ?_)
  all_goals conv=>whnf
  all_goals exact r_bool (by simp;omega)
theorem LTStandings_none (m:Md) (s:Str) (hs0:s.length≤9223372036854775807) (h:great m.l=true∨slong s=true):FnOK Tryz.prog 5 [m.dc,.one (str s)] (.c (.one (bol true))):=by
 have H0:=rfGreat_fn m.l
 have H1:=rtLong_fn s hs0
 obtain ⟨n,d,l⟩:=m
 simp only [Md.dc] at *
 cases hg:great l
 ·rw [hg] at H0 h
  rw [h.resolve_left (by decide)] at H1
  refine fn_ok (by kernel_rfl) ty_ok Tryz.func5 rfl (fun _ _=>Tryz.call5 _ _) rfl ?_
  intro hw
  clear hw
  repeat' ((conv=>whnf);first|(with_reducible first|refine br_t ?_|refine br_f ?_|refine za ?_|refine zg ?_)|refine zsl ?_|refine zsg ?_|refine zss ?_|refine zs1 ?_|refine zse ?_|refine zsn ?_|refine zsc ?_|(with_reducible first|refine zpa ?_|refine zqa ?_)|refine zp ?_|refine zq ?_|(with_reducible first|refine bc (fun h => ?_) (fun h => ?_)|refine zt ?_|refine zf ?_|refine br_i (fun h => ?_) (fun h => ?_))|refine zg ?_|refine zi ?_|refine zb ?_)
  all_goals conv=>whnf
  all_goals rfl
 ·rw [hg] at H0
  refine fn_ok (by kernel_rfl) ty_ok Tryz.func5 rfl (fun _ _=>Tryz.call5 _ _) rfl ?_
  intro hw
  clear hw
  repeat' ((conv=>whnf);first|(with_reducible first|refine br_t ?_|refine br_f ?_|refine za ?_|refine zg ?_)|refine zsl ?_|refine zsg ?_|refine zss ?_|refine zs1 ?_|refine zse ?_|refine zsn ?_|refine zsc ?_|(with_reducible first|refine zpa ?_|refine zqa ?_)|refine zp ?_|refine zq ?_|(with_reducible first|refine bc (fun h => ?_) (fun h => ?_)|refine zt ?_|refine zf ?_|refine br_i (fun h => ?_) (fun h => ?_))|refine zg ?_|refine zi ?_|refine zb ?_)
  all_goals conv=>whnf
  all_goals rfl
set_option maxRecDepth 100000 in
set_option maxHeartbeats 4000000 in
theorem LTStandings_some (m:Md) (s:Str) (hg:great m.l=false) (hs:slong s=false):FnOK Tryz.prog 5 [m.dc,.one (str s)] (.c (.one (bol true))):=by
 have hl:m.l.length≤1000000:=by
  unfold great at hg;simp at hg;omega
 have hs1:s.length≤2000∨(110000<s.length∧s.length≤110100):=by
  unfold slong at hs;simp at hs;omega
 have H0:=rfGreat_fn m.l
 have H1:=rtLong_fn s (by omega)
 rw [hg] at H0
 rw [hs] at H1
 have T:=roTwin_fn m hl
 have R1:=tStanding_fn m
 have R2:=rtStanding_fn m
 have D1:=tReadStanding_fn s (by omega)
 have D2:=rtReadStanding_fn s (by omega) (by omega)
 rw [← sread_eq] at D2
 have S1:=roSameModel_fn (sreadP s).1 (sreadP s).1
 have S2:=roSameModel_fn m m
 simp only [decide_true] at S1 S2
 clear hg hs hs1
 generalize standV m=x at *
 generalize sreadP s=y at *
 obtain ⟨x1,x2⟩:=x
 obtain ⟨⟨y1,y2,y3⟩,y4⟩:=y
 obtain ⟨n,d,l⟩:=m
 simp only [retS,retMe,Md.dc] at *
 refine fn_ok (by kernel_rfl) ty_ok Tryz.func5 rfl (fun _ _=>Tryz.call5 _ _) rfl ?_
 intro hw
 clear hw
 repeat' ((conv=>whnf);first|(with_reducible first|refine br_t ?_|refine br_f ?_|refine za ?_|refine zg ?_)|refine zsl ?_|refine zsg ?_|refine zss ?_|refine zs1 ?_|refine zse ?_|refine zsn ?_|refine zsc ?_|(with_reducible first|refine zpa ?_|refine zqa ?_)|refine zp ?_|refine zq ?_|(with_reducible first|refine bc (fun h => ?_) (fun h => ?_)|refine zt ?_|refine zf ?_|refine br_i (fun h => ?_) (fun h => ?_))|refine zg ?_|refine zi ?_|refine zb ?_)
 all_goals conv=>whnf
 all_goals first|rfl|(exfalso;omega)|exact r_bool (by simp)
theorem LTStandings_fn (m:Md) (s:Str) (hs0:s.length≤9223372036854775807):FnOK Tryz.prog 5 [m.dc,.one (str s)] (.c (.one (bol true))):=by
 cases hg:great m.l
 ·cases hs:slong s
  ·exact LTStandings_some m s hg hs
  ·exact LTStandings_none m s hs0 (.inr hs)
 ·exact LTStandings_none m s hs0 (.inl hg)
end Go.Proofs.YtfkfficabeclcaaGreatDoor

namespace Go.Proofs.YtfkfficabeclcaaGreatDoor
open Go Go.RowKit Go.ChangeShapes Go.WideShapes Go.ChangeAt Sx
theorem reportStandings_own:ownKnob Tryz.prog.godebug=none:=by kernel_rfl
set_option maxRecDepth 100000 in
theorem reportStandings_wit (os:Os) {H:Type} (enc:TypeId × Value→H) :
  (OpenSpec.ofChange Rows.reportStandingsSpec).preRow enc Tryz.prog Tryz.f5 Rows.reportStandingsRow.domain false Rows.reportStandingsRow.laid ((laidWorld os).forCall (fun _ _=>0) ⟨#[],#[.agg #[.int .i64 0,.int .i64 0,.slice none 0 0],.string ⟨#[]⟩],[]⟩).memory #[.agg #[.int .i64 0,.int .i64 0,.slice none 0 0],.string ⟨#[]⟩]:=by
 have hw:(DataW.whole enc Tryz.prog ((laidWorld os).forCall (fun _ _=>0) ⟨#[],#[.agg #[.int .i64 0,.int .i64 0,.slice none 0 0],.string ⟨#[]⟩],[]⟩).memory Tryz.f5.params.toList (OpenSpec.ofChange Rows.reportStandingsSpec).vars false (#[.agg #[.int .i64 0,.int .i64 0,.slice none 0 0],.string ⟨#[]⟩]:Array Value).toList 8).map (fun x=>(x.1,x.2.1)) =
   some ([.agg [.agg [.lit (.int .i64 0),.lit (.int .i64 0)],.agg [.nil]],.lit (.string [])],[]):=by kernel_rfl
 obtain ⟨⟨x1,x2,x3⟩,hx,hx1⟩:=Option.map_eq_some_iff.1 hw
 simp only [Prod.mk.injEq] at hx1
 obtain ⟨rfl,rfl⟩:=hx1
 exact OpenSpec.preRow_of_cond 8 hx (by kernel_rfl) (fun k hk=>by cases hk) (by kernel_rfl) (laid_met os _)
set_option maxRecDepth 100000 in
theorem reportStandings_lifted (os:Os) (started:os.Started) (H:Type) (enc:TypeId × Value→H) (F:Stop.Interp) :
  ReturnsInHanded {} Tryz.checked os 5 .any ((OpenSpec.ofChange Rows.reportStandingsSpec).preRow enc Tryz.prog Tryz.f5 Rows.reportStandingsRow.domain false Rows.reportStandingsRow.laid) (((OpenSpec.ofChange Rows.reportStandingsSpec).at F).post enc Tryz.prog Tryz.f5 false true false false):=by
 refine returnsInHanded_of_row (C:=Tryz.checked) (s:=OpenSpec.ofChange Rows.reportStandingsSpec) reportStandings_own started (by kernel_rfl) Tryz.func5
  (witness_row_at (enc:=enc) (C:=Tryz.checked) false (laidWorld os) #[.agg #[.int .i64 0,.int .i64 0,.slice none 0 0],.string ⟨#[]⟩] rfl (by kernel_rfl) (by kernel_rfl) (by kernel_rfl) (reportStandings_wit os enc)) ?_
 intro W base args ds gs before hval0 hW _ _ _ hL hsh _
 have hgd:=gd_of hL hsh
 have hval:∀ (j:Nat) t v,Tryz.f5.params[j]? = some t→args[j]? = some v→Value.okWide Tryz.prog W .any base t v:=hval0
 have hW':=hW
 obtain ⟨p,q,hA0,hV,rfl,hfz,hnd⟩:=hW
 have hA:DataW.TrodAll enc Tryz.prog W 0 (fun _=>true) true Tryz.f5.params.toList args.toList ds p:=hA0
 rw [Tryz.params5] at hA hval
 obtain ⟨v0,vs0,d0,ds0,p0,q0,hargs,rfl,rfl,h0,r0⟩:=trodAll_cons hA
 obtain ⟨v1,vs1,d1,ds1,p1,q1,rfl,rfl,rfl,h1,r1⟩:=trodAll_cons r0
 obtain ⟨rfl,rfl,rfl⟩:=trodAll_nil r1
 obtain rfl:args=#[v0,v1]:=by cases args;simp_all
 obtain ⟨e0,hd0,hf0⟩:=arg_data (tyB_ok (s:=shModel) (by kernel_rfl)) (hval 0 41 v0 rfl rfl) h0
 obtain ⟨m,rfl⟩:=fit_model hf0
 obtain ⟨e1,hd1,hf1⟩:=arg_data (tyB_ok (s:=.str) (by kernel_rfl)) (hval 1 9 v1 rfl rfl) h1
 obtain ⟨s,hs,rfl⟩:=fit_str hf1
 refine (law_of_fn (vs:=[v0,v1]) (fun _ _=>Tryz.call5 _ _) (LTStandings_fn m s hs) hgd ⟨hd0,hd1,trivial⟩).mono fun e W' ⟨he,hb⟩ => ?_
 subst he
 exact ⟨_,rfl,law_post (s:=Rows.reportStandingsSpec) (by kernel_rfl) (by kernel_rfl) rfl Tryz.underlying4 rfl hW' ⟨rfl,rfl,rfl⟩ hb⟩
theorem reportStandings_and {a b:Bool} (h:a=true) (k:b=true):(a && b)=true:=by rw [h,k];rfl
theorem reportStandings_c0:(Rows.reportStandingsRow.inPlace == Tryz.prog.inPlace 5)=true:=by kernel_rfl
theorem reportStandings_c1:(Rows.reportStandingsRow.unfollowed == Tryz.prog.unfollowed 5)=true:=by kernel_rfl
theorem reportStandings_c2:(Rows.reportStandingsRow.recurses == Tryz.prog.recurses 5)=true:=by kernel_rfl
theorem reportStandings_c3:(Rows.reportStandingsRow.named == Tryz.prog.varsNamed 5)=true:=by kernel_rfl
theorem reportStandings_c4:(Rows.reportStandingsRow.loops == (Tryz.f5.params.toList++(OpenSpec.ofChange Rows.reportStandingsSpec).bare.plain.varTypes Tryz.prog).any (Tryz.prog.loopsFrom ·))=true:=by kernel_rfl
theorem reportStandings_c5:laidOutB Tryz.prog=true:=by kernel_rfl
theorem reportStandings_c6:mapsRowed Tryz.prog=true:=by kernel_rfl
theorem reportStandings_c7:Tryz.prog.stopsHeard=true:=by kernel_rfl
theorem reportStandings_c8:Tryz.prog.mayEnter=true:=by kernel_rfl
theorem reportStandings_facts:joinedFacts Tryz.prog 5 Tryz.f5 (OpenSpec.ofChange Rows.reportStandingsSpec).bare Rows.reportStandingsRow=true:=by
 unfold joinedFacts
 repeat' (with_reducible refine reportStandings_and ?_ ?_)
 all_goals first|with_reducible exact reportStandings_c0|with_reducible exact reportStandings_c1|with_reducible exact reportStandings_c2|with_reducible exact reportStandings_c3|with_reducible exact reportStandings_c4|with_reducible exact reportStandings_c5|with_reducible exact reportStandings_c6|with_reducible exact reportStandings_c7|with_reducible exact reportStandings_c8|kernel_rfl
theorem reportStandings_over:Rows.reportStandingsRow.holds Tryz.pinned (OpenSpec.ofChange Rows.reportStandingsSpec) :=
 OpenClaim.holds_of_cond 5 Tryz.f5 rfl rfl rfl rfl rfl rfl rfl ⟨rfl,rfl,rfl,rfl,rfl⟩ rfl rfl rfl rfl rfl (by kernel_rfl) Tryz.func5 reportStandings_facts
  (of_decide_eq_true (by kernel_rfl)) (by unfold Func.isWrapper;rw [if_neg (of_decide_eq_false (by kernel_rfl))];exact ⟨rfl,rfl⟩)
  (fun os started H enc _ F0=>by rw [OpenClaim.pre_eq_preRow];exact reportStandings_lifted os started H enc F0)
theorem reportStandings_params:(Tryz.f5.params.toList.all fun t => !Tryz.prog.wantsStandIn t)=true:=by kernel_rfl
theorem reportStandings_proved:Rows.ReportStandingsCardSaid :=
 Claim7.holds_tied_plain_at .later [] Rows.reportStandingsCard.laidKinds true Rows.reportStandingsCard.stood.harness Rows.reportStandingsCard.stood.looks
  reportStandings_over (fun _ h=>by cases h) (by kernel_rfl) (fun _ h=>by cases h) reportStandings_row_tie rfl ⟨rfl,rfl⟩ (by kernel_rfl) rfl
  (fun f fn hf hfn=>by
   obtain rfl:f=5:=Option.some.inj (hf.symm.trans (show Tryz.prog.funcNamed "peloton/pelotonlaw45.ReportStandings" = some 5 by kernel_rfl))
   obtain rfl:fn=Tryz.f5:=(Option.some.inj (Tryz.func5.symm.trans hfn)).symm
   exact ⟨by kernel_rfl,fun j t ht=>by
    have hm:t∈Tryz.f5.params.toList:=by rw [Array.mem_toList_iff];exact Array.mem_of_getElem? ht
    exact (by simpa using List.all_eq_true.1 reportStandings_params t hm:Tryz.prog.wantsStandIn t=false)⟩)
  (by kernel_rfl)
#print axioms reportStandings_proved
end Go.Proofs.YtfkfficabeclcaaGreatDoor
