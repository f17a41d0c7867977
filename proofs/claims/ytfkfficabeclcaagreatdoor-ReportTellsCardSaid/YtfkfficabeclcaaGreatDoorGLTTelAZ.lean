import Derived.Test.YtfkfficabeclcaaGreatDoorGLTTelAW
import Derived.Test.YtfkfficabeclcaaGreatDoorGLTTelAY
import Derived.Test.YtfkfficabeclcaaGreatDoorGLTTelAV
import Derived.Test.YtfkfficabeclcaaGreatDoorGLTTelAX
set_option linter.all false
namespace Go.Proofs.YtfkfficabeclcaaGreatDoor
open Go Go.RowKit Go.Sort Sx
open Go.Lib hiding intOf
set_option maxRecDepth 2000
theorem rdRws_step0 {f:List Str→Option Pt} {R:List Str} {i:Nat} {A:List Pt} (hi:i<R.length) (h:rdRws f (R.take i)=some A):rdRws f (R.take (i+1))=(f (spl 32 R[i])).map fun p=>A++[p]:=by
 rw [List.take_succ_eq_append_getElem hi,rdRws_app,h]
 dsimp only
 rw [rdRws_one]
 cases f (spl 32 R[i])<;>rfl
theorem rdRws_stop0 {f:List Str→Option Pt} {R:List Str} {i:Nat} (h:rdRws f (R.take (i+1))=none):rdRws f R=none:=by
 have e:R=R.take (i+1)++R.drop (i+1):=(List.take_append_drop _ _).symm
 rw [e,rdRws_app,h]
theorem rdRws_ok {n d:Int}:∀ {l:List Str} {A:List Pt},rdRws (pcdP n d) l=some A→∀ p∈A,p.chk=0
 | [],A,h,p,hp=>by rw [rdRws] at h;injection h with h;subst h;cases hp
 | x::l,A,h,p,hp=>by
  rw [rdRws] at h
  cases h1:pcdP n d (spl 32 x) with
  | none=>rw [h1] at h;cases h
  | some q =>
   rw [h1] at h
   dsimp only at h
   cases h2:rdRws (pcdP n d) l with
   | none=>rw [h2] at h;cases h
   | some r =>
    rw [h2] at h
    injection h with h
    subst h
    rcases List.mem_cons.1 hp with rfl|hp
    ·rw [pcX_is] at h1
     split at h1
     ·unfold plcV at h1
      split at h1
      ·split at h1
       ·rename_i hc
        injection h1 with h1
        rw [← h1]
        exact hc.2.2
       ·cases h1
      ·cases h1
     ·cases h1
    ·exact rdRws_ok h2 p hp
set_option maxRecDepth 100000 in
set_option maxHeartbeats 8000000 in
theorem tReadStanding_fn (s:Str) (hs1:s.length≤999999):FnOK Tryz.prog 16 [.one (str s)] (retMe (sreadP s)):=by
 unfold sreadP
 by_cases hb:110000<s.length
 ·rw [if_pos hb]
  simp only [retMe,Md.dc,pts,List.map_nil]
  refine fn_ok (by kernel_rfl) (ty_okKB [71] [47] [] []) Tryz.func16 rfl (fun _ _=>Tryz.call16 _ _) rfl ?_
  intro hw
  clear hw
  repeat' ((conv=>whnf);first|(with_reducible first|refine br_t ?_|refine br_f ?_|refine za ?_|refine zg ?_|refine zo ?_|refine zm ?_)|refine zsl ?_|refine zsg ?_|refine zss ?_|refine zs1 ?_|refine zse ?_|refine zsn ?_|refine zsc ?_|(with_reducible first|refine zpa ?_|refine zqa ?_)|refine zp ?_|refine zq ?_|(with_reducible first|refine bc (fun h => ?_) (fun h => ?_)|refine zt ?_|refine zf ?_|refine br_i (fun h => ?_) (fun h => ?_))|refine zg ?_|refine zi ?_|refine zb ?_|refine zl ?_)
  all_goals conv=>whnf
  all_goals rfl
 rw [if_neg hb]
 have Hs:FnOK Tryz.prog 44 [.one (str s),.one (str [10])] (.c (.one (strs (spl 10 s)))):=split_fn (s:=s) (c:=10) (by omega)
 have hl1:=spl_len 10 s
 have hl2:=spl_each 10 s
 unfold srdP srdG
 obtain ⟨w0,t,hL⟩:∃ w0 t,spl 10 s=w0::t:=by
  cases h:spl 10 s with
  | nil=>exact absurd h (spl_ne 10 s)
  | cons a b=>exact ⟨a,b,rfl⟩
 have hhd:(spl 10 s).headD []=w0:=by rw [hL];rfl
 have g0:((spl 10 s).map fun s=>[str s])[(0:Int).toNat]? = some [str w0]:=by rw [hL];rfl
 have h0:=hl2 w0 (by rw [hL];exact List.mem_cons_self ..)
 have hL0:0<(spl 10 s).length:=by rw [hL];simp
 rw [hhd]
 clear hL hhd
 generalize spl 10 s=L at *
 have Hs2:FnOK Tryz.prog 44 [.one (str w0),.one (str [32])] (.c (.one (strs (spl 32 w0)))):=split_fn (s:=w0) (c:=32) (by omega)
 have hf2:=spl_each 32 w0
 generalize spl 32 w0=F at *
 have hLl:(L.map fun s=>[str s]).length=L.length:=List.length_map ..
 have hFl:(F.map fun s=>[str s]).length=F.length:=List.length_map ..
 by_cases hA:L.length<4∨68<L.length∨F.length≠4
 ·rw [if_pos hA]
  show FnOK _ _ _ (retMe (⟨0,0,[]⟩,12))
  simp only [retMe,Md.dc,pts,List.map_nil]
  rcases Nat.lt_or_ge L.length 4 with h4|h4
  ·refine fn_ok (by kernel_rfl) (ty_okKB [71] [47] [] []) Tryz.func16 rfl (fun _ _=>Tryz.call16 _ _) rfl ?_
   intro hw
   clear hw
   repeat' ((conv=>whnf);first|(with_reducible first|refine br_t ?_|refine br_f ?_|refine za ?_|refine zg ?_|refine zo ?_|refine zm ?_)|refine zsl ?_|refine zsg ?_|refine zss ?_|refine zs1 ?_|refine zse ?_|refine zsn ?_|refine zsc ?_|(with_reducible first|refine zpa ?_|refine zqa ?_)|refine zp ?_|refine zq ?_|(with_reducible first|refine bc (fun h => ?_) (fun h => ?_)|refine zt ?_|refine zf ?_|refine br_i (fun h => ?_) (fun h => ?_))|refine zg ?_|refine zi ?_|refine zb ?_|refine zl ?_)
   all_goals conv=>whnf
   all_goals rfl
  ·rcases Nat.lt_or_ge 68 L.length with h5|h5
   ·refine fn_ok (by kernel_rfl) (ty_okKB [71] [47] [] []) Tryz.func16 rfl (fun _ _=>Tryz.call16 _ _) rfl ?_
    intro hw
    clear hw
    repeat' ((conv=>whnf);first|(with_reducible first|refine br_t ?_|refine br_f ?_|refine za ?_|refine zg ?_|refine zo ?_|refine zm ?_)|refine zsl ?_|refine zsg ?_|refine zss ?_|refine zs1 ?_|refine zse ?_|refine zsn ?_|refine zsc ?_|(with_reducible first|refine zpa ?_|refine zqa ?_)|refine zp ?_|refine zq ?_|(with_reducible first|refine bc (fun h => ?_) (fun h => ?_)|refine zt ?_|refine zf ?_|refine br_i (fun h => ?_) (fun h => ?_))|refine zg ?_|refine zi ?_|refine zb ?_|refine zl ?_)
    all_goals conv=>whnf
    all_goals rfl
   ·have h6:F.length≠4:=by omega
    refine fn_ok (by kernel_rfl) (ty_okKB [71] [47] [] []) Tryz.func16 rfl (fun _ _=>Tryz.call16 _ _) rfl ?_
    intro hw
    clear hw
    repeat' ((conv=>whnf);first|(with_reducible first|refine br_t ?_|refine br_f ?_|refine za ?_|refine zg ?_|refine zo ?_|refine zm ?_)|refine zsl ?_|refine zsg ?_|refine zss ?_|refine zs1 ?_|refine zse ?_|refine zsn ?_|refine zsc ?_|(with_reducible first|refine zpa ?_|refine zqa ?_)|refine zp ?_|refine zq ?_|(with_reducible first|refine bc (fun h => ?_) (fun h => ?_)|refine zt ?_|refine zf ?_|refine br_i (fun h => ?_) (fun h => ?_))|refine zg ?_|refine zi ?_|refine zb ?_|refine zl ?_)
    all_goals conv=>whnf
    all_goals rfl
 rw [if_neg hA]
 simp only [not_or,Nat.not_lt] at hA
 obtain ⟨hA1,hA2,hA3⟩:=hA
 have hA3:F.length=4:=Decidable.not_not.1 hA3
 match F,hA3 with
 | [f0,f1,f2,f3],_ =>
  have l1:=hf2 f1 (by simp)
  have HP:=now_ptr f1 (by omega)
  simp only [List.getD_cons_succ,List.getD_cons_zero]
  cases hq:frV f1 with
  | none =>
   rw [hq] at HP
   show FnOK _ _ _ (retMe (⟨0,0,[]⟩,12))
   simp only [Option.isSome,Option.getD] at HP
   simp only [retMe,Md.dc,pts,List.map_nil]
   refine fn_ok (by kernel_rfl) (ty_okKB [71] [47] [] []) Tryz.func16 rfl (fun _ _=>Tryz.call16 _ _) rfl ?_
   intro hw
   clear hw
   repeat' ((conv=>whnf);first|(with_reducible first|refine br_t ?_|refine br_f ?_|refine za ?_|refine zg ?_|refine zo ?_|refine zm ?_)|refine zbr ?_|refine ⟨_,_,HP,?_⟩|refine zsl ?_|refine zsg ?_|refine zss ?_|refine zs1 ?_|refine zse ?_|refine zsn ?_|refine zsc ?_|(with_reducible first|refine zpa ?_|refine zqa ?_)|refine zp ?_|refine zq ?_|(with_reducible first|refine bc (fun h => ?_) (fun h => ?_)|refine zt ?_|refine zf ?_|refine br_i (fun h => ?_) (fun h => ?_))|refine zg ?_|refine zi ?_|refine zb ?_|refine zl ?_)
   all_goals conv=>whnf
   all_goals rfl
  | some q =>
   rw [hq] at HP
   obtain ⟨n,d⟩:=q
   simp only [Option.isSome,Option.getD] at HP
   dsimp only
   have ew3:IntKind.i64.wrap (((L.map fun s=>[str s]).length:Int)-3)=((L.length-3:Nat):Int):=by rw [hLl,IntWalk.i64_in _ (by omega)];omega
   obtain ⟨R,hR⟩:∃ R,R=(L.take (L.length-3)).drop 1:=⟨_,rfl⟩
   rw [← hR]
   have hRm:∀ x∈R,x.length≤s.length:=fun x hx=>hl2 x (List.mem_of_mem_take (List.mem_of_mem_drop (by rw [hR] at hx;exact hx)))
   have hRn:R.length=L.length-4:=by rw [hR];simp;omega
   obtain ⟨X,hX⟩:∃ X,X=backS s ((rdRws (pcdP n d) R).map fun l=>(n,d,l)):=⟨_,rfl⟩
   rw [← hX]
   obtain ⟨⟨X1,X2,X3⟩,X4⟩:=X
   simp only [retMe,Md.dc]
   refine fn_ok (by kernel_rfl) (ty_okKB [71] [47] [] []) Tryz.func16 rfl (fun _ _=>Tryz.call16 _ _) rfl ?_
   intro hw
   clear hw
   repeat' ((conv=>whnf);first|(with_reducible first|refine br_t ?_|refine br_f ?_|refine za ?_|refine zg ?_|refine zo ?_|refine zm ?_)|refine zbr ?_|refine ⟨_,_,HP,?_⟩|refine zsl ?_|refine zsg ?_|refine zss ?_|refine zs1 ?_|refine zse ?_|refine zsn ?_|refine zsc ?_|(with_reducible first|refine zpa ?_|refine zqa ?_)|refine zp ?_|refine zq ?_|(with_reducible first|refine bc (fun h => ?_) (fun h => ?_)|refine zt ?_|refine zf ?_|refine br_i (fun h => ?_) (fun h => ?_))|refine zg ?_|refine zi ?_|refine zb ?_|refine zl ?_)
   all_goals conv=>whnf
   have hRR:List.drop (1:Int).toNat (List.take (IntKind.i64.wrap (((L.map fun s=>[str s]).length:Int)-3)).toNat (L.map fun s=>[str s]))=R.map fun s=>[str s]:=by
    rw [ew3,Int.toNat_natCast,hR,List.map_drop,List.map_take]
    rfl
   rw [hRR]
   have hRl:(R.map fun s=>[str s]).length=R.length:=List.length_map ..
   clear hRR
   refine loop_nameH 6 2 100 rfl rfl rfl ?_
   refine loop_J (by kernel_rfl) (ty_okKB [71] [47] [] []) (σ:=Nat × List Pt) (fun x=>[(51,sV (.int .i64 (x.1:Nat)))]) (fun x=>[(6,.own [.d (i64 n),.d (i64 d),.osl 100 0]),(100,.row 3 (x.2.map Pt.c) 0)]) (fun x=>x.1≤R.length∧rdRws (pcdP n d) (R.take x.1)=some x.2) (fun x=>R.length-x.1) (0,[]) ⟨Nat.zero_le _,by rw [List.take_zero];rfl⟩ ?_ ?_
   ·(conv=>whnf);exact zent
   rintro ⟨i,A⟩ ⟨hi2,hI⟩
   dsimp only at hi2 hI
   have hAl:=rdRws_len _ hI
   have hAl2:A.length≤68:=by rw [hAl];simp;omega
   have hAl3:(A.map Pt.c).length=A.length:=List.length_map ..
   rcases Nat.lt_or_ge i R.length with hlt|hge
   ·have hel:(R.map fun s=>[str s])[((i:Nat):Int).toNat]? = some [str R[i]]:=by
     rw [Int.toNat_natCast,List.getElem?_map,List.getElem?_eq_getElem hlt];rfl
    have hli:=hRm R[i] (List.getElem_mem hlt)
    have hst:=rdRws_step0 hlt hI
    have hsp:=fun h=>rdRws_stop0 (f:=pcdP n d) (R:=R) (i:=i) h
    have Hc:FnOK Tryz.prog 44 [.one (str R[i]),.one (str [32])] (.c (.one (strs (spl 32 R[i])))):=split_fn (s:=R[i]) (c:=32) (by omega)
    have hwe:=spl_each 32 R[i]
    have hwl:=spl_len 32 R[i]
    generalize R[i]=line at *
    have Hp:=tplaced_fn (spl 32 line) n d (by omega) (fun x hx=>by have:=hwe x hx;omega)
    have hz:=pcZ_is n d (spl 32 line)
    rw [hz] at hst
    clear hz hwe hwl
    generalize pcZ (pcX (spl 32 line)).1 (pcX (spl 32 line)).2 n d=z at *
    generalize spl 32 line=W at *
    obtain ⟨⟨z1,z2,z3⟩,zb⟩:=z
    have ew:IntKind.i64.wrap ((i:Int)+1)=((i+1:Nat):Int):=by rw [IntWalk.i64_in _ (by omega)];omega
    simp only [retPb,Pt.dc] at Hp
    clear HP
    cases zb
    ·rw [if_neg (by simp)] at hst
     rw [hsp hst] at hX
     have hX:(⟨X1,X2,X3⟩,X4)=((⟨0,0,[]⟩,12):Md × Int):=hX
     injection hX with hX1 hX2
     injection hX1 with hX1 hX3 hX4
     subst hX1 hX2 hX3 hX4
     clear hsp hst hI
     simp only [pts,List.map_nil]
     repeat' ((conv=>whnf);first|(with_reducible first|refine br_t ?_|refine br_f ?_|refine za ?_|refine zg ?_|refine zo ?_|refine zm ?_)|refine zsl ?_|refine zsg ?_|refine zss ?_|refine zs1 ?_|refine zse ?_|refine zsn ?_|refine zsc ?_|(with_reducible first|refine zpa ?_|refine zqa ?_)|refine zp ?_|refine zq ?_|(with_reducible first|refine bc (fun h => ?_) (fun h => ?_)|refine zt ?_|refine zf ?_|refine br_i (fun h => ?_) (fun h => ?_))|refine zg ?_|refine zi ?_|refine zb ?_|refine zl ?_)
     all_goals conv=>whnf
     all_goals rfl
    ·rw [if_pos rfl] at hst
     replace hst:rdRws (pcdP n d) (R.take (i+1))=some (A++[(⟨z1,z2,z3⟩:Pt)]):=hst
     have hap:A.map Pt.c++[[i64 z1,i64 z2,i64 z3]]=(A++[(⟨z1,z2,z3⟩:Pt)]).map Pt.c:=by rw [List.map_append];rfl
     clear hsp hX
     repeat' ((conv=>whnf);first|(with_reducible first|refine br_t ?_|refine br_f ?_|refine za ?_|refine zg ?_|refine zo ?_|refine zm ?_)|refine zsl ?_|refine zsg ?_|refine zss ?_|refine zs1 ?_|refine zse ?_|refine zsn ?_|refine zsc ?_|(with_reducible first|refine zpa ?_|refine zqa ?_)|refine zp ?_|refine zq ?_|(with_reducible first|refine bc (fun h => ?_) (fun h => ?_)|refine zt ?_|refine zf ?_|refine br_i (fun h => ?_) (fun h => ?_))|refine zg ?_|refine zi ?_|refine zb ?_|refine zl ?_)
     all_goals conv=>whnf
     refine ⟨(i+1,A++[⟨z1,z2,z3⟩]),⟨hlt,hst⟩,?_,by simp only;omega⟩
     (conv=>whnf);refine ⟨by repeat' (first|with_reducible exact zE0|with_reducible refine zE1 ?_ ?_|rfl|assumption|((exact congrArg (fun x=>some (Blk.row 3 x 0)) hap))|exact zi1|exact zb1),by repeat' (first|with_reducible exact zH0|with_reducible refine zH1 ?_ ?_|rfl|assumption|((exact congrArg (fun x=>some (Blk.row 3 x 0)) hap))),rfl⟩
   ·obtain rfl:i=R.length:=by omega
    rw [List.take_length] at hI
    rw [hI] at hX
    obtain ⟨B,hp,hsrt,HM⟩:=sortId_mu A (rdRws_ok hI) (by omega)
    have hX:(⟨X1,X2,X3⟩,X4)=backS s (some (n,d,A)):=hX
    have Ht:=tStanding_fn ⟨n,d,B⟩
    unfold standV at Ht
    clear HP
    rcases smd_cases (s:=s) (n:=n) (d:=d) hp hsrt with ⟨h1,h2,h⟩|⟨h1,h2,h⟩|⟨h1,h⟩
    ·rw [if_pos h1,h2] at Ht
     rw [h] at hX
     clear h h1 h2 hI hp hsrt
     simp only [Md.dc,retS] at Ht
     injection hX with hX1 hX2
     injection hX1 with hX1 hX3 hX4
     subst hX1 hX2 hX3 hX4
     repeat' ((conv=>whnf);first|(with_reducible first|refine br_t ?_|refine br_f ?_|refine za ?_|refine zg ?_|refine zo ?_|refine zm ?_)|refine zsl ?_|refine zsg ?_|refine zss ?_|refine zs1 ?_|refine zse ?_|refine zsn ?_|refine zsc ?_|(with_reducible first|refine zpa ?_|refine zqa ?_)|refine zp ?_|refine zq ?_|(with_reducible first|refine bc (fun h => ?_) (fun h => ?_)|refine zt ?_|refine zf ?_|refine br_i (fun h => ?_) (fun h => ?_))|refine zg ?_|refine zi ?_|refine zb ?_|refine zl ?_)
     all_goals conv=>whnf
     all_goals first|rfl|contradiction
    ·rw [if_pos h1] at Ht
     rw [h] at hX
     obtain ⟨T,hT⟩:∃ T,T=stT ⟨n,d,B⟩:=⟨_,rfl⟩
     rw [← hT] at h2 Ht
     clear h h1 hI hp hsrt hT
     simp only [Md.dc,retS] at Ht
     injection hX with hX1 hX2
     injection hX1 with hX1 hX3 hX4
     subst hX1 hX2 hX3 hX4
     simp only [pts,List.map_nil] at *
     repeat' ((conv=>whnf);first|(with_reducible first|refine br_t ?_|refine br_f ?_|refine za ?_|refine zg ?_|refine zo ?_|refine zm ?_)|refine zsl ?_|refine zsg ?_|refine zss ?_|refine zs1 ?_|refine zse ?_|refine zsn ?_|refine zsc ?_|(with_reducible first|refine zpa ?_|refine zqa ?_)|refine zp ?_|refine zq ?_|(with_reducible first|refine bc (fun h => ?_) (fun h => ?_)|refine zt ?_|refine zf ?_|refine br_i (fun h => ?_) (fun h => ?_))|refine zg ?_|refine zi ?_|refine zb ?_|refine zl ?_)
     all_goals conv=>whnf
     all_goals first|rfl|contradiction
    ·rw [if_neg (by omega),h1] at Ht
     rw [h] at hX
     clear h h1 hI hp hsrt
     simp only [Md.dc,retS] at Ht
     injection hX with hX1 hX2
     injection hX1 with hX1 hX3 hX4
     subst hX1 hX2 hX3 hX4
     simp only [pts,List.map_nil] at *
     repeat' ((conv=>whnf);first|(with_reducible first|refine br_t ?_|refine br_f ?_|refine za ?_|refine zg ?_|refine zo ?_|refine zm ?_)|refine zsl ?_|refine zsg ?_|refine zss ?_|refine zs1 ?_|refine zse ?_|refine zsn ?_|refine zsc ?_|(with_reducible first|refine zpa ?_|refine zqa ?_)|refine zp ?_|refine zq ?_|(with_reducible first|refine bc (fun h => ?_) (fun h => ?_)|refine zt ?_|refine zf ?_|refine br_i (fun h => ?_) (fun h => ?_))|refine zg ?_|refine zi ?_|refine zb ?_|refine zl ?_)
     all_goals conv=>whnf
     all_goals first|rfl|contradiction
end Go.Proofs.YtfkfficabeclcaaGreatDoor

namespace Go.Proofs.YtfkfficabeclcaaGreatDoor
open Go.RowKit Go.Sort Sx
def kept:Md→List Ak→List Ak
 | _,[]=>[]
 | m,a::l=>if (askV m a).2.e=0 then a::kept (askV m a).1 l else kept (askV m a).1 l
theorem askV_rng {m:Md} (hm:mchk m=0) (a:Ak):(askV m a).2.e∈([0,2,4,6,8,12,14,18,32,42,44]:List Int):=by
 obtain ⟨g1,g2⟩:=mchk_ok hm
 obtain ⟨t1,_⟩:=askd_ok g1
 have f:=fchk_cases
 have ck:∀ p:Pt,p.chk=0∨p.chk=8:=Pt.chk_08
 unfold askV
 split
 ·split
  ·split
   ·simp [rp0]
   ·show (putV m.l a.p).2∈_
    unfold putV
    rw [if_pos g2]
    split
    ·split
     ·simp
     ·split<;>simp
    ·simp
  ·split
   ·split
    ·simp [rp0]
    ·show (takeV m.l a.id).2∈_
     unfold takeV
     rw [if_pos g2]
     split<;>simp
   ·split
    ·split
     ·simp [rp0]
     ·show (changeV m.l a.p).2∈_
      unfold changeV
      rw [if_pos g2]
      split
      ·split<;>simp
      ·simp
    ·split
     ·split
      ·split<;>simp [rpE]
      ·show askd a.n a.d∈_
       unfold askd
       split
       ·rcases chk_08 a.n a.d with h|h<;>rw [h]<;>simp
       ·split<;>simp
     ·split
      ·split<;>simp [rpE]
      ·show (closV m.l m.n m.d).2.2.2.2∈_
       unfold closV
       rw [if_pos g2,if_pos g1]
       split<;>simp
 ·simp [rpE]
end Go.Proofs.YtfkfficabeclcaaGreatDoor

namespace Go.Proofs.YtfkfficabeclcaaGreatDoor
open Go.RowKit Go.Sort Sx Go.Lib
theorem mRun_of:∀ {l:List Mt} {p:Option Mt},(∀ m∈l,m.ok∧mOk m=true)→(∀ q,p=some q→q.ok∧∀ m∈l,mlt q m)→l.Pairwise mlt→mRun p l=true
 | [],none,_,_,_=>rfl
 | [],some _,_,_,_=>rfl
 | m::l,none,h,_,hp=>by
  rw [mRun,(h m (List.mem_cons_self ..)).2,Bool.true_and]
  exact mRun_of (fun x hx=>h x (List.mem_cons_of_mem _ hx)) (fun q e=>by injection e with e;subst e;exact ⟨(h m (List.mem_cons_self ..)).1,fun x hx=>List.rel_of_pairwise_cons hp hx⟩) hp.tail
 | m::l,some q,h,hq,hp=>by
  obtain ⟨q1,q2⟩:=hq q rfl
  have hc:=lt_cfM q1 (h m (List.mem_cons_self ..)).1
  rw [decide_eq_true (q2 m (List.mem_cons_self ..))] at hc
  unfold ltOf at hc
  rw [mRun,(h m (List.mem_cons_self ..)).2,Bool.true_and,hc,Bool.true_and]
  exact mRun_of (fun x hx=>h x (List.mem_cons_of_mem _ hx)) (fun q e=>by injection e with e;subst e;exact ⟨(h m (List.mem_cons_self ..)).1,fun x hx=>List.rel_of_pairwise_cons hp hx⟩) hp.tail
def pne (x y:Pt × Pt):Prop:=¬ (x.1.id=y.1.id∧x.2.id=y.2.id)
theorem pairs_ne:∀ {l:List Pt},incr l=true→(pairsOf l).Pairwise pne
 | [],_=>List.Pairwise.nil
 | p::l,h=>by
  have hi:=incr_tail h
  have hlt:∀ i (hi:i<l.length),p.id<l[i].id:=fun i hi=>by
   have:=incr_lt h (i+1) 0 (by simpa using hi) (by omega)
   simpa using this
  rw [pairsOf,List.pairwise_append]
  refine ⟨?_,pairs_ne hi,fun x hx y hy => ?_⟩
  ·rw [List.pairwise_map]
   refine List.pairwise_iff_getElem.2 fun i j h1 h2 hij e => ?_
   have h3:l[i].id=l[j].id:=e.2
   have:=incr_lt hi j i h2 hij
   omega
  ·obtain ⟨q,hq,rfl⟩:=List.mem_map.1 hx
   rintro ⟨e1,e2⟩
   obtain ⟨a,b⟩:=y
   obtain ⟨k,hk,e⟩:=List.getElem_of_mem (pairs_mem hy).1
   have:=hlt k hk
   have e1:p.id=a.id:=e1
   rw [e] at this
   omega
def mne (a b:Mt):Prop:=¬ (a.i=b.i∧a.j=b.j)
theorem outs_ne {l:List Pt} (h:fchk l=0):(outs (pairsOf l)).Pairwise mne:=by
 obtain ⟨_,k2,k3⟩:=fchk_ok h
 unfold outs
 rw [List.pairwise_filterMap]
 have hid:∀ (x:Pt × Pt) (m:Mt),meet1 x=some m→m.i=x.1.id∧m.j=x.2.id:=fun x m e=>by
  unfold meet1 at e
  dsimp only at e
  split at e
  ·injection e with e;subst e;exact ⟨rfl,rfl⟩
  ·cases e
 refine (pairs_ne k3).imp fun {x y} hxy a ha b hb e=>hxy ?_
 obtain ⟨a1,a2⟩:=hid x a ha
 obtain ⟨b1,b2⟩:=hid y b hb
 exact ⟨by rw [← a1,← b1];exact e.1,by rw [← a2,← b2];exact e.2⟩
theorem allM_lt {l:List Pt} (h:fchk l=0):(allM l).Pairwise mlt:=by
 have h1:=msrt_sorted (outs (pairsOf l))
 have h2:(allM l).Pairwise mne:=(msrt_perm (outs (pairsOf l))).symm.pairwise (outs_ne h) fun {a b} h e=>h ⟨e.1.symm,e.2.symm⟩
 refine (h1.and h2).imp fun {a b} ⟨h3,h4⟩ => ?_
 rcases mlt_tri a b with k|k|⟨_,e1,e2⟩
 ·exact k
 ·exact absurd k h3
 ·exact absurd ⟨e1,e2⟩ h4
theorem outs_mOk {l:List Pt} (h:fchk l=0) {m:Mt} (hm:m∈outs (pairsOf l)):mOk m=true:=by
 obtain ⟨_,k2,k3⟩:=fchk_ok h
 have ho:=outs_ok h m hm
 obtain ⟨⟨p,q⟩,h1,h2⟩:=List.mem_filterMap.1 hm
 obtain ⟨hp,hq⟩:=pairs_mem h1
 have hlt:=pairs_lt k3 h1
 have cp:=cpt_ok (k2 p hp)
 have cq:=cpt_ok (k2 q hq)
 unfold meet1 at h2
 dsimp only at h2
 split at h2
 ·injection h2 with h2
  subst h2
  unfold mOk
  simp only [Bool.and_eq_true,decide_eq_true_eq]
  exact ⟨ho.1.1,by show 0≤p.id;omega,by show p.id<q.id;omega,by show q.id≤_;omega⟩
 ·cases h2
theorem pairs_count:∀ (l:List Pt),(pairsOf l).length*2+l.length=l.length*l.length
 | []=>rfl
 | p::l=>by
  have ih:=pairs_count l
  rw [pairsOf,List.length_append,List.length_map,List.length_cons,Nat.add_mul,Nat.add_mul,Nat.mul_add,← ih]
  omega
theorem pairs_2016 {l:List Pt} (h:l.length≤64):(pairsOf l).length≤2016:=by
 have h1:=pairs_count l
 generalize (pairsOf l).length=k at *
 generalize l.length=n at *
 rcases Nat.eq_zero_or_pos n with h0|h0
 ·subst h0;omega
 ·obtain ⟨j,rfl⟩:∃ j,n=j+1:=⟨n-1,by omega⟩
  have h2:j*(j+1)≤63*64:=Nat.mul_le_mul (by omega) h
  rw [Nat.add_mul,Nat.one_mul] at h1
  omega
theorem btw_good {l:List Pt} (h:fchk l=0) (n e r t:Int):mtR (btw (allM l) n e r t)=true:=by
 have hsub:(btw (allM l) n e r t).Sublist (allM l):=(List.drop_sublist _ _).trans (List.take_sublist _ _)
 have hmem:∀ m∈btw (allM l) n e r t,m∈outs (pairsOf l):=fun m hm=>msrt_mem.1 (hsub.subset hm)
 unfold mtR
 rw [mRun_of (fun m hm=>⟨(outs_ok h m (hmem m hm)).1,outs_mOk h (hmem m hm)⟩) (fun q e=>by cases e) ((allM_lt h).sublist hsub),Bool.true_and]
 refine decide_eq_true ?_
 have h1:=hsub.length_le
 rw [msrt_len] at h1
 have h2:=outs_len (pairsOf l)
 have h3:=pairs_2016 (fchk_ok h).1
 omega
theorem inner_lt {n m:Int} {p:Pt} {a:Nat}:∀ (l:List Pt) (b:Nat) (s:CSt),a<b→s.1<s.2.1→(innerC n m p a l b s).1<(innerC n m p a l b s).2.1
 | [],b,s,_,h=>h
 | q::r,b,s,hab,h=>by
  rw [innerC]
  refine inner_lt r (b+1) _ (by omega) ?_
  unfold cupd
  split
  ·exact hab
  ·exact h
theorem outer_lt {n m:Int}:∀ (l:List Pt) (a:Nat) (s:CSt),s.1<s.2.1→(outerC n m l a s).1<(outerC n m l a s).2.1
 | [],a,s,h=>h
 | p::r,a,s,h=>by
  rw [outerC]
  exact outer_lt r (a+1) _ (inner_lt r (a+1) s (by omega) h)
theorem pairC_lt {l:List Pt} {n m:Int} (hl:∀ p∈l,p.chk=0) (ht:askd n m=0) (h2:2≤l.length):(pairC l n m).1<(pairC l n m).2.1:=by
 match l,h2 with
 | p::q::l,_ =>
  obtain ⟨_,_,_,d1,d2,_⟩:=dst_ok (hl p (by simp)) (hl q (by simp)) ht
  rw [pairC_ref (by omega)]
  exact outer_lt _ 0 _ (by show 0<1;omega)
theorem rchk_e {z:Int} (h0:1≤z) (h1:z≤99):rchk (rpE z)=0:=by
 unfold rchk
 rw [if_pos (by show z≠0;omega),if_pos ⟨h0,h1,rfl⟩]
theorem rchk_0:rchk rp0=0:=by decide
theorem rchk_m {l:List Mt} (h:mtR l=true):rchk ⟨0,0,0,0,0,l⟩=0:=by
 cases l with
 | nil=>exact rchk_0
 | cons a l =>
  unfold rchk
  rw [if_neg (by simp),if_pos (by simp),if_pos ⟨h,rfl⟩]
theorem askV_good {m:Md} (hm:mchk m=0) (a:Ak):rchk (askV m a).2=0:=by
 obtain ⟨g1,g2⟩:=mchk_ok hm
 obtain ⟨k1,k2,k3⟩:=fchk_ok g2
 have hr:=askV_rng hm a
 have hE:∀ z:Int,z∈([0,2,4,6,8,12,14,18,32,42,44]:List Int)→rchk (rpE z)=0:=fun z hz=>by
  simp only [List.mem_cons,List.not_mem_nil,or_false] at hz
  rcases hz with rfl|hz
  ·exact rchk_0
  ·exact rchk_e (by omega) (by omega)
 unfold askV at hr ⊢
 split
 ·rename_i c0
  rw [if_pos c0] at hr
  split
  ·rename_i c1
   rw [if_pos c1] at hr
   split
   ·exact rchk_0
   ·rename_i c;rw [if_neg c] at hr;exact hE _ hr
  ·rename_i c1
   rw [if_neg c1] at hr
   split
   ·rename_i c2
    rw [if_pos c2] at hr
    split
    ·exact rchk_0
    ·rename_i c;rw [if_neg c] at hr;exact hE _ hr
   ·rename_i c2
    rw [if_neg c2] at hr
    split
    ·rename_i c3
     rw [if_pos c3] at hr
     split
     ·exact rchk_0
     ·rename_i c;rw [if_neg c] at hr;exact hE _ hr
    ·rename_i c3
     rw [if_neg c3] at hr
     split
     ·rename_i c4
      rw [if_pos c4] at hr
      split
      ·split
       ·exact hE 44 (by decide)
       ·exact rchk_m (btw_good g2 _ _ _ _)
      ·rename_i c;rw [if_neg c] at hr;exact hE _ hr
     ·split
      ·split
       ·exact hE 42 (by decide)
       ·rename_i hl
        have hp:=ldP_mem (n:=m.n) (m:=m.d) hl
        have hc:=k2 _ hp
        have hi:=Pt.chk_ok hc
        obtain ⟨_,x1,_,x3,_⟩:=plc_ok hc g1
        unfold rchk
        rw [if_neg (by simp),if_neg (by simp),if_pos (by show (plc _ _ _).2≠0;omega),if_pos]
        refine ⟨x1,?_,.inl rfl⟩
        unfold nmd
        simp only [Bool.and_eq_true,decide_eq_true_eq]
        exact ⟨hi.1,hi.2.1⟩
      ·by_cases hl:m.l.length<2
       ·have e:closV m.l m.n m.d=(0,0,0,0,42):=by
         unfold closV
         rw [if_pos g2,if_pos g1,if_pos hl]
        rw [e]
        exact hE 42 (by decide)
       ·have e:closV m.l m.n m.d=((m.l[(pairC m.l m.n m.d).1]?.getD default).id,(m.l[(pairC m.l m.n m.d).2.1]?.getD default).id,(pairC m.l m.n m.d).2.2.1,(pairC m.l m.n m.d).2.2.2,0):=by
         unfold closV
         rw [if_pos g2,if_pos g1,if_neg hl]
        obtain ⟨c1,c2,c3,c4,c5,c6,c7⟩:=pairC_ok k2 g1 (by omega)
        have hlt:=pairC_lt k2 g1 (show 2≤m.l.length by omega)
        have hid:=incr_lt k3 _ _ c7 hlt
        have i1:=Pt.chk_ok (k2 _ (List.getElem_mem c6))
        have i2:=Pt.chk_ok (k2 _ (List.getElem_mem c7))
        rw [e,List.getElem?_eq_getElem c6,List.getElem?_eq_getElem c7]
        unfold rchk
        rw [if_neg (by simp),if_neg (by simp),if_pos (by show (pairC _ _ _).2.2.2≠0;omega),if_pos]
        unfold nmd
        simp only [Bool.and_eq_true,decide_eq_true_eq,Option.getD_some]
        exact ⟨c1,⟨by omega,by omega⟩,.inr ⟨hid,⟨by omega,by omega⟩,c4⟩⟩
 ·exact hE 12 (by decide)
theorem rin_of {r:Rp} (h:rchk r=0) (h1:r.n≤9223372036854775807 ∧ -9223372036854775808≤r.n∧r.d≤9223372036854775807) (h2:∀ m∈r.ms,m.n≤9223372036854775807 ∧ -9223372036854775808≤m.n∧m.d≤9223372036854775807):rin r:=by
 have hf:∀ n d:Int,chk n d=0→n≤9223372036854775807 ∧ -9223372036854775808≤n∧d≤9223372036854775807→fit2 n d:=fun n d hc hb=>by
  have:=(chk_iff n d).1 hc
  unfold fit2 fitI
  omega
 rcases rchk_cases h with ⟨_,_,h3⟩|⟨_,h4,h3⟩|⟨_,h4,_,_,h3⟩|⟨_,h4,_,_,_,_,h3⟩|h3
 ·rw [h3];exact rin_e _
 ·refine ⟨by rw [h3];exact fit2_0,fun m hm => ?_⟩
  unfold mtR at h4
  simp only [Bool.and_eq_true] at h4
  exact hf _ _ (mOk_i.1 (mRun_ok h4.1 m hm)).1 (h2 m hm)
 ·exact ⟨hf _ _ h4 h1,by rw [h3];intro m hm;cases hm⟩
 ·exact ⟨hf _ _ h4 h1,by rw [h3];intro m hm;cases hm⟩
 ·rw [h3];exact rin_e 0
theorem rText_inj {r q:Rp} (h1:rchk r=0) (h2:rin r) (h3:rchk q=0) (h4:rin q):rText r=rText q↔r=q:=by
 refine ⟨fun h => ?_,fun h=>by rw [h]⟩
 have e1:=rrdP_is.of r ⟨h1,h2⟩
 have e2:=rrdP_is.of q ⟨h3,h4⟩
 rw [h,e2] at e1
 injection e1 with e1
 exact e1.symm
theorem askV_fit {m:Md} (hm:mchk m=0) (a:Ak):rin (askV m a).2:=by
 obtain ⟨g1,g2⟩:=mchk_ok hm
 obtain ⟨k1,k2,k3⟩:=fchk_ok g2
 have hE:∀ z:Int,rin (rpE z):=rin_e
 have h0:rin rp0:=rin_e 0
 unfold askV
 split
 ·split
  ·split
   ·exact h0
   ·exact hE _
  ·split
   ·split
    ·exact h0
    ·exact hE _
   ·split
    ·split
     ·exact h0
     ·exact hE _
    ·split
     ·split
      ·split
       ·exact hE _
       ·refine ⟨fit2_0,fun x hx => ?_⟩
        have hx:x∈btw (allM m.l) m.n m.d a.n a.d:=hx
        have hsub:(btw (allM m.l) m.n m.d a.n a.d).Sublist (allM m.l):=(List.drop_sublist _ _).trans (List.take_sublist _ _)
        have ho:=outs_ok g2 x (msrt_mem.1 (hsub.subset hx))
        have hd:=(chk_iff _ _).1 ho.1.1
        unfold fit2 fitI
        omega
      ·exact hE _
     ·split
      ·split
       ·exact hE _
       ·rename_i hl
        obtain ⟨_,x1,_,x3,x4,x5,x6⟩:=plc_ok (k2 _ (ldP_mem (n:=m.n) (m:=m.d) hl)) g1
        exact ⟨by unfold fit2 fitI;dsimp only;omega,fun x hx=>by cases hx⟩
      ·refine ⟨?_,fun x hx=>by cases hx⟩
       show fit2 (closV m.l m.n m.d).2.2.1 (closV m.l m.n m.d).2.2.2.1
       unfold closV
       rw [if_pos g2,if_pos g1]
       split
       ·exact fit2_0
       ·obtain ⟨c1,c2,c3,c4,c5,c6,c7⟩:=pairC_ok k2 g1 (by omega)
        unfold fit2 fitI
        dsimp only
        omega
 ·exact hE _
theorem runs_good:∀ {m:Md} (l:List Ak),mchk m=0→∀ r∈(runs m l).2,rchk r=0∧rin r
 | m,[],_,r,h=>by cases h
 | m,a::l,hm,r,h=>by
  rw [runs] at h
  rcases List.mem_cons.1 h with rfl|h
  ·exact ⟨askV_good hm a,askV_fit hm a⟩
  ·exact runs_good l (askV_ok hm a) r h
end Go.Proofs.YtfkfficabeclcaaGreatDoor

namespace Go.Proofs.YtfkfficabeclcaaGreatDoor
open Go Go.RowKit Go.Sort Sx
open Go.Lib hiding intOf
attribute [local go_sem] str_eql str_neq
theorem read_arg {w:World} {M:Nat→Prop} {w0:Str} {t:List Str} {v:Value} (hv:Rep w M (strs (w0::t)) v):∃ b o c,v=.slice (some ⟨b,o,none⟩) (t.length+1) c∧t.length+1≤c∧b<w.heap.size∧w.cell? ⟨b,o,none⟩=some (bstr w0)∧(c=1→Rep w M (strs t) (.slice (some ⟨b,o,none⟩) t.length 0))∧(c≠1→Rep w M (strs t) (.slice (some ⟨b,o+1,none⟩) t.length (c-1))):=by
 obtain ⟨b,o,c,rfl,hc,hb,hcell⟩:=rep_strs (by simp) hv
 exact ⟨b,o,c,rfl,hc,hb,hcell 0 (by simp),rep_tail hv hc⟩
theorem ld_scan {n:Nat} {t:List Str} {w:World} {M:Nat→Prop} (hM:∀ b,M b→b<w.heap.size) (hg:Gd w) (hl:t.length≤1000000) (hs:∀ x∈t,x.length≤1000000) {v:Value} (hv:Rep w M (strs t) v) :
  CallsIn Fence.wide n Tryz.prog 45 #[v,.slice (some ⟨w.heap.size+2,0,none⟩) 2 2] ((rdW w).alloc (.cells #[.iface 136 (.pointer (some ⟨w.heap.size,1,none⟩)),.iface 93 (.pointer (some ⟨w.heap.size,3,none⟩))] 20)) fun e w'=>e=.returned (.bool (ldX t).2)∧w'.heap[w.heap.size]? = some (.cells (rpC (ldX t).1 (.slice none 0 0)) 28 (0,0))∧Boxed w' (w.heap.size+1) 4 (.bool false)∧Below w.heap.size w w':=by
 obtain ⟨s1,s2,s3,s4⟩:=rdW_ok w
 have h:=scan_one (ts:=[.i w.heap.size 1,.r w.heap.size 3]) (R:=w.heap.size) (n:=w.heap.size) (b:=(ldX t).2) (by simp) (by simp [Tg.b]) hl (by simp) hs (gd_below s4 hg) s2 (by
  intro x hx
  simp only [List.mem_cons,List.not_mem_nil,or_false] at hx
  rcases hx with rfl|rfl
  ·exact cel6 s2 (by decide)
  ·exact ⟨cel6 s2 (by decide),cel6 s2 (by decide)⟩) (gd_size hg) (Nat.le_refl _) (hv.mono (Holds.of_below s4) fun b hb e=>absurd e (by omega)) (fun hlen W' h=>ldX_sc hlen W' h) (fun hlen=>by rw [ldX_no hlen];exact ⟨rfl,rfl⟩)
 rw [s1] at h
 refine callsIn_wide.2 (h.mono ?_)
 rintro e w' ⟨rfl,h1,h2,h3⟩
 exact ⟨rfl,h1,(h2 _ (by omega) (by omega)).trans s3,s4.trans h3⟩
theorem pr_scan {n:Nat} {t:List Str} {w:World} {M:Nat→Prop} (hM:∀ b,M b→b<w.heap.size) (hg:Gd w) (hl:t.length≤1000000) (hs:∀ x∈t,x.length≤1000000) {v:Value} (hv:Rep w M (strs t) v) :
  CallsIn Fence.wide n Tryz.prog 45 #[v,.slice (some ⟨w.heap.size+2,0,none⟩) 3 3] ((rdW w).alloc (.cells #[.iface 136 (.pointer (some ⟨w.heap.size,1,none⟩)),.iface 136 (.pointer (some ⟨w.heap.size,2,none⟩)),.iface 93 (.pointer (some ⟨w.heap.size,3,none⟩))] 20)) fun e w'=>e=.returned (.bool (prX t).2)∧w'.heap[w.heap.size]? = some (.cells (rpC (prX t).1 (.slice none 0 0)) 28 (0,0))∧Boxed w' (w.heap.size+1) 4 (.bool false)∧Below w.heap.size w w':=by
 obtain ⟨s1,s2,s3,s4⟩:=rdW_ok w
 have h:=scan_one (ts:=[.i w.heap.size 1,.i w.heap.size 2,.r w.heap.size 3]) (R:=w.heap.size) (n:=w.heap.size) (b:=(prX t).2) (by simp) (by simp [Tg.b]) hl (by simp) hs (gd_below s4 hg) s2 (by
  intro x hx
  simp only [List.mem_cons,List.not_mem_nil,or_false] at hx
  rcases hx with rfl|rfl|rfl
  ·exact cel6 s2 (by decide)
  ·exact cel6 s2 (by decide)
  ·exact ⟨cel6 s2 (by decide),cel6 s2 (by decide)⟩) (gd_size hg) (Nat.le_refl _) (hv.mono (Holds.of_below s4) fun b hb e=>absurd e (by omega)) (fun hlen W' h=>prX_sc hlen W' h) (fun hlen=>by rw [prX_no hlen];exact ⟨rfl,rfl⟩)
 rw [s1] at h
 refine callsIn_wide.2 (h.mono ?_)
 rintro e w' ⟨rfl,h1,h2,h3⟩
 exact ⟨rfl,h1,(h2 _ (by omega) (by omega)).trans s3,s4.trans h3⟩
theorem drew_heap (W:World):W.drew.heap=W.heap:=rfl
def rpFin0 (n0:Nat) (W:World) (u v x y z m e:Value):World:=((((((W.setCell ⟨n0,0,none⟩ u).setCell ⟨n0,1,none⟩ v).setCell ⟨n0,2,none⟩ x).setCell ⟨n0,3,none⟩ y).setCell ⟨n0,4,none⟩ z).setCell ⟨n0,5,none⟩ m).setCell ⟨n0+1,0,none⟩ e
def rpFin (n0:Nat) (W:World) (u v x y z m e:Value):World:=(rpFin0 n0 W u v x y z m e).drew
theorem rpFin_ok {w W:World} {n0:Nat} {cs:Array Value} {e':Value} (u v x y z m e:Value) (hc:cs.size=6) (h6:W.heap[n0]? = some (.cells cs 28 (0,0))) (h7:Boxed W (n0+1) 4 e') (hn:w.heap.size≤n0) (h8:Below w.heap.size w W) :
  (rpFin n0 W u v x y z m e).heap[n0]? = some (.cells #[u,v,x,y,z,m] 28 (0,0))∧Boxed (rpFin n0 W u v x y z m e) (n0+1) 4 e∧Below w.heap.size w (rpFin n0 W u v x y z m e)∧(∀ k,k≠n0→k≠n0+1→(rpFin n0 W u v x y z m e).heap[k]? = W.heap[k]?):=by
 refine ⟨?_,?_,?_,?_⟩
 ·rw [rpFin,drew_heap]
  unfold rpFin0
  refine setCell_o (by omega) ?_
  rw [set6 5 m (set6 4 z (set6 3 y (set6 2 x (set6 1 v (set6 0 u h6)))))]
  obtain ⟨l⟩:=cs
  match l,hc with
  | [_,_,_,_,_,_],_=>rfl
 ·unfold Boxed
  rw [rpFin,drew_heap]
  unfold rpFin0
  refine Boxed.set e (v:=e') ?_
  exact setCell_o (by omega) (setCell_o (by omega) (setCell_o (by omega) (setCell_o (by omega) (setCell_o (by omega) (setCell_o (by omega) h7)))))
 ·refine Below.drew ?_
  unfold rpFin0
  exact ((((((h8.setCell hn _).setCell hn _).setCell hn _).setCell hn _).setCell hn _).setCell hn _).setCell (by show w.heap.size≤n0+1;omega) _
 ·intro k h1 h2
  rw [rpFin,drew_heap]
  unfold rpFin0
  exact (setCell_other h2).trans ((setCell_other h1).trans ((setCell_other h1).trans ((setCell_other h1).trans ((setCell_other h1).trans ((setCell_other h1).trans (setCell_other h1))))))
theorem read_end0 {n:Nat} {w W:World} {M:Nat→Prop} {tmps:Array Value} {r:Rp} {ms:Value} {ok:Bool} (h2:tmps[2]? = some (.pointer (some ⟨w.heap.size,0,none⟩))) (h3:tmps[3]? = some (.pointer (some ⟨w.heap.size+1,0,none⟩)))
  (h6:W.heap[w.heap.size]? = some (.cells (rpC r ms) 28 (0,0))) (h7:Boxed W (w.heap.size+1) 4 (.bool ok)) (h8:Below w.heap.size w W) (hr:rpIn r) (hm:Rep W M (mts r.ms) ms) :
  bodyPostM Fence.wide n Tryz.prog Tryz.f43 (fun e w'=>∃ u,e=.returned u∧DVR w' M (retRb r ok) u∧Below w.heap.size w w') Exit.ret { tmps:=tmps,defers:=[] } W:=by
 obtain ⟨q1,q2,q3,q4,q5⟩:=hr
 refine ⟨_,results_read tmps h2 h3 h6 h7,_,rfl,?_,h8⟩
 exact ⟨_,rfl,⟨_,rfl,.v _ rfl q1,.v _ rfl q2,.v _ rfl q3,.v _ rfl q4,.v _ rfl q5,hm,trivial⟩,.v _ rfl trivial,trivial⟩
theorem rep_nil4 {W:World} {M:Nat→Prop} {r:Rp} (hm:r.ms=[]):Rep W M (mts r.ms) (.slice none 0 0):=by
 rw [hm]
 exact .nil 4 none 0 (by decide) (fun _=>rfl)
theorem read_end {n:Nat} {w W:World} {M:Nat→Prop} {tmps:Array Value} {r:Rp} {ok:Bool} (h2:tmps[2]? = some (.pointer (some ⟨w.heap.size,0,none⟩))) (h3:tmps[3]? = some (.pointer (some ⟨w.heap.size+1,0,none⟩)))
  (h6:W.heap[w.heap.size]? = some (.cells (rpC r (.slice none 0 0)) 28 (0,0))) (h7:Boxed W (w.heap.size+1) 4 (.bool ok)) (h8:Below w.heap.size w W) (hr:rpIn r) (hm:r.ms=[]) :
  bodyPostM Fence.wide n Tryz.prog Tryz.f43 (fun e w'=>∃ u,e=.returned u∧DVR w' M (retRb r ok) u∧Below w.heap.size w w') Exit.ret { tmps:=tmps,defers:=[] } (rpFin w.heap.size W (.int .i64 r.e) (.int .i64 r.i) (.int .i64 r.j) (.int .i64 r.n) (.int .i64 r.d) (.slice none 0 0) (.bool ok)):=by
 obtain ⟨x1,x2,x3,_⟩:=rpFin_ok (w:=w) (.int .i64 r.e) (.int .i64 r.i) (.int .i64 r.j) (.int .i64 r.n) (.int .i64 r.d) (.slice none 0 0) (.bool ok) rfl h6 h7 (Nat.le_refl _) h8
 exact read_end0 h2 h3 x1 x2 x3 hr (rep_nil4 hm)
set_option maxRecDepth 100000 in
set_option maxHeartbeats 4000000 in
theorem read_ld {n:Nat} (t:List Str) (hl:t.length≤1000000) (hs:∀ x∈t,x.length≤1000000) (w:World) (hg:Gd w) (M:Nat→Prop) (hM:∀ b,M b→b<w.heap.size) (v:Value) (hv:Rep w M (strs (wLeader::t)) v) (hn:1≤n) :
  CallsIn Fence.wide n Tryz.prog 43 #[v] w fun e w'=>∃ u,e=.returned u∧DVR w' M (retRb (ldX t).1 (ldX t).2) u∧Below w.heap.size w w':=by
 obtain ⟨b,o,c,rfl,hc,hb,h0,r1,r2⟩:=read_arg hv
 have q1:=fun h=>ld_scan (n:=n-1) hM hg hl hs (r1 h)
 have q2:=fun h=>ld_scan (n:=n-1) hM hg hl hs (r2 h)
 clear r1 r2
 have hf1:Fence.wide.fn 45:=trivial
 have hX:=ldX_in t
 have hXm:(ldX t).1.ms=[]:=by
  unfold ldX
  split
  ·rcases atoV _ with _|i
   ·rfl
   ·rcases frV _ with _|q<;>rfl
  ·rfl
 generalize ldX t=p at *
 obtain ⟨⟨xe,xi,xj,xn,xd,xm⟩,ok⟩:=p
 simp only [rdW,rpC,rp0] at q1 q2 hX hXm
 subst hXm
 refine callsIn_of_wp_marks Tryz.func43 rfl trivial ?_ rfl
 simp only [Tryz.ntmps43,List.size_toArray,List.length_cons,List.length_nil,Nat.reduceAdd,Nat.reduceSub,Array.replicate_succ,Array.replicate_zero,List.push_toArray,List.append_toArray,List.nil_append,List.cons_append]
 gi_wp2_with (first
  | (gi_at_call 45;(first|with_reducible refine CallsIn.mono (q1 (by assumption)) ?_|with_reducible refine CallsIn.mono (q2 (by assumption)) ?_);rintro e W5 ⟨rfl,hR5,hK5,hB5⟩;obtain ⟨⟨a0,a1,a2,a3,a4,a5⟩,fz⟩:=cells6 hR5;have f0:=fz 0;have f1:=fz 1;have f2:=fz 2;have f3:=fz 3;have f4:=fz 4;have f5:=fz 5;have e0:=hK5.cell;have e1:=hK5.frozen))
 all_goals
  obtain ⟨W6,hW6⟩:∃ W6,W6=W5.setCell ⟨w.heap.size+1,0,none⟩ (.bool ok):=⟨_,rfl⟩
  have g6:W6.heap[w.heap.size]? = some (.cells #[.int .i64 xe,.int .i64 xi,.int .i64 xj,.int .i64 xn,.int .i64 xd,.slice none 0 0] 28 (0,0)):=by rw [hW6];exact setCell_o (by omega) hR5
  have g7:Boxed W6 (w.heap.size+1) 4 (.bool ok):=by rw [hW6];exact hK5.set _
  have g8:Below w.heap.size w W6:=by rw [hW6];exact hB5.setCell (by show w.heap.size≤w.heap.size+1;omega) _
  rw [← hW6]
  clear hW6 a0 a1 a2 a3 a4 a5 f0 f1 f2 f3 f4 f5 e0 e1 q1 q2 fz hR5 hK5 hB5
  obtain ⟨⟨a0,a1,a2,a3,a4,a5⟩,fz⟩:=cells6 g6
  have f0:=fz 0
  have f1:=fz 1
  have f2:=fz 2
  have f3:=fz 3
  have f4:=fz 4
  have f5:=fz 5
  have e0:=g7.cell
  have e1:=g7.frozen
  gi_region
  gi_wp2
  exact read_end (r:=⟨xe,xi,xj,xn,xd,[]⟩) rfl rfl g6 g7 g8 hX rfl
set_option maxRecDepth 100000 in
set_option maxHeartbeats 4000000 in
theorem read_pr {n:Nat} (t:List Str) (hl:t.length≤1000000) (hs:∀ x∈t,x.length≤1000000) (w:World) (hg:Gd w) (M:Nat→Prop) (hM:∀ b,M b→b<w.heap.size) (v:Value) (hv:Rep w M (strs (wPair::t)) v) (hn:1≤n) :
  CallsIn Fence.wide n Tryz.prog 43 #[v] w fun e w'=>∃ u,e=.returned u∧DVR w' M (retRb (prX t).1 (prX t).2) u∧Below w.heap.size w w':=by
 obtain ⟨b,o,c,rfl,hc,hb,h0,r1,r2⟩:=read_arg hv
 have q1:=fun h=>pr_scan (n:=n-1) hM hg hl hs (r1 h)
 have q2:=fun h=>pr_scan (n:=n-1) hM hg hl hs (r2 h)
 clear r1 r2
 have hf1:Fence.wide.fn 45:=trivial
 have hX:=prX_in t
 have hXm:(prX t).1.ms=[]:=by
  unfold prX
  split
  ·rcases atoV _ with _|i
   ·rfl
   ·rcases atoV _ with _|j
    ·rfl
    ·rcases frV _ with _|q<;>rfl
  ·rfl
 generalize prX t=p at *
 obtain ⟨⟨xe,xi,xj,xn,xd,xm⟩,ok⟩:=p
 simp only [rdW,rpC,rp0] at q1 q2 hX hXm
 subst hXm
 refine callsIn_of_wp_marks Tryz.func43 rfl trivial ?_ rfl
 simp only [Tryz.ntmps43,List.size_toArray,List.length_cons,List.length_nil,Nat.reduceAdd,Nat.reduceSub,Array.replicate_succ,Array.replicate_zero,List.push_toArray,List.append_toArray,List.nil_append,List.cons_append]
 gi_wp2_with (first
  | (gi_at_call 45;(first|with_reducible refine CallsIn.mono (q1 (by assumption)) ?_|with_reducible refine CallsIn.mono (q2 (by assumption)) ?_);rintro e W5 ⟨rfl,hR5,hK5,hB5⟩;obtain ⟨⟨a0,a1,a2,a3,a4,a5⟩,fz⟩:=cells6 hR5;have f0:=fz 0;have f1:=fz 1;have f2:=fz 2;have f3:=fz 3;have f4:=fz 4;have f5:=fz 5;have e0:=hK5.cell;have e1:=hK5.frozen))
 all_goals
  obtain ⟨W6,hW6⟩:∃ W6,W6=W5.setCell ⟨w.heap.size+1,0,none⟩ (.bool ok):=⟨_,rfl⟩
  have g6:W6.heap[w.heap.size]? = some (.cells #[.int .i64 xe,.int .i64 xi,.int .i64 xj,.int .i64 xn,.int .i64 xd,.slice none 0 0] 28 (0,0)):=by rw [hW6];exact setCell_o (by omega) hR5
  have g7:Boxed W6 (w.heap.size+1) 4 (.bool ok):=by rw [hW6];exact hK5.set _
  have g8:Below w.heap.size w W6:=by rw [hW6];exact hB5.setCell (by show w.heap.size≤w.heap.size+1;omega) _
  rw [← hW6]
  clear hW6 a0 a1 a2 a3 a4 a5 f0 f1 f2 f3 f4 f5 e0 e1 q1 q2 fz hR5 hK5 hB5
  obtain ⟨⟨a0,a1,a2,a3,a4,a5⟩,fz⟩:=cells6 g6
  have f0:=fz 0
  have f1:=fz 1
  have f2:=fz 2
  have f3:=fz 3
  have f4:=fz 4
  have f5:=fz 5
  have e0:=g7.cell
  have e1:=g7.frozen
  gi_region
  gi_wp2
  exact read_end (r:=⟨xe,xi,xj,xn,xd,[]⟩) rfl rfl g6 g7 g8 hX rfl
theorem er_scan {n:Nat} {t:List Str} {w:World} {M:Nat→Prop} (hM:∀ b,M b→b<w.heap.size) (hg:Gd w) (hl:t.length≤1000000) (hs:∀ x∈t,x.length≤1000000) {v:Value} (hv:Rep w M (strs t) v) :
  CallsIn Fence.wide n Tryz.prog 45 #[v,.slice (some ⟨w.heap.size+3,0,none⟩) 1 1] (((rdW w).alloc (.cells #[.int .i64 0] 3)).alloc (.cells #[.iface 136 (.pointer (some ⟨w.heap.size+2,0,none⟩))] 20)) fun e w'=>e=.returned (.bool (erX t).2)∧w'.heap[w.heap.size]? = some (.cells (rpC rp0 (.slice none 0 0)) 28 (0,0))∧Boxed w' (w.heap.size+1) 4 (.bool false)∧Boxed w' (w.heap.size+2) 3 (.int .i64 (erX t).1)∧Below w.heap.size w w':=by
 obtain ⟨s1,s2,s3,s4⟩:=rdW_ok w
 obtain ⟨W,hW⟩:∃ W,W=(rdW w).alloc (.cells #[.int .i64 0] 3):=⟨_,rfl⟩
 have t1:W.heap.size=w.heap.size+3:=by rw [hW,World.size_alloc,s1]
 have t2:W.heap[w.heap.size+2]? = some (.cells #[.int .i64 0] 3 (0,0)):=by rw [hW,← s1];exact World.alloc_heap_new _ _
 have t3:Below (w.heap.size+2) (rdW w) W:=by rw [hW,← s1];exact (Below.refl _ _).alloc (Nat.le_refl _) _
 have t4:Below w.heap.size w W:=s4.trans (t3.mono (by omega))
 rw [← hW]
 clear hW
 have h:=scan_one (ts:=[.i (w.heap.size+2) 0]) (R:=w.heap.size+2) (n:=w.heap.size) (b:=(erX t).2) (by simp) (by simp [Tg.b]) hl (by simp) hs (gd_below t4 hg) t2 (by
  intro x hx
  obtain rfl:=List.mem_singleton.1 hx
  exact cel6 t2 (by decide)) (by have:=gd_size hg;omega) (by omega) (hv.mono (Holds.of_below t4) fun b hb e=>absurd e (by omega)) (fun hlen W' h=>erX_sc hlen W' h) (fun hlen=>by rw [erX_no hlen];exact ⟨rfl,rfl⟩)
 rw [t1] at h
 refine callsIn_wide.2 (h.mono ?_)
 rintro e w' ⟨rfl,h1,h2,h3⟩
 exact ⟨rfl,(h2 _ (by omega) (by omega)).trans ((t3.block _ (by omega)).trans s2),(h2 _ (by omega) (by omega)).trans ((t3.block _ (by omega)).trans s3),h1,t4.trans h3⟩
set_option maxRecDepth 100000 in
set_option maxHeartbeats 4000000 in
theorem read_er {n:Nat} (t:List Str) (hl:t.length≤1000000) (hs:∀ x∈t,x.length≤1000000) (w:World) (hg:Gd w) (M:Nat→Prop) (hM:∀ b,M b→b<w.heap.size) (v:Value) (hv:Rep w M (strs (wErr::t)) v) (hn:1≤n) :
  CallsIn Fence.wide n Tryz.prog 43 #[v] w fun e w'=>∃ u,e=.returned u∧DVR w' M (retRb (rpE (erX t).1) (erX t).2) u∧Below w.heap.size w w':=by
 obtain ⟨b,o,c,rfl,hc,hb,h0,r1,r2⟩:=read_arg hv
 have q1:=fun h=>er_scan (n:=n-1) hM hg hl hs (r1 h)
 have q2:=fun h=>er_scan (n:=n-1) hM hg hl hs (r2 h)
 clear r1 r2
 have hf1:Fence.wide.fn 45:=trivial
 have hX:=erX_in t
 generalize erX t=p at *
 obtain ⟨xe,ok⟩:=p
 simp only [rdW,rpC,rp0] at q1 q2 hX
 refine callsIn_of_wp_marks Tryz.func43 rfl trivial ?_ rfl
 simp only [Tryz.ntmps43,List.size_toArray,List.length_cons,List.length_nil,Nat.reduceAdd,Nat.reduceSub,Array.replicate_succ,Array.replicate_zero,List.push_toArray,List.append_toArray,List.nil_append,List.cons_append]
 gi_wp2_with (first
  | (gi_at_call 45;(first|with_reducible refine CallsIn.mono (q1 (by assumption)) ?_|with_reducible refine CallsIn.mono (q2 (by assumption)) ?_);rintro e W5 ⟨rfl,hR5,hK5,hN5,hB5⟩;have b0:=hN5.cell;have b1:=hN5.frozen;obtain ⟨⟨a0,a1,a2,a3,a4,a5⟩,fz⟩:=cells6 hR5;have f0:=fz 0;have f1:=fz 1;have f2:=fz 2;have f3:=fz 3;have f4:=fz 4;have f5:=fz 5;have e0:=hK5.cell;have e1:=hK5.frozen))
 all_goals
  obtain ⟨W6,hW6⟩:∃ W6,W6=(W5.setCell ⟨w.heap.size+1,0,none⟩ (.bool ok)).setCell ⟨w.heap.size,0,none⟩ (.int .i64 xe):=⟨_,rfl⟩
  have g6:W6.heap[w.heap.size]? = some (.cells #[.int .i64 xe,.int .i64 0,.int .i64 0,.int .i64 0,.int .i64 0,.slice none 0 0] 28 (0,0)):=by rw [hW6];exact set6 0 _ (setCell_o (by omega) hR5)
  have g7:Boxed W6 (w.heap.size+1) 4 (.bool ok):=by
   rw [hW6]
   have:=hK5.set (.bool ok)
   exact setCell_o (by omega) this
  have g8:Below w.heap.size w W6:=by rw [hW6];exact (hB5.setCell (by show w.heap.size≤w.heap.size+1;omega) _).setCell (Nat.le_refl _) _
  rw [← hW6]
  clear hW6 a0 a1 a2 a3 a4 a5 f0 f1 f2 f3 f4 f5 e0 e1 b0 b1 q1 q2 fz hR5 hK5 hN5 hB5
  obtain ⟨⟨a0,a1,a2,a3,a4,a5⟩,fz⟩:=cells6 g6
  have f0:=fz 0
  have f1:=fz 1
  have f2:=fz 2
  have f3:=fz 3
  have f4:=fz 4
  have f5:=fz 5
  have e0:=g7.cell
  have e1:=g7.frozen
  gi_region
  gi_wp2
  exact read_end (r:=rpE xe) rfl rfl g6 g7 g8 ⟨hX,in0,in0,in0,in0⟩ rfl
set_option maxRecDepth 100000 in
set_option maxHeartbeats 4000000 in
theorem read_no {n:Nat} (w0:Str) (t:List Str) (h1:w0≠wDone) (h2:w0≠wErr) (h3:w0≠wLeader) (h4:w0≠wPair) (h5:w0≠wMeet) (w:World) (M:Nat→Prop) (v:Value) (hv:Rep w M (strs (w0::t)) v) (hn:1≤n) :
  CallsIn Fence.wide n Tryz.prog 43 #[v] w fun e w'=>∃ u,e=.returned u∧DVR w' M (retRb rp0 false) u∧Below w.heap.size w w':=by
 obtain ⟨b,o,c,rfl,hc,hb,h0,r1,r2⟩:=read_arg hv
 clear r1 r2
 obtain ⟨s1,s2,s3,s4⟩:=rdW_ok w
 unfold rdW at s1 s2 s3 s4
 simp only [rpC,rp0] at s1 s2 s3 s4
 replace h1:(w0 == [100,111,110,101])=false:=beq_eq_false_iff_ne.2 h1
 replace h2:(w0 == [101,114,114,111,114])=false:=beq_eq_false_iff_ne.2 h2
 replace h3:(w0 == [108,101,97,100,101,114])=false:=beq_eq_false_iff_ne.2 h3
 replace h4:(w0 == [112,97,105,114])=false:=beq_eq_false_iff_ne.2 h4
 replace h5:(w0 == [109,101,101,116,105,110,103,115])=false:=beq_eq_false_iff_ne.2 h5
 refine callsIn_of_wp_marks Tryz.func43 rfl trivial ?_ rfl
 simp only [Tryz.ntmps43,List.size_toArray,List.length_cons,List.length_nil,Nat.reduceAdd,Nat.reduceSub,Array.replicate_succ,Array.replicate_zero,List.push_toArray,List.append_toArray,List.nil_append,List.cons_append]
 have hx:∀ W6:World,W6=(w.alloc (.cells #[.int .i64 0,.int .i64 0,.int .i64 0,.int .i64 0,.int .i64 0,.slice none 0 0] 28)).alloc (.cells #[.bool false] 4)→W6.heap[w.heap.size]? = some (.cells #[.int .i64 0,.int .i64 0,.int .i64 0,.int .i64 0,.int .i64 0,.slice none 0 0] 28 (0,0))∧Boxed W6 (w.heap.size+1) 4 (.bool false)∧Below w.heap.size w W6:=fun W6 e=>by subst e;exact ⟨s2,s3,s4⟩
 clear s1 s2 s3 s4
 gi_wp2
 all_goals
  obtain ⟨W6,hW6⟩:∃ W6,W6=(w.alloc (.cells #[.int .i64 0,.int .i64 0,.int .i64 0,.int .i64 0,.int .i64 0,.slice none 0 0] 28)).alloc (.cells #[.bool false] 4):=⟨_,rfl⟩
  obtain ⟨g6,g7,g8⟩:=hx W6 hW6
  rw [← hW6]
  clear hW6 hx
  obtain ⟨⟨a0,a1,a2,a3,a4,a5⟩,fz⟩:=cells6 g6
  have f0:=fz 0
  have f1:=fz 1
  have f2:=fz 2
  have f3:=fz 3
  have f4:=fz 4
  have f5:=fz 5
  have e0:=g7.cell
  have e1:=g7.frozen
  gi_region
  gi_wp2
  exact read_end (r:=rp0) rfl rfl g6 g7 g8 ⟨in0,in0,in0,in0,in0⟩ rfl
set_option maxRecDepth 100000 in
set_option maxHeartbeats 4000000 in
theorem read_dn {n:Nat} (t:List Str) (w:World) (M:Nat→Prop) (v:Value) (hv:Rep w M (strs (wDone::t)) v) (hn:1≤n) :
  CallsIn Fence.wide n Tryz.prog 43 #[v] w fun e w'=>∃ u,e=.returned u∧DVR w' M (retRb rp0 true) u∧Below w.heap.size w w':=by
 obtain ⟨b,o,c,rfl,hc,hb,h0,r1,r2⟩:=read_arg hv
 clear r1 r2
 have hd:(wDone == [100,111,110,101])=true:=by decide
 refine callsIn_of_wp_marks Tryz.func43 rfl trivial ?_ rfl
 simp only [Tryz.ntmps43,List.size_toArray,List.length_cons,List.length_nil,Nat.reduceAdd,Nat.reduceSub,Array.replicate_succ,Array.replicate_zero,List.push_toArray,List.append_toArray,List.nil_append,List.cons_append]
 gi_wp2
 refine read_end0 (r:=rp0) (ms:=.slice none 0 0) rfl rfl ?_ ?_ ?_ ⟨in0,in0,in0,in0,in0⟩ (rep_nil4 rfl)
 ·rw [Below.heap_alloc _ _ _ (by simp)];exact World.alloc_heap_new w _
 ·have:=World.alloc_heap_new (w.alloc (.cells (rpC rp0 (.slice none 0 0)) 28)) (.cells #[.bool true] 4)
  rwa [World.size_alloc] at this
 ·exact ((Below.refl _ _).alloc (Nat.le_refl _) _).alloc (by simp) _
end Go.Proofs.YtfkfficabeclcaaGreatDoor

namespace Go.Proofs.YtfkfficabeclcaaGreatDoor
open Go Go.RowKit Go.Sort Sx
open Go.Lib hiding intOf
def mtZ:Mt:=⟨0,0,0,0⟩
def mtC (m:Mt):Array Value:=#[.int .i64 m.n,.int .i64 m.d,.int .i64 m.i,.int .i64 m.j]
def mtV (m:Mt):List Value:=[.int .i64 m.n,.int .i64 m.d,.int .i64 m.i,.int .i64 m.j]
def mtX:List Str→Mt × Bool
 | [a,b,c]=>match frV a with
  | none=>(mtZ,false)
  | some q=>match atoV b with
   | none=>(⟨q.1,q.2,0,0⟩,false)
   | some i=>match atoV c with
    | none=>(⟨q.1,q.2,i,0⟩,false)
    | some j=>(⟨q.1,q.2,i,j⟩,true)
 | _=>(mtZ,false)
def rdMq:List Str→List Mt × Bool
 | []=>([],true)
 | a::b::c::r=>if (mtX [a,b,c]).2=true then ((mtX [a,b,c]).1::(rdMq r).1,(rdMq r).2) else ([],false)
 | _=>([],false)
theorem rdMq_is:∀ t:List Str,rdMs t=if (rdMq t).2=true then some (rdMq t).1 else none
 | []=>rfl
 | [_]=>rfl
 | [_,_]=>rfl
 | a::b::c::r=>by
  have ih:=rdMq_is r
  rcases h1:frV a with _|q
  ·simp [rdMs,rdMq,mtX,h1]
  ·rcases h2:atoV b with _|i
   ·simp [rdMs,rdMq,mtX,h1,h2]
   ·rcases h3:atoV c with _|j
    ·simp [rdMs,rdMq,mtX,h1,h2,h3]
    ·by_cases h4:(rdMq r).2=true
     ·simp [rdMs,rdMq,mtX,h1,h2,h3,ih,h4]
     ·simp [rdMs,rdMq,mtX,h1,h2,h3,ih,h4]
theorem rdMq_len:∀ t:List Str,(rdMq t).1.length≤t.length
 | []=>Nat.le_refl _
 | [_]=>Nat.zero_le _
 | [_,_]=>Nat.zero_le _
 | a::b::c::r=>by
  have ih:=rdMq_len r
  rw [rdMq]
  split<;>simp only [List.length_cons,List.length_nil]<;>omega
theorem rdMt_is (t:List Str):rdWP wMeet t=if (rdMq t).2=true then some ⟨0,0,0,0,0,(rdMq t).1⟩ else none:=by
 unfold rdWP
 rw [if_neg (by decide),if_neg (by decide),if_neg (by decide),if_neg (by decide),if_pos rfl,rdMq_is]
 split<;>rfl
theorem mtX_sc {R:Nat}:∀ {t:List Str},t.length=3→∀ W:World,W.heap[R]? = some (.cells (mtC mtZ) 31 (0,0))→(scanW t [.r R 0,.i R 2,.i R 3] W).2=(mtX t).2∧(scanW t [.r R 0,.i R 2,.i R 3] W).1.heap[R]? = some (.cells (mtC (mtX t).1) 31 (0,0))
 | [a,b,c],_,W,h=>by
  unfold scanW mtX
  simp only [Tg.put]
  cases frV a with
  | none=>exact ⟨rfl,h⟩
  | some q =>
   simp only [Option.map_some]
   unfold scanW
   simp only [Tg.put]
   have h1:=set6 1 (.int .i64 q.2) (set6 0 (.int .i64 q.1) h)
   cases atoV b with
   | none=>exact ⟨rfl,h1⟩
   | some i =>
    simp only [Option.map_some]
    unfold scanW
    simp only [Tg.put]
    have h2:=set6 2 (.int .i64 i) h1
    cases atoV c with
    | none=>exact ⟨rfl,h2⟩
    | some j =>
     simp only [Option.map_some]
     unfold scanW
     exact ⟨rfl,set6 3 (.int .i64 j) h2⟩
 | [],h,_,_=>by cases h
 | [_],h,_,_=>by cases h
 | [_,_],h,_,_=>by cases h
 | _::_::_::_::_,h,_,_=>by simp at h
theorem mtX_no {t:List Str} (h:t.length≠3):mtX t=(mtZ,false):=by
 match t,h with
 | [a,b,c],h=>exact absurd rfl h
 | [],_=>rfl
 | [_],_=>rfl
 | [_,_],_=>rfl
 | _::_::_::_::_,_=>rfl
def mtIn (m:Mt):Prop:=in64 m.n∧in64 m.d∧in64 m.i∧in64 m.j
theorem mtX_in (t:List Str):mtIn (mtX t).1:=by
 unfold mtX
 split
 ·rcases h1:frV _ with _|q
  ·exact ⟨in0,in0,in0,in0⟩
  ·rcases h2:atoV _ with _|i
   ·exact ⟨(frV_in h1).1,(frV_in h1).2,in0,in0⟩
   ·rcases h3:atoV _ with _|j
    ·exact ⟨(frV_in h1).1,(frV_in h1).2,atoV_in h2,in0⟩
    ·exact ⟨(frV_in h1).1,(frV_in h1).2,atoV_in h2,atoV_in h3⟩
 ·exact ⟨in0,in0,in0,in0⟩
theorem rep_ownMt {W:World} {n0:Nat} {v:Value} {l:List Mt} {M:Nat→Prop} (h:W.ownsRow n0 31 4 v l.length (l.flatMap mtV)) (hok:∀ p∈l,mtIn p) (hM:∀ b,M b→b<n0):Rep W M (mts l) v:=by
 rcases h.2 with ⟨rfl,h0⟩|⟨g,cap,cur,rfl,hb,hgb,h1,h2,h3,h4⟩
 ·have:l=[]:=List.eq_nil_of_length_eq_zero h0
  subst this
  exact .nil 4 none 0 (by decide) (fun _=>rfl)
 ·have hl:(l.map Mt.c).length=l.length:=List.length_map ..
  have hD:∀ (l:List Mt),(∀ p∈l,mtIn p)→DsR W M (l.map Mt.c).flatten (l.flatMap mtV):=by
   intro l
   induction l with
   | nil=>intro _;trivial
   | cons p l ih =>
    intro hok
    obtain ⟨q1,q2,q3,q4⟩:=hok p (List.mem_cons_self ..)
    rw [List.map_cons,List.flatten_cons,List.flatMap_cons]
    exact ⟨.v _ rfl q1,.v _ rfl q2,.v _ rfl q3,.v _ rfl q4,ih fun p hp=>hok p (List.mem_cons_of_mem _ hp)⟩
  have hlen:(l.flatMap mtV).length=4*l.length:=by
   clear h h1 h2 h3 h4 hD hok hl hgb
   induction l with
   | nil=>rfl
   | cons p l ih=>rw [List.flatMap_cons,List.length_append,ih,List.length_cons];show 4+_=_;omega
  have:=rep_of_row (M:=M) (b:=g) (off:=0) (cap:=cap) (k:=4) (l:=l.map Mt.c) (fun x hx=>by obtain ⟨p,_,rfl⟩:=List.mem_map.1 hx;rfl) (hD l hok) (fun i hi=>by
   rw [Nat.zero_add]
   simp only [World.cell?,hgb]
   rw [← h4] at hi ⊢
   rw [List.length_take] at hi
   rw [List.getElem?_take_of_lt (by omega)]
   simp) (by rw [hl];exact h1) (by unfold maxLen at h2;omega) (fun h=>by have:=hM g h;omega) (Array.getElem?_eq_some_iff.1 hgb).1
  rw [hl] at this
  exact this
def RdS (w:World) (ms:List Mt) (W:World):Prop :=
 (∃ v,W.heap[w.heap.size]? = some (.cells (rpC rp0 v) 28 (0,0))∧W.ownsRow (w.heap.size+4) 31 4 v ms.length (ms.flatMap mtV))∧(∀ m∈ms,mtIn m)∧Boxed W (w.heap.size+1) 4 (.bool false)∧w.heap.size+4≤W.heap.size∧Below w.heap.size w W
def RdI (w:World) (t:List Str) (pre:List Nat) (W:World):Prop :=
 ∃ ms,pre=List.range ms.length∧3*ms.length≤t.length∧(rdMq t).1=ms++(rdMq (t.drop (3*ms.length))).1∧(rdMq t).2=(rdMq (t.drop (3*ms.length))).2∧RdS w ms W
def RdX (w:World) (t:List Str) (W:World):Prop:=(rdMq t).2=false∧RdS w (rdMq t).1 W
theorem rdS_keep {w:World} {ms:List Mt} {A B:World} {row:Option Nat} (h:RdS w ms A) (hg:A.grownBy B row)
  (hr:∀ r,row=some r→(r=w.heap.size+2∨r=w.heap.size+3)∨(w.heap.size+4≤r∧∃ o:Obj,A.heap[r]? = some o∧o.isCells=false)):RdS w ms B:=by
 obtain ⟨⟨v,h4,h5⟩,h3,h7,h8,h9⟩:=h
 have kp:∀ {k:Nat} {o:Obj},k<w.heap.size+2→A.heap[k]? = some o→B.heap[k]? = some o:=fun {k o} hk ho=>(hg.block k (Array.getElem?_eq_some_iff.1 ho).1 fun e=>by
  rcases hr k e.symm with h|⟨h,_⟩<;>omega).trans ho
 refine ⟨⟨v,kp (by omega) h4,h5.kept hg ?_⟩,h3,kp (by omega) h7,Nat.le_trans h8 hg.size,below_row h9 (by omega) hg fun r e=>by rcases hr r e with h|⟨h,_⟩<;>omega⟩
 rcases h5.2 with ⟨rfl,_⟩|⟨g,cap,cur,rfl,hb,hgb,_⟩
 ·exact .inl rfl
 ·refine .inr fun e' => ?_
  have e2:row=some g:=by simpa [Value.ownBlock] using e'.symm
  rcases hr g e2 with h|⟨_,o,ho,hc⟩
  ·omega
  ·rw [hgb] at ho;cases ho;cases hc
theorem rep_chunk {W:World} {M:Nat→Prop} {t:List Str} {b o c k:Nat} (h:Rep W M (strs t) (.slice (some ⟨b,o,none⟩) t.length c)) (hk:3*k<t.length) (hc:t.length≤c):Rep W M (strs ((t.drop (3*k)).take 3)) (chk3 b o t.length k):=by
 have hl:(t.map fun s=>[str s]).length=t.length:=List.length_map ..
 rw [← hl] at h
 obtain ⟨m,hm⟩:∃ m,m=min 3 (t.length-3*k):=⟨_,rfl⟩
 have:=rep_sub h (p:=3*k) (q:=3*k+m) (m:=3*k+m) (by omega) (by rw [hl];omega) (Nat.le_refl _) (by omega)
 rw [if_neg (by omega),Nat.add_sub_cancel_left] at this
 unfold chk3
 rw [← hm]
 have e:((t.map fun s=>[str s]).take (3*k+m)).drop (3*k)=((t.drop (3*k)).take 3).map fun s=>[str s]:=by
  rw [List.drop_take,Nat.add_sub_cancel_left,List.map_take,List.map_drop]
  rcases Nat.lt_or_ge (t.length-3*k) 3 with h3|h3
  ·rw [List.take_of_length_le (by rw [List.length_drop,hl];omega),List.take_of_length_le (by rw [List.length_drop,hl];omega)]
  ·rw [show m=3 by omega]
 rw [e] at this
 have e2:(some (⟨b,o,none⟩:Addr)).map (·.add (3*k*1))=some ⟨b,o+3*k,none⟩:=by rw [Nat.mul_one,Option.map_some,Sx.add_plain]
 rw [e2] at this
 exact this
end Go.Proofs.YtfkfficabeclcaaGreatDoor
