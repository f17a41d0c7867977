import Derived.Test.YtfkfficabeclcaaGreatDoorGLTNamesAV
import Derived.Test.YtfkfficabeclcaaGreatDoorGLTNamesAW
import Derived.Test.YtfkfficabeclcaaGreatDoorGLTNamesAO
import Derived.Test.YtfkfficabeclcaaGreatDoorGLTNamesAU
set_option linter.all false
namespace Go.Proofs.YtfkfficabeclcaaGreatDoor
open Go Go.RowKit Go.Sort Sx
open Go.Lib hiding intOf
set_option maxRecDepth 2000
theorem tchk_of {m:Md} (h:mchk m=0):tchk m.l m.n m.d=0:=by
 obtain ⟨h1,h2⟩:=mchk_ok h
 unfold tchk
 rw [if_pos h2]
 exact (askd_ok h1).1
theorem closV_few {m:Md} (h:mchk m=0) (h2:m.l.length<2):closV m.l m.n m.d=(0,0,0,0,42):=by
 obtain ⟨h1,h3⟩:=mchk_ok h
 unfold closV
 rw [if_pos h3,if_pos h1,if_pos h2]
theorem closV_many {m:Md} (h:mchk m=0) (h2:¬ m.l.length<2):(closV m.l m.n m.d).2.2.2.2=0:=by
 obtain ⟨h1,h3⟩:=mchk_ok h
 unfold closV
 rw [if_pos h3,if_pos h1,if_neg h2]
theorem joined1 {w:Str} {a:Pp} (hw:w.length≤100) (h1:a.ok):FnOK Tryz.prog 38 [.one (str w),.one (.list 1 [[.v a.v]])] (.c (.one (str (joinS [w,a.s])))):=joined_fn w [a] hw (by simp) (fun p hp=>by obtain rfl:=List.mem_singleton.1 hp;exact h1)
theorem joined3 {w:Str} {a b c:Pp} (hw:w.length≤100) (h1:a.ok) (h2:b.ok) (h3:c.ok):FnOK Tryz.prog 38 [.one (str w),.one (.list 1 [[.v a.v],[.v b.v],[.v c.v]])] (.c (.one (str (joinS [w,a.s,b.s,c.s])))):=joined_fn w [a,b,c] hw (by simp) (fun p hp=>by
 simp only [List.mem_cons,List.not_mem_nil,or_false] at hp
 rcases hp with rfl|rfl|rfl<;>assumption)
set_option maxRecDepth 100000 in
set_option maxHeartbeats 4000000 in
theorem tlines_fn (m:Md) (hm:mchk m=0):FnOK Tryz.prog 50 [m.dc] (.tup [.one (strs (linesV m)),.one (i64 0)]):=by
 obtain ⟨g1,g2⟩:=mchk_ok hm
 obtain ⟨k1,k2,k3⟩:=fchk_ok g2
 have HO:=fOrder_fn m.l m.n m.d
 unfold orderV at HO
 rw [if_pos (tchk_of hm)] at HO
 simp only [retO] at HO
 have HC:=oClosest_fn m.l m.n m.d
 have HN:=mNext_fn (n:=m.n) (e:=m.d) g2 (askd_ok g1).1
 have a5:=askd_ok g1
 have hol:(ordV m.l m.n m.d).length=m.l.length:=by unfold ordV;rw [List.length_map,srt_len]
 have hil:((ordV m.l m.n m.d).map fun i=>[i64 i]).length=m.l.length:=by rw [List.length_map,hol]
 have J1:FnOK Tryz.prog 38 [.one (str [116,105,109,101]),.one (.list 1 [[.v (.iface 25 (.agg #[.int .i64 m.n,.int .i64 m.d]))]])] (.c (.one (str (joinS [wTime,(numV m.n m.d).1])))):=joined1 (w:=wTime) (a:=.r m.n m.d) (by decide) ⟨⟨by omega,by omega⟩,⟨by omega,by omega⟩⟩
 have J2:FnOK Tryz.prog 38 [.one (str [32,112,111,105,110,116,115]),.one (.list 1 [[.v (.iface 3 (.int .i64 ((((ordV m.l m.n m.d).map fun i=>[i64 i]).length:Nat):Int)))]])] (.c (.one (str (joinS [wPts,itoa (m.l.length:Int)])))):=by
  rw [hil]
  exact joined1 (w:=wPts) (a:=.i (m.l.length:Int)) (by decide) ⟨by omega,by omega⟩
 have l1:(joinS [wTime,(numV m.n m.d).1]).length≤100:=by
  have:=numV_len (n:=m.n) (d:=m.d) ⟨by omega,by omega⟩ ⟨by omega,by omega⟩
  show (wTime++32::(numV m.n m.d).1).length≤100
  simp [wTime];omega
 have l2:(joinS [wPts,itoa (m.l.length:Int)]).length≤100:=by
  have:=itoa_le (n:=(m.l.length:Int)) ⟨by omega,by omega⟩
  show (wPts++32::itoa _).length≤100
  simp [wPts];omega
 have hhead:headB m=joinS [wTime,(numV m.n m.d).1]++joinS [wPts,itoa (m.l.length:Int)]:=rfl
 generalize joinS [wTime,(numV m.n m.d).1]=A at *
 generalize joinS [wPts,itoa (m.l.length:Int)]=B at *
 have hkl:=rowsK_len m.n m.d (srt m.n m.d m.l)
 have hsl:(srt m.n m.d m.l).length=m.l.length:=srt_len ..
 have hlin:(linesV m).map (fun s=>[str s])=((headB m::rowsK m.n m.d (srt m.n m.d m.l) m.l.length).map fun s=>[str s])++[[str (clsB m)],[str (nxtB m)]]:=by
  unfold linesV
  rw [List.map_append]
  rfl
 show FnOK _ _ _ (.tup [.one (.list 1 ((linesV m).map fun s=>[str s])),.one (i64 0)])
 rw [hlin]
 clear hlin
 have JC:¬ m.l.length<2→FnOK Tryz.prog 38 [.one (str [99,108,111,115,101,115,116]),.one (.list 1 [[.v (.iface 3 (.int .i64 (closV m.l m.n m.d).1))],[.v (.iface 3 (.int .i64 (closV m.l m.n m.d).2.1))],[.v (.iface 25 (.agg #[.int .i64 (closV m.l m.n m.d).2.2.1,.int .i64 (closV m.l m.n m.d).2.2.2.1]))]])] (.c (.one (str (clsB m)))):=fun h=>by
  obtain ⟨p1,p2,p3,p4,p5,p6,p7⟩:=pairC_ok k2 g1 (show 2≤m.l.length by omega)
  have i1:=Pt.chk_ok (k2 _ (List.getElem_mem p6))
  have i2:=Pt.chk_ok (k2 _ (List.getElem_mem p7))
  have e:closV m.l m.n m.d=((m.l[(pairC m.l m.n m.d).1]?.getD default).id,(m.l[(pairC m.l m.n m.d).2.1]?.getD default).id,(pairC m.l m.n m.d).2.2.1,(pairC m.l m.n m.d).2.2.2,0):=by
   unfold closV
   rw [if_pos g2,if_pos g1,if_neg h]
  unfold clsB
  rw [if_neg h,e,List.getElem?_eq_getElem p6,List.getElem?_eq_getElem p7]
  simp only [Option.getD_some]
  exact joined3 (w:=wClst) (a:=.i _) (b:=.i _) (c:=.r _ _) (by decide) ⟨by omega,by omega⟩ ⟨by omega,by omega⟩ ⟨⟨by omega,by omega⟩,⟨by omega,by omega⟩⟩
 have JN:(nxtV m.l m.n m.d).2=0→FnOK Tryz.prog 38 [.one (str [110,101,120,116]),.one (.list 1 [[.v (.iface 25 (.agg #[.int .i64 (nxtV m.l m.n m.d).1.n,.int .i64 (nxtV m.l m.n m.d).1.d]))],[.v (.iface 3 (.int .i64 (nxtV m.l m.n m.d).1.i))],[.v (.iface 3 (.int .i64 (nxtV m.l m.n m.d).1.j))]])] (.c (.one (str (nxtB m)))):=fun h=>by
  have ho:(nxtV m.l m.n m.d).1.ok:=by
   unfold nxtV at h ⊢
   split at h
   ·rename_i hlt
    rw [dif_pos hlt]
    exact (outs_ok g2 _ (msrt_mem.1 (List.getElem_mem hlt))).1
   ·cases h
  obtain ⟨o1,o2,o3,o4,o5⟩:=ho
  have:=(chk_iff _ _).1 o1
  unfold nxtB
  rw [if_pos h]
  exact joined3 (w:=wNext) (a:=.r _ _) (b:=.i _) (c:=.i _) (by decide) ⟨o2,⟨by omega,by omega⟩⟩ o4 ⟨by omega,by omega⟩
 have C0:clsB m=if m.l.length<2 then wClst0 else clsB m:=by
  split
  ·rename_i h;unfold clsB;rw [if_pos h]
  ·rfl
 have N0:(nxtV m.l m.n m.d).2≠0→nxtB m=wNext0:=fun h=>by unfold nxtB;rw [if_neg h]
 have hfew:=closV_few hm
 have hmany:=closV_many hm
 generalize clsB m=cB at *
 generalize nxtB m=nB at *
 generalize closV m.l m.n m.d=cV at *
 generalize nxtV m.l m.n m.d=nV at *
 obtain ⟨c1,c2,c3,c4,c5⟩:=cV
 obtain ⟨⟨n1,n2,n3,n4⟩,n5⟩:=nV
 simp only [retC,retNx,Mt.dc] at HC HN JC JN N0 hfew hmany
 refine fn_ok (by kernel_rfl) (ty_okKB [42,84,131] [] [] []) Tryz.func50 rfl (fun _ _=>Tryz.call50 _ _) rfl ?_
 intro hw
 clear hw
 repeat' ((conv=>whnf);first|(with_reducible first|refine br_t ?_|refine br_f ?_|refine za ?_|refine zg ?_|refine zo ?_)|refine zmi ?_|refine zml ?_|refine zmr ?_|refine zsl ?_|refine zsg ?_|refine zss ?_|refine zs1 ?_|refine zse ?_|refine zsn ?_|refine zsc ?_|(with_reducible first|refine zpa ?_|refine zqa ?_)|refine zp ?_|refine zq ?_|(with_reducible first|refine bc (fun h => ?_) (fun h => ?_)|refine zt ?_|refine zf ?_|refine br_i (fun h => ?_) (fun h => ?_))|refine zg ?_|refine zi ?_|refine zb ?_|refine zl ?_)
 all_goals conv=>whnf
 refine loop_keep [1,43,44,45,6] ?_
 conv=>whnf
 refine loop_J (by kernel_rfl) (ty_okKB [42,84,131] [] [] []) (σ:=Nat) (fun i=>[(45,sV (.int .i64 (i:Nat))),(6,.c (.at (.osl 42 0)))]) (fun i=>[(42,.row 1 ((headB m::rowsK m.n m.d (srt m.n m.d m.l) i).map fun s=>[str s]) 0)]) (fun i=>i≤m.l.length) (fun i=>m.l.length-i) 0 (Nat.zero_le _) ?_ ?_
 ·rw [hhead]
  (conv=>whnf);exact zent
 intro i hi
 have hki:=hkl i (by omega)
 have hrl:((headB m::rowsK m.n m.d (srt m.n m.d m.l) i).map fun s=>[str s]).length=i+1:=by rw [List.length_map,List.length_cons,hki]
 rcases Nat.lt_or_ge i m.l.length with hlt|hge
 ·have his:i<(srt m.n m.d m.l).length:=by omega
  have hel:((ordV m.l m.n m.d).map fun i=>[i64 i])[((i:Nat):Int).toNat]? = some [i64 (srt m.n m.d m.l)[i].id]:=by
   unfold ordV
   rw [Int.toNat_natCast,List.getElem?_map,List.getElem?_map,List.getElem?_eq_getElem his];rfl
  have hpm:(srt m.n m.d m.l)[i]∈m.l:=(srt_perm m.n m.d m.l).mem_iff.1 (List.getElem_mem his)
  have hpc:=k2 _ hpm
  have hs:=rowsK_succ (n:=m.n) (d:=m.d) his
  have HF:=fFind_fn m.l (srt m.n m.d m.l)[i].id
  rw [findV_mem g2 hpm] at HF
  have hplc:=plc_ok hpc g1
  have hpk:=Pt.chk_ok hpc
  generalize (srt m.n m.d m.l)[i]=p at *
  have HA:=kAt_fn p.id p.a p.b m.n m.d
  rw [hplc.1] at HA
  have HI:=ito_fn (n:=((i+1:Nat):Int))
  have ew:IntKind.i64.wrap ((i:Int)+1)=((i+1:Nat):Int):=by rw [IntWalk.i64_in _ (by omega)];omega
  have J3:FnOK Tryz.prog 38 [.one (str (itoa ((i+1:Nat):Int))),.one (.list 1 [[.v (.iface 3 (.int .i64 p.id))],[.v (.iface 25 (.agg #[.int .i64 (plc p m.n m.d).1,.int .i64 (plc p m.n m.d).2]))],[.v (.iface 2 (.int .i64 p.b))]])] (.c (.one (str (rowB m.n m.d i p)))) :=
   joined3 (a:=.i p.id) (b:=.r (plc p m.n m.d).1 (plc p m.n m.d).2) (c:=.l p.b) (Nat.le_trans (itoa_le ⟨by omega,by omega⟩) (by decide)) ⟨by omega,by omega⟩ ⟨⟨by omega,by omega⟩,⟨by omega,by omega⟩⟩ ⟨by omega,by omega⟩
  have hss:((headB m::rowsK m.n m.d (srt m.n m.d m.l) i).map fun s=>[str s])++[[str (rowB m.n m.d i p)]]=(headB m::rowsK m.n m.d (srt m.n m.d m.l) (i+1)).map fun s=>[str s]:=by rw [hs];simp
  rw [← ew] at HI J3
  clear hs hplc HC HN JC JN C0 N0 hfew hmany J1 J2
  generalize rowB m.n m.d i p=R at *
  generalize plc p m.n m.d=q at *
  obtain ⟨q1,q2⟩:=q
  obtain ⟨p1,p2,p3⟩:=p
  simp only [retPt,Pt.dc,ret3] at *
  repeat' ((conv=>whnf);first|(with_reducible first|refine br_t ?_|refine br_f ?_|refine za ?_|refine zg ?_|refine zo ?_)|refine zmi ?_|refine zml ?_|refine zmr ?_|refine zsl ?_|refine zsg ?_|refine zss ?_|refine zs1 ?_|refine zse ?_|refine zsn ?_|refine zsc ?_|(with_reducible first|refine zpa ?_|refine zqa ?_)|refine zp ?_|refine zq ?_|(with_reducible first|refine bc (fun h => ?_) (fun h => ?_)|refine zt ?_|refine zf ?_|refine br_i (fun h => ?_) (fun h => ?_))|refine zg ?_|refine zi ?_|refine zb ?_|refine zl ?_)
  all_goals conv=>whnf
  refine ⟨i+1,hlt,?_,by omega⟩
  (conv=>whnf);refine ⟨by repeat' (first|with_reducible exact zE0|with_reducible refine zE1 ?_ ?_|rfl|assumption|((exact congrArg (fun x=>some (Blk.row 1 x 0)) hss))|exact zi1|exact zb1),by repeat' (first|with_reducible exact zH0|with_reducible refine zH1 ?_ ?_|rfl|assumption|((exact congrArg (fun x=>some (Blk.row 1 x 0)) hss))),rfl⟩
 ·obtain rfl:i=m.l.length:=by omega
  generalize ((headB m::rowsK m.n m.d (srt m.n m.d m.l) m.l.length).map fun s=>[str s])=OUT at *
  by_cases hn:n5=0
  ·subst hn
   have JN:=JN rfl
   by_cases h2:m.l.length<2
   ·rw [if_pos h2] at C0
    subst C0
    have hfew:=hfew h2
    simp only [Prod.mk.injEq] at hfew
    obtain ⟨rfl,rfl,rfl,rfl,rfl⟩:=hfew
    clear JC hmany N0
    repeat' ((conv=>whnf);first|(with_reducible first|refine br_t ?_|refine br_f ?_|refine za ?_|refine zg ?_|refine zo ?_)|refine zmi ?_|refine zml ?_|refine zmr ?_|refine zsl ?_|refine zsg ?_|refine zss ?_|refine zs1 ?_|refine zse ?_|refine zsn ?_|refine zsc ?_|(with_reducible first|refine zpa ?_|refine zqa ?_)|refine zp ?_|refine zq ?_|(with_reducible first|refine bc (fun h => ?_) (fun h => ?_)|refine zt ?_|refine zf ?_|refine br_i (fun h => ?_) (fun h => ?_))|refine zg ?_|refine zi ?_|refine zb ?_|refine zl ?_)
    all_goals conv=>whnf
    all_goals rfl
   ·have JC:=JC h2
    obtain rfl:c5=0:=hmany h2
    clear C0 hfew hmany N0
    repeat' ((conv=>whnf);first|(with_reducible first|refine br_t ?_|refine br_f ?_|refine za ?_|refine zg ?_|refine zo ?_)|refine zmi ?_|refine zml ?_|refine zmr ?_|refine zsl ?_|refine zsg ?_|refine zss ?_|refine zs1 ?_|refine zse ?_|refine zsn ?_|refine zsc ?_|(with_reducible first|refine zpa ?_|refine zqa ?_)|refine zp ?_|refine zq ?_|(with_reducible first|refine bc (fun h => ?_) (fun h => ?_)|refine zt ?_|refine zf ?_|refine br_i (fun h => ?_) (fun h => ?_))|refine zg ?_|refine zi ?_|refine zb ?_|refine zl ?_)
    all_goals conv=>whnf
    all_goals rfl
  ·obtain rfl:=N0 hn
   by_cases h2:m.l.length<2
   ·rw [if_pos h2] at C0
    subst C0
    have hfew:=hfew h2
    simp only [Prod.mk.injEq] at hfew
    obtain ⟨rfl,rfl,rfl,rfl,rfl⟩:=hfew
    clear JC JN hmany
    repeat' ((conv=>whnf);first|(with_reducible first|refine br_t ?_|refine br_f ?_|refine za ?_|refine zg ?_|refine zo ?_)|refine zmi ?_|refine zml ?_|refine zmr ?_|refine zsl ?_|refine zsg ?_|refine zss ?_|refine zs1 ?_|refine zse ?_|refine zsn ?_|refine zsc ?_|(with_reducible first|refine zpa ?_|refine zqa ?_)|refine zp ?_|refine zq ?_|(with_reducible first|refine bc (fun h => ?_) (fun h => ?_)|refine zt ?_|refine zf ?_|refine br_i (fun h => ?_) (fun h => ?_))|refine zg ?_|refine zi ?_|refine zb ?_|refine zl ?_)
    all_goals conv=>whnf
    all_goals rfl
   ·have JC:=JC h2
    obtain rfl:c5=0:=hmany h2
    clear C0 hfew hmany JN
    repeat' ((conv=>whnf);first|(with_reducible first|refine br_t ?_|refine br_f ?_|refine za ?_|refine zg ?_|refine zo ?_)|refine zmi ?_|refine zml ?_|refine zmr ?_|refine zsl ?_|refine zsg ?_|refine zss ?_|refine zs1 ?_|refine zse ?_|refine zsn ?_|refine zsc ?_|(with_reducible first|refine zpa ?_|refine zqa ?_)|refine zp ?_|refine zq ?_|(with_reducible first|refine bc (fun h => ?_) (fun h => ?_)|refine zt ?_|refine zf ?_|refine br_i (fun h => ?_) (fun h => ?_))|refine zg ?_|refine zi ?_|refine zb ?_|refine zl ?_)
    all_goals conv=>whnf
    all_goals rfl
end Go.Proofs.YtfkfficabeclcaaGreatDoor

namespace Go.Proofs.YtfkfficabeclcaaGreatDoor
open Go Go.RowKit Go.Sort Sx
open Go.Lib hiding intOf
set_option maxRecDepth 2000
theorem tStanding_fn (m:Md):FnOK Tryz.prog 17 [m.dc] (retS (standV m)):=by
 have HC:=oCheck_fn m
 unfold standV
 by_cases h:mchk m=0
 ·rw [if_pos h]
  have HL:=tlines_fn m h
  have hne:linesV m≠[]:=by unfold linesV;simp
  have hlen:=linesV_len m
  have hk:=(fchk_ok (mchk_ok h).2).1
  have hst:=nlS_join hne
  have hb:=stT_len h
  unfold stT at hb ⊢
  rw [hst,List.length_append,List.length_singleton] at hb
  rw [hst]
  have HJ:FnOK Tryz.prog 51 [.one (strs (linesV m)),.one (str [10])] (.c (.one (str (joinC 10 (linesV m))))):=join_fn (by omega) (by omega)
  rw [h] at HC
  clear h hst hne
  generalize linesV m=L at *
  generalize joinC 10 L=J at *
  obtain ⟨n,d,l⟩:=m
  simp only [retS,Md.dc] at *
  refine fn_ok (by kernel_rfl) ty_ok Tryz.func17 rfl (fun _ _=>Tryz.call17 _ _) rfl ?_
  intro hw
  clear hw
  repeat' ((conv=>whnf);first|(with_reducible first|refine br_t ?_|refine br_f ?_|refine za ?_|refine zg ?_)|refine zsl ?_|refine zsg ?_|refine zss ?_|refine zs1 ?_|refine zse ?_|refine zsn ?_|refine zsc ?_|(with_reducible first|refine zpa ?_|refine zqa ?_)|refine zp ?_|refine zq ?_|(with_reducible first|refine bc (fun h => ?_) (fun h => ?_)|refine zt ?_|refine zf ?_|refine br_i (fun h => ?_) (fun h => ?_))|refine zg ?_|refine zi ?_|refine zb ?_)
  all_goals conv=>whnf
  all_goals rfl
 ·rw [if_neg h]
  generalize mchk m=z at *
  obtain ⟨n,d,l⟩:=m
  simp only [retS,Md.dc] at *
  refine fn_ok (by kernel_rfl) ty_ok Tryz.func17 rfl (fun _ _=>Tryz.call17 _ _) rfl ?_
  intro hw
  clear hw
  repeat' ((conv=>whnf);first|(with_reducible first|refine br_t ?_|refine br_f ?_|refine za ?_|refine zg ?_)|refine zsl ?_|refine zsg ?_|refine zss ?_|refine zs1 ?_|refine zse ?_|refine zsn ?_|refine zsc ?_|(with_reducible first|refine zpa ?_|refine zqa ?_)|refine zp ?_|refine zq ?_|(with_reducible first|refine bc (fun h => ?_) (fun h => ?_)|refine zt ?_|refine zf ?_|refine br_i (fun h => ?_) (fun h => ?_))|refine zg ?_|refine zi ?_|refine zb ?_)
  all_goals conv=>whnf
  all_goals rfl
end Go.Proofs.YtfkfficabeclcaaGreatDoor

namespace Go.Proofs.YtfkfficabeclcaaGreatDoor
open Go Go.RowKit Go.Sort Sx
open Go.Lib hiding intOf
set_option maxRecDepth 2000
theorem rdRws_step0 {f:List Str→Option Pt} {R:List Str} {i:Nat} {A:List Pt} (hi:i<R.length) (h:rdRws f (R.take i)=some A):rdRws f (R.take (i+1))=(f (spl 32 R[i])).map fun p=>A++[p]:=by
 rw [List.take_succ_eq_append_getElem hi,rdRws_app,h]
 dsimp only
 rw [rdRws_one]
 cases f (spl 32 R[i])<;>rfl
theorem rdRws_stop0 {f:List Str→Option Pt} {R:List Str} {i:Nat} (h:rdRws f (R.take (i+1))=none):rdRws f R=none:=by
 have e:R=R.take (i+1)++R.drop (i+1):=(List.take_append_drop _ _).symm
 rw [e,rdRws_app,h]
theorem rdRws_ok {n d:Int}:∀ {l:List Str} {A:List Pt},rdRws (pcdP n d) l=some A→∀ p∈A,p.chk=0
 | [],A,h,p,hp=>by rw [rdRws] at h;injection h with h;subst h;cases hp
 | x::l,A,h,p,hp=>by
  rw [rdRws] at h
  cases h1:pcdP n d (spl 32 x) with
  | none=>rw [h1] at h;cases h
  | some q =>
   rw [h1] at h
   dsimp only at h
   cases h2:rdRws (pcdP n d) l with
   | none=>rw [h2] at h;cases h
   | some r =>
    rw [h2] at h
    injection h with h
    subst h
    rcases List.mem_cons.1 hp with rfl|hp
    ·rw [pcX_is] at h1
     split at h1
     ·unfold plcV at h1
      split at h1
      ·split at h1
       ·rename_i hc
        injection h1 with h1
        rw [← h1]
        exact hc.2.2
       ·cases h1
      ·cases h1
     ·cases h1
    ·exact rdRws_ok h2 p hp
set_option maxRecDepth 100000 in
set_option maxHeartbeats 8000000 in
theorem tReadStanding_fn (s:Str) (hs1:s.length≤999999):FnOK Tryz.prog 16 [.one (str s)] (retMe (sreadP s)):=by
 unfold sreadP
 by_cases hb:110000<s.length
 ·rw [if_pos hb]
  simp only [retMe,Md.dc,pts,List.map_nil]
  refine fn_ok (by kernel_rfl) (ty_okKB [71] [47] [] []) Tryz.func16 rfl (fun _ _=>Tryz.call16 _ _) rfl ?_
  intro hw
  clear hw
  repeat' ((conv=>whnf);first|(with_reducible first|refine br_t ?_|refine br_f ?_|refine za ?_|refine zg ?_|refine zo ?_|refine zm ?_)|refine zsl ?_|refine zsg ?_|refine zss ?_|refine zs1 ?_|refine zse ?_|refine zsn ?_|refine zsc ?_|(with_reducible first|refine zpa ?_|refine zqa ?_)|refine zp ?_|refine zq ?_|(with_reducible first|refine bc (fun h => ?_) (fun h => ?_)|refine zt ?_|refine zf ?_|refine br_i (fun h => ?_) (fun h => ?_))|refine zg ?_|refine zi ?_|refine zb ?_|refine zl ?_)
  all_goals conv=>whnf
  all_goals rfl
 rw [if_neg hb]
 have Hs:FnOK Tryz.prog 44 [.one (str s),.one (str [10])] (.c (.one (strs (spl 10 s)))):=split_fn (s:=s) (c:=10) (by omega)
 have hl1:=spl_len 10 s
 have hl2:=spl_each 10 s
 unfold srdP srdG
 obtain ⟨w0,t,hL⟩:∃ w0 t,spl 10 s=w0::t:=by
  cases h:spl 10 s with
  | nil=>exact absurd h (spl_ne 10 s)
  | cons a b=>exact ⟨a,b,rfl⟩
 have hhd:(spl 10 s).headD []=w0:=by rw [hL];rfl
 have g0:((spl 10 s).map fun s=>[str s])[(0:Int).toNat]? = some [str w0]:=by rw [hL];rfl
 have h0:=hl2 w0 (by rw [hL];exact List.mem_cons_self ..)
 have hL0:0<(spl 10 s).length:=by rw [hL];simp
 rw [hhd]
 clear hL hhd
 generalize spl 10 s=L at *
 have Hs2:FnOK Tryz.prog 44 [.one (str w0),.one (str [32])] (.c (.one (strs (spl 32 w0)))):=split_fn (s:=w0) (c:=32) (by omega)
 have hf2:=spl_each 32 w0
 generalize spl 32 w0=F at *
 have hLl:(L.map fun s=>[str s]).length=L.length:=List.length_map ..
 have hFl:(F.map fun s=>[str s]).length=F.length:=List.length_map ..
 by_cases hA:L.length<4∨68<L.length∨F.length≠4
 ·rw [if_pos hA]
  show FnOK _ _ _ (retMe (⟨0,0,[]⟩,12))
  simp only [retMe,Md.dc,pts,List.map_nil]
  rcases Nat.lt_or_ge L.length 4 with h4|h4
  ·refine fn_ok (by kernel_rfl) (ty_okKB [71] [47] [] []) Tryz.func16 rfl (fun _ _=>Tryz.call16 _ _) rfl ?_
   intro hw
   clear hw
   repeat' ((conv=>whnf);first|(with_reducible first|refine br_t ?_|refine br_f ?_|refine za ?_|refine zg ?_|refine zo ?_|refine zm ?_)|refine zsl ?_|refine zsg ?_|refine zss ?_|refine zs1 ?_|refine zse ?_|refine zsn ?_|refine zsc ?_|(with_reducible first|refine zpa ?_|refine zqa ?_)|refine zp ?_|refine zq ?_|(with_reducible first|refine bc (fun h => ?_) (fun h => ?_)|refine zt ?_|refine zf ?_|refine br_i (fun h => ?_) (fun h => ?_))|refine zg ?_|refine zi ?_|refine zb ?_|refine zl ?_)
   all_goals conv=>whnf
   all_goals rfl
  ·rcases Nat.lt_or_ge 68 L.length with h5|h5
   ·refine fn_ok (by kernel_rfl) (ty_okKB [71] [47] [] []) Tryz.func16 rfl (fun _ _=>Tryz.call16 _ _) rfl ?_
    intro hw
    clear hw
    repeat' ((conv=>whnf);first|(with_reducible first|refine br_t ?_|refine br_f ?_|refine za ?_|refine zg ?_|refine zo ?_|refine zm ?_)|refine zsl ?_|refine zsg ?_|refine zss ?_|refine zs1 ?_|refine zse ?_|refine zsn ?_|refine zsc ?_|(with_reducible first|refine zpa ?_|refine zqa ?_)|refine zp ?_|refine zq ?_|(with_reducible first|refine bc (fun h => ?_) (fun h => ?_)|refine zt ?_|refine zf ?_|refine br_i (fun h => ?_) (fun h => ?_))|refine zg ?_|refine zi ?_|refine zb ?_|refine zl ?_)
    all_goals conv=>whnf
    all_goals rfl
   ·have h6:F.length≠4:=by omega
    refine fn_ok (by kernel_rfl) (ty_okKB [71] [47] [] []) Tryz.func16 rfl (fun _ _=>Tryz.call16 _ _) rfl ?_
    intro hw
    clear hw
    repeat' ((conv=>whnf);first|(with_reducible first|refine br_t ?_|refine br_f ?_|refine za ?_|refine zg ?_|refine zo ?_|refine zm ?_)|refine zsl ?_|refine zsg ?_|refine zss ?_|refine zs1 ?_|refine zse ?_|refine zsn ?_|refine zsc ?_|(with_reducible first|refine zpa ?_|refine zqa ?_)|refine zp ?_|refine zq ?_|(with_reducible first|refine bc (fun h => ?_) (fun h => ?_)|refine zt ?_|refine zf ?_|refine br_i (fun h => ?_) (fun h => ?_))|refine zg ?_|refine zi ?_|refine zb ?_|refine zl ?_)
    all_goals conv=>whnf
    all_goals rfl
 rw [if_neg hA]
 simp only [not_or,Nat.not_lt] at hA
 obtain ⟨hA1,hA2,hA3⟩:=hA
 have hA3:F.length=4:=Decidable.not_not.1 hA3
 match F,hA3 with
 | [f0,f1,f2,f3],_ =>
  have l1:=hf2 f1 (by simp)
  have HP:=now_ptr f1 (by omega)
  simp only [List.getD_cons_succ,List.getD_cons_zero]
  cases hq:frV f1 with
  | none =>
   rw [hq] at HP
   show FnOK _ _ _ (retMe (⟨0,0,[]⟩,12))
   simp only [Option.isSome,Option.getD] at HP
   simp only [retMe,Md.dc,pts,List.map_nil]
   refine fn_ok (by kernel_rfl) (ty_okKB [71] [47] [] []) Tryz.func16 rfl (fun _ _=>Tryz.call16 _ _) rfl ?_
   intro hw
   clear hw
   repeat' ((conv=>whnf);first|(with_reducible first|refine br_t ?_|refine br_f ?_|refine za ?_|refine zg ?_|refine zo ?_|refine zm ?_)|refine zbr ?_|refine ⟨_,_,HP,?_⟩|refine zsl ?_|refine zsg ?_|refine zss ?_|refine zs1 ?_|refine zse ?_|refine zsn ?_|refine zsc ?_|(with_reducible first|refine zpa ?_|refine zqa ?_)|refine zp ?_|refine zq ?_|(with_reducible first|refine bc (fun h => ?_) (fun h => ?_)|refine zt ?_|refine zf ?_|refine br_i (fun h => ?_) (fun h => ?_))|refine zg ?_|refine zi ?_|refine zb ?_|refine zl ?_)
   all_goals conv=>whnf
   all_goals rfl
  | some q =>
   rw [hq] at HP
   obtain ⟨n,d⟩:=q
   simp only [Option.isSome,Option.getD] at HP
   dsimp only
   have ew3:IntKind.i64.wrap (((L.map fun s=>[str s]).length:Int)-3)=((L.length-3:Nat):Int):=by rw [hLl,IntWalk.i64_in _ (by omega)];omega
   obtain ⟨R,hR⟩:∃ R,R=(L.take (L.length-3)).drop 1:=⟨_,rfl⟩
   rw [← hR]
   have hRm:∀ x∈R,x.length≤s.length:=fun x hx=>hl2 x (List.mem_of_mem_take (List.mem_of_mem_drop (by rw [hR] at hx;exact hx)))
   have hRn:R.length=L.length-4:=by rw [hR];simp;omega
   obtain ⟨X,hX⟩:∃ X,X=backS s ((rdRws (pcdP n d) R).map fun l=>(n,d,l)):=⟨_,rfl⟩
   rw [← hX]
   obtain ⟨⟨X1,X2,X3⟩,X4⟩:=X
   simp only [retMe,Md.dc]
   refine fn_ok (by kernel_rfl) (ty_okKB [71] [47] [] []) Tryz.func16 rfl (fun _ _=>Tryz.call16 _ _) rfl ?_
   intro hw
   clear hw
   repeat' ((conv=>whnf);first|(with_reducible first|refine br_t ?_|refine br_f ?_|refine za ?_|refine zg ?_|refine zo ?_|refine zm ?_)|refine zbr ?_|refine ⟨_,_,HP,?_⟩|refine zsl ?_|refine zsg ?_|refine zss ?_|refine zs1 ?_|refine zse ?_|refine zsn ?_|refine zsc ?_|(with_reducible first|refine zpa ?_|refine zqa ?_)|refine zp ?_|refine zq ?_|(with_reducible first|refine bc (fun h => ?_) (fun h => ?_)|refine zt ?_|refine zf ?_|refine br_i (fun h => ?_) (fun h => ?_))|refine zg ?_|refine zi ?_|refine zb ?_|refine zl ?_)
   all_goals conv=>whnf
   have hRR:List.drop (1:Int).toNat (List.take (IntKind.i64.wrap (((L.map fun s=>[str s]).length:Int)-3)).toNat (L.map fun s=>[str s]))=R.map fun s=>[str s]:=by
    rw [ew3,Int.toNat_natCast,hR,List.map_drop,List.map_take]
    rfl
   rw [hRR]
   have hRl:(R.map fun s=>[str s]).length=R.length:=List.length_map ..
   clear hRR
   refine loop_nameH 6 2 100 rfl rfl rfl ?_
   refine loop_J (by kernel_rfl) (ty_okKB [71] [47] [] []) (σ:=Nat × List Pt) (fun x=>[(51,sV (.int .i64 (x.1:Nat)))]) (fun x=>[(6,.own [.d (i64 n),.d (i64 d),.osl 100 0]),(100,.row 3 (x.2.map Pt.c) 0)]) (fun x=>x.1≤R.length∧rdRws (pcdP n d) (R.take x.1)=some x.2) (fun x=>R.length-x.1) (0,[]) ⟨Nat.zero_le _,by rw [List.take_zero];rfl⟩ ?_ ?_
   ·(conv=>whnf);exact zent
   rintro ⟨i,A⟩ ⟨hi2,hI⟩
   dsimp only at hi2 hI
   have hAl:=rdRws_len _ hI
   have hAl2:A.length≤68:=by rw [hAl];simp;omega
   have hAl3:(A.map Pt.c).length=A.length:=List.length_map ..
   rcases Nat.lt_or_ge i R.length with hlt|hge
   ·have hel:(R.map fun s=>[str s])[((i:Nat):Int).toNat]? = some [str R[i]]:=by
     rw [Int.toNat_natCast,List.getElem?_map,List.getElem?_eq_getElem hlt];rfl
    have hli:=hRm R[i] (List.getElem_mem hlt)
    have hst:=rdRws_step0 hlt hI
    have hsp:=fun h=>rdRws_stop0 (f:=pcdP n d) (R:=R) (i:=i) h
    have Hc:FnOK Tryz.prog 44 [.one (str R[i]),.one (str [32])] (.c (.one (strs (spl 32 R[i])))):=split_fn (s:=R[i]) (c:=32) (by omega)
    have hwe:=spl_each 32 R[i]
    have hwl:=spl_len 32 R[i]
    generalize R[i]=line at *
    have Hp:=tplaced_fn (spl 32 line) n d (by omega) (fun x hx=>by have:=hwe x hx;omega)
    have hz:=pcZ_is n d (spl 32 line)
    rw [hz] at hst
    clear hz hwe hwl
    generalize pcZ (pcX (spl 32 line)).1 (pcX (spl 32 line)).2 n d=z at *
    generalize spl 32 line=W at *
    obtain ⟨⟨z1,z2,z3⟩,zb⟩:=z
    have ew:IntKind.i64.wrap ((i:Int)+1)=((i+1:Nat):Int):=by rw [IntWalk.i64_in _ (by omega)];omega
    simp only [retPb,Pt.dc] at Hp
    clear HP
    cases zb
    ·rw [if_neg (by simp)] at hst
     rw [hsp hst] at hX
     have hX:(⟨X1,X2,X3⟩,X4)=((⟨0,0,[]⟩,12):Md × Int):=hX
     injection hX with hX1 hX2
     injection hX1 with hX1 hX3 hX4
     subst hX1 hX2 hX3 hX4
     clear hsp hst hI
     simp only [pts,List.map_nil]
     repeat' ((conv=>whnf);first|(with_reducible first|refine br_t ?_|refine br_f ?_|refine za ?_|refine zg ?_|refine zo ?_|refine zm ?_)|refine zsl ?_|refine zsg ?_|refine zss ?_|refine zs1 ?_|refine zse ?_|refine zsn ?_|refine zsc ?_|(with_reducible first|refine zpa ?_|refine zqa ?_)|refine zp ?_|refine zq ?_|(with_reducible first|refine bc (fun h => ?_) (fun h => ?_)|refine zt ?_|refine zf ?_|refine br_i (fun h => ?_) (fun h => ?_))|refine zg ?_|refine zi ?_|refine zb ?_|refine zl ?_)
     all_goals conv=>whnf
     all_goals rfl
    ·rw [if_pos rfl] at hst
     replace hst:rdRws (pcdP n d) (R.take (i+1))=some (A++[(⟨z1,z2,z3⟩:Pt)]):=hst
     have hap:A.map Pt.c++[[i64 z1,i64 z2,i64 z3]]=(A++[(⟨z1,z2,z3⟩:Pt)]).map Pt.c:=by rw [List.map_append];rfl
     clear hsp hX
     repeat' ((conv=>whnf);first|(with_reducible first|refine br_t ?_|refine br_f ?_|refine za ?_|refine zg ?_|refine zo ?_|refine zm ?_)|refine zsl ?_|refine zsg ?_|refine zss ?_|refine zs1 ?_|refine zse ?_|refine zsn ?_|refine zsc ?_|(with_reducible first|refine zpa ?_|refine zqa ?_)|refine zp ?_|refine zq ?_|(with_reducible first|refine bc (fun h => ?_) (fun h => ?_)|refine zt ?_|refine zf ?_|refine br_i (fun h => ?_) (fun h => ?_))|refine zg ?_|refine zi ?_|refine zb ?_|refine zl ?_)
     all_goals conv=>whnf
     refine ⟨(i+1,A++[⟨z1,z2,z3⟩]),⟨hlt,hst⟩,?_,by simp only;omega⟩
     (conv=>whnf);refine ⟨by repeat' (first|with_reducible exact zE0|with_reducible refine zE1 ?_ ?_|rfl|assumption|((exact congrArg (fun x=>some (Blk.row 3 x 0)) hap))|exact zi1|exact zb1),by repeat' (first|with_reducible exact zH0|with_reducible refine zH1 ?_ ?_|rfl|assumption|((exact congrArg (fun x=>some (Blk.row 3 x 0)) hap))),rfl⟩
   ·obtain rfl:i=R.length:=by omega
    rw [List.take_length] at hI
    rw [hI] at hX
    obtain ⟨B,hp,hsrt,HM⟩:=sortId_mu A (rdRws_ok hI) (by omega)
    have hX:(⟨X1,X2,X3⟩,X4)=backS s (some (n,d,A)):=hX
    have Ht:=tStanding_fn ⟨n,d,B⟩
    unfold standV at Ht
    clear HP
    rcases smd_cases (s:=s) (n:=n) (d:=d) hp hsrt with ⟨h1,h2,h⟩|⟨h1,h2,h⟩|⟨h1,h⟩
    ·rw [if_pos h1,h2] at Ht
     rw [h] at hX
     clear h h1 h2 hI hp hsrt
     simp only [Md.dc,retS] at Ht
     injection hX with hX1 hX2
     injection hX1 with hX1 hX3 hX4
     subst hX1 hX2 hX3 hX4
     repeat' ((conv=>whnf);first|(with_reducible first|refine br_t ?_|refine br_f ?_|refine za ?_|refine zg ?_|refine zo ?_|refine zm ?_)|refine zsl ?_|refine zsg ?_|refine zss ?_|refine zs1 ?_|refine zse ?_|refine zsn ?_|refine zsc ?_|(with_reducible first|refine zpa ?_|refine zqa ?_)|refine zp ?_|refine zq ?_|(with_reducible first|refine bc (fun h => ?_) (fun h => ?_)|refine zt ?_|refine zf ?_|refine br_i (fun h => ?_) (fun h => ?_))|refine zg ?_|refine zi ?_|refine zb ?_|refine zl ?_)
     all_goals conv=>whnf
     all_goals first|rfl|contradiction
    ·rw [if_pos h1] at Ht
     rw [h] at hX
     obtain ⟨T,hT⟩:∃ T,T=stT ⟨n,d,B⟩:=⟨_,rfl⟩
     rw [← hT] at h2 Ht
     clear h h1 hI hp hsrt hT
     simp only [Md.dc,retS] at Ht
     injection hX with hX1 hX2
     injection hX1 with hX1 hX3 hX4
     subst hX1 hX2 hX3 hX4
     simp only [pts,List.map_nil] at *
     repeat' ((conv=>whnf);first|(with_reducible first|refine br_t ?_|refine br_f ?_|refine za ?_|refine zg ?_|refine zo ?_|refine zm ?_)|refine zsl ?_|refine zsg ?_|refine zss ?_|refine zs1 ?_|refine zse ?_|refine zsn ?_|refine zsc ?_|(with_reducible first|refine zpa ?_|refine zqa ?_)|refine zp ?_|refine zq ?_|(with_reducible first|refine bc (fun h => ?_) (fun h => ?_)|refine zt ?_|refine zf ?_|refine br_i (fun h => ?_) (fun h => ?_))|refine zg ?_|refine zi ?_|refine zb ?_|refine zl ?_)
     all_goals conv=>whnf
     all_goals first|rfl|contradiction
    ·rw [if_neg (by omega),h1] at Ht
     rw [h] at hX
     clear h h1 hI hp hsrt
     simp only [Md.dc,retS] at Ht
     injection hX with hX1 hX2
     injection hX1 with hX1 hX3 hX4
     subst hX1 hX2 hX3 hX4
     simp only [pts,List.map_nil] at *
     repeat' ((conv=>whnf);first|(with_reducible first|refine br_t ?_|refine br_f ?_|refine za ?_|refine zg ?_|refine zo ?_|refine zm ?_)|refine zsl ?_|refine zsg ?_|refine zss ?_|refine zs1 ?_|refine zse ?_|refine zsn ?_|refine zsc ?_|(with_reducible first|refine zpa ?_|refine zqa ?_)|refine zp ?_|refine zq ?_|(with_reducible first|refine bc (fun h => ?_) (fun h => ?_)|refine zt ?_|refine zf ?_|refine br_i (fun h => ?_) (fun h => ?_))|refine zg ?_|refine zi ?_|refine zb ?_|refine zl ?_)
     all_goals conv=>whnf
     all_goals first|rfl|contradiction
end Go.Proofs.YtfkfficabeclcaaGreatDoor

namespace Go.Proofs.YtfkfficabeclcaaGreatDoor
open Go.RowKit Go.Sort Sx
def kept:Md→List Ak→List Ak
 | _,[]=>[]
 | m,a::l=>if (askV m a).2.e=0 then a::kept (askV m a).1 l else kept (askV m a).1 l
end Go.Proofs.YtfkfficabeclcaaGreatDoor

namespace Go.Proofs.YtfkfficabeclcaaGreatDoor
open Go.RowKit Go.Sort Sx Go.Lib
theorem mRun_of:∀ {l:List Mt} {p:Option Mt},(∀ m∈l,m.ok∧mOk m=true)→(∀ q,p=some q→q.ok∧∀ m∈l,mlt q m)→l.Pairwise mlt→mRun p l=true
 | [],none,_,_,_=>rfl
 | [],some _,_,_,_=>rfl
 | m::l,none,h,_,hp=>by
  rw [mRun,(h m (List.mem_cons_self ..)).2,Bool.true_and]
  exact mRun_of (fun x hx=>h x (List.mem_cons_of_mem _ hx)) (fun q e=>by injection e with e;subst e;exact ⟨(h m (List.mem_cons_self ..)).1,fun x hx=>List.rel_of_pairwise_cons hp hx⟩) hp.tail
 | m::l,some q,h,hq,hp=>by
  obtain ⟨q1,q2⟩:=hq q rfl
  have hc:=lt_cfM q1 (h m (List.mem_cons_self ..)).1
  rw [decide_eq_true (q2 m (List.mem_cons_self ..))] at hc
  unfold ltOf at hc
  rw [mRun,(h m (List.mem_cons_self ..)).2,Bool.true_and,hc,Bool.true_and]
  exact mRun_of (fun x hx=>h x (List.mem_cons_of_mem _ hx)) (fun q e=>by injection e with e;subst e;exact ⟨(h m (List.mem_cons_self ..)).1,fun x hx=>List.rel_of_pairwise_cons hp hx⟩) hp.tail
def pne (x y:Pt × Pt):Prop:=¬ (x.1.id=y.1.id∧x.2.id=y.2.id)
theorem pairs_ne:∀ {l:List Pt},incr l=true→(pairsOf l).Pairwise pne
 | [],_=>List.Pairwise.nil
 | p::l,h=>by
  have hi:=incr_tail h
  have hlt:∀ i (hi:i<l.length),p.id<l[i].id:=fun i hi=>by
   have:=incr_lt h (i+1) 0 (by simpa using hi) (by omega)
   simpa using this
  rw [pairsOf,List.pairwise_append]
  refine ⟨?_,pairs_ne hi,fun x hx y hy => ?_⟩
  ·rw [List.pairwise_map]
   refine List.pairwise_iff_getElem.2 fun i j h1 h2 hij e => ?_
   have h3:l[i].id=l[j].id:=e.2
   have:=incr_lt hi j i h2 hij
   omega
  ·obtain ⟨q,hq,rfl⟩:=List.mem_map.1 hx
   rintro ⟨e1,e2⟩
   obtain ⟨a,b⟩:=y
   obtain ⟨k,hk,e⟩:=List.getElem_of_mem (pairs_mem hy).1
   have:=hlt k hk
   have e1:p.id=a.id:=e1
   rw [e] at this
   omega
def mne (a b:Mt):Prop:=¬ (a.i=b.i∧a.j=b.j)
theorem outs_ne {l:List Pt} (h:fchk l=0):(outs (pairsOf l)).Pairwise mne:=by
 obtain ⟨_,k2,k3⟩:=fchk_ok h
 unfold outs
 rw [List.pairwise_filterMap]
 have hid:∀ (x:Pt × Pt) (m:Mt),meet1 x=some m→m.i=x.1.id∧m.j=x.2.id:=fun x m e=>by
  unfold meet1 at e
  dsimp only at e
  split at e
  ·injection e with e;subst e;exact ⟨rfl,rfl⟩
  ·cases e
 refine (pairs_ne k3).imp fun {x y} hxy a ha b hb e=>hxy ?_
 obtain ⟨a1,a2⟩:=hid x a ha
 obtain ⟨b1,b2⟩:=hid y b hb
 exact ⟨by rw [← a1,← b1];exact e.1,by rw [← a2,← b2];exact e.2⟩
theorem allM_lt {l:List Pt} (h:fchk l=0):(allM l).Pairwise mlt:=by
 have h1:=msrt_sorted (outs (pairsOf l))
 have h2:(allM l).Pairwise mne:=(msrt_perm (outs (pairsOf l))).symm.pairwise (outs_ne h) fun {a b} h e=>h ⟨e.1.symm,e.2.symm⟩
 refine (h1.and h2).imp fun {a b} ⟨h3,h4⟩ => ?_
 rcases mlt_tri a b with k|k|⟨_,e1,e2⟩
 ·exact k
 ·exact absurd k h3
 ·exact absurd ⟨e1,e2⟩ h4
theorem outs_mOk {l:List Pt} (h:fchk l=0) {m:Mt} (hm:m∈outs (pairsOf l)):mOk m=true:=by
 obtain ⟨_,k2,k3⟩:=fchk_ok h
 have ho:=outs_ok h m hm
 obtain ⟨⟨p,q⟩,h1,h2⟩:=List.mem_filterMap.1 hm
 obtain ⟨hp,hq⟩:=pairs_mem h1
 have hlt:=pairs_lt k3 h1
 have cp:=cpt_ok (k2 p hp)
 have cq:=cpt_ok (k2 q hq)
 unfold meet1 at h2
 dsimp only at h2
 split at h2
 ·injection h2 with h2
  subst h2
  unfold mOk
  simp only [Bool.and_eq_true,decide_eq_true_eq]
  exact ⟨ho.1.1,by show 0≤p.id;omega,by show p.id<q.id;omega,by show q.id≤_;omega⟩
 ·cases h2
theorem pairs_count:∀ (l:List Pt),(pairsOf l).length*2+l.length=l.length*l.length
 | []=>rfl
 | p::l=>by
  have ih:=pairs_count l
  rw [pairsOf,List.length_append,List.length_map,List.length_cons,Nat.add_mul,Nat.add_mul,Nat.mul_add,← ih]
  omega
theorem pairs_2016 {l:List Pt} (h:l.length≤64):(pairsOf l).length≤2016:=by
 have h1:=pairs_count l
 generalize (pairsOf l).length=k at *
 generalize l.length=n at *
 rcases Nat.eq_zero_or_pos n with h0|h0
 ·subst h0;omega
 ·obtain ⟨j,rfl⟩:∃ j,n=j+1:=⟨n-1,by omega⟩
  have h2:j*(j+1)≤63*64:=Nat.mul_le_mul (by omega) h
  rw [Nat.add_mul,Nat.one_mul] at h1
  omega
theorem btw_good {l:List Pt} (h:fchk l=0) (n e r t:Int):mtR (btw (allM l) n e r t)=true:=by
 have hsub:(btw (allM l) n e r t).Sublist (allM l):=(List.drop_sublist _ _).trans (List.take_sublist _ _)
 have hmem:∀ m∈btw (allM l) n e r t,m∈outs (pairsOf l):=fun m hm=>msrt_mem.1 (hsub.subset hm)
 unfold mtR
 rw [mRun_of (fun m hm=>⟨(outs_ok h m (hmem m hm)).1,outs_mOk h (hmem m hm)⟩) (fun q e=>by cases e) ((allM_lt h).sublist hsub),Bool.true_and]
 refine decide_eq_true ?_
 have h1:=hsub.length_le
 rw [msrt_len] at h1
 have h2:=outs_len (pairsOf l)
 have h3:=pairs_2016 (fchk_ok h).1
 omega
theorem rchk_0:rchk rp0=0:=by decide
theorem rchk_m {l:List Mt} (h:mtR l=true):rchk ⟨0,0,0,0,0,l⟩=0:=by
 cases l with
 | nil=>exact rchk_0
 | cons a l =>
  unfold rchk
  rw [if_neg (by simp),if_pos (by simp),if_pos ⟨h,rfl⟩]
theorem rin_of {r:Rp} (h:rchk r=0) (h1:r.n≤9223372036854775807 ∧ -9223372036854775808≤r.n∧r.d≤9223372036854775807) (h2:∀ m∈r.ms,m.n≤9223372036854775807 ∧ -9223372036854775808≤m.n∧m.d≤9223372036854775807):rin r:=by
 have hf:∀ n d:Int,chk n d=0→n≤9223372036854775807 ∧ -9223372036854775808≤n∧d≤9223372036854775807→fit2 n d:=fun n d hc hb=>by
  have:=(chk_iff n d).1 hc
  unfold fit2 fitI
  omega
 rcases rchk_cases h with ⟨_,_,h3⟩|⟨_,h4,h3⟩|⟨_,h4,_,_,h3⟩|⟨_,h4,_,_,_,_,h3⟩|h3
 ·rw [h3];exact rin_e _
 ·refine ⟨by rw [h3];exact fit2_0,fun m hm => ?_⟩
  unfold mtR at h4
  simp only [Bool.and_eq_true] at h4
  exact hf _ _ (mOk_i.1 (mRun_ok h4.1 m hm)).1 (h2 m hm)
 ·exact ⟨hf _ _ h4 h1,by rw [h3];intro m hm;cases hm⟩
 ·exact ⟨hf _ _ h4 h1,by rw [h3];intro m hm;cases hm⟩
 ·rw [h3];exact rin_e 0
end Go.Proofs.YtfkfficabeclcaaGreatDoor

namespace Go.Proofs.YtfkfficabeclcaaGreatDoor
open Go Go.RowKit Go.Sort Sx
open Go.Lib hiding intOf
attribute [local go_sem] str_eql str_neq
theorem read_arg {w:World} {M:Nat→Prop} {w0:Str} {t:List Str} {v:Value} (hv:Rep w M (strs (w0::t)) v):∃ b o c,v=.slice (some ⟨b,o,none⟩) (t.length+1) c∧t.length+1≤c∧b<w.heap.size∧w.cell? ⟨b,o,none⟩=some (bstr w0)∧(c=1→Rep w M (strs t) (.slice (some ⟨b,o,none⟩) t.length 0))∧(c≠1→Rep w M (strs t) (.slice (some ⟨b,o+1,none⟩) t.length (c-1))):=by
 obtain ⟨b,o,c,rfl,hc,hb,hcell⟩:=rep_strs (by simp) hv
 exact ⟨b,o,c,rfl,hc,hb,hcell 0 (by simp),rep_tail hv hc⟩
theorem ld_scan {n:Nat} {t:List Str} {w:World} {M:Nat→Prop} (hM:∀ b,M b→b<w.heap.size) (hg:Gd w) (hl:t.length≤1000000) (hs:∀ x∈t,x.length≤1000000) {v:Value} (hv:Rep w M (strs t) v) :
  CallsIn Fence.wide n Tryz.prog 45 #[v,.slice (some ⟨w.heap.size+2,0,none⟩) 2 2] ((rdW w).alloc (.cells #[.iface 136 (.pointer (some ⟨w.heap.size,1,none⟩)),.iface 93 (.pointer (some ⟨w.heap.size,3,none⟩))] 20)) fun e w'=>e=.returned (.bool (ldX t).2)∧w'.heap[w.heap.size]? = some (.cells (rpC (ldX t).1 (.slice none 0 0)) 28 (0,0))∧Boxed w' (w.heap.size+1) 4 (.bool false)∧Below w.heap.size w w':=by
 obtain ⟨s1,s2,s3,s4⟩:=rdW_ok w
 have h:=scan_one (ts:=[.i w.heap.size 1,.r w.heap.size 3]) (R:=w.heap.size) (n:=w.heap.size) (b:=(ldX t).2) (by simp) (by simp [Tg.b]) hl (by simp) hs (gd_below s4 hg) s2 (by
  intro x hx
  simp only [List.mem_cons,List.not_mem_nil,or_false] at hx
  rcases hx with rfl|rfl
  ·exact cel6 s2 (by decide)
  ·exact ⟨cel6 s2 (by decide),cel6 s2 (by decide)⟩) (gd_size hg) (Nat.le_refl _) (hv.mono (Holds.of_below s4) fun b hb e=>absurd e (by omega)) (fun hlen W' h=>ldX_sc hlen W' h) (fun hlen=>by rw [ldX_no hlen];exact ⟨rfl,rfl⟩)
 rw [s1] at h
 refine callsIn_wide.2 (h.mono ?_)
 rintro e w' ⟨rfl,h1,h2,h3⟩
 exact ⟨rfl,h1,(h2 _ (by omega) (by omega)).trans s3,s4.trans h3⟩
theorem pr_scan {n:Nat} {t:List Str} {w:World} {M:Nat→Prop} (hM:∀ b,M b→b<w.heap.size) (hg:Gd w) (hl:t.length≤1000000) (hs:∀ x∈t,x.length≤1000000) {v:Value} (hv:Rep w M (strs t) v) :
  CallsIn Fence.wide n Tryz.prog 45 #[v,.slice (some ⟨w.heap.size+2,0,none⟩) 3 3] ((rdW w).alloc (.cells #[.iface 136 (.pointer (some ⟨w.heap.size,1,none⟩)),.iface 136 (.pointer (some ⟨w.heap.size,2,none⟩)),.iface 93 (.pointer (some ⟨w.heap.size,3,none⟩))] 20)) fun e w'=>e=.returned (.bool (prX t).2)∧w'.heap[w.heap.size]? = some (.cells (rpC (prX t).1 (.slice none 0 0)) 28 (0,0))∧Boxed w' (w.heap.size+1) 4 (.bool false)∧Below w.heap.size w w':=by
 obtain ⟨s1,s2,s3,s4⟩:=rdW_ok w
 have h:=scan_one (ts:=[.i w.heap.size 1,.i w.heap.size 2,.r w.heap.size 3]) (R:=w.heap.size) (n:=w.heap.size) (b:=(prX t).2) (by simp) (by simp [Tg.b]) hl (by simp) hs (gd_below s4 hg) s2 (by
  intro x hx
  simp only [List.mem_cons,List.not_mem_nil,or_false] at hx
  rcases hx with rfl|rfl|rfl
  ·exact cel6 s2 (by decide)
  ·exact cel6 s2 (by decide)
  ·exact ⟨cel6 s2 (by decide),cel6 s2 (by decide)⟩) (gd_size hg) (Nat.le_refl _) (hv.mono (Holds.of_below s4) fun b hb e=>absurd e (by omega)) (fun hlen W' h=>prX_sc hlen W' h) (fun hlen=>by rw [prX_no hlen];exact ⟨rfl,rfl⟩)
 rw [s1] at h
 refine callsIn_wide.2 (h.mono ?_)
 rintro e w' ⟨rfl,h1,h2,h3⟩
 exact ⟨rfl,h1,(h2 _ (by omega) (by omega)).trans s3,s4.trans h3⟩
theorem drew_heap (W:World):W.drew.heap=W.heap:=rfl
def rpFin0 (n0:Nat) (W:World) (u v x y z m e:Value):World:=((((((W.setCell ⟨n0,0,none⟩ u).setCell ⟨n0,1,none⟩ v).setCell ⟨n0,2,none⟩ x).setCell ⟨n0,3,none⟩ y).setCell ⟨n0,4,none⟩ z).setCell ⟨n0,5,none⟩ m).setCell ⟨n0+1,0,none⟩ e
def rpFin (n0:Nat) (W:World) (u v x y z m e:Value):World:=(rpFin0 n0 W u v x y z m e).drew
theorem rpFin_ok {w W:World} {n0:Nat} {cs:Array Value} {e':Value} (u v x y z m e:Value) (hc:cs.size=6) (h6:W.heap[n0]? = some (.cells cs 28 (0,0))) (h7:Boxed W (n0+1) 4 e') (hn:w.heap.size≤n0) (h8:Below w.heap.size w W) :
  (rpFin n0 W u v x y z m e).heap[n0]? = some (.cells #[u,v,x,y,z,m] 28 (0,0))∧Boxed (rpFin n0 W u v x y z m e) (n0+1) 4 e∧Below w.heap.size w (rpFin n0 W u v x y z m e)∧(∀ k,k≠n0→k≠n0+1→(rpFin n0 W u v x y z m e).heap[k]? = W.heap[k]?):=by
 refine ⟨?_,?_,?_,?_⟩
 ·rw [rpFin,drew_heap]
  unfold rpFin0
  refine setCell_o (by omega) ?_
  rw [set6 5 m (set6 4 z (set6 3 y (set6 2 x (set6 1 v (set6 0 u h6)))))]
  obtain ⟨l⟩:=cs
  match l,hc with
  | [_,_,_,_,_,_],_=>rfl
 ·unfold Boxed
  rw [rpFin,drew_heap]
  unfold rpFin0
  refine Boxed.set e (v:=e') ?_
  exact setCell_o (by omega) (setCell_o (by omega) (setCell_o (by omega) (setCell_o (by omega) (setCell_o (by omega) (setCell_o (by omega) h7)))))
 ·refine Below.drew ?_
  unfold rpFin0
  exact ((((((h8.setCell hn _).setCell hn _).setCell hn _).setCell hn _).setCell hn _).setCell hn _).setCell (by show w.heap.size≤n0+1;omega) _
 ·intro k h1 h2
  rw [rpFin,drew_heap]
  unfold rpFin0
  exact (setCell_other h2).trans ((setCell_other h1).trans ((setCell_other h1).trans ((setCell_other h1).trans ((setCell_other h1).trans ((setCell_other h1).trans (setCell_other h1))))))
theorem read_end0 {n:Nat} {w W:World} {M:Nat→Prop} {tmps:Array Value} {r:Rp} {ms:Value} {ok:Bool} (h2:tmps[2]? = some (.pointer (some ⟨w.heap.size,0,none⟩))) (h3:tmps[3]? = some (.pointer (some ⟨w.heap.size+1,0,none⟩)))
  (h6:W.heap[w.heap.size]? = some (.cells (rpC r ms) 28 (0,0))) (h7:Boxed W (w.heap.size+1) 4 (.bool ok)) (h8:Below w.heap.size w W) (hr:rpIn r) (hm:Rep W M (mts r.ms) ms) :
  bodyPostM Fence.wide n Tryz.prog Tryz.f43 (fun e w'=>∃ u,e=.returned u∧DVR w' M (retRb r ok) u∧Below w.heap.size w w') Exit.ret { tmps:=tmps,defers:=[] } W:=by
 obtain ⟨q1,q2,q3,q4,q5⟩:=hr
 refine ⟨_,results_read tmps h2 h3 h6 h7,_,rfl,?_,h8⟩
 exact ⟨_,rfl,⟨_,rfl,.v _ rfl q1,.v _ rfl q2,.v _ rfl q3,.v _ rfl q4,.v _ rfl q5,hm,trivial⟩,.v _ rfl trivial,trivial⟩
theorem rep_nil4 {W:World} {M:Nat→Prop} {r:Rp} (hm:r.ms=[]):Rep W M (mts r.ms) (.slice none 0 0):=by
 rw [hm]
 exact .nil 4 none 0 (by decide) (fun _=>rfl)
theorem read_end {n:Nat} {w W:World} {M:Nat→Prop} {tmps:Array Value} {r:Rp} {ok:Bool} (h2:tmps[2]? = some (.pointer (some ⟨w.heap.size,0,none⟩))) (h3:tmps[3]? = some (.pointer (some ⟨w.heap.size+1,0,none⟩)))
  (h6:W.heap[w.heap.size]? = some (.cells (rpC r (.slice none 0 0)) 28 (0,0))) (h7:Boxed W (w.heap.size+1) 4 (.bool ok)) (h8:Below w.heap.size w W) (hr:rpIn r) (hm:r.ms=[]) :
  bodyPostM Fence.wide n Tryz.prog Tryz.f43 (fun e w'=>∃ u,e=.returned u∧DVR w' M (retRb r ok) u∧Below w.heap.size w w') Exit.ret { tmps:=tmps,defers:=[] } (rpFin w.heap.size W (.int .i64 r.e) (.int .i64 r.i) (.int .i64 r.j) (.int .i64 r.n) (.int .i64 r.d) (.slice none 0 0) (.bool ok)):=by
 obtain ⟨x1,x2,x3,_⟩:=rpFin_ok (w:=w) (.int .i64 r.e) (.int .i64 r.i) (.int .i64 r.j) (.int .i64 r.n) (.int .i64 r.d) (.slice none 0 0) (.bool ok) rfl h6 h7 (Nat.le_refl _) h8
 exact read_end0 h2 h3 x1 x2 x3 hr (rep_nil4 hm)
set_option maxRecDepth 100000 in
set_option maxHeartbeats 4000000 in
theorem read_ld {n:Nat} (t:List Str) (hl:t.length≤1000000) (hs:∀ x∈t,x.length≤1000000) (w:World) (hg:Gd w) (M:Nat→Prop) (hM:∀ b,M b→b<w.heap.size) (v:Value) (hv:Rep w M (strs (wLeader::t)) v) (hn:1≤n) :
  CallsIn Fence.wide n Tryz.prog 43 #[v] w fun e w'=>∃ u,e=.returned u∧DVR w' M (retRb (ldX t).1 (ldX t).2) u∧Below w.heap.size w w':=by
 obtain ⟨b,o,c,rfl,hc,hb,h0,r1,r2⟩:=read_arg hv
 have q1:=fun h=>ld_scan (n:=n-1) hM hg hl hs (r1 h)
 have q2:=fun h=>ld_scan (n:=n-1) hM hg hl hs (r2 h)
 clear r1 r2
 have hf1:Fence.wide.fn 45:=trivial
 have hX:=ldX_in t
 have hXm:(ldX t).1.ms=[]:=by
  unfold ldX
  split
  ·rcases atoV _ with _|i
   ·rfl
   ·rcases frV _ with _|q<;>rfl
  ·rfl
 generalize ldX t=p at *
 obtain ⟨⟨xe,xi,xj,xn,xd,xm⟩,ok⟩:=p
 simp only [rdW,rpC,rp0] at q1 q2 hX hXm
 subst hXm
 refine callsIn_of_wp_marks Tryz.func43 rfl trivial ?_ rfl
 simp only [Tryz.ntmps43,List.size_toArray,List.length_cons,List.length_nil,Nat.reduceAdd,Nat.reduceSub,Array.replicate_succ,Array.replicate_zero,List.push_toArray,List.append_toArray,List.nil_append,List.cons_append]
 gi_wp2_with (first
  | (gi_at_call 45;(first|with_reducible refine CallsIn.mono (q1 (by assumption)) ?_|with_reducible refine CallsIn.mono (q2 (by assumption)) ?_);rintro e W5 ⟨rfl,hR5,hK5,hB5⟩;obtain ⟨⟨a0,a1,a2,a3,a4,a5⟩,fz⟩:=cells6 hR5;have f0:=fz 0;have f1:=fz 1;have f2:=fz 2;have f3:=fz 3;have f4:=fz 4;have f5:=fz 5;have e0:=hK5.cell;have e1:=hK5.frozen))
 all_goals
  obtain ⟨W6,hW6⟩:∃ W6,W6=W5.setCell ⟨w.heap.size+1,0,none⟩ (.bool ok):=⟨_,rfl⟩
  have g6:W6.heap[w.heap.size]? = some (.cells #[.int .i64 xe,.int .i64 xi,.int .i64 xj,.int .i64 xn,.int .i64 xd,.slice none 0 0] 28 (0,0)):=by rw [hW6];exact setCell_o (by omega) hR5
  have g7:Boxed W6 (w.heap.size+1) 4 (.bool ok):=by rw [hW6];exact hK5.set _
  have g8:Below w.heap.size w W6:=by rw [hW6];exact hB5.setCell (by show w.heap.size≤w.heap.size+1;omega) _
  rw [← hW6]
  clear hW6 a0 a1 a2 a3 a4 a5 f0 f1 f2 f3 f4 f5 e0 e1 q1 q2 fz hR5 hK5 hB5
  obtain ⟨⟨a0,a1,a2,a3,a4,a5⟩,fz⟩:=cells6 g6
  have f0:=fz 0
  have f1:=fz 1
  have f2:=fz 2
  have f3:=fz 3
  have f4:=fz 4
  have f5:=fz 5
  have e0:=g7.cell
  have e1:=g7.frozen
  gi_region
  gi_wp2
  exact read_end (r:=⟨xe,xi,xj,xn,xd,[]⟩) rfl rfl g6 g7 g8 hX rfl
set_option maxRecDepth 100000 in
set_option maxHeartbeats 4000000 in
theorem read_pr {n:Nat} (t:List Str) (hl:t.length≤1000000) (hs:∀ x∈t,x.length≤1000000) (w:World) (hg:Gd w) (M:Nat→Prop) (hM:∀ b,M b→b<w.heap.size) (v:Value) (hv:Rep w M (strs (wPair::t)) v) (hn:1≤n) :
  CallsIn Fence.wide n Tryz.prog 43 #[v] w fun e w'=>∃ u,e=.returned u∧DVR w' M (retRb (prX t).1 (prX t).2) u∧Below w.heap.size w w':=by
 obtain ⟨b,o,c,rfl,hc,hb,h0,r1,r2⟩:=read_arg hv
 have q1:=fun h=>pr_scan (n:=n-1) hM hg hl hs (r1 h)
 have q2:=fun h=>pr_scan (n:=n-1) hM hg hl hs (r2 h)
 clear r1 r2
 have hf1:Fence.wide.fn 45:=trivial
 have hX:=prX_in t
 have hXm:(prX t).1.ms=[]:=by
  unfold prX
  split
  ·rcases atoV _ with _|i
   ·rfl
   ·rcases atoV _ with _|j
    ·rfl
    ·rcases frV _ with _|q<;>rfl
  ·rfl
 generalize prX t=p at *
 obtain ⟨⟨xe,xi,xj,xn,xd,xm⟩,ok⟩:=p
 simp only [rdW,rpC,rp0] at q1 q2 hX hXm
 subst hXm
 refine callsIn_of_wp_marks Tryz.func43 rfl trivial ?_ rfl
 simp only [Tryz.ntmps43,List.size_toArray,List.length_cons,List.length_nil,Nat.reduceAdd,Nat.reduceSub,Array.replicate_succ,Array.replicate_zero,List.push_toArray,List.append_toArray,List.nil_append,List.cons_append]
 gi_wp2_with (first
  | (gi_at_call 45;(first|with_reducible refine CallsIn.mono (q1 (by assumption)) ?_|with_reducible refine CallsIn.mono (q2 (by assumption)) ?_);rintro e W5 ⟨rfl,hR5,hK5,hB5⟩;obtain ⟨⟨a0,a1,a2,a3,a4,a5⟩,fz⟩:=cells6 hR5;have f0:=fz 0;have f1:=fz 1;have f2:=fz 2;have f3:=fz 3;have f4:=fz 4;have f5:=fz 5;have e0:=hK5.cell;have e1:=hK5.frozen))
 all_goals
  obtain ⟨W6,hW6⟩:∃ W6,W6=W5.setCell ⟨w.heap.size+1,0,none⟩ (.bool ok):=⟨_,rfl⟩
  have g6:W6.heap[w.heap.size]? = some (.cells #[.int .i64 xe,.int .i64 xi,.int .i64 xj,.int .i64 xn,.int .i64 xd,.slice none 0 0] 28 (0,0)):=by rw [hW6];exact setCell_o (by omega) hR5
  have g7:Boxed W6 (w.heap.size+1) 4 (.bool ok):=by rw [hW6];exact hK5.set _
  have g8:Below w.heap.size w W6:=by rw [hW6];exact hB5.setCell (by show w.heap.size≤w.heap.size+1;omega) _
  rw [← hW6]
  clear hW6 a0 a1 a2 a3 a4 a5 f0 f1 f2 f3 f4 f5 e0 e1 q1 q2 fz hR5 hK5 hB5
  obtain ⟨⟨a0,a1,a2,a3,a4,a5⟩,fz⟩:=cells6 g6
  have f0:=fz 0
  have f1:=fz 1
  have f2:=fz 2
  have f3:=fz 3
  have f4:=fz 4
  have f5:=fz 5
  have e0:=g7.cell
  have e1:=g7.frozen
  gi_region
  gi_wp2
  exact read_end (r:=⟨xe,xi,xj,xn,xd,[]⟩) rfl rfl g6 g7 g8 hX rfl
theorem er_scan {n:Nat} {t:List Str} {w:World} {M:Nat→Prop} (hM:∀ b,M b→b<w.heap.size) (hg:Gd w) (hl:t.length≤1000000) (hs:∀ x∈t,x.length≤1000000) {v:Value} (hv:Rep w M (strs t) v) :
  CallsIn Fence.wide n Tryz.prog 45 #[v,.slice (some ⟨w.heap.size+3,0,none⟩) 1 1] (((rdW w).alloc (.cells #[.int .i64 0] 3)).alloc (.cells #[.iface 136 (.pointer (some ⟨w.heap.size+2,0,none⟩))] 20)) fun e w'=>e=.returned (.bool (erX t).2)∧w'.heap[w.heap.size]? = some (.cells (rpC rp0 (.slice none 0 0)) 28 (0,0))∧Boxed w' (w.heap.size+1) 4 (.bool false)∧Boxed w' (w.heap.size+2) 3 (.int .i64 (erX t).1)∧Below w.heap.size w w':=by
 obtain ⟨s1,s2,s3,s4⟩:=rdW_ok w
 obtain ⟨W,hW⟩:∃ W,W=(rdW w).alloc (.cells #[.int .i64 0] 3):=⟨_,rfl⟩
 have t1:W.heap.size=w.heap.size+3:=by rw [hW,World.size_alloc,s1]
 have t2:W.heap[w.heap.size+2]? = some (.cells #[.int .i64 0] 3 (0,0)):=by rw [hW,← s1];exact World.alloc_heap_new _ _
 have t3:Below (w.heap.size+2) (rdW w) W:=by rw [hW,← s1];exact (Below.refl _ _).alloc (Nat.le_refl _) _
 have t4:Below w.heap.size w W:=s4.trans (t3.mono (by omega))
 rw [← hW]
 clear hW
 have h:=scan_one (ts:=[.i (w.heap.size+2) 0]) (R:=w.heap.size+2) (n:=w.heap.size) (b:=(erX t).2) (by simp) (by simp [Tg.b]) hl (by simp) hs (gd_below t4 hg) t2 (by
  intro x hx
  obtain rfl:=List.mem_singleton.1 hx
  exact cel6 t2 (by decide)) (by have:=gd_size hg;omega) (by omega) (hv.mono (Holds.of_below t4) fun b hb e=>absurd e (by omega)) (fun hlen W' h=>erX_sc hlen W' h) (fun hlen=>by rw [erX_no hlen];exact ⟨rfl,rfl⟩)
 rw [t1] at h
 refine callsIn_wide.2 (h.mono ?_)
 rintro e w' ⟨rfl,h1,h2,h3⟩
 exact ⟨rfl,(h2 _ (by omega) (by omega)).trans ((t3.block _ (by omega)).trans s2),(h2 _ (by omega) (by omega)).trans ((t3.block _ (by omega)).trans s3),h1,t4.trans h3⟩
set_option maxRecDepth 100000 in
set_option maxHeartbeats 4000000 in
theorem read_er {n:Nat} (t:List Str) (hl:t.length≤1000000) (hs:∀ x∈t,x.length≤1000000) (w:World) (hg:Gd w) (M:Nat→Prop) (hM:∀ b,M b→b<w.heap.size) (v:Value) (hv:Rep w M (strs (wErr::t)) v) (hn:1≤n) :
  CallsIn Fence.wide n Tryz.prog 43 #[v] w fun e w'=>∃ u,e=.returned u∧DVR w' M (retRb (rpE (erX t).1) (erX t).2) u∧Below w.heap.size w w':=by
 obtain ⟨b,o,c,rfl,hc,hb,h0,r1,r2⟩:=read_arg hv
 have q1:=fun h=>er_scan (n:=n-1) hM hg hl hs (r1 h)
 have q2:=fun h=>er_scan (n:=n-1) hM hg hl hs (r2 h)
 clear r1 r2
 have hf1:Fence.wide.fn 45:=trivial
 have hX:=erX_in t
 generalize erX t=p at *
 obtain ⟨xe,ok⟩:=p
 simp only [rdW,rpC,rp0] at q1 q2 hX
 refine callsIn_of_wp_marks Tryz.func43 rfl trivial ?_ rfl
 simp only [Tryz.ntmps43,List.size_toArray,List.length_cons,List.length_nil,Nat.reduceAdd,Nat.reduceSub,Array.replicate_succ,Array.replicate_zero,List.push_toArray,List.append_toArray,List.nil_append,List.cons_append]
 gi_wp2_with (first
  | (gi_at_call 45;(first|with_reducible refine CallsIn.mono (q1 (by assumption)) ?_|with_reducible refine CallsIn.mono (q2 (by assumption)) ?_);rintro e W5 ⟨rfl,hR5,hK5,hN5,hB5⟩;have b0:=hN5.cell;have b1:=hN5.frozen;obtain ⟨⟨a0,a1,a2,a3,a4,a5⟩,fz⟩:=cells6 hR5;have f0:=fz 0;have f1:=fz 1;have f2:=fz 2;have f3:=fz 3;have f4:=fz 4;have f5:=fz 5;have e0:=hK5.cell;have e1:=hK5.frozen))
 all_goals
  obtain ⟨W6,hW6⟩:∃ W6,W6=(W5.setCell ⟨w.heap.size+1,0,none⟩ (.bool ok)).setCell ⟨w.heap.size,0,none⟩ (.int .i64 xe):=⟨_,rfl⟩
  have g6:W6.heap[w.heap.size]? = some (.cells #[.int .i64 xe,.int .i64 0,.int .i64 0,.int .i64 0,.int .i64 0,.slice none 0 0] 28 (0,0)):=by rw [hW6];exact set6 0 _ (setCell_o (by omega) hR5)
  have g7:Boxed W6 (w.heap.size+1) 4 (.bool ok):=by
   rw [hW6]
   have:=hK5.set (.bool ok)
   exact setCell_o (by omega) this
  have g8:Below w.heap.size w W6:=by rw [hW6];exact (hB5.setCell (by show w.heap.size≤w.heap.size+1;omega) _).setCell (Nat.le_refl _) _
  rw [← hW6]
  clear hW6 a0 a1 a2 a3 a4 a5 f0 f1 f2 f3 f4 f5 e0 e1 b0 b1 q1 q2 fz hR5 hK5 hN5 hB5
  obtain ⟨⟨a0,a1,a2,a3,a4,a5⟩,fz⟩:=cells6 g6
  have f0:=fz 0
  have f1:=fz 1
  have f2:=fz 2
  have f3:=fz 3
  have f4:=fz 4
  have f5:=fz 5
  have e0:=g7.cell
  have e1:=g7.frozen
  gi_region
  gi_wp2
  exact read_end (r:=rpE xe) rfl rfl g6 g7 g8 ⟨hX,in0,in0,in0,in0⟩ rfl
set_option maxRecDepth 100000 in
set_option maxHeartbeats 4000000 in
theorem read_no {n:Nat} (w0:Str) (t:List Str) (h1:w0≠wDone) (h2:w0≠wErr) (h3:w0≠wLeader) (h4:w0≠wPair) (h5:w0≠wMeet) (w:World) (M:Nat→Prop) (v:Value) (hv:Rep w M (strs (w0::t)) v) (hn:1≤n) :
  CallsIn Fence.wide n Tryz.prog 43 #[v] w fun e w'=>∃ u,e=.returned u∧DVR w' M (retRb rp0 false) u∧Below w.heap.size w w':=by
 obtain ⟨b,o,c,rfl,hc,hb,h0,r1,r2⟩:=read_arg hv
 clear r1 r2
 obtain ⟨s1,s2,s3,s4⟩:=rdW_ok w
 unfold rdW at s1 s2 s3 s4
 simp only [rpC,rp0] at s1 s2 s3 s4
 replace h1:(w0 == [100,111,110,101])=false:=beq_eq_false_iff_ne.2 h1
 replace h2:(w0 == [101,114,114,111,114])=false:=beq_eq_false_iff_ne.2 h2
 replace h3:(w0 == [108,101,97,100,101,114])=false:=beq_eq_false_iff_ne.2 h3
 replace h4:(w0 == [112,97,105,114])=false:=beq_eq_false_iff_ne.2 h4
 replace h5:(w0 == [109,101,101,116,105,110,103,115])=false:=beq_eq_false_iff_ne.2 h5
 refine callsIn_of_wp_marks Tryz.func43 rfl trivial ?_ rfl
 simp only [Tryz.ntmps43,List.size_toArray,List.length_cons,List.length_nil,Nat.reduceAdd,Nat.reduceSub,Array.replicate_succ,Array.replicate_zero,List.push_toArray,List.append_toArray,List.nil_append,List.cons_append]
 have hx:∀ W6:World,W6=(w.alloc (.cells #[.int .i64 0,.int .i64 0,.int .i64 0,.int .i64 0,.int .i64 0,.slice none 0 0] 28)).alloc (.cells #[.bool false] 4)→W6.heap[w.heap.size]? = some (.cells #[.int .i64 0,.int .i64 0,.int .i64 0,.int .i64 0,.int .i64 0,.slice none 0 0] 28 (0,0))∧Boxed W6 (w.heap.size+1) 4 (.bool false)∧Below w.heap.size w W6:=fun W6 e=>by subst e;exact ⟨s2,s3,s4⟩
 clear s1 s2 s3 s4
 gi_wp2
 all_goals
  obtain ⟨W6,hW6⟩:∃ W6,W6=(w.alloc (.cells #[.int .i64 0,.int .i64 0,.int .i64 0,.int .i64 0,.int .i64 0,.slice none 0 0] 28)).alloc (.cells #[.bool false] 4):=⟨_,rfl⟩
  obtain ⟨g6,g7,g8⟩:=hx W6 hW6
  rw [← hW6]
  clear hW6 hx
  obtain ⟨⟨a0,a1,a2,a3,a4,a5⟩,fz⟩:=cells6 g6
  have f0:=fz 0
  have f1:=fz 1
  have f2:=fz 2
  have f3:=fz 3
  have f4:=fz 4
  have f5:=fz 5
  have e0:=g7.cell
  have e1:=g7.frozen
  gi_region
  gi_wp2
  exact read_end (r:=rp0) rfl rfl g6 g7 g8 ⟨in0,in0,in0,in0,in0⟩ rfl
set_option maxRecDepth 100000 in
set_option maxHeartbeats 4000000 in
theorem read_dn {n:Nat} (t:List Str) (w:World) (M:Nat→Prop) (v:Value) (hv:Rep w M (strs (wDone::t)) v) (hn:1≤n) :
  CallsIn Fence.wide n Tryz.prog 43 #[v] w fun e w'=>∃ u,e=.returned u∧DVR w' M (retRb rp0 true) u∧Below w.heap.size w w':=by
 obtain ⟨b,o,c,rfl,hc,hb,h0,r1,r2⟩:=read_arg hv
 clear r1 r2
 have hd:(wDone == [100,111,110,101])=true:=by decide
 refine callsIn_of_wp_marks Tryz.func43 rfl trivial ?_ rfl
 simp only [Tryz.ntmps43,List.size_toArray,List.length_cons,List.length_nil,Nat.reduceAdd,Nat.reduceSub,Array.replicate_succ,Array.replicate_zero,List.push_toArray,List.append_toArray,List.nil_append,List.cons_append]
 gi_wp2
 refine read_end0 (r:=rp0) (ms:=.slice none 0 0) rfl rfl ?_ ?_ ?_ ⟨in0,in0,in0,in0,in0⟩ (rep_nil4 rfl)
 ·rw [Below.heap_alloc _ _ _ (by simp)];exact World.alloc_heap_new w _
 ·have:=World.alloc_heap_new (w.alloc (.cells (rpC rp0 (.slice none 0 0)) 28)) (.cells #[.bool true] 4)
  rwa [World.size_alloc] at this
 ·exact ((Below.refl _ _).alloc (Nat.le_refl _) _).alloc (by simp) _
end Go.Proofs.YtfkfficabeclcaaGreatDoor
